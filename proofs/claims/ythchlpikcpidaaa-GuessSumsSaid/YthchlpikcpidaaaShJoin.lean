/- strings.Join off the shelf, as a function on words. -/
import Derived.Shelf.Strings.OnBuilder
import Derived.Test.YthchlpikcpidaaaFnBx
import Derived.Test.YthchlpikcpidaaaBridge
namespace Go.Proofs.Ythchlpikcpidaaa.Vs
open Go.Shelf Go.RowKit
set_option linter.unusedVariables false
set_option maxRecDepth 100000
def Try.lays156_ren : Go.Shelf.Ren := ⟨fun | 156 => 53 | 165 => 63 | 166 => 64 | 169 => 65 | 240 => 81 | 241 => 82 | 276 => 90 | 277 => 91 | n => n, fun | 31 => 23 | 9 => 9 | 3 => 3 | 4 => 4 | 0 => 0 | 20 => 20 | 72 => 95 | 76 => 99 | 70 => 92 | 37 => 93 | 75 => 98 | 127 => 117 | 164 => 124 | 5 => 5 | 80 => 101 | n => n, fun | n => n⟩
theorem Try.lays156 : Go.Proofs.Lays.n156 Try.prog Try.lays156_ren := {
  mixed := by kernel_rfl
  f156 := Try.func53.trans (congrArg some (by kernel_rfl))
  f165 := Try.func63.trans (congrArg some (by kernel_rfl))
  f166 := Try.func64.trans (congrArg some (by kernel_rfl))
  f169 := Try.func65.trans (congrArg some (by kernel_rfl))
  f240 := Try.func81.trans (congrArg some (by kernel_rfl))
  f241 := Try.func82.trans (congrArg some (by kernel_rfl))
  f276 := Try.func90.trans (congrArg some (by kernel_rfl))
  f277 := Try.func91.trans (congrArg some (by kernel_rfl))
  t0 := Try.underlying0
  a0 := Try.isAgg0
  z0 := Try.sizeOf0
  v0 := Try.zeroValue0
  t3 := Try.underlying3
  a3 := Try.isAgg3
  z3 := Try.sizeOf3
  v3 := Try.zeroValue3
  t4 := Try.underlying4
  a4 := Try.isAgg4
  z4 := Try.sizeOf4
  v4 := Try.zeroValue4
  t9 := Try.underlying9
  a9 := Try.isAgg9
  z9 := Try.sizeOf9
  v9 := Try.zeroValue9
  t20 := Try.underlying20
  a20 := Try.isAgg20
  z20 := Try.sizeOf20
  v20 := Try.zeroValue20
  t31 := Try.underlying23
  a31 := Try.isAgg23
  z31 := Try.sizeOf23
  v31 := Try.zeroValue23
  t37 := Try.underlying93
  a37 := Try.isAgg93
  z37 := Try.sizeOf93
  v37 := Try.zeroValue93
  t70 := Try.underlying92
  a70 := Try.isAgg92
  z70 := Try.sizeOf92
  v70 := Try.zeroValue92
  t72 := Try.underlying95
  a72 := Try.isAgg95
  z72 := Try.sizeOf95
  v72 := Try.zeroValue95
  t75 := Try.underlying98
  a75 := Try.isAgg98
  z75 := Try.sizeOf98
  v75 := Try.zeroValue98
  t76 := Try.underlying99
  a76 := Try.isAgg99
  z76 := Try.sizeOf99
  v76 := Try.zeroValue99
  t127 := Try.underlying117
  a127 := Try.isAgg117
  z127 := Try.sizeOf117
  v127 := Try.zeroValue117
  t164 := Try.underlying124
  a164 := Try.isAgg124
  z164 := Try.sizeOf124
  v164 := Try.zeroValue124 }
theorem extra156 : Builder.Extra Try.prog Try.lays156_ren := {
  sizeBuilder := by kernel_rfl
  liesBuilder := by kernel_rfl
  t5 := (TI.out ti5).1
  a5 := Try.isAgg5
  z5 := Try.sizeOf5
  v5 := Try.zeroValue5
  infoByte := by kernel_rfl
  cellsByte := by kernel_rfl
  sizeByte := by kernel_rfl
  neB5 := by decide }
theorem join_len (sep : List UInt8) (hs : sep.length ≤ 16) : ∀ (xs : List (List UInt8)), (∀ x ∈ xs, x.length ≤ 16) → (Lib.join xs sep).length ≤ 32 * xs.length
  | [], _ => by simp [Lib.join]
  | [x], h => by
    have := h x (by simp)
    rw [Lib.join_one, List.length_cons, List.length_nil]
    omega
  | x :: y :: r, h => by
    have ih := join_len sep hs (y :: r) fun z hz => h z (List.mem_cons_of_mem _ hz)
    have h1 := h x (by simp)
    have : Lib.join (x :: y :: r) sep = x ++ (sep ++ Lib.join (y :: r) sep) := by simp [Lib.join, List.intercalate, List.intersperse]
    rw [this, List.length_append, List.length_append, List.length_cons]
    omega
def keyB (w : Wd) (sep : ByteArray) : ByteArray := ⟨(Lib.join (w.map (·.data.toList)) sep.data.toList).toArray⟩
theorem cell_facts {w : World} {a : Addr} {v : Value} (h : w.cell? a = some v) : a.spot = none ∧ a.block < w.heap.size := by
  unfold World.cell? at h
  split at h
  · rename_i hb
    split at h
    · cases h
    · rename_i hsp
      refine ⟨by simpa using hsp, ?_⟩
      have := hb
      rw [Array.getElem?_eq_some_iff] at this
      exact this.1
  · cases h
theorem join_c (w : Wd) (sep : ByteArray) (h60 : w.length ≤ 60) (h16 : ∀ s ∈ w, s.size ≤ 16) (hsep : sep.size ≤ 16) : Fn Zs 53 [encSS w, .str sep] (.str (keyB w sep)) := by
  have hlen : (Lib.join (w.map (·.data.toList)) sep.data.toList).length ≤ 1920 := by
    have := join_len sep.data.toList (by simpa using hsep) (w.map (·.data.toList)) fun x hx => by
      obtain ⟨s, hs, rfl⟩ := List.mem_map.1 hx
      simpa using h16 s hs
    rw [List.length_map] at this
    omega
  obtain ⟨fn, c, hf, hb, _, _, _, hn, _⟩ := ok53.ok
  refine fn_below (Z := Zs) ⟨fn, hf, by rw [hb]; rfl, hn⟩ fun W s vs hv hW => ?_
  obtain ⟨v0, v1, rfl⟩ : ∃ a b, vs = #[a, b] := by
    obtain ⟨l⟩ := vs
    match l, hv.1 with
    | [a, b], _ => exact ⟨a, b, rfl⟩
  have e0 : V W (Lim s) v0 (encSS w) := hv.2 0 (by simp)
  have e1 : V W (Lim s) v1 (.str sep) := hv.2 1 (by simp)
  refine ⟨.string (keyB w sep), fun w' => .str _ ?_, ?_⟩
  · show (Lib.join _ _).toArray.size ≤ big
    rw [List.size_toArray]
    simp only [big]; omega
  · cases e1 with
    | str _ hs =>
    unfold encSS at e0
    cases e0 with
    | sl o n c A cs us hn hb ho h1 hc hvv =>
    have hu : ∀ i (h : i < w.length), us i = .string w[i] := fun i h => by
      have := hvv i (by simpa using h)
      simp only [List.getElem_map] at this
      generalize us i = u at this
      cases this
      rfl
    by_cases h0 : w.length = 0
    · have hw : w = [] := List.eq_nil_of_length_eq_zero h0
      subst hw
      exact (Any.strings_Join_none Try.lays156 extra156 A c sep W).mono fun e w' ⟨he, hw⟩ => ⟨he, hw ▸ Below.refl _ _⟩
    · obtain ⟨a, rfl, hc0, _⟩ := hc 0 (by simp; omega)
      obtain ⟨hsp, hlt⟩ := cell_facts hc0
      have hcells : ∀ (j : Nat) x, w[j]? = some x → W.cell? ⟨a.block, a.off + j, none⟩ = some (.string x) := fun j x hj => by
        obtain ⟨hj', rfl⟩ := List.getElem?_eq_some_iff.1 hj
        obtain ⟨a', ha', hcj, _⟩ := hc j (by simpa using hj')
        cases ha'
        rw [hu j hj'] at hcj
        rw [← hcj]
        cases a
        subst hsp
        congr 1
        unfold Addr.add
        split
        · rename_i h; subst h; rfl
        · rfl
      have := Any.strings_Join Try.lays156 extra156 a.block a.off c w sep W hcells hlt (by omega) hn (by omega)
      have ha : a = ⟨a.block, a.off, none⟩ := by cases a; subst hsp; rfl
      rw [ha]
      exact this
end Go.Proofs.Ythchlpikcpidaaa.Vs
