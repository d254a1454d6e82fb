/- strings.Join off the shelf, as a function on words. -/
import Derived.Shelf.Strings.OnBuilder
import Derived.Test.YthchlpikcpidaaaDoorFnBx
import Derived.Test.YthchlpikcpidaaaDoorBridge
namespace Go.Proofs.YthchlpikcpidaaaDoor.Vs
open Go.Shelf Go.RowKit
set_option linter.unusedVariables false
set_option maxRecDepth 100000
def Tryd.lays156_ren : Go.Shelf.Ren := ⟨fun | 156 => 28 | 165 => 40 | 166 => 41 | 169 => 42 | 240 => 56 | 241 => 57 | 276 => 66 | 277 => 67 | n => n, fun | 31 => 23 | 9 => 9 | 3 => 3 | 4 => 4 | 0 => 0 | 20 => 20 | 72 => 73 | 76 => 77 | 70 => 70 | 37 => 71 | 75 => 76 | 127 => 95 | 164 => 103 | 5 => 5 | 80 => 79 | n => n, fun | n => n⟩
theorem Tryd.lays156 : Go.Proofs.Lays.n156 Tryd.prog Tryd.lays156_ren := {
  mixed := by kernel_rfl
  f156 := Tryd.func28.trans (congrArg some (by kernel_rfl))
  f165 := Tryd.func40.trans (congrArg some (by kernel_rfl))
  f166 := Tryd.func41.trans (congrArg some (by kernel_rfl))
  f169 := Tryd.func42.trans (congrArg some (by kernel_rfl))
  f240 := Tryd.func56.trans (congrArg some (by kernel_rfl))
  f241 := Tryd.func57.trans (congrArg some (by kernel_rfl))
  f276 := Tryd.func66.trans (congrArg some (by kernel_rfl))
  f277 := Tryd.func67.trans (congrArg some (by kernel_rfl))
  t0 := Tryd.underlying0
  a0 := Tryd.isAgg0
  z0 := Tryd.sizeOf0
  v0 := Tryd.zeroValue0
  t3 := Tryd.underlying3
  a3 := Tryd.isAgg3
  z3 := Tryd.sizeOf3
  v3 := Tryd.zeroValue3
  t4 := Tryd.underlying4
  a4 := Tryd.isAgg4
  z4 := Tryd.sizeOf4
  v4 := Tryd.zeroValue4
  t9 := Tryd.underlying9
  a9 := Tryd.isAgg9
  z9 := Tryd.sizeOf9
  v9 := Tryd.zeroValue9
  t20 := Tryd.underlying20
  a20 := Tryd.isAgg20
  z20 := Tryd.sizeOf20
  v20 := Tryd.zeroValue20
  t31 := Tryd.underlying23
  a31 := Tryd.isAgg23
  z31 := Tryd.sizeOf23
  v31 := Tryd.zeroValue23
  t37 := Tryd.underlying71
  a37 := Tryd.isAgg71
  z37 := Tryd.sizeOf71
  v37 := Tryd.zeroValue71
  t70 := Tryd.underlying70
  a70 := Tryd.isAgg70
  z70 := Tryd.sizeOf70
  v70 := Tryd.zeroValue70
  t72 := Tryd.underlying73
  a72 := Tryd.isAgg73
  z72 := Tryd.sizeOf73
  v72 := Tryd.zeroValue73
  t75 := Tryd.underlying76
  a75 := Tryd.isAgg76
  z75 := Tryd.sizeOf76
  v75 := Tryd.zeroValue76
  t76 := Tryd.underlying77
  a76 := Tryd.isAgg77
  z76 := Tryd.sizeOf77
  v76 := Tryd.zeroValue77
  t127 := Tryd.underlying95
  a127 := Tryd.isAgg95
  z127 := Tryd.sizeOf95
  v127 := Tryd.zeroValue95
  t164 := Tryd.underlying103
  a164 := Tryd.isAgg103
  z164 := Tryd.sizeOf103
  v164 := Tryd.zeroValue103 }
theorem extra156 : Builder.Extra Tryd.prog Tryd.lays156_ren := {
  sizeBuilder := by kernel_rfl
  liesBuilder := by kernel_rfl
  t5 := (TI.out ti5).1
  a5 := Tryd.isAgg5
  z5 := Tryd.sizeOf5
  v5 := Tryd.zeroValue5
  infoByte := by kernel_rfl
  cellsByte := by kernel_rfl
  sizeByte := by kernel_rfl
  neB5 := by decide }
theorem join_len (sep : List UInt8) (hs : sep.length ≤ 16) : ∀ (xs : List (List UInt8)), (∀ x ∈ xs, x.length ≤ 16) → (Lib.join xs sep).length ≤ 32 * xs.length
  | [], _ => by simp [Lib.join]
  | [x], h => by
    have := h x (by simp)
    rw [Lib.join_one, List.length_cons, List.length_nil]
    omega
  | x :: y :: r, h => by
    have ih := join_len sep hs (y :: r) fun z hz => h z (List.mem_cons_of_mem _ hz)
    have h1 := h x (by simp)
    have : Lib.join (x :: y :: r) sep = x ++ (sep ++ Lib.join (y :: r) sep) := by simp [Lib.join, List.intercalate, List.intersperse]
    rw [this, List.length_append, List.length_append, List.length_cons]
    omega
def keyB (w : Wd) (sep : ByteArray) : ByteArray := ⟨(Lib.join (w.map (·.data.toList)) sep.data.toList).toArray⟩
theorem cell_facts {w : World} {a : Addr} {v : Value} (h : w.cell? a = some v) : a.spot = none ∧ a.block < w.heap.size := by
  unfold World.cell? at h
  split at h
  · rename_i hb
    split at h
    · cases h
    · rename_i hsp
      refine ⟨by simpa using hsp, ?_⟩
      have := hb
      rw [Array.getElem?_eq_some_iff] at this
      exact this.1
  · cases h
theorem join_c (w : Wd) (sep : ByteArray) (h60 : w.length ≤ 60) (h16 : ∀ s ∈ w, s.size ≤ 16) (hsep : sep.size ≤ 16) : Fn Zs 28 [encSS w, .str sep] (.str (keyB w sep)) := by
  have hlen : (Lib.join (w.map (·.data.toList)) sep.data.toList).length ≤ 1920 := by
    have := join_len sep.data.toList (by simpa using hsep) (w.map (·.data.toList)) fun x hx => by
      obtain ⟨s, hs, rfl⟩ := List.mem_map.1 hx
      simpa using h16 s hs
    rw [List.length_map] at this
    omega
  obtain ⟨fn, c, hf, hb, _, _, _, hn, _⟩ := ok28.ok
  refine fn_below (Z := Zs) ⟨fn, hf, by rw [hb]; rfl, hn⟩ fun W s vs hv hW => ?_
  obtain ⟨v0, v1, rfl⟩ : ∃ a b, vs = #[a, b] := by
    obtain ⟨l⟩ := vs
    match l, hv.1 with
    | [a, b], _ => exact ⟨a, b, rfl⟩
  have e0 : V W (Lim s) v0 (encSS w) := hv.2 0 (by simp)
  have e1 : V W (Lim s) v1 (.str sep) := hv.2 1 (by simp)
  refine ⟨.string (keyB w sep), fun w' => .str _ ?_, ?_⟩
  · show (Lib.join _ _).toArray.size ≤ big
    rw [List.size_toArray]
    simp only [big]; omega
  · cases e1 with
    | str _ hs =>
    unfold encSS at e0
    cases e0 with
    | sl o n c A cs us hn hb ho h1 hc hvv =>
    have hu : ∀ i (h : i < w.length), us i = .string w[i] := fun i h => by
      have := hvv i (by simpa using h)
      simp only [List.getElem_map] at this
      generalize us i = u at this
      cases this
      rfl
    by_cases h0 : w.length = 0
    · have hw : w = [] := List.eq_nil_of_length_eq_zero h0
      subst hw
      exact (Any.strings_Join_none Tryd.lays156 extra156 A c sep W).mono fun e w' ⟨he, hw⟩ => ⟨he, hw ▸ Below.refl _ _⟩
    · obtain ⟨a, rfl, hc0, _⟩ := hc 0 (by simp; omega)
      obtain ⟨hsp, hlt⟩ := cell_facts hc0
      have hcells : ∀ (j : Nat) x, w[j]? = some x → W.cell? ⟨a.block, a.off + j, none⟩ = some (.string x) := fun j x hj => by
        obtain ⟨hj', rfl⟩ := List.getElem?_eq_some_iff.1 hj
        obtain ⟨a', ha', hcj, _⟩ := hc j (by simpa using hj')
        cases ha'
        rw [hu j hj'] at hcj
        rw [← hcj]
        cases a
        subst hsp
        congr 1
        unfold Addr.add
        split
        · rename_i h; subst h; rfl
        · rfl
      have := Any.strings_Join Tryd.lays156 extra156 a.block a.off c w sep W hcells hlt (by omega) hn (by omega)
      have ha : a = ⟨a.block, a.off, none⟩ := by cases a; subst hsp; rfl
      rw [ha]
      exact this
end Go.Proofs.YthchlpikcpidaaaDoor.Vs
