/- strings.Join off the shelf, as a function on words. -/
import Derived.Shelf.Strings.OnBuilder
import Derived.Test.YtldlcejlfaogbaaGreatDoorFnBx
import Derived.Test.YtldlcejlfaogbaaGreatDoorBridge
namespace Go.Proofs.YtldlcejlfaogbaaGreatDoor.Vs
open Go.Shelf Go.RowKit
set_option linter.unusedVariables false
set_option maxRecDepth 100000
def Tryz.lays156_ren : Go.Shelf.Ren := ⟨fun | 156 => 99 | 165 => 147 | 166 => 122 | 169 => 124 | 240 => 162 | 241 => 181 | 276 => 189 | 277 => 208 | n => n, fun | 31 => 23 | 9 => 9 | 3 => 3 | 4 => 4 | 0 => 0 | 20 => 20 | 72 => 176 | 76 => 179 | 70 => 173 | 37 => 174 | 75 => 178 | 127 => 214 | 164 => 233 | 5 => 5 | 80 => 181 | n => n, fun | n => n⟩
theorem Tryz.lays156 : Go.Proofs.Lays.n156 Tryz.prog Tryz.lays156_ren := {
  mixed := by kernel_rfl
  f156 := Tryz.func99.trans (congrArg some (by kernel_rfl))
  f165 := Tryz.func147.trans (congrArg some (by kernel_rfl))
  f166 := Tryz.func122.trans (congrArg some (by kernel_rfl))
  f169 := Tryz.func124.trans (congrArg some (by kernel_rfl))
  f240 := Tryz.func162.trans (congrArg some (by kernel_rfl))
  f241 := Tryz.func181.trans (congrArg some (by kernel_rfl))
  f276 := Tryz.func189.trans (congrArg some (by kernel_rfl))
  f277 := Tryz.func208.trans (congrArg some (by kernel_rfl))
  t0 := Tryz.underlying0
  a0 := Tryz.isAgg0
  z0 := Tryz.sizeOf0
  v0 := Tryz.zeroValue0
  t3 := Tryz.underlying3
  a3 := Tryz.isAgg3
  z3 := Tryz.sizeOf3
  v3 := Tryz.zeroValue3
  t4 := Tryz.underlying4
  a4 := Tryz.isAgg4
  z4 := Tryz.sizeOf4
  v4 := Tryz.zeroValue4
  t9 := Tryz.underlying9
  a9 := Tryz.isAgg9
  z9 := Tryz.sizeOf9
  v9 := Tryz.zeroValue9
  t20 := Tryz.underlying20
  a20 := Tryz.isAgg20
  z20 := Tryz.sizeOf20
  v20 := Tryz.zeroValue20
  t31 := Tryz.underlying23
  a31 := Tryz.isAgg23
  z31 := Tryz.sizeOf23
  v31 := Tryz.zeroValue23
  t37 := Tryz.underlying174
  a37 := Tryz.isAgg174
  z37 := Tryz.sizeOf174
  v37 := Tryz.zeroValue174
  t70 := Tryz.underlying173
  a70 := Tryz.isAgg173
  z70 := Tryz.sizeOf173
  v70 := Tryz.zeroValue173
  t72 := Tryz.underlying176
  a72 := Tryz.isAgg176
  z72 := Tryz.sizeOf176
  v72 := Tryz.zeroValue176
  t75 := Tryz.underlying178
  a75 := Tryz.isAgg178
  z75 := Tryz.sizeOf178
  v75 := Tryz.zeroValue178
  t76 := Tryz.underlying179
  a76 := Tryz.isAgg179
  z76 := Tryz.sizeOf179
  v76 := Tryz.zeroValue179
  t127 := Tryz.underlying214
  a127 := Tryz.isAgg214
  z127 := Tryz.sizeOf214
  v127 := Tryz.zeroValue214
  t164 := Tryz.underlying233
  a164 := Tryz.isAgg233
  z164 := Tryz.sizeOf233
  v164 := Tryz.zeroValue233 }
theorem extra156 : Builder.Extra Tryz.prog Tryz.lays156_ren := {
  sizeBuilder := by kernel_rfl
  liesBuilder := by kernel_rfl
  t5 := (TI.out ti5).1
  a5 := Tryz.isAgg5
  z5 := Tryz.sizeOf5
  v5 := Tryz.zeroValue5
  infoByte := by kernel_rfl
  cellsByte := by kernel_rfl
  sizeByte := by kernel_rfl
  neB5 := by decide }
theorem join_len (sep : List UInt8) (hs : sep.length ≤ 16) : ∀ (xs : List (List UInt8)), (∀ x ∈ xs, x.length ≤ 16) → (Lib.join xs sep).length ≤ 32 * xs.length
  | [], _ => by simp [Lib.join]
  | [x], h => by
    have := h x (by simp)
    rw [Lib.join_one, List.length_cons, List.length_nil]
    omega
  | x :: y :: r, h => by
    have ih := join_len sep hs (y :: r) fun z hz => h z (List.mem_cons_of_mem _ hz)
    have h1 := h x (by simp)
    have : Lib.join (x :: y :: r) sep = x ++ (sep ++ Lib.join (y :: r) sep) := by simp [Lib.join, List.intercalate, List.intersperse]
    rw [this, List.length_append, List.length_append, List.length_cons]
    omega
def keyB (w : Wd) (sep : ByteArray) : ByteArray := ⟨(Lib.join (w.map (·.data.toList)) sep.data.toList).toArray⟩
theorem cell_facts {w : World} {a : Addr} {v : Value} (h : w.cell? a = some v) : a.spot = none ∧ a.block < w.heap.size := by
  unfold World.cell? at h
  split at h
  · rename_i hb
    split at h
    · cases h
    · rename_i hsp
      refine ⟨by simpa using hsp, ?_⟩
      have := hb
      rw [Array.getElem?_eq_some_iff] at this
      exact this.1
  · cases h
theorem join_c (w : Wd) (sep : ByteArray) (h60 : w.length ≤ 60) (h16 : ∀ s ∈ w, s.size ≤ 16) (hsep : sep.size ≤ 16) : Fn Zs 99 [encSS w, .str sep] (.str (keyB w sep)) := by
  have hlen : (Lib.join (w.map (·.data.toList)) sep.data.toList).length ≤ 1920 := by
    have := join_len sep.data.toList (by simpa using hsep) (w.map (·.data.toList)) fun x hx => by
      obtain ⟨s, hs, rfl⟩ := List.mem_map.1 hx
      simpa using h16 s hs
    rw [List.length_map] at this
    omega
  obtain ⟨fn, c, hf, hb, _, _, _, hn, _⟩ := ok99.ok
  refine fn_below (Z := Zs) ⟨fn, hf, by rw [hb]; rfl, hn⟩ fun W s vs hv hW => ?_
  obtain ⟨v0, v1, rfl⟩ : ∃ a b, vs = #[a, b] := by
    obtain ⟨l⟩ := vs
    match l, hv.1 with
    | [a, b], _ => exact ⟨a, b, rfl⟩
  have e0 : V W (Lim s) v0 (encSS w) := hv.2 0 (by simp)
  have e1 : V W (Lim s) v1 (.str sep) := hv.2 1 (by simp)
  refine ⟨.string (keyB w sep), fun w' => .str _ ?_, ?_⟩
  · show (Lib.join _ _).toArray.size ≤ big
    rw [List.size_toArray]
    simp only [big]; omega
  · cases e1 with
    | str _ hs =>
    unfold encSS at e0
    cases e0 with
    | sl o n c A cs us hn hb ho h1 hc hvv =>
    have hu : ∀ i (h : i < w.length), us i = .string w[i] := fun i h => by
      have := hvv i (by simpa using h)
      simp only [List.getElem_map] at this
      generalize us i = u at this
      cases this
      rfl
    by_cases h0 : w.length = 0
    · have hw : w = [] := List.eq_nil_of_length_eq_zero h0
      subst hw
      exact (Any.strings_Join_none Tryz.lays156 extra156 A c sep W).mono fun e w' ⟨he, hw⟩ => ⟨he, hw ▸ Below.refl _ _⟩
    · obtain ⟨a, rfl, hc0, _⟩ := hc 0 (by simp; omega)
      obtain ⟨hsp, hlt⟩ := cell_facts hc0
      have hcells : ∀ (j : Nat) x, w[j]? = some x → W.cell? ⟨a.block, a.off + j, none⟩ = some (.string x) := fun j x hj => by
        obtain ⟨hj', rfl⟩ := List.getElem?_eq_some_iff.1 hj
        obtain ⟨a', ha', hcj, _⟩ := hc j (by simpa using hj')
        cases ha'
        rw [hu j hj'] at hcj
        rw [← hcj]
        cases a
        subst hsp
        congr 1
        unfold Addr.add
        split
        · rename_i h; subst h; rfl
        · rfl
      have := Any.strings_Join Tryz.lays156 extra156 a.block a.off c w sep W hcells hlt (by omega) hn (by omega)
      have ha : a = ⟨a.block, a.off, none⟩ := by cases a; subst hsp; rfl
      rw [ha]
      exact this
end Go.Proofs.YtldlcejlfaogbaaGreatDoor.Vs
