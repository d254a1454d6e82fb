/- From a value's law to the row's walk. -/
import Derived.Test.YtldlcejlfaogbaaGreatDoorFnC
import Derived.SliceStrings
import Derived.Deep.SlicePairs
import Derived.Below
namespace Go.Proofs.YtldlcejlfaogbaaGreatDoor.Vs
open Go.RowKit
set_option linter.unusedVariables false
set_option linter.unusedSimpArgs false
def gz : GH := ⟨Heap.nil, fun _ => ⟨0, 0, 0⟩⟩
theorem Free_nil (b : Nat) : Free gz b := fun r x h => by cases h
theorem W_nil (w : World) (ht : TabIn w) : W gz w := ⟨fun r o h => (by cases h), fun r o h => (by cases h), fun r q o p h => (by cases h), fun x hx => ⟨ht x hx, Free_nil _⟩⟩
theorem Ext_below {w w' : World} {s' : GH} (h : Ext w gz w' s') : Below w.heap.size w w' :=
  ⟨h.os, h.tape, h.output, h.size, fun k hk => h.blk k hk (Free_nil k)⟩
theorem fn_walk {Z : Sys} {f : FuncId} {ds : List D} {b : Bool} (h : Fn Z f ds (.bool b)) {w : World} {vs : Array Value} (hv : VL w gz vs ds) (ht : TabIn w := by intro x hx; cases hx) :
    Calls Z.P f vs w fun e w' => e = .returned (.bool b) ∧ Below w.heap.size w w' := by
  refine ((h Heap.nil).2 w gz vs rfl hv (W_nil w ht)).mono fun e w' ⟨v, d, s', h1, h2, h3, h4, h5, h6⟩ => ?_
  subst h5
  cases h2
  exact ⟨h1, Ext_below h4⟩
/-- A contract of the library, as a call that comes to one value. -/
theorem fn_below {Z : Sys} {f : FuncId} {ds : List D} {d : D} (hf : ∃ fn, Z.P.funcs[f]? = some fn ∧ fn.body.isNone = false ∧ (fn.name == "runtime.NumGoroutine") = false)
    (h : ∀ w s vs, VL w s vs ds → W s w → ∃ v, (∀ w', V w' (Lim s) v d) ∧ Calls Z.P f vs w fun e w' => e = .returned v ∧ Below w.heap.size w w') : Fn Z f ds d := fun σ =>
  ⟨hf, fun w s vs hs hv hW => by
    obtain ⟨v, h1, h2⟩ := h w s vs hv hW
    exact h2.mono fun e w' ⟨he, hb⟩ => ⟨v, d, s, he, h1 w', hW.of_below hb, Ext.of_below hW hb, rfl, hs⟩⟩

theorem Lim_nil (b o : Nat) : (Lim gz).ok b o := fun r x h => by cases h
/-- A row of texts, read in memory, stands for its list. -/
theorem V_strs {w : World} {a : Option Addr} {len cap : Nat} {l : List ByteArray} (hl : l.length = len) (h : (a = none ∧ len = 0) ∨ ∃ x, a = some x ∧ ∀ i, i < len → w.cell? (x.add i) = some (.string (l.getD i ByteArray.empty))) (hc : len ≤ cap) (hb : cap ≤ big) (hs : ∀ s ∈ l, s.size ≤ big) :
    V w (Lim gz) (.slice a len cap) (encSS l) := by
  subst hl
  refine .sl .no _ _ a (l.map .str) (fun i => .string (l.getD i ByteArray.empty)) hc hb ?_ (fun i hi => rfl) (fun i hi => ?_) (fun i hi => ?_)
  · intro ha
    rcases h with ⟨_, h0⟩ | ⟨x, hx, _⟩
    · exact h0
    · rw [ha] at hx; cases hx
  · have hi' : i < l.length := by simpa using hi
    rcases h with ⟨_, h0⟩ | ⟨x, hx, hcell⟩
    · omega
    · exact ⟨x, hx, hcell i hi', Lim_nil _ _⟩
  · have hi' : i < l.length := by simpa using hi
    simp only [List.getElem_map, List.getD_eq_getElem?_getD, List.getElem?_eq_getElem hi', Option.getD_some]
    exact .str _ (hs _ (List.getElem_mem hi'))

section
variable {H : Type} {enc : TypeId × Value → H} {P : Program} {w : World}
theorem maxLen_big : maxLen ≤ big := by decide
/-- A value that reads as a slice of texts stands for a list of them. -/
theorem read_strs {t e : TypeId} {fuel : Nat} {v : Value} {x : DataW H × List MemPlace} (ht : P.underlying t = some (.slice e)) (he : P.underlying e = some .string) (hc : P.cellsOf e = 1)
    (h : DataW.trod enc P w 0 (fun _ => true) true fuel t [v] = some x) : ∃ l : Wd, V w (Lim gz) v (encSS l) := by
  rcases Go.ChangeShapes.open_strings ht he hc h with ⟨h1, _⟩ | ⟨a, len, cap, ss, h1, _, hl, hm, hlen, _, hcell, hs⟩
  · simp only [List.cons.injEq, and_true] at h1
    subst h1
    exact ⟨[], V_strs rfl (.inl ⟨rfl, rfl⟩) (Nat.le_refl _) (Nat.zero_le _) (fun s hs => by cases hs)⟩
  · simp only [List.cons.injEq, and_true] at h1
    subst h1
    simp only [if_true] at hlen
    refine ⟨ss.take len, V_strs (by simp; omega) (.inr ⟨a, rfl, fun i hi => ?_⟩) hl (Nat.le_trans hm maxLen_big) (fun s hs' => Nat.le_trans (hs s (List.mem_of_mem_take hs')) maxLen_big)⟩
    rw [hcell i (by omega)]
    congr 2
    simp [List.getD_eq_getElem?_getD, List.getElem?_take, hi]
theorem lists_of {n : Nat} {p : Nat → Wd → Prop} (h : ∀ i, i < n → ∃ l, p i l) : ∃ ls : List Wd, ls.length = n ∧ ∀ i (hi : i < ls.length), p i ls[i] := by
  induction n with
  | zero => exact ⟨[], rfl, fun i hi => by cases hi⟩
  | succ n ih =>
    obtain ⟨ls, h1, h2⟩ := ih fun i hi => h i (by omega)
    obtain ⟨l, hl⟩ := h n (by omega)
    refine ⟨ls ++ [l], by simp [h1], fun i hi => ?_⟩
    by_cases hin : i < ls.length
    · rw [List.getElem_append_left hin]; exact h2 i hin
    · have : i = n := by simp at hi; omega
      subst this
      rw [List.getElem_append_right (by omega)]
      simpa [h1] using hl
theorem rowsD_get : ∀ (t : List Sh) (i : Nat) (h : i < t.length), (rowsD t)[i * 2]? = some (encSS t[i].From) ∧ (rowsD t)[i * 2 + 1]? = some (encSS t[i].To) := fun t i h => by
  have hd := rowsD_at h
  have e0 := congrArg (fun l => l[0]?) hd
  have e1 := congrArg (fun l => l[1]?) hd
  simp only [List.getElem?_drop, List.getElem?_cons_zero, List.getElem?_cons_succ, Nat.add_zero] at e0 e1
  exact ⟨e0, e1⟩

/-- A value that reads as a slice of pairs of slices of texts stands for a table. -/
theorem read_table {t e : TypeId} {f0 f1 : Field} {s : TypeId} {fuel : Nat} {v : Value} {x : DataW H × List MemPlace} (ht : P.underlying t = some (.slice e)) (he : P.underlying e = some (.struct #[f0, f1]))
    (ce : P.cellsOf e = 2) (o0 : f0.offset = 0) (o1 : f1.offset = 1) (c0 : P.cellsOf f0.type = 1) (c1 : P.cellsOf f1.type = 1)
    (u0 : P.underlying f0.type = some (.slice s)) (u1 : P.underlying f1.type = some (.slice s)) (us : P.underlying s = some .string) (cs : P.cellsOf s = 1)
    (h : DataW.trod enc P w 0 (fun _ => true) true fuel t [v] = some x) : ∃ l : List Sh, V w (Lim gz) v (encT l) := by
  rcases Go.Deep.open_slice_pairs ht he ce o0 o1 c0 c1 h with ⟨h1, _⟩ | ⟨a, len, cap, m, n, V0, V1, D0, D1, P0, P1, h1, _, hl, hm, hmm, _, hx⟩
  · simp only [List.cons.injEq, and_true] at h1
    subst h1
    exact ⟨[], .sl .no 0 0 none [] (fun _ => undef) (Nat.le_refl _) (Nat.zero_le _) (fun _ => rfl) (fun i hi => by cases hi) (fun i hi => by cases hi) (fun i hi => by cases hi)⟩
  · simp only [List.cons.injEq, and_true] at h1
    subst h1
    simp only [if_true] at hmm
    have r0 : ∀ i, i < len → ∃ l : Wd, V w (Lim gz) (V0 i) (encSS l) := fun i hi => read_strs u0 us cs (hx i (by omega)).2.2.1
    have r1 : ∀ i, i < len → ∃ l : Wd, V w (Lim gz) (V1 i) (encSS l) := fun i hi => read_strs u1 us cs (hx i (by omega)).2.2.2
    obtain ⟨l0, n0, g0⟩ := lists_of r0
    obtain ⟨l1, n1, g1⟩ := lists_of r1
    obtain ⟨T, hlen, hat⟩ : ∃ T : List Sh, ∃ hlen : T.length = len, ∀ i (hi : i < len), T[i]'(by omega) = ⟨l0[i]'(by omega), l1[i]'(by omega)⟩ :=
      ⟨(List.range len).map fun i => (⟨l0.getD i [], l1.getD i []⟩ : Sh), by simp, fun i hi => by
        simp [List.getD_eq_getElem?_getD, List.getElem?_eq_getElem (show i < l0.length by omega), List.getElem?_eq_getElem (show i < l1.length by omega)]⟩
    refine ⟨T, ?_⟩
    have hcell : ∀ i, i < (rowsD T).length → ∃ u, w.cell? (a.add i) = some u ∧ u.oneCell' = true ∧ ∀ (hi : i < (rowsD T).length), V w (Lim gz) u (rowsD T)[i] := fun i hi => by
      rw [rowsD_len, hlen] at hi
      have hq : i / 2 < len := by omega
      have hg := rowsD_get T (i / 2) (by omega)
      have hv0 := g0 (i / 2) (by omega)
      have hv1 := g1 (i / 2) (by omega)
      have hc := hx (i / 2) (by omega)
      rcases Nat.mod_two_eq_zero_or_one i with h2 | h2
      · have hi2 : i / 2 * 2 = i := by omega
        rw [hi2] at hg hc
        refine ⟨_, hc.1, (hv0.one rfl).1, fun hi => ?_⟩
        have := hg.1
        rw [List.getElem?_eq_getElem hi] at this
        rw [Option.some.inj this, hat _ hq]
        exact hv0
      · have hi2 : i / 2 * 2 + 1 = i := by omega
        rw [hi2] at hg hc
        refine ⟨_, hc.2.1, (hv1.one rfl).1, fun hi => ?_⟩
        have := hg.2
        rw [List.getElem?_eq_getElem hi] at this
        rw [Option.some.inj this, hat _ hq]
        exact hv1
    have hne : len = T.length := hlen.symm
    rw [hne] at hl ⊢
    refine .sl .no _ cap (some a) (rowsD T) (fun i => (w.cell? (a.add i)).getD undef) hl (Nat.le_trans hm maxLen_big) (fun hA => by cases hA) (fun i hi => ?_) (fun i hi => ?_) (fun i hi => ?_)
    · obtain ⟨u, hu, ho, _⟩ := hcell i hi; simp [hu, ho]
    · obtain ⟨u, hu, _⟩ := hcell i hi; exact ⟨a, rfl, by simp [hu], Lim_nil _ _⟩
    · obtain ⟨u, hu, _, hv⟩ := hcell i hi; simp only [hu, Option.getD_some]; exact hv hi
end
end Go.Proofs.YtldlcejlfaogbaaGreatDoor.Vs
