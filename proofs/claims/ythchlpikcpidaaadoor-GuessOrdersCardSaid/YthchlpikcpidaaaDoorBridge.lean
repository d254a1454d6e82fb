/- From a value's law to the row's walk. -/
import Derived.Test.YthchlpikcpidaaaDoorFnC
import Derived.SliceStrings
import Derived.Deep.SlicePairs
import Derived.Below
namespace Go.Proofs.YthchlpikcpidaaaDoor.Vs
open Go.RowKit
set_option linter.unusedVariables false
set_option linter.unusedSimpArgs false
def gz : GH := ⟨Heap.nil, fun _ => ⟨0, 0, 0⟩⟩
theorem Free_nil (b : Nat) : Free gz b := fun r x h => by cases h
theorem W_nil (w : World) (ht : TabIn w) : W gz w := ⟨fun r o h => (by cases h), fun r o h => (by cases h), fun r q o p h => (by cases h), fun x hx => ⟨ht x hx, Free_nil _⟩⟩
theorem Ext_below {w w' : World} {s' : GH} (h : Ext w gz w' s') : Below w.heap.size w w' :=
  ⟨h.os, h.tape, h.output, h.size, fun k hk => h.blk k hk (Free_nil k)⟩
theorem fn_walk {Z : Sys} {f : FuncId} {ds : List D} {b : Bool} (h : Fn Z f ds (.bool b)) {w : World} {vs : Array Value} (hv : VL w gz vs ds) (ht : TabIn w := by intro x hx; cases hx) :
    Calls Z.P f vs w fun e w' => e = .returned (.bool b) ∧ Below w.heap.size w w' := by
  refine ((h Heap.nil).2 w gz vs rfl hv (W_nil w ht)).mono fun e w' ⟨v, d, s', h1, h2, h3, h4, h5, h6⟩ => ?_
  subst h5
  cases h2
  exact ⟨h1, Ext_below h4⟩
/-- A contract of the library, as a call that comes to one value. -/
theorem fn_below {Z : Sys} {f : FuncId} {ds : List D} {d : D} (hf : ∃ fn, Z.P.funcs[f]? = some fn ∧ fn.body.isNone = false ∧ (fn.name == "runtime.NumGoroutine") = false)
    (h : ∀ w s vs, VL w s vs ds → W s w → ∃ v, (∀ w', V w' (Lim s) v d) ∧ Calls Z.P f vs w fun e w' => e = .returned v ∧ Below w.heap.size w w') : Fn Z f ds d := fun σ =>
  ⟨hf, fun w s vs hs hv hW => by
    obtain ⟨v, h1, h2⟩ := h w s vs hv hW
    exact h2.mono fun e w' ⟨he, hb⟩ => ⟨v, d, s, he, h1 w', hW.of_below hb, Ext.of_below hW hb, rfl, hs⟩⟩

theorem Lim_nil (b o : Nat) : (Lim gz).ok b o := fun r x h => by cases h
/-- A row of texts, read in memory, stands for its list. -/
theorem V_strs {w : World} {a : Option Addr} {len cap : Nat} {l : List ByteArray} (hl : l.length = len) (h : (a = none ∧ len = 0) ∨ ∃ x, a = some x ∧ ∀ i, i < len → w.cell? (x.add i) = some (.string (l.getD i ByteArray.empty))) (hc : len ≤ cap) (hb : cap ≤ big) (hs : ∀ s ∈ l, s.size ≤ big) :
    V w (Lim gz) (.slice a len cap) (encSS l) := by
  subst hl
  refine .sl .no _ _ a (l.map .str) (fun i => .string (l.getD i ByteArray.empty)) hc hb ?_ (fun i hi => rfl) (fun i hi => ?_) (fun i hi => ?_)
  · intro ha
    rcases h with ⟨_, h0⟩ | ⟨x, hx, _⟩
    · exact h0
    · rw [ha] at hx; cases hx
  · have hi' : i < l.length := by simpa using hi
    rcases h with ⟨_, h0⟩ | ⟨x, hx, hcell⟩
    · omega
    · exact ⟨x, hx, hcell i hi', Lim_nil _ _⟩
  · have hi' : i < l.length := by simpa using hi
    simp only [List.getElem_map, List.getD_eq_getElem?_getD, List.getElem?_eq_getElem hi', Option.getD_some]
    exact .str _ (hs _ (List.getElem_mem hi'))

section
variable {H : Type} {enc : TypeId × Value → H} {P : Program} {w : World}
theorem maxLen_big : maxLen ≤ big := by decide
/-- A value that reads as a slice of texts stands for a list of them. -/
theorem read_strs {t e : TypeId} {fuel : Nat} {v : Value} {x : DataW H × List MemPlace} (ht : P.underlying t = some (.slice e)) (he : P.underlying e = some .string) (hc : P.cellsOf e = 1)
    (h : DataW.trod enc P w 0 (fun _ => true) true fuel t [v] = some x) : ∃ l : Wd, V w (Lim gz) v (encSS l) := by
  rcases Go.ChangeShapes.open_strings ht he hc h with ⟨h1, _⟩ | ⟨a, len, cap, ss, h1, _, hl, hm, hlen, _, hcell, hs⟩
  · simp only [List.cons.injEq, and_true] at h1
    subst h1
    exact ⟨[], V_strs rfl (.inl ⟨rfl, rfl⟩) (Nat.le_refl _) (Nat.zero_le _) (fun s hs => by cases hs)⟩
  · simp only [List.cons.injEq, and_true] at h1
    subst h1
    simp only [if_true] at hlen
    refine ⟨ss.take len, V_strs (by simp; omega) (.inr ⟨a, rfl, fun i hi => ?_⟩) hl (Nat.le_trans hm maxLen_big) (fun s hs' => Nat.le_trans (hs s (List.mem_of_mem_take hs')) maxLen_big)⟩
    rw [hcell i (by omega)]
    congr 2
    simp [List.getD_eq_getElem?_getD, List.getElem?_take, hi]
end
end Go.Proofs.YthchlpikcpidaaaDoor.Vs
