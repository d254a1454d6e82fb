/- numbers of YtldlcejlfaogbaaDoor -/
import Derived.Test.YtldlcejlfaogbaaGreatDoorJoF2
namespace Go.Proofs.YtldlcejlfaogbaaGreatDoor.Vs
set_option linter.unusedVariables false
set_option linter.unusedSimpArgs false
set_option maxRecDepth 20000
/-- The symbols of a word alone. -/
def goodL (w : Wd) : Prop := (∀ s ∈ w, s.size ≤ 16) ∧ ∀ s ∈ w, goodS s
theorem goodL.app {a b : Wd} (h : goodL a) (k : goodL b) : goodL (a ++ b) := ⟨fun s hs => (List.mem_append.1 hs).elim (h.1 s) (k.1 s), fun s hs => (List.mem_append.1 hs).elim (h.2 s) (k.2 s)⟩
theorem goodW.l {w : Wd} (h : goodW w) : goodL w := ⟨h.2.1, h.2.2⟩
theorem ba_dec (a b : ByteArray) : (a == b) = decide (a = b) := by
  cases h : (a == b) with
  | true => rw [ba_eq h]; simp
  | false =>
    symm
    rw [decide_eq_false_iff_not]
    rintro rfl
    rw [ba_refl] at h
    cases h
theorem keyStr : KeyOf Zs 9 D.str := by
  constructor
  · intro k; simp [keyFits, tz9, plainKeyT]
  · intro a b
    simp only [keyEq, tz9, plainKeyT, eqS, if_true, ba_dec]
def seenM (todo : List Wd) : List (ByteArray × Bool) := todo.map fun w => (keyB w sp, true)
/-- The heap of the search: the map of what is seen, and the texts of what there is to do. -/
def JoHeap (σ : Heap) (todo : List Wd) (d : D) (s : Heap) : Prop :=
  ∃ es clk, MapIs D.str D.bool (seenM todo) es clk ∧ Acc 9 1 (σ.new (.map es clk)) todo.length (todo.map fun w => .str (keyB w sp)) d s
theorem JoHeap.le {σ : Heap} (hc : Closed σ) {todo : List Wd} {d : D} {s : Heap} (h : JoHeap σ todo d s) : HLe σ s := by
  obtain ⟨es, clk, _, hA⟩ := h
  exact (HLe.self_new _ hc).trans hA.le
theorem JoHeap.look {σ : Heap} {todo : List Wd} {d : D} {s : Heap} (h : JoHeap σ todo d s) (k : ByteArray) : lookupD Zs s.get 160 (.map σ.next) (.str k) false = some (((lkp (seenM todo) k).map D.bool).getD (.bool false)) := by
  obtain ⟨es, clk, hm, hA⟩ := h
  exact lookup_is (z := .bool false) keyStr tz160 rfl tz4 rfl (hA.le.get _ _ (Heap.new_same _ _)) hm k
end Go.Proofs.YtldlcejlfaogbaaGreatDoor.Vs
