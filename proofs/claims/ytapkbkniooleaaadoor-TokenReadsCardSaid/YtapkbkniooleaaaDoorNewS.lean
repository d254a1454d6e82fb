/- numbers of YtldlcejlfaogbaaDoor -/
import Derived.Shelf.Strings.Split
import Derived.Test.YtapkbkniooleaaaDoorBridge
namespace Go.Proofs.YtapkbkniooleaaaDoor.Vs
open Go.Shelf Go.RowKit
set_option linter.unusedVariables false
set_option linter.unusedSimpArgs false
set_option maxRecDepth 100000
/-- A contract of the library that hands back what is new. -/
theorem fn_new {Z : Sys} {f : FuncId} {ds : List D} {d : D} (hf : ∃ fn, Z.P.funcs[f]? = some fn ∧ fn.body.isNone = false ∧ (fn.name == "runtime.NumGoroutine") = false)
    (h : ∀ w s vs, VL w s vs ds → W s w → Calls Z.P f vs w fun e w' => ∃ v, e = .returned v ∧ V w' (Lim s) v d ∧ Below w.heap.size w w') : Fn Z f ds d := fun σ =>
  ⟨hf, fun w s vs hs hv hW => (h w s vs hv hW).mono fun e w' ⟨v, he, h1, hb⟩ => ⟨v, d, s, he, h1, hW.of_below hb, Ext.of_below hW hb, rfl, hs⟩⟩
theorem V_new_strs {w : World} {s : GH} (hW : W s w) (e : TypeId) (l : List ByteArray) (hb : l.length ≤ big) (hs : ∀ x ∈ l, x.size ≤ big) :
    V (w.alloc (.cells (l.map Value.string).toArray e)) (Lim s) (.slice (some ⟨w.heap.size, 0, none⟩) l.length l.length) (encSS l) := by
  refine .sl .no _ _ _ (l.map .str) (fun i => .string (l.getD i ByteArray.empty)) (Nat.le_refl _) hb ?_ (fun i hi => rfl) (fun i hi => ?_) (fun i hi => ?_)
  · intro ha; cases ha
  · have hi' : i < l.length := by simpa using hi
    refine ⟨_, rfl, ?_, ?_⟩
    · rw [addr_add, Nat.zero_add, World.cell?_alloc_new]
      simp [hi']
    · intro r x hr hb
      have := hW.blk hr
      exact absurd hb (Nat.ne_of_lt this)
  · have hi' : i < l.length := by simpa using hi
    simp only [List.getElem_map, List.getD_eq_getElem?_getD, List.getElem?_eq_getElem hi', Option.getD_some]
    exact .str _ (hs _ (List.getElem_mem hi'))
end Go.Proofs.YtapkbkniooleaaaDoor.Vs
