/- numbers of YtldlcejlfaogbaaDoor -/
import Derived.Shelf.Strings.Split
import Derived.Test.YtapkbkniooleaaaDoorBridge
namespace Go.Proofs.YtapkbkniooleaaaDoor.Vs
open Go.Shelf Go.RowKit
set_option linter.unusedVariables false
set_option linter.unusedSimpArgs false
set_option maxRecDepth 100000
def Tryd.lays221_ren : Go.Shelf.Ren := ⟨fun | 221 => 40 | 268 => 66 | 138 => 67 | 143 => 68 | 195 => 81 | 197 => 82 | 218 => 83 | 219 => 65 | 260 => 91 | 217 => 77 | 225 => 78 | 224 => 79 | 267 => 80 | 266 => 89 | 314 => 90 | n => n, fun | 9 => 9 | 3 => 3 | 31 => 34 | 4 => 4 | 0 => 0 | 105 => 94 | 21 => 21 | 5 => 5 | 46 => 93 | 119 => 96 | 139 => 122 | 138 => 121 | 146 => 103 | 51 => 102 | n => n, fun | 1 => 0 | 3 => 3 | 4 => 4 | n => n⟩
theorem Tryd.lays221 : Go.Proofs.Lays.n221 Tryd.prog Tryd.lays221_ren := {
  mixed := by kernel_rfl
  f138 := Tryd.func67.trans (congrArg some (by kernel_rfl))
  f143 := Tryd.func68.trans (congrArg some (by kernel_rfl))
  f195 := Tryd.func81.trans (congrArg some (by kernel_rfl))
  f197 := Tryd.func82.trans (congrArg some (by kernel_rfl))
  f217 := Tryd.func77.trans (congrArg some (by kernel_rfl))
  f218 := Tryd.func83.trans (congrArg some (by kernel_rfl))
  f219 := Tryd.func65.trans (congrArg some (by kernel_rfl))
  f221 := Tryd.func40.trans (congrArg some (by kernel_rfl))
  f224 := Tryd.func79.trans (congrArg some (by kernel_rfl))
  f225 := Tryd.func78.trans (congrArg some (by kernel_rfl))
  f260 := Tryd.func91.trans (congrArg some (by kernel_rfl))
  f266 := Tryd.func89.trans (congrArg some (by kernel_rfl))
  f267 := Tryd.func80.trans (congrArg some (by kernel_rfl))
  f268 := Tryd.func66.trans (congrArg some (by kernel_rfl))
  f314 := Tryd.func90.trans (congrArg some (by kernel_rfl))
  t0 := Tryd.underlying0
  a0 := Tryd.isAgg0
  z0 := Tryd.sizeOf0
  v0 := Tryd.zeroValue0
  t3 := Tryd.underlying3
  a3 := Tryd.isAgg3
  z3 := Tryd.sizeOf3
  v3 := Tryd.zeroValue3
  t4 := Tryd.underlying4
  a4 := Tryd.isAgg4
  z4 := Tryd.sizeOf4
  v4 := Tryd.zeroValue4
  t5 := Tryd.underlying5
  a5 := Tryd.isAgg5
  z5 := Tryd.sizeOf5
  v5 := Tryd.zeroValue5
  t9 := Tryd.underlying9
  a9 := Tryd.isAgg9
  z9 := Tryd.sizeOf9
  v9 := Tryd.zeroValue9
  t21 := Tryd.underlying21
  a21 := Tryd.isAgg21
  z21 := Tryd.sizeOf21
  v21 := Tryd.zeroValue21
  t31 := Tryd.underlying34
  a31 := Tryd.isAgg34
  z31 := Tryd.sizeOf34
  v31 := Tryd.zeroValue34
  t46 := Tryd.underlying93
  a46 := Tryd.isAgg93
  z46 := Tryd.sizeOf93
  v46 := Tryd.zeroValue93
  t51 := Tryd.underlying102
  a51 := Tryd.isAgg102
  z51 := Tryd.sizeOf102
  v51 := Tryd.zeroValue102
  t105 := Tryd.underlying94
  a105 := Tryd.isAgg94
  z105 := Tryd.sizeOf94
  v105 := Tryd.zeroValue94
  t119 := Tryd.underlying96
  a119 := Tryd.isAgg96
  z119 := Tryd.sizeOf96
  t138 := Tryd.underlying121
  a138 := Tryd.isAgg121
  z138 := Tryd.sizeOf121
  v138 := Tryd.zeroValue121
  t139 := Tryd.underlying122
  a139 := Tryd.isAgg122
  z139 := Tryd.sizeOf122
  v139 := Tryd.zeroValue122
  t146 := Tryd.underlying103
  a146 := Tryd.isAgg103
  z146 := Tryd.sizeOf103
  v146 := Tryd.zeroValue103
  g1 := by kernel_rfl
  g3 := by kernel_rfl
  g4 := by kernel_rfl }
/-- A contract of the library that hands back what is new. -/
theorem fn_new {Z : Sys} {f : FuncId} {ds : List D} {d : D} (hf : ∃ fn, Z.P.funcs[f]? = some fn ∧ fn.body.isNone = false ∧ (fn.name == "runtime.NumGoroutine") = false)
    (h : ∀ w s vs, VL w s vs ds → W s w → Calls Z.P f vs w fun e w' => ∃ v, e = .returned v ∧ V w' (Lim s) v d ∧ Below w.heap.size w w') : Fn Z f ds d := fun σ =>
  ⟨hf, fun w s vs hs hv hW => (h w s vs hv hW).mono fun e w' ⟨v, he, h1, hb⟩ => ⟨v, d, s, he, h1, hW.of_below hb, Ext.of_below hW hb, rfl, hs⟩⟩
theorem V_new_strs {w : World} {s : GH} (hW : W s w) (e : TypeId) (l : List ByteArray) (hb : l.length ≤ big) (hs : ∀ x ∈ l, x.size ≤ big) :
    V (w.alloc (.cells (l.map Value.string).toArray e)) (Lim s) (.slice (some ⟨w.heap.size, 0, none⟩) l.length l.length) (encSS l) := by
  refine .sl .no _ _ _ (l.map .str) (fun i => .string (l.getD i ByteArray.empty)) (Nat.le_refl _) hb ?_ (fun i hi => rfl) (fun i hi => ?_) (fun i hi => ?_)
  · intro ha; cases ha
  · have hi' : i < l.length := by simpa using hi
    refine ⟨_, rfl, ?_, ?_⟩
    · rw [addr_add, Nat.zero_add, World.cell?_alloc_new]
      simp [hi']
    · intro r x hr hb
      have := hW.blk hr
      exact absurd hb (Nat.ne_of_lt this)
  · have hi' : i < l.length := by simpa using hi
    simp only [List.getElem_map, List.getD_eq_getElem?_getD, List.getElem?_eq_getElem hi', Option.getD_some]
    exact .str _ (hs _ (List.getElem_mem hi'))
end Go.Proofs.YtapkbkniooleaaaDoor.Vs
