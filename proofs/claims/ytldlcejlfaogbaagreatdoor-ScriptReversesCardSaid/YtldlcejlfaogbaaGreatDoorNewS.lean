/- numbers of YtldlcejlfaogbaaDoor -/
import Derived.Shelf.Strings.Split
import Derived.Test.YtldlcejlfaogbaaGreatDoorBridge
namespace Go.Proofs.YtldlcejlfaogbaaGreatDoor.Vs
open Go.Shelf Go.RowKit
set_option linter.unusedVariables false
set_option linter.unusedSimpArgs false
set_option maxRecDepth 100000
def Tryz.lays221_ren : Go.Shelf.Ren := ⟨fun | 221 => 127 | 268 => 164 | 138 => 165 | 143 => 166 | 195 => 193 | 197 => 194 | 218 => 195 | 219 => 163 | 260 => 211 | 217 => 167 | 225 => 190 | 224 => 191 | 267 => 192 | 266 => 196 | 314 => 210 | n => n, fun | 9 => 9 | 3 => 3 | 31 => 23 | 4 => 4 | 0 => 0 | 105 => 237 | 21 => 21 | 5 => 5 | 46 => 158 | 119 => 255 | 139 => 258 | 138 => 257 | 146 => 250 | 51 => 210 | n => n, fun | 1 => 0 | 3 => 1 | 4 => 2 | n => n⟩
theorem Tryz.lays221 : Go.Proofs.Lays.n221 Tryz.prog Tryz.lays221_ren := {
  mixed := by kernel_rfl
  f138 := Tryz.func165.trans (congrArg some (by kernel_rfl))
  f143 := Tryz.func166.trans (congrArg some (by kernel_rfl))
  f195 := Tryz.func193.trans (congrArg some (by kernel_rfl))
  f197 := Tryz.func194.trans (congrArg some (by kernel_rfl))
  f217 := Tryz.func167.trans (congrArg some (by kernel_rfl))
  f218 := Tryz.func195.trans (congrArg some (by kernel_rfl))
  f219 := Tryz.func163.trans (congrArg some (by kernel_rfl))
  f221 := Tryz.func127.trans (congrArg some (by kernel_rfl))
  f224 := Tryz.func191.trans (congrArg some (by kernel_rfl))
  f225 := Tryz.func190.trans (congrArg some (by kernel_rfl))
  f260 := Tryz.func211.trans (congrArg some (by kernel_rfl))
  f266 := Tryz.func196.trans (congrArg some (by kernel_rfl))
  f267 := Tryz.func192.trans (congrArg some (by kernel_rfl))
  f268 := Tryz.func164.trans (congrArg some (by kernel_rfl))
  f314 := Tryz.func210.trans (congrArg some (by kernel_rfl))
  t0 := Tryz.underlying0
  a0 := Tryz.isAgg0
  z0 := Tryz.sizeOf0
  v0 := Tryz.zeroValue0
  t3 := Tryz.underlying3
  a3 := Tryz.isAgg3
  z3 := Tryz.sizeOf3
  v3 := Tryz.zeroValue3
  t4 := Tryz.underlying4
  a4 := Tryz.isAgg4
  z4 := Tryz.sizeOf4
  v4 := Tryz.zeroValue4
  t5 := Tryz.underlying5
  a5 := Tryz.isAgg5
  z5 := Tryz.sizeOf5
  v5 := Tryz.zeroValue5
  t9 := Tryz.underlying9
  a9 := Tryz.isAgg9
  z9 := Tryz.sizeOf9
  v9 := Tryz.zeroValue9
  t21 := Tryz.underlying21
  a21 := Tryz.isAgg21
  z21 := Tryz.sizeOf21
  v21 := Tryz.zeroValue21
  t31 := Tryz.underlying23
  a31 := Tryz.isAgg23
  z31 := Tryz.sizeOf23
  v31 := Tryz.zeroValue23
  t46 := Tryz.underlying158
  a46 := Tryz.isAgg158
  z46 := Tryz.sizeOf158
  v46 := Tryz.zeroValue158
  t51 := Tryz.underlying210
  a51 := Tryz.isAgg210
  z51 := Tryz.sizeOf210
  v51 := Tryz.zeroValue210
  t105 := Tryz.underlying237
  a105 := Tryz.isAgg237
  z105 := Tryz.sizeOf237
  v105 := Tryz.zeroValue237
  t119 := Tryz.underlying255
  a119 := Tryz.isAgg255
  z119 := Tryz.sizeOf255
  t138 := Tryz.underlying257
  a138 := Tryz.isAgg257
  z138 := Tryz.sizeOf257
  v138 := Tryz.zeroValue257
  t139 := Tryz.underlying258
  a139 := Tryz.isAgg258
  z139 := Tryz.sizeOf258
  v139 := Tryz.zeroValue258
  t146 := Tryz.underlying250
  a146 := Tryz.isAgg250
  z146 := Tryz.sizeOf250
  v146 := Tryz.zeroValue250
  g1 := by kernel_rfl
  g3 := by kernel_rfl
  g4 := by kernel_rfl }
/-- A contract of the library that hands back what is new. -/
theorem fn_new {Z : Sys} {f : FuncId} {ds : List D} {d : D} (hf : ∃ fn, Z.P.funcs[f]? = some fn ∧ fn.body.isNone = false ∧ (fn.name == "runtime.NumGoroutine") = false)
    (h : ∀ w s vs, VL w s vs ds → W s w → Calls Z.P f vs w fun e w' => ∃ v, e = .returned v ∧ V w' (Lim s) v d ∧ Below w.heap.size w w') : Fn Z f ds d := fun σ =>
  ⟨hf, fun w s vs hs hv hW => (h w s vs hv hW).mono fun e w' ⟨v, he, h1, hb⟩ => ⟨v, d, s, he, h1, hW.of_below hb, Ext.of_below hW hb, rfl, hs⟩⟩
theorem V_new_strs {w : World} {s : GH} (hW : W s w) (e : TypeId) (l : List ByteArray) (hb : l.length ≤ big) (hs : ∀ x ∈ l, x.size ≤ big) :
    V (w.alloc (.cells (l.map Value.string).toArray e)) (Lim s) (.slice (some ⟨w.heap.size, 0, none⟩) l.length l.length) (encSS l) := by
  refine .sl .no _ _ _ (l.map .str) (fun i => .string (l.getD i ByteArray.empty)) (Nat.le_refl _) hb ?_ (fun i hi => rfl) (fun i hi => ?_) (fun i hi => ?_)
  · intro ha; cases ha
  · have hi' : i < l.length := by simpa using hi
    refine ⟨_, rfl, ?_, ?_⟩
    · rw [addr_add, Nat.zero_add, World.cell?_alloc_new]
      simp [hi']
    · intro r x hr hb
      have := hW.blk hr
      exact absurd hb (Nat.ne_of_lt this)
  · have hi' : i < l.length := by simpa using hi
    simp only [List.getElem_map, List.getD_eq_getElem?_getD, List.getElem?_eq_getElem hi', Option.getD_some]
    exact .str _ (hs _ (List.getElem_mem hi'))
end Go.Proofs.YtldlcejlfaogbaaGreatDoor.Vs
