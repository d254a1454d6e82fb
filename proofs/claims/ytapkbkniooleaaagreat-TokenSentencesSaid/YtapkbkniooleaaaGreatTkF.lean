/- numbers of Ytapkbkniooleaaa -/
import Derived.Shelf.Strings.Split
import Derived.Test.YtapkbkniooleaaaGreatTkB
namespace Go.Proofs.YtapkbkniooleaaaGreat.Vs
open Go.Shelf Go.RowKit
set_option linter.unusedVariables false
set_option linter.unusedSimpArgs false
set_option maxRecDepth 100000
def Tryz.lays144_ren : Go.Shelf.Ren := ⟨fun | 144 => 49 | 143 => 64 | 219 => 74 | 217 => 86 | 225 => 87 | 224 => 88 | 267 => 89 | 266 => 96 | 314 => 97 | n => n, fun | 9 => 9 | 4 => 4 | 3 => 3 | 5 => 5 | 46 => 94 | 146 => 115 | 51 => 104 | n => n, fun | 1 => 0 | n => n⟩
theorem Tryz.lays144 : Go.Proofs.Lays.n144 Tryz.prog Tryz.lays144_ren := {
  mixed := by kernel_rfl
  f143 := Tryz.func64.trans (congrArg some (by kernel_rfl))
  f144 := Tryz.func49.trans (congrArg some (by kernel_rfl))
  f217 := Tryz.func86.trans (congrArg some (by kernel_rfl))
  f219 := Tryz.func74.trans (congrArg some (by kernel_rfl))
  f224 := Tryz.func88.trans (congrArg some (by kernel_rfl))
  f225 := Tryz.func87.trans (congrArg some (by kernel_rfl))
  f266 := Tryz.func96.trans (congrArg some (by kernel_rfl))
  f267 := Tryz.func89.trans (congrArg some (by kernel_rfl))
  f314 := Tryz.func97.trans (congrArg some (by kernel_rfl))
  t3 := Tryz.underlying3
  a3 := Tryz.isAgg3
  z3 := Tryz.sizeOf3
  v3 := Tryz.zeroValue3
  t4 := Tryz.underlying4
  a4 := Tryz.isAgg4
  z4 := Tryz.sizeOf4
  v4 := Tryz.zeroValue4
  t5 := Tryz.underlying5
  a5 := Tryz.isAgg5
  z5 := Tryz.sizeOf5
  v5 := Tryz.zeroValue5
  t9 := Tryz.underlying9
  a9 := Tryz.isAgg9
  z9 := Tryz.sizeOf9
  v9 := Tryz.zeroValue9
  t46 := Tryz.underlying94
  a46 := Tryz.isAgg94
  z46 := Tryz.sizeOf94
  v46 := Tryz.zeroValue94
  t51 := Tryz.underlying104
  a51 := Tryz.isAgg104
  z51 := Tryz.sizeOf104
  v51 := Tryz.zeroValue104
  t146 := Tryz.underlying115
  a146 := Tryz.isAgg115
  z146 := Tryz.sizeOf115
  v146 := Tryz.zeroValue115
  g1 := by kernel_rfl }
theorem Contains1_c (s : ByteArray) (b : UInt8) : Fn Zs 49 [.str s, .str ⟨#[b]⟩] (.bool (decide (0 ≤ Lib.indexByte s.data.toList b))) := by
  obtain ⟨fn, cc, hf, hb, _, _, _, hn, _⟩ := ok49.ok
  refine fn_below (Z := Zs) ⟨fn, hf, by rw [hb]; rfl, hn⟩ fun W s' vs hv hW => ?_
  obtain ⟨v0, v1, rfl⟩ : ∃ a b, vs = #[a, b] := by
    obtain ⟨l⟩ := vs
    match l, hv.1 with
    | [a, b], _ => exact ⟨a, b, rfl⟩
  have e0 : V W (Lim s') v0 (.str s) := hv.2 0 (by simp)
  have e1 : V W (Lim s') v1 (.str ⟨#[b]⟩) := hv.2 1 (by simp)
  cases e0; cases e1
  refine ⟨.bool (decide (0 ≤ Lib.indexByte s.data.toList b)), fun w' => .bool _, ?_⟩
  refine (Any.strings_Contains_one Tryz.lays144 s b W).mono ?_
  rintro e w' ⟨rfl, rfl⟩
  exact ⟨rfl, Below.refl _ _⟩
end Go.Proofs.YtapkbkniooleaaaGreat.Vs
