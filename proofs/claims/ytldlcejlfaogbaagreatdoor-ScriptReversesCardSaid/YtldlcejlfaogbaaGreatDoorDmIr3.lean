/- The seat's functions as the engine Dm reads them, written by dgen.py. -/
import Derived.Test.YtldlcejlfaogbaaGreatDoorDmFn
import Derived.Test.YtldlcejlfaogbaaGreatDoorProg
import Derived.KernelRfl
namespace Go.Proofs.YtldlcejlfaogbaaGreatDoor.Vs
set_option linter.unusedVariables false
set_option maxRecDepth 100000
/-- internal/stringslite.Index -/
def L163 : LCode :=
 (.seq
 (.ops [⟨some 4, .assign (Operand.const (Value.int IntKind.i64 0)), none, 0⟩])
 (.seq
 (.ops [⟨some 14, .move (Operand.tmp 1), none, 0⟩,
 ⟨some 15, .call ⟨(Callee.builtin Builtin.len), [(Operand.tmp 14)].toArray, #[9]⟩, none, 0⟩,
 ⟨some 5, .assign (Operand.tmp 15), none, 0⟩])
 (.seq
 (.block 0
 (.seq
 (.ops [⟨some 17, .move (Operand.tmp 5), none, 0⟩,
 ⟨some 18, .binOp BinOp.eql 3 (Operand.tmp 17) (Operand.const (Value.int IntKind.i64 0)) 3, none, 0⟩,
 ⟨some 19, .move (Operand.tmp 18), none, 0⟩,
 ⟨some 20, .move (Operand.tmp 1), some (19, false), 0⟩,
 ⟨some 21, .move (Operand.tmp 0), some (19, false), 0⟩,
 ⟨some 22, .binOp BinOp.eql 9 (Operand.tmp 20) (Operand.tmp 21) 9, some (19, false), 0⟩,
 ⟨some 23, .pick (Operand.tmp 19) (Operand.const (Value.bool true)) (Operand.tmp 22), none, 0⟩,
 ⟨some 16, .assign (Operand.tmp 23), none, 0⟩])
 (.cond (Operand.tmp 16)
 (.seq
 (.ops [⟨some 4, .assign (Operand.const (Value.int IntKind.i64 0)), none, 0⟩])
 .ret)
 (.seq
 (.ops [⟨some 25, .move (Operand.tmp 5), none, 0⟩,
 ⟨some 26, .binOp BinOp.eql 3 (Operand.tmp 25) (Operand.const (Value.int IntKind.i64 1)) 3, none, 0⟩,
 ⟨some 24, .assign (Operand.tmp 26), none, 0⟩])
 (.cond (Operand.tmp 24)
 (.seq
 (.ops [⟨some 27, .move (Operand.tmp 0), none, 0⟩,
 ⟨some 28, .move (Operand.tmp 1), none, 0⟩,
 ⟨some 29, .index 9 (Operand.tmp 28) (Operand.const (Value.int IntKind.i64 0)), none, 0⟩,
 ⟨some 30, .call ⟨(Callee.value (Operand.func 167)), [(Operand.tmp 27), (Operand.tmp 29)].toArray, #[9, 5]⟩, none, 0⟩,
 ⟨some 4, .assign (Operand.tmp 30), none, 0⟩])
 .ret)
 (.seq
 (.ops [⟨some 32, .move (Operand.tmp 5), none, 0⟩,
 ⟨some 33, .move (Operand.tmp 0), none, 0⟩,
 ⟨some 34, .call ⟨(Callee.builtin Builtin.len), [(Operand.tmp 33)].toArray, #[9]⟩, none, 0⟩,
 ⟨some 35, .binOp BinOp.geq 3 (Operand.tmp 32) (Operand.tmp 34) 3, none, 0⟩,
 ⟨some 31, .assign (Operand.tmp 35), none, 0⟩])
 (.cond (Operand.tmp 31)
 (.seq
 (.ops [⟨some 4, .assign (Operand.const (Value.int IntKind.i64 (-1))), none, 0⟩])
 .ret)
 (.seq
 (.ops [⟨some 37, .move (Operand.tmp 5), none, 0⟩,
 ⟨some 38, .load 3 (Operand.global 0), none, 0⟩,
 ⟨some 39, .binOp BinOp.leq 3 (Operand.tmp 37) (Operand.tmp 38) 3, none, 0⟩,
 ⟨some 40, .move (Operand.tmp 39), none, 0⟩,
 ⟨some 41, .move (Operand.tmp 0), some (40, true), 0⟩,
 ⟨some 42, .call ⟨(Callee.builtin Builtin.len), [(Operand.tmp 41)].toArray, #[9]⟩, some (40, true), 0⟩,
 ⟨some 43, .binOp BinOp.leq 3 (Operand.tmp 42) (Operand.const (Value.int IntKind.i64 64)) 3, some (40, true), 0⟩,
 ⟨some 44, .pick (Operand.tmp 40) (Operand.tmp 43) (Operand.const (Value.bool false)), none, 0⟩,
 ⟨some 36, .assign (Operand.tmp 44), none, 0⟩])
 (.cond (Operand.tmp 36)
 (.seq
 (.ops [⟨some 45, .move (Operand.tmp 0), none, 0⟩,
 ⟨some 46, .move (Operand.tmp 1), none, 0⟩,
 ⟨some 47, .call ⟨(Callee.value (Operand.func 190)), [(Operand.tmp 45), (Operand.tmp 46)].toArray, #[9, 9]⟩, none, 0⟩,
 ⟨some 4, .assign (Operand.tmp 47), none, 0⟩])
 .ret)
 .skip)))))))))
 (.seq
 (.ops [⟨some 48, .move (Operand.tmp 1), none, 0⟩,
 ⟨some 49, .index 9 (Operand.tmp 48) (Operand.const (Value.int IntKind.i64 0)), none, 0⟩,
 ⟨some 6, .assign (Operand.tmp 49), none, 0⟩])
 (.seq
 (.ops [⟨some 50, .move (Operand.tmp 1), none, 0⟩,
 ⟨some 51, .index 9 (Operand.tmp 50) (Operand.const (Value.int IntKind.i64 1)), none, 0⟩,
 ⟨some 7, .assign (Operand.tmp 51), none, 0⟩])
 (.seq
 (.ops [⟨some 8, .assign (Operand.const (Value.int IntKind.i64 0)), none, 0⟩])
 (.seq
 (.ops [⟨some 52, .move (Operand.tmp 0), none, 0⟩,
 ⟨some 53, .call ⟨(Callee.builtin Builtin.len), [(Operand.tmp 52)].toArray, #[9]⟩, none, 0⟩,
 ⟨some 54, .move (Operand.tmp 5), none, 0⟩,
 ⟨some 55, .binOp BinOp.sub 3 (Operand.tmp 53) (Operand.tmp 54) 3, none, 0⟩,
 ⟨some 56, .binOp BinOp.add 3 (Operand.tmp 55) (Operand.const (Value.int IntKind.i64 1)) 3, none, 0⟩,
 ⟨some 9, .assign (Operand.tmp 56), none, 0⟩])
 (.seq
 (.ops [⟨some 10, .assign (Operand.const (Value.int IntKind.i64 0)), none, 0⟩])
 (.seq
 (.block 1
 (.loop
 (.seq
 (.seq
 (.ops [⟨some 57, .move (Operand.tmp 8), none, 0⟩,
 ⟨some 58, .move (Operand.tmp 9), none, 0⟩,
 ⟨some 59, .binOp BinOp.lss 3 (Operand.tmp 57) (Operand.tmp 58) 3, none, 0⟩])
 (.cond (Operand.tmp 59)
 .skip
 (.exit 1)))
 (.block 2
 (.seq
 (.seq
 (.ops [⟨some 60, .move (Operand.tmp 0), none, 0⟩,
 ⟨some 61, .move (Operand.tmp 8), none, 0⟩,
 ⟨some 62, .index 9 (Operand.tmp 60) (Operand.tmp 61), none, 0⟩,
 ⟨some 63, .move (Operand.tmp 6), none, 0⟩,
 ⟨some 64, .binOp BinOp.neq 5 (Operand.tmp 62) (Operand.tmp 63) 5, none, 0⟩])
 (.cond (Operand.tmp 64)
 (.seq
 (.ops [⟨some 65, .move (Operand.tmp 0), none, 0⟩,
 ⟨some 66, .move (Operand.tmp 8), none, 0⟩,
 ⟨some 67, .binOp BinOp.add 3 (Operand.tmp 66) (Operand.const (Value.int IntKind.i64 1)) 3, none, 0⟩,
 ⟨some 68, .move (Operand.tmp 9), none, 0⟩,
 ⟨some 69, .slice 9 (Operand.tmp 65) (some (Operand.tmp 67)) (some (Operand.tmp 68)) none, none, 0⟩,
 ⟨some 70, .move (Operand.tmp 6), none, 0⟩,
 ⟨some 71, .call ⟨(Callee.value (Operand.func 167)), [(Operand.tmp 69), (Operand.tmp 70)].toArray, #[9, 5]⟩, none, 0⟩,
 ⟨some 11, .assign (Operand.tmp 71), none, 0⟩])
 (.seq
 (.seq
 (.ops [⟨some 72, .move (Operand.tmp 11), none, 0⟩,
 ⟨some 73, .binOp BinOp.lss 3 (Operand.tmp 72) (Operand.const (Value.int IntKind.i64 0)) 3, none, 0⟩])
 (.cond (Operand.tmp 73)
 (.seq
 (.ops [⟨some 4, .assign (Operand.const (Value.int IntKind.i64 (-1))), none, 0⟩])
 .ret)
 .skip))
 (.ops [⟨some 74, .move (Operand.tmp 8), none, 0⟩,
 ⟨some 75, .move (Operand.tmp 11), none, 0⟩,
 ⟨some 76, .binOp BinOp.add 3 (Operand.tmp 75) (Operand.const (Value.int IntKind.i64 1)) 3, none, 0⟩,
 ⟨some 77, .binOp BinOp.add 3 (Operand.tmp 74) (Operand.tmp 76) 3, none, 0⟩,
 ⟨some 8, .assign (Operand.tmp 77), none, 0⟩])))
 .skip))
 (.seq
 (.seq
 (.ops [⟨some 78, .move (Operand.tmp 0), none, 0⟩,
 ⟨some 79, .move (Operand.tmp 8), none, 0⟩,
 ⟨some 80, .binOp BinOp.add 3 (Operand.tmp 79) (Operand.const (Value.int IntKind.i64 1)) 3, none, 0⟩,
 ⟨some 81, .index 9 (Operand.tmp 78) (Operand.tmp 80), none, 0⟩,
 ⟨some 82, .move (Operand.tmp 7), none, 0⟩,
 ⟨some 83, .binOp BinOp.eql 5 (Operand.tmp 81) (Operand.tmp 82) 5, none, 0⟩,
 ⟨some 84, .move (Operand.tmp 83), none, 0⟩,
 ⟨some 85, .move (Operand.tmp 0), some (84, true), 0⟩,
 ⟨some 86, .move (Operand.tmp 8), some (84, true), 0⟩,
 ⟨some 87, .move (Operand.tmp 8), some (84, true), 0⟩,
 ⟨some 88, .move (Operand.tmp 5), some (84, true), 0⟩,
 ⟨some 89, .binOp BinOp.add 3 (Operand.tmp 87) (Operand.tmp 88) 3, some (84, true), 0⟩,
 ⟨some 90, .slice 9 (Operand.tmp 85) (some (Operand.tmp 86)) (some (Operand.tmp 89)) none, some (84, true), 0⟩,
 ⟨some 91, .move (Operand.tmp 1), some (84, true), 0⟩,
 ⟨some 92, .binOp BinOp.eql 9 (Operand.tmp 90) (Operand.tmp 91) 9, some (84, true), 0⟩,
 ⟨some 93, .pick (Operand.tmp 84) (Operand.tmp 92) (Operand.const (Value.bool false)), none, 0⟩])
 (.cond (Operand.tmp 93)
 (.seq
 (.ops [⟨some 94, .move (Operand.tmp 8), none, 0⟩,
 ⟨some 4, .assign (Operand.tmp 94), none, 0⟩])
 .ret)
 .skip))
 (.seq
 (.ops [⟨some 95, .move (Operand.tmp 8), none, 0⟩,
 ⟨some 96, .binOp BinOp.add 3 (Operand.tmp 95) (Operand.const (Value.int IntKind.i64 1)) 3, none, 0⟩,
 ⟨some 8, .assign (Operand.tmp 96), none, 0⟩])
 (.seq
 (.ops [⟨some 97, .move (Operand.tmp 10), none, 0⟩,
 ⟨some 98, .binOp BinOp.add 3 (Operand.tmp 97) (Operand.const (Value.int IntKind.i64 1)) 3, none, 0⟩,
 ⟨some 10, .assign (Operand.tmp 98), none, 0⟩])
 (.seq
 (.ops [⟨some 99, .move (Operand.tmp 5), none, 0⟩,
 ⟨some 100, .load 3 (Operand.global 0), none, 0⟩,
 ⟨some 101, .binOp BinOp.leq 3 (Operand.tmp 99) (Operand.tmp 100) 3, none, 0⟩,
 ⟨some 102, .move (Operand.tmp 101), none, 0⟩,
 ⟨some 103, .move (Operand.tmp 10), some (102, true), 0⟩,
 ⟨some 104, .move (Operand.tmp 8), some (102, true), 0⟩,
 ⟨some 105, .call ⟨(Callee.value (Operand.func 191)), [(Operand.tmp 104)].toArray, #[3]⟩, some (102, true), 0⟩,
 ⟨some 106, .binOp BinOp.gtr 3 (Operand.tmp 103) (Operand.tmp 105) 3, some (102, true), 0⟩,
 ⟨some 107, .pick (Operand.tmp 102) (Operand.tmp 106) (Operand.const (Value.bool false)), none, 0⟩])
 (.cond (Operand.tmp 107)
 (.seq
 (.ops [⟨some 108, .move (Operand.tmp 0), none, 0⟩,
 ⟨some 109, .move (Operand.tmp 8), none, 0⟩,
 ⟨some 110, .slice 9 (Operand.tmp 108) (some (Operand.tmp 109)) none none, none, 0⟩,
 ⟨some 111, .move (Operand.tmp 1), none, 0⟩,
 ⟨some 112, .call ⟨(Callee.value (Operand.func 190)), [(Operand.tmp 110), (Operand.tmp 111)].toArray, #[9, 9]⟩, none, 0⟩,
 ⟨some 12, .assign (Operand.tmp 112), none, 0⟩])
 (.seq
 (.seq
 (.ops [⟨some 113, .move (Operand.tmp 12), none, 0⟩,
 ⟨some 114, .binOp BinOp.geq 3 (Operand.tmp 113) (Operand.const (Value.int IntKind.i64 0)) 3, none, 0⟩])
 (.cond (Operand.tmp 114)
 (.seq
 (.ops [⟨some 115, .move (Operand.tmp 12), none, 0⟩,
 ⟨some 116, .move (Operand.tmp 8), none, 0⟩,
 ⟨some 117, .binOp BinOp.add 3 (Operand.tmp 115) (Operand.tmp 116) 3, none, 0⟩,
 ⟨some 4, .assign (Operand.tmp 117), none, 0⟩])
 .ret)
 .skip))
 (.seq
 (.ops [⟨some 4, .assign (Operand.const (Value.int IntKind.i64 (-1))), none, 0⟩])
 .ret)))
 (.seq
 (.ops [⟨some 118, .move (Operand.tmp 5), none, 0⟩,
 ⟨some 119, .load 3 (Operand.global 0), none, 0⟩,
 ⟨some 120, .binOp BinOp.gtr 3 (Operand.tmp 118) (Operand.tmp 119) 3, none, 0⟩,
 ⟨some 121, .move (Operand.tmp 120), none, 0⟩,
 ⟨some 122, .move (Operand.tmp 10), some (121, true), 0⟩,
 ⟨some 123, .move (Operand.tmp 8), some (121, true), 0⟩,
 ⟨some 124, .binOp BinOp.shr 3 (Operand.tmp 123) (Operand.const (Value.int IntKind.u64 4)) 158, some (121, true), 0⟩,
 ⟨some 125, .binOp BinOp.add 3 (Operand.const (Value.int IntKind.i64 4)) (Operand.tmp 124) 3, some (121, true), 0⟩,
 ⟨some 126, .binOp BinOp.geq 3 (Operand.tmp 122) (Operand.tmp 125) 3, some (121, true), 0⟩,
 ⟨some 127, .pick (Operand.tmp 121) (Operand.tmp 126) (Operand.const (Value.bool false)), none, 0⟩,
 ⟨some 128, .move (Operand.tmp 127), none, 0⟩,
 ⟨some 129, .move (Operand.tmp 8), some (128, true), 0⟩,
 ⟨some 130, .move (Operand.tmp 9), some (128, true), 0⟩,
 ⟨some 131, .binOp BinOp.lss 3 (Operand.tmp 129) (Operand.tmp 130) 3, some (128, true), 0⟩,
 ⟨some 132, .pick (Operand.tmp 128) (Operand.tmp 131) (Operand.const (Value.bool false)), none, 0⟩])
 (.cond (Operand.tmp 132)
 (.seq
 (.ops [⟨some 133, .move (Operand.tmp 0), none, 0⟩,
 ⟨some 134, .move (Operand.tmp 8), none, 0⟩,
 ⟨some 135, .slice 9 (Operand.tmp 133) (some (Operand.tmp 134)) none none, none, 0⟩,
 ⟨some 136, .move (Operand.tmp 1), none, 0⟩,
 ⟨some 137, .call ⟨(Callee.value (Operand.func 192)), [(Operand.tmp 135), (Operand.tmp 136)].toArray, #[9, 9]⟩, none, 0⟩,
 ⟨some 13, .assign (Operand.tmp 137), none, 0⟩])
 (.seq
 (.seq
 (.ops [⟨some 138, .move (Operand.tmp 13), none, 0⟩,
 ⟨some 139, .binOp BinOp.lss 3 (Operand.tmp 138) (Operand.const (Value.int IntKind.i64 0)) 3, none, 0⟩])
 (.cond (Operand.tmp 139)
 (.seq
 (.ops [⟨some 4, .assign (Operand.const (Value.int IntKind.i64 (-1))), none, 0⟩])
 .ret)
 .skip))
 (.seq
 (.ops [⟨some 140, .move (Operand.tmp 8), none, 0⟩,
 ⟨some 141, .move (Operand.tmp 13), none, 0⟩,
 ⟨some 142, .binOp BinOp.add 3 (Operand.tmp 140) (Operand.tmp 141) 3, none, 0⟩,
 ⟨some 4, .assign (Operand.tmp 142), none, 0⟩])
 .ret)))
 .skip))))))))))))
 (.seq
 (.ops [⟨some 4, .assign (Operand.const (Value.int IntKind.i64 (-1))), none, 0⟩])
 .ret))))))))))
abbrev R163 : List ResultVar := [ResultVar.tmp 4]
theorem ok163 : FnOK Tryz.prog 163 L163 R163 2 := ⟨_, _, Tryz.func163, rfl, by kernel_rfl, by kernel_rfl, by kernel_rfl, by kernel_rfl, Nat.le_of_ble_eq_true (by kernel_rfl), by kernel_rfl⟩

/-- (*strings.Builder).grow -/
def L181 : LCode :=
 (.seq
 (.draw [⟨some 5, .move (Operand.tmp 0), none, 0⟩,
 ⟨some 6, .nilCheck (Operand.tmp 5), none, 0⟩,
 ⟨some 7, .fieldAddr 176 (Operand.tmp 6) 1, none, 0⟩,
 ⟨some 8, .load 174 (Operand.tmp 7), none, 0⟩,
 ⟨some 9, .call ⟨(Callee.builtin Builtin.cap), [(Operand.tmp 8)].toArray, #[174]⟩, none, 0⟩,
 ⟨some 10, .binOp BinOp.mul 3 (Operand.const (Value.int IntKind.i64 2)) (Operand.tmp 9) 3, none, 0⟩,
 ⟨some 11, .move (Operand.tmp 1), none, 0⟩,
 ⟨some 12, .binOp BinOp.add 3 (Operand.tmp 10) (Operand.tmp 11) 3, none, 0⟩,
 ⟨some 13, .call ⟨(Callee.value (Operand.func 208)), [(Operand.tmp 12)].toArray, #[3]⟩, none, 0⟩,
 ⟨some 14, .move (Operand.tmp 0), none, 0⟩,
 ⟨some 15, .nilCheck (Operand.tmp 14), none, 0⟩,
 ⟨some 16, .fieldAddr 176 (Operand.tmp 15) 1, none, 0⟩,
 ⟨some 17, .load 174 (Operand.tmp 16), none, 0⟩,
 ⟨some 18, .call ⟨(Callee.builtin Builtin.len), [(Operand.tmp 17)].toArray, #[174]⟩, none, 0⟩,
 ⟨some 19, .slice 174 (Operand.tmp 13) none (some (Operand.tmp 18)) none, none, 0⟩,
 ⟨some 4, .assign (Operand.tmp 19), none, 0⟩] true [14, 15] [])
 (.seq
 (.ops [⟨some 20, .move (Operand.tmp 4), none, 0⟩,
 ⟨some 21, .move (Operand.tmp 0), none, 0⟩,
 ⟨some 22, .nilCheck (Operand.tmp 21), none, 0⟩,
 ⟨some 23, .fieldAddr 176 (Operand.tmp 22) 1, none, 0⟩,
 ⟨some 24, .load 174 (Operand.tmp 23), none, 0⟩,
 ⟨some 25, .call ⟨(Callee.builtin Builtin.copy), [(Operand.tmp 20), (Operand.tmp 24)].toArray, #[174, 174]⟩, none, 0⟩])
 (.ops [⟨some 26, .move (Operand.tmp 0), none, 0⟩,
 ⟨some 27, .move (Operand.tmp 4), none, 0⟩,
 ⟨some 28, .nilCheck (Operand.tmp 26), none, 0⟩,
 ⟨some 29, .fieldAddr 176 (Operand.tmp 28) 1, none, 0⟩,
 ⟨none, .store 174 (Operand.tmp 29) (Operand.tmp 27), none, 0⟩])))
abbrev R181 : List ResultVar := []
theorem ok181 : FnOK Tryz.prog 181 L181 R181 2 := ⟨_, _, Tryz.func181, rfl, by kernel_rfl, by kernel_rfl, by kernel_rfl, by kernel_rfl, Nat.le_of_ble_eq_true (by kernel_rfl), by kernel_rfl⟩
end Go.Proofs.YtldlcejlfaogbaaGreatDoor.Vs
