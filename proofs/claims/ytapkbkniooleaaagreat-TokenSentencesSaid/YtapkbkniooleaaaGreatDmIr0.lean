/- The seat's functions as the engine Dm reads them, written by dgen.py. -/
import Derived.Test.YtapkbkniooleaaaGreatDmFn
import Derived.Test.YtapkbkniooleaaaGreatProg
import Derived.KernelRfl
namespace Go.Proofs.YtapkbkniooleaaaGreat.Vs
set_option linter.unusedVariables false
set_option maxRecDepth 100000
/-- ablaut/ablautlaw17.TokenSentences -/
def L3 : LCode :=
 (.seq
 (.ops [⟨some 2, .box 24 (Operand.tmp 0), none, 0⟩,
 ⟨some 4, .assign (Operand.const (Value.bool false)), none, 0⟩])
 (.seq
 (.seq
 (.ops [⟨some 19, .load 24 (Operand.tmp 2), none, 0⟩,
 ⟨some 20, .call ⟨(Callee.value (Operand.func 4)), [(Operand.tmp 19)].toArray, #[24]⟩, none, 0⟩,
 ⟨some 21, .move (Operand.tmp 20), none, 0⟩,
 ⟨some 22, .move (Operand.tmp 1), some (21, false), 0⟩,
 ⟨some 23, .call ⟨(Callee.builtin Builtin.len), [(Operand.tmp 22)].toArray, #[9]⟩, some (21, false), 0⟩,
 ⟨some 24, .binOp BinOp.gtr 3 (Operand.tmp 23) (Operand.const (Value.int IntKind.i64 24000)) 3, some (21, false), 0⟩,
 ⟨some 25, .pick (Operand.tmp 21) (Operand.const (Value.bool true)) (Operand.tmp 24), none, 0⟩])
 (.cond (Operand.tmp 25)
 (.seq
 (.ops [⟨some 26, .call ⟨(Callee.value (Operand.func 5)), [].toArray, #[]⟩, none, 0⟩,
 ⟨some 4, .assign (Operand.tmp 26), none, 0⟩])
 .ret)
 .skip))
 (.seq
 (.ops [⟨some 28, .load 24 (Operand.tmp 2), none, 0⟩,
 ⟨some 29, .move (Operand.tmp 1), none, 0⟩,
 ⟨some 30, .call ⟨(Callee.value (Operand.func 6)), [(Operand.tmp 28), (Operand.tmp 29)].toArray, #[24, 9]⟩, none, 0⟩,
 ⟨some 27, .move (Operand.tmp 30), none, 0⟩,
 ⟨some 31, .extract (Operand.tmp 27) 0, none, 0⟩,
 ⟨some 32, .extract (Operand.tmp 27) 1, none, 0⟩,
 ⟨some 5, .assign (Operand.tmp 31), none, 0⟩,
 ⟨some 6, .assign (Operand.tmp 32), none, 0⟩])
 (.seq
 (.ops [⟨some 34, .load 24 (Operand.tmp 2), none, 0⟩,
 ⟨some 35, .move (Operand.tmp 1), none, 0⟩,
 ⟨some 36, .call ⟨(Callee.value (Operand.func 7)), [(Operand.tmp 34), (Operand.tmp 35)].toArray, #[24, 9]⟩, none, 0⟩,
 ⟨some 33, .move (Operand.tmp 36), none, 0⟩,
 ⟨some 37, .extract (Operand.tmp 33) 0, none, 0⟩,
 ⟨some 38, .extract (Operand.tmp 33) 1, none, 0⟩,
 ⟨some 7, .assign (Operand.tmp 37), none, 0⟩,
 ⟨some 8, .assign (Operand.tmp 38), none, 0⟩])
 (.seq
 (.seq
 (.ops [⟨some 39, .move (Operand.tmp 5), none, 0⟩,
 ⟨some 40, .call ⟨(Callee.builtin Builtin.len), [(Operand.tmp 39)].toArray, #[27]⟩, none, 0⟩,
 ⟨some 41, .move (Operand.tmp 7), none, 0⟩,
 ⟨some 42, .call ⟨(Callee.builtin Builtin.len), [(Operand.tmp 41)].toArray, #[27]⟩, none, 0⟩,
 ⟨some 43, .binOp BinOp.neq 3 (Operand.tmp 40) (Operand.tmp 42) 3, none, 0⟩,
 ⟨some 44, .move (Operand.tmp 43), none, 0⟩,
 ⟨some 45, .move (Operand.tmp 6), some (44, false), 0⟩,
 ⟨some 46, .move (Operand.tmp 8), some (44, false), 0⟩,
 ⟨some 47, .binOp BinOp.neq 28 (Operand.tmp 45) (Operand.tmp 46) 28, some (44, false), 0⟩,
 ⟨some 48, .pick (Operand.tmp 44) (Operand.const (Value.bool true)) (Operand.tmp 47), none, 0⟩])
 (.cond (Operand.tmp 48)
 (.seq
 (.ops [⟨some 4, .assign (Operand.const (Value.bool false)), none, 0⟩])
 .ret)
 .skip))
 (.seq
 (.seq
 (.ops [⟨some 9, .assign (Operand.const (Value.int IntKind.i64 0)), none, 0⟩])
 (.block 0
 (.loop
 (.seq
 (.seq
 (.ops [⟨some 49, .move (Operand.tmp 9), none, 0⟩,
 ⟨some 50, .move (Operand.tmp 5), none, 0⟩,
 ⟨some 51, .call ⟨(Callee.builtin Builtin.len), [(Operand.tmp 50)].toArray, #[27]⟩, none, 0⟩,
 ⟨some 52, .binOp BinOp.lss 3 (Operand.tmp 49) (Operand.tmp 51) 3, none, 0⟩])
 (.cond (Operand.tmp 52)
 .skip
 (.exit 0)))
 (.seq
 (.block 1
 (.seq
 (.draw [⟨some 55, .move (Operand.tmp 5), none, 0⟩,
 ⟨some 56, .move (Operand.tmp 9), none, 0⟩,
 ⟨some 57, .indexAddr 27 (Operand.tmp 55) (Operand.tmp 56), none, 0⟩,
 ⟨some 58, .load 3 (Operand.tmp 57), none, 0⟩,
 ⟨some 59, .move (Operand.tmp 7), none, 0⟩,
 ⟨some 60, .move (Operand.tmp 9), none, 0⟩,
 ⟨some 61, .indexAddr 27 (Operand.tmp 59) (Operand.tmp 60), none, 0⟩,
 ⟨some 62, .load 3 (Operand.tmp 61), none, 0⟩,
 ⟨some 63, .binOp BinOp.neq 3 (Operand.tmp 58) (Operand.tmp 62) 3, none, 0⟩] true [8] [0, 1, 2, 4, 5, 6, 3, 7, 8])
 (.cond (Operand.tmp 63)
 (.seq
 (.ops [⟨some 4, .assign (Operand.const (Value.bool false)), none, 0⟩])
 .ret)
 .skip)))
 (.ops [⟨some 53, .move (Operand.tmp 9), none, 0⟩,
 ⟨some 54, .binOp BinOp.add 3 (Operand.tmp 53) (Operand.const (Value.int IntKind.i64 1)) 3, none, 0⟩,
 ⟨some 9, .assign (Operand.tmp 54), none, 0⟩]))))))
 (.seq
 (.ops [⟨some 65, .load 24 (Operand.tmp 2), none, 0⟩,
 ⟨some 66, .move (Operand.tmp 1), none, 0⟩,
 ⟨some 67, .call ⟨(Callee.value (Operand.func 8)), [(Operand.tmp 65), (Operand.tmp 66)].toArray, #[24, 9]⟩, none, 0⟩,
 ⟨some 64, .move (Operand.tmp 67), none, 0⟩,
 ⟨some 68, .extract (Operand.tmp 64) 0, none, 0⟩,
 ⟨some 69, .extract (Operand.tmp 64) 1, none, 0⟩,
 ⟨some 10, .assign (Operand.tmp 68), none, 0⟩,
 ⟨some 11, .assign (Operand.tmp 69), none, 0⟩])
 (.seq
 (.ops [⟨some 71, .load 24 (Operand.tmp 2), none, 0⟩,
 ⟨some 72, .move (Operand.tmp 1), none, 0⟩,
 ⟨some 73, .call ⟨(Callee.value (Operand.func 9)), [(Operand.tmp 71), (Operand.tmp 72)].toArray, #[24, 9]⟩, none, 0⟩,
 ⟨some 70, .move (Operand.tmp 73), none, 0⟩,
 ⟨some 74, .extract (Operand.tmp 70) 0, none, 0⟩,
 ⟨some 75, .extract (Operand.tmp 70) 1, none, 0⟩,
 ⟨some 12, .assign (Operand.tmp 74), none, 0⟩,
 ⟨some 13, .assign (Operand.tmp 75), none, 0⟩])
 (.seq
 (.seq
 (.ops [⟨some 76, .move (Operand.tmp 10), none, 0⟩,
 ⟨some 77, .call ⟨(Callee.builtin Builtin.len), [(Operand.tmp 76)].toArray, #[31]⟩, none, 0⟩,
 ⟨some 78, .move (Operand.tmp 12), none, 0⟩,
 ⟨some 79, .call ⟨(Callee.builtin Builtin.len), [(Operand.tmp 78)].toArray, #[31]⟩, none, 0⟩,
 ⟨some 80, .binOp BinOp.neq 3 (Operand.tmp 77) (Operand.tmp 79) 3, none, 0⟩,
 ⟨some 81, .move (Operand.tmp 80), none, 0⟩,
 ⟨some 82, .move (Operand.tmp 11), some (81, false), 0⟩,
 ⟨some 83, .move (Operand.tmp 13), some (81, false), 0⟩,
 ⟨some 84, .binOp BinOp.neq 28 (Operand.tmp 82) (Operand.tmp 83) 28, some (81, false), 0⟩,
 ⟨some 85, .pick (Operand.tmp 81) (Operand.const (Value.bool true)) (Operand.tmp 84), none, 0⟩])
 (.cond (Operand.tmp 85)
 (.seq
 (.ops [⟨some 4, .assign (Operand.const (Value.bool false)), none, 0⟩])
 .ret)
 .skip))
 (.seq
 (.seq
 (.ops [⟨some 14, .assign (Operand.const (Value.int IntKind.i64 0)), none, 0⟩])
 (.block 2
 (.loop
 (.seq
 (.seq
 (.ops [⟨some 86, .move (Operand.tmp 14), none, 0⟩,
 ⟨some 87, .move (Operand.tmp 10), none, 0⟩,
 ⟨some 88, .call ⟨(Callee.builtin Builtin.len), [(Operand.tmp 87)].toArray, #[31]⟩, none, 0⟩,
 ⟨some 89, .binOp BinOp.lss 3 (Operand.tmp 86) (Operand.tmp 88) 3, none, 0⟩])
 (.cond (Operand.tmp 89)
 .skip
 (.exit 2)))
 (.seq
 (.block 3
 (.seq
 (.draw [⟨some 92, .move (Operand.tmp 10), none, 0⟩,
 ⟨some 93, .move (Operand.tmp 14), none, 0⟩,
 ⟨some 94, .indexAddr 31 (Operand.tmp 92) (Operand.tmp 93), none, 0⟩,
 ⟨some 95, .load 4 (Operand.tmp 94), none, 0⟩,
 ⟨some 96, .move (Operand.tmp 12), none, 0⟩,
 ⟨some 97, .move (Operand.tmp 14), none, 0⟩,
 ⟨some 98, .indexAddr 31 (Operand.tmp 96) (Operand.tmp 97), none, 0⟩,
 ⟨some 99, .load 4 (Operand.tmp 98), none, 0⟩,
 ⟨some 100, .binOp BinOp.neq 4 (Operand.tmp 95) (Operand.tmp 99) 4, none, 0⟩] true [8] [0, 1, 2, 4, 5, 6, 3, 7, 8])
 (.cond (Operand.tmp 100)
 (.seq
 (.ops [⟨some 4, .assign (Operand.const (Value.bool false)), none, 0⟩])
 .ret)
 .skip)))
 (.ops [⟨some 90, .move (Operand.tmp 14), none, 0⟩,
 ⟨some 91, .binOp BinOp.add 3 (Operand.tmp 90) (Operand.const (Value.int IntKind.i64 1)) 3, none, 0⟩,
 ⟨some 14, .assign (Operand.tmp 91), none, 0⟩]))))))
 (.seq
 (.ops [⟨some 102, .load 24 (Operand.tmp 2), none, 0⟩,
 ⟨some 103, .move (Operand.tmp 1), none, 0⟩,
 ⟨some 104, .call ⟨(Callee.value (Operand.func 10)), [(Operand.tmp 102), (Operand.tmp 103)].toArray, #[24, 9]⟩, none, 0⟩,
 ⟨some 101, .move (Operand.tmp 104), none, 0⟩,
 ⟨some 105, .extract (Operand.tmp 101) 0, none, 0⟩,
 ⟨some 106, .extract (Operand.tmp 101) 1, none, 0⟩,
 ⟨some 15, .assign (Operand.tmp 105), none, 0⟩,
 ⟨some 16, .assign (Operand.tmp 106), none, 0⟩])
 (.seq
 (.ops [⟨some 108, .load 24 (Operand.tmp 2), none, 0⟩,
 ⟨some 109, .move (Operand.tmp 1), none, 0⟩,
 ⟨some 110, .call ⟨(Callee.value (Operand.func 11)), [(Operand.tmp 108), (Operand.tmp 109)].toArray, #[24, 9]⟩, none, 0⟩,
 ⟨some 107, .move (Operand.tmp 110), none, 0⟩,
 ⟨some 111, .extract (Operand.tmp 107) 0, none, 0⟩,
 ⟨some 112, .extract (Operand.tmp 107) 1, none, 0⟩,
 ⟨some 17, .assign (Operand.tmp 111), none, 0⟩,
 ⟨some 18, .assign (Operand.tmp 112), none, 0⟩])
 (.seq
 (.ops [⟨some 113, .move (Operand.tmp 15), none, 0⟩,
 ⟨some 114, .move (Operand.tmp 17), none, 0⟩,
 ⟨some 115, .call ⟨(Callee.value (Operand.func 12)), [(Operand.tmp 113), (Operand.tmp 114)].toArray, #[22, 22]⟩, none, 0⟩,
 ⟨some 116, .move (Operand.tmp 115), none, 0⟩,
 ⟨some 117, .move (Operand.tmp 16), some (116, true), 0⟩,
 ⟨some 118, .move (Operand.tmp 18), some (116, true), 0⟩,
 ⟨some 119, .binOp BinOp.eql 28 (Operand.tmp 117) (Operand.tmp 118) 28, some (116, true), 0⟩,
 ⟨some 120, .pick (Operand.tmp 116) (Operand.tmp 119) (Operand.const (Value.bool false)), none, 0⟩,
 ⟨some 121, .move (Operand.tmp 120), none, 0⟩,
 ⟨some 122, .call ⟨(Callee.value (Operand.func 5)), [].toArray, #[]⟩, some (121, true), 0⟩,
 ⟨some 123, .pick (Operand.tmp 121) (Operand.tmp 122) (Operand.const (Value.bool false)), none, 0⟩,
 ⟨some 4, .assign (Operand.tmp 123), none, 0⟩])
 .ret)))))))))))))
abbrev R3 : List ResultVar := [ResultVar.tmp 4]
theorem ok3 : FnOK Tryz.prog 3 L3 R3 2 := ⟨_, _, Tryz.func3, rfl, by kernel_rfl, by kernel_rfl, by kernel_rfl, by kernel_rfl, Nat.le_of_ble_eq_true (by kernel_rfl), by kernel_rfl⟩

/-- ablaut/ablautlaw17.over -/
def L4 : LCode :=
 (.seq
 (.ops [⟨some 1, .box 24 (Operand.tmp 0), none, 0⟩,
 ⟨some 2, .assign (Operand.const (Value.bool false)), none, 0⟩])
 (.seq
 (.ops [⟨some 3, .assign (Operand.const (Value.int IntKind.i64 0)), none, 0⟩])
 (.seq
 (.ops [⟨some 7, .fieldAddr 24 (Operand.tmp 1) 0, none, 0⟩,
 ⟨some 8, .load 22 (Operand.tmp 7), none, 0⟩,
 ⟨some 9, .fieldAddr 24 (Operand.tmp 1) 1, none, 0⟩,
 ⟨some 10, .load 22 (Operand.tmp 9), none, 0⟩,
 ⟨some 11, .fieldAddr 24 (Operand.tmp 1) 2, none, 0⟩,
 ⟨some 12, .load 22 (Operand.tmp 11), none, 0⟩,
 ⟨some 13, .fieldAddr 24 (Operand.tmp 1) 3, none, 0⟩,
 ⟨some 14, .load 22 (Operand.tmp 13), none, 0⟩,
 ⟨some 15, .build 38 [(0, (Operand.tmp 8)), (1, (Operand.tmp 10)), (2, (Operand.tmp 12)), (3, (Operand.tmp 14))].toArray, none, 0⟩,
 ⟨some 4, .alloc 38, none, 0⟩,
 ⟨none, .store 38 (Operand.tmp 4) (Operand.tmp 15), none, 0⟩])
 (.seq
 (.seq
 (.ops [⟨some 5, .assign (Operand.const (Value.int IntKind.i64 0)), none, 0⟩])
 (.block 0
 (.loop
 (.seq
 (.seq
 (.ops [⟨some 16, .move (Operand.tmp 5), none, 0⟩,
 ⟨some 17, .binOp BinOp.lss 3 (Operand.tmp 16) (Operand.const (Value.int IntKind.i64 4)) 3, none, 0⟩])
 (.cond (Operand.tmp 17)
 .skip
 (.exit 0)))
 (.seq
 (.block 1
 (.seq
 (.seq
 (.ops [⟨some 20, .move (Operand.tmp 5), none, 0⟩,
 ⟨some 21, .indexAddr 38 (Operand.tmp 4) (Operand.tmp 20), none, 0⟩,
 ⟨some 22, .load 22 (Operand.tmp 21), none, 0⟩,
 ⟨some 23, .call ⟨(Callee.builtin Builtin.len), [(Operand.tmp 22)].toArray, #[22]⟩, none, 0⟩,
 ⟨some 24, .binOp BinOp.gtr 3 (Operand.tmp 23) (Operand.const (Value.int IntKind.i64 1200)) 3, none, 0⟩])
 (.cond (Operand.tmp 24)
 (.seq
 (.ops [⟨some 2, .assign (Operand.const (Value.bool true)), none, 0⟩])
 .ret)
 .skip))
 (.seq
 (.ops [⟨some 6, .assign (Operand.const (Value.int IntKind.i64 0)), none, 0⟩])
 (.block 2
 (.loop
 (.seq
 (.seq
 (.ops [⟨some 25, .move (Operand.tmp 6), none, 0⟩,
 ⟨some 26, .move (Operand.tmp 5), none, 0⟩,
 ⟨some 27, .indexAddr 38 (Operand.tmp 4) (Operand.tmp 26), none, 0⟩,
 ⟨some 28, .load 22 (Operand.tmp 27), none, 0⟩,
 ⟨some 29, .call ⟨(Callee.builtin Builtin.len), [(Operand.tmp 28)].toArray, #[22]⟩, none, 0⟩,
 ⟨some 30, .binOp BinOp.lss 3 (Operand.tmp 25) (Operand.tmp 29) 3, none, 0⟩,
 ⟨some 31, .move (Operand.tmp 30), none, 0⟩,
 ⟨some 32, .move (Operand.tmp 3), some (31, true), 0⟩,
 ⟨some 33, .binOp BinOp.leq 3 (Operand.tmp 32) (Operand.const (Value.int IntKind.i64 768000)) 3, some (31, true), 0⟩,
 ⟨some 34, .pick (Operand.tmp 31) (Operand.tmp 33) (Operand.const (Value.bool false)), none, 0⟩])
 (.cond (Operand.tmp 34)
 .skip
 (.exit 2)))
 (.seq
 (.block 3
 (.ops [⟨some 37, .move (Operand.tmp 3), none, 0⟩,
 ⟨some 38, .move (Operand.tmp 5), none, 0⟩,
 ⟨some 39, .indexAddr 38 (Operand.tmp 4) (Operand.tmp 38), none, 0⟩,
 ⟨some 40, .load 22 (Operand.tmp 39), none, 0⟩,
 ⟨some 41, .move (Operand.tmp 6), none, 0⟩,
 ⟨some 42, .indexAddr 22 (Operand.tmp 40) (Operand.tmp 41), none, 0⟩,
 ⟨some 43, .load 9 (Operand.tmp 42), none, 0⟩,
 ⟨some 44, .call ⟨(Callee.builtin Builtin.len), [(Operand.tmp 43)].toArray, #[9]⟩, none, 0⟩,
 ⟨some 45, .binOp BinOp.add 3 (Operand.tmp 37) (Operand.tmp 44) 3, none, 0⟩,
 ⟨some 3, .assign (Operand.tmp 45), none, 0⟩]))
 (.ops [⟨some 35, .move (Operand.tmp 6), none, 0⟩,
 ⟨some 36, .binOp BinOp.add 3 (Operand.tmp 35) (Operand.const (Value.int IntKind.i64 1)) 3, none, 0⟩,
 ⟨some 6, .assign (Operand.tmp 36), none, 0⟩]))))))))
 (.ops [⟨some 18, .move (Operand.tmp 5), none, 0⟩,
 ⟨some 19, .binOp BinOp.add 3 (Operand.tmp 18) (Operand.const (Value.int IntKind.i64 1)) 3, none, 0⟩,
 ⟨some 5, .assign (Operand.tmp 19), none, 0⟩]))))))
 (.seq
 (.ops [⟨some 46, .move (Operand.tmp 3), none, 0⟩,
 ⟨some 47, .binOp BinOp.gtr 3 (Operand.tmp 46) (Operand.const (Value.int IntKind.i64 768000)) 3, none, 0⟩,
 ⟨some 2, .assign (Operand.tmp 47), none, 0⟩])
 .ret)))))
abbrev R4 : List ResultVar := [ResultVar.tmp 2]
theorem ok4 : FnOK Tryz.prog 4 L4 R4 1 := ⟨_, _, Tryz.func4, rfl, by kernel_rfl, by kernel_rfl, by kernel_rfl, by kernel_rfl, Nat.le_of_ble_eq_true (by kernel_rfl), by kernel_rfl⟩

/-- ablaut/ablautlaw17.known -/
def L5 : LCode :=
 (.seq
 (.ops [⟨some 0, .assign (Operand.const (Value.bool false)), none, 0⟩])
 (.seq
 (.ops [⟨some 6, .buildSlice 22 1 [(0, (Operand.const (Value.string ⟨#[68, 114, 46]⟩)))].toArray, none, 0⟩,
 ⟨some 7, .buildSlice 22 1 [(0, (Operand.const (Value.string ⟨#[39, 115]⟩)))].toArray, none, 0⟩,
 ⟨some 8, .build 24 [(1, (Operand.tmp 6)), (3, (Operand.tmp 7))].toArray, none, 0⟩,
 ⟨some 1, .alloc 24, none, 0⟩,
 ⟨none, .store 24 (Operand.tmp 1) (Operand.tmp 8), none, 0⟩])
 (.seq
 (.ops [⟨some 10, .load 24 (Operand.tmp 1), none, 0⟩,
 ⟨some 11, .call ⟨(Callee.value (Operand.func 13)), [(Operand.tmp 10), (Operand.const (Value.string ⟨#[68, 114, 46, 32, 76, 101, 101, 39, 115, 32, 99, 97, 116, 46, 32, 73, 116, 32, 114, 97, 110, 46]⟩))].toArray, #[24, 9]⟩, none, 0⟩,
 ⟨some 9, .move (Operand.tmp 11), none, 0⟩,
 ⟨some 12, .extract (Operand.tmp 9) 0, none, 0⟩,
 ⟨some 13, .extract (Operand.tmp 9) 1, none, 0⟩,
 ⟨some 2, .assign (Operand.tmp 12), none, 0⟩,
 ⟨some 3, .assign (Operand.tmp 13), none, 0⟩])
 (.seq
 (.ops [⟨some 15, .load 24 (Operand.tmp 1), none, 0⟩,
 ⟨some 16, .call ⟨(Callee.value (Operand.func 6)), [(Operand.tmp 15), (Operand.const (Value.string ⟨#[68, 114, 46, 32, 76, 101, 101, 39, 115, 32, 99, 97, 116, 46, 32, 73, 116, 32, 114, 97, 110, 46]⟩))].toArray, #[24, 9]⟩, none, 0⟩,
 ⟨some 14, .move (Operand.tmp 16), none, 0⟩,
 ⟨some 17, .extract (Operand.tmp 14) 0, none, 0⟩,
 ⟨some 18, .extract (Operand.tmp 14) 1, none, 0⟩,
 ⟨some 4, .assign (Operand.tmp 17), none, 0⟩,
 ⟨some 5, .assign (Operand.tmp 18), none, 0⟩])
 (.seq
 (.ops [⟨some 19, .move (Operand.tmp 3), none, 0⟩,
 ⟨some 20, .binOp BinOp.eql 28 (Operand.tmp 19) (Operand.const (Value.int IntKind.i64 0)) 28, none, 0⟩,
 ⟨some 21, .move (Operand.tmp 20), none, 0⟩,
 ⟨some 22, .move (Operand.tmp 5), some (21, true), 0⟩,
 ⟨some 23, .binOp BinOp.eql 28 (Operand.tmp 22) (Operand.const (Value.int IntKind.i64 0)) 28, some (21, true), 0⟩,
 ⟨some 24, .pick (Operand.tmp 21) (Operand.tmp 23) (Operand.const (Value.bool false)), none, 0⟩,
 ⟨some 25, .move (Operand.tmp 24), none, 0⟩,
 ⟨some 26, .move (Operand.tmp 2), some (25, true), 0⟩,
 ⟨some 27, .call ⟨(Callee.builtin Builtin.len), [(Operand.tmp 26)].toArray, #[39]⟩, some (25, true), 0⟩,
 ⟨some 28, .binOp BinOp.eql 3 (Operand.tmp 27) (Operand.const (Value.int IntKind.i64 8)) 3, some (25, true), 0⟩,
 ⟨some 29, .pick (Operand.tmp 25) (Operand.tmp 28) (Operand.const (Value.bool false)), none, 0⟩,
 ⟨some 30, .move (Operand.tmp 29), none, 0⟩,
 ⟨some 31, .move (Operand.tmp 2), some (30, true), 0⟩,
 ⟨some 32, .indexAddr 39 (Operand.tmp 31) (Operand.const (Value.int IntKind.i64 2)), some (30, true), 0⟩,
 ⟨some 33, .fieldAddr 43 (Operand.tmp 32) 3, some (30, true), 0⟩,
 ⟨some 34, .load 9 (Operand.tmp 33), some (30, true), 0⟩,
 ⟨some 35, .binOp BinOp.eql 9 (Operand.tmp 34) (Operand.const (Value.string ⟨#[39, 115]⟩)) 9, some (30, true), 0⟩,
 ⟨some 36, .pick (Operand.tmp 30) (Operand.tmp 35) (Operand.const (Value.bool false)), none, 0⟩,
 ⟨some 37, .move (Operand.tmp 36), none, 0⟩,
 ⟨some 38, .move (Operand.tmp 2), some (37, true), 0⟩,
 ⟨some 39, .indexAddr 39 (Operand.tmp 38) (Operand.const (Value.int IntKind.i64 2)), some (37, true), 0⟩,
 ⟨some 40, .fieldAddr 43 (Operand.tmp 39) 2, some (37, true), 0⟩,
 ⟨some 41, .load 3 (Operand.tmp 40), some (37, true), 0⟩,
 ⟨some 42, .binOp BinOp.eql 3 (Operand.tmp 41) (Operand.const (Value.int IntKind.i64 5)) 3, some (37, true), 0⟩,
 ⟨some 43, .pick (Operand.tmp 37) (Operand.tmp 42) (Operand.const (Value.bool false)), none, 0⟩,
 ⟨some 44, .move (Operand.tmp 43), none, 0⟩,
 ⟨some 45, .move (Operand.tmp 4), some (44, true), 0⟩,
 ⟨some 46, .call ⟨(Callee.builtin Builtin.len), [(Operand.tmp 45)].toArray, #[27]⟩, some (44, true), 0⟩,
 ⟨some 47, .binOp BinOp.eql 3 (Operand.tmp 46) (Operand.const (Value.int IntKind.i64 2)) 3, some (44, true), 0⟩,
 ⟨some 48, .pick (Operand.tmp 44) (Operand.tmp 47) (Operand.const (Value.bool false)), none, 0⟩,
 ⟨some 49, .move (Operand.tmp 48), none, 0⟩,
 ⟨some 50, .move (Operand.tmp 4), some (49, true), 0⟩,
 ⟨some 51, .indexAddr 27 (Operand.tmp 50) (Operand.const (Value.int IntKind.i64 1)), some (49, true), 0⟩,
 ⟨some 52, .load 3 (Operand.tmp 51), some (49, true), 0⟩,
 ⟨some 53, .binOp BinOp.eql 3 (Operand.tmp 52) (Operand.const (Value.int IntKind.i64 5)) 3, some (49, true), 0⟩,
 ⟨some 54, .pick (Operand.tmp 49) (Operand.tmp 53) (Operand.const (Value.bool false)), none, 0⟩,
 ⟨some 0, .assign (Operand.tmp 54), none, 0⟩])
 .ret)))))
abbrev R5 : List ResultVar := [ResultVar.tmp 0]
theorem ok5 : FnOK Tryz.prog 5 L5 R5 0 := ⟨_, _, Tryz.func5, rfl, by kernel_rfl, by kernel_rfl, by kernel_rfl, by kernel_rfl, Nat.le_of_ble_eq_true (by kernel_rfl), by kernel_rfl⟩

/-- ablaut/token.Sentences -/
def L6 : LCode :=
 (.seq
 (.ops [⟨some 2, .box 24 (Operand.tmp 0), none, 0⟩,
 ⟨some 4, .assign (Operand.const (Value.slice none 0 0)), none, 0⟩,
 ⟨some 5, .assign (Operand.const (Value.int IntKind.i64 0)), none, 0⟩])
 (.seq
 (.ops [⟨some 9, .load 24 (Operand.tmp 2), none, 0⟩,
 ⟨some 10, .move (Operand.tmp 1), none, 0⟩,
 ⟨some 11, .call ⟨(Callee.value (Operand.func 13)), [(Operand.tmp 9), (Operand.tmp 10)].toArray, #[24, 9]⟩, none, 0⟩,
 ⟨some 8, .move (Operand.tmp 11), none, 0⟩,
 ⟨some 12, .extract (Operand.tmp 8) 0, none, 0⟩,
 ⟨some 13, .extract (Operand.tmp 8) 1, none, 0⟩,
 ⟨some 6, .assign (Operand.tmp 12), none, 0⟩,
 ⟨some 7, .assign (Operand.tmp 13), none, 0⟩])
 (.seq
 (.seq
 (.ops [⟨some 14, .move (Operand.tmp 7), none, 0⟩,
 ⟨some 15, .binOp BinOp.neq 28 (Operand.tmp 14) (Operand.const (Value.int IntKind.i64 0)) 28, none, 0⟩])
 (.cond (Operand.tmp 15)
 (.seq
 (.ops [⟨some 16, .move (Operand.tmp 7), none, 0⟩,
 ⟨some 4, .assign (Operand.const (Value.slice none 0 0)), none, 0⟩,
 ⟨some 5, .assign (Operand.tmp 16), none, 0⟩])
 .ret)
 .skip))
 (.seq
 (.ops [⟨some 17, .move (Operand.tmp 6), none, 0⟩,
 ⟨some 18, .call ⟨(Callee.value (Operand.func 14)), [(Operand.tmp 17)].toArray, #[39]⟩, none, 0⟩,
 ⟨some 4, .assign (Operand.tmp 18), none, 0⟩,
 ⟨some 5, .assign (Operand.const (Value.int IntKind.i64 0)), none, 0⟩])
 .ret))))
abbrev R6 : List ResultVar := [ResultVar.tmp 4, ResultVar.tmp 5]
theorem ok6 : FnOK Tryz.prog 6 L6 R6 2 := ⟨_, _, Tryz.func6, rfl, by kernel_rfl, by kernel_rfl, by kernel_rfl, by kernel_rfl, Nat.le_of_ble_eq_true (by kernel_rfl), by kernel_rfl⟩

/-- ablaut/ablautref17.Sentences -/
def L7 : LCode :=
 (.seq
 (.ops [⟨some 2, .box 24 (Operand.tmp 0), none, 0⟩,
 ⟨some 4, .assign (Operand.const (Value.slice none 0 0)), none, 0⟩,
 ⟨some 5, .assign (Operand.const (Value.int IntKind.i64 0)), none, 0⟩])
 (.seq
 (.ops [⟨some 11, .load 24 (Operand.tmp 2), none, 0⟩,
 ⟨some 12, .move (Operand.tmp 1), none, 0⟩,
 ⟨some 13, .call ⟨(Callee.value (Operand.func 9)), [(Operand.tmp 11), (Operand.tmp 12)].toArray, #[24, 9]⟩, none, 0⟩,
 ⟨some 10, .move (Operand.tmp 13), none, 0⟩,
 ⟨some 14, .extract (Operand.tmp 10) 0, none, 0⟩,
 ⟨some 15, .extract (Operand.tmp 10) 1, none, 0⟩,
 ⟨some 6, .assign (Operand.tmp 14), none, 0⟩,
 ⟨some 7, .assign (Operand.tmp 15), none, 0⟩])
 (.seq
 (.ops [⟨some 8, .assign (Operand.const (Value.slice none 0 0)), none, 0⟩])
 (.seq
 (.seq
 (.ops [⟨some 9, .assign (Operand.const (Value.int IntKind.i64 0)), none, 0⟩])
 (.block 0
 (.loop
 (.seq
 (.seq
 (.ops [⟨some 16, .move (Operand.tmp 9), none, 0⟩,
 ⟨some 17, .move (Operand.tmp 6), none, 0⟩,
 ⟨some 18, .call ⟨(Callee.builtin Builtin.len), [(Operand.tmp 17)].toArray, #[31]⟩, none, 0⟩,
 ⟨some 19, .binOp BinOp.lss 3 (Operand.tmp 16) (Operand.tmp 18) 3, none, 0⟩])
 (.cond (Operand.tmp 19)
 .skip
 (.exit 0)))
 (.seq
 (.block 1
 (.seq
 (.ops [⟨some 22, .move (Operand.tmp 6), none, 0⟩,
 ⟨some 23, .move (Operand.tmp 9), none, 0⟩,
 ⟨some 24, .indexAddr 31 (Operand.tmp 22) (Operand.tmp 23), none, 0⟩,
 ⟨some 25, .load 4 (Operand.tmp 24), none, 0⟩])
 (.cond (Operand.tmp 25)
 (.ops [⟨some 26, .move (Operand.tmp 8), none, 0⟩,
 ⟨some 27, .move (Operand.tmp 9), none, 0⟩,
 ⟨some 28, .buildSlice 27 1 [(0, (Operand.tmp 27))].toArray, none, 0⟩,
 ⟨some 29, .call ⟨(Callee.builtin Builtin.append), [(Operand.tmp 26), (Operand.tmp 28)].toArray, #[27, 27]⟩, none, 0⟩,
 ⟨some 8, .assign (Operand.tmp 29), none, 0⟩])
 .skip)))
 (.ops [⟨some 20, .move (Operand.tmp 9), none, 0⟩,
 ⟨some 21, .binOp BinOp.add 3 (Operand.tmp 20) (Operand.const (Value.int IntKind.i64 1)) 3, none, 0⟩,
 ⟨some 9, .assign (Operand.tmp 21), none, 0⟩]))))))
 (.seq
 (.ops [⟨some 30, .move (Operand.tmp 8), none, 0⟩,
 ⟨some 31, .move (Operand.tmp 7), none, 0⟩,
 ⟨some 4, .assign (Operand.tmp 30), none, 0⟩,
 ⟨some 5, .assign (Operand.tmp 31), none, 0⟩])
 .ret)))))
abbrev R7 : List ResultVar := [ResultVar.tmp 4, ResultVar.tmp 5]
theorem ok7 : FnOK Tryz.prog 7 L7 R7 2 := ⟨_, _, Tryz.func7, rfl, by kernel_rfl, by kernel_rfl, by kernel_rfl, by kernel_rfl, Nat.le_of_ble_eq_true (by kernel_rfl), by kernel_rfl⟩

/-- ablaut/token.Starts -/
def L8 : LCode :=
 (.seq
 (.ops [⟨some 2, .box 24 (Operand.tmp 0), none, 0⟩,
 ⟨some 4, .assign (Operand.const (Value.slice none 0 0)), none, 0⟩,
 ⟨some 5, .assign (Operand.const (Value.int IntKind.i64 0)), none, 0⟩])
 (.seq
 (.ops [⟨some 12, .load 24 (Operand.tmp 2), none, 0⟩,
 ⟨some 13, .move (Operand.tmp 1), none, 0⟩,
 ⟨some 14, .call ⟨(Callee.value (Operand.func 13)), [(Operand.tmp 12), (Operand.tmp 13)].toArray, #[24, 9]⟩, none, 0⟩,
 ⟨some 11, .move (Operand.tmp 14), none, 0⟩,
 ⟨some 15, .extract (Operand.tmp 11) 0, none, 0⟩,
 ⟨some 16, .extract (Operand.tmp 11) 1, none, 0⟩,
 ⟨some 6, .assign (Operand.tmp 15), none, 0⟩,
 ⟨some 7, .assign (Operand.tmp 16), none, 0⟩])
 (.seq
 (.seq
 (.ops [⟨some 17, .move (Operand.tmp 7), none, 0⟩,
 ⟨some 18, .binOp BinOp.neq 28 (Operand.tmp 17) (Operand.const (Value.int IntKind.i64 0)) 28, none, 0⟩])
 (.cond (Operand.tmp 18)
 (.seq
 (.ops [⟨some 19, .move (Operand.tmp 7), none, 0⟩,
 ⟨some 4, .assign (Operand.const (Value.slice none 0 0)), none, 0⟩,
 ⟨some 5, .assign (Operand.tmp 19), none, 0⟩])
 .ret)
 .skip))
 (.seq
 (.ops [⟨some 20, .move (Operand.tmp 6), none, 0⟩,
 ⟨some 21, .call ⟨(Callee.builtin Builtin.len), [(Operand.tmp 20)].toArray, #[39]⟩, none, 0⟩,
 ⟨some 22, .makeSlice 31 (Operand.tmp 21) (Operand.tmp 21), none, 0⟩,
 ⟨some 8, .assign (Operand.tmp 22), none, 0⟩])
 (.seq
 (.seq
 (.ops [⟨some 23, .move (Operand.tmp 6), none, 0⟩,
 ⟨some 24, .call ⟨(Callee.value (Operand.func 14)), [(Operand.tmp 23)].toArray, #[39]⟩, none, 0⟩,
 ⟨some 25, .call ⟨(Callee.builtin Builtin.len), [(Operand.tmp 24)].toArray, #[27]⟩, none, 0⟩,
 ⟨some 26, .move (Operand.const (Value.int IntKind.i64 0)), none, 0⟩])
 (.block 0
 (.loop
 (.seq
 (.ops [⟨some 27, .binOp BinOp.lss 3 (Operand.tmp 26) (Operand.tmp 25) 3, none, 0⟩])
 (.seq
 (.cond (Operand.tmp 27)
 .skip
 (.exit 0))
 (.seq
 (.block 1
 (.seq
 (.ops [⟨some 28, .indexAddr 27 (Operand.tmp 24) (Operand.tmp 26), none, 0⟩,
 ⟨some 29, .load 3 (Operand.tmp 28), none, 0⟩,
 ⟨some 10, .assign (Operand.tmp 29), none, 0⟩])
 (.ops [⟨some 30, .move (Operand.tmp 8), none, 0⟩,
 ⟨some 31, .move (Operand.tmp 10), none, 0⟩,
 ⟨some 32, .indexAddr 31 (Operand.tmp 30) (Operand.tmp 31), none, 0⟩,
 ⟨none, .store 4 (Operand.tmp 32) (Operand.const (Value.bool true)), none, 0⟩])))
 (.ops [⟨some 33, .binOp BinOp.add 3 (Operand.tmp 26) (Operand.const (Value.int IntKind.i64 1)) 3, none, 0⟩,
 ⟨some 26, .move (Operand.tmp 33), none, 0⟩])))))))
 (.seq
 (.ops [⟨some 34, .move (Operand.tmp 8), none, 0⟩,
 ⟨some 4, .assign (Operand.tmp 34), none, 0⟩,
 ⟨some 5, .assign (Operand.const (Value.int IntKind.i64 0)), none, 0⟩])
 .ret))))))
abbrev R8 : List ResultVar := [ResultVar.tmp 4, ResultVar.tmp 5]
theorem ok8 : FnOK Tryz.prog 8 L8 R8 2 := ⟨_, _, Tryz.func8, rfl, by kernel_rfl, by kernel_rfl, by kernel_rfl, by kernel_rfl, Nat.le_of_ble_eq_true (by kernel_rfl), by kernel_rfl⟩

/-- ablaut/ablautref17.Starts -/
def L9 : LCode :=
 (.seq
 (.ops [⟨some 2, .box 24 (Operand.tmp 0), none, 0⟩,
 ⟨some 4, .assign (Operand.const (Value.slice none 0 0)), none, 0⟩,
 ⟨some 5, .assign (Operand.const (Value.int IntKind.i64 0)), none, 0⟩])
 (.seq
 (.ops [⟨some 11, .load 24 (Operand.tmp 2), none, 0⟩,
 ⟨some 12, .move (Operand.tmp 1), none, 0⟩,
 ⟨some 13, .call ⟨(Callee.value (Operand.func 15)), [(Operand.tmp 11), (Operand.tmp 12)].toArray, #[24, 9]⟩, none, 0⟩,
 ⟨some 10, .move (Operand.tmp 13), none, 0⟩,
 ⟨some 14, .extract (Operand.tmp 10) 0, none, 0⟩,
 ⟨some 15, .extract (Operand.tmp 10) 1, none, 0⟩,
 ⟨some 6, .assign (Operand.tmp 14), none, 0⟩,
 ⟨some 7, .assign (Operand.tmp 15), none, 0⟩])
 (.seq
 (.ops [⟨some 8, .assign (Operand.const (Value.slice none 0 0)), none, 0⟩])
 (.seq
 (.seq
 (.ops [⟨some 9, .assign (Operand.const (Value.int IntKind.i64 0)), none, 0⟩])
 (.block 0
 (.loop
 (.seq
 (.seq
 (.ops [⟨some 16, .move (Operand.tmp 9), none, 0⟩,
 ⟨some 17, .move (Operand.tmp 6), none, 0⟩,
 ⟨some 18, .call ⟨(Callee.builtin Builtin.len), [(Operand.tmp 17)].toArray, #[39]⟩, none, 0⟩,
 ⟨some 19, .binOp BinOp.lss 3 (Operand.tmp 16) (Operand.tmp 18) 3, none, 0⟩])
 (.cond (Operand.tmp 19)
 .skip
 (.exit 0)))
 (.seq
 (.block 1
 (.ops [⟨some 22, .move (Operand.tmp 8), none, 0⟩,
 ⟨some 23, .move (Operand.tmp 6), none, 0⟩,
 ⟨some 24, .move (Operand.tmp 9), none, 0⟩,
 ⟨some 25, .call ⟨(Callee.value (Operand.func 16)), [(Operand.tmp 23), (Operand.tmp 24)].toArray, #[39, 3]⟩, none, 0⟩,
 ⟨some 26, .buildSlice 31 1 [(0, (Operand.tmp 25))].toArray, none, 0⟩,
 ⟨some 27, .call ⟨(Callee.builtin Builtin.append), [(Operand.tmp 22), (Operand.tmp 26)].toArray, #[31, 31]⟩, none, 0⟩,
 ⟨some 8, .assign (Operand.tmp 27), none, 0⟩]))
 (.ops [⟨some 20, .move (Operand.tmp 9), none, 0⟩,
 ⟨some 21, .binOp BinOp.add 3 (Operand.tmp 20) (Operand.const (Value.int IntKind.i64 1)) 3, none, 0⟩,
 ⟨some 9, .assign (Operand.tmp 21), none, 0⟩]))))))
 (.seq
 (.ops [⟨some 28, .move (Operand.tmp 8), none, 0⟩,
 ⟨some 29, .move (Operand.tmp 7), none, 0⟩,
 ⟨some 4, .assign (Operand.tmp 28), none, 0⟩,
 ⟨some 5, .assign (Operand.tmp 29), none, 0⟩])
 .ret)))))
abbrev R9 : List ResultVar := [ResultVar.tmp 4, ResultVar.tmp 5]
theorem ok9 : FnOK Tryz.prog 9 L9 R9 2 := ⟨_, _, Tryz.func9, rfl, by kernel_rfl, by kernel_rfl, by kernel_rfl, by kernel_rfl, Nat.le_of_ble_eq_true (by kernel_rfl), by kernel_rfl⟩

/-- ablaut/token.Normal -/
def L10 : LCode :=
 (.seq
 (.ops [⟨some 2, .box 24 (Operand.tmp 0), none, 0⟩,
 ⟨some 4, .assign (Operand.const (Value.slice none 0 0)), none, 0⟩,
 ⟨some 5, .assign (Operand.const (Value.int IntKind.i64 0)), none, 0⟩])
 (.seq
 (.ops [⟨some 15, .load 24 (Operand.tmp 2), none, 0⟩,
 ⟨some 16, .move (Operand.tmp 1), none, 0⟩,
 ⟨some 17, .call ⟨(Callee.value (Operand.func 13)), [(Operand.tmp 15), (Operand.tmp 16)].toArray, #[24, 9]⟩, none, 0⟩,
 ⟨some 14, .move (Operand.tmp 17), none, 0⟩,
 ⟨some 18, .extract (Operand.tmp 14) 0, none, 0⟩,
 ⟨some 19, .extract (Operand.tmp 14) 1, none, 0⟩,
 ⟨some 6, .assign (Operand.tmp 18), none, 0⟩,
 ⟨some 7, .assign (Operand.tmp 19), none, 0⟩])
 (.seq
 (.seq
 (.ops [⟨some 20, .move (Operand.tmp 7), none, 0⟩,
 ⟨some 21, .binOp BinOp.neq 28 (Operand.tmp 20) (Operand.const (Value.int IntKind.i64 0)) 28, none, 0⟩])
 (.cond (Operand.tmp 21)
 (.seq
 (.ops [⟨some 22, .move (Operand.tmp 7), none, 0⟩,
 ⟨some 4, .assign (Operand.const (Value.slice none 0 0)), none, 0⟩,
 ⟨some 5, .assign (Operand.tmp 22), none, 0⟩])
 .ret)
 .skip))
 (.seq
 (.ops [⟨some 8, .assign (Operand.const (Value.slice none 0 0)), none, 0⟩])
 (.seq
 (.seq
 (.ops [⟨some 23, .move (Operand.tmp 6), none, 0⟩,
 ⟨some 24, .call ⟨(Callee.builtin Builtin.len), [(Operand.tmp 23)].toArray, #[39]⟩, none, 0⟩,
 ⟨some 25, .move (Operand.const (Value.int IntKind.i64 0)), none, 0⟩])
 (.block 0
 (.loop
 (.seq
 (.ops [⟨some 26, .binOp BinOp.lss 3 (Operand.tmp 25) (Operand.tmp 24) 3, none, 0⟩])
 (.seq
 (.cond (Operand.tmp 26)
 .skip
 (.exit 0))
 (.seq
 (.block 1
 (.seq
 (.ops [⟨some 27, .indexAddr 39 (Operand.tmp 23) (Operand.tmp 25), none, 0⟩,
 ⟨some 28, .load 43 (Operand.tmp 27), none, 0⟩,
 ⟨some 10, .alloc 43, none, 0⟩,
 ⟨none, .store 43 (Operand.tmp 10) (Operand.tmp 28), none, 0⟩])
 (.ops [⟨some 29, .move (Operand.tmp 8), none, 0⟩,
 ⟨some 30, .fieldAddr 43 (Operand.tmp 10) 3, none, 0⟩,
 ⟨some 31, .load 9 (Operand.tmp 30), none, 0⟩,
 ⟨some 32, .buildSlice 22 1 [(0, (Operand.tmp 31))].toArray, none, 0⟩,
 ⟨some 33, .call ⟨(Callee.builtin Builtin.append), [(Operand.tmp 29), (Operand.tmp 32)].toArray, #[22, 22]⟩, none, 1⟩,
 ⟨some 8, .assign (Operand.tmp 33), none, 0⟩])))
 (.ops [⟨some 34, .binOp BinOp.add 3 (Operand.tmp 25) (Operand.const (Value.int IntKind.i64 1)) 3, none, 0⟩,
 ⟨some 25, .move (Operand.tmp 34), none, 0⟩])))))))
 (.seq
 (.seq
 (.ops [⟨some 35, .move (Operand.tmp 6), none, 0⟩,
 ⟨some 36, .call ⟨(Callee.value (Operand.func 14)), [(Operand.tmp 35)].toArray, #[39]⟩, none, 0⟩,
 ⟨some 37, .call ⟨(Callee.builtin Builtin.len), [(Operand.tmp 36)].toArray, #[27]⟩, none, 0⟩,
 ⟨some 38, .move (Operand.const (Value.int IntKind.i64 0)), none, 0⟩])
 (.block 2
 (.loop
 (.seq
 (.ops [⟨some 39, .binOp BinOp.lss 3 (Operand.tmp 38) (Operand.tmp 37) 3, none, 0⟩])
 (.seq
 (.cond (Operand.tmp 39)
 .skip
 (.exit 2))
 (.seq
 (.block 3
 (.seq
 (.ops [⟨some 40, .indexAddr 27 (Operand.tmp 36) (Operand.tmp 38), none, 0⟩,
 ⟨some 41, .load 3 (Operand.tmp 40), none, 0⟩,
 ⟨some 12, .assign (Operand.tmp 41), none, 0⟩])
 (.seq
 (.ops [⟨some 42, .move (Operand.tmp 8), none, 0⟩,
 ⟨some 43, .move (Operand.tmp 12), none, 0⟩,
 ⟨some 44, .indexAddr 22 (Operand.tmp 42) (Operand.tmp 43), none, 0⟩,
 ⟨some 45, .load 9 (Operand.tmp 44), none, 0⟩,
 ⟨some 46, .convert 9 46 (Operand.tmp 45), none, 0⟩,
 ⟨some 13, .assign (Operand.tmp 46), none, 0⟩])
 (.seq
 (.ops [⟨some 47, .move (Operand.tmp 6), none, 0⟩,
 ⟨some 48, .move (Operand.tmp 12), none, 0⟩,
 ⟨some 49, .indexAddr 39 (Operand.tmp 47) (Operand.tmp 48), none, 0⟩,
 ⟨some 50, .load 43 (Operand.tmp 49), none, 0⟩,
 ⟨some 51, .call ⟨(Callee.value (Operand.func 17)), [(Operand.tmp 50)].toArray, #[43]⟩, none, 0⟩,
 ⟨some 52, .move (Operand.tmp 51), none, 0⟩,
 ⟨some 53, .move (Operand.tmp 13), some (52, true), 0⟩,
 ⟨some 54, .indexAddr 46 (Operand.tmp 53) (Operand.const (Value.int IntKind.i64 0)), some (52, true), 0⟩,
 ⟨some 55, .load 5 (Operand.tmp 54), some (52, true), 0⟩,
 ⟨some 56, .call ⟨(Callee.value (Operand.func 18)), [(Operand.tmp 55)].toArray, #[5]⟩, some (52, true), 0⟩,
 ⟨some 57, .pick (Operand.tmp 52) (Operand.tmp 56) (Operand.const (Value.bool false)), none, 0⟩,
 ⟨some 58, .move (Operand.tmp 57), none, 0⟩,
 ⟨some 59, .move (Operand.tmp 13), some (58, true), 0⟩,
 ⟨some 60, .slice 46 (Operand.tmp 59) (some (Operand.const (Value.int IntKind.i64 1))) none none, some (58, true), 0⟩,
 ⟨some 61, .call ⟨(Callee.value (Operand.func 19)), [(Operand.tmp 60), (Operand.func 18)].toArray, #[46, 48]⟩, some (58, true), 0⟩,
 ⟨some 62, .unOp UnOp.not 4 (Operand.tmp 61), some (58, true), 0⟩,
 ⟨some 63, .pick (Operand.tmp 58) (Operand.tmp 62) (Operand.const (Value.bool false)), none, 0⟩])
 (.cond (Operand.tmp 63)
 (.ops [⟨some 64, .move (Operand.tmp 8), none, 0⟩,
 ⟨some 65, .move (Operand.tmp 12), none, 0⟩,
 ⟨some 66, .move (Operand.tmp 8), none, 0⟩,
 ⟨some 67, .move (Operand.tmp 12), none, 0⟩,
 ⟨some 68, .indexAddr 22 (Operand.tmp 66) (Operand.tmp 67), none, 0⟩,
 ⟨some 69, .load 9 (Operand.tmp 68), none, 0⟩,
 ⟨some 70, .call ⟨(Callee.value (Operand.func 20)), [(Operand.tmp 69)].toArray, #[9]⟩, none, 0⟩,
 ⟨some 71, .indexAddr 22 (Operand.tmp 64) (Operand.tmp 65), none, 0⟩,
 ⟨none, .store 9 (Operand.tmp 71) (Operand.tmp 70), none, 0⟩])
 .skip)))))
 (.ops [⟨some 72, .binOp BinOp.add 3 (Operand.tmp 38) (Operand.const (Value.int IntKind.i64 1)) 3, none, 0⟩,
 ⟨some 38, .move (Operand.tmp 72), none, 0⟩])))))))
 (.seq
 (.ops [⟨some 73, .move (Operand.tmp 8), none, 0⟩,
 ⟨some 4, .assign (Operand.tmp 73), none, 0⟩,
 ⟨some 5, .assign (Operand.const (Value.int IntKind.i64 0)), none, 0⟩])
 .ret)))))))
abbrev R10 : List ResultVar := [ResultVar.tmp 4, ResultVar.tmp 5]
theorem ok10 : FnOK Tryz.prog 10 L10 R10 2 := ⟨_, _, Tryz.func10, rfl, by kernel_rfl, by kernel_rfl, by kernel_rfl, by kernel_rfl, Nat.le_of_ble_eq_true (by kernel_rfl), by kernel_rfl⟩

/-- ablaut/ablautref17.Normal -/
def L11 : LCode :=
 (.seq
 (.ops [⟨some 2, .box 24 (Operand.tmp 0), none, 0⟩,
 ⟨some 4, .assign (Operand.const (Value.slice none 0 0)), none, 0⟩,
 ⟨some 5, .assign (Operand.const (Value.int IntKind.i64 0)), none, 0⟩])
 (.seq
 (.ops [⟨some 12, .load 24 (Operand.tmp 2), none, 0⟩,
 ⟨some 13, .move (Operand.tmp 1), none, 0⟩,
 ⟨some 14, .call ⟨(Callee.value (Operand.func 15)), [(Operand.tmp 12), (Operand.tmp 13)].toArray, #[24, 9]⟩, none, 0⟩,
 ⟨some 11, .move (Operand.tmp 14), none, 0⟩,
 ⟨some 15, .extract (Operand.tmp 11) 0, none, 0⟩,
 ⟨some 16, .extract (Operand.tmp 11) 1, none, 0⟩,
 ⟨some 6, .assign (Operand.tmp 15), none, 0⟩,
 ⟨some 7, .assign (Operand.tmp 16), none, 0⟩])
 (.seq
 (.ops [⟨some 8, .assign (Operand.const (Value.slice none 0 0)), none, 0⟩])
 (.seq
 (.seq
 (.ops [⟨some 9, .assign (Operand.const (Value.int IntKind.i64 0)), none, 0⟩])
 (.block 0
 (.loop
 (.seq
 (.seq
 (.ops [⟨some 17, .move (Operand.tmp 9), none, 0⟩,
 ⟨some 18, .move (Operand.tmp 6), none, 0⟩,
 ⟨some 19, .call ⟨(Callee.builtin Builtin.len), [(Operand.tmp 18)].toArray, #[39]⟩, none, 0⟩,
 ⟨some 20, .binOp BinOp.lss 3 (Operand.tmp 17) (Operand.tmp 19) 3, none, 0⟩])
 (.cond (Operand.tmp 20)
 .skip
 (.exit 0)))
 (.seq
 (.block 1
 (.seq
 (.ops [⟨some 23, .move (Operand.tmp 6), none, 0⟩,
 ⟨some 24, .move (Operand.tmp 9), none, 0⟩,
 ⟨some 25, .indexAddr 39 (Operand.tmp 23) (Operand.tmp 24), none, 0⟩,
 ⟨some 26, .fieldAddr 43 (Operand.tmp 25) 3, none, 0⟩,
 ⟨some 27, .load 9 (Operand.tmp 26), none, 0⟩,
 ⟨some 10, .assign (Operand.tmp 27), none, 0⟩])
 (.seq
 (.seq
 (.ops [⟨some 28, .move (Operand.tmp 6), none, 0⟩,
 ⟨some 29, .move (Operand.tmp 9), none, 0⟩,
 ⟨some 30, .call ⟨(Callee.value (Operand.func 16)), [(Operand.tmp 28), (Operand.tmp 29)].toArray, #[39, 3]⟩, none, 0⟩,
 ⟨some 31, .move (Operand.tmp 30), none, 0⟩,
 ⟨some 32, .move (Operand.tmp 6), some (31, true), 0⟩,
 ⟨some 33, .move (Operand.tmp 9), some (31, true), 0⟩,
 ⟨some 34, .indexAddr 39 (Operand.tmp 32) (Operand.tmp 33), some (31, true), 0⟩,
 ⟨some 35, .load 43 (Operand.tmp 34), some (31, true), 0⟩,
 ⟨some 36, .call ⟨(Callee.value (Operand.func 21)), [(Operand.tmp 35)].toArray, #[43]⟩, some (31, true), 0⟩,
 ⟨some 37, .pick (Operand.tmp 31) (Operand.tmp 36) (Operand.const (Value.bool false)), none, 0⟩,
 ⟨some 38, .move (Operand.tmp 37), none, 0⟩,
 ⟨some 39, .move (Operand.tmp 10), some (38, true), 0⟩,
 ⟨some 40, .index 9 (Operand.tmp 39) (Operand.const (Value.int IntKind.i64 0)), some (38, true), 0⟩,
 ⟨some 41, .call ⟨(Callee.value (Operand.func 22)), [(Operand.tmp 40)].toArray, #[5]⟩, some (38, true), 0⟩,
 ⟨some 42, .pick (Operand.tmp 38) (Operand.tmp 41) (Operand.const (Value.bool false)), none, 0⟩,
 ⟨some 43, .move (Operand.tmp 42), none, 0⟩,
 ⟨some 44, .move (Operand.tmp 10), some (43, true), 0⟩,
 ⟨some 45, .call ⟨(Callee.value (Operand.func 23)), [(Operand.tmp 44)].toArray, #[9]⟩, some (43, true), 0⟩,
 ⟨some 46, .binOp BinOp.eql 3 (Operand.tmp 45) (Operand.const (Value.int IntKind.i64 1)) 3, some (43, true), 0⟩,
 ⟨some 47, .pick (Operand.tmp 43) (Operand.tmp 46) (Operand.const (Value.bool false)), none, 0⟩])
 (.cond (Operand.tmp 47)
 (.ops [⟨some 48, .move (Operand.tmp 10), none, 0⟩,
 ⟨some 49, .call ⟨(Callee.value (Operand.func 24)), [(Operand.tmp 48)].toArray, #[9]⟩, none, 0⟩,
 ⟨some 10, .assign (Operand.tmp 49), none, 0⟩])
 .skip))
 (.ops [⟨some 50, .move (Operand.tmp 8), none, 0⟩,
 ⟨some 51, .move (Operand.tmp 10), none, 0⟩,
 ⟨some 52, .buildSlice 22 1 [(0, (Operand.tmp 51))].toArray, none, 0⟩,
 ⟨some 53, .call ⟨(Callee.builtin Builtin.append), [(Operand.tmp 50), (Operand.tmp 52)].toArray, #[22, 22]⟩, none, 0⟩,
 ⟨some 8, .assign (Operand.tmp 53), none, 0⟩]))))
 (.ops [⟨some 21, .move (Operand.tmp 9), none, 0⟩,
 ⟨some 22, .binOp BinOp.add 3 (Operand.tmp 21) (Operand.const (Value.int IntKind.i64 1)) 3, none, 0⟩,
 ⟨some 9, .assign (Operand.tmp 22), none, 0⟩]))))))
 (.seq
 (.ops [⟨some 54, .move (Operand.tmp 8), none, 0⟩,
 ⟨some 55, .move (Operand.tmp 7), none, 0⟩,
 ⟨some 4, .assign (Operand.tmp 54), none, 0⟩,
 ⟨some 5, .assign (Operand.tmp 55), none, 0⟩])
 .ret)))))
abbrev R11 : List ResultVar := [ResultVar.tmp 4, ResultVar.tmp 5]
theorem ok11 : FnOK Tryz.prog 11 L11 R11 2 := ⟨_, _, Tryz.func11, rfl, by kernel_rfl, by kernel_rfl, by kernel_rfl, by kernel_rfl, Nat.le_of_ble_eq_true (by kernel_rfl), by kernel_rfl⟩

/-- ablaut/ablautref01.Same -/
def L12 : LCode :=
 (.seq
 (.ops [⟨some 4, .assign (Operand.const (Value.bool false)), none, 0⟩])
 (.seq
 (.ops [⟨some 5, .move (Operand.tmp 0), none, 0⟩,
 ⟨some 6, .move (Operand.tmp 1), none, 0⟩,
 ⟨some 7, .call ⟨(Callee.value (Operand.func 25)), [(Operand.tmp 5), (Operand.tmp 6)].toArray, #[22, 22]⟩, none, 0⟩,
 ⟨some 8, .binOp BinOp.eql 3 (Operand.tmp 7) (Operand.const (Value.int IntKind.i64 0)) 3, none, 0⟩,
 ⟨some 4, .assign (Operand.tmp 8), none, 0⟩])
 .ret))
abbrev R12 : List ResultVar := [ResultVar.tmp 4]
theorem ok12 : FnOK Tryz.prog 12 L12 R12 2 := ⟨_, _, Tryz.func12, rfl, by kernel_rfl, by kernel_rfl, by kernel_rfl, by kernel_rfl, Nat.le_of_ble_eq_true (by kernel_rfl), by kernel_rfl⟩

/-- ablaut/token.Tokens -/
def L13 : LCode :=
 (.seq
 (.ops [⟨some 2, .box 24 (Operand.tmp 0), none, 0⟩,
 ⟨some 4, .assign (Operand.const (Value.slice none 0 0)), none, 0⟩,
 ⟨some 5, .assign (Operand.const (Value.int IntKind.i64 0)), none, 0⟩])
 (.seq
 (.seq
 (.ops [⟨some 16, .load 24 (Operand.tmp 2), none, 0⟩,
 ⟨some 17, .call ⟨(Callee.value (Operand.func 26)), [(Operand.tmp 16)].toArray, #[24]⟩, none, 0⟩,
 ⟨some 6, .assign (Operand.tmp 17), none, 0⟩])
 (.seq
 (.ops [⟨some 18, .move (Operand.tmp 6), none, 0⟩,
 ⟨some 19, .binOp BinOp.neq 28 (Operand.tmp 18) (Operand.const (Value.int IntKind.i64 0)) 28, none, 0⟩])
 (.cond (Operand.tmp 19)
 (.seq
 (.ops [⟨some 20, .move (Operand.tmp 6), none, 0⟩,
 ⟨some 4, .assign (Operand.const (Value.slice none 0 0)), none, 0⟩,
 ⟨some 5, .assign (Operand.tmp 20), none, 0⟩])
 .ret)
 .skip)))
 (.seq
 (.seq
 (.ops [⟨some 21, .move (Operand.tmp 1), none, 0⟩,
 ⟨some 22, .call ⟨(Callee.builtin Builtin.len), [(Operand.tmp 21)].toArray, #[9]⟩, none, 0⟩,
 ⟨some 23, .binOp BinOp.gtr 3 (Operand.tmp 22) (Operand.const (Value.int IntKind.i64 6000)) 3, none, 0⟩])
 (.cond (Operand.tmp 23)
 (.seq
 (.ops [⟨some 4, .assign (Operand.const (Value.slice none 0 0)), none, 0⟩,
 ⟨some 5, .assign (Operand.const (Value.int IntKind.i64 3)), none, 0⟩])
 .ret)
 .skip))
 (.seq
 (.ops [⟨some 24, .fieldAddr 24 (Operand.tmp 2) 0, none, 0⟩,
 ⟨some 25, .load 22 (Operand.tmp 24), none, 0⟩,
 ⟨some 26, .makeInterface 54 (Operand.tmp 25), none, 0⟩,
 ⟨some 27, .fieldAddr 24 (Operand.tmp 2) 1, none, 0⟩,
 ⟨some 28, .load 22 (Operand.tmp 27), none, 0⟩,
 ⟨some 29, .makeInterface 54 (Operand.tmp 28), none, 0⟩,
 ⟨some 30, .build 56 [].toArray, none, 0⟩,
 ⟨some 31, .makeInterface 56 (Operand.tmp 30), none, 0⟩,
 ⟨some 32, .build 57 [].toArray, none, 0⟩,
 ⟨some 33, .makeInterface 57 (Operand.tmp 32), none, 0⟩,
 ⟨some 34, .build 58 [].toArray, none, 0⟩,
 ⟨some 35, .makeInterface 58 (Operand.tmp 34), none, 0⟩,
 ⟨some 36, .buildSlice 59 5 [(0, (Operand.tmp 26)), (1, (Operand.tmp 29)), (2, (Operand.tmp 31)), (3, (Operand.tmp 33)), (4, (Operand.tmp 35))].toArray, none, 0⟩,
 ⟨some 7, .assign (Operand.tmp 36), none, 0⟩])
 (.seq
 (.ops [⟨some 8, .assign (Operand.const (Value.slice none 0 0)), none, 0⟩])
 (.seq
 .skip
 (.seq
 (.seq
 (.ops [⟨some 9, .assign (Operand.const (Value.int IntKind.i64 0)), none, 0⟩])
 (.block 0
 (.loop
 (.seq
 (.seq
 (.ops [⟨some 37, .move (Operand.tmp 9), none, 0⟩,
 ⟨some 38, .move (Operand.tmp 1), none, 0⟩,
 ⟨some 39, .call ⟨(Callee.builtin Builtin.len), [(Operand.tmp 38)].toArray, #[9]⟩, none, 0⟩,
 ⟨some 40, .binOp BinOp.lss 3 (Operand.tmp 37) (Operand.tmp 39) 3, none, 0⟩])
 (.cond (Operand.tmp 40)
 .skip
 (.exit 0)))
 (.block 1
 (.seq
 (.seq
 (.ops [⟨some 41, .move (Operand.tmp 1), none, 0⟩,
 ⟨some 42, .move (Operand.tmp 9), none, 0⟩,
 ⟨some 43, .index 9 (Operand.tmp 41) (Operand.tmp 42), none, 0⟩,
 ⟨some 44, .call ⟨(Callee.value (Operand.func 27)), [(Operand.tmp 43)].toArray, #[5]⟩, none, 0⟩])
 (.cond (Operand.tmp 44)
 (.seq
 (.ops [⟨some 45, .move (Operand.tmp 9), none, 0⟩,
 ⟨some 46, .binOp BinOp.add 3 (Operand.tmp 45) (Operand.const (Value.int IntKind.i64 1)) 3, none, 0⟩,
 ⟨some 9, .assign (Operand.tmp 46), none, 0⟩])
 (.exit 1))
 .skip))
 (.seq
 (.ops [⟨some 47, .build 58 [].toArray, none, 0⟩,
 ⟨some 48, .makeInterface 58 (Operand.tmp 47), none, 0⟩,
 ⟨some 10, .assign (Operand.tmp 48), none, 0⟩,
 ⟨some 11, .assign (Operand.const (Value.int IntKind.i64 0)), none, 0⟩])
 (.seq
 (.seq
 (.ops [⟨some 49, .move (Operand.tmp 7), none, 0⟩,
 ⟨some 50, .call ⟨(Callee.builtin Builtin.len), [(Operand.tmp 49)].toArray, #[59]⟩, none, 0⟩,
 ⟨some 51, .move (Operand.const (Value.int IntKind.i64 0)), none, 0⟩])
 (.block 2
 (.loop
 (.seq
 (.ops [⟨some 52, .binOp BinOp.lss 3 (Operand.tmp 51) (Operand.tmp 50) 3, none, 0⟩])
 (.seq
 (.cond (Operand.tmp 52)
 .skip
 (.exit 2))
 (.seq
 (.block 3
 (.seq
 (.ops [⟨some 53, .indexAddr 59 (Operand.tmp 49) (Operand.tmp 51), none, 0⟩,
 ⟨some 54, .load 61 (Operand.tmp 53), none, 0⟩,
 ⟨some 13, .assign (Operand.tmp 54), none, 0⟩])
 (.seq
 (.draw [⟨some 55, .move (Operand.tmp 13), none, 0⟩,
 ⟨some 56, .move (Operand.tmp 1), none, 0⟩,
 ⟨some 57, .move (Operand.tmp 9), none, 0⟩,
 ⟨some 58, .slice 9 (Operand.tmp 56) (some (Operand.tmp 57)) none none, none, 0⟩,
 ⟨some 59, .makeFunc (Fn.method "ablaut/token.length") #[(Operand.tmp 55)] [].toArray, none, 0⟩,
 ⟨some 60, .nilCheck (Operand.tmp 59), none, 0⟩,
 ⟨some 61, .move (Operand.tmp 55), none, 0⟩,
 ⟨some 62, .call ⟨(Callee.invoke (Operand.tmp 61) "ablaut/token.length"), [(Operand.tmp 58)].toArray, #[9]⟩, none, 0⟩,
 ⟨some 14, .assign (Operand.tmp 62), none, 0⟩] true [7, 8] [0, 1, 2, 4, 5, 6, 3, 7, 8])
 (.seq
 (.ops [⟨some 63, .move (Operand.tmp 14), none, 0⟩,
 ⟨some 64, .move (Operand.tmp 11), none, 0⟩,
 ⟨some 65, .binOp BinOp.gtr 3 (Operand.tmp 63) (Operand.tmp 64) 3, none, 0⟩])
 (.cond (Operand.tmp 65)
 (.ops [⟨some 66, .move (Operand.tmp 13), none, 0⟩,
 ⟨some 67, .move (Operand.tmp 14), none, 0⟩,
 ⟨some 10, .assign (Operand.tmp 66), none, 0⟩,
 ⟨some 11, .assign (Operand.tmp 67), none, 0⟩])
 .skip)))))
 (.ops [⟨some 68, .binOp BinOp.add 3 (Operand.tmp 51) (Operand.const (Value.int IntKind.i64 1)) 3, none, 0⟩,
 ⟨some 51, .move (Operand.tmp 68), none, 0⟩])))))))
 (.seq
 (.seq
 (.ops [⟨some 69, .move (Operand.tmp 10), none, 0⟩,
 ⟨some 70, .call ⟨(Callee.value (Operand.func 28)), [(Operand.tmp 69)].toArray, #[61]⟩, none, 0⟩,
 ⟨some 15, .assign (Operand.tmp 70), none, 0⟩])
 (.seq
 (.ops [⟨some 71, .move (Operand.tmp 15), none, 0⟩,
 ⟨some 72, .binOp BinOp.eql 3 (Operand.tmp 71) (Operand.const (Value.int IntKind.i64 0)) 3, none, 0⟩])
 (.cond (Operand.tmp 72)
 (.draw [⟨some 73, .move (Operand.tmp 8), none, 0⟩,
 ⟨some 74, .load 24 (Operand.tmp 2), none, 0⟩,
 ⟨some 75, .move (Operand.tmp 9), none, 0⟩,
 ⟨some 76, .move (Operand.tmp 1), none, 0⟩,
 ⟨some 77, .move (Operand.tmp 9), none, 0⟩,
 ⟨some 78, .move (Operand.tmp 9), none, 0⟩,
 ⟨some 79, .move (Operand.tmp 11), none, 0⟩,
 ⟨some 80, .binOp BinOp.add 3 (Operand.tmp 78) (Operand.tmp 79) 3, none, 0⟩,
 ⟨some 81, .slice 9 (Operand.tmp 76) (some (Operand.tmp 77)) (some (Operand.tmp 80)) none, none, 0⟩,
 ⟨some 82, .call ⟨(Callee.value (Operand.func 29)), [(Operand.tmp 74), (Operand.tmp 75), (Operand.tmp 81)].toArray, #[24, 3, 9]⟩, none, 0⟩,
 ⟨some 83, .call ⟨(Callee.builtin Builtin.append), [(Operand.tmp 73), (Operand.tmp 82)].toArray, #[39, 39]⟩, none, 0⟩,
 ⟨some 8, .assign (Operand.tmp 83), none, 0⟩] true [10, 11] [])
 (.ops [⟨some 84, .move (Operand.tmp 8), none, 0⟩,
 ⟨some 85, .move (Operand.tmp 9), none, 0⟩,
 ⟨some 86, .move (Operand.tmp 9), none, 0⟩,
 ⟨some 87, .move (Operand.tmp 11), none, 0⟩,
 ⟨some 88, .binOp BinOp.add 3 (Operand.tmp 86) (Operand.tmp 87) 3, none, 0⟩,
 ⟨some 89, .move (Operand.tmp 15), none, 0⟩,
 ⟨some 90, .move (Operand.tmp 1), none, 0⟩,
 ⟨some 91, .move (Operand.tmp 9), none, 0⟩,
 ⟨some 92, .move (Operand.tmp 9), none, 0⟩,
 ⟨some 93, .move (Operand.tmp 11), none, 0⟩,
 ⟨some 94, .binOp BinOp.add 3 (Operand.tmp 92) (Operand.tmp 93) 3, none, 0⟩,
 ⟨some 95, .slice 9 (Operand.tmp 90) (some (Operand.tmp 91)) (some (Operand.tmp 94)) none, none, 0⟩,
 ⟨some 96, .build 43 [(0, (Operand.tmp 85)), (1, (Operand.tmp 88)), (2, (Operand.tmp 89)), (3, (Operand.tmp 95))].toArray, none, 0⟩,
 ⟨some 97, .buildSlice 39 1 [(0, (Operand.tmp 96))].toArray, none, 0⟩,
 ⟨some 98, .call ⟨(Callee.builtin Builtin.append), [(Operand.tmp 84), (Operand.tmp 97)].toArray, #[39, 39]⟩, none, 0⟩,
 ⟨some 8, .assign (Operand.tmp 98), none, 0⟩]))))
 (.seq
 (.ops [⟨some 99, .move (Operand.tmp 9), none, 0⟩,
 ⟨some 100, .move (Operand.tmp 11), none, 0⟩,
 ⟨some 101, .binOp BinOp.add 3 (Operand.tmp 99) (Operand.tmp 100) 3, none, 0⟩,
 ⟨some 9, .assign (Operand.tmp 101), none, 0⟩])
 (.seq
 (.ops [⟨some 102, .move (Operand.tmp 8), none, 0⟩,
 ⟨some 103, .call ⟨(Callee.builtin Builtin.len), [(Operand.tmp 102)].toArray, #[39]⟩, none, 0⟩,
 ⟨some 104, .binOp BinOp.gtr 3 (Operand.tmp 103) (Operand.const (Value.int IntKind.i64 200)) 3, none, 0⟩])
 (.cond (Operand.tmp 104)
 (.seq
 (.ops [⟨some 4, .assign (Operand.const (Value.slice none 0 0)), none, 0⟩,
 ⟨some 5, .assign (Operand.const (Value.int IntKind.i64 3)), none, 0⟩])
 .ret)
 .skip))))))))))))
 (.seq
 (.ops [⟨some 105, .move (Operand.tmp 8), none, 0⟩,
 ⟨some 4, .assign (Operand.tmp 105), none, 0⟩,
 ⟨some 5, .assign (Operand.const (Value.int IntKind.i64 0)), none, 0⟩])
 .ret))))))))
abbrev R13 : List ResultVar := [ResultVar.tmp 4, ResultVar.tmp 5]
theorem ok13 : FnOK Tryz.prog 13 L13 R13 2 := ⟨_, _, Tryz.func13, rfl, by kernel_rfl, by kernel_rfl, by kernel_rfl, by kernel_rfl, Nat.le_of_ble_eq_true (by kernel_rfl), by kernel_rfl⟩

/-- ablaut/token.begins -/
def L14 : LCode :=
 (.seq
 (.ops [⟨some 2, .assign (Operand.const (Value.slice none 0 0)), none, 0⟩])
 (.seq
 (.ops [⟨some 3, .assign (Operand.const (Value.slice none 0 0)), none, 0⟩])
 (.seq
 (.seq
 (.ops [⟨some 8, .move (Operand.tmp 0), none, 0⟩,
 ⟨some 9, .call ⟨(Callee.builtin Builtin.len), [(Operand.tmp 8)].toArray, #[39]⟩, none, 0⟩,
 ⟨some 10, .move (Operand.const (Value.int IntKind.i64 0)), none, 0⟩])
 (.block 0
 (.loop
 (.seq
 (.ops [⟨some 11, .binOp BinOp.lss 3 (Operand.tmp 10) (Operand.tmp 9) 3, none, 0⟩])
 (.seq
 (.cond (Operand.tmp 11)
 .skip
 (.exit 0))
 (.seq
 (.block 1
 (.seq
 (.ops [⟨some 12, .move (Operand.tmp 10), none, 0⟩,
 ⟨some 13, .indexAddr 39 (Operand.tmp 8) (Operand.tmp 10), none, 0⟩,
 ⟨some 14, .load 43 (Operand.tmp 13), none, 0⟩,
 ⟨some 5, .alloc 43, none, 0⟩,
 ⟨some 4, .assign (Operand.tmp 12), none, 0⟩,
 ⟨none, .store 43 (Operand.tmp 5) (Operand.tmp 14), none, 0⟩])
 (.seq
 (.seq
 (.ops [⟨some 15, .move (Operand.tmp 4), none, 0⟩,
 ⟨some 16, .binOp BinOp.eql 3 (Operand.tmp 15) (Operand.const (Value.int IntKind.i64 0)) 3, none, 0⟩])
 (.cond (Operand.tmp 16)
 (.seq
 (.ops [⟨some 17, .move (Operand.tmp 3), none, 0⟩,
 ⟨some 18, .move (Operand.tmp 4), none, 0⟩,
 ⟨some 19, .buildSlice 27 1 [(0, (Operand.tmp 18))].toArray, none, 0⟩,
 ⟨some 20, .call ⟨(Callee.builtin Builtin.append), [(Operand.tmp 17), (Operand.tmp 19)].toArray, #[27, 27]⟩, none, 0⟩,
 ⟨some 3, .assign (Operand.tmp 20), none, 0⟩])
 (.exit 1))
 .skip))
 (.seq
 (.ops [⟨some 21, .move (Operand.tmp 4), none, 0⟩,
 ⟨some 22, .binOp BinOp.sub 3 (Operand.tmp 21) (Operand.const (Value.int IntKind.i64 1)) 3, none, 0⟩,
 ⟨some 6, .assign (Operand.tmp 22), none, 0⟩])
 (.seq
 (.block 2
 (.loop
 (.seq
 (.seq
 (.draw [⟨some 23, .move (Operand.tmp 6), none, 0⟩,
 ⟨some 24, .binOp BinOp.gtr 3 (Operand.tmp 23) (Operand.const (Value.int IntKind.i64 0)) 3, none, 0⟩,
 ⟨some 25, .move (Operand.tmp 24), none, 0⟩,
 ⟨some 26, .move (Operand.tmp 0), some (25, true), 0⟩,
 ⟨some 27, .move (Operand.tmp 6), some (25, true), 0⟩,
 ⟨some 28, .indexAddr 39 (Operand.tmp 26) (Operand.tmp 27), some (25, true), 0⟩,
 ⟨some 29, .load 43 (Operand.tmp 28), some (25, true), 0⟩,
 ⟨some 30, .call ⟨(Callee.value (Operand.func 30)), [(Operand.tmp 29), (Operand.const (Value.string ⟨#[34, 41, 39]⟩))].toArray, #[43, 9]⟩, some (25, true), 0⟩,
 ⟨some 31, .pick (Operand.tmp 25) (Operand.tmp 30) (Operand.const (Value.bool false)), none, 0⟩,
 ⟨some 32, .move (Operand.tmp 31), none, 0⟩,
 ⟨some 33, .move (Operand.tmp 0), some (32, true), 0⟩,
 ⟨some 34, .move (Operand.tmp 6), some (32, true), 0⟩,
 ⟨some 35, .binOp BinOp.sub 3 (Operand.tmp 34) (Operand.const (Value.int IntKind.i64 1)) 3, some (32, true), 0⟩,
 ⟨some 36, .indexAddr 39 (Operand.tmp 33) (Operand.tmp 35), some (32, true), 0⟩,
 ⟨some 37, .fieldAddr 43 (Operand.tmp 36) 1, some (32, true), 0⟩,
 ⟨some 38, .load 3 (Operand.tmp 37), some (32, true), 0⟩,
 ⟨some 39, .move (Operand.tmp 0), some (32, true), 0⟩,
 ⟨some 40, .move (Operand.tmp 6), some (32, true), 0⟩,
 ⟨some 41, .indexAddr 39 (Operand.tmp 39) (Operand.tmp 40), some (32, true), 0⟩,
 ⟨some 42, .fieldAddr 43 (Operand.tmp 41) 0, some (32, true), 0⟩,
 ⟨some 43, .load 3 (Operand.tmp 42), some (32, true), 0⟩,
 ⟨some 44, .binOp BinOp.eql 3 (Operand.tmp 38) (Operand.tmp 43) 3, some (32, true), 0⟩,
 ⟨some 45, .pick (Operand.tmp 32) (Operand.tmp 44) (Operand.const (Value.bool false)), none, 0⟩] true [21, 22] [0, 1, 2, 3, 4, 5, 6, 7, 8, 9, 10, 11, 12, 13, 14, 15, 16, 17, 18, 19, 20, 21, 22])
 (.cond (Operand.tmp 45)
 .skip
 (.exit 2)))
 (.block 3
 (.ops [⟨some 46, .move (Operand.tmp 6), none, 0⟩,
 ⟨some 47, .binOp BinOp.sub 3 (Operand.tmp 46) (Operand.const (Value.int IntKind.i64 1)) 3, none, 0⟩,
 ⟨some 6, .assign (Operand.tmp 47), none, 0⟩])))))
 (.seq
 (.ops [⟨some 48, .load 43 (Operand.tmp 5), none, 0⟩,
 ⟨some 49, .call ⟨(Callee.value (Operand.func 17)), [(Operand.tmp 48)].toArray, #[43]⟩, none, 0⟩,
 ⟨some 50, .move (Operand.tmp 49), none, 0⟩,
 ⟨some 51, .fieldAddr 43 (Operand.tmp 5) 3, some (50, true), 0⟩,
 ⟨some 52, .load 9 (Operand.tmp 51), some (50, true), 0⟩,
 ⟨some 53, .index 9 (Operand.tmp 52) (Operand.const (Value.int IntKind.i64 0)), some (50, true), 0⟩,
 ⟨some 54, .call ⟨(Callee.value (Operand.func 31)), [(Operand.tmp 53)].toArray, #[5]⟩, some (50, true), 0⟩,
 ⟨some 55, .pick (Operand.tmp 50) (Operand.tmp 54) (Operand.const (Value.bool false)), none, 0⟩,
 ⟨some 7, .assign (Operand.tmp 55), none, 0⟩])
 (.seq
 (.draw [⟨some 56, .move (Operand.tmp 0), none, 0⟩,
 ⟨some 57, .move (Operand.tmp 6), none, 0⟩,
 ⟨some 58, .indexAddr 39 (Operand.tmp 56) (Operand.tmp 57), none, 0⟩,
 ⟨some 59, .load 43 (Operand.tmp 58), none, 0⟩,
 ⟨some 60, .call ⟨(Callee.value (Operand.func 30)), [(Operand.tmp 59), (Operand.const (Value.string ⟨#[46, 33, 63]⟩))].toArray, #[43, 9]⟩, none, 0⟩,
 ⟨some 61, .move (Operand.tmp 60), none, 0⟩,
 ⟨some 62, .move (Operand.tmp 0), some (61, true), 0⟩,
 ⟨some 63, .move (Operand.tmp 4), some (61, true), 0⟩,
 ⟨some 64, .binOp BinOp.sub 3 (Operand.tmp 63) (Operand.const (Value.int IntKind.i64 1)) 3, some (61, true), 0⟩,
 ⟨some 65, .indexAddr 39 (Operand.tmp 62) (Operand.tmp 64), some (61, true), 0⟩,
 ⟨some 66, .fieldAddr 43 (Operand.tmp 65) 1, some (61, true), 0⟩,
 ⟨some 67, .load 3 (Operand.tmp 66), some (61, true), 0⟩,
 ⟨some 68, .fieldAddr 43 (Operand.tmp 5) 0, some (61, true), 0⟩,
 ⟨some 69, .load 3 (Operand.tmp 68), some (61, true), 0⟩,
 ⟨some 70, .binOp BinOp.lss 3 (Operand.tmp 67) (Operand.tmp 69) 3, some (61, true), 0⟩,
 ⟨some 71, .pick (Operand.tmp 61) (Operand.tmp 70) (Operand.const (Value.bool false)), none, 0⟩,
 ⟨some 72, .move (Operand.tmp 71), none, 0⟩,
 ⟨some 73, .move (Operand.tmp 7), some (72, true), 0⟩,
 ⟨some 74, .unOp UnOp.not 4 (Operand.tmp 73), some (72, true), 0⟩,
 ⟨some 75, .pick (Operand.tmp 72) (Operand.tmp 74) (Operand.const (Value.bool false)), none, 0⟩] true [14, 15, 16, 17, 18, 19] [0, 1, 2, 3, 4, 5, 6, 7, 8, 9, 10, 11, 12, 13, 14, 15, 16, 17, 18, 19])
 (.cond (Operand.tmp 75)
 (.ops [⟨some 76, .move (Operand.tmp 3), none, 0⟩,
 ⟨some 77, .move (Operand.tmp 4), none, 0⟩,
 ⟨some 78, .buildSlice 27 1 [(0, (Operand.tmp 77))].toArray, none, 0⟩,
 ⟨some 79, .call ⟨(Callee.builtin Builtin.append), [(Operand.tmp 76), (Operand.tmp 78)].toArray, #[27, 27]⟩, none, 0⟩,
 ⟨some 3, .assign (Operand.tmp 79), none, 0⟩])
 .skip))))))))
 (.ops [⟨some 80, .binOp BinOp.add 3 (Operand.tmp 10) (Operand.const (Value.int IntKind.i64 1)) 3, none, 0⟩,
 ⟨some 10, .move (Operand.tmp 80), none, 0⟩])))))))
 (.seq
 (.ops [⟨some 81, .move (Operand.tmp 3), none, 0⟩,
 ⟨some 2, .assign (Operand.tmp 81), none, 0⟩])
 .ret))))
abbrev R14 : List ResultVar := [ResultVar.tmp 2]
theorem ok14 : FnOK Tryz.prog 14 L14 R14 1 := ⟨_, _, Tryz.func14, rfl, by kernel_rfl, by kernel_rfl, by kernel_rfl, by kernel_rfl, Nat.le_of_ble_eq_true (by kernel_rfl), by kernel_rfl⟩

/-- ablaut/ablautref17.Tokens -/
def L15 : LCode :=
 (.seq
 (.ops [⟨some 2, .box 24 (Operand.tmp 0), none, 0⟩,
 ⟨some 4, .assign (Operand.const (Value.slice none 0 0)), none, 0⟩,
 ⟨some 5, .assign (Operand.const (Value.int IntKind.i64 0)), none, 0⟩])
 (.seq
 (.seq
 (.ops [⟨some 8, .load 24 (Operand.tmp 2), none, 0⟩,
 ⟨some 9, .call ⟨(Callee.value (Operand.func 32)), [(Operand.tmp 8)].toArray, #[24]⟩, none, 0⟩,
 ⟨some 6, .assign (Operand.tmp 9), none, 0⟩])
 (.seq
 (.ops [⟨some 10, .move (Operand.tmp 6), none, 0⟩,
 ⟨some 11, .binOp BinOp.neq 28 (Operand.tmp 10) (Operand.const (Value.int IntKind.i64 0)) 28, none, 0⟩])
 (.cond (Operand.tmp 11)
 (.seq
 (.ops [⟨some 12, .move (Operand.tmp 6), none, 0⟩,
 ⟨some 4, .assign (Operand.const (Value.slice none 0 0)), none, 0⟩,
 ⟨some 5, .assign (Operand.tmp 12), none, 0⟩])
 .ret)
 .skip)))
 (.seq
 (.seq
 (.ops [⟨some 13, .move (Operand.tmp 1), none, 0⟩,
 ⟨some 14, .call ⟨(Callee.builtin Builtin.len), [(Operand.tmp 13)].toArray, #[9]⟩, none, 0⟩,
 ⟨some 15, .binOp BinOp.gtr 3 (Operand.tmp 14) (Operand.const (Value.int IntKind.i64 6000)) 3, none, 0⟩])
 (.cond (Operand.tmp 15)
 (.seq
 (.ops [⟨some 4, .assign (Operand.const (Value.slice none 0 0)), none, 0⟩,
 ⟨some 5, .assign (Operand.const (Value.int IntKind.i64 3)), none, 0⟩])
 .ret)
 .skip))
 (.seq
 (.ops [⟨some 16, .load 24 (Operand.tmp 2), none, 0⟩,
 ⟨some 17, .move (Operand.tmp 1), none, 0⟩,
 ⟨some 18, .call ⟨(Callee.value (Operand.func 33)), [(Operand.tmp 16), (Operand.tmp 17)].toArray, #[24, 9]⟩, none, 0⟩,
 ⟨some 7, .assign (Operand.tmp 18), none, 0⟩])
 (.seq
 (.seq
 (.ops [⟨some 19, .move (Operand.tmp 7), none, 0⟩,
 ⟨some 20, .call ⟨(Callee.builtin Builtin.len), [(Operand.tmp 19)].toArray, #[39]⟩, none, 0⟩,
 ⟨some 21, .binOp BinOp.gtr 3 (Operand.tmp 20) (Operand.const (Value.int IntKind.i64 200)) 3, none, 0⟩])
 (.cond (Operand.tmp 21)
 (.seq
 (.ops [⟨some 4, .assign (Operand.const (Value.slice none 0 0)), none, 0⟩,
 ⟨some 5, .assign (Operand.const (Value.int IntKind.i64 3)), none, 0⟩])
 .ret)
 .skip))
 (.seq
 (.ops [⟨some 22, .move (Operand.tmp 7), none, 0⟩,
 ⟨some 4, .assign (Operand.tmp 22), none, 0⟩,
 ⟨some 5, .assign (Operand.const (Value.int IntKind.i64 0)), none, 0⟩])
 .ret))))))
abbrev R15 : List ResultVar := [ResultVar.tmp 4, ResultVar.tmp 5]
theorem ok15 : FnOK Tryz.prog 15 L15 R15 2 := ⟨_, _, Tryz.func15, rfl, by kernel_rfl, by kernel_rfl, by kernel_rfl, by kernel_rfl, Nat.le_of_ble_eq_true (by kernel_rfl), by kernel_rfl⟩

/-- ablaut/ablautref17.starts -/
def L16 : LCode :=
 (.seq
 (.ops [⟨some 4, .assign (Operand.const (Value.bool false)), none, 0⟩])
 (.seq
 (.seq
 (.ops [⟨some 6, .move (Operand.tmp 1), none, 0⟩,
 ⟨some 7, .binOp BinOp.eql 3 (Operand.tmp 6) (Operand.const (Value.int IntKind.i64 0)) 3, none, 0⟩])
 (.cond (Operand.tmp 7)
 (.seq
 (.ops [⟨some 4, .assign (Operand.const (Value.bool true)), none, 0⟩])
 .ret)
 .skip))
 (.seq
 (.seq
 (.draw [⟨some 8, .move (Operand.tmp 0), none, 0⟩,
 ⟨some 9, .move (Operand.tmp 1), none, 0⟩,
 ⟨some 10, .indexAddr 39 (Operand.tmp 8) (Operand.tmp 9), none, 0⟩,
 ⟨some 11, .fieldAddr 43 (Operand.tmp 10) 0, none, 0⟩,
 ⟨some 12, .load 3 (Operand.tmp 11), none, 0⟩,
 ⟨some 13, .move (Operand.tmp 0), none, 0⟩,
 ⟨some 14, .move (Operand.tmp 1), none, 0⟩,
 ⟨some 15, .binOp BinOp.sub 3 (Operand.tmp 14) (Operand.const (Value.int IntKind.i64 1)) 3, none, 0⟩,
 ⟨some 16, .indexAddr 39 (Operand.tmp 13) (Operand.tmp 15), none, 0⟩,
 ⟨some 17, .fieldAddr 43 (Operand.tmp 16) 1, none, 0⟩,
 ⟨some 18, .load 3 (Operand.tmp 17), none, 0⟩,
 ⟨some 19, .binOp BinOp.eql 3 (Operand.tmp 12) (Operand.tmp 18) 3, none, 0⟩,
 ⟨some 20, .move (Operand.tmp 19), none, 0⟩,
 ⟨some 21, .move (Operand.tmp 0), some (20, false), 0⟩,
 ⟨some 22, .move (Operand.tmp 1), some (20, false), 0⟩,
 ⟨some 23, .indexAddr 39 (Operand.tmp 21) (Operand.tmp 22), some (20, false), 0⟩,
 ⟨some 24, .load 43 (Operand.tmp 23), some (20, false), 0⟩,
 ⟨some 25, .call ⟨(Callee.value (Operand.func 21)), [(Operand.tmp 24)].toArray, #[43]⟩, some (20, false), 0⟩,
 ⟨some 26, .move (Operand.tmp 25), some (20, false), 0⟩,
 ⟨some 27, .move (Operand.tmp 0), some (26, true), 0⟩,
 ⟨some 28, .move (Operand.tmp 1), some (26, true), 0⟩,
 ⟨some 29, .indexAddr 39 (Operand.tmp 27) (Operand.tmp 28), some (26, true), 0⟩,
 ⟨some 30, .fieldAddr 43 (Operand.tmp 29) 3, some (26, true), 0⟩,
 ⟨some 31, .load 9 (Operand.tmp 30), some (26, true), 0⟩,
 ⟨some 32, .index 9 (Operand.tmp 31) (Operand.const (Value.int IntKind.i64 0)), some (26, true), 0⟩,
 ⟨some 33, .call ⟨(Callee.value (Operand.func 34)), [(Operand.tmp 32)].toArray, #[5]⟩, some (26, true), 0⟩,
 ⟨some 34, .pick (Operand.tmp 26) (Operand.tmp 33) (Operand.const (Value.bool false)), some (20, false), 0⟩,
 ⟨some 35, .pick (Operand.tmp 20) (Operand.const (Value.bool true)) (Operand.tmp 34), none, 0⟩] true [21, 22, 23, 24, 25, 26, 27] [])
 (.cond (Operand.tmp 35)
 (.seq
 (.ops [⟨some 4, .assign (Operand.const (Value.bool false)), none, 0⟩])
 .ret)
 .skip))
 (.seq
 (.ops [⟨some 36, .move (Operand.tmp 1), none, 0⟩,
 ⟨some 37, .binOp BinOp.sub 3 (Operand.tmp 36) (Operand.const (Value.int IntKind.i64 1)) 3, none, 0⟩,
 ⟨some 5, .assign (Operand.tmp 37), none, 0⟩])
 (.seq
 (.block 0
 (.loop
 (.seq
 (.seq
 (.draw [⟨some 38, .move (Operand.tmp 5), none, 0⟩,
 ⟨some 39, .binOp BinOp.gtr 3 (Operand.tmp 38) (Operand.const (Value.int IntKind.i64 0)) 3, none, 0⟩,
 ⟨some 40, .move (Operand.tmp 39), none, 0⟩,
 ⟨some 41, .move (Operand.tmp 0), some (40, true), 0⟩,
 ⟨some 42, .move (Operand.tmp 5), some (40, true), 0⟩,
 ⟨some 43, .indexAddr 39 (Operand.tmp 41) (Operand.tmp 42), some (40, true), 0⟩,
 ⟨some 44, .load 43 (Operand.tmp 43), some (40, true), 0⟩,
 ⟨some 45, .call ⟨(Callee.value (Operand.func 35)), [(Operand.tmp 44), (Operand.const (Value.string ⟨#[34]⟩)), (Operand.const (Value.string ⟨#[41]⟩)), (Operand.const (Value.string ⟨#[39]⟩))].toArray, #[43, 9, 9, 9]⟩, some (40, true), 0⟩,
 ⟨some 46, .pick (Operand.tmp 40) (Operand.tmp 45) (Operand.const (Value.bool false)), none, 0⟩,
 ⟨some 47, .move (Operand.tmp 46), none, 0⟩,
 ⟨some 48, .move (Operand.tmp 0), some (47, true), 0⟩,
 ⟨some 49, .move (Operand.tmp 5), some (47, true), 0⟩,
 ⟨some 50, .binOp BinOp.sub 3 (Operand.tmp 49) (Operand.const (Value.int IntKind.i64 1)) 3, some (47, true), 0⟩,
 ⟨some 51, .indexAddr 39 (Operand.tmp 48) (Operand.tmp 50), some (47, true), 0⟩,
 ⟨some 52, .fieldAddr 43 (Operand.tmp 51) 1, some (47, true), 0⟩,
 ⟨some 53, .load 3 (Operand.tmp 52), some (47, true), 0⟩,
 ⟨some 54, .move (Operand.tmp 0), some (47, true), 0⟩,
 ⟨some 55, .move (Operand.tmp 5), some (47, true), 0⟩,
 ⟨some 56, .indexAddr 39 (Operand.tmp 54) (Operand.tmp 55), some (47, true), 0⟩,
 ⟨some 57, .fieldAddr 43 (Operand.tmp 56) 0, some (47, true), 0⟩,
 ⟨some 58, .load 3 (Operand.tmp 57), some (47, true), 0⟩,
 ⟨some 59, .binOp BinOp.eql 3 (Operand.tmp 53) (Operand.tmp 58) 3, some (47, true), 0⟩,
 ⟨some 60, .pick (Operand.tmp 47) (Operand.tmp 59) (Operand.const (Value.bool false)), none, 0⟩] true [21, 22] [0, 1, 2, 3, 4, 5, 6, 7, 8, 9, 10, 11, 12, 13, 14, 15, 16, 17, 18, 19, 20, 21, 22])
 (.cond (Operand.tmp 60)
 .skip
 (.exit 0)))
 (.block 1
 (.ops [⟨some 61, .move (Operand.tmp 5), none, 0⟩,
 ⟨some 62, .binOp BinOp.sub 3 (Operand.tmp 61) (Operand.const (Value.int IntKind.i64 1)) 3, none, 0⟩,
 ⟨some 5, .assign (Operand.tmp 62), none, 0⟩])))))
 (.seq
 (.ops [⟨some 63, .move (Operand.tmp 0), none, 0⟩,
 ⟨some 64, .move (Operand.tmp 5), none, 0⟩,
 ⟨some 65, .indexAddr 39 (Operand.tmp 63) (Operand.tmp 64), none, 0⟩,
 ⟨some 66, .load 43 (Operand.tmp 65), none, 0⟩,
 ⟨some 67, .call ⟨(Callee.value (Operand.func 35)), [(Operand.tmp 66), (Operand.const (Value.string ⟨#[46]⟩)), (Operand.const (Value.string ⟨#[33]⟩)), (Operand.const (Value.string ⟨#[63]⟩))].toArray, #[43, 9, 9, 9]⟩, none, 0⟩,
 ⟨some 4, .assign (Operand.tmp 67), none, 0⟩])
 .ret))))))
abbrev R16 : List ResultVar := [ResultVar.tmp 4]
theorem ok16 : FnOK Tryz.prog 16 L16 R16 2 := ⟨_, _, Tryz.func16, rfl, by kernel_rfl, by kernel_rfl, by kernel_rfl, by kernel_rfl, Nat.le_of_ble_eq_true (by kernel_rfl), by kernel_rfl⟩

/-- ablaut/token.isText -/
def L17 : LCode :=
 (.seq
 (.ops [⟨some 1, .box 43 (Operand.tmp 0), none, 0⟩,
 ⟨some 2, .assign (Operand.const (Value.bool false)), none, 0⟩])
 (.seq
 (.ops [⟨some 3, .fieldAddr 43 (Operand.tmp 1) 2, none, 0⟩,
 ⟨some 4, .load 3 (Operand.tmp 3), none, 0⟩,
 ⟨some 5, .binOp BinOp.eql 3 (Operand.tmp 4) (Operand.const (Value.int IntKind.i64 0)) 3, none, 0⟩,
 ⟨some 6, .move (Operand.tmp 5), none, 0⟩,
 ⟨some 7, .fieldAddr 43 (Operand.tmp 1) 2, some (6, false), 0⟩,
 ⟨some 8, .load 3 (Operand.tmp 7), some (6, false), 0⟩,
 ⟨some 9, .binOp BinOp.eql 3 (Operand.tmp 8) (Operand.const (Value.int IntKind.i64 3)) 3, some (6, false), 0⟩,
 ⟨some 10, .pick (Operand.tmp 6) (Operand.const (Value.bool true)) (Operand.tmp 9), none, 0⟩,
 ⟨some 11, .move (Operand.tmp 10), none, 0⟩,
 ⟨some 12, .fieldAddr 43 (Operand.tmp 1) 2, some (11, false), 0⟩,
 ⟨some 13, .load 3 (Operand.tmp 12), some (11, false), 0⟩,
 ⟨some 14, .binOp BinOp.eql 3 (Operand.tmp 13) (Operand.const (Value.int IntKind.i64 4)) 3, some (11, false), 0⟩,
 ⟨some 15, .pick (Operand.tmp 11) (Operand.const (Value.bool true)) (Operand.tmp 14), none, 0⟩,
 ⟨some 2, .assign (Operand.tmp 15), none, 0⟩])
 .ret))
abbrev R17 : List ResultVar := [ResultVar.tmp 2]
theorem ok17 : FnOK Tryz.prog 17 L17 R17 1 := ⟨_, _, Tryz.func17, rfl, by kernel_rfl, by kernel_rfl, by kernel_rfl, by kernel_rfl, Nat.le_of_ble_eq_true (by kernel_rfl), by kernel_rfl⟩

/-- ablaut/token.isBig -/
def L18 : LCode :=
 (.seq
 (.ops [⟨some 2, .assign (Operand.const (Value.bool false)), none, 0⟩])
 (.seq
 (.ops [⟨some 3, .move (Operand.tmp 0), none, 0⟩,
 ⟨some 4, .binOp BinOp.geq 5 (Operand.tmp 3) (Operand.const (Value.int IntKind.u8 65)) 5, none, 0⟩,
 ⟨some 5, .move (Operand.tmp 4), none, 0⟩,
 ⟨some 6, .move (Operand.tmp 0), some (5, true), 0⟩,
 ⟨some 7, .binOp BinOp.leq 5 (Operand.tmp 6) (Operand.const (Value.int IntKind.u8 90)) 5, some (5, true), 0⟩,
 ⟨some 8, .pick (Operand.tmp 5) (Operand.tmp 7) (Operand.const (Value.bool false)), none, 0⟩,
 ⟨some 2, .assign (Operand.tmp 8), none, 0⟩])
 .ret))
abbrev R18 : List ResultVar := [ResultVar.tmp 2]
theorem ok18 : FnOK Tryz.prog 18 L18 R18 1 := ⟨_, _, Tryz.func18, rfl, by kernel_rfl, by kernel_rfl, by kernel_rfl, by kernel_rfl, Nat.le_of_ble_eq_true (by kernel_rfl), by kernel_rfl⟩

/-- slices.ContainsFunc[[]byte,byte] -/
def L19 : LCode :=
 (.seq
 (.ops [⟨some 4, .assign (Operand.const (Value.bool false)), none, 0⟩])
 (.seq
 (.ops [⟨some 5, .move (Operand.tmp 0), none, 0⟩,
 ⟨some 6, .move (Operand.tmp 1), none, 0⟩,
 ⟨some 7, .call ⟨(Callee.value (Operand.func 36)), [(Operand.tmp 5), (Operand.tmp 6)].toArray, #[46, 48]⟩, none, 0⟩,
 ⟨some 8, .binOp BinOp.geq 3 (Operand.tmp 7) (Operand.const (Value.int IntKind.i64 0)) 3, none, 0⟩,
 ⟨some 4, .assign (Operand.tmp 8), none, 0⟩])
 .ret))
abbrev R19 : List ResultVar := [ResultVar.tmp 4]
theorem ok19 : FnOK Tryz.prog 19 L19 R19 2 := ⟨_, _, Tryz.func19, rfl, by kernel_rfl, by kernel_rfl, by kernel_rfl, by kernel_rfl, Nat.le_of_ble_eq_true (by kernel_rfl), by kernel_rfl⟩

/-- ablaut/token.Lower -/
def L20 : LCode :=
 (.seq
 (.ops [⟨some 2, .assign (Operand.const (Value.string ⟨#[]⟩)), none, 0⟩])
 (.seq
 (.ops [⟨some 6, .move (Operand.tmp 0), none, 0⟩,
 ⟨some 7, .convert 9 46 (Operand.tmp 6), none, 0⟩,
 ⟨some 3, .assign (Operand.tmp 7), none, 0⟩])
 (.seq
 (.seq
 (.ops [⟨some 8, .move (Operand.tmp 3), none, 0⟩,
 ⟨some 9, .call ⟨(Callee.builtin Builtin.len), [(Operand.tmp 8)].toArray, #[46]⟩, none, 0⟩,
 ⟨some 10, .move (Operand.const (Value.int IntKind.i64 0)), none, 0⟩])
 (.block 0
 (.loop
 (.seq
 (.ops [⟨some 11, .binOp BinOp.lss 3 (Operand.tmp 10) (Operand.tmp 9) 3, none, 0⟩])
 (.seq
 (.cond (Operand.tmp 11)
 .skip
 (.exit 0))
 (.seq
 (.block 1
 (.seq
 (.ops [⟨some 12, .move (Operand.tmp 10), none, 0⟩,
 ⟨some 13, .indexAddr 46 (Operand.tmp 8) (Operand.tmp 10), none, 0⟩,
 ⟨some 14, .load 5 (Operand.tmp 13), none, 0⟩,
 ⟨some 4, .assign (Operand.tmp 12), none, 0⟩,
 ⟨some 5, .assign (Operand.tmp 14), none, 0⟩])
 (.seq
 (.ops [⟨some 15, .move (Operand.tmp 5), none, 0⟩,
 ⟨some 16, .call ⟨(Callee.value (Operand.func 18)), [(Operand.tmp 15)].toArray, #[5]⟩, none, 0⟩])
 (.cond (Operand.tmp 16)
 (.ops [⟨some 17, .move (Operand.tmp 3), none, 0⟩,
 ⟨some 18, .move (Operand.tmp 4), none, 0⟩,
 ⟨some 19, .move (Operand.tmp 5), none, 0⟩,
 ⟨some 20, .binOp BinOp.add 5 (Operand.tmp 19) (Operand.const (Value.int IntKind.u8 32)) 5, none, 0⟩,
 ⟨some 21, .indexAddr 46 (Operand.tmp 17) (Operand.tmp 18), none, 0⟩,
 ⟨none, .store 5 (Operand.tmp 21) (Operand.tmp 20), none, 0⟩])
 .skip))))
 (.ops [⟨some 22, .binOp BinOp.add 3 (Operand.tmp 10) (Operand.const (Value.int IntKind.i64 1)) 3, none, 0⟩,
 ⟨some 10, .move (Operand.tmp 22), none, 0⟩])))))))
 (.seq
 (.ops [⟨some 23, .move (Operand.tmp 3), none, 0⟩,
 ⟨some 24, .convert 46 9 (Operand.tmp 23), none, 0⟩,
 ⟨some 2, .assign (Operand.tmp 24), none, 0⟩])
 .ret))))
abbrev R20 : List ResultVar := [ResultVar.tmp 2]
theorem ok20 : FnOK Tryz.prog 20 L20 R20 1 := ⟨_, _, Tryz.func20, rfl, by kernel_rfl, by kernel_rfl, by kernel_rfl, by kernel_rfl, Nat.le_of_ble_eq_true (by kernel_rfl), by kernel_rfl⟩

/-- ablaut/ablautref17.isWord -/
def L21 : LCode :=
 (.seq
 (.ops [⟨some 1, .box 43 (Operand.tmp 0), none, 0⟩,
 ⟨some 2, .assign (Operand.const (Value.bool false)), none, 0⟩])
 (.seq
 (.ops [⟨some 3, .fieldAddr 43 (Operand.tmp 1) 2, none, 0⟩,
 ⟨some 4, .load 3 (Operand.tmp 3), none, 0⟩,
 ⟨some 5, .binOp BinOp.eql 3 (Operand.tmp 4) (Operand.const (Value.int IntKind.i64 0)) 3, none, 0⟩,
 ⟨some 6, .move (Operand.tmp 5), none, 0⟩,
 ⟨some 7, .fieldAddr 43 (Operand.tmp 1) 2, some (6, false), 0⟩,
 ⟨some 8, .load 3 (Operand.tmp 7), some (6, false), 0⟩,
 ⟨some 9, .binOp BinOp.eql 3 (Operand.tmp 8) (Operand.const (Value.int IntKind.i64 3)) 3, some (6, false), 0⟩,
 ⟨some 10, .pick (Operand.tmp 6) (Operand.const (Value.bool true)) (Operand.tmp 9), none, 0⟩,
 ⟨some 11, .move (Operand.tmp 10), none, 0⟩,
 ⟨some 12, .fieldAddr 43 (Operand.tmp 1) 2, some (11, false), 0⟩,
 ⟨some 13, .load 3 (Operand.tmp 12), some (11, false), 0⟩,
 ⟨some 14, .binOp BinOp.eql 3 (Operand.tmp 13) (Operand.const (Value.int IntKind.i64 4)) 3, some (11, false), 0⟩,
 ⟨some 15, .pick (Operand.tmp 11) (Operand.const (Value.bool true)) (Operand.tmp 14), none, 0⟩,
 ⟨some 2, .assign (Operand.tmp 15), none, 0⟩])
 .ret))
abbrev R21 : List ResultVar := [ResultVar.tmp 2]
theorem ok21 : FnOK Tryz.prog 21 L21 R21 1 := ⟨_, _, Tryz.func21, rfl, by kernel_rfl, by kernel_rfl, by kernel_rfl, by kernel_rfl, Nat.le_of_ble_eq_true (by kernel_rfl), by kernel_rfl⟩

/-- ablaut/ablautref17.isCapital -/
def L22 : LCode :=
 (.seq
 (.ops [⟨some 2, .assign (Operand.const (Value.bool false)), none, 0⟩])
 (.seq
 (.ops [⟨some 3, .move (Operand.tmp 0), none, 0⟩,
 ⟨some 4, .binOp BinOp.geq 5 (Operand.tmp 3) (Operand.const (Value.int IntKind.u8 65)) 5, none, 0⟩,
 ⟨some 5, .move (Operand.tmp 4), none, 0⟩,
 ⟨some 6, .move (Operand.tmp 0), some (5, true), 0⟩,
 ⟨some 7, .binOp BinOp.leq 5 (Operand.tmp 6) (Operand.const (Value.int IntKind.u8 90)) 5, some (5, true), 0⟩,
 ⟨some 8, .pick (Operand.tmp 5) (Operand.tmp 7) (Operand.const (Value.bool false)), none, 0⟩,
 ⟨some 2, .assign (Operand.tmp 8), none, 0⟩])
 .ret))
abbrev R22 : List ResultVar := [ResultVar.tmp 2]
theorem ok22 : FnOK Tryz.prog 22 L22 R22 1 := ⟨_, _, Tryz.func22, rfl, by kernel_rfl, by kernel_rfl, by kernel_rfl, by kernel_rfl, Nat.le_of_ble_eq_true (by kernel_rfl), by kernel_rfl⟩

/-- ablaut/ablautref17.capitals -/
def L23 : LCode :=
 (.seq
 (.ops [⟨some 2, .assign (Operand.const (Value.int IntKind.i64 0)), none, 0⟩])
 (.seq
 (.ops [⟨some 3, .assign (Operand.const (Value.int IntKind.i64 0)), none, 0⟩])
 (.seq
 (.seq
 (.ops [⟨some 4, .assign (Operand.const (Value.int IntKind.i64 0)), none, 0⟩])
 (.block 0
 (.loop
 (.seq
 (.seq
 (.ops [⟨some 5, .move (Operand.tmp 4), none, 0⟩,
 ⟨some 6, .move (Operand.tmp 0), none, 0⟩,
 ⟨some 7, .call ⟨(Callee.builtin Builtin.len), [(Operand.tmp 6)].toArray, #[9]⟩, none, 0⟩,
 ⟨some 8, .binOp BinOp.lss 3 (Operand.tmp 5) (Operand.tmp 7) 3, none, 0⟩])
 (.cond (Operand.tmp 8)
 .skip
 (.exit 0)))
 (.seq
 (.block 1
 (.seq
 (.ops [⟨some 11, .move (Operand.tmp 0), none, 0⟩,
 ⟨some 12, .move (Operand.tmp 4), none, 0⟩,
 ⟨some 13, .index 9 (Operand.tmp 11) (Operand.tmp 12), none, 0⟩,
 ⟨some 14, .call ⟨(Callee.value (Operand.func 22)), [(Operand.tmp 13)].toArray, #[5]⟩, none, 0⟩])
 (.cond (Operand.tmp 14)
 (.ops [⟨some 15, .move (Operand.tmp 3), none, 0⟩,
 ⟨some 16, .binOp BinOp.add 3 (Operand.tmp 15) (Operand.const (Value.int IntKind.i64 1)) 3, none, 0⟩,
 ⟨some 3, .assign (Operand.tmp 16), none, 0⟩])
 .skip)))
 (.ops [⟨some 9, .move (Operand.tmp 4), none, 0⟩,
 ⟨some 10, .binOp BinOp.add 3 (Operand.tmp 9) (Operand.const (Value.int IntKind.i64 1)) 3, none, 0⟩,
 ⟨some 4, .assign (Operand.tmp 10), none, 0⟩]))))))
 (.seq
 (.ops [⟨some 17, .move (Operand.tmp 3), none, 0⟩,
 ⟨some 2, .assign (Operand.tmp 17), none, 0⟩])
 .ret))))
abbrev R23 : List ResultVar := [ResultVar.tmp 2]
theorem ok23 : FnOK Tryz.prog 23 L23 R23 1 := ⟨_, _, Tryz.func23, rfl, by kernel_rfl, by kernel_rfl, by kernel_rfl, by kernel_rfl, Nat.le_of_ble_eq_true (by kernel_rfl), by kernel_rfl⟩

/-- ablaut/ablautref17.Lower -/
def L24 : LCode :=
 (.seq
 (.ops [⟨some 2, .assign (Operand.const (Value.string ⟨#[]⟩)), none, 0⟩])
 (.seq
 (.ops [⟨some 5, .move (Operand.tmp 0), none, 0⟩,
 ⟨some 6, .convert 9 46 (Operand.tmp 5), none, 0⟩,
 ⟨some 3, .assign (Operand.tmp 6), none, 0⟩])
 (.seq
 (.seq
 (.ops [⟨some 4, .assign (Operand.const (Value.int IntKind.i64 0)), none, 0⟩])
 (.block 0
 (.loop
 (.seq
 (.seq
 (.ops [⟨some 7, .move (Operand.tmp 4), none, 0⟩,
 ⟨some 8, .move (Operand.tmp 3), none, 0⟩,
 ⟨some 9, .call ⟨(Callee.builtin Builtin.len), [(Operand.tmp 8)].toArray, #[46]⟩, none, 0⟩,
 ⟨some 10, .binOp BinOp.lss 3 (Operand.tmp 7) (Operand.tmp 9) 3, none, 0⟩])
 (.cond (Operand.tmp 10)
 .skip
 (.exit 0)))
 (.seq
 (.block 1
 (.seq
 (.ops [⟨some 13, .move (Operand.tmp 3), none, 0⟩,
 ⟨some 14, .move (Operand.tmp 4), none, 0⟩,
 ⟨some 15, .indexAddr 46 (Operand.tmp 13) (Operand.tmp 14), none, 0⟩,
 ⟨some 16, .load 5 (Operand.tmp 15), none, 0⟩,
 ⟨some 17, .call ⟨(Callee.value (Operand.func 22)), [(Operand.tmp 16)].toArray, #[5]⟩, none, 0⟩])
 (.cond (Operand.tmp 17)
 (.ops [⟨some 18, .move (Operand.tmp 3), none, 0⟩,
 ⟨some 19, .move (Operand.tmp 4), none, 0⟩,
 ⟨some 20, .indexAddr 46 (Operand.tmp 18) (Operand.tmp 19), none, 0⟩,
 ⟨some 21, .load 5 (Operand.tmp 20), none, 0⟩,
 ⟨some 22, .binOp BinOp.add 5 (Operand.tmp 21) (Operand.const (Value.int IntKind.u8 32)) 5, none, 0⟩,
 ⟨some 23, .indexAddr 46 (Operand.tmp 18) (Operand.tmp 19), none, 0⟩,
 ⟨none, .store 5 (Operand.tmp 23) (Operand.tmp 22), none, 0⟩])
 .skip)))
 (.ops [⟨some 11, .move (Operand.tmp 4), none, 0⟩,
 ⟨some 12, .binOp BinOp.add 3 (Operand.tmp 11) (Operand.const (Value.int IntKind.i64 1)) 3, none, 0⟩,
 ⟨some 4, .assign (Operand.tmp 12), none, 0⟩]))))))
 (.seq
 (.ops [⟨some 24, .move (Operand.tmp 3), none, 0⟩,
 ⟨some 25, .convert 46 9 (Operand.tmp 24), none, 0⟩,
 ⟨some 2, .assign (Operand.tmp 25), none, 0⟩])
 .ret))))
abbrev R24 : List ResultVar := [ResultVar.tmp 2]
theorem ok24 : FnOK Tryz.prog 24 L24 R24 1 := ⟨_, _, Tryz.func24, rfl, by kernel_rfl, by kernel_rfl, by kernel_rfl, by kernel_rfl, Nat.le_of_ble_eq_true (by kernel_rfl), by kernel_rfl⟩

/-- ablaut/ablautref01.Order -/
def L25 : LCode :=
 (.seq
 (.ops [⟨some 4, .assign (Operand.const (Value.int IntKind.i64 0)), none, 0⟩])
 (.seq
 (.seq
 (.ops [⟨some 5, .assign (Operand.const (Value.int IntKind.i64 0)), none, 0⟩])
 (.block 0
 (.loop
 (.seq
 (.seq
 (.ops [⟨some 6, .move (Operand.tmp 5), none, 0⟩,
 ⟨some 7, .move (Operand.tmp 0), none, 0⟩,
 ⟨some 8, .call ⟨(Callee.builtin Builtin.len), [(Operand.tmp 7)].toArray, #[22]⟩, none, 0⟩,
 ⟨some 9, .binOp BinOp.lss 3 (Operand.tmp 6) (Operand.tmp 8) 3, none, 0⟩,
 ⟨some 10, .move (Operand.tmp 9), none, 0⟩,
 ⟨some 11, .move (Operand.tmp 5), some (10, true), 0⟩,
 ⟨some 12, .move (Operand.tmp 1), some (10, true), 0⟩,
 ⟨some 13, .call ⟨(Callee.builtin Builtin.len), [(Operand.tmp 12)].toArray, #[22]⟩, some (10, true), 0⟩,
 ⟨some 14, .binOp BinOp.lss 3 (Operand.tmp 11) (Operand.tmp 13) 3, some (10, true), 0⟩,
 ⟨some 15, .pick (Operand.tmp 10) (Operand.tmp 14) (Operand.const (Value.bool false)), none, 0⟩])
 (.cond (Operand.tmp 15)
 .skip
 (.exit 0)))
 (.seq
 (.block 1
 (.seq
 (.seq
 (.draw [⟨some 18, .move (Operand.tmp 0), none, 0⟩,
 ⟨some 19, .move (Operand.tmp 5), none, 0⟩,
 ⟨some 20, .indexAddr 22 (Operand.tmp 18) (Operand.tmp 19), none, 0⟩,
 ⟨some 21, .load 9 (Operand.tmp 20), none, 0⟩,
 ⟨some 22, .move (Operand.tmp 1), none, 0⟩,
 ⟨some 23, .move (Operand.tmp 5), none, 0⟩,
 ⟨some 24, .indexAddr 22 (Operand.tmp 22) (Operand.tmp 23), none, 0⟩,
 ⟨some 25, .load 9 (Operand.tmp 24), none, 0⟩,
 ⟨some 26, .binOp BinOp.lss 9 (Operand.tmp 21) (Operand.tmp 25) 9, none, 0⟩] true [8] [0, 1, 2, 4, 5, 6, 3, 7, 8])
 (.cond (Operand.tmp 26)
 (.seq
 (.ops [⟨some 4, .assign (Operand.const (Value.int IntKind.i64 (-1))), none, 0⟩])
 .ret)
 .skip))
 (.seq
 (.draw [⟨some 27, .move (Operand.tmp 0), none, 0⟩,
 ⟨some 28, .move (Operand.tmp 5), none, 0⟩,
 ⟨some 29, .indexAddr 22 (Operand.tmp 27) (Operand.tmp 28), none, 0⟩,
 ⟨some 30, .load 9 (Operand.tmp 29), none, 0⟩,
 ⟨some 31, .move (Operand.tmp 1), none, 0⟩,
 ⟨some 32, .move (Operand.tmp 5), none, 0⟩,
 ⟨some 33, .indexAddr 22 (Operand.tmp 31) (Operand.tmp 32), none, 0⟩,
 ⟨some 34, .load 9 (Operand.tmp 33), none, 0⟩,
 ⟨some 35, .binOp BinOp.gtr 9 (Operand.tmp 30) (Operand.tmp 34) 9, none, 0⟩] true [8] [0, 1, 2, 4, 5, 6, 3, 7, 8])
 (.cond (Operand.tmp 35)
 (.seq
 (.ops [⟨some 4, .assign (Operand.const (Value.int IntKind.i64 1)), none, 0⟩])
 .ret)
 .skip))))
 (.ops [⟨some 16, .move (Operand.tmp 5), none, 0⟩,
 ⟨some 17, .binOp BinOp.add 3 (Operand.tmp 16) (Operand.const (Value.int IntKind.i64 1)) 3, none, 0⟩,
 ⟨some 5, .assign (Operand.tmp 17), none, 0⟩]))))))
 (.seq
 (.block 2
 (.seq
 (.ops [⟨some 37, .move (Operand.tmp 0), none, 0⟩,
 ⟨some 38, .call ⟨(Callee.builtin Builtin.len), [(Operand.tmp 37)].toArray, #[22]⟩, none, 0⟩,
 ⟨some 39, .move (Operand.tmp 1), none, 0⟩,
 ⟨some 40, .call ⟨(Callee.builtin Builtin.len), [(Operand.tmp 39)].toArray, #[22]⟩, none, 0⟩,
 ⟨some 41, .binOp BinOp.lss 3 (Operand.tmp 38) (Operand.tmp 40) 3, none, 0⟩,
 ⟨some 36, .assign (Operand.tmp 41), none, 0⟩])
 (.cond (Operand.tmp 36)
 (.seq
 (.ops [⟨some 4, .assign (Operand.const (Value.int IntKind.i64 (-1))), none, 0⟩])
 .ret)
 (.seq
 (.ops [⟨some 43, .move (Operand.tmp 0), none, 0⟩,
 ⟨some 44, .call ⟨(Callee.builtin Builtin.len), [(Operand.tmp 43)].toArray, #[22]⟩, none, 0⟩,
 ⟨some 45, .move (Operand.tmp 1), none, 0⟩,
 ⟨some 46, .call ⟨(Callee.builtin Builtin.len), [(Operand.tmp 45)].toArray, #[22]⟩, none, 0⟩,
 ⟨some 47, .binOp BinOp.gtr 3 (Operand.tmp 44) (Operand.tmp 46) 3, none, 0⟩,
 ⟨some 42, .assign (Operand.tmp 47), none, 0⟩])
 (.cond (Operand.tmp 42)
 (.seq
 (.ops [⟨some 4, .assign (Operand.const (Value.int IntKind.i64 1)), none, 0⟩])
 .ret)
 .skip)))))
 (.seq
 (.ops [⟨some 4, .assign (Operand.const (Value.int IntKind.i64 0)), none, 0⟩])
 .ret))))
abbrev R25 : List ResultVar := [ResultVar.tmp 4]
theorem ok25 : FnOK Tryz.prog 25 L25 R25 2 := ⟨_, _, Tryz.func25, rfl, by kernel_rfl, by kernel_rfl, by kernel_rfl, by kernel_rfl, Nat.le_of_ble_eq_true (by kernel_rfl), by kernel_rfl⟩
end Go.Proofs.YtapkbkniooleaaaGreat.Vs
