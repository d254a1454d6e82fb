/- The seat's functions as the engine Dm reads them, written by dgen.py. -/
import Derived.Test.YtldlcejlfaogbaaDoorDmFn
import Derived.Test.YtldlcejlfaogbaaDoorProg
import Derived.KernelRfl
namespace Go.Proofs.YtldlcejlfaogbaaDoor.Vs
set_option linter.unusedVariables false
set_option maxRecDepth 100000
/-- ablaut/ablautlaw25.ScriptReads -/
def L5 : LCode :=
 (.seq
 (.ops [⟨some 2, .assign (Operand.const (Value.bool false)), none, 0⟩])
 (.seq
 (.seq
 (.ops [⟨some 9, .move (Operand.tmp 0), none, 0⟩,
 ⟨some 10, .call ⟨(Callee.builtin Builtin.len), [(Operand.tmp 9)].toArray, #[9]⟩, none, 0⟩,
 ⟨some 11, .binOp BinOp.gtr 3 (Operand.tmp 10) (Operand.const (Value.int IntKind.i64 100000)) 3, none, 0⟩])
 (.cond (Operand.tmp 11)
 (.seq
 (.ops [⟨some 12, .call ⟨(Callee.value (Operand.func 8)), [].toArray, #[]⟩, none, 0⟩,
 ⟨some 2, .assign (Operand.tmp 12), none, 0⟩])
 .ret)
 .skip))
 (.seq
 (.ops [⟨some 14, .move (Operand.tmp 0), none, 0⟩,
 ⟨some 15, .call ⟨(Callee.value (Operand.func 16)), [(Operand.tmp 14)].toArray, #[9]⟩, none, 0⟩,
 ⟨some 13, .move (Operand.tmp 15), none, 0⟩,
 ⟨some 16, .extract (Operand.tmp 13) 0, none, 0⟩,
 ⟨some 17, .extract (Operand.tmp 13) 1, none, 0⟩,
 ⟨some 18, .extract (Operand.tmp 13) 2, none, 0⟩,
 ⟨some 3, .assign (Operand.tmp 16), none, 0⟩,
 ⟨some 4, .assign (Operand.tmp 17), none, 0⟩,
 ⟨some 5, .assign (Operand.tmp 18), none, 0⟩])
 (.seq
 (.ops [⟨some 20, .move (Operand.tmp 0), none, 0⟩,
 ⟨some 21, .call ⟨(Callee.value (Operand.func 17)), [(Operand.tmp 20)].toArray, #[9]⟩, none, 0⟩,
 ⟨some 19, .move (Operand.tmp 21), none, 0⟩,
 ⟨some 22, .extract (Operand.tmp 19) 0, none, 0⟩,
 ⟨some 23, .extract (Operand.tmp 19) 1, none, 0⟩,
 ⟨some 24, .extract (Operand.tmp 19) 2, none, 0⟩,
 ⟨some 6, .assign (Operand.tmp 22), none, 0⟩,
 ⟨some 7, .assign (Operand.tmp 23), none, 0⟩,
 ⟨some 8, .assign (Operand.tmp 24), none, 0⟩])
 (.seq
 (.ops [⟨some 25, .move (Operand.tmp 3), none, 0⟩,
 ⟨some 26, .move (Operand.tmp 6), none, 0⟩,
 ⟨some 27, .call ⟨(Callee.value (Operand.func 11)), [(Operand.tmp 25), (Operand.tmp 26)].toArray, #[22, 22]⟩, none, 0⟩,
 ⟨some 28, .move (Operand.tmp 27), none, 0⟩,
 ⟨some 29, .move (Operand.tmp 4), some (28, true), 0⟩,
 ⟨some 30, .move (Operand.tmp 7), some (28, true), 0⟩,
 ⟨some 31, .binOp BinOp.eql 3 (Operand.tmp 29) (Operand.tmp 30) 3, some (28, true), 0⟩,
 ⟨some 32, .pick (Operand.tmp 28) (Operand.tmp 31) (Operand.const (Value.bool false)), none, 0⟩,
 ⟨some 33, .move (Operand.tmp 32), none, 0⟩,
 ⟨some 34, .move (Operand.tmp 5), some (33, true), 0⟩,
 ⟨some 35, .move (Operand.tmp 8), some (33, true), 0⟩,
 ⟨some 36, .binOp BinOp.eql 25 (Operand.tmp 34) (Operand.tmp 35) 25, some (33, true), 0⟩,
 ⟨some 37, .pick (Operand.tmp 33) (Operand.tmp 36) (Operand.const (Value.bool false)), none, 0⟩,
 ⟨some 38, .move (Operand.tmp 37), none, 0⟩,
 ⟨some 39, .call ⟨(Callee.value (Operand.func 8)), [].toArray, #[]⟩, some (38, true), 0⟩,
 ⟨some 40, .pick (Operand.tmp 38) (Operand.tmp 39) (Operand.const (Value.bool false)), none, 0⟩,
 ⟨some 2, .assign (Operand.tmp 40), none, 0⟩])
 .ret)))))
abbrev R5 : List ResultVar := [ResultVar.tmp 2]
theorem ok5 : FnOK Tryd.prog 5 L5 R5 1 := ⟨_, _, Tryd.func5, rfl, by kernel_rfl, by kernel_rfl, by kernel_rfl, by kernel_rfl, Nat.le_of_ble_eq_true (by kernel_rfl), by kernel_rfl⟩

/-- ablaut/ablautlaw25.ScriptReturns -/
def L6 : LCode :=
 (.seq
 (.ops [⟨some 4, .assign (Operand.const (Value.bool false)), none, 0⟩])
 (.seq
 (.seq
 (.ops [⟨some 17, .move (Operand.tmp 0), none, 0⟩,
 ⟨some 18, .call ⟨(Callee.value (Operand.func 7)), [(Operand.tmp 17)].toArray, #[22]⟩, none, 0⟩,
 ⟨some 19, .move (Operand.tmp 18), none, 0⟩,
 ⟨some 20, .move (Operand.tmp 1), some (19, false), 0⟩,
 ⟨some 21, .buildSlice 49 1 [(0, (Operand.tmp 20))].toArray, some (19, false), 0⟩,
 ⟨some 22, .call ⟨(Callee.value (Operand.func 12)), [(Operand.tmp 21)].toArray, #[49]⟩, some (19, false), 0⟩,
 ⟨some 23, .binOp BinOp.gtr 3 (Operand.tmp 22) (Operand.const (Value.int IntKind.i64 100000)) 3, some (19, false), 0⟩,
 ⟨some 24, .pick (Operand.tmp 19) (Operand.const (Value.bool true)) (Operand.tmp 23), none, 0⟩])
 (.cond (Operand.tmp 24)
 (.seq
 (.ops [⟨some 25, .call ⟨(Callee.value (Operand.func 8)), [].toArray, #[]⟩, none, 0⟩,
 ⟨some 4, .assign (Operand.tmp 25), none, 0⟩])
 .ret)
 .skip))
 (.seq
 (.ops [⟨some 27, .move (Operand.tmp 0), none, 0⟩,
 ⟨some 28, .call ⟨(Callee.value (Operand.func 18)), [(Operand.tmp 27)].toArray, #[22]⟩, none, 0⟩,
 ⟨some 26, .move (Operand.tmp 28), none, 0⟩,
 ⟨some 29, .extract (Operand.tmp 26) 0, none, 0⟩,
 ⟨some 30, .extract (Operand.tmp 26) 1, none, 0⟩,
 ⟨some 31, .extract (Operand.tmp 26) 2, none, 0⟩,
 ⟨some 5, .assign (Operand.tmp 29), none, 0⟩,
 ⟨some 6, .assign (Operand.tmp 30), none, 0⟩,
 ⟨some 7, .assign (Operand.tmp 31), none, 0⟩])
 (.seq
 (.ops [⟨some 33, .move (Operand.tmp 0), none, 0⟩,
 ⟨some 34, .call ⟨(Callee.value (Operand.func 19)), [(Operand.tmp 33)].toArray, #[22]⟩, none, 0⟩,
 ⟨some 32, .move (Operand.tmp 34), none, 0⟩,
 ⟨some 35, .extract (Operand.tmp 32) 0, none, 0⟩,
 ⟨some 36, .extract (Operand.tmp 32) 1, none, 0⟩,
 ⟨some 37, .extract (Operand.tmp 32) 2, none, 0⟩,
 ⟨some 9, .alloc 41, none, 0⟩,
 ⟨some 8, .assign (Operand.tmp 35), none, 0⟩,
 ⟨none, .store 41 (Operand.tmp 9) (Operand.tmp 36), none, 0⟩,
 ⟨some 10, .assign (Operand.tmp 37), none, 0⟩])
 (.seq
 (.seq
 (.ops [⟨some 38, .move (Operand.tmp 7), none, 0⟩,
 ⟨some 39, .move (Operand.tmp 10), none, 0⟩,
 ⟨some 40, .binOp BinOp.neq 25 (Operand.tmp 38) (Operand.tmp 39) 25, none, 0⟩,
 ⟨some 41, .move (Operand.tmp 40), none, 0⟩,
 ⟨some 42, .move (Operand.tmp 6), some (41, false), 0⟩,
 ⟨some 43, .move (Operand.tmp 42), some (41, false), 0⟩,
 ⟨some 44, .move (Operand.tmp 8), some (43, true), 0⟩,
 ⟨some 45, .unOp UnOp.not 4 (Operand.tmp 44), some (43, true), 0⟩,
 ⟨some 46, .pick (Operand.tmp 43) (Operand.tmp 45) (Operand.const (Value.bool false)), some (41, false), 0⟩,
 ⟨some 47, .pick (Operand.tmp 41) (Operand.const (Value.bool true)) (Operand.tmp 46), none, 0⟩])
 (.cond (Operand.tmp 47)
 (.seq
 (.ops [⟨some 4, .assign (Operand.const (Value.bool false)), none, 0⟩])
 .ret)
 .skip))
 (.seq
 (.seq
 (.ops [⟨some 48, .move (Operand.tmp 6), none, 0⟩,
 ⟨some 49, .unOp UnOp.not 4 (Operand.tmp 48), none, 0⟩])
 (.cond (Operand.tmp 49)
 (.seq
 (.ops [⟨some 50, .call ⟨(Callee.value (Operand.func 8)), [].toArray, #[]⟩, none, 0⟩,
 ⟨some 4, .assign (Operand.tmp 50), none, 0⟩])
 .ret)
 .skip))
 (.seq
 (.ops [⟨some 52, .move (Operand.tmp 0), none, 0⟩,
 ⟨some 53, .move (Operand.tmp 1), none, 0⟩,
 ⟨some 54, .call ⟨(Callee.value (Operand.func 14)), [(Operand.tmp 52), (Operand.tmp 53)].toArray, #[22, 29]⟩, none, 0⟩,
 ⟨some 51, .move (Operand.tmp 54), none, 0⟩,
 ⟨some 55, .extract (Operand.tmp 51) 0, none, 0⟩,
 ⟨some 56, .extract (Operand.tmp 51) 1, none, 0⟩,
 ⟨some 11, .assign (Operand.tmp 55), none, 0⟩,
 ⟨some 12, .assign (Operand.tmp 56), none, 0⟩])
 (.seq
 (.ops [⟨some 58, .move (Operand.tmp 0), none, 0⟩,
 ⟨some 59, .move (Operand.tmp 1), none, 0⟩,
 ⟨some 60, .call ⟨(Callee.value (Operand.func 13)), [(Operand.tmp 58), (Operand.tmp 59)].toArray, #[22, 29]⟩, none, 0⟩,
 ⟨some 57, .move (Operand.tmp 60), none, 0⟩,
 ⟨some 61, .extract (Operand.tmp 57) 0, none, 0⟩,
 ⟨some 62, .extract (Operand.tmp 57) 1, none, 0⟩,
 ⟨some 13, .assign (Operand.tmp 61), none, 0⟩,
 ⟨some 14, .assign (Operand.tmp 62), none, 0⟩])
 (.seq
 (.seq
 (.ops [⟨some 63, .move (Operand.tmp 12), none, 0⟩,
 ⟨some 64, .binOp BinOp.eql 25 (Operand.tmp 63) (Operand.const (Value.int IntKind.i64 0)) 25, none, 0⟩,
 ⟨some 65, .move (Operand.tmp 64), none, 0⟩,
 ⟨some 66, .move (Operand.tmp 14), some (65, true), 0⟩,
 ⟨some 67, .binOp BinOp.eql 25 (Operand.tmp 66) (Operand.const (Value.int IntKind.i64 0)) 25, some (65, true), 0⟩,
 ⟨some 68, .pick (Operand.tmp 65) (Operand.tmp 67) (Operand.const (Value.bool false)), none, 0⟩,
 ⟨some 69, .move (Operand.tmp 68), none, 0⟩,
 ⟨some 70, .move (Operand.tmp 13), some (69, true), 0⟩,
 ⟨some 71, .pick (Operand.tmp 69) (Operand.tmp 70) (Operand.const (Value.bool false)), none, 0⟩])
 (.cond (Operand.tmp 71)
 (.seq
 (.ops [⟨some 73, .move (Operand.tmp 5), none, 0⟩,
 ⟨some 74, .move (Operand.tmp 11), none, 0⟩,
 ⟨some 75, .call ⟨(Callee.value (Operand.func 14)), [(Operand.tmp 73), (Operand.tmp 74)].toArray, #[22, 29]⟩, none, 0⟩,
 ⟨some 72, .move (Operand.tmp 75), none, 0⟩,
 ⟨some 76, .extract (Operand.tmp 72) 0, none, 0⟩,
 ⟨some 77, .extract (Operand.tmp 72) 1, none, 0⟩,
 ⟨some 15, .assign (Operand.tmp 76), none, 0⟩,
 ⟨some 16, .assign (Operand.tmp 77), none, 0⟩])
 (.seq
 (.ops [⟨some 78, .move (Operand.tmp 16), none, 0⟩,
 ⟨some 79, .binOp BinOp.neq 25 (Operand.tmp 78) (Operand.const (Value.int IntKind.i64 0)) 25, none, 0⟩,
 ⟨some 80, .move (Operand.tmp 79), none, 0⟩,
 ⟨some 81, .move (Operand.tmp 15), some (80, false), 0⟩,
 ⟨some 82, .move (Operand.tmp 1), some (80, false), 0⟩,
 ⟨some 83, .call ⟨(Callee.value (Operand.func 15)), [(Operand.tmp 81), (Operand.tmp 82)].toArray, #[29, 29]⟩, some (80, false), 0⟩,
 ⟨some 84, .unOp UnOp.not 4 (Operand.tmp 83), some (80, false), 0⟩,
 ⟨some 85, .pick (Operand.tmp 80) (Operand.const (Value.bool true)) (Operand.tmp 84), none, 0⟩])
 (.cond (Operand.tmp 85)
 (.seq
 (.ops [⟨some 4, .assign (Operand.const (Value.bool false)), none, 0⟩])
 .ret)
 .skip)))
 .skip))
 (.seq
 (.ops [⟨some 86, .call ⟨(Callee.value (Operand.func 8)), [].toArray, #[]⟩, none, 0⟩,
 ⟨some 4, .assign (Operand.tmp 86), none, 0⟩])
 .ret))))))))))
abbrev R6 : List ResultVar := [ResultVar.tmp 4]
theorem ok6 : FnOK Tryd.prog 6 L6 R6 2 := ⟨_, _, Tryd.func6, rfl, by kernel_rfl, by kernel_rfl, by kernel_rfl, by kernel_rfl, Nat.le_of_ble_eq_true (by kernel_rfl), by kernel_rfl⟩

/-- ablaut/ablautlaw25.over -/
def L7 : LCode :=
 (.seq
 (.ops [⟨some 2, .assign (Operand.const (Value.bool false)), none, 0⟩])
 (.seq
 (.ops [⟨some 5, .move (Operand.tmp 0), none, 0⟩,
 ⟨some 6, .call ⟨(Callee.builtin Builtin.len), [(Operand.tmp 5)].toArray, #[22]⟩, none, 0⟩,
 ⟨some 3, .assign (Operand.tmp 6), none, 0⟩])
 (.seq
 (.seq
 (.ops [⟨some 4, .assign (Operand.const (Value.int IntKind.i64 0)), none, 0⟩])
 (.block 0
 (.loop
 (.seq
 (.seq
 (.ops [⟨some 7, .move (Operand.tmp 4), none, 0⟩,
 ⟨some 8, .move (Operand.tmp 0), none, 0⟩,
 ⟨some 9, .call ⟨(Callee.builtin Builtin.len), [(Operand.tmp 8)].toArray, #[22]⟩, none, 0⟩,
 ⟨some 10, .binOp BinOp.lss 3 (Operand.tmp 7) (Operand.tmp 9) 3, none, 0⟩,
 ⟨some 11, .move (Operand.tmp 10), none, 0⟩,
 ⟨some 12, .move (Operand.tmp 3), some (11, true), 0⟩,
 ⟨some 13, .binOp BinOp.leq 3 (Operand.tmp 12) (Operand.const (Value.int IntKind.i64 100000)) 3, some (11, true), 0⟩,
 ⟨some 14, .pick (Operand.tmp 11) (Operand.tmp 13) (Operand.const (Value.bool false)), none, 0⟩])
 (.cond (Operand.tmp 14)
 .skip
 (.exit 0)))
 (.seq
 (.block 1
 (.draw [⟨some 17, .move (Operand.tmp 3), none, 0⟩,
 ⟨some 18, .move (Operand.tmp 0), none, 0⟩,
 ⟨some 19, .move (Operand.tmp 4), none, 0⟩,
 ⟨some 20, .indexAddr 22 (Operand.tmp 18) (Operand.tmp 19), none, 0⟩,
 ⟨some 21, .fieldAddr 46 (Operand.tmp 20) 0, none, 0⟩,
 ⟨some 22, .load 29 (Operand.tmp 21), none, 0⟩,
 ⟨some 23, .move (Operand.tmp 0), none, 0⟩,
 ⟨some 24, .move (Operand.tmp 4), none, 0⟩,
 ⟨some 25, .indexAddr 22 (Operand.tmp 23) (Operand.tmp 24), none, 0⟩,
 ⟨some 26, .fieldAddr 46 (Operand.tmp 25) 1, none, 0⟩,
 ⟨some 27, .load 29 (Operand.tmp 26), none, 0⟩,
 ⟨some 28, .buildSlice 49 2 [(0, (Operand.tmp 22)), (1, (Operand.tmp 27))].toArray, none, 0⟩,
 ⟨some 29, .call ⟨(Callee.value (Operand.func 12)), [(Operand.tmp 28)].toArray, #[49]⟩, none, 0⟩,
 ⟨some 30, .binOp BinOp.add 3 (Operand.tmp 17) (Operand.tmp 29) 3, none, 0⟩,
 ⟨some 3, .assign (Operand.tmp 30), none, 0⟩] true [13, 14] []))
 (.ops [⟨some 15, .move (Operand.tmp 4), none, 0⟩,
 ⟨some 16, .binOp BinOp.add 3 (Operand.tmp 15) (Operand.const (Value.int IntKind.i64 1)) 3, none, 0⟩,
 ⟨some 4, .assign (Operand.tmp 16), none, 0⟩]))))))
 (.seq
 (.ops [⟨some 31, .move (Operand.tmp 3), none, 0⟩,
 ⟨some 32, .binOp BinOp.gtr 3 (Operand.tmp 31) (Operand.const (Value.int IntKind.i64 100000)) 3, none, 0⟩,
 ⟨some 2, .assign (Operand.tmp 32), none, 0⟩])
 .ret))))
abbrev R7 : List ResultVar := [ResultVar.tmp 2]
theorem ok7 : FnOK Tryd.prog 7 L7 R7 1 := ⟨_, _, Tryd.func7, rfl, by kernel_rfl, by kernel_rfl, by kernel_rfl, by kernel_rfl, Nat.le_of_ble_eq_true (by kernel_rfl), by kernel_rfl⟩

/-- ablaut/ablautlaw25.known -/
def L8 : LCode :=
 (.seq
 (.ops [⟨some 0, .assign (Operand.const (Value.bool false)), none, 0⟩])
 (.seq
 (.ops [⟨some 7, .buildSlice 29 1 [(0, (Operand.const (Value.string ⟨#[97]⟩)))].toArray, none, 0⟩,
 ⟨some 8, .buildSlice 29 1 [(0, (Operand.const (Value.string ⟨#[120]⟩)))].toArray, none, 0⟩,
 ⟨some 9, .build 46 [(0, (Operand.tmp 7)), (1, (Operand.tmp 8))].toArray, none, 0⟩,
 ⟨some 10, .buildSlice 29 1 [(0, (Operand.const (Value.string ⟨#[98]⟩)))].toArray, none, 0⟩,
 ⟨some 11, .buildSlice 29 2 [(0, (Operand.const (Value.string ⟨#[120]⟩))), (1, (Operand.const (Value.string ⟨#[120]⟩)))].toArray, none, 0⟩,
 ⟨some 12, .build 46 [(0, (Operand.tmp 10)), (1, (Operand.tmp 11))].toArray, none, 0⟩,
 ⟨some 13, .buildSlice 22 2 [(0, (Operand.tmp 9)), (1, (Operand.tmp 12))].toArray, none, 0⟩,
 ⟨some 1, .assign (Operand.tmp 13), none, 0⟩])
 (.seq
 (.ops [⟨some 15, .move (Operand.tmp 1), none, 0⟩,
 ⟨some 16, .call ⟨(Callee.value (Operand.func 19)), [(Operand.tmp 15)].toArray, #[22]⟩, none, 0⟩,
 ⟨some 14, .move (Operand.tmp 16), none, 0⟩,
 ⟨some 17, .extract (Operand.tmp 14) 0, none, 0⟩,
 ⟨some 18, .extract (Operand.tmp 14) 1, none, 0⟩,
 ⟨some 19, .extract (Operand.tmp 14) 2, none, 0⟩,
 ⟨some 3, .alloc 41, none, 0⟩,
 ⟨some 2, .assign (Operand.tmp 17), none, 0⟩,
 ⟨none, .store 41 (Operand.tmp 3) (Operand.tmp 18), none, 0⟩,
 ⟨some 4, .assign (Operand.tmp 19), none, 0⟩])
 (.seq
 (.ops [⟨some 21, .move (Operand.tmp 1), none, 0⟩,
 ⟨some 22, .buildSlice 29 2 [(0, (Operand.const (Value.string ⟨#[97]⟩))), (1, (Operand.const (Value.string ⟨#[98]⟩)))].toArray, none, 0⟩,
 ⟨some 23, .call ⟨(Callee.value (Operand.func 14)), [(Operand.tmp 21), (Operand.tmp 22)].toArray, #[22, 29]⟩, none, 0⟩,
 ⟨some 20, .move (Operand.tmp 23), none, 0⟩,
 ⟨some 24, .extract (Operand.tmp 20) 0, none, 0⟩,
 ⟨some 25, .extract (Operand.tmp 20) 1, none, 0⟩,
 ⟨some 5, .assign (Operand.tmp 24), none, 0⟩,
 ⟨some 6, .assign (Operand.tmp 25), none, 0⟩])
 (.seq
 (.ops [⟨some 26, .move (Operand.tmp 2), none, 0⟩,
 ⟨some 27, .unOp UnOp.not 4 (Operand.tmp 26), none, 0⟩,
 ⟨some 28, .move (Operand.tmp 27), none, 0⟩,
 ⟨some 29, .move (Operand.tmp 4), some (28, true), 0⟩,
 ⟨some 30, .binOp BinOp.eql 25 (Operand.tmp 29) (Operand.const (Value.int IntKind.i64 0)) 25, some (28, true), 0⟩,
 ⟨some 31, .pick (Operand.tmp 28) (Operand.tmp 30) (Operand.const (Value.bool false)), none, 0⟩,
 ⟨some 32, .move (Operand.tmp 31), none, 0⟩,
 ⟨some 33, .move (Operand.tmp 6), some (32, true), 0⟩,
 ⟨some 34, .binOp BinOp.eql 25 (Operand.tmp 33) (Operand.const (Value.int IntKind.i64 0)) 25, some (32, true), 0⟩,
 ⟨some 35, .pick (Operand.tmp 32) (Operand.tmp 34) (Operand.const (Value.bool false)), none, 0⟩,
 ⟨some 36, .move (Operand.tmp 35), none, 0⟩,
 ⟨some 37, .move (Operand.tmp 5), some (36, true), 0⟩,
 ⟨some 38, .call ⟨(Callee.builtin Builtin.len), [(Operand.tmp 37)].toArray, #[29]⟩, some (36, true), 0⟩,
 ⟨some 39, .binOp BinOp.eql 3 (Operand.tmp 38) (Operand.const (Value.int IntKind.i64 3)) 3, some (36, true), 0⟩,
 ⟨some 40, .pick (Operand.tmp 36) (Operand.tmp 39) (Operand.const (Value.bool false)), none, 0⟩,
 ⟨some 0, .assign (Operand.tmp 40), none, 0⟩])
 .ret)))))
abbrev R8 : List ResultVar := [ResultVar.tmp 0]
theorem ok8 : FnOK Tryd.prog 8 L8 R8 0 := ⟨_, _, Tryd.func8, rfl, by kernel_rfl, by kernel_rfl, by kernel_rfl, by kernel_rfl, Nat.le_of_ble_eq_true (by kernel_rfl), by kernel_rfl⟩

/-- ablaut/script.Join -/
def L9 : LCode :=
 (.seq
 (.ops [⟨some 4, .assign (Operand.const (Value.slice none 0 0)), none, 0⟩,
 ⟨some 5, .assign (Operand.const (Value.bool false)), none, 0⟩,
 ⟨some 6, .assign (Operand.const (Value.int IntKind.i64 0)), none, 0⟩])
 (.seq
 (.seq
 (.ops [⟨some 17, .move (Operand.tmp 0), none, 0⟩,
 ⟨some 18, .move (Operand.tmp 1), none, 0⟩,
 ⟨some 19, .buildSlice 47 2 [(0, (Operand.tmp 17)), (1, (Operand.tmp 18))].toArray, none, 0⟩,
 ⟨some 20, .call ⟨(Callee.builtin Builtin.len), [(Operand.tmp 19)].toArray, #[47]⟩, none, 0⟩,
 ⟨some 21, .move (Operand.const (Value.int IntKind.i64 0)), none, 0⟩])
 (.block 0
 (.loop
 (.seq
 (.ops [⟨some 22, .binOp BinOp.lss 3 (Operand.tmp 21) (Operand.tmp 20) 3, none, 0⟩])
 (.seq
 (.cond (Operand.tmp 22)
 .skip
 (.exit 0))
 (.seq
 (.block 1
 (.seq
 (.ops [⟨some 23, .indexAddr 47 (Operand.tmp 19) (Operand.tmp 21), none, 0⟩,
 ⟨some 24, .load 22 (Operand.tmp 23), none, 0⟩,
 ⟨some 8, .assign (Operand.tmp 24), none, 0⟩])
 (.seq
 (.ops [⟨some 25, .move (Operand.tmp 8), none, 0⟩,
 ⟨some 26, .call ⟨(Callee.value (Operand.func 20)), [(Operand.tmp 25)].toArray, #[22]⟩, none, 0⟩,
 ⟨some 9, .assign (Operand.tmp 26), none, 0⟩])
 (.seq
 (.ops [⟨some 27, .move (Operand.tmp 9), none, 0⟩,
 ⟨some 28, .binOp BinOp.neq 25 (Operand.tmp 27) (Operand.const (Value.int IntKind.i64 0)) 25, none, 0⟩])
 (.cond (Operand.tmp 28)
 (.seq
 (.ops [⟨some 29, .move (Operand.tmp 9), none, 0⟩,
 ⟨some 4, .assign (Operand.const (Value.slice none 0 0)), none, 0⟩,
 ⟨some 5, .assign (Operand.const (Value.bool false)), none, 0⟩,
 ⟨some 6, .assign (Operand.tmp 29), none, 0⟩])
 .ret)
 .skip)))))
 (.ops [⟨some 30, .binOp BinOp.add 3 (Operand.tmp 21) (Operand.const (Value.int IntKind.i64 1)) 3, none, 0⟩,
 ⟨some 21, .move (Operand.tmp 30), none, 0⟩])))))))
 (.seq
 (.seq
 (.ops [⟨some 31, .move (Operand.tmp 0), none, 0⟩,
 ⟨some 32, .call ⟨(Callee.value (Operand.func 21)), [(Operand.tmp 31)].toArray, #[22]⟩, none, 0⟩,
 ⟨some 10, .assign (Operand.tmp 32), none, 0⟩])
 (.seq
 (.ops [⟨some 33, .move (Operand.tmp 10), none, 0⟩,
 ⟨some 34, .binOp BinOp.neq 25 (Operand.tmp 33) (Operand.const (Value.int IntKind.i64 0)) 25, none, 0⟩])
 (.cond (Operand.tmp 34)
 (.seq
 (.ops [⟨some 35, .move (Operand.tmp 10), none, 0⟩,
 ⟨some 4, .assign (Operand.const (Value.slice none 0 0)), none, 0⟩,
 ⟨some 5, .assign (Operand.const (Value.bool false)), none, 0⟩,
 ⟨some 6, .assign (Operand.tmp 35), none, 0⟩])
 .ret)
 .skip)))
 (.seq
 (.ops [⟨some 11, .assign (Operand.const (Value.slice none 0 0)), none, 0⟩])
 (.seq
 (.ops [⟨some 12, .assign (Operand.const (Value.slice none 0 0)), none, 0⟩])
 (.seq
 (.seq
 (.ops [⟨some 36, .move (Operand.tmp 0), none, 0⟩,
 ⟨some 37, .call ⟨(Callee.builtin Builtin.len), [(Operand.tmp 36)].toArray, #[22]⟩, none, 0⟩,
 ⟨some 38, .move (Operand.const (Value.int IntKind.i64 0)), none, 0⟩])
 (.block 2
 (.loop
 (.seq
 (.ops [⟨some 39, .binOp BinOp.lss 3 (Operand.tmp 38) (Operand.tmp 37) 3, none, 0⟩])
 (.seq
 (.cond (Operand.tmp 39)
 .skip
 (.exit 2))
 (.seq
 (.block 3
 (.seq
 (.ops [⟨some 40, .indexAddr 22 (Operand.tmp 36) (Operand.tmp 38), none, 0⟩,
 ⟨some 41, .load 46 (Operand.tmp 40), none, 0⟩,
 ⟨some 14, .alloc 46, none, 0⟩,
 ⟨none, .store 46 (Operand.tmp 14) (Operand.tmp 41), none, 0⟩])
 (.seq
 (.ops [⟨some 43, .move (Operand.tmp 1), none, 0⟩,
 ⟨some 44, .fieldAddr 46 (Operand.tmp 14) 1, none, 0⟩,
 ⟨some 45, .load 29 (Operand.tmp 44), none, 0⟩,
 ⟨some 46, .call ⟨(Callee.value (Operand.func 22)), [(Operand.tmp 43), (Operand.tmp 45)].toArray, #[22, 29]⟩, none, 0⟩,
 ⟨some 42, .move (Operand.tmp 46), none, 0⟩,
 ⟨some 47, .extract (Operand.tmp 42) 0, none, 0⟩,
 ⟨some 48, .extract (Operand.tmp 42) 1, none, 0⟩,
 ⟨some 15, .assign (Operand.tmp 47), none, 0⟩,
 ⟨some 16, .assign (Operand.tmp 48), none, 0⟩])
 (.seq
 (.seq
 (.ops [⟨some 49, .move (Operand.tmp 15), none, 0⟩,
 ⟨some 50, .call ⟨(Callee.builtin Builtin.len), [(Operand.tmp 49)].toArray, #[29]⟩, none, 0⟩,
 ⟨some 51, .binOp BinOp.gtr 3 (Operand.tmp 50) (Operand.const (Value.int IntKind.i64 60)) 3, none, 0⟩])
 (.cond (Operand.tmp 51)
 (.seq
 (.ops [⟨some 4, .assign (Operand.const (Value.slice none 0 0)), none, 0⟩,
 ⟨some 5, .assign (Operand.const (Value.bool false)), none, 0⟩,
 ⟨some 6, .assign (Operand.const (Value.int IntKind.i64 3)), none, 0⟩])
 .ret)
 .skip))
 (.seq
 (.ops [⟨some 52, .move (Operand.tmp 11), none, 0⟩,
 ⟨some 53, .fieldAddr 46 (Operand.tmp 14) 0, none, 0⟩,
 ⟨some 54, .load 29 (Operand.tmp 53), none, 0⟩,
 ⟨some 55, .call ⟨(Callee.value (Operand.func 23)), [(Operand.tmp 54)].toArray, #[29]⟩, none, 0⟩,
 ⟨some 56, .move (Operand.tmp 15), none, 0⟩,
 ⟨some 57, .build 46 [(0, (Operand.tmp 55)), (1, (Operand.tmp 56))].toArray, none, 0⟩,
 ⟨some 58, .buildSlice 22 1 [(0, (Operand.tmp 57))].toArray, none, 0⟩,
 ⟨some 59, .call ⟨(Callee.builtin Builtin.append), [(Operand.tmp 52), (Operand.tmp 58)].toArray, #[22, 22]⟩, none, 0⟩,
 ⟨some 11, .assign (Operand.tmp 59), none, 0⟩])
 (.ops [⟨some 60, .move (Operand.tmp 12), none, 0⟩,
 ⟨some 61, .fieldAddr 46 (Operand.tmp 14) 1, none, 0⟩,
 ⟨some 62, .load 29 (Operand.tmp 61), none, 0⟩,
 ⟨some 63, .buildSlice 49 1 [(0, (Operand.tmp 62))].toArray, none, 0⟩,
 ⟨some 64, .call ⟨(Callee.builtin Builtin.append), [(Operand.tmp 60), (Operand.tmp 63)].toArray, #[49, 49]⟩, none, 0⟩,
 ⟨some 12, .assign (Operand.tmp 64), none, 0⟩]))))))
 (.ops [⟨some 65, .binOp BinOp.add 3 (Operand.tmp 38) (Operand.const (Value.int IntKind.i64 1)) 3, none, 0⟩,
 ⟨some 38, .move (Operand.tmp 65), none, 0⟩])))))))
 (.seq
 (.seq
 (.ops [⟨some 66, .move (Operand.tmp 12), none, 0⟩,
 ⟨some 67, .move (Operand.tmp 1), none, 0⟩,
 ⟨some 68, .call ⟨(Callee.value (Operand.func 24)), [(Operand.tmp 66), (Operand.tmp 67)].toArray, #[49, 22]⟩, none, 0⟩,
 ⟨some 69, .unOp UnOp.not 4 (Operand.tmp 68), none, 0⟩])
 (.cond (Operand.tmp 69)
 (.seq
 (.ops [⟨some 4, .assign (Operand.const (Value.slice none 0 0)), none, 0⟩,
 ⟨some 5, .assign (Operand.const (Value.bool false)), none, 0⟩,
 ⟨some 6, .assign (Operand.const (Value.int IntKind.i64 0)), none, 0⟩])
 .ret)
 .skip))
 (.seq
 (.ops [⟨some 70, .move (Operand.tmp 11), none, 0⟩,
 ⟨some 4, .assign (Operand.tmp 70), none, 0⟩,
 ⟨some 5, .assign (Operand.const (Value.bool true)), none, 0⟩,
 ⟨some 6, .assign (Operand.const (Value.int IntKind.i64 0)), none, 0⟩])
 .ret))))))))
abbrev R9 : List ResultVar := [ResultVar.tmp 4, ResultVar.tmp 5, ResultVar.tmp 6]
theorem ok9 : FnOK Tryd.prog 9 L9 R9 2 := ⟨_, _, Tryd.func9, rfl, by kernel_rfl, by kernel_rfl, by kernel_rfl, by kernel_rfl, Nat.le_of_ble_eq_true (by kernel_rfl), by kernel_rfl⟩

/-- ablaut/ablautref25.Same -/
def L11 : LCode :=
 (.seq
 (.ops [⟨some 4, .assign (Operand.const (Value.bool false)), none, 0⟩])
 (.seq
 (.seq
 (.ops [⟨some 6, .move (Operand.tmp 0), none, 0⟩,
 ⟨some 7, .call ⟨(Callee.builtin Builtin.len), [(Operand.tmp 6)].toArray, #[22]⟩, none, 0⟩,
 ⟨some 8, .move (Operand.tmp 1), none, 0⟩,
 ⟨some 9, .call ⟨(Callee.builtin Builtin.len), [(Operand.tmp 8)].toArray, #[22]⟩, none, 0⟩,
 ⟨some 10, .binOp BinOp.neq 3 (Operand.tmp 7) (Operand.tmp 9) 3, none, 0⟩])
 (.cond (Operand.tmp 10)
 (.seq
 (.ops [⟨some 4, .assign (Operand.const (Value.bool false)), none, 0⟩])
 .ret)
 .skip))
 (.seq
 (.seq
 (.ops [⟨some 5, .assign (Operand.const (Value.int IntKind.i64 0)), none, 0⟩])
 (.block 0
 (.loop
 (.seq
 (.seq
 (.ops [⟨some 11, .move (Operand.tmp 5), none, 0⟩,
 ⟨some 12, .move (Operand.tmp 0), none, 0⟩,
 ⟨some 13, .call ⟨(Callee.builtin Builtin.len), [(Operand.tmp 12)].toArray, #[22]⟩, none, 0⟩,
 ⟨some 14, .binOp BinOp.lss 3 (Operand.tmp 11) (Operand.tmp 13) 3, none, 0⟩])
 (.cond (Operand.tmp 14)
 .skip
 (.exit 0)))
 (.seq
 (.block 1
 (.seq
 (.draw [⟨some 17, .move (Operand.tmp 0), none, 0⟩,
 ⟨some 18, .move (Operand.tmp 5), none, 0⟩,
 ⟨some 19, .indexAddr 22 (Operand.tmp 17) (Operand.tmp 18), none, 0⟩,
 ⟨some 20, .fieldAddr 46 (Operand.tmp 19) 0, none, 0⟩,
 ⟨some 21, .load 29 (Operand.tmp 20), none, 0⟩,
 ⟨some 22, .move (Operand.tmp 1), none, 0⟩,
 ⟨some 23, .move (Operand.tmp 5), none, 0⟩,
 ⟨some 24, .indexAddr 22 (Operand.tmp 22) (Operand.tmp 23), none, 0⟩,
 ⟨some 25, .fieldAddr 46 (Operand.tmp 24) 0, none, 0⟩,
 ⟨some 26, .load 29 (Operand.tmp 25), none, 0⟩,
 ⟨some 27, .call ⟨(Callee.value (Operand.func 15)), [(Operand.tmp 21), (Operand.tmp 26)].toArray, #[29, 29]⟩, none, 0⟩,
 ⟨some 28, .unOp UnOp.not 4 (Operand.tmp 27), none, 0⟩,
 ⟨some 29, .move (Operand.tmp 28), none, 0⟩,
 ⟨some 30, .move (Operand.tmp 0), some (29, false), 0⟩,
 ⟨some 31, .move (Operand.tmp 5), some (29, false), 0⟩,
 ⟨some 32, .indexAddr 22 (Operand.tmp 30) (Operand.tmp 31), some (29, false), 0⟩,
 ⟨some 33, .fieldAddr 46 (Operand.tmp 32) 1, some (29, false), 0⟩,
 ⟨some 34, .load 29 (Operand.tmp 33), some (29, false), 0⟩,
 ⟨some 35, .move (Operand.tmp 1), some (29, false), 0⟩,
 ⟨some 36, .move (Operand.tmp 5), some (29, false), 0⟩,
 ⟨some 37, .indexAddr 22 (Operand.tmp 35) (Operand.tmp 36), some (29, false), 0⟩,
 ⟨some 38, .fieldAddr 46 (Operand.tmp 37) 1, some (29, false), 0⟩,
 ⟨some 39, .load 29 (Operand.tmp 38), some (29, false), 0⟩,
 ⟨some 40, .call ⟨(Callee.value (Operand.func 15)), [(Operand.tmp 34), (Operand.tmp 39)].toArray, #[29, 29]⟩, some (29, false), 0⟩,
 ⟨some 41, .unOp UnOp.not 4 (Operand.tmp 40), some (29, false), 0⟩,
 ⟨some 42, .pick (Operand.tmp 29) (Operand.const (Value.bool true)) (Operand.tmp 41), none, 0⟩] true [23, 24, 25] [])
 (.cond (Operand.tmp 42)
 (.seq
 (.ops [⟨some 4, .assign (Operand.const (Value.bool false)), none, 0⟩])
 .ret)
 .skip)))
 (.ops [⟨some 15, .move (Operand.tmp 5), none, 0⟩,
 ⟨some 16, .binOp BinOp.add 3 (Operand.tmp 15) (Operand.const (Value.int IntKind.i64 1)) 3, none, 0⟩,
 ⟨some 5, .assign (Operand.tmp 16), none, 0⟩]))))))
 (.seq
 (.ops [⟨some 4, .assign (Operand.const (Value.bool true)), none, 0⟩])
 .ret))))
abbrev R11 : List ResultVar := [ResultVar.tmp 4]
theorem ok11 : FnOK Tryd.prog 11 L11 R11 2 := ⟨_, _, Tryd.func11, rfl, by kernel_rfl, by kernel_rfl, by kernel_rfl, by kernel_rfl, Nat.le_of_ble_eq_true (by kernel_rfl), by kernel_rfl⟩

/-- ablaut/ablautlaw25.bytes -/
def L12 : LCode :=
 (.seq
 (.ops [⟨some 2, .assign (Operand.const (Value.int IntKind.i64 0)), none, 0⟩])
 (.seq
 (.ops [⟨some 3, .assign (Operand.const (Value.int IntKind.i64 0)), none, 0⟩])
 (.seq
 (.seq
 (.ops [⟨some 4, .assign (Operand.const (Value.int IntKind.i64 0)), none, 0⟩])
 (.block 0
 (.loop
 (.seq
 (.seq
 (.ops [⟨some 6, .move (Operand.tmp 4), none, 0⟩,
 ⟨some 7, .move (Operand.tmp 0), none, 0⟩,
 ⟨some 8, .call ⟨(Callee.builtin Builtin.len), [(Operand.tmp 7)].toArray, #[49]⟩, none, 0⟩,
 ⟨some 9, .binOp BinOp.lss 3 (Operand.tmp 6) (Operand.tmp 8) 3, none, 0⟩,
 ⟨some 10, .move (Operand.tmp 9), none, 0⟩,
 ⟨some 11, .move (Operand.tmp 3), some (10, true), 0⟩,
 ⟨some 12, .binOp BinOp.leq 3 (Operand.tmp 11) (Operand.const (Value.int IntKind.i64 100000)) 3, some (10, true), 0⟩,
 ⟨some 13, .pick (Operand.tmp 10) (Operand.tmp 12) (Operand.const (Value.bool false)), none, 0⟩])
 (.cond (Operand.tmp 13)
 .skip
 (.exit 0)))
 (.seq
 (.block 1
 (.seq
 (.ops [⟨some 16, .move (Operand.tmp 3), none, 0⟩,
 ⟨some 17, .move (Operand.tmp 0), none, 0⟩,
 ⟨some 18, .move (Operand.tmp 4), none, 0⟩,
 ⟨some 19, .indexAddr 49 (Operand.tmp 17) (Operand.tmp 18), none, 0⟩,
 ⟨some 20, .load 29 (Operand.tmp 19), none, 0⟩,
 ⟨some 21, .call ⟨(Callee.builtin Builtin.len), [(Operand.tmp 20)].toArray, #[29]⟩, none, 0⟩,
 ⟨some 22, .binOp BinOp.add 3 (Operand.const (Value.int IntKind.i64 1)) (Operand.tmp 21) 3, none, 0⟩,
 ⟨some 23, .binOp BinOp.add 3 (Operand.tmp 16) (Operand.tmp 22) 3, none, 0⟩,
 ⟨some 3, .assign (Operand.tmp 23), none, 0⟩])
 (.seq
 (.ops [⟨some 5, .assign (Operand.const (Value.int IntKind.i64 0)), none, 0⟩])
 (.block 2
 (.loop
 (.seq
 (.seq
 (.ops [⟨some 24, .move (Operand.tmp 5), none, 0⟩,
 ⟨some 25, .move (Operand.tmp 0), none, 0⟩,
 ⟨some 26, .move (Operand.tmp 4), none, 0⟩,
 ⟨some 27, .indexAddr 49 (Operand.tmp 25) (Operand.tmp 26), none, 0⟩,
 ⟨some 28, .load 29 (Operand.tmp 27), none, 0⟩,
 ⟨some 29, .call ⟨(Callee.builtin Builtin.len), [(Operand.tmp 28)].toArray, #[29]⟩, none, 0⟩,
 ⟨some 30, .binOp BinOp.lss 3 (Operand.tmp 24) (Operand.tmp 29) 3, none, 0⟩,
 ⟨some 31, .move (Operand.tmp 30), none, 0⟩,
 ⟨some 32, .move (Operand.tmp 3), some (31, true), 0⟩,
 ⟨some 33, .binOp BinOp.leq 3 (Operand.tmp 32) (Operand.const (Value.int IntKind.i64 100000)) 3, some (31, true), 0⟩,
 ⟨some 34, .pick (Operand.tmp 31) (Operand.tmp 33) (Operand.const (Value.bool false)), none, 0⟩])
 (.cond (Operand.tmp 34)
 .skip
 (.exit 2)))
 (.seq
 (.block 3
 (.ops [⟨some 37, .move (Operand.tmp 3), none, 0⟩,
 ⟨some 38, .move (Operand.tmp 0), none, 0⟩,
 ⟨some 39, .move (Operand.tmp 4), none, 0⟩,
 ⟨some 40, .indexAddr 49 (Operand.tmp 38) (Operand.tmp 39), none, 0⟩,
 ⟨some 41, .load 29 (Operand.tmp 40), none, 0⟩,
 ⟨some 42, .move (Operand.tmp 5), none, 0⟩,
 ⟨some 43, .indexAddr 29 (Operand.tmp 41) (Operand.tmp 42), none, 0⟩,
 ⟨some 44, .load 9 (Operand.tmp 43), none, 0⟩,
 ⟨some 45, .call ⟨(Callee.builtin Builtin.len), [(Operand.tmp 44)].toArray, #[9]⟩, none, 0⟩,
 ⟨some 46, .binOp BinOp.add 3 (Operand.tmp 37) (Operand.tmp 45) 3, none, 0⟩,
 ⟨some 3, .assign (Operand.tmp 46), none, 0⟩]))
 (.ops [⟨some 35, .move (Operand.tmp 5), none, 0⟩,
 ⟨some 36, .binOp BinOp.add 3 (Operand.tmp 35) (Operand.const (Value.int IntKind.i64 1)) 3, none, 0⟩,
 ⟨some 5, .assign (Operand.tmp 36), none, 0⟩]))))))))
 (.ops [⟨some 14, .move (Operand.tmp 4), none, 0⟩,
 ⟨some 15, .binOp BinOp.add 3 (Operand.tmp 14) (Operand.const (Value.int IntKind.i64 1)) 3, none, 0⟩,
 ⟨some 4, .assign (Operand.tmp 15), none, 0⟩]))))))
 (.seq
 (.ops [⟨some 47, .move (Operand.tmp 3), none, 0⟩,
 ⟨some 2, .assign (Operand.tmp 47), none, 0⟩])
 .ret))))
abbrev R12 : List ResultVar := [ResultVar.tmp 2]
theorem ok12 : FnOK Tryd.prog 12 L12 R12 1 := ⟨_, _, Tryd.func12, rfl, by kernel_rfl, by kernel_rfl, by kernel_rfl, by kernel_rfl, Nat.le_of_ble_eq_true (by kernel_rfl), by kernel_rfl⟩

/-- ablaut/script.Clean -/
def L13 : LCode :=
 (.seq
 (.ops [⟨some 4, .assign (Operand.const (Value.bool false)), none, 0⟩,
 ⟨some 5, .assign (Operand.const (Value.int IntKind.i64 0)), none, 0⟩])
 (.seq
 (.seq
 (.ops [⟨some 9, .move (Operand.tmp 0), none, 0⟩,
 ⟨some 10, .move (Operand.tmp 1), none, 0⟩,
 ⟨some 11, .call ⟨(Callee.value (Operand.func 33)), [(Operand.tmp 9), (Operand.tmp 10)].toArray, #[22, 29]⟩, none, 0⟩,
 ⟨some 6, .assign (Operand.tmp 11), none, 0⟩])
 (.seq
 (.ops [⟨some 12, .move (Operand.tmp 6), none, 0⟩,
 ⟨some 13, .binOp BinOp.neq 25 (Operand.tmp 12) (Operand.const (Value.int IntKind.i64 0)) 25, none, 0⟩])
 (.cond (Operand.tmp 13)
 (.seq
 (.ops [⟨some 14, .move (Operand.tmp 6), none, 0⟩,
 ⟨some 4, .assign (Operand.const (Value.bool false)), none, 0⟩,
 ⟨some 5, .assign (Operand.tmp 14), none, 0⟩])
 .ret)
 .skip)))
 (.seq
 (.ops [⟨some 16, .move (Operand.tmp 0), none, 0⟩,
 ⟨some 17, .move (Operand.tmp 1), none, 0⟩,
 ⟨some 18, .call ⟨(Callee.value (Operand.func 22)), [(Operand.tmp 16), (Operand.tmp 17)].toArray, #[22, 29]⟩, none, 0⟩,
 ⟨some 15, .move (Operand.tmp 18), none, 0⟩,
 ⟨some 19, .extract (Operand.tmp 15) 0, none, 0⟩,
 ⟨some 20, .extract (Operand.tmp 15) 1, none, 0⟩,
 ⟨some 7, .assign (Operand.tmp 19), none, 0⟩,
 ⟨some 8, .assign (Operand.tmp 20), none, 0⟩])
 (.seq
 (.ops [⟨some 21, .move (Operand.tmp 8), none, 0⟩,
 ⟨some 4, .assign (Operand.tmp 21), none, 0⟩,
 ⟨some 5, .assign (Operand.const (Value.int IntKind.i64 0)), none, 0⟩])
 .ret))))
abbrev R13 : List ResultVar := [ResultVar.tmp 4, ResultVar.tmp 5]
theorem ok13 : FnOK Tryd.prog 13 L13 R13 2 := ⟨_, _, Tryd.func13, rfl, by kernel_rfl, by kernel_rfl, by kernel_rfl, by kernel_rfl, Nat.le_of_ble_eq_true (by kernel_rfl), by kernel_rfl⟩

/-- ablaut/script.Shift -/
def L14 : LCode :=
 (.seq
 (.ops [⟨some 4, .assign (Operand.const (Value.slice none 0 0)), none, 0⟩,
 ⟨some 5, .assign (Operand.const (Value.int IntKind.i64 0)), none, 0⟩])
 (.seq
 (.seq
 (.ops [⟨some 9, .move (Operand.tmp 0), none, 0⟩,
 ⟨some 10, .move (Operand.tmp 1), none, 0⟩,
 ⟨some 11, .call ⟨(Callee.value (Operand.func 33)), [(Operand.tmp 9), (Operand.tmp 10)].toArray, #[22, 29]⟩, none, 0⟩,
 ⟨some 6, .assign (Operand.tmp 11), none, 0⟩])
 (.seq
 (.ops [⟨some 12, .move (Operand.tmp 6), none, 0⟩,
 ⟨some 13, .binOp BinOp.neq 25 (Operand.tmp 12) (Operand.const (Value.int IntKind.i64 0)) 25, none, 0⟩])
 (.cond (Operand.tmp 13)
 (.seq
 (.ops [⟨some 14, .move (Operand.tmp 6), none, 0⟩,
 ⟨some 4, .assign (Operand.const (Value.slice none 0 0)), none, 0⟩,
 ⟨some 5, .assign (Operand.tmp 14), none, 0⟩])
 .ret)
 .skip)))
 (.seq
 (.ops [⟨some 16, .move (Operand.tmp 0), none, 0⟩,
 ⟨some 17, .move (Operand.tmp 1), none, 0⟩,
 ⟨some 18, .call ⟨(Callee.value (Operand.func 22)), [(Operand.tmp 16), (Operand.tmp 17)].toArray, #[22, 29]⟩, none, 0⟩,
 ⟨some 15, .move (Operand.tmp 18), none, 0⟩,
 ⟨some 19, .extract (Operand.tmp 15) 0, none, 0⟩,
 ⟨some 20, .extract (Operand.tmp 15) 1, none, 0⟩,
 ⟨some 7, .assign (Operand.tmp 19), none, 0⟩,
 ⟨some 8, .assign (Operand.tmp 20), none, 0⟩])
 (.seq
 (.seq
 (.ops [⟨some 21, .move (Operand.tmp 7), none, 0⟩,
 ⟨some 22, .call ⟨(Callee.builtin Builtin.len), [(Operand.tmp 21)].toArray, #[29]⟩, none, 0⟩,
 ⟨some 23, .binOp BinOp.gtr 3 (Operand.tmp 22) (Operand.const (Value.int IntKind.i64 60)) 3, none, 0⟩])
 (.cond (Operand.tmp 23)
 (.seq
 (.ops [⟨some 4, .assign (Operand.const (Value.slice none 0 0)), none, 0⟩,
 ⟨some 5, .assign (Operand.const (Value.int IntKind.i64 3)), none, 0⟩])
 .ret)
 .skip))
 (.seq
 (.ops [⟨some 24, .move (Operand.tmp 7), none, 0⟩,
 ⟨some 4, .assign (Operand.tmp 24), none, 0⟩,
 ⟨some 5, .assign (Operand.const (Value.int IntKind.i64 0)), none, 0⟩])
 .ret)))))
abbrev R14 : List ResultVar := [ResultVar.tmp 4, ResultVar.tmp 5]
theorem ok14 : FnOK Tryd.prog 14 L14 R14 2 := ⟨_, _, Tryd.func14, rfl, by kernel_rfl, by kernel_rfl, by kernel_rfl, by kernel_rfl, Nat.le_of_ble_eq_true (by kernel_rfl), by kernel_rfl⟩

/-- ablaut/ablautref01.Same -/
def L15 : LCode :=
 (.seq
 (.ops [⟨some 4, .assign (Operand.const (Value.bool false)), none, 0⟩])
 (.seq
 (.ops [⟨some 5, .move (Operand.tmp 0), none, 0⟩,
 ⟨some 6, .move (Operand.tmp 1), none, 0⟩,
 ⟨some 7, .call ⟨(Callee.value (Operand.func 34)), [(Operand.tmp 5), (Operand.tmp 6)].toArray, #[29, 29]⟩, none, 0⟩,
 ⟨some 8, .binOp BinOp.eql 3 (Operand.tmp 7) (Operand.const (Value.int IntKind.i64 0)) 3, none, 0⟩,
 ⟨some 4, .assign (Operand.tmp 8), none, 0⟩])
 .ret))
abbrev R15 : List ResultVar := [ResultVar.tmp 4]
theorem ok15 : FnOK Tryd.prog 15 L15 R15 2 := ⟨_, _, Tryd.func15, rfl, by kernel_rfl, by kernel_rfl, by kernel_rfl, by kernel_rfl, Nat.le_of_ble_eq_true (by kernel_rfl), by kernel_rfl⟩

/-- ablaut/script.Read -/
def L16 : LCode :=
 (.seq
 (.ops [⟨some 2, .assign (Operand.const (Value.slice none 0 0)), none, 0⟩,
 ⟨some 3, .assign (Operand.const (Value.int IntKind.i64 0)), none, 0⟩,
 ⟨some 4, .assign (Operand.const (Value.int IntKind.i64 0)), none, 0⟩])
 (.seq
 (.seq
 (.ops [⟨some 18, .move (Operand.tmp 0), none, 0⟩,
 ⟨some 19, .call ⟨(Callee.builtin Builtin.len), [(Operand.tmp 18)].toArray, #[9]⟩, none, 0⟩,
 ⟨some 20, .binOp BinOp.gtr 3 (Operand.tmp 19) (Operand.const (Value.int IntKind.i64 6000)) 3, none, 0⟩])
 (.cond (Operand.tmp 20)
 (.seq
 (.ops [⟨some 2, .assign (Operand.const (Value.slice none 0 0)), none, 0⟩,
 ⟨some 3, .assign (Operand.const (Value.int IntKind.i64 0)), none, 0⟩,
 ⟨some 4, .assign (Operand.const (Value.int IntKind.i64 3)), none, 0⟩])
 .ret)
 .skip))
 (.seq
 (.ops [⟨some 5, .assign (Operand.const (Value.slice none 0 0)), none, 0⟩])
 (.seq
 (.ops [⟨some 6, .assign (Operand.const (Value.bool false)), none, 0⟩])
 (.seq
 (.seq
 (.ops [⟨some 7, .assign (Operand.const (Value.int IntKind.i64 0)), none, 0⟩])
 (.block 0
 (.loop
 (.seq
 (.seq
 (.ops [⟨some 21, .move (Operand.tmp 0), none, 0⟩,
 ⟨some 22, .binOp BinOp.neq 9 (Operand.tmp 21) (Operand.const (Value.string ⟨#[]⟩)) 9, none, 0⟩])
 (.cond (Operand.tmp 22)
 .skip
 (.exit 0)))
 (.seq
 (.block 1
 (.seq
 (.ops [⟨some 26, .move (Operand.tmp 0), none, 0⟩,
 ⟨some 27, .call ⟨(Callee.value (Operand.func 35)), [(Operand.tmp 26), (Operand.const (Value.string ⟨#[10]⟩))].toArray, #[9, 9]⟩, none, 0⟩,
 ⟨some 25, .move (Operand.tmp 27), none, 0⟩,
 ⟨some 28, .extract (Operand.tmp 25) 0, none, 0⟩,
 ⟨some 29, .extract (Operand.tmp 25) 1, none, 0⟩,
 ⟨some 30, .extract (Operand.tmp 25) 2, none, 0⟩,
 ⟨some 8, .assign (Operand.tmp 28), none, 0⟩,
 ⟨some 9, .assign (Operand.tmp 29), none, 0⟩,
 ⟨some 10, .assign (Operand.tmp 30), none, 0⟩])
 (.seq
 (.ops [⟨some 31, .move (Operand.tmp 9), none, 0⟩,
 ⟨some 0, .assign (Operand.tmp 31), none, 0⟩])
 (.seq
 (.ops [⟨some 32, .move (Operand.tmp 8), none, 0⟩,
 ⟨some 33, .call ⟨(Callee.value (Operand.func 36)), [(Operand.tmp 32), (Operand.const (Value.string ⟨#[32]⟩))].toArray, #[9, 9]⟩, none, 0⟩,
 ⟨some 11, .assign (Operand.tmp 33), none, 0⟩])
 (.seq
 (.seq
 (.ops [⟨some 34, .move (Operand.tmp 11), none, 0⟩,
 ⟨some 35, .call ⟨(Callee.builtin Builtin.len), [(Operand.tmp 34)].toArray, #[29]⟩, none, 0⟩,
 ⟨some 36, .binOp BinOp.neq 3 (Operand.tmp 35) (Operand.const (Value.int IntKind.i64 3)) 3, none, 0⟩,
 ⟨some 37, .move (Operand.tmp 36), none, 0⟩,
 ⟨some 38, .move (Operand.tmp 11), some (37, false), 0⟩,
 ⟨some 39, .indexAddr 29 (Operand.tmp 38) (Operand.const (Value.int IntKind.i64 1)), some (37, false), 0⟩,
 ⟨some 40, .load 9 (Operand.tmp 39), some (37, false), 0⟩,
 ⟨some 41, .binOp BinOp.neq 9 (Operand.tmp 40) (Operand.const (Value.string ⟨#[61]⟩)) 9, some (37, false), 0⟩,
 ⟨some 42, .pick (Operand.tmp 37) (Operand.const (Value.bool true)) (Operand.tmp 41), none, 0⟩])
 (.cond (Operand.tmp 42)
 (.seq
 (.ops [⟨some 43, .move (Operand.tmp 7), none, 0⟩,
 ⟨some 2, .assign (Operand.const (Value.slice none 0 0)), none, 0⟩,
 ⟨some 3, .assign (Operand.tmp 43), none, 0⟩,
 ⟨some 4, .assign (Operand.const (Value.int IntKind.i64 2)), none, 0⟩])
 .ret)
 .skip))
 (.seq
 (.ops [⟨some 45, .move (Operand.tmp 11), none, 0⟩,
 ⟨some 46, .indexAddr 29 (Operand.tmp 45) (Operand.const (Value.int IntKind.i64 0)), none, 0⟩,
 ⟨some 47, .load 9 (Operand.tmp 46), none, 0⟩,
 ⟨some 48, .call ⟨(Callee.value (Operand.func 37)), [(Operand.tmp 47)].toArray, #[9]⟩, none, 0⟩,
 ⟨some 44, .move (Operand.tmp 48), none, 0⟩,
 ⟨some 49, .extract (Operand.tmp 44) 0, none, 0⟩,
 ⟨some 50, .extract (Operand.tmp 44) 1, none, 0⟩,
 ⟨some 12, .alloc 29, none, 0⟩,
 ⟨none, .store 29 (Operand.tmp 12) (Operand.tmp 49), none, 0⟩,
 ⟨some 13, .assign (Operand.tmp 50), none, 0⟩])
 (.seq
 (.ops [⟨some 52, .move (Operand.tmp 11), none, 0⟩,
 ⟨some 53, .indexAddr 29 (Operand.tmp 52) (Operand.const (Value.int IntKind.i64 2)), none, 0⟩,
 ⟨some 54, .load 9 (Operand.tmp 53), none, 0⟩,
 ⟨some 55, .call ⟨(Callee.value (Operand.func 37)), [(Operand.tmp 54)].toArray, #[9]⟩, none, 0⟩,
 ⟨some 51, .move (Operand.tmp 55), none, 0⟩,
 ⟨some 56, .extract (Operand.tmp 51) 0, none, 0⟩,
 ⟨some 57, .extract (Operand.tmp 51) 1, none, 0⟩,
 ⟨some 14, .assign (Operand.tmp 56), none, 0⟩,
 ⟨some 15, .assign (Operand.tmp 57), none, 0⟩])
 (.seq
 (.ops [⟨some 58, .move (Operand.tmp 5), none, 0⟩,
 ⟨some 59, .makeFunc (Fn.func 39) #[] [(Operand.tmp 12)].toArray, none, 0⟩,
 ⟨some 60, .call ⟨(Callee.value (Operand.func 38)), [(Operand.tmp 58), (Operand.tmp 59)].toArray, #[22, 71]⟩, none, 0⟩,
 ⟨some 16, .assign (Operand.tmp 60), none, 0⟩])
 (.seq
 (.seq
 (.ops [⟨some 61, .move (Operand.tmp 13), none, 0⟩,
 ⟨some 62, .unOp UnOp.not 4 (Operand.tmp 61), none, 0⟩,
 ⟨some 63, .move (Operand.tmp 62), none, 0⟩,
 ⟨some 64, .move (Operand.tmp 15), some (63, false), 0⟩,
 ⟨some 65, .unOp UnOp.not 4 (Operand.tmp 64), some (63, false), 0⟩,
 ⟨some 66, .pick (Operand.tmp 63) (Operand.const (Value.bool true)) (Operand.tmp 65), none, 0⟩,
 ⟨some 67, .move (Operand.tmp 66), none, 0⟩,
 ⟨some 68, .move (Operand.tmp 16), some (67, false), 0⟩,
 ⟨some 69, .pick (Operand.tmp 67) (Operand.const (Value.bool true)) (Operand.tmp 68), none, 0⟩])
 (.cond (Operand.tmp 69)
 (.seq
 (.ops [⟨some 70, .move (Operand.tmp 7), none, 0⟩,
 ⟨some 2, .assign (Operand.const (Value.slice none 0 0)), none, 0⟩,
 ⟨some 3, .assign (Operand.tmp 70), none, 0⟩,
 ⟨some 4, .assign (Operand.const (Value.int IntKind.i64 2)), none, 0⟩])
 .ret)
 .skip))
 (.seq
 (.draw [⟨some 71, .move (Operand.tmp 6), none, 0⟩,
 ⟨some 72, .move (Operand.tmp 71), none, 0⟩,
 ⟨some 73, .move (Operand.tmp 11), some (72, false), 0⟩,
 ⟨some 74, .indexAddr 29 (Operand.tmp 73) (Operand.const (Value.int IntKind.i64 0)), some (72, false), 0⟩,
 ⟨some 75, .load 9 (Operand.tmp 74), some (72, false), 0⟩,
 ⟨some 76, .call ⟨(Callee.builtin Builtin.len), [(Operand.tmp 75)].toArray, #[9]⟩, some (72, false), 0⟩,
 ⟨some 77, .move (Operand.tmp 11), some (72, false), 0⟩,
 ⟨some 78, .indexAddr 29 (Operand.tmp 77) (Operand.const (Value.int IntKind.i64 2)), some (72, false), 0⟩,
 ⟨some 79, .load 9 (Operand.tmp 78), some (72, false), 0⟩,
 ⟨some 80, .call ⟨(Callee.builtin Builtin.len), [(Operand.tmp 79)].toArray, #[9]⟩, some (72, false), 0⟩,
 ⟨some 81, .call ⟨(Callee.builtin Builtin.max), [(Operand.tmp 76), (Operand.tmp 80)].toArray, #[3, 3]⟩, some (72, false), 0⟩,
 ⟨some 82, .binOp BinOp.gtr 3 (Operand.tmp 81) (Operand.const (Value.int IntKind.i64 400)) 3, some (72, false), 0⟩,
 ⟨some 83, .pick (Operand.tmp 72) (Operand.const (Value.bool true)) (Operand.tmp 82), none, 0⟩,
 ⟨some 84, .move (Operand.tmp 83), none, 0⟩,
 ⟨some 85, .load 29 (Operand.tmp 12), some (84, false), 0⟩,
 ⟨some 86, .call ⟨(Callee.builtin Builtin.len), [(Operand.tmp 85)].toArray, #[29]⟩, some (84, false), 0⟩,
 ⟨some 87, .move (Operand.tmp 14), some (84, false), 0⟩,
 ⟨some 88, .call ⟨(Callee.builtin Builtin.len), [(Operand.tmp 87)].toArray, #[29]⟩, some (84, false), 0⟩,
 ⟨some 89, .call ⟨(Callee.builtin Builtin.max), [(Operand.tmp 86), (Operand.tmp 88)].toArray, #[3, 3]⟩, some (84, false), 0⟩,
 ⟨some 90, .binOp BinOp.gtr 3 (Operand.tmp 89) (Operand.const (Value.int IntKind.i64 60)) 3, some (84, false), 0⟩,
 ⟨some 91, .pick (Operand.tmp 84) (Operand.const (Value.bool true)) (Operand.tmp 90), none, 0⟩,
 ⟨some 6, .assign (Operand.tmp 91), none, 0⟩] true [18, 19, 20, 21] [])
 (.ops [⟨some 92, .move (Operand.tmp 5), none, 0⟩,
 ⟨some 93, .load 29 (Operand.tmp 12), none, 0⟩,
 ⟨some 94, .move (Operand.tmp 14), none, 0⟩,
 ⟨some 95, .build 46 [(0, (Operand.tmp 93)), (1, (Operand.tmp 94))].toArray, none, 0⟩,
 ⟨some 96, .buildSlice 22 1 [(0, (Operand.tmp 95))].toArray, none, 0⟩,
 ⟨some 97, .call ⟨(Callee.builtin Builtin.append), [(Operand.tmp 92), (Operand.tmp 96)].toArray, #[22, 22]⟩, none, 1⟩,
 ⟨some 5, .assign (Operand.tmp 97), none, 0⟩])))))))))))
 (.ops [⟨some 23, .move (Operand.tmp 7), none, 0⟩,
 ⟨some 24, .binOp BinOp.add 3 (Operand.tmp 23) (Operand.const (Value.int IntKind.i64 1)) 3, none, 0⟩,
 ⟨some 7, .assign (Operand.tmp 24), none, 0⟩]))))))
 (.seq
 (.seq
 (.ops [⟨some 98, .move (Operand.tmp 6), none, 0⟩])
 (.cond (Operand.tmp 98)
 (.seq
 (.ops [⟨some 2, .assign (Operand.const (Value.slice none 0 0)), none, 0⟩,
 ⟨some 3, .assign (Operand.const (Value.int IntKind.i64 0)), none, 0⟩,
 ⟨some 4, .assign (Operand.const (Value.int IntKind.i64 3)), none, 0⟩])
 .ret)
 .skip))
 (.seq
 (.ops [⟨some 99, .move (Operand.tmp 5), none, 0⟩,
 ⟨some 100, .call ⟨(Callee.value (Operand.func 41)), [(Operand.tmp 99), (Operand.func 42)].toArray, #[22, 73]⟩, none, 0⟩])
 (.seq
 (.seq
 (.ops [⟨some 101, .move (Operand.tmp 5), none, 0⟩,
 ⟨some 102, .call ⟨(Callee.value (Operand.func 20)), [(Operand.tmp 101)].toArray, #[22]⟩, none, 0⟩,
 ⟨some 17, .assign (Operand.tmp 102), none, 0⟩])
 (.seq
 (.ops [⟨some 103, .move (Operand.tmp 17), none, 0⟩,
 ⟨some 104, .binOp BinOp.neq 25 (Operand.tmp 103) (Operand.const (Value.int IntKind.i64 0)) 25, none, 0⟩])
 (.cond (Operand.tmp 104)
 (.seq
 (.ops [⟨some 105, .move (Operand.tmp 17), none, 0⟩,
 ⟨some 2, .assign (Operand.const (Value.slice none 0 0)), none, 0⟩,
 ⟨some 3, .assign (Operand.const (Value.int IntKind.i64 0)), none, 0⟩,
 ⟨some 4, .assign (Operand.tmp 105), none, 0⟩])
 .ret)
 .skip)))
 (.seq
 (.ops [⟨some 106, .move (Operand.tmp 5), none, 0⟩,
 ⟨some 2, .assign (Operand.tmp 106), none, 0⟩,
 ⟨some 3, .assign (Operand.const (Value.int IntKind.i64 0)), none, 0⟩,
 ⟨some 4, .assign (Operand.const (Value.int IntKind.i64 0)), none, 0⟩])
 .ret)))))))))
abbrev R16 : List ResultVar := [ResultVar.tmp 2, ResultVar.tmp 3, ResultVar.tmp 4]
theorem ok16 : FnOK Tryd.prog 16 L16 R16 1 := ⟨_, _, Tryd.func16, rfl, by kernel_rfl, by kernel_rfl, by kernel_rfl, by kernel_rfl, Nat.le_of_ble_eq_true (by kernel_rfl), by kernel_rfl⟩

/-- ablaut/ablautref25.Read -/
def L17 : LCode :=
 (.seq
 (.ops [⟨some 2, .assign (Operand.const (Value.slice none 0 0)), none, 0⟩,
 ⟨some 3, .assign (Operand.const (Value.int IntKind.i64 0)), none, 0⟩,
 ⟨some 4, .assign (Operand.const (Value.int IntKind.i64 0)), none, 0⟩])
 (.seq
 (.seq
 (.ops [⟨some 16, .move (Operand.tmp 0), none, 0⟩,
 ⟨some 17, .call ⟨(Callee.builtin Builtin.len), [(Operand.tmp 16)].toArray, #[9]⟩, none, 0⟩,
 ⟨some 18, .binOp BinOp.gtr 3 (Operand.tmp 17) (Operand.const (Value.int IntKind.i64 6000)) 3, none, 0⟩])
 (.cond (Operand.tmp 18)
 (.seq
 (.ops [⟨some 2, .assign (Operand.const (Value.slice none 0 0)), none, 0⟩,
 ⟨some 3, .assign (Operand.const (Value.int IntKind.i64 0)), none, 0⟩,
 ⟨some 4, .assign (Operand.const (Value.int IntKind.i64 3)), none, 0⟩])
 .ret)
 .skip))
 (.seq
 (.ops [⟨some 19, .move (Operand.tmp 0), none, 0⟩,
 ⟨some 20, .call ⟨(Callee.value (Operand.func 44)), [(Operand.tmp 19), (Operand.const (Value.int IntKind.u8 10))].toArray, #[9, 5]⟩, none, 0⟩,
 ⟨some 5, .assign (Operand.tmp 20), none, 0⟩])
 (.seq
 (.seq
 (.ops [⟨some 21, .move (Operand.tmp 5), none, 0⟩,
 ⟨some 22, .move (Operand.tmp 5), none, 0⟩,
 ⟨some 23, .call ⟨(Callee.builtin Builtin.len), [(Operand.tmp 22)].toArray, #[29]⟩, none, 0⟩,
 ⟨some 24, .binOp BinOp.sub 3 (Operand.tmp 23) (Operand.const (Value.int IntKind.i64 1)) 3, none, 0⟩,
 ⟨some 25, .indexAddr 29 (Operand.tmp 21) (Operand.tmp 24), none, 0⟩,
 ⟨some 26, .load 9 (Operand.tmp 25), none, 0⟩,
 ⟨some 27, .binOp BinOp.eql 9 (Operand.tmp 26) (Operand.const (Value.string ⟨#[]⟩)) 9, none, 0⟩])
 (.cond (Operand.tmp 27)
 (.ops [⟨some 28, .move (Operand.tmp 5), none, 0⟩,
 ⟨some 29, .move (Operand.tmp 5), none, 0⟩,
 ⟨some 30, .call ⟨(Callee.builtin Builtin.len), [(Operand.tmp 29)].toArray, #[29]⟩, none, 0⟩,
 ⟨some 31, .binOp BinOp.sub 3 (Operand.tmp 30) (Operand.const (Value.int IntKind.i64 1)) 3, none, 0⟩,
 ⟨some 32, .slice 29 (Operand.tmp 28) none (some (Operand.tmp 31)) none, none, 0⟩,
 ⟨some 5, .assign (Operand.tmp 32), none, 0⟩])
 .skip))
 (.seq
 (.ops [⟨some 6, .assign (Operand.const (Value.slice none 0 0)), none, 0⟩])
 (.seq
 (.ops [⟨some 7, .assign (Operand.const (Value.bool false)), none, 0⟩])
 (.seq
 (.seq
 (.ops [⟨some 8, .assign (Operand.const (Value.int IntKind.i64 0)), none, 0⟩])
 (.block 0
 (.loop
 (.seq
 (.seq
 (.ops [⟨some 33, .move (Operand.tmp 8), none, 0⟩,
 ⟨some 34, .move (Operand.tmp 5), none, 0⟩,
 ⟨some 35, .call ⟨(Callee.builtin Builtin.len), [(Operand.tmp 34)].toArray, #[29]⟩, none, 0⟩,
 ⟨some 36, .binOp BinOp.lss 3 (Operand.tmp 33) (Operand.tmp 35) 3, none, 0⟩])
 (.cond (Operand.tmp 36)
 .skip
 (.exit 0)))
 (.seq
 (.block 1
 (.seq
 (.ops [⟨some 39, .move (Operand.tmp 5), none, 0⟩,
 ⟨some 40, .move (Operand.tmp 8), none, 0⟩,
 ⟨some 41, .indexAddr 29 (Operand.tmp 39) (Operand.tmp 40), none, 0⟩,
 ⟨some 42, .load 9 (Operand.tmp 41), none, 0⟩,
 ⟨some 43, .call ⟨(Callee.value (Operand.func 44)), [(Operand.tmp 42), (Operand.const (Value.int IntKind.u8 32))].toArray, #[9, 5]⟩, none, 0⟩,
 ⟨some 9, .assign (Operand.tmp 43), none, 0⟩])
 (.seq
 (.seq
 (.ops [⟨some 44, .move (Operand.tmp 9), none, 0⟩,
 ⟨some 45, .call ⟨(Callee.builtin Builtin.len), [(Operand.tmp 44)].toArray, #[29]⟩, none, 0⟩,
 ⟨some 46, .binOp BinOp.neq 3 (Operand.tmp 45) (Operand.const (Value.int IntKind.i64 3)) 3, none, 0⟩,
 ⟨some 47, .move (Operand.tmp 46), none, 0⟩,
 ⟨some 48, .move (Operand.tmp 9), some (47, false), 0⟩,
 ⟨some 49, .indexAddr 29 (Operand.tmp 48) (Operand.const (Value.int IntKind.i64 1)), some (47, false), 0⟩,
 ⟨some 50, .load 9 (Operand.tmp 49), some (47, false), 0⟩,
 ⟨some 51, .binOp BinOp.neq 9 (Operand.tmp 50) (Operand.const (Value.string ⟨#[61]⟩)) 9, some (47, false), 0⟩,
 ⟨some 52, .pick (Operand.tmp 47) (Operand.const (Value.bool true)) (Operand.tmp 51), none, 0⟩])
 (.cond (Operand.tmp 52)
 (.seq
 (.ops [⟨some 53, .move (Operand.tmp 8), none, 0⟩,
 ⟨some 2, .assign (Operand.const (Value.slice none 0 0)), none, 0⟩,
 ⟨some 3, .assign (Operand.tmp 53), none, 0⟩,
 ⟨some 4, .assign (Operand.const (Value.int IntKind.i64 2)), none, 0⟩])
 .ret)
 .skip))
 (.seq
 (.ops [⟨some 55, .move (Operand.tmp 9), none, 0⟩,
 ⟨some 56, .indexAddr 29 (Operand.tmp 55) (Operand.const (Value.int IntKind.i64 0)), none, 0⟩,
 ⟨some 57, .load 9 (Operand.tmp 56), none, 0⟩,
 ⟨some 58, .call ⟨(Callee.value (Operand.func 45)), [(Operand.tmp 57)].toArray, #[9]⟩, none, 0⟩,
 ⟨some 54, .move (Operand.tmp 58), none, 0⟩,
 ⟨some 59, .extract (Operand.tmp 54) 0, none, 0⟩,
 ⟨some 60, .extract (Operand.tmp 54) 1, none, 0⟩,
 ⟨some 10, .assign (Operand.tmp 59), none, 0⟩,
 ⟨some 11, .assign (Operand.tmp 60), none, 0⟩])
 (.seq
 (.ops [⟨some 62, .move (Operand.tmp 9), none, 0⟩,
 ⟨some 63, .indexAddr 29 (Operand.tmp 62) (Operand.const (Value.int IntKind.i64 2)), none, 0⟩,
 ⟨some 64, .load 9 (Operand.tmp 63), none, 0⟩,
 ⟨some 65, .call ⟨(Callee.value (Operand.func 45)), [(Operand.tmp 64)].toArray, #[9]⟩, none, 0⟩,
 ⟨some 61, .move (Operand.tmp 65), none, 0⟩,
 ⟨some 66, .extract (Operand.tmp 61) 0, none, 0⟩,
 ⟨some 67, .extract (Operand.tmp 61) 1, none, 0⟩,
 ⟨some 12, .assign (Operand.tmp 66), none, 0⟩,
 ⟨some 13, .assign (Operand.tmp 67), none, 0⟩])
 (.seq
 (.seq
 (.ops [⟨some 14, .assign (Operand.const (Value.int IntKind.i64 0)), none, 0⟩])
 (.block 2
 (.loop
 (.seq
 (.seq
 (.ops [⟨some 68, .move (Operand.tmp 14), none, 0⟩,
 ⟨some 69, .move (Operand.tmp 6), none, 0⟩,
 ⟨some 70, .call ⟨(Callee.builtin Builtin.len), [(Operand.tmp 69)].toArray, #[22]⟩, none, 0⟩,
 ⟨some 71, .binOp BinOp.lss 3 (Operand.tmp 68) (Operand.tmp 70) 3, none, 0⟩])
 (.cond (Operand.tmp 71)
 .skip
 (.exit 2)))
 (.seq
 (.block 3
 (.ops [⟨some 74, .move (Operand.tmp 11), none, 0⟩,
 ⟨some 75, .move (Operand.tmp 74), none, 0⟩,
 ⟨some 76, .move (Operand.tmp 6), some (75, true), 0⟩,
 ⟨some 77, .move (Operand.tmp 14), some (75, true), 0⟩,
 ⟨some 78, .indexAddr 22 (Operand.tmp 76) (Operand.tmp 77), some (75, true), 0⟩,
 ⟨some 79, .fieldAddr 46 (Operand.tmp 78) 0, some (75, true), 0⟩,
 ⟨some 80, .load 29 (Operand.tmp 79), some (75, true), 0⟩,
 ⟨some 81, .move (Operand.tmp 10), some (75, true), 0⟩,
 ⟨some 82, .call ⟨(Callee.value (Operand.func 15)), [(Operand.tmp 80), (Operand.tmp 81)].toArray, #[29, 29]⟩, some (75, true), 0⟩,
 ⟨some 83, .unOp UnOp.not 4 (Operand.tmp 82), some (75, true), 0⟩,
 ⟨some 84, .pick (Operand.tmp 75) (Operand.tmp 83) (Operand.const (Value.bool false)), none, 0⟩,
 ⟨some 11, .assign (Operand.tmp 84), none, 0⟩]))
 (.ops [⟨some 72, .move (Operand.tmp 14), none, 0⟩,
 ⟨some 73, .binOp BinOp.add 3 (Operand.tmp 72) (Operand.const (Value.int IntKind.i64 1)) 3, none, 0⟩,
 ⟨some 14, .assign (Operand.tmp 73), none, 0⟩]))))))
 (.seq
 (.seq
 (.ops [⟨some 85, .move (Operand.tmp 11), none, 0⟩,
 ⟨some 86, .unOp UnOp.not 4 (Operand.tmp 85), none, 0⟩,
 ⟨some 87, .move (Operand.tmp 86), none, 0⟩,
 ⟨some 88, .move (Operand.tmp 13), some (87, false), 0⟩,
 ⟨some 89, .unOp UnOp.not 4 (Operand.tmp 88), some (87, false), 0⟩,
 ⟨some 90, .pick (Operand.tmp 87) (Operand.const (Value.bool true)) (Operand.tmp 89), none, 0⟩])
 (.cond (Operand.tmp 90)
 (.seq
 (.ops [⟨some 91, .move (Operand.tmp 8), none, 0⟩,
 ⟨some 2, .assign (Operand.const (Value.slice none 0 0)), none, 0⟩,
 ⟨some 3, .assign (Operand.tmp 91), none, 0⟩,
 ⟨some 4, .assign (Operand.const (Value.int IntKind.i64 2)), none, 0⟩])
 .ret)
 .skip))
 (.seq
 (.ops [⟨some 92, .move (Operand.tmp 7), none, 0⟩,
 ⟨some 93, .move (Operand.tmp 92), none, 0⟩,
 ⟨some 94, .move (Operand.tmp 9), some (93, false), 0⟩,
 ⟨some 95, .indexAddr 29 (Operand.tmp 94) (Operand.const (Value.int IntKind.i64 0)), some (93, false), 0⟩,
 ⟨some 96, .load 9 (Operand.tmp 95), some (93, false), 0⟩,
 ⟨some 97, .call ⟨(Callee.builtin Builtin.len), [(Operand.tmp 96)].toArray, #[9]⟩, some (93, false), 0⟩,
 ⟨some 98, .binOp BinOp.gtr 3 (Operand.tmp 97) (Operand.const (Value.int IntKind.i64 400)) 3, some (93, false), 0⟩,
 ⟨some 99, .pick (Operand.tmp 93) (Operand.const (Value.bool true)) (Operand.tmp 98), none, 0⟩,
 ⟨some 100, .move (Operand.tmp 99), none, 0⟩,
 ⟨some 101, .move (Operand.tmp 9), some (100, false), 0⟩,
 ⟨some 102, .indexAddr 29 (Operand.tmp 101) (Operand.const (Value.int IntKind.i64 2)), some (100, false), 0⟩,
 ⟨some 103, .load 9 (Operand.tmp 102), some (100, false), 0⟩,
 ⟨some 104, .call ⟨(Callee.builtin Builtin.len), [(Operand.tmp 103)].toArray, #[9]⟩, some (100, false), 0⟩,
 ⟨some 105, .binOp BinOp.gtr 3 (Operand.tmp 104) (Operand.const (Value.int IntKind.i64 400)) 3, some (100, false), 0⟩,
 ⟨some 106, .pick (Operand.tmp 100) (Operand.const (Value.bool true)) (Operand.tmp 105), none, 0⟩,
 ⟨some 107, .move (Operand.tmp 106), none, 0⟩,
 ⟨some 108, .move (Operand.tmp 10), some (107, false), 0⟩,
 ⟨some 109, .call ⟨(Callee.builtin Builtin.len), [(Operand.tmp 108)].toArray, #[29]⟩, some (107, false), 0⟩,
 ⟨some 110, .binOp BinOp.gtr 3 (Operand.tmp 109) (Operand.const (Value.int IntKind.i64 60)) 3, some (107, false), 0⟩,
 ⟨some 111, .pick (Operand.tmp 107) (Operand.const (Value.bool true)) (Operand.tmp 110), none, 0⟩,
 ⟨some 112, .move (Operand.tmp 111), none, 0⟩,
 ⟨some 113, .move (Operand.tmp 12), some (112, false), 0⟩,
 ⟨some 114, .call ⟨(Callee.builtin Builtin.len), [(Operand.tmp 113)].toArray, #[29]⟩, some (112, false), 0⟩,
 ⟨some 115, .binOp BinOp.gtr 3 (Operand.tmp 114) (Operand.const (Value.int IntKind.i64 60)) 3, some (112, false), 0⟩,
 ⟨some 116, .pick (Operand.tmp 112) (Operand.const (Value.bool true)) (Operand.tmp 115), none, 0⟩,
 ⟨some 7, .assign (Operand.tmp 116), none, 0⟩])
 (.ops [⟨some 117, .move (Operand.tmp 6), none, 0⟩,
 ⟨some 118, .move (Operand.tmp 10), none, 0⟩,
 ⟨some 119, .move (Operand.tmp 12), none, 0⟩,
 ⟨some 120, .build 46 [(0, (Operand.tmp 118)), (1, (Operand.tmp 119))].toArray, none, 0⟩,
 ⟨some 121, .buildSlice 22 1 [(0, (Operand.tmp 120))].toArray, none, 0⟩,
 ⟨some 122, .call ⟨(Callee.builtin Builtin.append), [(Operand.tmp 117), (Operand.tmp 121)].toArray, #[22, 22]⟩, none, 0⟩,
 ⟨some 6, .assign (Operand.tmp 122), none, 0⟩])))))))))
 (.ops [⟨some 37, .move (Operand.tmp 8), none, 0⟩,
 ⟨some 38, .binOp BinOp.add 3 (Operand.tmp 37) (Operand.const (Value.int IntKind.i64 1)) 3, none, 0⟩,
 ⟨some 8, .assign (Operand.tmp 38), none, 0⟩]))))))
 (.seq
 (.seq
 (.ops [⟨some 123, .move (Operand.tmp 7), none, 0⟩])
 (.cond (Operand.tmp 123)
 (.seq
 (.ops [⟨some 2, .assign (Operand.const (Value.slice none 0 0)), none, 0⟩,
 ⟨some 3, .assign (Operand.const (Value.int IntKind.i64 0)), none, 0⟩,
 ⟨some 4, .assign (Operand.const (Value.int IntKind.i64 3)), none, 0⟩])
 .ret)
 .skip))
 (.seq
 (.ops [⟨some 124, .move (Operand.tmp 6), none, 0⟩,
 ⟨some 125, .call ⟨(Callee.value (Operand.func 46)), [(Operand.tmp 124)].toArray, #[22]⟩, none, 0⟩,
 ⟨some 6, .assign (Operand.tmp 125), none, 0⟩])
 (.seq
 (.seq
 (.ops [⟨some 126, .move (Operand.tmp 6), none, 0⟩,
 ⟨some 127, .call ⟨(Callee.value (Operand.func 25)), [(Operand.tmp 126)].toArray, #[22]⟩, none, 0⟩,
 ⟨some 15, .assign (Operand.tmp 127), none, 0⟩])
 (.seq
 (.ops [⟨some 128, .move (Operand.tmp 15), none, 0⟩,
 ⟨some 129, .binOp BinOp.neq 25 (Operand.tmp 128) (Operand.const (Value.int IntKind.i64 0)) 25, none, 0⟩])
 (.cond (Operand.tmp 129)
 (.seq
 (.ops [⟨some 130, .move (Operand.tmp 15), none, 0⟩,
 ⟨some 2, .assign (Operand.const (Value.slice none 0 0)), none, 0⟩,
 ⟨some 3, .assign (Operand.const (Value.int IntKind.i64 0)), none, 0⟩,
 ⟨some 4, .assign (Operand.tmp 130), none, 0⟩])
 .ret)
 .skip)))
 (.seq
 (.ops [⟨some 131, .move (Operand.tmp 6), none, 0⟩,
 ⟨some 2, .assign (Operand.tmp 131), none, 0⟩,
 ⟨some 3, .assign (Operand.const (Value.int IntKind.i64 0)), none, 0⟩,
 ⟨some 4, .assign (Operand.const (Value.int IntKind.i64 0)), none, 0⟩])
 .ret)))))))))))
abbrev R17 : List ResultVar := [ResultVar.tmp 2, ResultVar.tmp 3, ResultVar.tmp 4]
theorem ok17 : FnOK Tryd.prog 17 L17 R17 1 := ⟨_, _, Tryd.func17, rfl, by kernel_rfl, by kernel_rfl, by kernel_rfl, by kernel_rfl, Nat.le_of_ble_eq_true (by kernel_rfl), by kernel_rfl⟩

/-- ablaut/script.Reverse -/
def L18 : LCode :=
 (.seq
 (.ops [⟨some 2, .assign (Operand.const (Value.slice none 0 0)), none, 0⟩,
 ⟨some 3, .assign (Operand.const (Value.bool false)), none, 0⟩,
 ⟨some 4, .assign (Operand.const (Value.int IntKind.i64 0)), none, 0⟩])
 (.seq
 (.seq
 (.ops [⟨some 11, .move (Operand.tmp 0), none, 0⟩,
 ⟨some 12, .call ⟨(Callee.value (Operand.func 20)), [(Operand.tmp 11)].toArray, #[22]⟩, none, 0⟩,
 ⟨some 5, .assign (Operand.tmp 12), none, 0⟩])
 (.seq
 (.ops [⟨some 13, .move (Operand.tmp 5), none, 0⟩,
 ⟨some 14, .binOp BinOp.neq 25 (Operand.tmp 13) (Operand.const (Value.int IntKind.i64 0)) 25, none, 0⟩])
 (.cond (Operand.tmp 14)
 (.seq
 (.ops [⟨some 15, .move (Operand.tmp 5), none, 0⟩,
 ⟨some 2, .assign (Operand.const (Value.slice none 0 0)), none, 0⟩,
 ⟨some 3, .assign (Operand.const (Value.bool false)), none, 0⟩,
 ⟨some 4, .assign (Operand.tmp 15), none, 0⟩])
 .ret)
 .skip)))
 (.seq
 (.seq
 (.ops [⟨some 16, .move (Operand.tmp 0), none, 0⟩,
 ⟨some 17, .call ⟨(Callee.value (Operand.func 21)), [(Operand.tmp 16)].toArray, #[22]⟩, none, 0⟩,
 ⟨some 6, .assign (Operand.tmp 17), none, 0⟩])
 (.seq
 (.ops [⟨some 18, .move (Operand.tmp 6), none, 0⟩,
 ⟨some 19, .binOp BinOp.neq 25 (Operand.tmp 18) (Operand.const (Value.int IntKind.i64 0)) 25, none, 0⟩])
 (.cond (Operand.tmp 19)
 (.seq
 (.ops [⟨some 20, .move (Operand.tmp 6), none, 0⟩,
 ⟨some 2, .assign (Operand.const (Value.slice none 0 0)), none, 0⟩,
 ⟨some 3, .assign (Operand.const (Value.bool false)), none, 0⟩,
 ⟨some 4, .assign (Operand.tmp 20), none, 0⟩])
 .ret)
 .skip)))
 (.seq
 (.ops [⟨some 7, .assign (Operand.const (Value.slice none 0 0)), none, 0⟩])
 (.seq
 (.ops [⟨some 8, .assign (Operand.const (Value.slice none 0 0)), none, 0⟩])
 (.seq
 (.seq
 (.ops [⟨some 21, .move (Operand.tmp 0), none, 0⟩,
 ⟨some 22, .call ⟨(Callee.builtin Builtin.len), [(Operand.tmp 21)].toArray, #[22]⟩, none, 0⟩,
 ⟨some 23, .move (Operand.const (Value.int IntKind.i64 0)), none, 0⟩])
 (.block 0
 (.loop
 (.seq
 (.ops [⟨some 24, .binOp BinOp.lss 3 (Operand.tmp 23) (Operand.tmp 22) 3, none, 0⟩])
 (.seq
 (.cond (Operand.tmp 24)
 .skip
 (.exit 0))
 (.seq
 (.block 1
 (.seq
 (.ops [⟨some 25, .indexAddr 22 (Operand.tmp 21) (Operand.tmp 23), none, 0⟩,
 ⟨some 26, .load 46 (Operand.tmp 25), none, 0⟩,
 ⟨some 10, .alloc 46, none, 0⟩,
 ⟨none, .store 46 (Operand.tmp 10) (Operand.tmp 26), none, 0⟩])
 (.seq
 (.draw [⟨some 27, .move (Operand.tmp 7), none, 0⟩,
 ⟨some 28, .fieldAddr 46 (Operand.tmp 10) 1, none, 0⟩,
 ⟨some 29, .load 29 (Operand.tmp 28), none, 0⟩,
 ⟨some 30, .call ⟨(Callee.value (Operand.func 23)), [(Operand.tmp 29)].toArray, #[29]⟩, none, 0⟩,
 ⟨some 31, .fieldAddr 46 (Operand.tmp 10) 0, none, 0⟩,
 ⟨some 32, .load 29 (Operand.tmp 31), none, 0⟩,
 ⟨some 33, .call ⟨(Callee.value (Operand.func 23)), [(Operand.tmp 32)].toArray, #[29]⟩, none, 0⟩,
 ⟨some 34, .build 46 [(0, (Operand.tmp 30)), (1, (Operand.tmp 33))].toArray, none, 0⟩,
 ⟨some 35, .buildSlice 22 1 [(0, (Operand.tmp 34))].toArray, none, 0⟩,
 ⟨some 36, .call ⟨(Callee.builtin Builtin.append), [(Operand.tmp 27), (Operand.tmp 35)].toArray, #[22, 22]⟩, none, 1⟩,
 ⟨some 7, .assign (Operand.tmp 36), none, 0⟩] true [9, 10] [])
 (.ops [⟨some 37, .move (Operand.tmp 8), none, 0⟩,
 ⟨some 38, .fieldAddr 46 (Operand.tmp 10) 1, none, 0⟩,
 ⟨some 39, .load 29 (Operand.tmp 38), none, 0⟩,
 ⟨some 40, .buildSlice 49 1 [(0, (Operand.tmp 39))].toArray, none, 0⟩,
 ⟨some 41, .call ⟨(Callee.builtin Builtin.append), [(Operand.tmp 37), (Operand.tmp 40)].toArray, #[49, 49]⟩, none, 0⟩,
 ⟨some 8, .assign (Operand.tmp 41), none, 0⟩]))))
 (.ops [⟨some 42, .binOp BinOp.add 3 (Operand.tmp 23) (Operand.const (Value.int IntKind.i64 1)) 3, none, 0⟩,
 ⟨some 23, .move (Operand.tmp 42), none, 0⟩])))))))
 (.seq
 (.ops [⟨some 43, .move (Operand.tmp 7), none, 0⟩,
 ⟨some 44, .call ⟨(Callee.value (Operand.func 41)), [(Operand.tmp 43), (Operand.func 47)].toArray, #[22, 73]⟩, none, 0⟩])
 (.seq
 (.seq
 (.ops [⟨some 45, .move (Operand.tmp 7), none, 0⟩,
 ⟨some 46, .call ⟨(Callee.value (Operand.func 20)), [(Operand.tmp 45)].toArray, #[22]⟩, none, 0⟩,
 ⟨some 47, .binOp BinOp.neq 25 (Operand.tmp 46) (Operand.const (Value.int IntKind.i64 0)) 25, none, 0⟩,
 ⟨some 48, .move (Operand.tmp 47), none, 0⟩,
 ⟨some 49, .move (Operand.tmp 8), some (48, false), 0⟩,
 ⟨some 50, .move (Operand.tmp 7), some (48, false), 0⟩,
 ⟨some 51, .call ⟨(Callee.value (Operand.func 24)), [(Operand.tmp 49), (Operand.tmp 50)].toArray, #[49, 22]⟩, some (48, false), 0⟩,
 ⟨some 52, .unOp UnOp.not 4 (Operand.tmp 51), some (48, false), 0⟩,
 ⟨some 53, .pick (Operand.tmp 48) (Operand.const (Value.bool true)) (Operand.tmp 52), none, 0⟩])
 (.cond (Operand.tmp 53)
 (.seq
 (.ops [⟨some 2, .assign (Operand.const (Value.slice none 0 0)), none, 0⟩,
 ⟨some 3, .assign (Operand.const (Value.bool false)), none, 0⟩,
 ⟨some 4, .assign (Operand.const (Value.int IntKind.i64 0)), none, 0⟩])
 .ret)
 .skip))
 (.seq
 (.ops [⟨some 54, .move (Operand.tmp 7), none, 0⟩,
 ⟨some 2, .assign (Operand.tmp 54), none, 0⟩,
 ⟨some 3, .assign (Operand.const (Value.bool true)), none, 0⟩,
 ⟨some 4, .assign (Operand.const (Value.int IntKind.i64 0)), none, 0⟩])
 .ret)))))))))
abbrev R18 : List ResultVar := [ResultVar.tmp 2, ResultVar.tmp 3, ResultVar.tmp 4]
theorem ok18 : FnOK Tryd.prog 18 L18 R18 1 := ⟨_, _, Tryd.func18, rfl, by kernel_rfl, by kernel_rfl, by kernel_rfl, by kernel_rfl, Nat.le_of_ble_eq_true (by kernel_rfl), by kernel_rfl⟩

/-- ablaut/script.Reversible -/
def L19 : LCode :=
 (.seq
 (.ops [⟨some 2, .assign (Operand.const (Value.bool false)), none, 0⟩,
 ⟨some 3, .alloc 41, none, 0⟩,
 ⟨some 4, .assign (Operand.const (Value.int IntKind.i64 0)), none, 0⟩])
 (.seq
 (.seq
 (.ops [⟨some 15, .move (Operand.tmp 0), none, 0⟩,
 ⟨some 16, .call ⟨(Callee.value (Operand.func 20)), [(Operand.tmp 15)].toArray, #[22]⟩, none, 0⟩,
 ⟨some 5, .assign (Operand.tmp 16), none, 0⟩])
 (.seq
 (.ops [⟨some 17, .move (Operand.tmp 5), none, 0⟩,
 ⟨some 18, .binOp BinOp.neq 25 (Operand.tmp 17) (Operand.const (Value.int IntKind.i64 0)) 25, none, 0⟩])
 (.cond (Operand.tmp 18)
 (.seq
 (.ops [⟨some 19, .build 41 [].toArray, none, 0⟩,
 ⟨some 20, .move (Operand.tmp 5), none, 0⟩,
 ⟨some 2, .assign (Operand.const (Value.bool false)), none, 0⟩,
 ⟨none, .store 41 (Operand.tmp 3) (Operand.tmp 19), none, 0⟩,
 ⟨some 4, .assign (Operand.tmp 20), none, 0⟩])
 .ret)
 .skip)))
 (.seq
 (.seq
 (.ops [⟨some 21, .move (Operand.tmp 0), none, 0⟩,
 ⟨some 22, .call ⟨(Callee.value (Operand.func 21)), [(Operand.tmp 21)].toArray, #[22]⟩, none, 0⟩,
 ⟨some 6, .assign (Operand.tmp 22), none, 0⟩])
 (.seq
 (.ops [⟨some 23, .move (Operand.tmp 6), none, 0⟩,
 ⟨some 24, .binOp BinOp.neq 25 (Operand.tmp 23) (Operand.const (Value.int IntKind.i64 0)) 25, none, 0⟩])
 (.cond (Operand.tmp 24)
 (.seq
 (.ops [⟨some 25, .build 41 [].toArray, none, 0⟩,
 ⟨some 26, .move (Operand.tmp 6), none, 0⟩,
 ⟨some 2, .assign (Operand.const (Value.bool false)), none, 0⟩,
 ⟨none, .store 41 (Operand.tmp 3) (Operand.tmp 25), none, 0⟩,
 ⟨some 4, .assign (Operand.tmp 26), none, 0⟩])
 .ret)
 .skip)))
 (.seq
 (.ops [⟨some 7, .assign (Operand.const (Value.slice none 0 0)), none, 0⟩])
 (.seq
 (.seq
 (.ops [⟨some 27, .move (Operand.tmp 0), none, 0⟩,
 ⟨some 28, .call ⟨(Callee.builtin Builtin.len), [(Operand.tmp 27)].toArray, #[22]⟩, none, 0⟩,
 ⟨some 29, .move (Operand.const (Value.int IntKind.i64 0)), none, 0⟩])
 (.block 0
 (.loop
 (.seq
 (.ops [⟨some 30, .binOp BinOp.lss 3 (Operand.tmp 29) (Operand.tmp 28) 3, none, 0⟩])
 (.seq
 (.cond (Operand.tmp 30)
 .skip
 (.exit 0))
 (.seq
 (.block 1
 (.seq
 (.ops [⟨some 31, .indexAddr 22 (Operand.tmp 27) (Operand.tmp 29), none, 0⟩,
 ⟨some 32, .load 46 (Operand.tmp 31), none, 0⟩,
 ⟨some 9, .alloc 46, none, 0⟩,
 ⟨none, .store 46 (Operand.tmp 9) (Operand.tmp 32), none, 0⟩])
 (.ops [⟨some 33, .move (Operand.tmp 7), none, 0⟩,
 ⟨some 34, .fieldAddr 46 (Operand.tmp 9) 1, none, 0⟩,
 ⟨some 35, .load 29 (Operand.tmp 34), none, 0⟩,
 ⟨some 36, .buildSlice 49 1 [(0, (Operand.tmp 35))].toArray, none, 0⟩,
 ⟨some 37, .call ⟨(Callee.builtin Builtin.append), [(Operand.tmp 33), (Operand.tmp 36)].toArray, #[49, 49]⟩, none, 0⟩,
 ⟨some 7, .assign (Operand.tmp 37), none, 0⟩])))
 (.ops [⟨some 38, .binOp BinOp.add 3 (Operand.tmp 29) (Operand.const (Value.int IntKind.i64 1)) 3, none, 0⟩,
 ⟨some 29, .move (Operand.tmp 38), none, 0⟩])))))))
 (.seq
 (.ops [⟨some 39, .move (Operand.tmp 7), none, 0⟩,
 ⟨some 40, .call ⟨(Callee.value (Operand.func 48)), [(Operand.tmp 39)].toArray, #[49]⟩, none, 0⟩,
 ⟨some 10, .assign (Operand.tmp 40), none, 0⟩])
 (.seq
 (.seq
 (.ops [⟨some 41, .move (Operand.tmp 10), none, 0⟩,
 ⟨some 42, .binOp BinOp.eql 76 (Operand.tmp 41) (Operand.const (Value.slice none 0 0)) 76, none, 0⟩])
 (.cond (Operand.tmp 42)
 (.seq
 (.ops [⟨some 43, .build 41 [].toArray, none, 0⟩,
 ⟨some 2, .assign (Operand.const (Value.bool true)), none, 0⟩,
 ⟨none, .store 41 (Operand.tmp 3) (Operand.tmp 43), none, 0⟩,
 ⟨some 4, .assign (Operand.const (Value.int IntKind.i64 0)), none, 0⟩])
 .ret)
 .skip))
 (.seq
 (.ops [⟨some 11, .alloc 41, none, 0⟩])
 (.seq
 (.seq
 (.ops [⟨some 44, .move (Operand.const (Value.int IntKind.i64 0)), none, 0⟩])
 (.block 2
 (.loop
 (.seq
 (.ops [⟨some 45, .binOp BinOp.lss 3 (Operand.tmp 44) (Operand.const (Value.int IntKind.i64 2)) 3, none, 0⟩])
 (.seq
 (.cond (Operand.tmp 45)
 .skip
 (.exit 2))
 (.seq
 (.block 3
 (.seq
 (.ops [⟨some 46, .move (Operand.tmp 44), none, 0⟩,
 ⟨some 12, .assign (Operand.tmp 46), none, 0⟩])
 (.seq
 (.ops [⟨some 47, .move (Operand.tmp 10), none, 0⟩,
 ⟨some 48, .move (Operand.tmp 12), none, 0⟩,
 ⟨some 49, .indexAddr 76 (Operand.tmp 47) (Operand.tmp 48), none, 0⟩,
 ⟨some 50, .load 56 (Operand.tmp 49), none, 0⟩,
 ⟨some 51, .call ⟨(Callee.builtin Builtin.len), [(Operand.tmp 50)].toArray, #[56]⟩, none, 0⟩,
 ⟨some 52, .move (Operand.const (Value.int IntKind.i64 0)), none, 0⟩])
 (.block 4
 (.loop
 (.seq
 (.ops [⟨some 53, .binOp BinOp.lss 3 (Operand.tmp 52) (Operand.tmp 51) 3, none, 0⟩])
 (.seq
 (.cond (Operand.tmp 53)
 .skip
 (.exit 4))
 (.seq
 (.block 5
 (.seq
 (.ops [⟨some 54, .indexAddr 56 (Operand.tmp 50) (Operand.tmp 52), none, 0⟩,
 ⟨some 55, .load 3 (Operand.tmp 54), none, 0⟩,
 ⟨some 14, .assign (Operand.tmp 55), none, 0⟩])
 (.draw [⟨some 56, .move (Operand.tmp 12), none, 0⟩,
 ⟨some 57, .move (Operand.tmp 12), none, 0⟩,
 ⟨some 58, .indexAddr 41 (Operand.tmp 11) (Operand.tmp 57), none, 0⟩,
 ⟨some 59, .load 29 (Operand.tmp 58), none, 0⟩,
 ⟨some 60, .move (Operand.tmp 0), none, 0⟩,
 ⟨some 61, .move (Operand.tmp 14), none, 0⟩,
 ⟨some 62, .indexAddr 22 (Operand.tmp 60) (Operand.tmp 61), none, 0⟩,
 ⟨some 63, .fieldAddr 46 (Operand.tmp 62) 0, none, 0⟩,
 ⟨some 64, .load 29 (Operand.tmp 63), none, 0⟩,
 ⟨some 65, .call ⟨(Callee.builtin Builtin.append), [(Operand.tmp 59), (Operand.tmp 64)].toArray, #[29, 29]⟩, none, 0⟩,
 ⟨some 66, .indexAddr 41 (Operand.tmp 11) (Operand.tmp 56), none, 0⟩,
 ⟨none, .store 29 (Operand.tmp 66) (Operand.tmp 65), none, 0⟩] true [10, 11] [0, 1, 2, 4, 5, 6, 7, 3, 8, 9, 10, 11])))
 (.ops [⟨some 67, .binOp BinOp.add 3 (Operand.tmp 52) (Operand.const (Value.int IntKind.i64 1)) 3, none, 0⟩,
 ⟨some 52, .move (Operand.tmp 67), none, 0⟩])))))))))
 (.ops [⟨some 68, .binOp BinOp.add 3 (Operand.tmp 44) (Operand.const (Value.int IntKind.i64 1)) 3, none, 0⟩,
 ⟨some 44, .move (Operand.tmp 68), none, 0⟩])))))))
 (.seq
 (.draw [⟨some 69, .load 41 (Operand.tmp 11), none, 0⟩,
 ⟨some 2, .assign (Operand.const (Value.bool false)), none, 0⟩,
 ⟨none, .store 41 (Operand.tmp 3) (Operand.tmp 69), none, 0⟩,
 ⟨some 4, .assign (Operand.const (Value.int IntKind.i64 0)), none, 0⟩] true [2, 3] [1, 0, 2, 3])
 .ret))))))))))
abbrev R19 : List ResultVar := [ResultVar.tmp 2, ResultVar.cell 3 41, ResultVar.tmp 4]
theorem ok19 : FnOK Tryd.prog 19 L19 R19 1 := ⟨_, _, Tryd.func19, rfl, by kernel_rfl, by kernel_rfl, by kernel_rfl, by kernel_rfl, Nat.le_of_ble_eq_true (by kernel_rfl), by kernel_rfl⟩

/-- ablaut/script.Validate -/
def L20 : LCode :=
 (.seq
 (.ops [⟨some 2, .assign (Operand.const (Value.int IntKind.i64 0)), none, 0⟩])
 (.seq
 (.seq
 (.ops [⟨some 10, .move (Operand.tmp 0), none, 0⟩,
 ⟨some 11, .call ⟨(Callee.builtin Builtin.len), [(Operand.tmp 10)].toArray, #[22]⟩, none, 0⟩,
 ⟨some 12, .binOp BinOp.gtr 3 (Operand.tmp 11) (Operand.const (Value.int IntKind.i64 24)) 3, none, 0⟩])
 (.cond (Operand.tmp 12)
 (.seq
 (.ops [⟨some 2, .assign (Operand.const (Value.int IntKind.i64 3)), none, 0⟩])
 .ret)
 .skip))
 (.seq
 (.seq
 (.ops [⟨some 13, .move (Operand.tmp 0), none, 0⟩,
 ⟨some 14, .call ⟨(Callee.builtin Builtin.len), [(Operand.tmp 13)].toArray, #[22]⟩, none, 0⟩,
 ⟨some 15, .move (Operand.const (Value.int IntKind.i64 0)), none, 0⟩])
 (.block 0
 (.loop
 (.seq
 (.ops [⟨some 16, .binOp BinOp.lss 3 (Operand.tmp 15) (Operand.tmp 14) 3, none, 0⟩])
 (.seq
 (.cond (Operand.tmp 16)
 .skip
 (.exit 0))
 (.seq
 (.block 1
 (.seq
 (.ops [⟨some 17, .indexAddr 22 (Operand.tmp 13) (Operand.tmp 15), none, 0⟩,
 ⟨some 18, .load 46 (Operand.tmp 17), none, 0⟩,
 ⟨some 4, .alloc 46, none, 0⟩,
 ⟨none, .store 46 (Operand.tmp 4) (Operand.tmp 18), none, 0⟩])
 (.seq
 (.ops [⟨some 19, .fieldAddr 46 (Operand.tmp 4) 0, none, 0⟩,
 ⟨some 20, .load 29 (Operand.tmp 19), none, 0⟩,
 ⟨some 21, .fieldAddr 46 (Operand.tmp 4) 1, none, 0⟩,
 ⟨some 22, .load 29 (Operand.tmp 21), none, 0⟩,
 ⟨some 23, .buildSlice 49 2 [(0, (Operand.tmp 20)), (1, (Operand.tmp 22))].toArray, none, 0⟩,
 ⟨some 24, .call ⟨(Callee.builtin Builtin.len), [(Operand.tmp 23)].toArray, #[49]⟩, none, 0⟩,
 ⟨some 25, .move (Operand.const (Value.int IntKind.i64 0)), none, 0⟩])
 (.block 2
 (.loop
 (.seq
 (.ops [⟨some 26, .binOp BinOp.lss 3 (Operand.tmp 25) (Operand.tmp 24) 3, none, 0⟩])
 (.seq
 (.cond (Operand.tmp 26)
 .skip
 (.exit 2))
 (.seq
 (.block 3
 (.seq
 (.ops [⟨some 27, .indexAddr 49 (Operand.tmp 23) (Operand.tmp 25), none, 0⟩,
 ⟨some 28, .load 29 (Operand.tmp 27), none, 0⟩,
 ⟨some 6, .assign (Operand.tmp 28), none, 0⟩])
 (.seq
 (.ops [⟨some 29, .move (Operand.tmp 6), none, 0⟩,
 ⟨some 30, .call ⟨(Callee.value (Operand.func 49)), [(Operand.tmp 29)].toArray, #[29]⟩, none, 0⟩,
 ⟨some 7, .assign (Operand.tmp 30), none, 0⟩])
 (.seq
 (.ops [⟨some 31, .move (Operand.tmp 7), none, 0⟩,
 ⟨some 32, .binOp BinOp.neq 25 (Operand.tmp 31) (Operand.const (Value.int IntKind.i64 0)) 25, none, 0⟩])
 (.cond (Operand.tmp 32)
 (.seq
 (.ops [⟨some 33, .move (Operand.tmp 7), none, 0⟩,
 ⟨some 2, .assign (Operand.tmp 33), none, 0⟩])
 .ret)
 .skip)))))
 (.ops [⟨some 34, .binOp BinOp.add 3 (Operand.tmp 25) (Operand.const (Value.int IntKind.i64 1)) 3, none, 0⟩,
 ⟨some 25, .move (Operand.tmp 34), none, 0⟩])))))))))
 (.ops [⟨some 35, .binOp BinOp.add 3 (Operand.tmp 15) (Operand.const (Value.int IntKind.i64 1)) 3, none, 0⟩,
 ⟨some 15, .move (Operand.tmp 35), none, 0⟩])))))))
 (.seq
 (.seq
 (.ops [⟨some 36, .move (Operand.tmp 0), none, 0⟩,
 ⟨some 37, .call ⟨(Callee.builtin Builtin.len), [(Operand.tmp 36)].toArray, #[22]⟩, none, 0⟩,
 ⟨some 38, .move (Operand.const (Value.int IntKind.i64 0)), none, 0⟩])
 (.block 4
 (.loop
 (.seq
 (.ops [⟨some 39, .binOp BinOp.lss 3 (Operand.tmp 38) (Operand.tmp 37) 3, none, 0⟩])
 (.seq
 (.cond (Operand.tmp 39)
 .skip
 (.exit 4))
 (.seq
 (.block 5
 (.seq
 (.ops [⟨some 40, .move (Operand.tmp 38), none, 0⟩,
 ⟨some 41, .indexAddr 22 (Operand.tmp 36) (Operand.tmp 38), none, 0⟩,
 ⟨some 42, .load 46 (Operand.tmp 41), none, 0⟩,
 ⟨some 9, .alloc 46, none, 0⟩,
 ⟨some 8, .assign (Operand.tmp 40), none, 0⟩,
 ⟨none, .store 46 (Operand.tmp 9) (Operand.tmp 42), none, 0⟩])
 (.seq
 (.draw [⟨some 43, .fieldAddr 46 (Operand.tmp 9) 0, none, 0⟩,
 ⟨some 44, .load 29 (Operand.tmp 43), none, 0⟩,
 ⟨some 45, .call ⟨(Callee.builtin Builtin.len), [(Operand.tmp 44)].toArray, #[29]⟩, none, 0⟩,
 ⟨some 46, .binOp BinOp.eql 3 (Operand.tmp 45) (Operand.const (Value.int IntKind.i64 0)) 3, none, 0⟩,
 ⟨some 47, .move (Operand.tmp 46), none, 0⟩,
 ⟨some 48, .move (Operand.tmp 8), some (47, false), 0⟩,
 ⟨some 49, .binOp BinOp.gtr 3 (Operand.tmp 48) (Operand.const (Value.int IntKind.i64 0)) 3, some (47, false), 0⟩,
 ⟨some 50, .move (Operand.tmp 49), some (47, false), 0⟩,
 ⟨some 51, .move (Operand.tmp 0), some (50, true), 0⟩,
 ⟨some 52, .move (Operand.tmp 8), some (50, true), 0⟩,
 ⟨some 53, .binOp BinOp.sub 3 (Operand.tmp 52) (Operand.const (Value.int IntKind.i64 1)) 3, some (50, true), 0⟩,
 ⟨some 54, .indexAddr 22 (Operand.tmp 51) (Operand.tmp 53), some (50, true), 0⟩,
 ⟨some 55, .fieldAddr 46 (Operand.tmp 54) 0, some (50, true), 0⟩,
 ⟨some 56, .load 29 (Operand.tmp 55), some (50, true), 0⟩,
 ⟨some 57, .fieldAddr 46 (Operand.tmp 9) 0, some (50, true), 0⟩,
 ⟨some 58, .load 29 (Operand.tmp 57), some (50, true), 0⟩,
 ⟨some 59, .call ⟨(Callee.value (Operand.func 43)), [(Operand.tmp 56), (Operand.tmp 58)].toArray, #[29, 29]⟩, some (50, true), 0⟩,
 ⟨some 60, .binOp BinOp.geq 3 (Operand.tmp 59) (Operand.const (Value.int IntKind.i64 0)) 3, some (50, true), 0⟩,
 ⟨some 61, .pick (Operand.tmp 50) (Operand.tmp 60) (Operand.const (Value.bool false)), some (47, false), 0⟩,
 ⟨some 62, .pick (Operand.tmp 47) (Operand.const (Value.bool true)) (Operand.tmp 61), none, 0⟩] true [16, 17, 18, 19] [0, 1, 2, 3, 4, 5, 6, 7, 8, 9, 10, 11, 12, 13, 14, 15, 16, 17, 18, 19])
 (.cond (Operand.tmp 62)
 (.seq
 (.ops [⟨some 2, .assign (Operand.const (Value.int IntKind.i64 1)), none, 0⟩])
 .ret)
 .skip))))
 (.ops [⟨some 63, .binOp BinOp.add 3 (Operand.tmp 38) (Operand.const (Value.int IntKind.i64 1)) 3, none, 0⟩,
 ⟨some 38, .move (Operand.tmp 63), none, 0⟩])))))))
 (.seq
 (.ops [⟨some 2, .assign (Operand.const (Value.int IntKind.i64 0)), none, 0⟩])
 .ret)))))
abbrev R20 : List ResultVar := [ResultVar.tmp 2]
theorem ok20 : FnOK Tryd.prog 20 L20 R20 1 := ⟨_, _, Tryd.func20, rfl, by kernel_rfl, by kernel_rfl, by kernel_rfl, by kernel_rfl, Nat.le_of_ble_eq_true (by kernel_rfl), by kernel_rfl⟩

/-- ablaut/script.asked -/
def L21 : LCode :=
 (.seq
 (.ops [⟨some 2, .assign (Operand.const (Value.int IntKind.i64 0)), none, 0⟩])
 (.seq
 (.block 0
 (.seq
 (.ops [⟨some 4, .move (Operand.tmp 0), none, 0⟩,
 ⟨some 5, .call ⟨(Callee.value (Operand.func 50)), [(Operand.tmp 4)].toArray, #[22]⟩, none, 0⟩,
 ⟨some 6, .unOp UnOp.not 4 (Operand.tmp 5), none, 0⟩,
 ⟨some 3, .assign (Operand.tmp 6), none, 0⟩])
 (.cond (Operand.tmp 3)
 (.seq
 (.ops [⟨some 2, .assign (Operand.const (Value.int IntKind.i64 7)), none, 0⟩])
 .ret)
 (.seq
 (.ops [⟨some 8, .move (Operand.tmp 0), none, 0⟩,
 ⟨some 9, .call ⟨(Callee.value (Operand.func 38)), [(Operand.tmp 8), (Operand.func 51)].toArray, #[22, 71]⟩, none, 0⟩,
 ⟨some 7, .assign (Operand.tmp 9), none, 0⟩])
 (.cond (Operand.tmp 7)
 (.seq
 (.ops [⟨some 2, .assign (Operand.const (Value.int IntKind.i64 3)), none, 0⟩])
 .ret)
 .skip)))))
 (.seq
 (.ops [⟨some 2, .assign (Operand.const (Value.int IntKind.i64 0)), none, 0⟩])
 .ret)))
abbrev R21 : List ResultVar := [ResultVar.tmp 2]
theorem ok21 : FnOK Tryd.prog 21 L21 R21 1 := ⟨_, _, Tryd.func21, rfl, by kernel_rfl, by kernel_rfl, by kernel_rfl, by kernel_rfl, Nat.le_of_ble_eq_true (by kernel_rfl), by kernel_rfl⟩

/-- ablaut/script.shifted -/
def L22 : LCode :=
 (.seq
 (.ops [⟨some 4, .assign (Operand.const (Value.slice none 0 0)), none, 0⟩,
 ⟨some 5, .assign (Operand.const (Value.bool false)), none, 0⟩])
 (.seq
 (.ops [⟨some 6, .assign (Operand.const (Value.slice none 0 0)), none, 0⟩])
 (.seq
 (.ops [⟨some 7, .assign (Operand.const (Value.bool true)), none, 0⟩])
 (.seq
 (.block 0
 (.loop
 (.seq
 (.seq
 (.ops [⟨some 11, .move (Operand.tmp 1), none, 0⟩,
 ⟨some 12, .call ⟨(Callee.builtin Builtin.len), [(Operand.tmp 11)].toArray, #[29]⟩, none, 0⟩,
 ⟨some 13, .binOp BinOp.gtr 3 (Operand.tmp 12) (Operand.const (Value.int IntKind.i64 0)) 3, none, 0⟩])
 (.cond (Operand.tmp 13)
 .skip
 (.exit 0)))
 (.block 1
 (.seq
 (.ops [⟨some 15, .move (Operand.tmp 0), none, 0⟩,
 ⟨some 16, .move (Operand.tmp 1), none, 0⟩,
 ⟨some 17, .call ⟨(Callee.value (Operand.func 52)), [(Operand.tmp 15), (Operand.tmp 16)].toArray, #[22, 29]⟩, none, 0⟩,
 ⟨some 14, .move (Operand.tmp 17), none, 0⟩,
 ⟨some 18, .extract (Operand.tmp 14) 0, none, 0⟩,
 ⟨some 19, .extract (Operand.tmp 14) 1, none, 0⟩,
 ⟨some 20, .extract (Operand.tmp 14) 2, none, 0⟩,
 ⟨some 8, .assign (Operand.tmp 18), none, 0⟩,
 ⟨some 9, .assign (Operand.tmp 19), none, 0⟩,
 ⟨some 10, .assign (Operand.tmp 20), none, 0⟩])
 (.seq
 (.ops [⟨some 21, .move (Operand.tmp 6), none, 0⟩,
 ⟨some 22, .move (Operand.tmp 8), none, 0⟩,
 ⟨some 23, .call ⟨(Callee.builtin Builtin.append), [(Operand.tmp 21), (Operand.tmp 22)].toArray, #[29, 29]⟩, none, 0⟩,
 ⟨some 6, .assign (Operand.tmp 23), none, 0⟩])
 (.seq
 (.ops [⟨some 24, .move (Operand.tmp 7), none, 0⟩,
 ⟨some 25, .move (Operand.tmp 24), none, 0⟩,
 ⟨some 26, .move (Operand.tmp 10), some (25, true), 0⟩,
 ⟨some 27, .binOp BinOp.geq 3 (Operand.tmp 26) (Operand.const (Value.int IntKind.i64 0)) 3, some (25, true), 0⟩,
 ⟨some 28, .pick (Operand.tmp 25) (Operand.tmp 27) (Operand.const (Value.bool false)), none, 0⟩,
 ⟨some 7, .assign (Operand.tmp 28), none, 0⟩])
 (.ops [⟨some 29, .move (Operand.tmp 1), none, 0⟩,
 ⟨some 30, .move (Operand.tmp 9), none, 0⟩,
 ⟨some 31, .slice 29 (Operand.tmp 29) (some (Operand.tmp 30)) none none, none, 0⟩,
 ⟨some 1, .assign (Operand.tmp 31), none, 0⟩]))))))))
 (.seq
 (.ops [⟨some 32, .move (Operand.tmp 6), none, 0⟩,
 ⟨some 33, .move (Operand.tmp 7), none, 0⟩,
 ⟨some 4, .assign (Operand.tmp 32), none, 0⟩,
 ⟨some 5, .assign (Operand.tmp 33), none, 0⟩])
 .ret)))))
abbrev R22 : List ResultVar := [ResultVar.tmp 4, ResultVar.tmp 5]
theorem ok22 : FnOK Tryd.prog 22 L22 R22 2 := ⟨_, _, Tryd.func22, rfl, by kernel_rfl, by kernel_rfl, by kernel_rfl, by kernel_rfl, Nat.le_of_ble_eq_true (by kernel_rfl), by kernel_rfl⟩

/-- slices.Clone[[]string,string] -/
def L23 : LCode :=
 (.seq
 (.ops [⟨some 2, .assign (Operand.const (Value.slice none 0 0)), none, 0⟩])
 (.seq
 (.seq
 (.ops [⟨some 3, .move (Operand.tmp 0), none, 0⟩,
 ⟨some 4, .binOp BinOp.eql 29 (Operand.tmp 3) (Operand.const (Value.slice none 0 0)) 29, none, 0⟩])
 (.cond (Operand.tmp 4)
 (.seq
 (.ops [⟨some 2, .assign (Operand.const (Value.slice none 0 0)), none, 0⟩])
 .ret)
 .skip))
 (.seq
 (.ops [⟨some 5, .buildSlice 29 0 [].toArray, none, 0⟩,
 ⟨some 6, .move (Operand.tmp 0), none, 0⟩,
 ⟨some 7, .call ⟨(Callee.builtin Builtin.append), [(Operand.tmp 5), (Operand.tmp 6)].toArray, #[29, 29]⟩, none, 0⟩,
 ⟨some 2, .assign (Operand.tmp 7), none, 0⟩])
 .ret)))
abbrev R23 : List ResultVar := [ResultVar.tmp 2]
theorem ok23 : FnOK Tryd.prog 23 L23 R23 1 := ⟨_, _, Tryd.func23, rfl, by kernel_rfl, by kernel_rfl, by kernel_rfl, by kernel_rfl, Nat.le_of_ble_eq_true (by kernel_rfl), by kernel_rfl⟩
end Go.Proofs.YtldlcejlfaogbaaDoor.Vs
