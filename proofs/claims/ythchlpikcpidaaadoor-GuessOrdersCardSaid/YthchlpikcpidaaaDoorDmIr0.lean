/- The seat's functions as the engine Dm reads them, written by dgen.py. -/
import Derived.Test.YthchlpikcpidaaaDoorDmFn
import Derived.Test.YthchlpikcpidaaaDoorProg
import Derived.KernelRfl
namespace Go.Proofs.YthchlpikcpidaaaDoor.Vs
set_option linter.unusedVariables false
set_option maxRecDepth 100000
/-- gosem.cut.init -/
def L2 : LCode :=
 (.ops [⟨some 0, .call ⟨(Callee.value (Operand.func 1)), [].toArray, #[]⟩, none, 0⟩])
abbrev R2 : List ResultVar := []
theorem ok2 : FnOK Tryd.prog 2 L2 R2 0 := ⟨_, _, Tryd.func2, rfl, by kernel_rfl, by kernel_rfl, by kernel_rfl, by kernel_rfl, Nat.le_of_ble_eq_true (by kernel_rfl), by kernel_rfl⟩

/-- ablaut/ablautlaw18.GuessOrders -/
def L3 : LCode :=
 (.seq
 (.ops [⟨some 3, .box 25 (Operand.tmp 1), none, 0⟩,
 ⟨some 4, .assign (Operand.const (Value.bool false)), none, 0⟩])
 (.seq
 (.seq
 (.ops [⟨some 11, .move (Operand.tmp 0), none, 0⟩,
 ⟨some 12, .call ⟨(Callee.value (Operand.func 4)), [(Operand.tmp 11)].toArray, #[22]⟩, none, 0⟩,
 ⟨some 13, .move (Operand.tmp 12), none, 0⟩,
 ⟨some 14, .load 25 (Operand.tmp 3), some (13, false), 0⟩,
 ⟨some 15, .buildSlice 22 1 [(0, (Operand.tmp 14))].toArray, some (13, false), 0⟩,
 ⟨some 16, .call ⟨(Callee.value (Operand.func 4)), [(Operand.tmp 15)].toArray, #[22]⟩, some (13, false), 0⟩,
 ⟨some 17, .pick (Operand.tmp 13) (Operand.const (Value.bool true)) (Operand.tmp 16), none, 0⟩])
 (.cond (Operand.tmp 17)
 (.seq
 (.ops [⟨some 18, .call ⟨(Callee.value (Operand.func 5)), [].toArray, #[]⟩, none, 0⟩,
 ⟨some 4, .assign (Operand.tmp 18), none, 0⟩])
 .ret)
 .skip))
 (.seq
 (.ops [⟨some 20, .move (Operand.tmp 0), none, 0⟩,
 ⟨some 21, .call ⟨(Callee.value (Operand.func 6)), [(Operand.tmp 20)].toArray, #[22]⟩, none, 0⟩,
 ⟨some 19, .move (Operand.tmp 21), none, 0⟩,
 ⟨some 22, .extract (Operand.tmp 19) 0, none, 0⟩,
 ⟨some 23, .extract (Operand.tmp 19) 1, none, 0⟩,
 ⟨some 5, .assign (Operand.tmp 22), none, 0⟩,
 ⟨some 6, .assign (Operand.tmp 23), none, 0⟩])
 (.seq
 (.seq
 (.ops [⟨some 24, .move (Operand.tmp 6), none, 0⟩,
 ⟨some 25, .binOp BinOp.neq 29 (Operand.tmp 24) (Operand.const (Value.int IntKind.i64 0)) 29, none, 0⟩])
 (.cond (Operand.tmp 25)
 (.seq
 (.ops [⟨some 26, .move (Operand.tmp 5), none, 0⟩,
 ⟨some 27, .binOp BinOp.eql 28 (Operand.tmp 26) (Operand.const (Value.pointer none)) 28, none, 0⟩,
 ⟨some 28, .move (Operand.tmp 27), none, 0⟩,
 ⟨some 29, .call ⟨(Callee.value (Operand.func 5)), [].toArray, #[]⟩, some (28, true), 0⟩,
 ⟨some 30, .pick (Operand.tmp 28) (Operand.tmp 29) (Operand.const (Value.bool false)), none, 0⟩,
 ⟨some 4, .assign (Operand.tmp 30), none, 0⟩])
 .ret)
 .skip))
 (.seq
 (.ops [⟨some 32, .call ⟨(Callee.value (Operand.func 6)), [(Operand.const (Value.slice none 0 0))].toArray, #[22]⟩, none, 0⟩,
 ⟨some 31, .move (Operand.tmp 32), none, 0⟩,
 ⟨some 33, .extract (Operand.tmp 31) 0, none, 0⟩,
 ⟨some 34, .extract (Operand.tmp 31) 1, none, 0⟩,
 ⟨some 7, .assign (Operand.tmp 33), none, 0⟩,
 ⟨some 8, .assign (Operand.tmp 34), none, 0⟩])
 (.seq
 (.seq
 (.ops [⟨some 35, .move (Operand.tmp 8), none, 0⟩,
 ⟨some 36, .binOp BinOp.neq 29 (Operand.tmp 35) (Operand.const (Value.int IntKind.i64 0)) 29, none, 0⟩])
 (.cond (Operand.tmp 36)
 (.seq
 (.ops [⟨some 4, .assign (Operand.const (Value.bool false)), none, 0⟩])
 .ret)
 .skip))
 (.seq
 (.seq
 (.ops [⟨some 37, .move (Operand.tmp 0), none, 0⟩,
 ⟨some 38, .call ⟨(Callee.builtin Builtin.len), [(Operand.tmp 37)].toArray, #[22]⟩, none, 0⟩,
 ⟨some 39, .binOp BinOp.sub 3 (Operand.tmp 38) (Operand.const (Value.int IntKind.i64 1)) 3, none, 0⟩,
 ⟨some 9, .assign (Operand.tmp 39), none, 0⟩])
 (.block 0
 (.loop
 (.seq
 (.seq
 (.ops [⟨some 40, .move (Operand.tmp 9), none, 0⟩,
 ⟨some 41, .binOp BinOp.geq 3 (Operand.tmp 40) (Operand.const (Value.int IntKind.i64 0)) 3, none, 0⟩])
 (.cond (Operand.tmp 41)
 .skip
 (.exit 0)))
 (.seq
 (.block 1
 (.seq
 (.ops [⟨some 44, .move (Operand.tmp 7), none, 0⟩,
 ⟨some 45, .move (Operand.tmp 0), none, 0⟩,
 ⟨some 46, .move (Operand.tmp 9), none, 0⟩,
 ⟨some 47, .indexAddr 22 (Operand.tmp 45) (Operand.tmp 46), none, 0⟩,
 ⟨some 48, .load 25 (Operand.tmp 47), none, 0⟩,
 ⟨some 49, .call ⟨(Callee.value (Operand.func 7)), [(Operand.tmp 44), (Operand.tmp 48)].toArray, #[28, 25]⟩, none, 0⟩,
 ⟨some 50, .binOp BinOp.neq 29 (Operand.tmp 49) (Operand.const (Value.int IntKind.i64 0)) 29, none, 0⟩])
 (.cond (Operand.tmp 50)
 (.seq
 (.ops [⟨some 4, .assign (Operand.const (Value.bool false)), none, 0⟩])
 .ret)
 .skip)))
 (.ops [⟨some 42, .move (Operand.tmp 9), none, 0⟩,
 ⟨some 43, .binOp BinOp.sub 3 (Operand.tmp 42) (Operand.const (Value.int IntKind.i64 1)) 3, none, 0⟩,
 ⟨some 9, .assign (Operand.tmp 43), none, 0⟩]))))))
 (.seq
 (.seq
 (.ops [⟨some 51, .move (Operand.tmp 5), none, 0⟩,
 ⟨some 52, .call ⟨(Callee.value (Operand.func 9)), [(Operand.tmp 51)].toArray, #[28]⟩, none, 0⟩,
 ⟨some 53, .move (Operand.tmp 7), none, 0⟩,
 ⟨some 54, .call ⟨(Callee.value (Operand.func 9)), [(Operand.tmp 53)].toArray, #[28]⟩, none, 0⟩,
 ⟨some 55, .call ⟨(Callee.value (Operand.func 8)), [(Operand.tmp 52), (Operand.tmp 54)].toArray, #[22, 22]⟩, none, 0⟩,
 ⟨some 56, .unOp UnOp.not 4 (Operand.tmp 55), none, 0⟩])
 (.cond (Operand.tmp 56)
 (.seq
 (.ops [⟨some 4, .assign (Operand.const (Value.bool false)), none, 0⟩])
 .ret)
 .skip))
 (.seq
 (.ops [⟨some 57, .move (Operand.tmp 5), none, 0⟩,
 ⟨some 58, .call ⟨(Callee.value (Operand.func 9)), [(Operand.tmp 57)].toArray, #[28]⟩, none, 0⟩,
 ⟨some 10, .assign (Operand.tmp 58), none, 0⟩])
 (.seq
 (.seq
 (.ops [⟨some 59, .move (Operand.tmp 5), none, 0⟩,
 ⟨some 60, .load 25 (Operand.tmp 3), none, 0⟩,
 ⟨some 61, .call ⟨(Callee.value (Operand.func 7)), [(Operand.tmp 59), (Operand.tmp 60)].toArray, #[28, 25]⟩, none, 0⟩,
 ⟨some 62, .binOp BinOp.eql 29 (Operand.tmp 61) (Operand.const (Value.int IntKind.i64 0)) 29, none, 0⟩,
 ⟨some 63, .move (Operand.tmp 62), none, 0⟩,
 ⟨some 64, .move (Operand.tmp 5), some (63, true), 0⟩,
 ⟨some 65, .load 25 (Operand.tmp 3), some (63, true), 0⟩,
 ⟨some 66, .call ⟨(Callee.value (Operand.func 10)), [(Operand.tmp 64), (Operand.tmp 65)].toArray, #[28, 25]⟩, some (63, true), 0⟩,
 ⟨some 67, .binOp BinOp.neq 29 (Operand.tmp 66) (Operand.const (Value.int IntKind.i64 0)) 29, some (63, true), 0⟩,
 ⟨some 68, .pick (Operand.tmp 63) (Operand.tmp 67) (Operand.const (Value.bool false)), none, 0⟩])
 (.cond (Operand.tmp 68)
 (.seq
 (.ops [⟨some 4, .assign (Operand.const (Value.bool false)), none, 0⟩])
 .ret)
 .skip))
 (.seq
 (.ops [⟨some 69, .move (Operand.tmp 5), none, 0⟩,
 ⟨some 70, .call ⟨(Callee.value (Operand.func 9)), [(Operand.tmp 69)].toArray, #[28]⟩, none, 0⟩,
 ⟨some 71, .move (Operand.tmp 10), none, 0⟩,
 ⟨some 72, .call ⟨(Callee.value (Operand.func 8)), [(Operand.tmp 70), (Operand.tmp 71)].toArray, #[22, 22]⟩, none, 0⟩,
 ⟨some 73, .move (Operand.tmp 72), none, 0⟩,
 ⟨some 74, .call ⟨(Callee.value (Operand.func 5)), [].toArray, #[]⟩, some (73, true), 0⟩,
 ⟨some 75, .pick (Operand.tmp 73) (Operand.tmp 74) (Operand.const (Value.bool false)), none, 0⟩,
 ⟨some 4, .assign (Operand.tmp 75), none, 0⟩])
 .ret)))))))))))
abbrev R3 : List ResultVar := [ResultVar.tmp 4]
theorem ok3 : FnOK Tryd.prog 3 L3 R3 2 := ⟨_, _, Tryd.func3, rfl, by kernel_rfl, by kernel_rfl, by kernel_rfl, by kernel_rfl, Nat.le_of_ble_eq_true (by kernel_rfl), by kernel_rfl⟩

/-- ablaut/ablautlaw18.over -/
def L4 : LCode :=
 (.seq
 (.ops [⟨some 2, .assign (Operand.const (Value.bool false)), none, 0⟩])
 (.seq
 (.seq
 (.ops [⟨some 5, .move (Operand.tmp 0), none, 0⟩,
 ⟨some 6, .call ⟨(Callee.builtin Builtin.len), [(Operand.tmp 5)].toArray, #[22]⟩, none, 0⟩,
 ⟨some 7, .binOp BinOp.gtr 3 (Operand.tmp 6) (Operand.const (Value.int IntKind.i64 4000)) 3, none, 0⟩])
 (.cond (Operand.tmp 7)
 (.seq
 (.ops [⟨some 2, .assign (Operand.const (Value.bool true)), none, 0⟩])
 .ret)
 .skip))
 (.seq
 (.ops [⟨some 3, .assign (Operand.const (Value.int IntKind.i64 0)), none, 0⟩])
 (.seq
 (.seq
 (.ops [⟨some 4, .assign (Operand.const (Value.int IntKind.i64 0)), none, 0⟩])
 (.block 0
 (.loop
 (.seq
 (.seq
 (.ops [⟨some 8, .move (Operand.tmp 4), none, 0⟩,
 ⟨some 9, .move (Operand.tmp 0), none, 0⟩,
 ⟨some 10, .call ⟨(Callee.builtin Builtin.len), [(Operand.tmp 9)].toArray, #[22]⟩, none, 0⟩,
 ⟨some 11, .binOp BinOp.lss 3 (Operand.tmp 8) (Operand.tmp 10) 3, none, 0⟩,
 ⟨some 12, .move (Operand.tmp 11), none, 0⟩,
 ⟨some 13, .move (Operand.tmp 3), some (12, true), 0⟩,
 ⟨some 14, .binOp BinOp.lss 3 (Operand.tmp 13) (Operand.const (Value.int IntKind.i64 16384)) 3, some (12, true), 0⟩,
 ⟨some 15, .pick (Operand.tmp 12) (Operand.tmp 14) (Operand.const (Value.bool false)), none, 0⟩])
 (.cond (Operand.tmp 15)
 .skip
 (.exit 0)))
 (.seq
 (.block 1
 (.seq
 (.seq
 (.ops [⟨some 18, .move (Operand.tmp 0), none, 0⟩,
 ⟨some 19, .move (Operand.tmp 4), none, 0⟩,
 ⟨some 20, .indexAddr 22 (Operand.tmp 18) (Operand.tmp 19), none, 0⟩,
 ⟨some 21, .fieldAddr 25 (Operand.tmp 20) 0, none, 0⟩,
 ⟨some 22, .load 23 (Operand.tmp 21), none, 0⟩,
 ⟨some 23, .buildSlice 55 1 [(0, (Operand.tmp 22))].toArray, none, 0⟩,
 ⟨some 24, .call ⟨(Callee.value (Operand.func 11)), [(Operand.tmp 23)].toArray, #[55]⟩, none, 0⟩])
 (.cond (Operand.tmp 24)
 (.seq
 (.ops [⟨some 2, .assign (Operand.const (Value.bool true)), none, 0⟩])
 .ret)
 .skip))
 (.draw [⟨some 25, .move (Operand.tmp 3), none, 0⟩,
 ⟨some 26, .move (Operand.tmp 0), none, 0⟩,
 ⟨some 27, .move (Operand.tmp 4), none, 0⟩,
 ⟨some 28, .indexAddr 22 (Operand.tmp 26) (Operand.tmp 27), none, 0⟩,
 ⟨some 29, .fieldAddr 25 (Operand.tmp 28) 0, none, 0⟩,
 ⟨some 30, .load 23 (Operand.tmp 29), none, 0⟩,
 ⟨some 31, .call ⟨(Callee.builtin Builtin.len), [(Operand.tmp 30)].toArray, #[23]⟩, none, 0⟩,
 ⟨some 32, .move (Operand.tmp 0), none, 0⟩,
 ⟨some 33, .move (Operand.tmp 4), none, 0⟩,
 ⟨some 34, .indexAddr 22 (Operand.tmp 32) (Operand.tmp 33), none, 0⟩,
 ⟨some 35, .fieldAddr 25 (Operand.tmp 34) 1, none, 0⟩,
 ⟨some 36, .load 9 (Operand.tmp 35), none, 0⟩,
 ⟨some 37, .call ⟨(Callee.builtin Builtin.len), [(Operand.tmp 36)].toArray, #[9]⟩, none, 0⟩,
 ⟨some 38, .binOp BinOp.add 3 (Operand.tmp 31) (Operand.tmp 37) 3, none, 0⟩,
 ⟨some 39, .binOp BinOp.add 3 (Operand.tmp 25) (Operand.tmp 38) 3, none, 0⟩,
 ⟨some 3, .assign (Operand.tmp 39), none, 0⟩] true [14, 15] [0, 1, 2, 3, 4, 7, 8, 9, 10, 5, 6, 11, 12, 13, 14, 15])))
 (.ops [⟨some 16, .move (Operand.tmp 4), none, 0⟩,
 ⟨some 17, .binOp BinOp.add 3 (Operand.tmp 16) (Operand.const (Value.int IntKind.i64 1)) 3, none, 0⟩,
 ⟨some 4, .assign (Operand.tmp 17), none, 0⟩]))))))
 (.seq
 (.ops [⟨some 40, .move (Operand.tmp 3), none, 0⟩,
 ⟨some 41, .binOp BinOp.geq 3 (Operand.tmp 40) (Operand.const (Value.int IntKind.i64 16384)) 3, none, 0⟩,
 ⟨some 2, .assign (Operand.tmp 41), none, 0⟩])
 .ret)))))
abbrev R4 : List ResultVar := [ResultVar.tmp 2]
theorem ok4 : FnOK Tryd.prog 4 L4 R4 1 := ⟨_, _, Tryd.func4, rfl, by kernel_rfl, by kernel_rfl, by kernel_rfl, by kernel_rfl, Nat.le_of_ble_eq_true (by kernel_rfl), by kernel_rfl⟩

/-- ablaut/ablautlaw18.known -/
def L5 : LCode :=
 (.seq
 (.ops [⟨some 0, .assign (Operand.const (Value.bool false)), none, 0⟩])
 (.seq
 (.ops [⟨some 7, .buildSlice 23 1 [(0, (Operand.const (Value.string ⟨#[97]⟩)))].toArray, none, 0⟩,
 ⟨some 8, .build 25 [(0, (Operand.tmp 7)), (1, (Operand.const (Value.string ⟨#[78]⟩))), (2, (Operand.const (Value.int IntKind.i64 1)))].toArray, none, 0⟩,
 ⟨some 9, .buildSlice 23 1 [(0, (Operand.const (Value.string ⟨#[98]⟩)))].toArray, none, 0⟩,
 ⟨some 10, .build 25 [(0, (Operand.tmp 9)), (1, (Operand.const (Value.string ⟨#[86]⟩))), (2, (Operand.const (Value.int IntKind.i64 1)))].toArray, none, 0⟩,
 ⟨some 11, .buildSlice 22 2 [(0, (Operand.tmp 8)), (1, (Operand.tmp 10))].toArray, none, 0⟩,
 ⟨some 12, .call ⟨(Callee.value (Operand.func 6)), [(Operand.tmp 11)].toArray, #[22]⟩, none, 0⟩,
 ⟨some 6, .move (Operand.tmp 12), none, 0⟩,
 ⟨some 13, .extract (Operand.tmp 6) 0, none, 0⟩,
 ⟨some 14, .extract (Operand.tmp 6) 1, none, 0⟩,
 ⟨some 1, .assign (Operand.tmp 13), none, 0⟩,
 ⟨some 2, .assign (Operand.tmp 14), none, 0⟩])
 (.seq
 (.ops [⟨some 16, .move (Operand.tmp 1), none, 0⟩,
 ⟨some 17, .buildSlice 23 1 [(0, (Operand.const (Value.string ⟨#[97]⟩)))].toArray, none, 0⟩,
 ⟨some 18, .call ⟨(Callee.value (Operand.func 12)), [(Operand.tmp 16), (Operand.tmp 17), (Operand.const (Value.string ⟨#[78]⟩))].toArray, #[28, 23, 9]⟩, none, 0⟩,
 ⟨some 15, .move (Operand.tmp 18), none, 0⟩,
 ⟨some 19, .extract (Operand.tmp 15) 0, none, 0⟩,
 ⟨some 20, .extract (Operand.tmp 15) 1, none, 0⟩,
 ⟨some 21, .extract (Operand.tmp 15) 2, none, 0⟩,
 ⟨some 3, .assign (Operand.tmp 19), none, 0⟩,
 ⟨some 4, .assign (Operand.tmp 20), none, 0⟩,
 ⟨some 5, .assign (Operand.tmp 21), none, 0⟩])
 (.seq
 (.ops [⟨some 22, .move (Operand.tmp 2), none, 0⟩,
 ⟨some 23, .binOp BinOp.eql 29 (Operand.tmp 22) (Operand.const (Value.int IntKind.i64 0)) 29, none, 0⟩,
 ⟨some 24, .move (Operand.tmp 23), none, 0⟩,
 ⟨some 25, .move (Operand.tmp 3), some (24, true), 0⟩,
 ⟨some 26, .binOp BinOp.eql 3 (Operand.tmp 25) (Operand.const (Value.int IntKind.i64 3)) 3, some (24, true), 0⟩,
 ⟨some 27, .pick (Operand.tmp 24) (Operand.tmp 26) (Operand.const (Value.bool false)), none, 0⟩,
 ⟨some 28, .move (Operand.tmp 27), none, 0⟩,
 ⟨some 29, .move (Operand.tmp 4), some (28, true), 0⟩,
 ⟨some 30, .binOp BinOp.eql 3 (Operand.tmp 29) (Operand.const (Value.int IntKind.i64 4)) 3, some (28, true), 0⟩,
 ⟨some 31, .pick (Operand.tmp 28) (Operand.tmp 30) (Operand.const (Value.bool false)), none, 0⟩,
 ⟨some 32, .move (Operand.tmp 31), none, 0⟩,
 ⟨some 33, .move (Operand.tmp 5), some (32, true), 0⟩,
 ⟨some 34, .binOp BinOp.eql 29 (Operand.tmp 33) (Operand.const (Value.int IntKind.i64 0)) 29, some (32, true), 0⟩,
 ⟨some 35, .pick (Operand.tmp 32) (Operand.tmp 34) (Operand.const (Value.bool false)), none, 0⟩,
 ⟨some 0, .assign (Operand.tmp 35), none, 0⟩])
 .ret))))
abbrev R5 : List ResultVar := [ResultVar.tmp 0]
theorem ok5 : FnOK Tryd.prog 5 L5 R5 0 := ⟨_, _, Tryd.func5, rfl, by kernel_rfl, by kernel_rfl, by kernel_rfl, by kernel_rfl, Nat.le_of_ble_eq_true (by kernel_rfl), by kernel_rfl⟩

/-- ablaut/guess.New -/
def L6 : LCode :=
 (.seq
 (.ops [⟨some 2, .assign (Operand.const (Value.pointer none)), none, 0⟩,
 ⟨some 3, .assign (Operand.const (Value.int IntKind.i64 0)), none, 0⟩])
 (.seq
 (.seq
 (.ops [⟨some 8, .move (Operand.tmp 0), none, 0⟩,
 ⟨some 9, .call ⟨(Callee.builtin Builtin.len), [(Operand.tmp 8)].toArray, #[22]⟩, none, 0⟩,
 ⟨some 10, .binOp BinOp.gtr 3 (Operand.tmp 9) (Operand.const (Value.int IntKind.i64 200)) 3, none, 0⟩])
 (.cond (Operand.tmp 10)
 (.seq
 (.ops [⟨some 2, .assign (Operand.const (Value.pointer none)), none, 0⟩,
 ⟨some 3, .assign (Operand.const (Value.int IntKind.i64 3)), none, 0⟩])
 .ret)
 .skip))
 (.seq
 (.seq
 (.ops [⟨some 11, .move (Operand.tmp 0), none, 0⟩,
 ⟨some 12, .call ⟨(Callee.value (Operand.func 13)), [(Operand.tmp 11)].toArray, #[22]⟩, none, 0⟩,
 ⟨some 4, .assign (Operand.tmp 12), none, 0⟩])
 (.seq
 (.ops [⟨some 13, .move (Operand.tmp 4), none, 0⟩,
 ⟨some 14, .binOp BinOp.neq 29 (Operand.tmp 13) (Operand.const (Value.int IntKind.i64 0)) 29, none, 0⟩])
 (.cond (Operand.tmp 14)
 (.seq
 (.ops [⟨some 15, .move (Operand.tmp 4), none, 0⟩,
 ⟨some 2, .assign (Operand.const (Value.pointer none)), none, 0⟩,
 ⟨some 3, .assign (Operand.tmp 15), none, 0⟩])
 .ret)
 .skip)))
 (.seq
 (.ops [⟨some 16, .makeMap 40 none, none, 0⟩,
 ⟨some 17, .makeMap 41 none, none, 0⟩,
 ⟨some 18, .build 43 [(0, (Operand.tmp 16)), (1, (Operand.tmp 17))].toArray, none, 0⟩,
 ⟨some 19, .box 43 (Operand.tmp 18), none, 0⟩,
 ⟨some 5, .assign (Operand.tmp 19), none, 0⟩])
 (.seq
 (.seq
 (.ops [⟨some 20, .move (Operand.tmp 0), none, 0⟩,
 ⟨some 21, .call ⟨(Callee.builtin Builtin.len), [(Operand.tmp 20)].toArray, #[22]⟩, none, 0⟩,
 ⟨some 22, .move (Operand.const (Value.int IntKind.i64 0)), none, 0⟩])
 (.block 0
 (.loop
 (.seq
 (.ops [⟨some 23, .binOp BinOp.lss 3 (Operand.tmp 22) (Operand.tmp 21) 3, none, 0⟩])
 (.seq
 (.cond (Operand.tmp 23)
 .skip
 (.exit 0))
 (.seq
 (.block 1
 (.seq
 (.ops [⟨some 24, .indexAddr 22 (Operand.tmp 20) (Operand.tmp 22), none, 0⟩,
 ⟨some 25, .load 25 (Operand.tmp 24), none, 0⟩,
 ⟨some 7, .alloc 25, none, 0⟩,
 ⟨none, .store 25 (Operand.tmp 7) (Operand.tmp 25), none, 0⟩])
 (.ops [⟨some 26, .move (Operand.tmp 5), none, 0⟩,
 ⟨some 27, .load 25 (Operand.tmp 7), none, 0⟩,
 ⟨some 28, .fieldAddr 25 (Operand.tmp 7) 2, none, 0⟩,
 ⟨some 29, .load 3 (Operand.tmp 28), none, 0⟩,
 ⟨some 30, .call ⟨(Callee.value (Operand.func 14)), [(Operand.tmp 26), (Operand.tmp 27), (Operand.tmp 29)].toArray, #[28, 25, 3]⟩, none, 0⟩])))
 (.ops [⟨some 31, .binOp BinOp.add 3 (Operand.tmp 22) (Operand.const (Value.int IntKind.i64 1)) 3, none, 0⟩,
 ⟨some 22, .move (Operand.tmp 31), none, 0⟩])))))))
 (.seq
 (.ops [⟨some 32, .move (Operand.tmp 5), none, 0⟩,
 ⟨some 2, .assign (Operand.tmp 32), none, 0⟩,
 ⟨some 3, .assign (Operand.const (Value.int IntKind.i64 0)), none, 0⟩])
 .ret))))))
abbrev R6 : List ResultVar := [ResultVar.tmp 2, ResultVar.tmp 3]
theorem ok6 : FnOK Tryd.prog 6 L6 R6 1 := ⟨_, _, Tryd.func6, rfl, by kernel_rfl, by kernel_rfl, by kernel_rfl, by kernel_rfl, Nat.le_of_ble_eq_true (by kernel_rfl), by kernel_rfl⟩

/-- (*ablaut/guess.Guesser).Add -/
def L7 : LCode :=
 (.seq
 (.ops [⟨some 3, .box 25 (Operand.tmp 1), none, 0⟩,
 ⟨some 4, .assign (Operand.const (Value.int IntKind.i64 0)), none, 0⟩])
 (.seq
 (.seq
 (.ops [⟨some 6, .move (Operand.tmp 0), none, 0⟩,
 ⟨some 7, .binOp BinOp.eql 28 (Operand.tmp 6) (Operand.const (Value.pointer none)) 28, none, 0⟩])
 (.cond (Operand.tmp 7)
 (.seq
 (.ops [⟨some 4, .assign (Operand.const (Value.int IntKind.i64 9)), none, 0⟩])
 .ret)
 .skip))
 (.seq
 (.seq
 (.ops [⟨some 8, .load 25 (Operand.tmp 3), none, 0⟩,
 ⟨some 9, .buildSlice 22 1 [(0, (Operand.tmp 8))].toArray, none, 0⟩,
 ⟨some 10, .call ⟨(Callee.value (Operand.func 13)), [(Operand.tmp 9)].toArray, #[22]⟩, none, 0⟩,
 ⟨some 5, .assign (Operand.tmp 10), none, 0⟩])
 (.seq
 (.ops [⟨some 11, .move (Operand.tmp 5), none, 0⟩,
 ⟨some 12, .binOp BinOp.neq 29 (Operand.tmp 11) (Operand.const (Value.int IntKind.i64 0)) 29, none, 0⟩])
 (.cond (Operand.tmp 12)
 (.seq
 (.ops [⟨some 13, .move (Operand.tmp 5), none, 0⟩,
 ⟨some 4, .assign (Operand.tmp 13), none, 0⟩])
 .ret)
 .skip)))
 (.seq
 (.seq
 (.draw [⟨some 14, .move (Operand.tmp 0), none, 0⟩,
 ⟨some 15, .call ⟨(Callee.value (Operand.func 15)), [(Operand.tmp 14)].toArray, #[28]⟩, none, 0⟩,
 ⟨some 16, .fieldAddr 25 (Operand.tmp 3) 2, none, 0⟩,
 ⟨some 17, .load 3 (Operand.tmp 16), none, 0⟩,
 ⟨some 18, .binOp BinOp.add 3 (Operand.tmp 15) (Operand.tmp 17) 3, none, 0⟩,
 ⟨some 19, .binOp BinOp.gtr 3 (Operand.tmp 18) (Operand.const (Value.int IntKind.i64 1000)) 3, none, 0⟩,
 ⟨some 20, .move (Operand.tmp 19), none, 0⟩,
 ⟨some 21, .move (Operand.tmp 0), some (20, false), 0⟩,
 ⟨some 22, .nilCheck (Operand.tmp 21), some (20, false), 0⟩,
 ⟨some 23, .fieldAddr 43 (Operand.tmp 22) 0, some (20, false), 0⟩,
 ⟨some 24, .load 40 (Operand.tmp 23), some (20, false), 0⟩,
 ⟨some 25, .fieldAddr 25 (Operand.tmp 3) 0, some (20, false), 0⟩,
 ⟨some 26, .load 23 (Operand.tmp 25), some (20, false), 0⟩,
 ⟨some 27, .call ⟨(Callee.value (Operand.func 16)), [(Operand.tmp 26)].toArray, #[23]⟩, some (20, false), 0⟩,
 ⟨some 28, .fieldAddr 25 (Operand.tmp 3) 1, some (20, false), 0⟩,
 ⟨some 29, .load 9 (Operand.tmp 28), some (20, false), 0⟩,
 ⟨some 30, .build 48 [(0, (Operand.tmp 27)), (1, (Operand.tmp 29))].toArray, some (20, false), 0⟩,
 ⟨some 31, .lookup 40 (Operand.tmp 24) (Operand.tmp 30) false, some (20, false), 0⟩,
 ⟨some 32, .binOp BinOp.eql 3 (Operand.tmp 31) (Operand.const (Value.int IntKind.i64 0)) 3, some (20, false), 0⟩,
 ⟨some 33, .move (Operand.tmp 32), some (20, false), 0⟩,
 ⟨some 34, .move (Operand.tmp 0), some (33, true), 0⟩,
 ⟨some 35, .nilCheck (Operand.tmp 34), some (33, true), 0⟩,
 ⟨some 36, .fieldAddr 43 (Operand.tmp 35) 0, some (33, true), 0⟩,
 ⟨some 37, .load 40 (Operand.tmp 36), some (33, true), 0⟩,
 ⟨some 38, .call ⟨(Callee.builtin Builtin.len), [(Operand.tmp 37)].toArray, #[40]⟩, some (33, true), 0⟩,
 ⟨some 39, .binOp BinOp.geq 3 (Operand.tmp 38) (Operand.const (Value.int IntKind.i64 200)) 3, some (33, true), 0⟩,
 ⟨some 40, .pick (Operand.tmp 33) (Operand.tmp 39) (Operand.const (Value.bool false)), some (20, false), 0⟩,
 ⟨some 41, .pick (Operand.tmp 20) (Operand.const (Value.bool true)) (Operand.tmp 40), none, 0⟩] true [17, 18, 19, 20, 21, 22, 23, 24, 25, 26, 27] [])
 (.cond (Operand.tmp 41)
 (.seq
 (.ops [⟨some 4, .assign (Operand.const (Value.int IntKind.i64 3)), none, 0⟩])
 .ret)
 .skip))
 (.seq
 (.ops [⟨some 42, .move (Operand.tmp 0), none, 0⟩,
 ⟨some 43, .load 25 (Operand.tmp 3), none, 0⟩,
 ⟨some 44, .fieldAddr 25 (Operand.tmp 3) 2, none, 0⟩,
 ⟨some 45, .load 3 (Operand.tmp 44), none, 0⟩,
 ⟨some 46, .call ⟨(Callee.value (Operand.func 14)), [(Operand.tmp 42), (Operand.tmp 43), (Operand.tmp 45)].toArray, #[28, 25, 3]⟩, none, 0⟩])
 (.seq
 (.ops [⟨some 4, .assign (Operand.const (Value.int IntKind.i64 0)), none, 0⟩])
 .ret))))))
abbrev R7 : List ResultVar := [ResultVar.tmp 4]
theorem ok7 : FnOK Tryd.prog 7 L7 R7 2 := ⟨_, _, Tryd.func7, rfl, by kernel_rfl, by kernel_rfl, by kernel_rfl, by kernel_rfl, Nat.le_of_ble_eq_true (by kernel_rfl), by kernel_rfl⟩

/-- ablaut/ablautlaw18.sameSamples -/
def L8 : LCode :=
 (.seq
 (.ops [⟨some 4, .assign (Operand.const (Value.bool false)), none, 0⟩])
 (.seq
 (.seq
 (.ops [⟨some 6, .move (Operand.tmp 0), none, 0⟩,
 ⟨some 7, .call ⟨(Callee.builtin Builtin.len), [(Operand.tmp 6)].toArray, #[22]⟩, none, 0⟩,
 ⟨some 8, .move (Operand.tmp 1), none, 0⟩,
 ⟨some 9, .call ⟨(Callee.builtin Builtin.len), [(Operand.tmp 8)].toArray, #[22]⟩, none, 0⟩,
 ⟨some 10, .binOp BinOp.neq 3 (Operand.tmp 7) (Operand.tmp 9) 3, none, 0⟩])
 (.cond (Operand.tmp 10)
 (.seq
 (.ops [⟨some 4, .assign (Operand.const (Value.bool false)), none, 0⟩])
 .ret)
 .skip))
 (.seq
 (.seq
 (.ops [⟨some 5, .assign (Operand.const (Value.int IntKind.i64 0)), none, 0⟩])
 (.block 0
 (.loop
 (.seq
 (.seq
 (.ops [⟨some 11, .move (Operand.tmp 5), none, 0⟩,
 ⟨some 12, .move (Operand.tmp 0), none, 0⟩,
 ⟨some 13, .call ⟨(Callee.builtin Builtin.len), [(Operand.tmp 12)].toArray, #[22]⟩, none, 0⟩,
 ⟨some 14, .binOp BinOp.lss 3 (Operand.tmp 11) (Operand.tmp 13) 3, none, 0⟩])
 (.cond (Operand.tmp 14)
 .skip
 (.exit 0)))
 (.seq
 (.block 1
 (.seq
 (.draw [⟨some 17, .move (Operand.tmp 0), none, 0⟩,
 ⟨some 18, .move (Operand.tmp 5), none, 0⟩,
 ⟨some 19, .indexAddr 22 (Operand.tmp 17) (Operand.tmp 18), none, 0⟩,
 ⟨some 20, .fieldAddr 25 (Operand.tmp 19) 0, none, 0⟩,
 ⟨some 21, .load 23 (Operand.tmp 20), none, 0⟩,
 ⟨some 22, .move (Operand.tmp 1), none, 0⟩,
 ⟨some 23, .move (Operand.tmp 5), none, 0⟩,
 ⟨some 24, .indexAddr 22 (Operand.tmp 22) (Operand.tmp 23), none, 0⟩,
 ⟨some 25, .fieldAddr 25 (Operand.tmp 24) 0, none, 0⟩,
 ⟨some 26, .load 23 (Operand.tmp 25), none, 0⟩,
 ⟨some 27, .call ⟨(Callee.value (Operand.func 17)), [(Operand.tmp 21), (Operand.tmp 26)].toArray, #[23, 23]⟩, none, 0⟩,
 ⟨some 28, .unOp UnOp.not 4 (Operand.tmp 27), none, 0⟩,
 ⟨some 29, .move (Operand.tmp 28), none, 0⟩,
 ⟨some 30, .move (Operand.tmp 0), some (29, false), 0⟩,
 ⟨some 31, .move (Operand.tmp 5), some (29, false), 0⟩,
 ⟨some 32, .indexAddr 22 (Operand.tmp 30) (Operand.tmp 31), some (29, false), 0⟩,
 ⟨some 33, .fieldAddr 25 (Operand.tmp 32) 1, some (29, false), 0⟩,
 ⟨some 34, .load 9 (Operand.tmp 33), some (29, false), 0⟩,
 ⟨some 35, .move (Operand.tmp 1), some (29, false), 0⟩,
 ⟨some 36, .move (Operand.tmp 5), some (29, false), 0⟩,
 ⟨some 37, .indexAddr 22 (Operand.tmp 35) (Operand.tmp 36), some (29, false), 0⟩,
 ⟨some 38, .fieldAddr 25 (Operand.tmp 37) 1, some (29, false), 0⟩,
 ⟨some 39, .load 9 (Operand.tmp 38), some (29, false), 0⟩,
 ⟨some 40, .binOp BinOp.neq 9 (Operand.tmp 34) (Operand.tmp 39) 9, some (29, false), 0⟩,
 ⟨some 41, .pick (Operand.tmp 29) (Operand.const (Value.bool true)) (Operand.tmp 40), none, 0⟩,
 ⟨some 42, .move (Operand.tmp 41), none, 0⟩,
 ⟨some 43, .move (Operand.tmp 0), some (42, false), 0⟩,
 ⟨some 44, .move (Operand.tmp 5), some (42, false), 0⟩,
 ⟨some 45, .indexAddr 22 (Operand.tmp 43) (Operand.tmp 44), some (42, false), 0⟩,
 ⟨some 46, .fieldAddr 25 (Operand.tmp 45) 2, some (42, false), 0⟩,
 ⟨some 47, .load 3 (Operand.tmp 46), some (42, false), 0⟩,
 ⟨some 48, .move (Operand.tmp 1), some (42, false), 0⟩,
 ⟨some 49, .move (Operand.tmp 5), some (42, false), 0⟩,
 ⟨some 50, .indexAddr 22 (Operand.tmp 48) (Operand.tmp 49), some (42, false), 0⟩,
 ⟨some 51, .fieldAddr 25 (Operand.tmp 50) 2, some (42, false), 0⟩,
 ⟨some 52, .load 3 (Operand.tmp 51), some (42, false), 0⟩,
 ⟨some 53, .binOp BinOp.neq 3 (Operand.tmp 47) (Operand.tmp 52) 3, some (42, false), 0⟩,
 ⟨some 54, .pick (Operand.tmp 42) (Operand.const (Value.bool true)) (Operand.tmp 53), none, 0⟩] true [36, 37] [0, 1, 2, 3, 5, 6, 7, 8, 4, 9, 10, 11, 12, 13, 14, 15, 16, 17, 18, 19, 20, 21, 22, 23, 24, 25, 26, 27, 28, 29, 30, 31, 32, 33, 34, 35, 36, 37])
 (.cond (Operand.tmp 54)
 (.seq
 (.ops [⟨some 4, .assign (Operand.const (Value.bool false)), none, 0⟩])
 .ret)
 .skip)))
 (.ops [⟨some 15, .move (Operand.tmp 5), none, 0⟩,
 ⟨some 16, .binOp BinOp.add 3 (Operand.tmp 15) (Operand.const (Value.int IntKind.i64 1)) 3, none, 0⟩,
 ⟨some 5, .assign (Operand.tmp 16), none, 0⟩]))))))
 (.seq
 (.ops [⟨some 4, .assign (Operand.const (Value.bool true)), none, 0⟩])
 .ret))))
abbrev R8 : List ResultVar := [ResultVar.tmp 4]
theorem ok8 : FnOK Tryd.prog 8 L8 R8 2 := ⟨_, _, Tryd.func8, rfl, by kernel_rfl, by kernel_rfl, by kernel_rfl, by kernel_rfl, Nat.le_of_ble_eq_true (by kernel_rfl), by kernel_rfl⟩

/-- (*ablaut/guess.Guesser).All -/
def L9 : LCode :=
 (.seq
 (.ops [⟨some 2, .assign (Operand.const (Value.slice none 0 0)), none, 0⟩])
 (.seq
 (.seq
 (.ops [⟨some 6, .move (Operand.tmp 0), none, 0⟩,
 ⟨some 7, .binOp BinOp.eql 28 (Operand.tmp 6) (Operand.const (Value.pointer none)) 28, none, 0⟩])
 (.cond (Operand.tmp 7)
 (.seq
 (.ops [⟨some 2, .assign (Operand.const (Value.slice none 0 0)), none, 0⟩])
 .ret)
 .skip))
 (.seq
 (.ops [⟨some 3, .assign (Operand.const (Value.slice none 0 0)), none, 0⟩])
 (.seq
 (.seq
 (.ops [⟨some 8, .move (Operand.tmp 0), none, 0⟩,
 ⟨some 9, .nilCheck (Operand.tmp 8), none, 0⟩,
 ⟨some 10, .fieldAddr 43 (Operand.tmp 9) 0, none, 0⟩,
 ⟨some 11, .load 40 (Operand.tmp 10), none, 0⟩,
 ⟨some 12, .range 40 (Operand.tmp 11), none, 0⟩])
 (.block 0
 (.loop
 (.seq
 (.ops [⟨some 13, .next (Operand.tmp 12) false, none, 0⟩,
 ⟨some 14, .extract (Operand.tmp 13) 0, none, 0⟩])
 (.seq
 (.cond (Operand.tmp 14)
 .skip
 (.exit 0))
 (.block 1
 (.seq
 (.ops [⟨some 15, .entry (Operand.tmp 12), none, 0⟩,
 ⟨some 16, .extract (Operand.tmp 15) 0, none, 0⟩,
 ⟨some 17, .extract (Operand.tmp 15) 1, none, 0⟩,
 ⟨some 4, .alloc 48, none, 0⟩,
 ⟨none, .store 48 (Operand.tmp 4) (Operand.tmp 16), none, 0⟩,
 ⟨some 5, .assign (Operand.tmp 17), none, 0⟩])
 (.draw [⟨some 18, .move (Operand.tmp 3), none, 0⟩,
 ⟨some 19, .fieldAddr 48 (Operand.tmp 4) 0, none, 0⟩,
 ⟨some 20, .load 9 (Operand.tmp 19), none, 0⟩,
 ⟨some 21, .call ⟨(Callee.value (Operand.func 18)), [(Operand.tmp 20)].toArray, #[9]⟩, none, 0⟩,
 ⟨some 22, .fieldAddr 48 (Operand.tmp 4) 1, none, 0⟩,
 ⟨some 23, .load 9 (Operand.tmp 22), none, 0⟩,
 ⟨some 24, .move (Operand.tmp 5), none, 0⟩,
 ⟨some 25, .build 25 [(0, (Operand.tmp 21)), (1, (Operand.tmp 23)), (2, (Operand.tmp 24))].toArray, none, 0⟩,
 ⟨some 26, .buildSlice 22 1 [(0, (Operand.tmp 25))].toArray, none, 0⟩,
 ⟨some 27, .call ⟨(Callee.builtin Builtin.append), [(Operand.tmp 18), (Operand.tmp 26)].toArray, #[22, 22]⟩, none, 1⟩,
 ⟨some 3, .assign (Operand.tmp 27), none, 0⟩] true [9, 10] []))))))))
 (.seq
 (.ops [⟨some 28, .move (Operand.tmp 3), none, 0⟩,
 ⟨some 29, .call ⟨(Callee.value (Operand.func 19)), [(Operand.tmp 28), (Operand.func 20)].toArray, #[22, 54]⟩, none, 0⟩])
 (.seq
 (.ops [⟨some 30, .move (Operand.tmp 3), none, 0⟩,
 ⟨some 2, .assign (Operand.tmp 30), none, 0⟩])
 .ret))))))
abbrev R9 : List ResultVar := [ResultVar.tmp 2]
theorem ok9 : FnOK Tryd.prog 9 L9 R9 1 := ⟨_, _, Tryd.func9, rfl, by kernel_rfl, by kernel_rfl, by kernel_rfl, by kernel_rfl, Nat.le_of_ble_eq_true (by kernel_rfl), by kernel_rfl⟩

/-- (*ablaut/guess.Guesser).Drop -/
def L10 : LCode :=
 (.seq
 (.ops [⟨some 3, .box 25 (Operand.tmp 1), none, 0⟩,
 ⟨some 4, .assign (Operand.const (Value.int IntKind.i64 0)), none, 0⟩])
 (.seq
 (.seq
 (.ops [⟨some 6, .move (Operand.tmp 0), none, 0⟩,
 ⟨some 7, .binOp BinOp.eql 28 (Operand.tmp 6) (Operand.const (Value.pointer none)) 28, none, 0⟩])
 (.cond (Operand.tmp 7)
 (.seq
 (.ops [⟨some 4, .assign (Operand.const (Value.int IntKind.i64 9)), none, 0⟩])
 .ret)
 .skip))
 (.seq
 (.seq
 (.ops [⟨some 8, .load 25 (Operand.tmp 3), none, 0⟩,
 ⟨some 9, .buildSlice 22 1 [(0, (Operand.tmp 8))].toArray, none, 0⟩,
 ⟨some 10, .call ⟨(Callee.value (Operand.func 13)), [(Operand.tmp 9)].toArray, #[22]⟩, none, 0⟩,
 ⟨some 5, .assign (Operand.tmp 10), none, 0⟩])
 (.seq
 (.ops [⟨some 11, .move (Operand.tmp 5), none, 0⟩,
 ⟨some 12, .binOp BinOp.neq 29 (Operand.tmp 11) (Operand.const (Value.int IntKind.i64 0)) 29, none, 0⟩])
 (.cond (Operand.tmp 12)
 (.seq
 (.ops [⟨some 13, .move (Operand.tmp 5), none, 0⟩,
 ⟨some 4, .assign (Operand.tmp 13), none, 0⟩])
 .ret)
 .skip)))
 (.seq
 (.seq
 (.draw [⟨some 14, .move (Operand.tmp 0), none, 0⟩,
 ⟨some 15, .nilCheck (Operand.tmp 14), none, 0⟩,
 ⟨some 16, .fieldAddr 43 (Operand.tmp 15) 0, none, 0⟩,
 ⟨some 17, .load 40 (Operand.tmp 16), none, 0⟩,
 ⟨some 18, .fieldAddr 25 (Operand.tmp 3) 0, none, 0⟩,
 ⟨some 19, .load 23 (Operand.tmp 18), none, 0⟩,
 ⟨some 20, .call ⟨(Callee.value (Operand.func 16)), [(Operand.tmp 19)].toArray, #[23]⟩, none, 0⟩,
 ⟨some 21, .fieldAddr 25 (Operand.tmp 3) 1, none, 0⟩,
 ⟨some 22, .load 9 (Operand.tmp 21), none, 0⟩,
 ⟨some 23, .build 48 [(0, (Operand.tmp 20)), (1, (Operand.tmp 22))].toArray, none, 0⟩,
 ⟨some 24, .lookup 40 (Operand.tmp 17) (Operand.tmp 23) false, none, 0⟩,
 ⟨some 25, .fieldAddr 25 (Operand.tmp 3) 2, none, 0⟩,
 ⟨some 26, .load 3 (Operand.tmp 25), none, 0⟩,
 ⟨some 27, .binOp BinOp.lss 3 (Operand.tmp 24) (Operand.tmp 26) 3, none, 0⟩] true [13] [])
 (.cond (Operand.tmp 27)
 (.seq
 (.ops [⟨some 4, .assign (Operand.const (Value.int IntKind.i64 4)), none, 0⟩])
 .ret)
 .skip))
 (.seq
 (.ops [⟨some 28, .move (Operand.tmp 0), none, 0⟩,
 ⟨some 29, .load 25 (Operand.tmp 3), none, 0⟩,
 ⟨some 30, .fieldAddr 25 (Operand.tmp 3) 2, none, 0⟩,
 ⟨some 31, .load 3 (Operand.tmp 30), none, 0⟩,
 ⟨some 32, .unOp UnOp.neg 3 (Operand.tmp 31), none, 0⟩,
 ⟨some 33, .call ⟨(Callee.value (Operand.func 14)), [(Operand.tmp 28), (Operand.tmp 29), (Operand.tmp 32)].toArray, #[28, 25, 3]⟩, none, 0⟩])
 (.seq
 (.ops [⟨some 4, .assign (Operand.const (Value.int IntKind.i64 0)), none, 0⟩])
 .ret))))))
abbrev R10 : List ResultVar := [ResultVar.tmp 4]
theorem ok10 : FnOK Tryd.prog 10 L10 R10 2 := ⟨_, _, Tryd.func10, rfl, by kernel_rfl, by kernel_rfl, by kernel_rfl, by kernel_rfl, Nat.le_of_ble_eq_true (by kernel_rfl), by kernel_rfl⟩

/-- ablaut/ablautref02.IsLong -/
def L11 : LCode :=
 (.seq
 (.ops [⟨some 2, .assign (Operand.const (Value.bool false)), none, 0⟩])
 (.seq
 (.ops [⟨some 3, .assign (Operand.const (Value.int IntKind.i64 0)), none, 0⟩])
 (.seq
 (.seq
 (.ops [⟨some 4, .assign (Operand.const (Value.int IntKind.i64 0)), none, 0⟩])
 (.block 0
 (.loop
 (.seq
 (.seq
 (.ops [⟨some 6, .move (Operand.tmp 4), none, 0⟩,
 ⟨some 7, .move (Operand.tmp 0), none, 0⟩,
 ⟨some 8, .call ⟨(Callee.builtin Builtin.len), [(Operand.tmp 7)].toArray, #[55]⟩, none, 0⟩,
 ⟨some 9, .binOp BinOp.lss 3 (Operand.tmp 6) (Operand.tmp 8) 3, none, 0⟩,
 ⟨some 10, .move (Operand.tmp 9), none, 0⟩,
 ⟨some 11, .move (Operand.tmp 3), some (10, true), 0⟩,
 ⟨some 12, .binOp BinOp.leq 3 (Operand.tmp 11) (Operand.const (Value.int IntKind.i64 16384)) 3, some (10, true), 0⟩,
 ⟨some 13, .pick (Operand.tmp 10) (Operand.tmp 12) (Operand.const (Value.bool false)), none, 0⟩])
 (.cond (Operand.tmp 13)
 .skip
 (.exit 0)))
 (.seq
 (.block 1
 (.seq
 (.ops [⟨some 5, .assign (Operand.const (Value.int IntKind.i64 0)), none, 0⟩])
 (.block 2
 (.loop
 (.seq
 (.seq
 (.ops [⟨some 16, .move (Operand.tmp 5), none, 0⟩,
 ⟨some 17, .move (Operand.tmp 0), none, 0⟩,
 ⟨some 18, .move (Operand.tmp 4), none, 0⟩,
 ⟨some 19, .indexAddr 55 (Operand.tmp 17) (Operand.tmp 18), none, 0⟩,
 ⟨some 20, .load 23 (Operand.tmp 19), none, 0⟩,
 ⟨some 21, .call ⟨(Callee.builtin Builtin.len), [(Operand.tmp 20)].toArray, #[23]⟩, none, 0⟩,
 ⟨some 22, .binOp BinOp.lss 3 (Operand.tmp 16) (Operand.tmp 21) 3, none, 0⟩,
 ⟨some 23, .move (Operand.tmp 22), none, 0⟩,
 ⟨some 24, .move (Operand.tmp 3), some (23, true), 0⟩,
 ⟨some 25, .binOp BinOp.leq 3 (Operand.tmp 24) (Operand.const (Value.int IntKind.i64 16384)) 3, some (23, true), 0⟩,
 ⟨some 26, .pick (Operand.tmp 23) (Operand.tmp 25) (Operand.const (Value.bool false)), none, 0⟩])
 (.cond (Operand.tmp 26)
 .skip
 (.exit 2)))
 (.seq
 (.block 3
 (.ops [⟨some 29, .move (Operand.tmp 3), none, 0⟩,
 ⟨some 30, .move (Operand.tmp 0), none, 0⟩,
 ⟨some 31, .move (Operand.tmp 4), none, 0⟩,
 ⟨some 32, .indexAddr 55 (Operand.tmp 30) (Operand.tmp 31), none, 0⟩,
 ⟨some 33, .load 23 (Operand.tmp 32), none, 0⟩,
 ⟨some 34, .move (Operand.tmp 5), none, 0⟩,
 ⟨some 35, .indexAddr 23 (Operand.tmp 33) (Operand.tmp 34), none, 0⟩,
 ⟨some 36, .load 9 (Operand.tmp 35), none, 0⟩,
 ⟨some 37, .call ⟨(Callee.builtin Builtin.len), [(Operand.tmp 36)].toArray, #[9]⟩, none, 0⟩,
 ⟨some 38, .binOp BinOp.add 3 (Operand.const (Value.int IntKind.i64 1)) (Operand.tmp 37) 3, none, 0⟩,
 ⟨some 39, .binOp BinOp.add 3 (Operand.tmp 29) (Operand.tmp 38) 3, none, 0⟩,
 ⟨some 3, .assign (Operand.tmp 39), none, 0⟩]))
 (.ops [⟨some 27, .move (Operand.tmp 5), none, 0⟩,
 ⟨some 28, .binOp BinOp.add 3 (Operand.tmp 27) (Operand.const (Value.int IntKind.i64 1)) 3, none, 0⟩,
 ⟨some 5, .assign (Operand.tmp 28), none, 0⟩])))))))
 (.ops [⟨some 14, .move (Operand.tmp 4), none, 0⟩,
 ⟨some 15, .binOp BinOp.add 3 (Operand.tmp 14) (Operand.const (Value.int IntKind.i64 1)) 3, none, 0⟩,
 ⟨some 4, .assign (Operand.tmp 15), none, 0⟩]))))))
 (.seq
 (.ops [⟨some 40, .move (Operand.tmp 3), none, 0⟩,
 ⟨some 41, .binOp BinOp.gtr 3 (Operand.tmp 40) (Operand.const (Value.int IntKind.i64 16384)) 3, none, 0⟩,
 ⟨some 2, .assign (Operand.tmp 41), none, 0⟩])
 .ret))))
abbrev R11 : List ResultVar := [ResultVar.tmp 2]
theorem ok11 : FnOK Tryd.prog 11 L11 R11 1 := ⟨_, _, Tryd.func11, rfl, by kernel_rfl, by kernel_rfl, by kernel_rfl, by kernel_rfl, Nat.le_of_ble_eq_true (by kernel_rfl), by kernel_rfl⟩

/-- (*ablaut/guess.Guesser).Chance -/
def L12 : LCode :=
 (.seq
 (.ops [⟨some 6, .assign (Operand.const (Value.int IntKind.i64 0)), none, 0⟩,
 ⟨some 7, .assign (Operand.const (Value.int IntKind.i64 0)), none, 0⟩,
 ⟨some 8, .assign (Operand.const (Value.int IntKind.i64 0)), none, 0⟩])
 (.seq
 (.seq
 (.ops [⟨some 11, .move (Operand.tmp 1), none, 0⟩,
 ⟨some 12, .call ⟨(Callee.value (Operand.func 23)), [(Operand.tmp 11)].toArray, #[23]⟩, none, 0⟩,
 ⟨some 9, .assign (Operand.tmp 12), none, 0⟩])
 (.seq
 (.ops [⟨some 13, .move (Operand.tmp 9), none, 0⟩,
 ⟨some 14, .binOp BinOp.neq 29 (Operand.tmp 13) (Operand.const (Value.int IntKind.i64 0)) 29, none, 0⟩])
 (.cond (Operand.tmp 14)
 (.seq
 (.ops [⟨some 15, .move (Operand.tmp 9), none, 0⟩,
 ⟨some 6, .assign (Operand.const (Value.int IntKind.i64 0)), none, 0⟩,
 ⟨some 7, .assign (Operand.const (Value.int IntKind.i64 0)), none, 0⟩,
 ⟨some 8, .assign (Operand.tmp 15), none, 0⟩])
 .ret)
 .skip)))
 (.seq
 (.seq
 (.ops [⟨some 16, .move (Operand.tmp 0), none, 0⟩,
 ⟨some 17, .call ⟨(Callee.value (Operand.func 24)), [(Operand.tmp 16)].toArray, #[28]⟩, none, 0⟩])
 (.cond (Operand.tmp 17)
 (.seq
 (.ops [⟨some 6, .assign (Operand.const (Value.int IntKind.i64 0)), none, 0⟩,
 ⟨some 7, .assign (Operand.const (Value.int IntKind.i64 0)), none, 0⟩,
 ⟨some 8, .assign (Operand.const (Value.int IntKind.i64 4)), none, 0⟩])
 .ret)
 .skip))
 (.seq
 (.seq
 (.ops [⟨some 18, .move (Operand.tmp 2), none, 0⟩,
 ⟨some 19, .binOp BinOp.eql 9 (Operand.tmp 18) (Operand.const (Value.string ⟨#[]⟩)) 9, none, 0⟩,
 ⟨some 20, .move (Operand.tmp 19), none, 0⟩,
 ⟨some 21, .move (Operand.tmp 0), some (20, false), 0⟩,
 ⟨some 22, .nilCheck (Operand.tmp 21), some (20, false), 0⟩,
 ⟨some 23, .fieldAddr 43 (Operand.tmp 22) 1, some (20, false), 0⟩,
 ⟨some 24, .load 41 (Operand.tmp 23), some (20, false), 0⟩,
 ⟨some 25, .lookup 41 (Operand.tmp 24) (Operand.const (Value.string ⟨#[]⟩)) false, some (20, false), 0⟩,
 ⟨some 26, .move (Operand.tmp 2), some (20, false), 0⟩,
 ⟨some 27, .lookup 57 (Operand.tmp 25) (Operand.tmp 26) false, some (20, false), 0⟩,
 ⟨some 28, .binOp BinOp.eql 3 (Operand.tmp 27) (Operand.const (Value.int IntKind.i64 0)) 3, some (20, false), 0⟩,
 ⟨some 29, .pick (Operand.tmp 20) (Operand.const (Value.bool true)) (Operand.tmp 28), none, 0⟩])
 (.cond (Operand.tmp 29)
 (.seq
 (.ops [⟨some 6, .assign (Operand.const (Value.int IntKind.i64 0)), none, 0⟩,
 ⟨some 7, .assign (Operand.const (Value.int IntKind.i64 1)), none, 0⟩,
 ⟨some 8, .assign (Operand.const (Value.int IntKind.i64 0)), none, 0⟩])
 .ret)
 .skip))
 (.seq
 (.ops [⟨some 30, .move (Operand.tmp 0), none, 0⟩,
 ⟨some 31, .move (Operand.tmp 1), none, 0⟩,
 ⟨some 32, .move (Operand.tmp 2), none, 0⟩,
 ⟨some 33, .call ⟨(Callee.value (Operand.func 25)), [(Operand.tmp 30), (Operand.tmp 31), (Operand.tmp 32)].toArray, #[28, 23, 9]⟩, none, 0⟩,
 ⟨some 34, .call ⟨(Callee.value (Operand.func 26)), [(Operand.tmp 33)].toArray, #[59]⟩, none, 0⟩,
 ⟨some 10, .alloc 59, none, 0⟩,
 ⟨none, .store 59 (Operand.tmp 10) (Operand.tmp 34), none, 0⟩])
 (.seq
 (.draw [⟨some 35, .fieldAddr 59 (Operand.tmp 10) 0, none, 0⟩,
 ⟨some 36, .load 3 (Operand.tmp 35), none, 0⟩,
 ⟨some 37, .fieldAddr 59 (Operand.tmp 10) 1, none, 0⟩,
 ⟨some 38, .load 3 (Operand.tmp 37), none, 0⟩,
 ⟨some 6, .assign (Operand.tmp 36), none, 0⟩,
 ⟨some 7, .assign (Operand.tmp 38), none, 0⟩,
 ⟨some 8, .assign (Operand.const (Value.int IntKind.i64 0)), none, 0⟩] true [5, 6] [0, 2, 1, 3, 4, 5, 6])
 .ret))))))
abbrev R12 : List ResultVar := [ResultVar.tmp 6, ResultVar.tmp 7, ResultVar.tmp 8]
theorem ok12 : FnOK Tryd.prog 12 L12 R12 3 := ⟨_, _, Tryd.func12, rfl, by kernel_rfl, by kernel_rfl, by kernel_rfl, by kernel_rfl, Nat.le_of_ble_eq_true (by kernel_rfl), by kernel_rfl⟩

/-- ablaut/guess.checked -/
def L13 : LCode :=
 (.seq
 (.ops [⟨some 2, .assign (Operand.const (Value.int IntKind.i64 0)), none, 0⟩])
 (.seq
 (.seq
 (.ops [⟨some 11, .move (Operand.tmp 0), none, 0⟩,
 ⟨some 12, .call ⟨(Callee.builtin Builtin.len), [(Operand.tmp 11)].toArray, #[22]⟩, none, 0⟩,
 ⟨some 13, .move (Operand.const (Value.int IntKind.i64 0)), none, 0⟩])
 (.block 0
 (.loop
 (.seq
 (.ops [⟨some 14, .binOp BinOp.lss 3 (Operand.tmp 13) (Operand.tmp 12) 3, none, 0⟩])
 (.seq
 (.cond (Operand.tmp 14)
 .skip
 (.exit 0))
 (.seq
 (.block 1
 (.seq
 (.ops [⟨some 15, .indexAddr 22 (Operand.tmp 11) (Operand.tmp 13), none, 0⟩,
 ⟨some 16, .load 25 (Operand.tmp 15), none, 0⟩,
 ⟨some 4, .alloc 25, none, 0⟩,
 ⟨none, .store 25 (Operand.tmp 4) (Operand.tmp 16), none, 0⟩])
 (.seq
 (.ops [⟨some 17, .fieldAddr 25 (Operand.tmp 4) 0, none, 0⟩,
 ⟨some 18, .load 23 (Operand.tmp 17), none, 0⟩,
 ⟨some 19, .call ⟨(Callee.value (Operand.func 23)), [(Operand.tmp 18)].toArray, #[23]⟩, none, 0⟩,
 ⟨some 5, .assign (Operand.tmp 19), none, 0⟩])
 (.seq
 (.ops [⟨some 20, .move (Operand.tmp 5), none, 0⟩,
 ⟨some 21, .binOp BinOp.neq 29 (Operand.tmp 20) (Operand.const (Value.int IntKind.i64 0)) 29, none, 0⟩])
 (.cond (Operand.tmp 21)
 (.seq
 (.ops [⟨some 22, .move (Operand.tmp 5), none, 0⟩,
 ⟨some 2, .assign (Operand.tmp 22), none, 0⟩])
 .ret)
 .skip)))))
 (.ops [⟨some 23, .binOp BinOp.add 3 (Operand.tmp 13) (Operand.const (Value.int IntKind.i64 1)) 3, none, 0⟩,
 ⟨some 13, .move (Operand.tmp 23), none, 0⟩])))))))
 (.seq
 (.ops [⟨some 6, .assign (Operand.const (Value.int IntKind.i64 0)), none, 0⟩])
 (.seq
 (.seq
 (.ops [⟨some 24, .move (Operand.tmp 0), none, 0⟩,
 ⟨some 25, .call ⟨(Callee.builtin Builtin.len), [(Operand.tmp 24)].toArray, #[22]⟩, none, 0⟩,
 ⟨some 26, .move (Operand.const (Value.int IntKind.i64 0)), none, 0⟩])
 (.block 2
 (.loop
 (.seq
 (.ops [⟨some 27, .binOp BinOp.lss 3 (Operand.tmp 26) (Operand.tmp 25) 3, none, 0⟩])
 (.seq
 (.cond (Operand.tmp 27)
 .skip
 (.exit 2))
 (.seq
 (.block 3
 (.seq
 (.ops [⟨some 28, .indexAddr 22 (Operand.tmp 24) (Operand.tmp 26), none, 0⟩,
 ⟨some 29, .load 25 (Operand.tmp 28), none, 0⟩,
 ⟨some 8, .alloc 25, none, 0⟩,
 ⟨none, .store 25 (Operand.tmp 8) (Operand.tmp 29), none, 0⟩])
 (.seq
 (.ops [⟨some 30, .fieldAddr 25 (Operand.tmp 8) 1, none, 0⟩,
 ⟨some 31, .load 9 (Operand.tmp 30), none, 0⟩,
 ⟨some 32, .call ⟨(Callee.value (Operand.func 27)), [(Operand.tmp 31)].toArray, #[9]⟩, none, 0⟩,
 ⟨some 33, .unOp UnOp.not 4 (Operand.tmp 32), none, 0⟩,
 ⟨some 34, .move (Operand.tmp 33), none, 0⟩,
 ⟨some 35, .fieldAddr 25 (Operand.tmp 8) 2, some (34, false), 0⟩,
 ⟨some 36, .load 3 (Operand.tmp 35), some (34, false), 0⟩,
 ⟨some 37, .binOp BinOp.lss 3 (Operand.tmp 36) (Operand.const (Value.int IntKind.i64 1)) 3, some (34, false), 0⟩,
 ⟨some 38, .pick (Operand.tmp 34) (Operand.const (Value.bool true)) (Operand.tmp 37), none, 0⟩])
 (.cond (Operand.tmp 38)
 (.seq
 (.ops [⟨some 2, .assign (Operand.const (Value.int IntKind.i64 1)), none, 0⟩])
 .ret)
 .skip))))
 (.ops [⟨some 39, .binOp BinOp.add 3 (Operand.tmp 26) (Operand.const (Value.int IntKind.i64 1)) 3, none, 0⟩,
 ⟨some 26, .move (Operand.tmp 39), none, 0⟩])))))))
 (.seq
 (.seq
 (.ops [⟨some 40, .move (Operand.tmp 0), none, 0⟩,
 ⟨some 41, .call ⟨(Callee.builtin Builtin.len), [(Operand.tmp 40)].toArray, #[22]⟩, none, 0⟩,
 ⟨some 42, .move (Operand.const (Value.int IntKind.i64 0)), none, 0⟩])
 (.block 4
 (.loop
 (.seq
 (.ops [⟨some 43, .binOp BinOp.lss 3 (Operand.tmp 42) (Operand.tmp 41) 3, none, 0⟩])
 (.seq
 (.cond (Operand.tmp 43)
 .skip
 (.exit 4))
 (.seq
 (.block 5
 (.seq
 (.ops [⟨some 44, .indexAddr 22 (Operand.tmp 40) (Operand.tmp 42), none, 0⟩,
 ⟨some 45, .load 25 (Operand.tmp 44), none, 0⟩,
 ⟨some 10, .alloc 25, none, 0⟩,
 ⟨none, .store 25 (Operand.tmp 10) (Operand.tmp 45), none, 0⟩])
 (.seq
 (.seq
 (.ops [⟨some 46, .fieldAddr 25 (Operand.tmp 10) 2, none, 0⟩,
 ⟨some 47, .load 3 (Operand.tmp 46), none, 0⟩,
 ⟨some 48, .binOp BinOp.gtr 3 (Operand.tmp 47) (Operand.const (Value.int IntKind.i64 1000)) 3, none, 0⟩])
 (.cond (Operand.tmp 48)
 (.seq
 (.ops [⟨some 2, .assign (Operand.const (Value.int IntKind.i64 3)), none, 0⟩])
 .ret)
 .skip))
 (.seq
 (.ops [⟨some 49, .move (Operand.tmp 6), none, 0⟩,
 ⟨some 50, .fieldAddr 25 (Operand.tmp 10) 2, none, 0⟩,
 ⟨some 51, .load 3 (Operand.tmp 50), none, 0⟩,
 ⟨some 52, .binOp BinOp.add 3 (Operand.tmp 49) (Operand.tmp 51) 3, none, 0⟩,
 ⟨some 6, .assign (Operand.tmp 52), none, 0⟩])
 (.seq
 (.ops [⟨some 53, .move (Operand.tmp 6), none, 0⟩,
 ⟨some 54, .binOp BinOp.gtr 3 (Operand.tmp 53) (Operand.const (Value.int IntKind.i64 1000)) 3, none, 0⟩])
 (.cond (Operand.tmp 54)
 (.seq
 (.ops [⟨some 2, .assign (Operand.const (Value.int IntKind.i64 3)), none, 0⟩])
 .ret)
 .skip))))))
 (.ops [⟨some 55, .binOp BinOp.add 3 (Operand.tmp 42) (Operand.const (Value.int IntKind.i64 1)) 3, none, 0⟩,
 ⟨some 42, .move (Operand.tmp 55), none, 0⟩])))))))
 (.seq
 (.ops [⟨some 2, .assign (Operand.const (Value.int IntKind.i64 0)), none, 0⟩])
 .ret))))))
abbrev R13 : List ResultVar := [ResultVar.tmp 2]
theorem ok13 : FnOK Tryd.prog 13 L13 R13 1 := ⟨_, _, Tryd.func13, rfl, by kernel_rfl, by kernel_rfl, by kernel_rfl, by kernel_rfl, Nat.le_of_ble_eq_true (by kernel_rfl), by kernel_rfl⟩

/-- (*ablaut/guess.Guesser).put -/
def L14 : LCode :=
 (.seq
 (.ops [⟨some 4, .box 25 (Operand.tmp 1), none, 0⟩])
 (.seq
 (.draw [⟨some 11, .fieldAddr 25 (Operand.tmp 4) 0, none, 0⟩,
 ⟨some 12, .load 23 (Operand.tmp 11), none, 0⟩,
 ⟨some 13, .call ⟨(Callee.value (Operand.func 16)), [(Operand.tmp 12)].toArray, #[23]⟩, none, 0⟩,
 ⟨some 14, .fieldAddr 25 (Operand.tmp 4) 1, none, 0⟩,
 ⟨some 15, .load 9 (Operand.tmp 14), none, 0⟩,
 ⟨some 16, .build 48 [(0, (Operand.tmp 13)), (1, (Operand.tmp 15))].toArray, none, 0⟩,
 ⟨some 6, .alloc 48, none, 0⟩,
 ⟨none, .store 48 (Operand.tmp 6) (Operand.tmp 16), none, 0⟩] true [7] [])
 (.seq
 (.seq
 (.draw [⟨some 17, .move (Operand.tmp 0), none, 0⟩,
 ⟨some 18, .nilCheck (Operand.tmp 17), none, 0⟩,
 ⟨some 19, .fieldAddr 43 (Operand.tmp 18) 0, none, 0⟩,
 ⟨some 20, .load 40 (Operand.tmp 19), none, 0⟩,
 ⟨some 21, .load 48 (Operand.tmp 6), none, 0⟩,
 ⟨some 22, .lookup 40 (Operand.tmp 20) (Operand.tmp 21) false, none, 0⟩,
 ⟨some 23, .move (Operand.tmp 2), none, 0⟩,
 ⟨some 24, .binOp BinOp.add 3 (Operand.tmp 22) (Operand.tmp 23) 3, none, 0⟩,
 ⟨some 25, .mapEntry 40 (Operand.tmp 20) (Operand.tmp 21), none, 0⟩,
 ⟨some 26, .extract (Operand.tmp 25) 1, none, 0⟩,
 ⟨none, .entryStore 40 (Operand.tmp 20) (Operand.tmp 26) (Operand.tmp 24), none, 0⟩] true [10] [])
 (.seq
 (.draw [⟨some 27, .move (Operand.tmp 0), none, 0⟩,
 ⟨some 28, .nilCheck (Operand.tmp 27), none, 0⟩,
 ⟨some 29, .fieldAddr 43 (Operand.tmp 28) 0, none, 0⟩,
 ⟨some 30, .load 40 (Operand.tmp 29), none, 0⟩,
 ⟨some 31, .load 48 (Operand.tmp 6), none, 0⟩,
 ⟨some 32, .lookup 40 (Operand.tmp 30) (Operand.tmp 31) false, none, 0⟩,
 ⟨some 33, .binOp BinOp.eql 3 (Operand.tmp 32) (Operand.const (Value.int IntKind.i64 0)) 3, none, 0⟩] true [5, 6] [0, 1, 2, 3, 4, 5, 6])
 (.cond (Operand.tmp 33)
 (.draw [⟨some 34, .move (Operand.tmp 0), none, 0⟩,
 ⟨some 35, .nilCheck (Operand.tmp 34), none, 0⟩,
 ⟨some 36, .fieldAddr 43 (Operand.tmp 35) 0, none, 0⟩,
 ⟨some 37, .load 40 (Operand.tmp 36), none, 0⟩,
 ⟨some 38, .load 48 (Operand.tmp 6), none, 0⟩,
 ⟨none, .call ⟨(Callee.builtin Builtin.delete), [(Operand.tmp 37), (Operand.tmp 38)].toArray, #[40, 48]⟩, none, 0⟩] true [5] [0, 1, 2, 3, 4, 5])
 .skip)))
 (.seq
 (.ops [⟨some 7, .assign (Operand.const (Value.int IntKind.i64 0)), none, 0⟩])
 (.block 0
 (.loop
 (.seq
 (.seq
 (.ops [⟨some 39, .move (Operand.tmp 7), none, 0⟩,
 ⟨some 40, .fieldAddr 25 (Operand.tmp 4) 0, none, 0⟩,
 ⟨some 41, .load 23 (Operand.tmp 40), none, 0⟩,
 ⟨some 42, .call ⟨(Callee.builtin Builtin.len), [(Operand.tmp 41)].toArray, #[23]⟩, none, 0⟩,
 ⟨some 43, .call ⟨(Callee.builtin Builtin.min), [(Operand.tmp 42), (Operand.const (Value.int IntKind.i64 4))].toArray, #[3, 3]⟩, none, 0⟩,
 ⟨some 44, .binOp BinOp.leq 3 (Operand.tmp 39) (Operand.tmp 43) 3, none, 0⟩])
 (.cond (Operand.tmp 44)
 .skip
 (.exit 0)))
 (.seq
 (.block 1
 (.seq
 (.ops [⟨some 47, .fieldAddr 25 (Operand.tmp 4) 0, none, 0⟩,
 ⟨some 48, .load 23 (Operand.tmp 47), none, 0⟩,
 ⟨some 49, .fieldAddr 25 (Operand.tmp 4) 0, none, 0⟩,
 ⟨some 50, .load 23 (Operand.tmp 49), none, 0⟩,
 ⟨some 51, .call ⟨(Callee.builtin Builtin.len), [(Operand.tmp 50)].toArray, #[23]⟩, none, 0⟩,
 ⟨some 52, .move (Operand.tmp 7), none, 0⟩,
 ⟨some 53, .binOp BinOp.sub 3 (Operand.tmp 51) (Operand.tmp 52) 3, none, 0⟩,
 ⟨some 54, .slice 23 (Operand.tmp 48) (some (Operand.tmp 53)) none none, none, 0⟩,
 ⟨some 55, .call ⟨(Callee.value (Operand.func 16)), [(Operand.tmp 54)].toArray, #[23]⟩, none, 0⟩,
 ⟨some 8, .assign (Operand.tmp 55), none, 0⟩])
 (.seq
 (.seq
 (.ops [⟨some 56, .move (Operand.tmp 0), none, 0⟩,
 ⟨some 57, .nilCheck (Operand.tmp 56), none, 0⟩,
 ⟨some 58, .fieldAddr 43 (Operand.tmp 57) 1, none, 0⟩,
 ⟨some 59, .load 41 (Operand.tmp 58), none, 0⟩,
 ⟨some 60, .move (Operand.tmp 8), none, 0⟩,
 ⟨some 61, .lookup 41 (Operand.tmp 59) (Operand.tmp 60) false, none, 0⟩,
 ⟨some 62, .binOp BinOp.eql 57 (Operand.tmp 61) (Operand.const (Value.map none)) 57, none, 0⟩])
 (.cond (Operand.tmp 62)
 (.ops [⟨some 63, .move (Operand.tmp 0), none, 0⟩,
 ⟨some 64, .nilCheck (Operand.tmp 63), none, 0⟩,
 ⟨some 65, .fieldAddr 43 (Operand.tmp 64) 1, none, 0⟩,
 ⟨some 66, .load 41 (Operand.tmp 65), none, 0⟩,
 ⟨some 67, .move (Operand.tmp 8), none, 0⟩,
 ⟨some 68, .makeMap 57 none, none, 0⟩,
 ⟨none, .mapUpdate 41 (Operand.tmp 66) (Operand.tmp 67) (Operand.tmp 68), none, 0⟩])
 .skip))
 (.seq
 (.seq
 (.ops [⟨some 69, .fieldAddr 25 (Operand.tmp 4) 1, none, 0⟩,
 ⟨some 70, .load 9 (Operand.tmp 69), none, 0⟩,
 ⟨some 71, .buildSlice 23 2 [(0, (Operand.tmp 70)), (1, (Operand.const (Value.string ⟨#[]⟩)))].toArray, none, 0⟩,
 ⟨some 72, .call ⟨(Callee.builtin Builtin.len), [(Operand.tmp 71)].toArray, #[23]⟩, none, 0⟩,
 ⟨some 73, .move (Operand.const (Value.int IntKind.i64 0)), none, 0⟩])
 (.block 2
 (.loop
 (.seq
 (.ops [⟨some 74, .binOp BinOp.lss 3 (Operand.tmp 73) (Operand.tmp 72) 3, none, 0⟩])
 (.seq
 (.cond (Operand.tmp 74)
 .skip
 (.exit 2))
 (.seq
 (.block 3
 (.seq
 (.ops [⟨some 75, .indexAddr 23 (Operand.tmp 71) (Operand.tmp 73), none, 0⟩,
 ⟨some 76, .load 9 (Operand.tmp 75), none, 0⟩,
 ⟨some 10, .assign (Operand.tmp 76), none, 0⟩])
 (.seq
 (.ops [⟨some 77, .move (Operand.tmp 0), none, 0⟩,
 ⟨some 78, .nilCheck (Operand.tmp 77), none, 0⟩,
 ⟨some 79, .fieldAddr 43 (Operand.tmp 78) 1, none, 0⟩,
 ⟨some 80, .load 41 (Operand.tmp 79), none, 0⟩,
 ⟨some 81, .move (Operand.tmp 8), none, 0⟩,
 ⟨some 82, .lookup 41 (Operand.tmp 80) (Operand.tmp 81) false, none, 0⟩,
 ⟨some 83, .move (Operand.tmp 10), none, 0⟩,
 ⟨some 84, .lookup 57 (Operand.tmp 82) (Operand.tmp 83) false, none, 0⟩,
 ⟨some 85, .move (Operand.tmp 2), none, 0⟩,
 ⟨some 86, .binOp BinOp.add 3 (Operand.tmp 84) (Operand.tmp 85) 3, none, 0⟩,
 ⟨none, .mapUpdate 57 (Operand.tmp 82) (Operand.tmp 83) (Operand.tmp 86), none, 0⟩])
 (.seq
 (.ops [⟨some 87, .move (Operand.tmp 0), none, 0⟩,
 ⟨some 88, .nilCheck (Operand.tmp 87), none, 0⟩,
 ⟨some 89, .fieldAddr 43 (Operand.tmp 88) 1, none, 0⟩,
 ⟨some 90, .load 41 (Operand.tmp 89), none, 0⟩,
 ⟨some 91, .move (Operand.tmp 8), none, 0⟩,
 ⟨some 92, .lookup 41 (Operand.tmp 90) (Operand.tmp 91) false, none, 0⟩,
 ⟨some 93, .move (Operand.tmp 10), none, 0⟩,
 ⟨some 94, .lookup 57 (Operand.tmp 92) (Operand.tmp 93) false, none, 0⟩,
 ⟨some 95, .binOp BinOp.eql 3 (Operand.tmp 94) (Operand.const (Value.int IntKind.i64 0)) 3, none, 0⟩])
 (.cond (Operand.tmp 95)
 (.ops [⟨some 96, .move (Operand.tmp 0), none, 0⟩,
 ⟨some 97, .nilCheck (Operand.tmp 96), none, 0⟩,
 ⟨some 98, .fieldAddr 43 (Operand.tmp 97) 1, none, 0⟩,
 ⟨some 99, .load 41 (Operand.tmp 98), none, 0⟩,
 ⟨some 100, .move (Operand.tmp 8), none, 0⟩,
 ⟨some 101, .lookup 41 (Operand.tmp 99) (Operand.tmp 100) false, none, 0⟩,
 ⟨some 102, .move (Operand.tmp 10), none, 0⟩,
 ⟨none, .call ⟨(Callee.builtin Builtin.delete), [(Operand.tmp 101), (Operand.tmp 102)].toArray, #[57, 9]⟩, none, 0⟩])
 .skip)))))
 (.ops [⟨some 103, .binOp BinOp.add 3 (Operand.tmp 73) (Operand.const (Value.int IntKind.i64 1)) 3, none, 0⟩,
 ⟨some 73, .move (Operand.tmp 103), none, 0⟩])))))))
 (.seq
 (.ops [⟨some 104, .move (Operand.tmp 0), none, 0⟩,
 ⟨some 105, .nilCheck (Operand.tmp 104), none, 0⟩,
 ⟨some 106, .fieldAddr 43 (Operand.tmp 105) 1, none, 0⟩,
 ⟨some 107, .load 41 (Operand.tmp 106), none, 0⟩,
 ⟨some 108, .move (Operand.tmp 8), none, 0⟩,
 ⟨some 109, .lookup 41 (Operand.tmp 107) (Operand.tmp 108) false, none, 0⟩,
 ⟨some 110, .call ⟨(Callee.builtin Builtin.len), [(Operand.tmp 109)].toArray, #[57]⟩, none, 0⟩,
 ⟨some 111, .binOp BinOp.eql 3 (Operand.tmp 110) (Operand.const (Value.int IntKind.i64 0)) 3, none, 0⟩])
 (.cond (Operand.tmp 111)
 (.ops [⟨some 112, .move (Operand.tmp 0), none, 0⟩,
 ⟨some 113, .nilCheck (Operand.tmp 112), none, 0⟩,
 ⟨some 114, .fieldAddr 43 (Operand.tmp 113) 1, none, 0⟩,
 ⟨some 115, .load 41 (Operand.tmp 114), none, 0⟩,
 ⟨some 116, .move (Operand.tmp 8), none, 0⟩,
 ⟨none, .call ⟨(Callee.builtin Builtin.delete), [(Operand.tmp 115), (Operand.tmp 116)].toArray, #[41, 9]⟩, none, 0⟩])
 .skip))))))
 (.ops [⟨some 45, .move (Operand.tmp 7), none, 0⟩,
 ⟨some 46, .binOp BinOp.add 3 (Operand.tmp 45) (Operand.const (Value.int IntKind.i64 1)) 3, none, 0⟩,
 ⟨some 7, .assign (Operand.tmp 46), none, 0⟩])))))))))
abbrev R14 : List ResultVar := []
theorem ok14 : FnOK Tryd.prog 14 L14 R14 3 := ⟨_, _, Tryd.func14, rfl, by kernel_rfl, by kernel_rfl, by kernel_rfl, by kernel_rfl, Nat.le_of_ble_eq_true (by kernel_rfl), by kernel_rfl⟩

/-- (*ablaut/guess.Guesser).all -/
def L15 : LCode :=
 (.seq
 (.ops [⟨some 2, .assign (Operand.const (Value.int IntKind.i64 0)), none, 0⟩])
 (.seq
 (.ops [⟨some 3, .move (Operand.tmp 0), none, 0⟩,
 ⟨some 4, .nilCheck (Operand.tmp 3), none, 0⟩,
 ⟨some 5, .fieldAddr 43 (Operand.tmp 4) 1, none, 0⟩,
 ⟨some 6, .load 41 (Operand.tmp 5), none, 0⟩,
 ⟨some 7, .lookup 41 (Operand.tmp 6) (Operand.const (Value.string ⟨#[]⟩)) false, none, 0⟩,
 ⟨some 8, .lookup 57 (Operand.tmp 7) (Operand.const (Value.string ⟨#[]⟩)) false, none, 0⟩,
 ⟨some 2, .assign (Operand.tmp 8), none, 0⟩])
 .ret))
abbrev R15 : List ResultVar := [ResultVar.tmp 2]
theorem ok15 : FnOK Tryd.prog 15 L15 R15 1 := ⟨_, _, Tryd.func15, rfl, by kernel_rfl, by kernel_rfl, by kernel_rfl, by kernel_rfl, Nat.le_of_ble_eq_true (by kernel_rfl), by kernel_rfl⟩

/-- ablaut/guess.key -/
def L16 : LCode :=
 (.seq
 (.ops [⟨some 2, .assign (Operand.const (Value.string ⟨#[]⟩)), none, 0⟩])
 (.seq
 (.ops [⟨some 3, .move (Operand.tmp 0), none, 0⟩,
 ⟨some 4, .call ⟨(Callee.value (Operand.func 28)), [(Operand.tmp 3), (Operand.const (Value.string ⟨#[32]⟩))].toArray, #[23, 9]⟩, none, 0⟩,
 ⟨some 2, .assign (Operand.tmp 4), none, 0⟩])
 .ret))
abbrev R16 : List ResultVar := [ResultVar.tmp 2]
theorem ok16 : FnOK Tryd.prog 16 L16 R16 1 := ⟨_, _, Tryd.func16, rfl, by kernel_rfl, by kernel_rfl, by kernel_rfl, by kernel_rfl, Nat.le_of_ble_eq_true (by kernel_rfl), by kernel_rfl⟩

/-- ablaut/ablautref01.Same -/
def L17 : LCode :=
 (.seq
 (.ops [⟨some 4, .assign (Operand.const (Value.bool false)), none, 0⟩])
 (.seq
 (.ops [⟨some 5, .move (Operand.tmp 0), none, 0⟩,
 ⟨some 6, .move (Operand.tmp 1), none, 0⟩,
 ⟨some 7, .call ⟨(Callee.value (Operand.func 29)), [(Operand.tmp 5), (Operand.tmp 6)].toArray, #[23, 23]⟩, none, 0⟩,
 ⟨some 8, .binOp BinOp.eql 3 (Operand.tmp 7) (Operand.const (Value.int IntKind.i64 0)) 3, none, 0⟩,
 ⟨some 4, .assign (Operand.tmp 8), none, 0⟩])
 .ret))
abbrev R17 : List ResultVar := [ResultVar.tmp 4]
theorem ok17 : FnOK Tryd.prog 17 L17 R17 2 := ⟨_, _, Tryd.func17, rfl, by kernel_rfl, by kernel_rfl, by kernel_rfl, by kernel_rfl, Nat.le_of_ble_eq_true (by kernel_rfl), by kernel_rfl⟩

/-- ablaut/guess.back -/
def L18 : LCode :=
 (.seq
 (.ops [⟨some 2, .assign (Operand.const (Value.slice none 0 0)), none, 0⟩])
 (.seq
 (.seq
 (.ops [⟨some 3, .move (Operand.tmp 0), none, 0⟩,
 ⟨some 4, .binOp BinOp.eql 9 (Operand.tmp 3) (Operand.const (Value.string ⟨#[]⟩)) 9, none, 0⟩])
 (.cond (Operand.tmp 4)
 (.seq
 (.ops [⟨some 2, .assign (Operand.const (Value.slice none 0 0)), none, 0⟩])
 .ret)
 .skip))
 (.seq
 (.ops [⟨some 5, .move (Operand.tmp 0), none, 0⟩,
 ⟨some 6, .call ⟨(Callee.value (Operand.func 30)), [(Operand.tmp 5), (Operand.const (Value.string ⟨#[32]⟩))].toArray, #[9, 9]⟩, none, 0⟩,
 ⟨some 2, .assign (Operand.tmp 6), none, 0⟩])
 .ret)))
abbrev R18 : List ResultVar := [ResultVar.tmp 2]
theorem ok18 : FnOK Tryd.prog 18 L18 R18 1 := ⟨_, _, Tryd.func18, rfl, by kernel_rfl, by kernel_rfl, by kernel_rfl, by kernel_rfl, Nat.le_of_ble_eq_true (by kernel_rfl), by kernel_rfl⟩

/-- slices.SortFunc[[]ablaut/api.Sample,ablaut/api.Sample] -/
def L19 : LCode :=
 (.seq
 (.ops [⟨some 5, .move (Operand.tmp 0), none, 0⟩,
 ⟨some 6, .call ⟨(Callee.builtin Builtin.len), [(Operand.tmp 5)].toArray, #[22]⟩, none, 0⟩,
 ⟨some 4, .assign (Operand.tmp 6), none, 0⟩])
 (.ops [⟨some 7, .move (Operand.tmp 0), none, 0⟩,
 ⟨some 8, .move (Operand.tmp 4), none, 0⟩,
 ⟨some 9, .move (Operand.tmp 4), none, 0⟩,
 ⟨some 10, .convert 3 67 (Operand.tmp 9), none, 0⟩,
 ⟨some 11, .call ⟨(Callee.value (Operand.func 32)), [(Operand.tmp 10)].toArray, #[67]⟩, none, 0⟩,
 ⟨some 12, .move (Operand.tmp 1), none, 0⟩,
 ⟨some 13, .call ⟨(Callee.value (Operand.func 31)), [(Operand.tmp 7), (Operand.const (Value.int IntKind.i64 0)), (Operand.tmp 8), (Operand.tmp 11), (Operand.tmp 12)].toArray, #[22, 3, 3, 3, 54]⟩, none, 0⟩]))
abbrev R19 : List ResultVar := []
theorem ok19 : FnOK Tryd.prog 19 L19 R19 2 := ⟨_, _, Tryd.func19, rfl, by kernel_rfl, by kernel_rfl, by kernel_rfl, by kernel_rfl, Nat.le_of_ble_eq_true (by kernel_rfl), by kernel_rfl⟩

/-- (*ablaut/guess.Guesser).All$1 -/
def L20 : LCode :=
 (.seq
 (.ops [⟨some 2, .box 25 (Operand.tmp 0), none, 0⟩,
 ⟨some 3, .box 25 (Operand.tmp 1), none, 0⟩,
 ⟨some 4, .assign (Operand.const (Value.int IntKind.i64 0)), none, 0⟩])
 (.seq
 (.seq
 (.ops [⟨some 6, .fieldAddr 25 (Operand.tmp 2) 0, none, 0⟩,
 ⟨some 7, .load 23 (Operand.tmp 6), none, 0⟩,
 ⟨some 8, .fieldAddr 25 (Operand.tmp 3) 0, none, 0⟩,
 ⟨some 9, .load 23 (Operand.tmp 8), none, 0⟩,
 ⟨some 10, .call ⟨(Callee.value (Operand.func 21)), [(Operand.tmp 7), (Operand.tmp 9)].toArray, #[23, 23]⟩, none, 0⟩,
 ⟨some 5, .assign (Operand.tmp 10), none, 0⟩])
 (.seq
 (.ops [⟨some 11, .move (Operand.tmp 5), none, 0⟩,
 ⟨some 12, .binOp BinOp.neq 3 (Operand.tmp 11) (Operand.const (Value.int IntKind.i64 0)) 3, none, 0⟩])
 (.cond (Operand.tmp 12)
 (.seq
 (.ops [⟨some 13, .move (Operand.tmp 5), none, 0⟩,
 ⟨some 4, .assign (Operand.tmp 13), none, 0⟩])
 .ret)
 .skip)))
 (.seq
 (.ops [⟨some 14, .fieldAddr 25 (Operand.tmp 2) 1, none, 0⟩,
 ⟨some 15, .load 9 (Operand.tmp 14), none, 0⟩,
 ⟨some 16, .fieldAddr 25 (Operand.tmp 3) 1, none, 0⟩,
 ⟨some 17, .load 9 (Operand.tmp 16), none, 0⟩,
 ⟨some 18, .call ⟨(Callee.value (Operand.func 22)), [(Operand.tmp 15), (Operand.tmp 17)].toArray, #[9, 9]⟩, none, 0⟩,
 ⟨some 4, .assign (Operand.tmp 18), none, 0⟩])
 .ret)))
abbrev R20 : List ResultVar := [ResultVar.tmp 4]
theorem ok20 : FnOK Tryd.prog 20 L20 R20 2 := ⟨_, _, Tryd.func20, rfl, by kernel_rfl, by kernel_rfl, by kernel_rfl, by kernel_rfl, Nat.le_of_ble_eq_true (by kernel_rfl), by kernel_rfl⟩

/-- ablaut/syms.Compare -/
def L21 : LCode :=
 (.seq
 (.ops [⟨some 4, .assign (Operand.const (Value.int IntKind.i64 0)), none, 0⟩])
 (.seq
 (.seq
 (.ops [⟨some 6, .move (Operand.tmp 0), none, 0⟩,
 ⟨some 7, .call ⟨(Callee.builtin Builtin.len), [(Operand.tmp 6)].toArray, #[23]⟩, none, 0⟩,
 ⟨some 8, .move (Operand.tmp 1), none, 0⟩,
 ⟨some 9, .call ⟨(Callee.builtin Builtin.len), [(Operand.tmp 8)].toArray, #[23]⟩, none, 0⟩,
 ⟨some 10, .call ⟨(Callee.value (Operand.func 33)), [(Operand.tmp 7), (Operand.tmp 9)].toArray, #[3, 3]⟩, none, 0⟩,
 ⟨some 5, .assign (Operand.tmp 10), none, 0⟩])
 (.seq
 (.ops [⟨some 11, .move (Operand.tmp 5), none, 0⟩,
 ⟨some 12, .binOp BinOp.neq 3 (Operand.tmp 11) (Operand.const (Value.int IntKind.i64 0)) 3, none, 0⟩])
 (.cond (Operand.tmp 12)
 (.seq
 (.ops [⟨some 13, .move (Operand.tmp 5), none, 0⟩,
 ⟨some 4, .assign (Operand.tmp 13), none, 0⟩])
 .ret)
 .skip)))
 (.seq
 (.ops [⟨some 14, .move (Operand.tmp 0), none, 0⟩,
 ⟨some 15, .move (Operand.tmp 1), none, 0⟩,
 ⟨some 16, .call ⟨(Callee.value (Operand.func 34)), [(Operand.tmp 14), (Operand.tmp 15)].toArray, #[23, 23]⟩, none, 0⟩,
 ⟨some 4, .assign (Operand.tmp 16), none, 0⟩])
 .ret)))
abbrev R21 : List ResultVar := [ResultVar.tmp 4]
theorem ok21 : FnOK Tryd.prog 21 L21 R21 2 := ⟨_, _, Tryd.func21, rfl, by kernel_rfl, by kernel_rfl, by kernel_rfl, by kernel_rfl, Nat.le_of_ble_eq_true (by kernel_rfl), by kernel_rfl⟩

/-- cmp.Compare[string] -/
def L22 : LCode :=
 (.seq
 (.ops [⟨some 4, .assign (Operand.const (Value.int IntKind.i64 0)), none, 0⟩])
 (.seq
 (.ops [⟨some 7, .move (Operand.tmp 0), none, 0⟩,
 ⟨some 8, .call ⟨(Callee.value (Operand.func 35)), [(Operand.tmp 7)].toArray, #[9]⟩, none, 0⟩,
 ⟨some 5, .assign (Operand.tmp 8), none, 0⟩])
 (.seq
 (.ops [⟨some 9, .move (Operand.tmp 1), none, 0⟩,
 ⟨some 10, .call ⟨(Callee.value (Operand.func 35)), [(Operand.tmp 9)].toArray, #[9]⟩, none, 0⟩,
 ⟨some 6, .assign (Operand.tmp 10), none, 0⟩])
 (.seq
 (.seq
 (.ops [⟨some 11, .move (Operand.tmp 5), none, 0⟩])
 (.cond (Operand.tmp 11)
 (.seq
 (.seq
 (.ops [⟨some 12, .move (Operand.tmp 6), none, 0⟩])
 (.cond (Operand.tmp 12)
 (.seq
 (.ops [⟨some 4, .assign (Operand.const (Value.int IntKind.i64 0)), none, 0⟩])
 .ret)
 .skip))
 (.seq
 (.ops [⟨some 4, .assign (Operand.const (Value.int IntKind.i64 (-1))), none, 0⟩])
 .ret))
 .skip))
 (.seq
 (.seq
 (.ops [⟨some 13, .move (Operand.tmp 6), none, 0⟩])
 (.cond (Operand.tmp 13)
 (.seq
 (.ops [⟨some 4, .assign (Operand.const (Value.int IntKind.i64 1)), none, 0⟩])
 .ret)
 .skip))
 (.seq
 (.seq
 (.ops [⟨some 14, .move (Operand.tmp 0), none, 0⟩,
 ⟨some 15, .move (Operand.tmp 1), none, 0⟩,
 ⟨some 16, .binOp BinOp.lss 9 (Operand.tmp 14) (Operand.tmp 15) 9, none, 0⟩])
 (.cond (Operand.tmp 16)
 (.seq
 (.ops [⟨some 4, .assign (Operand.const (Value.int IntKind.i64 (-1))), none, 0⟩])
 .ret)
 .skip))
 (.seq
 (.seq
 (.ops [⟨some 17, .move (Operand.tmp 0), none, 0⟩,
 ⟨some 18, .move (Operand.tmp 1), none, 0⟩,
 ⟨some 19, .binOp BinOp.gtr 9 (Operand.tmp 17) (Operand.tmp 18) 9, none, 0⟩])
 (.cond (Operand.tmp 19)
 (.seq
 (.ops [⟨some 4, .assign (Operand.const (Value.int IntKind.i64 1)), none, 0⟩])
 .ret)
 .skip))
 (.seq
 (.ops [⟨some 4, .assign (Operand.const (Value.int IntKind.i64 0)), none, 0⟩])
 .ret))))))))
abbrev R22 : List ResultVar := [ResultVar.tmp 4]
theorem ok22 : FnOK Tryd.prog 22 L22 R22 2 := ⟨_, _, Tryd.func22, rfl, by kernel_rfl, by kernel_rfl, by kernel_rfl, by kernel_rfl, Nat.le_of_ble_eq_true (by kernel_rfl), by kernel_rfl⟩

/-- ablaut/syms.ValidateWord -/
def L23 : LCode :=
 (.seq
 (.ops [⟨some 2, .assign (Operand.const (Value.int IntKind.i64 0)), none, 0⟩])
 (.seq
 (.block 0
 (.seq
 (.ops [⟨some 4, .move (Operand.tmp 0), none, 0⟩,
 ⟨some 5, .call ⟨(Callee.builtin Builtin.len), [(Operand.tmp 4)].toArray, #[23]⟩, none, 0⟩,
 ⟨some 6, .binOp BinOp.gtr 3 (Operand.tmp 5) (Operand.const (Value.int IntKind.i64 60)) 3, none, 0⟩,
 ⟨some 7, .move (Operand.tmp 6), none, 0⟩,
 ⟨some 8, .move (Operand.tmp 0), some (7, false), 0⟩,
 ⟨some 9, .call ⟨(Callee.value (Operand.func 36)), [(Operand.tmp 8), (Operand.func 37)].toArray, #[23, 62]⟩, some (7, false), 0⟩,
 ⟨some 10, .pick (Operand.tmp 7) (Operand.const (Value.bool true)) (Operand.tmp 9), none, 0⟩,
 ⟨some 3, .assign (Operand.tmp 10), none, 0⟩])
 (.cond (Operand.tmp 3)
 (.seq
 (.ops [⟨some 2, .assign (Operand.const (Value.int IntKind.i64 3)), none, 0⟩])
 .ret)
 (.seq
 (.ops [⟨some 12, .move (Operand.tmp 0), none, 0⟩,
 ⟨some 13, .call ⟨(Callee.value (Operand.func 36)), [(Operand.tmp 12), (Operand.func 38)].toArray, #[23, 62]⟩, none, 0⟩,
 ⟨some 11, .assign (Operand.tmp 13), none, 0⟩])
 (.cond (Operand.tmp 11)
 (.seq
 (.ops [⟨some 2, .assign (Operand.const (Value.int IntKind.i64 1)), none, 0⟩])
 .ret)
 .skip)))))
 (.seq
 (.ops [⟨some 2, .assign (Operand.const (Value.int IntKind.i64 0)), none, 0⟩])
 .ret)))
abbrev R23 : List ResultVar := [ResultVar.tmp 2]
theorem ok23 : FnOK Tryd.prog 23 L23 R23 1 := ⟨_, _, Tryd.func23, rfl, by kernel_rfl, by kernel_rfl, by kernel_rfl, by kernel_rfl, Nat.le_of_ble_eq_true (by kernel_rfl), by kernel_rfl⟩

/-- (*ablaut/guess.Guesser).none -/
def L24 : LCode :=
 (.seq
 (.ops [⟨some 2, .assign (Operand.const (Value.bool false)), none, 0⟩])
 (.seq
 (.ops [⟨some 3, .move (Operand.tmp 0), none, 0⟩,
 ⟨some 4, .binOp BinOp.eql 28 (Operand.tmp 3) (Operand.const (Value.pointer none)) 28, none, 0⟩,
 ⟨some 5, .move (Operand.tmp 4), none, 0⟩,
 ⟨some 6, .move (Operand.tmp 0), some (5, false), 0⟩,
 ⟨some 7, .call ⟨(Callee.value (Operand.func 15)), [(Operand.tmp 6)].toArray, #[28]⟩, some (5, false), 0⟩,
 ⟨some 8, .binOp BinOp.eql 3 (Operand.tmp 7) (Operand.const (Value.int IntKind.i64 0)) 3, some (5, false), 0⟩,
 ⟨some 9, .pick (Operand.tmp 5) (Operand.const (Value.bool true)) (Operand.tmp 8), none, 0⟩,
 ⟨some 2, .assign (Operand.tmp 9), none, 0⟩])
 .ret))
abbrev R24 : List ResultVar := [ResultVar.tmp 2]
theorem ok24 : FnOK Tryd.prog 24 L24 R24 1 := ⟨_, _, Tryd.func24, rfl, by kernel_rfl, by kernel_rfl, by kernel_rfl, by kernel_rfl, Nat.le_of_ble_eq_true (by kernel_rfl), by kernel_rfl⟩

/-- (*ablaut/guess.Guesser).chance -/
def L25 : LCode :=
 (.seq
 (.ops [⟨some 6, .alloc 59, none, 0⟩])
 (.seq
 (.draw [⟨some 10, .move (Operand.tmp 0), none, 0⟩,
 ⟨some 11, .nilCheck (Operand.tmp 10), none, 0⟩,
 ⟨some 12, .fieldAddr 43 (Operand.tmp 11) 1, none, 0⟩,
 ⟨some 13, .load 41 (Operand.tmp 12), none, 0⟩,
 ⟨some 14, .lookup 41 (Operand.tmp 13) (Operand.const (Value.string ⟨#[]⟩)) false, none, 0⟩,
 ⟨some 15, .move (Operand.tmp 2), none, 0⟩,
 ⟨some 16, .lookup 57 (Operand.tmp 14) (Operand.tmp 15) false, none, 0⟩,
 ⟨some 17, .move (Operand.tmp 0), none, 0⟩,
 ⟨some 18, .call ⟨(Callee.value (Operand.func 15)), [(Operand.tmp 17)].toArray, #[28]⟩, none, 0⟩,
 ⟨some 19, .build 59 [(0, (Operand.tmp 16)), (1, (Operand.tmp 18))].toArray, none, 0⟩,
 ⟨some 7, .alloc 59, none, 0⟩,
 ⟨none, .store 59 (Operand.tmp 7) (Operand.tmp 19), none, 0⟩] true [11] [])
 (.seq
 (.seq
 (.ops [⟨some 8, .assign (Operand.const (Value.int IntKind.i64 1)), none, 0⟩])
 (.block 0
 (.loop
 (.seq
 (.seq
 (.ops [⟨some 20, .move (Operand.tmp 8), none, 0⟩,
 ⟨some 21, .move (Operand.tmp 1), none, 0⟩,
 ⟨some 22, .call ⟨(Callee.builtin Builtin.len), [(Operand.tmp 21)].toArray, #[23]⟩, none, 0⟩,
 ⟨some 23, .call ⟨(Callee.builtin Builtin.min), [(Operand.tmp 22), (Operand.const (Value.int IntKind.i64 4))].toArray, #[3, 3]⟩, none, 0⟩,
 ⟨some 24, .binOp BinOp.leq 3 (Operand.tmp 20) (Operand.tmp 23) 3, none, 0⟩])
 (.cond (Operand.tmp 24)
 .skip
 (.exit 0)))
 (.seq
 (.block 1
 (.seq
 (.draw [⟨some 27, .move (Operand.tmp 0), none, 0⟩,
 ⟨some 28, .nilCheck (Operand.tmp 27), none, 0⟩,
 ⟨some 29, .fieldAddr 43 (Operand.tmp 28) 1, none, 0⟩,
 ⟨some 30, .load 41 (Operand.tmp 29), none, 0⟩,
 ⟨some 31, .move (Operand.tmp 1), none, 0⟩,
 ⟨some 32, .move (Operand.tmp 1), none, 0⟩,
 ⟨some 33, .call ⟨(Callee.builtin Builtin.len), [(Operand.tmp 32)].toArray, #[23]⟩, none, 0⟩,
 ⟨some 34, .move (Operand.tmp 8), none, 0⟩,
 ⟨some 35, .binOp BinOp.sub 3 (Operand.tmp 33) (Operand.tmp 34) 3, none, 0⟩,
 ⟨some 36, .slice 23 (Operand.tmp 31) (some (Operand.tmp 35)) none none, none, 0⟩,
 ⟨some 37, .call ⟨(Callee.value (Operand.func 16)), [(Operand.tmp 36)].toArray, #[23]⟩, none, 0⟩,
 ⟨some 38, .lookup 41 (Operand.tmp 30) (Operand.tmp 37) false, none, 0⟩,
 ⟨some 9, .assign (Operand.tmp 38), none, 0⟩] true [11, 12] [])
 (.seq
 (.seq
 (.ops [⟨some 39, .move (Operand.tmp 9), none, 0⟩,
 ⟨some 40, .binOp BinOp.eql 57 (Operand.tmp 39) (Operand.const (Value.map none)) 57, none, 0⟩])
 (.cond (Operand.tmp 40)
 (.exit 0)
 .skip))
 (.ops [⟨some 41, .move (Operand.tmp 9), none, 0⟩,
 ⟨some 42, .move (Operand.tmp 2), none, 0⟩,
 ⟨some 43, .lookup 57 (Operand.tmp 41) (Operand.tmp 42) false, none, 0⟩,
 ⟨some 44, .fieldAddr 59 (Operand.tmp 7) 1, none, 0⟩,
 ⟨some 45, .load 3 (Operand.tmp 44), none, 0⟩,
 ⟨some 46, .binOp BinOp.mul 3 (Operand.tmp 43) (Operand.tmp 45) 3, none, 0⟩,
 ⟨some 47, .fieldAddr 59 (Operand.tmp 7) 0, none, 0⟩,
 ⟨some 48, .load 3 (Operand.tmp 47), none, 0⟩,
 ⟨some 49, .binOp BinOp.add 3 (Operand.tmp 46) (Operand.tmp 48) 3, none, 0⟩,
 ⟨some 50, .fieldAddr 59 (Operand.tmp 7) 1, none, 0⟩,
 ⟨some 51, .load 3 (Operand.tmp 50), none, 0⟩,
 ⟨some 52, .move (Operand.tmp 9), none, 0⟩,
 ⟨some 53, .lookup 57 (Operand.tmp 52) (Operand.const (Value.string ⟨#[]⟩)) false, none, 0⟩,
 ⟨some 54, .binOp BinOp.add 3 (Operand.tmp 53) (Operand.const (Value.int IntKind.i64 1)) 3, none, 0⟩,
 ⟨some 55, .binOp BinOp.mul 3 (Operand.tmp 51) (Operand.tmp 54) 3, none, 0⟩,
 ⟨some 56, .build 59 [(0, (Operand.tmp 49)), (1, (Operand.tmp 55))].toArray, none, 0⟩,
 ⟨none, .store 59 (Operand.tmp 7) (Operand.tmp 56), none, 0⟩]))))
 (.ops [⟨some 25, .move (Operand.tmp 8), none, 0⟩,
 ⟨some 26, .binOp BinOp.add 3 (Operand.tmp 25) (Operand.const (Value.int IntKind.i64 1)) 3, none, 0⟩,
 ⟨some 8, .assign (Operand.tmp 26), none, 0⟩]))))))
 (.seq
 (.ops [⟨some 57, .load 59 (Operand.tmp 7), none, 0⟩,
 ⟨none, .store 59 (Operand.tmp 6) (Operand.tmp 57), none, 0⟩])
 .ret))))
abbrev R25 : List ResultVar := [ResultVar.cell 6 59]
theorem ok25 : FnOK Tryd.prog 25 L25 R25 3 := ⟨_, _, Tryd.func25, rfl, by kernel_rfl, by kernel_rfl, by kernel_rfl, by kernel_rfl, Nat.le_of_ble_eq_true (by kernel_rfl), by kernel_rfl⟩

/-- (ablaut/guess.fraction).least -/
def L26 : LCode :=
 (.seq
 (.ops [⟨some 1, .box 59 (Operand.tmp 0), none, 0⟩,
 ⟨some 2, .alloc 59, none, 0⟩])
 (.seq
 (.draw [⟨some 5, .fieldAddr 59 (Operand.tmp 1) 0, none, 0⟩,
 ⟨some 6, .load 3 (Operand.tmp 5), none, 0⟩,
 ⟨some 7, .fieldAddr 59 (Operand.tmp 1) 1, none, 0⟩,
 ⟨some 8, .load 3 (Operand.tmp 7), none, 0⟩,
 ⟨some 3, .assign (Operand.tmp 6), none, 0⟩,
 ⟨some 4, .assign (Operand.tmp 8), none, 0⟩] true [5] [0, 2, 1, 3, 4, 5])
 (.seq
 (.block 0
 (.loop
 (.seq
 (.seq
 (.ops [⟨some 9, .move (Operand.tmp 4), none, 0⟩,
 ⟨some 10, .binOp BinOp.neq 3 (Operand.tmp 9) (Operand.const (Value.int IntKind.i64 0)) 3, none, 0⟩])
 (.cond (Operand.tmp 10)
 .skip
 (.exit 0)))
 (.block 1
 (.draw [⟨some 11, .move (Operand.tmp 4), none, 0⟩,
 ⟨some 12, .move (Operand.tmp 3), none, 0⟩,
 ⟨some 13, .move (Operand.tmp 4), none, 0⟩,
 ⟨some 14, .binOp BinOp.rem 3 (Operand.tmp 12) (Operand.tmp 13) 3, none, 0⟩,
 ⟨some 3, .assign (Operand.tmp 11), none, 0⟩,
 ⟨some 4, .assign (Operand.tmp 14), none, 0⟩] true [5] [0, 1, 2, 3, 4, 5])))))
 (.seq
 (.draw [⟨some 15, .fieldAddr 59 (Operand.tmp 1) 0, none, 0⟩,
 ⟨some 16, .load 3 (Operand.tmp 15), none, 0⟩,
 ⟨some 17, .move (Operand.tmp 3), none, 0⟩,
 ⟨some 18, .binOp BinOp.quo 3 (Operand.tmp 16) (Operand.tmp 17) 3, none, 0⟩,
 ⟨some 19, .fieldAddr 59 (Operand.tmp 1) 1, none, 0⟩,
 ⟨some 20, .load 3 (Operand.tmp 19), none, 0⟩,
 ⟨some 21, .move (Operand.tmp 3), none, 0⟩,
 ⟨some 22, .binOp BinOp.quo 3 (Operand.tmp 20) (Operand.tmp 21) 3, none, 0⟩,
 ⟨some 23, .build 59 [(0, (Operand.tmp 18)), (1, (Operand.tmp 22))].toArray, none, 0⟩,
 ⟨none, .store 59 (Operand.tmp 2) (Operand.tmp 23), none, 0⟩] true [8, 9] [0, 2, 4, 6, 1, 3, 5, 7, 8, 9])
 .ret))))
abbrev R26 : List ResultVar := [ResultVar.cell 2 59]
theorem ok26 : FnOK Tryd.prog 26 L26 R26 1 := ⟨_, _, Tryd.func26, rfl, by kernel_rfl, by kernel_rfl, by kernel_rfl, by kernel_rfl, Nat.le_of_ble_eq_true (by kernel_rfl), by kernel_rfl⟩

/-- ablaut/guess.isName -/
def L27 : LCode :=
 (.seq
 (.ops [⟨some 2, .assign (Operand.const (Value.bool false)), none, 0⟩])
 (.seq
 (.seq
 (.ops [⟨some 5, .move (Operand.tmp 0), none, 0⟩,
 ⟨some 6, .call ⟨(Callee.builtin Builtin.len), [(Operand.tmp 5)].toArray, #[9]⟩, none, 0⟩,
 ⟨some 7, .move (Operand.const (Value.int IntKind.i64 0)), none, 0⟩])
 (.block 0
 (.loop
 (.seq
 (.ops [⟨some 8, .binOp BinOp.lss 3 (Operand.tmp 7) (Operand.tmp 6) 3, none, 0⟩])
 (.seq
 (.cond (Operand.tmp 8)
 .skip
 (.exit 0))
 (.seq
 (.block 1
 (.seq
 (.ops [⟨some 9, .move (Operand.tmp 7), none, 0⟩,
 ⟨some 3, .assign (Operand.tmp 9), none, 0⟩])
 (.seq
 (.ops [⟨some 10, .move (Operand.tmp 0), none, 0⟩,
 ⟨some 11, .move (Operand.tmp 3), none, 0⟩,
 ⟨some 12, .index 9 (Operand.tmp 10) (Operand.tmp 11), none, 0⟩,
 ⟨some 13, .binOp BinOp.or 5 (Operand.tmp 12) (Operand.const (Value.int IntKind.u8 32)) 5, none, 0⟩,
 ⟨some 4, .assign (Operand.tmp 13), none, 0⟩])
 (.seq
 (.ops [⟨some 14, .move (Operand.tmp 4), none, 0⟩,
 ⟨some 15, .binOp BinOp.lss 5 (Operand.tmp 14) (Operand.const (Value.int IntKind.u8 97)) 5, none, 0⟩,
 ⟨some 16, .move (Operand.tmp 15), none, 0⟩,
 ⟨some 17, .move (Operand.tmp 4), some (16, false), 0⟩,
 ⟨some 18, .binOp BinOp.gtr 5 (Operand.tmp 17) (Operand.const (Value.int IntKind.u8 122)) 5, some (16, false), 0⟩,
 ⟨some 19, .pick (Operand.tmp 16) (Operand.const (Value.bool true)) (Operand.tmp 18), none, 0⟩,
 ⟨some 20, .move (Operand.tmp 19), none, 0⟩,
 ⟨some 21, .move (Operand.tmp 3), some (20, true), 0⟩,
 ⟨some 22, .binOp BinOp.eql 3 (Operand.tmp 21) (Operand.const (Value.int IntKind.i64 0)) 3, some (20, true), 0⟩,
 ⟨some 23, .move (Operand.tmp 22), some (20, true), 0⟩,
 ⟨some 24, .move (Operand.tmp 0), some (23, false), 0⟩,
 ⟨some 25, .move (Operand.tmp 3), some (23, false), 0⟩,
 ⟨some 26, .index 9 (Operand.tmp 24) (Operand.tmp 25), some (23, false), 0⟩,
 ⟨some 27, .binOp BinOp.lss 5 (Operand.tmp 26) (Operand.const (Value.int IntKind.u8 48)) 5, some (23, false), 0⟩,
 ⟨some 28, .pick (Operand.tmp 23) (Operand.const (Value.bool true)) (Operand.tmp 27), some (20, true), 0⟩,
 ⟨some 29, .move (Operand.tmp 28), some (20, true), 0⟩,
 ⟨some 30, .move (Operand.tmp 0), some (29, false), 0⟩,
 ⟨some 31, .move (Operand.tmp 3), some (29, false), 0⟩,
 ⟨some 32, .index 9 (Operand.tmp 30) (Operand.tmp 31), some (29, false), 0⟩,
 ⟨some 33, .binOp BinOp.gtr 5 (Operand.tmp 32) (Operand.const (Value.int IntKind.u8 57)) 5, some (29, false), 0⟩,
 ⟨some 34, .pick (Operand.tmp 29) (Operand.const (Value.bool true)) (Operand.tmp 33), some (20, true), 0⟩,
 ⟨some 35, .pick (Operand.tmp 20) (Operand.tmp 34) (Operand.const (Value.bool false)), none, 0⟩])
 (.cond (Operand.tmp 35)
 (.seq
 (.ops [⟨some 2, .assign (Operand.const (Value.bool false)), none, 0⟩])
 .ret)
 .skip)))))
 (.ops [⟨some 36, .binOp BinOp.add 3 (Operand.tmp 7) (Operand.const (Value.int IntKind.i64 1)) 3, none, 0⟩,
 ⟨some 7, .move (Operand.tmp 36), none, 0⟩])))))))
 (.seq
 (.ops [⟨some 37, .move (Operand.tmp 0), none, 0⟩,
 ⟨some 38, .binOp BinOp.neq 9 (Operand.tmp 37) (Operand.const (Value.string ⟨#[]⟩)) 9, none, 0⟩,
 ⟨some 39, .move (Operand.tmp 38), none, 0⟩,
 ⟨some 40, .move (Operand.tmp 0), some (39, true), 0⟩,
 ⟨some 41, .call ⟨(Callee.builtin Builtin.len), [(Operand.tmp 40)].toArray, #[9]⟩, some (39, true), 0⟩,
 ⟨some 42, .binOp BinOp.leq 3 (Operand.tmp 41) (Operand.const (Value.int IntKind.i64 12)) 3, some (39, true), 0⟩,
 ⟨some 43, .pick (Operand.tmp 39) (Operand.tmp 42) (Operand.const (Value.bool false)), none, 0⟩,
 ⟨some 2, .assign (Operand.tmp 43), none, 0⟩])
 .ret)))
abbrev R27 : List ResultVar := [ResultVar.tmp 2]
theorem ok27 : FnOK Tryd.prog 27 L27 R27 1 := ⟨_, _, Tryd.func27, rfl, by kernel_rfl, by kernel_rfl, by kernel_rfl, by kernel_rfl, Nat.le_of_ble_eq_true (by kernel_rfl), by kernel_rfl⟩

/-- strings.Join -/
def L28 : LCode :=
 (.seq
 (.ops [⟨some 4, .assign (Operand.const (Value.string ⟨#[]⟩)), none, 0⟩])
 (.seq
 (.seq
 (.ops [⟨some 11, .move (Operand.tmp 0), none, 0⟩,
 ⟨some 12, .call ⟨(Callee.builtin Builtin.len), [(Operand.tmp 11)].toArray, #[23]⟩, none, 0⟩])
 (.block 0
 (.seq
 (.ops [⟨some 14, .binOp BinOp.eql 3 (Operand.tmp 12) (Operand.const (Value.int IntKind.i64 0)) 3, none, 0⟩,
 ⟨some 13, .assign (Operand.tmp 14), none, 0⟩])
 (.cond (Operand.tmp 13)
 (.seq
 (.ops [⟨some 4, .assign (Operand.const (Value.string ⟨#[]⟩)), none, 0⟩])
 .ret)
 (.seq
 (.ops [⟨some 16, .binOp BinOp.eql 3 (Operand.tmp 12) (Operand.const (Value.int IntKind.i64 1)) 3, none, 0⟩,
 ⟨some 15, .assign (Operand.tmp 16), none, 0⟩])
 (.cond (Operand.tmp 15)
 (.seq
 (.ops [⟨some 17, .move (Operand.tmp 0), none, 0⟩,
 ⟨some 18, .indexAddr 23 (Operand.tmp 17) (Operand.const (Value.int IntKind.i64 0)), none, 0⟩,
 ⟨some 19, .load 9 (Operand.tmp 18), none, 0⟩,
 ⟨some 4, .assign (Operand.tmp 19), none, 0⟩])
 .ret)
 .skip))))))
 (.seq
 (.ops [⟨some 5, .assign (Operand.const (Value.int IntKind.i64 0)), none, 0⟩])
 (.seq
 (.seq
 (.ops [⟨some 20, .move (Operand.tmp 1), none, 0⟩,
 ⟨some 21, .call ⟨(Callee.builtin Builtin.len), [(Operand.tmp 20)].toArray, #[9]⟩, none, 0⟩,
 ⟨some 22, .binOp BinOp.gtr 3 (Operand.tmp 21) (Operand.const (Value.int IntKind.i64 0)) 3, none, 0⟩])
 (.cond (Operand.tmp 22)
 (.seq
 (.seq
 (.ops [⟨some 23, .move (Operand.tmp 1), none, 0⟩,
 ⟨some 24, .call ⟨(Callee.builtin Builtin.len), [(Operand.tmp 23)].toArray, #[9]⟩, none, 0⟩,
 ⟨some 25, .move (Operand.tmp 0), none, 0⟩,
 ⟨some 26, .call ⟨(Callee.builtin Builtin.len), [(Operand.tmp 25)].toArray, #[23]⟩, none, 0⟩,
 ⟨some 27, .binOp BinOp.sub 3 (Operand.tmp 26) (Operand.const (Value.int IntKind.i64 1)) 3, none, 0⟩,
 ⟨some 28, .binOp BinOp.quo 3 (Operand.const (Value.int IntKind.i64 9223372036854775807)) (Operand.tmp 27) 3, none, 0⟩,
 ⟨some 29, .binOp BinOp.geq 3 (Operand.tmp 24) (Operand.tmp 28) 3, none, 0⟩])
 (.cond (Operand.tmp 29)
 (.ops [⟨some 30, .makeInterface 9 (Operand.const (Value.string ⟨#[115, 116, 114, 105, 110, 103, 115, 58, 32, 74, 111, 105, 110, 32, 111, 117, 116, 112, 117, 116, 32, 108, 101, 110, 103, 116, 104, 32, 111, 118, 101, 114, 102, 108, 111, 119]⟩)), none, 0⟩,
 ⟨none, .panic (Operand.tmp 30), none, 0⟩])
 .skip))
 (.ops [⟨some 31, .move (Operand.tmp 5), none, 0⟩,
 ⟨some 32, .move (Operand.tmp 1), none, 0⟩,
 ⟨some 33, .call ⟨(Callee.builtin Builtin.len), [(Operand.tmp 32)].toArray, #[9]⟩, none, 0⟩,
 ⟨some 34, .move (Operand.tmp 0), none, 0⟩,
 ⟨some 35, .call ⟨(Callee.builtin Builtin.len), [(Operand.tmp 34)].toArray, #[23]⟩, none, 0⟩,
 ⟨some 36, .binOp BinOp.sub 3 (Operand.tmp 35) (Operand.const (Value.int IntKind.i64 1)) 3, none, 0⟩,
 ⟨some 37, .binOp BinOp.mul 3 (Operand.tmp 33) (Operand.tmp 36) 3, none, 0⟩,
 ⟨some 38, .binOp BinOp.add 3 (Operand.tmp 31) (Operand.tmp 37) 3, none, 0⟩,
 ⟨some 5, .assign (Operand.tmp 38), none, 0⟩]))
 .skip))
 (.seq
 (.seq
 (.ops [⟨some 39, .move (Operand.tmp 0), none, 0⟩,
 ⟨some 40, .call ⟨(Callee.builtin Builtin.len), [(Operand.tmp 39)].toArray, #[23]⟩, none, 0⟩,
 ⟨some 41, .move (Operand.const (Value.int IntKind.i64 0)), none, 0⟩])
 (.block 1
 (.loop
 (.seq
 (.ops [⟨some 42, .binOp BinOp.lss 3 (Operand.tmp 41) (Operand.tmp 40) 3, none, 0⟩])
 (.seq
 (.cond (Operand.tmp 42)
 .skip
 (.exit 1))
 (.seq
 (.block 2
 (.seq
 (.ops [⟨some 43, .indexAddr 23 (Operand.tmp 39) (Operand.tmp 41), none, 0⟩,
 ⟨some 44, .load 9 (Operand.tmp 43), none, 0⟩,
 ⟨some 7, .assign (Operand.tmp 44), none, 0⟩])
 (.seq
 (.seq
 (.ops [⟨some 45, .move (Operand.tmp 7), none, 0⟩,
 ⟨some 46, .call ⟨(Callee.builtin Builtin.len), [(Operand.tmp 45)].toArray, #[9]⟩, none, 0⟩,
 ⟨some 47, .move (Operand.tmp 5), none, 0⟩,
 ⟨some 48, .binOp BinOp.sub 3 (Operand.const (Value.int IntKind.i64 9223372036854775807)) (Operand.tmp 47) 3, none, 0⟩,
 ⟨some 49, .binOp BinOp.gtr 3 (Operand.tmp 46) (Operand.tmp 48) 3, none, 0⟩])
 (.cond (Operand.tmp 49)
 (.ops [⟨some 50, .makeInterface 9 (Operand.const (Value.string ⟨#[115, 116, 114, 105, 110, 103, 115, 58, 32, 74, 111, 105, 110, 32, 111, 117, 116, 112, 117, 116, 32, 108, 101, 110, 103, 116, 104, 32, 111, 118, 101, 114, 102, 108, 111, 119]⟩)), none, 0⟩,
 ⟨none, .panic (Operand.tmp 50), none, 0⟩])
 .skip))
 (.ops [⟨some 51, .move (Operand.tmp 5), none, 0⟩,
 ⟨some 52, .move (Operand.tmp 7), none, 0⟩,
 ⟨some 53, .call ⟨(Callee.builtin Builtin.len), [(Operand.tmp 52)].toArray, #[9]⟩, none, 0⟩,
 ⟨some 54, .binOp BinOp.add 3 (Operand.tmp 51) (Operand.tmp 53) 3, none, 0⟩,
 ⟨some 5, .assign (Operand.tmp 54), none, 0⟩]))))
 (.ops [⟨some 55, .binOp BinOp.add 3 (Operand.tmp 41) (Operand.const (Value.int IntKind.i64 1)) 3, none, 0⟩,
 ⟨some 41, .move (Operand.tmp 55), none, 0⟩])))))))
 (.seq
 (.ops [⟨some 8, .alloc 73, none, 0⟩])
 (.seq
 (.ops [⟨some 56, .move (Operand.tmp 5), none, 0⟩,
 ⟨some 57, .call ⟨(Callee.value (Operand.func 40)), [(Operand.tmp 8), (Operand.tmp 56)].toArray, #[73, 3]⟩, none, 0⟩])
 (.seq
 (.ops [⟨some 58, .move (Operand.tmp 0), none, 0⟩,
 ⟨some 59, .indexAddr 23 (Operand.tmp 58) (Operand.const (Value.int IntKind.i64 0)), none, 0⟩,
 ⟨some 60, .load 9 (Operand.tmp 59), none, 0⟩,
 ⟨some 61, .call ⟨(Callee.value (Operand.func 41)), [(Operand.tmp 8), (Operand.tmp 60)].toArray, #[73, 9]⟩, none, 0⟩])
 (.seq
 (.seq
 (.ops [⟨some 62, .move (Operand.tmp 0), none, 0⟩,
 ⟨some 63, .slice 23 (Operand.tmp 62) (some (Operand.const (Value.int IntKind.i64 1))) none none, none, 0⟩,
 ⟨some 64, .call ⟨(Callee.builtin Builtin.len), [(Operand.tmp 63)].toArray, #[23]⟩, none, 0⟩,
 ⟨some 65, .move (Operand.const (Value.int IntKind.i64 0)), none, 0⟩])
 (.block 3
 (.loop
 (.seq
 (.ops [⟨some 66, .binOp BinOp.lss 3 (Operand.tmp 65) (Operand.tmp 64) 3, none, 0⟩])
 (.seq
 (.cond (Operand.tmp 66)
 .skip
 (.exit 3))
 (.seq
 (.block 4
 (.seq
 (.ops [⟨some 67, .indexAddr 23 (Operand.tmp 63) (Operand.tmp 65), none, 0⟩,
 ⟨some 68, .load 9 (Operand.tmp 67), none, 0⟩,
 ⟨some 10, .assign (Operand.tmp 68), none, 0⟩])
 (.seq
 (.ops [⟨some 69, .move (Operand.tmp 1), none, 0⟩,
 ⟨some 70, .call ⟨(Callee.value (Operand.func 41)), [(Operand.tmp 8), (Operand.tmp 69)].toArray, #[73, 9]⟩, none, 0⟩])
 (.ops [⟨some 71, .move (Operand.tmp 10), none, 0⟩,
 ⟨some 72, .call ⟨(Callee.value (Operand.func 41)), [(Operand.tmp 8), (Operand.tmp 71)].toArray, #[73, 9]⟩, none, 0⟩]))))
 (.ops [⟨some 73, .binOp BinOp.add 3 (Operand.tmp 65) (Operand.const (Value.int IntKind.i64 1)) 3, none, 0⟩,
 ⟨some 65, .move (Operand.tmp 73), none, 0⟩])))))))
 (.seq
 (.ops [⟨some 74, .call ⟨(Callee.value (Operand.func 42)), [(Operand.tmp 8)].toArray, #[73]⟩, none, 0⟩,
 ⟨some 4, .assign (Operand.tmp 74), none, 0⟩])
 .ret))))))))))
abbrev R28 : List ResultVar := [ResultVar.tmp 4]
theorem ok28 : FnOK Tryd.prog 28 L28 R28 2 := ⟨_, _, Tryd.func28, rfl, by kernel_rfl, by kernel_rfl, by kernel_rfl, by kernel_rfl, Nat.le_of_ble_eq_true (by kernel_rfl), by kernel_rfl⟩

/-- ablaut/ablautref01.Order -/
def L29 : LCode :=
 (.seq
 (.ops [⟨some 4, .assign (Operand.const (Value.int IntKind.i64 0)), none, 0⟩])
 (.seq
 (.seq
 (.ops [⟨some 5, .assign (Operand.const (Value.int IntKind.i64 0)), none, 0⟩])
 (.block 0
 (.loop
 (.seq
 (.seq
 (.ops [⟨some 6, .move (Operand.tmp 5), none, 0⟩,
 ⟨some 7, .move (Operand.tmp 0), none, 0⟩,
 ⟨some 8, .call ⟨(Callee.builtin Builtin.len), [(Operand.tmp 7)].toArray, #[23]⟩, none, 0⟩,
 ⟨some 9, .binOp BinOp.lss 3 (Operand.tmp 6) (Operand.tmp 8) 3, none, 0⟩,
 ⟨some 10, .move (Operand.tmp 9), none, 0⟩,
 ⟨some 11, .move (Operand.tmp 5), some (10, true), 0⟩,
 ⟨some 12, .move (Operand.tmp 1), some (10, true), 0⟩,
 ⟨some 13, .call ⟨(Callee.builtin Builtin.len), [(Operand.tmp 12)].toArray, #[23]⟩, some (10, true), 0⟩,
 ⟨some 14, .binOp BinOp.lss 3 (Operand.tmp 11) (Operand.tmp 13) 3, some (10, true), 0⟩,
 ⟨some 15, .pick (Operand.tmp 10) (Operand.tmp 14) (Operand.const (Value.bool false)), none, 0⟩])
 (.cond (Operand.tmp 15)
 .skip
 (.exit 0)))
 (.seq
 (.block 1
 (.seq
 (.seq
 (.draw [⟨some 18, .move (Operand.tmp 0), none, 0⟩,
 ⟨some 19, .move (Operand.tmp 5), none, 0⟩,
 ⟨some 20, .indexAddr 23 (Operand.tmp 18) (Operand.tmp 19), none, 0⟩,
 ⟨some 21, .load 9 (Operand.tmp 20), none, 0⟩,
 ⟨some 22, .move (Operand.tmp 1), none, 0⟩,
 ⟨some 23, .move (Operand.tmp 5), none, 0⟩,
 ⟨some 24, .indexAddr 23 (Operand.tmp 22) (Operand.tmp 23), none, 0⟩,
 ⟨some 25, .load 9 (Operand.tmp 24), none, 0⟩,
 ⟨some 26, .binOp BinOp.lss 9 (Operand.tmp 21) (Operand.tmp 25) 9, none, 0⟩] true [8] [0, 1, 2, 4, 5, 6, 3, 7, 8])
 (.cond (Operand.tmp 26)
 (.seq
 (.ops [⟨some 4, .assign (Operand.const (Value.int IntKind.i64 (-1))), none, 0⟩])
 .ret)
 .skip))
 (.seq
 (.draw [⟨some 27, .move (Operand.tmp 0), none, 0⟩,
 ⟨some 28, .move (Operand.tmp 5), none, 0⟩,
 ⟨some 29, .indexAddr 23 (Operand.tmp 27) (Operand.tmp 28), none, 0⟩,
 ⟨some 30, .load 9 (Operand.tmp 29), none, 0⟩,
 ⟨some 31, .move (Operand.tmp 1), none, 0⟩,
 ⟨some 32, .move (Operand.tmp 5), none, 0⟩,
 ⟨some 33, .indexAddr 23 (Operand.tmp 31) (Operand.tmp 32), none, 0⟩,
 ⟨some 34, .load 9 (Operand.tmp 33), none, 0⟩,
 ⟨some 35, .binOp BinOp.gtr 9 (Operand.tmp 30) (Operand.tmp 34) 9, none, 0⟩] true [8] [0, 1, 2, 4, 5, 6, 3, 7, 8])
 (.cond (Operand.tmp 35)
 (.seq
 (.ops [⟨some 4, .assign (Operand.const (Value.int IntKind.i64 1)), none, 0⟩])
 .ret)
 .skip))))
 (.ops [⟨some 16, .move (Operand.tmp 5), none, 0⟩,
 ⟨some 17, .binOp BinOp.add 3 (Operand.tmp 16) (Operand.const (Value.int IntKind.i64 1)) 3, none, 0⟩,
 ⟨some 5, .assign (Operand.tmp 17), none, 0⟩]))))))
 (.seq
 (.block 2
 (.seq
 (.ops [⟨some 37, .move (Operand.tmp 0), none, 0⟩,
 ⟨some 38, .call ⟨(Callee.builtin Builtin.len), [(Operand.tmp 37)].toArray, #[23]⟩, none, 0⟩,
 ⟨some 39, .move (Operand.tmp 1), none, 0⟩,
 ⟨some 40, .call ⟨(Callee.builtin Builtin.len), [(Operand.tmp 39)].toArray, #[23]⟩, none, 0⟩,
 ⟨some 41, .binOp BinOp.lss 3 (Operand.tmp 38) (Operand.tmp 40) 3, none, 0⟩,
 ⟨some 36, .assign (Operand.tmp 41), none, 0⟩])
 (.cond (Operand.tmp 36)
 (.seq
 (.ops [⟨some 4, .assign (Operand.const (Value.int IntKind.i64 (-1))), none, 0⟩])
 .ret)
 (.seq
 (.ops [⟨some 43, .move (Operand.tmp 0), none, 0⟩,
 ⟨some 44, .call ⟨(Callee.builtin Builtin.len), [(Operand.tmp 43)].toArray, #[23]⟩, none, 0⟩,
 ⟨some 45, .move (Operand.tmp 1), none, 0⟩,
 ⟨some 46, .call ⟨(Callee.builtin Builtin.len), [(Operand.tmp 45)].toArray, #[23]⟩, none, 0⟩,
 ⟨some 47, .binOp BinOp.gtr 3 (Operand.tmp 44) (Operand.tmp 46) 3, none, 0⟩,
 ⟨some 42, .assign (Operand.tmp 47), none, 0⟩])
 (.cond (Operand.tmp 42)
 (.seq
 (.ops [⟨some 4, .assign (Operand.const (Value.int IntKind.i64 1)), none, 0⟩])
 .ret)
 .skip)))))
 (.seq
 (.ops [⟨some 4, .assign (Operand.const (Value.int IntKind.i64 0)), none, 0⟩])
 .ret))))
abbrev R29 : List ResultVar := [ResultVar.tmp 4]
theorem ok29 : FnOK Tryd.prog 29 L29 R29 2 := ⟨_, _, Tryd.func29, rfl, by kernel_rfl, by kernel_rfl, by kernel_rfl, by kernel_rfl, Nat.le_of_ble_eq_true (by kernel_rfl), by kernel_rfl⟩

/-- strings.Split -/
def L30 : LCode :=
 (.seq
 (.ops [⟨some 4, .assign (Operand.const (Value.slice none 0 0)), none, 0⟩])
 (.seq
 (.ops [⟨some 5, .move (Operand.tmp 0), none, 0⟩,
 ⟨some 6, .move (Operand.tmp 1), none, 0⟩,
 ⟨some 7, .call ⟨(Callee.value (Operand.func 43)), [(Operand.tmp 5), (Operand.tmp 6), (Operand.const (Value.int IntKind.i64 0)), (Operand.const (Value.int IntKind.i64 (-1)))].toArray, #[9, 9, 3, 3]⟩, none, 0⟩,
 ⟨some 4, .assign (Operand.tmp 7), none, 0⟩])
 .ret))
abbrev R30 : List ResultVar := [ResultVar.tmp 4]
theorem ok30 : FnOK Tryd.prog 30 L30 R30 2 := ⟨_, _, Tryd.func30, rfl, by kernel_rfl, by kernel_rfl, by kernel_rfl, by kernel_rfl, Nat.le_of_ble_eq_true (by kernel_rfl), by kernel_rfl⟩
end Go.Proofs.YthchlpikcpidaaaDoor.Vs
