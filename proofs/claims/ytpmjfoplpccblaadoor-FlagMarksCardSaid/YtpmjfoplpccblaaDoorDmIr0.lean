/- The seat's functions as the engine Dm reads them, written by dgen.py. -/
import Derived.Test.YtpmjfoplpccblaaDoorDmFn
import Derived.Test.YtpmjfoplpccblaaDoorProg
import Derived.KernelRfl
namespace Go.Proofs.YtpmjfoplpccblaaDoor.Vs
set_option linter.unusedVariables false
set_option maxRecDepth 100000
/-- ablaut/ablautlaw10.FlagMarks -/
def L3 : LCode :=
 (.seq
 (.ops [⟨some 2, .assign (Operand.const (Value.bool false)), none, 0⟩])
 (.seq
 (.seq
 (.ops [⟨some 8, .move (Operand.tmp 0), none, 0⟩,
 ⟨some 9, .buildSlice 31 1 [(0, (Operand.tmp 8))].toArray, none, 0⟩,
 ⟨some 10, .call ⟨(Callee.value (Operand.func 4)), [(Operand.tmp 9)].toArray, #[31]⟩, none, 0⟩])
 (.cond (Operand.tmp 10)
 (.seq
 (.ops [⟨some 11, .call ⟨(Callee.value (Operand.func 5)), [].toArray, #[]⟩, none, 0⟩,
 ⟨some 2, .assign (Operand.tmp 11), none, 0⟩])
 .ret)
 .skip))
 (.seq
 (.seq
 (.ops [⟨some 3, .assign (Operand.const (Value.int IntKind.i64 0)), none, 0⟩])
 (.block 0
 (.loop
 (.seq
 (.seq
 (.ops [⟨some 12, .move (Operand.tmp 3), none, 0⟩,
 ⟨some 13, .move (Operand.tmp 0), none, 0⟩,
 ⟨some 14, .call ⟨(Callee.builtin Builtin.len), [(Operand.tmp 13)].toArray, #[22]⟩, none, 0⟩,
 ⟨some 15, .binOp BinOp.lss 3 (Operand.tmp 12) (Operand.tmp 14) 3, none, 0⟩])
 (.cond (Operand.tmp 15)
 .skip
 (.exit 0)))
 (.seq
 (.block 1
 (.seq
 (.draw [⟨some 18, .move (Operand.tmp 0), none, 0⟩,
 ⟨some 19, .move (Operand.tmp 3), none, 0⟩,
 ⟨some 20, .indexAddr 22 (Operand.tmp 18) (Operand.tmp 19), none, 0⟩,
 ⟨some 21, .load 9 (Operand.tmp 20), none, 0⟩,
 ⟨some 22, .call ⟨(Callee.value (Operand.func 6)), [(Operand.tmp 21)].toArray, #[9]⟩, none, 0⟩,
 ⟨some 23, .move (Operand.tmp 0), none, 0⟩,
 ⟨some 24, .move (Operand.tmp 3), none, 0⟩,
 ⟨some 25, .indexAddr 22 (Operand.tmp 23) (Operand.tmp 24), none, 0⟩,
 ⟨some 26, .load 9 (Operand.tmp 25), none, 0⟩,
 ⟨some 27, .call ⟨(Callee.value (Operand.func 7)), [(Operand.tmp 26)].toArray, #[9]⟩, none, 0⟩,
 ⟨some 28, .binOp BinOp.neq 4 (Operand.tmp 22) (Operand.tmp 27) 4, none, 0⟩] true [9, 10] [])
 (.cond (Operand.tmp 28)
 (.seq
 (.ops [⟨some 2, .assign (Operand.const (Value.bool false)), none, 0⟩])
 .ret)
 .skip)))
 (.ops [⟨some 16, .move (Operand.tmp 3), none, 0⟩,
 ⟨some 17, .binOp BinOp.add 3 (Operand.tmp 16) (Operand.const (Value.int IntKind.i64 1)) 3, none, 0⟩,
 ⟨some 3, .assign (Operand.tmp 17), none, 0⟩]))))))
 (.seq
 (.ops [⟨some 30, .move (Operand.tmp 0), none, 0⟩,
 ⟨some 31, .call ⟨(Callee.value (Operand.func 8)), [(Operand.tmp 30)].toArray, #[22]⟩, none, 0⟩,
 ⟨some 29, .move (Operand.tmp 31), none, 0⟩,
 ⟨some 32, .extract (Operand.tmp 29) 0, none, 0⟩,
 ⟨some 33, .extract (Operand.tmp 29) 1, none, 0⟩,
 ⟨some 4, .assign (Operand.tmp 32), none, 0⟩,
 ⟨some 5, .assign (Operand.tmp 33), none, 0⟩])
 (.seq
 (.ops [⟨some 35, .move (Operand.tmp 0), none, 0⟩,
 ⟨some 36, .call ⟨(Callee.value (Operand.func 9)), [(Operand.tmp 35)].toArray, #[22]⟩, none, 0⟩,
 ⟨some 34, .move (Operand.tmp 36), none, 0⟩,
 ⟨some 37, .extract (Operand.tmp 34) 0, none, 0⟩,
 ⟨some 38, .extract (Operand.tmp 34) 1, none, 0⟩,
 ⟨some 6, .assign (Operand.tmp 37), none, 0⟩,
 ⟨some 7, .assign (Operand.tmp 38), none, 0⟩])
 (.seq
 (.ops [⟨some 39, .move (Operand.tmp 4), none, 0⟩,
 ⟨some 40, .move (Operand.tmp 6), none, 0⟩,
 ⟨some 41, .call ⟨(Callee.value (Operand.func 10)), [(Operand.tmp 39), (Operand.tmp 40)].toArray, #[22, 22]⟩, none, 0⟩,
 ⟨some 42, .move (Operand.tmp 41), none, 0⟩,
 ⟨some 43, .move (Operand.tmp 5), some (42, true), 0⟩,
 ⟨some 44, .move (Operand.tmp 7), some (42, true), 0⟩,
 ⟨some 45, .binOp BinOp.eql 26 (Operand.tmp 43) (Operand.tmp 44) 26, some (42, true), 0⟩,
 ⟨some 46, .pick (Operand.tmp 42) (Operand.tmp 45) (Operand.const (Value.bool false)), none, 0⟩,
 ⟨some 47, .move (Operand.tmp 46), none, 0⟩,
 ⟨some 48, .call ⟨(Callee.value (Operand.func 5)), [].toArray, #[]⟩, some (47, true), 0⟩,
 ⟨some 49, .pick (Operand.tmp 47) (Operand.tmp 48) (Operand.const (Value.bool false)), none, 0⟩,
 ⟨some 2, .assign (Operand.tmp 49), none, 0⟩])
 .ret))))))
abbrev R3 : List ResultVar := [ResultVar.tmp 2]
theorem ok3 : FnOK Tryd.prog 3 L3 R3 1 := ⟨_, _, Tryd.func3, rfl, by kernel_rfl, by kernel_rfl, by kernel_rfl, by kernel_rfl, Nat.le_of_ble_eq_true (by kernel_rfl), by kernel_rfl⟩

/-- ablaut/ablautref02.IsLong -/
def L4 : LCode :=
 (.seq
 (.ops [⟨some 2, .assign (Operand.const (Value.bool false)), none, 0⟩])
 (.seq
 (.ops [⟨some 3, .assign (Operand.const (Value.int IntKind.i64 0)), none, 0⟩])
 (.seq
 (.seq
 (.ops [⟨some 4, .assign (Operand.const (Value.int IntKind.i64 0)), none, 0⟩])
 (.block 0
 (.loop
 (.seq
 (.seq
 (.ops [⟨some 6, .move (Operand.tmp 4), none, 0⟩,
 ⟨some 7, .move (Operand.tmp 0), none, 0⟩,
 ⟨some 8, .call ⟨(Callee.builtin Builtin.len), [(Operand.tmp 7)].toArray, #[31]⟩, none, 0⟩,
 ⟨some 9, .binOp BinOp.lss 3 (Operand.tmp 6) (Operand.tmp 8) 3, none, 0⟩,
 ⟨some 10, .move (Operand.tmp 9), none, 0⟩,
 ⟨some 11, .move (Operand.tmp 3), some (10, true), 0⟩,
 ⟨some 12, .binOp BinOp.leq 3 (Operand.tmp 11) (Operand.const (Value.int IntKind.i64 16384)) 3, some (10, true), 0⟩,
 ⟨some 13, .pick (Operand.tmp 10) (Operand.tmp 12) (Operand.const (Value.bool false)), none, 0⟩])
 (.cond (Operand.tmp 13)
 .skip
 (.exit 0)))
 (.seq
 (.block 1
 (.seq
 (.ops [⟨some 5, .assign (Operand.const (Value.int IntKind.i64 0)), none, 0⟩])
 (.block 2
 (.loop
 (.seq
 (.seq
 (.ops [⟨some 16, .move (Operand.tmp 5), none, 0⟩,
 ⟨some 17, .move (Operand.tmp 0), none, 0⟩,
 ⟨some 18, .move (Operand.tmp 4), none, 0⟩,
 ⟨some 19, .indexAddr 31 (Operand.tmp 17) (Operand.tmp 18), none, 0⟩,
 ⟨some 20, .load 22 (Operand.tmp 19), none, 0⟩,
 ⟨some 21, .call ⟨(Callee.builtin Builtin.len), [(Operand.tmp 20)].toArray, #[22]⟩, none, 0⟩,
 ⟨some 22, .binOp BinOp.lss 3 (Operand.tmp 16) (Operand.tmp 21) 3, none, 0⟩,
 ⟨some 23, .move (Operand.tmp 22), none, 0⟩,
 ⟨some 24, .move (Operand.tmp 3), some (23, true), 0⟩,
 ⟨some 25, .binOp BinOp.leq 3 (Operand.tmp 24) (Operand.const (Value.int IntKind.i64 16384)) 3, some (23, true), 0⟩,
 ⟨some 26, .pick (Operand.tmp 23) (Operand.tmp 25) (Operand.const (Value.bool false)), none, 0⟩])
 (.cond (Operand.tmp 26)
 .skip
 (.exit 2)))
 (.seq
 (.block 3
 (.ops [⟨some 29, .move (Operand.tmp 3), none, 0⟩,
 ⟨some 30, .move (Operand.tmp 0), none, 0⟩,
 ⟨some 31, .move (Operand.tmp 4), none, 0⟩,
 ⟨some 32, .indexAddr 31 (Operand.tmp 30) (Operand.tmp 31), none, 0⟩,
 ⟨some 33, .load 22 (Operand.tmp 32), none, 0⟩,
 ⟨some 34, .move (Operand.tmp 5), none, 0⟩,
 ⟨some 35, .indexAddr 22 (Operand.tmp 33) (Operand.tmp 34), none, 0⟩,
 ⟨some 36, .load 9 (Operand.tmp 35), none, 0⟩,
 ⟨some 37, .call ⟨(Callee.builtin Builtin.len), [(Operand.tmp 36)].toArray, #[9]⟩, none, 0⟩,
 ⟨some 38, .binOp BinOp.add 3 (Operand.const (Value.int IntKind.i64 1)) (Operand.tmp 37) 3, none, 0⟩,
 ⟨some 39, .binOp BinOp.add 3 (Operand.tmp 29) (Operand.tmp 38) 3, none, 0⟩,
 ⟨some 3, .assign (Operand.tmp 39), none, 0⟩]))
 (.ops [⟨some 27, .move (Operand.tmp 5), none, 0⟩,
 ⟨some 28, .binOp BinOp.add 3 (Operand.tmp 27) (Operand.const (Value.int IntKind.i64 1)) 3, none, 0⟩,
 ⟨some 5, .assign (Operand.tmp 28), none, 0⟩])))))))
 (.ops [⟨some 14, .move (Operand.tmp 4), none, 0⟩,
 ⟨some 15, .binOp BinOp.add 3 (Operand.tmp 14) (Operand.const (Value.int IntKind.i64 1)) 3, none, 0⟩,
 ⟨some 4, .assign (Operand.tmp 15), none, 0⟩]))))))
 (.seq
 (.ops [⟨some 40, .move (Operand.tmp 3), none, 0⟩,
 ⟨some 41, .binOp BinOp.gtr 3 (Operand.tmp 40) (Operand.const (Value.int IntKind.i64 16384)) 3, none, 0⟩,
 ⟨some 2, .assign (Operand.tmp 41), none, 0⟩])
 .ret))))
abbrev R4 : List ResultVar := [ResultVar.tmp 2]
theorem ok4 : FnOK Tryd.prog 4 L4 R4 1 := ⟨_, _, Tryd.func4, rfl, by kernel_rfl, by kernel_rfl, by kernel_rfl, by kernel_rfl, Nat.le_of_ble_eq_true (by kernel_rfl), by kernel_rfl⟩

/-- ablaut/ablautlaw10.known -/
def L5 : LCode :=
 (.seq
 (.ops [⟨some 0, .assign (Operand.const (Value.bool false)), none, 0⟩])
 (.seq
 (.ops [⟨some 6, .buildSlice 22 3 [(0, (Operand.const (Value.string ⟨#[64, 80, 46, 110, 46, 115, 103, 64]⟩))), (1, (Operand.const (Value.string ⟨#[97]⟩))), (2, (Operand.const (Value.string ⟨#[64, 82, 46, 110, 46, 112, 108, 64]⟩)))].toArray, none, 0⟩,
 ⟨some 7, .call ⟨(Callee.value (Operand.func 11)), [(Operand.tmp 6)].toArray, #[22]⟩, none, 0⟩,
 ⟨some 5, .move (Operand.tmp 7), none, 0⟩,
 ⟨some 8, .extract (Operand.tmp 5) 0, none, 0⟩,
 ⟨some 9, .extract (Operand.tmp 5) 1, none, 0⟩,
 ⟨some 1, .assign (Operand.tmp 8), none, 0⟩,
 ⟨some 2, .assign (Operand.tmp 9), none, 0⟩])
 (.seq
 (.ops [⟨some 11, .buildSlice 22 2 [(0, (Operand.const (Value.string ⟨#[64, 78, 46, 110, 46, 115, 103, 64]⟩))), (1, (Operand.const (Value.string ⟨#[64, 85, 46, 110, 46, 112, 108, 64]⟩)))].toArray, none, 0⟩,
 ⟨some 12, .call ⟨(Callee.value (Operand.func 11)), [(Operand.tmp 11)].toArray, #[22]⟩, none, 0⟩,
 ⟨some 10, .move (Operand.tmp 12), none, 0⟩,
 ⟨some 13, .extract (Operand.tmp 10) 0, none, 0⟩,
 ⟨some 14, .extract (Operand.tmp 10) 1, none, 0⟩,
 ⟨some 3, .assign (Operand.tmp 13), none, 0⟩,
 ⟨some 4, .assign (Operand.tmp 14), none, 0⟩])
 (.seq
 (.ops [⟨some 15, .move (Operand.tmp 1), none, 0⟩,
 ⟨some 16, .unOp UnOp.not 4 (Operand.tmp 15), none, 0⟩,
 ⟨some 17, .move (Operand.tmp 16), none, 0⟩,
 ⟨some 18, .move (Operand.tmp 2), some (17, true), 0⟩,
 ⟨some 19, .binOp BinOp.eql 26 (Operand.tmp 18) (Operand.const (Value.int IntKind.i64 0)) 26, some (17, true), 0⟩,
 ⟨some 20, .pick (Operand.tmp 17) (Operand.tmp 19) (Operand.const (Value.bool false)), none, 0⟩,
 ⟨some 21, .move (Operand.tmp 20), none, 0⟩,
 ⟨some 22, .move (Operand.tmp 3), some (21, true), 0⟩,
 ⟨some 23, .pick (Operand.tmp 21) (Operand.tmp 22) (Operand.const (Value.bool false)), none, 0⟩,
 ⟨some 24, .move (Operand.tmp 23), none, 0⟩,
 ⟨some 25, .move (Operand.tmp 4), some (24, true), 0⟩,
 ⟨some 26, .binOp BinOp.eql 26 (Operand.tmp 25) (Operand.const (Value.int IntKind.i64 0)) 26, some (24, true), 0⟩,
 ⟨some 27, .pick (Operand.tmp 24) (Operand.tmp 26) (Operand.const (Value.bool false)), none, 0⟩,
 ⟨some 0, .assign (Operand.tmp 27), none, 0⟩])
 .ret))))
abbrev R5 : List ResultVar := [ResultVar.tmp 0]
theorem ok5 : FnOK Tryd.prog 5 L5 R5 0 := ⟨_, _, Tryd.func5, rfl, by kernel_rfl, by kernel_rfl, by kernel_rfl, by kernel_rfl, Nat.le_of_ble_eq_true (by kernel_rfl), by kernel_rfl⟩

/-- ablaut/flag.Is -/
def L6 : LCode :=
 (.seq
 (.ops [⟨some 2, .assign (Operand.const (Value.bool false)), none, 0⟩])
 (.seq
 (.ops [⟨some 6, .move (Operand.tmp 0), none, 0⟩,
 ⟨some 7, .call ⟨(Callee.value (Operand.func 12)), [(Operand.tmp 6)].toArray, #[9]⟩, none, 0⟩,
 ⟨some 5, .move (Operand.tmp 7), none, 0⟩,
 ⟨some 8, .extract (Operand.tmp 5) 0, none, 0⟩,
 ⟨some 9, .extract (Operand.tmp 5) 1, none, 0⟩,
 ⟨some 3, .alloc 35, none, 0⟩,
 ⟨none, .store 35 (Operand.tmp 3) (Operand.tmp 8), none, 0⟩,
 ⟨some 4, .assign (Operand.tmp 9), none, 0⟩])
 (.seq
 (.ops [⟨some 10, .move (Operand.tmp 4), none, 0⟩,
 ⟨some 2, .assign (Operand.tmp 10), none, 0⟩])
 .ret)))
abbrev R6 : List ResultVar := [ResultVar.tmp 2]
theorem ok6 : FnOK Tryd.prog 6 L6 R6 1 := ⟨_, _, Tryd.func6, rfl, by kernel_rfl, by kernel_rfl, by kernel_rfl, by kernel_rfl, Nat.le_of_ble_eq_true (by kernel_rfl), by kernel_rfl⟩

/-- ablaut/ablautref10.Is -/
def L7 : LCode :=
 (.seq
 (.ops [⟨some 2, .assign (Operand.const (Value.bool false)), none, 0⟩])
 (.seq
 (.ops [⟨some 3, .move (Operand.tmp 0), none, 0⟩,
 ⟨some 4, .call ⟨(Callee.value (Operand.func 13)), [(Operand.tmp 3)].toArray, #[9]⟩, none, 0⟩,
 ⟨some 5, .field 39 (Operand.tmp 4) 3, none, 0⟩,
 ⟨some 2, .assign (Operand.tmp 5), none, 0⟩])
 .ret))
abbrev R7 : List ResultVar := [ResultVar.tmp 2]
theorem ok7 : FnOK Tryd.prog 7 L7 R7 1 := ⟨_, _, Tryd.func7, rfl, by kernel_rfl, by kernel_rfl, by kernel_rfl, by kernel_rfl, Nat.le_of_ble_eq_true (by kernel_rfl), by kernel_rfl⟩

/-- ablaut/flag.Marks -/
def L8 : LCode :=
 (.seq
 (.ops [⟨some 2, .assign (Operand.const (Value.slice none 0 0)), none, 0⟩,
 ⟨some 3, .assign (Operand.const (Value.int IntKind.i64 0)), none, 0⟩])
 (.seq
 (.seq
 (.ops [⟨some 8, .move (Operand.tmp 0), none, 0⟩,
 ⟨some 9, .call ⟨(Callee.value (Operand.func 14)), [(Operand.tmp 8)].toArray, #[22]⟩, none, 0⟩,
 ⟨some 4, .assign (Operand.tmp 9), none, 0⟩])
 (.seq
 (.ops [⟨some 10, .move (Operand.tmp 4), none, 0⟩,
 ⟨some 11, .binOp BinOp.neq 26 (Operand.tmp 10) (Operand.const (Value.int IntKind.i64 0)) 26, none, 0⟩])
 (.cond (Operand.tmp 11)
 (.seq
 (.ops [⟨some 12, .move (Operand.tmp 4), none, 0⟩,
 ⟨some 2, .assign (Operand.const (Value.slice none 0 0)), none, 0⟩,
 ⟨some 3, .assign (Operand.tmp 12), none, 0⟩])
 .ret)
 .skip)))
 (.seq
 (.ops [⟨some 5, .assign (Operand.const (Value.slice none 0 0)), none, 0⟩])
 (.seq
 (.seq
 (.ops [⟨some 13, .move (Operand.tmp 0), none, 0⟩,
 ⟨some 14, .call ⟨(Callee.builtin Builtin.len), [(Operand.tmp 13)].toArray, #[22]⟩, none, 0⟩,
 ⟨some 15, .move (Operand.const (Value.int IntKind.i64 0)), none, 0⟩])
 (.block 0
 (.loop
 (.seq
 (.ops [⟨some 16, .binOp BinOp.lss 3 (Operand.tmp 15) (Operand.tmp 14) 3, none, 0⟩])
 (.seq
 (.cond (Operand.tmp 16)
 .skip
 (.exit 0))
 (.seq
 (.block 1
 (.seq
 (.ops [⟨some 17, .indexAddr 22 (Operand.tmp 13) (Operand.tmp 15), none, 0⟩,
 ⟨some 18, .load 9 (Operand.tmp 17), none, 0⟩,
 ⟨some 7, .assign (Operand.tmp 18), none, 0⟩])
 (.seq
 (.ops [⟨some 19, .move (Operand.tmp 7), none, 0⟩,
 ⟨some 20, .call ⟨(Callee.value (Operand.func 6)), [(Operand.tmp 19)].toArray, #[9]⟩, none, 0⟩])
 (.cond (Operand.tmp 20)
 (.ops [⟨some 21, .move (Operand.tmp 5), none, 0⟩,
 ⟨some 22, .move (Operand.tmp 7), none, 0⟩,
 ⟨some 23, .buildSlice 22 1 [(0, (Operand.tmp 22))].toArray, none, 0⟩,
 ⟨some 24, .call ⟨(Callee.builtin Builtin.append), [(Operand.tmp 21), (Operand.tmp 23)].toArray, #[22, 22]⟩, none, 0⟩,
 ⟨some 5, .assign (Operand.tmp 24), none, 0⟩])
 .skip))))
 (.ops [⟨some 25, .binOp BinOp.add 3 (Operand.tmp 15) (Operand.const (Value.int IntKind.i64 1)) 3, none, 0⟩,
 ⟨some 15, .move (Operand.tmp 25), none, 0⟩])))))))
 (.seq
 (.ops [⟨some 26, .move (Operand.tmp 5), none, 0⟩,
 ⟨some 2, .assign (Operand.tmp 26), none, 0⟩,
 ⟨some 3, .assign (Operand.const (Value.int IntKind.i64 0)), none, 0⟩])
 .ret)))))
abbrev R8 : List ResultVar := [ResultVar.tmp 2, ResultVar.tmp 3]
theorem ok8 : FnOK Tryd.prog 8 L8 R8 1 := ⟨_, _, Tryd.func8, rfl, by kernel_rfl, by kernel_rfl, by kernel_rfl, by kernel_rfl, Nat.le_of_ble_eq_true (by kernel_rfl), by kernel_rfl⟩

/-- ablaut/ablautref10.Marks -/
def L9 : LCode :=
 (.seq
 (.ops [⟨some 2, .assign (Operand.const (Value.slice none 0 0)), none, 0⟩,
 ⟨some 3, .assign (Operand.const (Value.int IntKind.i64 0)), none, 0⟩])
 (.seq
 (.seq
 (.ops [⟨some 5, .move (Operand.tmp 0), none, 0⟩,
 ⟨some 6, .call ⟨(Callee.value (Operand.func 15)), [(Operand.tmp 5)].toArray, #[22]⟩, none, 0⟩,
 ⟨some 4, .assign (Operand.tmp 6), none, 0⟩])
 (.seq
 (.ops [⟨some 7, .move (Operand.tmp 4), none, 0⟩,
 ⟨some 8, .binOp BinOp.neq 26 (Operand.tmp 7) (Operand.const (Value.int IntKind.i64 0)) 26, none, 0⟩])
 (.cond (Operand.tmp 8)
 (.seq
 (.ops [⟨some 9, .move (Operand.tmp 4), none, 0⟩,
 ⟨some 2, .assign (Operand.const (Value.slice none 0 0)), none, 0⟩,
 ⟨some 3, .assign (Operand.tmp 9), none, 0⟩])
 .ret)
 .skip)))
 (.seq
 (.ops [⟨some 10, .move (Operand.tmp 0), none, 0⟩,
 ⟨some 11, .call ⟨(Callee.value (Operand.func 16)), [(Operand.tmp 10), (Operand.const (Value.bool true))].toArray, #[22, 4]⟩, none, 0⟩,
 ⟨some 2, .assign (Operand.tmp 11), none, 0⟩,
 ⟨some 3, .assign (Operand.const (Value.int IntKind.i64 0)), none, 0⟩])
 .ret)))
abbrev R9 : List ResultVar := [ResultVar.tmp 2, ResultVar.tmp 3]
theorem ok9 : FnOK Tryd.prog 9 L9 R9 1 := ⟨_, _, Tryd.func9, rfl, by kernel_rfl, by kernel_rfl, by kernel_rfl, by kernel_rfl, Nat.le_of_ble_eq_true (by kernel_rfl), by kernel_rfl⟩

/-- ablaut/ablautref01.Same -/
def L10 : LCode :=
 (.seq
 (.ops [⟨some 4, .assign (Operand.const (Value.bool false)), none, 0⟩])
 (.seq
 (.ops [⟨some 5, .move (Operand.tmp 0), none, 0⟩,
 ⟨some 6, .move (Operand.tmp 1), none, 0⟩,
 ⟨some 7, .call ⟨(Callee.value (Operand.func 17)), [(Operand.tmp 5), (Operand.tmp 6)].toArray, #[22, 22]⟩, none, 0⟩,
 ⟨some 8, .binOp BinOp.eql 3 (Operand.tmp 7) (Operand.const (Value.int IntKind.i64 0)) 3, none, 0⟩,
 ⟨some 4, .assign (Operand.tmp 8), none, 0⟩])
 .ret))
abbrev R10 : List ResultVar := [ResultVar.tmp 4]
theorem ok10 : FnOK Tryd.prog 10 L10 R10 2 := ⟨_, _, Tryd.func10, rfl, by kernel_rfl, by kernel_rfl, by kernel_rfl, by kernel_rfl, Nat.le_of_ble_eq_true (by kernel_rfl), by kernel_rfl⟩

/-- ablaut/flag.Agrees -/
def L11 : LCode :=
 (.seq
 (.ops [⟨some 2, .assign (Operand.const (Value.bool false)), none, 0⟩,
 ⟨some 3, .assign (Operand.const (Value.int IntKind.i64 0)), none, 0⟩])
 (.seq
 (.seq
 (.ops [⟨some 12, .move (Operand.tmp 0), none, 0⟩,
 ⟨some 13, .call ⟨(Callee.value (Operand.func 18)), [(Operand.tmp 12)].toArray, #[22]⟩, none, 0⟩,
 ⟨some 4, .assign (Operand.tmp 13), none, 0⟩])
 (.seq
 (.ops [⟨some 14, .move (Operand.tmp 4), none, 0⟩,
 ⟨some 15, .binOp BinOp.neq 26 (Operand.tmp 14) (Operand.const (Value.int IntKind.i64 0)) 26, none, 0⟩])
 (.cond (Operand.tmp 15)
 (.seq
 (.ops [⟨some 16, .move (Operand.tmp 4), none, 0⟩,
 ⟨some 2, .assign (Operand.const (Value.bool false)), none, 0⟩,
 ⟨some 3, .assign (Operand.tmp 16), none, 0⟩])
 .ret)
 .skip)))
 (.seq
 (.ops [⟨some 17, .makeMap 44 none, none, 0⟩,
 ⟨some 5, .assign (Operand.tmp 17), none, 0⟩])
 (.seq
 (.seq
 (.ops [⟨some 18, .move (Operand.tmp 0), none, 0⟩,
 ⟨some 19, .call ⟨(Callee.builtin Builtin.len), [(Operand.tmp 18)].toArray, #[22]⟩, none, 0⟩,
 ⟨some 20, .move (Operand.const (Value.int IntKind.i64 0)), none, 0⟩])
 (.block 0
 (.loop
 (.seq
 (.ops [⟨some 21, .binOp BinOp.lss 3 (Operand.tmp 20) (Operand.tmp 19) 3, none, 0⟩])
 (.seq
 (.cond (Operand.tmp 21)
 .skip
 (.exit 0))
 (.seq
 (.block 1
 (.seq
 (.ops [⟨some 22, .indexAddr 22 (Operand.tmp 18) (Operand.tmp 20), none, 0⟩,
 ⟨some 23, .load 9 (Operand.tmp 22), none, 0⟩,
 ⟨some 7, .assign (Operand.tmp 23), none, 0⟩])
 (.seq
 (.ops [⟨some 25, .move (Operand.tmp 7), none, 0⟩,
 ⟨some 26, .call ⟨(Callee.value (Operand.func 12)), [(Operand.tmp 25)].toArray, #[9]⟩, none, 0⟩,
 ⟨some 24, .move (Operand.tmp 26), none, 0⟩,
 ⟨some 27, .extract (Operand.tmp 24) 0, none, 0⟩,
 ⟨some 28, .extract (Operand.tmp 24) 1, none, 0⟩,
 ⟨some 8, .alloc 35, none, 0⟩,
 ⟨none, .store 35 (Operand.tmp 8) (Operand.tmp 27), none, 0⟩,
 ⟨some 9, .assign (Operand.tmp 28), none, 0⟩])
 (.seq
 (.seq
 (.ops [⟨some 29, .move (Operand.tmp 9), none, 0⟩,
 ⟨some 30, .unOp UnOp.not 4 (Operand.tmp 29), none, 0⟩])
 (.cond (Operand.tmp 30)
 (.exit 1)
 .skip))
 (.seq
 (.ops [⟨some 32, .load 35 (Operand.tmp 8), none, 0⟩,
 ⟨some 33, .move (Operand.tmp 5), none, 0⟩,
 ⟨some 34, .fieldAddr 35 (Operand.tmp 8) 1, none, 0⟩,
 ⟨some 35, .load 9 (Operand.tmp 34), none, 0⟩,
 ⟨some 36, .lookup 44 (Operand.tmp 33) (Operand.tmp 35) false, none, 0⟩,
 ⟨some 37, .call ⟨(Callee.value (Operand.func 19)), [(Operand.tmp 32), (Operand.tmp 36)].toArray, #[35, 46]⟩, none, 0⟩,
 ⟨some 31, .move (Operand.tmp 37), none, 0⟩,
 ⟨some 38, .extract (Operand.tmp 31) 0, none, 0⟩,
 ⟨some 39, .extract (Operand.tmp 31) 1, none, 0⟩,
 ⟨some 10, .alloc 46, none, 0⟩,
 ⟨none, .store 46 (Operand.tmp 10) (Operand.tmp 38), none, 0⟩,
 ⟨some 11, .assign (Operand.tmp 39), none, 0⟩])
 (.seq
 (.seq
 (.ops [⟨some 40, .move (Operand.tmp 11), none, 0⟩,
 ⟨some 41, .unOp UnOp.not 4 (Operand.tmp 40), none, 0⟩])
 (.cond (Operand.tmp 41)
 (.seq
 (.ops [⟨some 2, .assign (Operand.const (Value.bool false)), none, 0⟩,
 ⟨some 3, .assign (Operand.const (Value.int IntKind.i64 0)), none, 0⟩])
 .ret)
 .skip))
 (.ops [⟨some 42, .move (Operand.tmp 5), none, 0⟩,
 ⟨some 43, .fieldAddr 35 (Operand.tmp 8) 1, none, 0⟩,
 ⟨some 44, .load 9 (Operand.tmp 43), none, 0⟩,
 ⟨some 45, .load 46 (Operand.tmp 10), none, 0⟩,
 ⟨none, .mapUpdate 44 (Operand.tmp 42) (Operand.tmp 44) (Operand.tmp 45), none, 0⟩])))))))
 (.ops [⟨some 46, .binOp BinOp.add 3 (Operand.tmp 20) (Operand.const (Value.int IntKind.i64 1)) 3, none, 0⟩,
 ⟨some 20, .move (Operand.tmp 46), none, 0⟩])))))))
 (.seq
 (.ops [⟨some 2, .assign (Operand.const (Value.bool true)), none, 0⟩,
 ⟨some 3, .assign (Operand.const (Value.int IntKind.i64 0)), none, 0⟩])
 .ret)))))
abbrev R11 : List ResultVar := [ResultVar.tmp 2, ResultVar.tmp 3]
theorem ok11 : FnOK Tryd.prog 11 L11 R11 1 := ⟨_, _, Tryd.func11, rfl, by kernel_rfl, by kernel_rfl, by kernel_rfl, by kernel_rfl, Nat.le_of_ble_eq_true (by kernel_rfl), by kernel_rfl⟩

/-- ablaut/flag.read -/
def L12 : LCode :=
 (.seq
 (.ops [⟨some 2, .alloc 35, none, 0⟩,
 ⟨some 3, .assign (Operand.const (Value.bool false)), none, 0⟩])
 (.seq
 (.seq
 (.ops [⟨some 8, .move (Operand.tmp 0), none, 0⟩,
 ⟨some 9, .call ⟨(Callee.builtin Builtin.len), [(Operand.tmp 8)].toArray, #[9]⟩, none, 0⟩,
 ⟨some 10, .binOp BinOp.lss 3 (Operand.tmp 9) (Operand.const (Value.int IntKind.i64 5)) 3, none, 0⟩,
 ⟨some 11, .move (Operand.tmp 10), none, 0⟩,
 ⟨some 12, .move (Operand.tmp 0), some (11, false), 0⟩,
 ⟨some 13, .index 9 (Operand.tmp 12) (Operand.const (Value.int IntKind.i64 0)), some (11, false), 0⟩,
 ⟨some 14, .binOp BinOp.neq 5 (Operand.tmp 13) (Operand.const (Value.int IntKind.u8 64)) 5, some (11, false), 0⟩,
 ⟨some 15, .pick (Operand.tmp 11) (Operand.const (Value.bool true)) (Operand.tmp 14), none, 0⟩,
 ⟨some 16, .move (Operand.tmp 15), none, 0⟩,
 ⟨some 17, .move (Operand.tmp 0), some (16, false), 0⟩,
 ⟨some 18, .index 9 (Operand.tmp 17) (Operand.const (Value.int IntKind.i64 2)), some (16, false), 0⟩,
 ⟨some 19, .binOp BinOp.neq 5 (Operand.tmp 18) (Operand.const (Value.int IntKind.u8 46)) 5, some (16, false), 0⟩,
 ⟨some 20, .pick (Operand.tmp 16) (Operand.const (Value.bool true)) (Operand.tmp 19), none, 0⟩,
 ⟨some 21, .move (Operand.tmp 20), none, 0⟩,
 ⟨some 22, .move (Operand.tmp 0), some (21, false), 0⟩,
 ⟨some 23, .move (Operand.tmp 0), some (21, false), 0⟩,
 ⟨some 24, .call ⟨(Callee.builtin Builtin.len), [(Operand.tmp 23)].toArray, #[9]⟩, some (21, false), 0⟩,
 ⟨some 25, .binOp BinOp.sub 3 (Operand.tmp 24) (Operand.const (Value.int IntKind.i64 1)) 3, some (21, false), 0⟩,
 ⟨some 26, .index 9 (Operand.tmp 22) (Operand.tmp 25), some (21, false), 0⟩,
 ⟨some 27, .binOp BinOp.neq 5 (Operand.tmp 26) (Operand.const (Value.int IntKind.u8 64)) 5, some (21, false), 0⟩,
 ⟨some 28, .pick (Operand.tmp 21) (Operand.const (Value.bool true)) (Operand.tmp 27), none, 0⟩])
 (.cond (Operand.tmp 28)
 (.seq
 (.ops [⟨some 29, .build 35 [].toArray, none, 0⟩,
 ⟨none, .store 35 (Operand.tmp 2) (Operand.tmp 29), none, 0⟩,
 ⟨some 3, .assign (Operand.const (Value.bool false)), none, 0⟩])
 .ret)
 .skip))
 (.seq
 (.ops [⟨some 30, .move (Operand.tmp 0), none, 0⟩,
 ⟨some 31, .index 9 (Operand.tmp 30) (Operand.const (Value.int IntKind.i64 1)), none, 0⟩,
 ⟨some 32, .build 35 [(0, (Operand.tmp 31))].toArray, none, 0⟩,
 ⟨some 4, .alloc 35, none, 0⟩,
 ⟨none, .store 35 (Operand.tmp 4) (Operand.tmp 32), none, 0⟩])
 (.seq
 (.ops [⟨some 34, .move (Operand.tmp 0), none, 0⟩,
 ⟨some 35, .move (Operand.tmp 0), none, 0⟩,
 ⟨some 36, .call ⟨(Callee.builtin Builtin.len), [(Operand.tmp 35)].toArray, #[9]⟩, none, 0⟩,
 ⟨some 37, .binOp BinOp.sub 3 (Operand.tmp 36) (Operand.const (Value.int IntKind.i64 1)) 3, none, 0⟩,
 ⟨some 38, .slice 9 (Operand.tmp 34) (some (Operand.const (Value.int IntKind.i64 3))) (some (Operand.tmp 37)) none, none, 0⟩,
 ⟨some 39, .call ⟨(Callee.value (Operand.func 20)), [(Operand.tmp 38), (Operand.const (Value.string ⟨#[46]⟩))].toArray, #[9, 9]⟩, none, 0⟩,
 ⟨some 33, .move (Operand.tmp 39), none, 0⟩,
 ⟨some 40, .extract (Operand.tmp 33) 0, none, 0⟩,
 ⟨some 41, .extract (Operand.tmp 33) 1, none, 0⟩,
 ⟨some 42, .extract (Operand.tmp 33) 2, none, 0⟩,
 ⟨some 5, .assign (Operand.tmp 40), none, 0⟩,
 ⟨some 6, .assign (Operand.tmp 41), none, 0⟩,
 ⟨some 7, .assign (Operand.tmp 42), none, 0⟩])
 (.seq
 (.ops [⟨some 43, .move (Operand.tmp 5), none, 0⟩,
 ⟨some 44, .move (Operand.tmp 6), none, 0⟩,
 ⟨some 45, .fieldAddr 35 (Operand.tmp 4) 1, none, 0⟩,
 ⟨none, .store 9 (Operand.tmp 45) (Operand.tmp 43), none, 0⟩,
 ⟨some 46, .fieldAddr 35 (Operand.tmp 4) 2, none, 0⟩,
 ⟨none, .store 9 (Operand.tmp 46) (Operand.tmp 44), none, 0⟩])
 (.seq
 (.seq
 (.ops [⟨some 47, .move (Operand.tmp 5), none, 0⟩,
 ⟨some 48, .call ⟨(Callee.value (Operand.func 21)), [(Operand.tmp 47)].toArray, #[9]⟩, none, 0⟩,
 ⟨some 49, .unOp UnOp.not 4 (Operand.tmp 48), none, 0⟩,
 ⟨some 50, .move (Operand.tmp 49), none, 0⟩,
 ⟨some 51, .move (Operand.tmp 7), some (50, false), 0⟩,
 ⟨some 52, .move (Operand.tmp 51), some (50, false), 0⟩,
 ⟨some 53, .move (Operand.tmp 6), some (52, true), 0⟩,
 ⟨some 54, .call ⟨(Callee.value (Operand.func 21)), [(Operand.tmp 53)].toArray, #[9]⟩, some (52, true), 0⟩,
 ⟨some 55, .unOp UnOp.not 4 (Operand.tmp 54), some (52, true), 0⟩,
 ⟨some 56, .pick (Operand.tmp 52) (Operand.tmp 55) (Operand.const (Value.bool false)), some (50, false), 0⟩,
 ⟨some 57, .pick (Operand.tmp 50) (Operand.const (Value.bool true)) (Operand.tmp 56), none, 0⟩])
 (.cond (Operand.tmp 57)
 (.seq
 (.ops [⟨some 58, .build 35 [].toArray, none, 0⟩,
 ⟨none, .store 35 (Operand.tmp 2) (Operand.tmp 58), none, 0⟩,
 ⟨some 3, .assign (Operand.const (Value.bool false)), none, 0⟩])
 .ret)
 .skip))
 (.seq
 (.draw [⟨some 59, .load 35 (Operand.tmp 4), none, 0⟩,
 ⟨some 60, .load 35 (Operand.tmp 4), none, 0⟩,
 ⟨some 61, .build 52 [(0, (Operand.tmp 60))].toArray, none, 0⟩,
 ⟨some 62, .call ⟨(Callee.value (Operand.func 22)), [(Operand.tmp 61)].toArray, #[52]⟩, none, 0⟩,
 ⟨none, .store 35 (Operand.tmp 2) (Operand.tmp 59), none, 0⟩,
 ⟨some 3, .assign (Operand.tmp 62), none, 0⟩] true [4, 5] [])
 .ret)))))))
abbrev R12 : List ResultVar := [ResultVar.cell 2 35, ResultVar.tmp 3]
theorem ok12 : FnOK Tryd.prog 12 L12 R12 1 := ⟨_, _, Tryd.func12, rfl, by kernel_rfl, by kernel_rfl, by kernel_rfl, by kernel_rfl, Nat.le_of_ble_eq_true (by kernel_rfl), by kernel_rfl⟩

/-- ablaut/ablautref10.markOf -/
def L13 : LCode :=
 (.seq
 (.ops [⟨some 2, .alloc 39, none, 0⟩])
 (.seq
 (.seq
 (.ops [⟨some 5, .move (Operand.tmp 0), none, 0⟩,
 ⟨some 6, .call ⟨(Callee.builtin Builtin.len), [(Operand.tmp 5)].toArray, #[9]⟩, none, 0⟩,
 ⟨some 7, .binOp BinOp.lss 3 (Operand.tmp 6) (Operand.const (Value.int IntKind.i64 5)) 3, none, 0⟩,
 ⟨some 8, .move (Operand.tmp 7), none, 0⟩,
 ⟨some 9, .move (Operand.tmp 0), some (8, false), 0⟩,
 ⟨some 10, .index 9 (Operand.tmp 9) (Operand.const (Value.int IntKind.i64 0)), some (8, false), 0⟩,
 ⟨some 11, .binOp BinOp.neq 5 (Operand.tmp 10) (Operand.const (Value.int IntKind.u8 64)) 5, some (8, false), 0⟩,
 ⟨some 12, .pick (Operand.tmp 8) (Operand.const (Value.bool true)) (Operand.tmp 11), none, 0⟩,
 ⟨some 13, .move (Operand.tmp 12), none, 0⟩,
 ⟨some 14, .move (Operand.tmp 0), some (13, false), 0⟩,
 ⟨some 15, .index 9 (Operand.tmp 14) (Operand.const (Value.int IntKind.i64 2)), some (13, false), 0⟩,
 ⟨some 16, .binOp BinOp.neq 5 (Operand.tmp 15) (Operand.const (Value.int IntKind.u8 46)) 5, some (13, false), 0⟩,
 ⟨some 17, .pick (Operand.tmp 13) (Operand.const (Value.bool true)) (Operand.tmp 16), none, 0⟩,
 ⟨some 18, .move (Operand.tmp 17), none, 0⟩,
 ⟨some 19, .move (Operand.tmp 0), some (18, false), 0⟩,
 ⟨some 20, .move (Operand.tmp 0), some (18, false), 0⟩,
 ⟨some 21, .call ⟨(Callee.builtin Builtin.len), [(Operand.tmp 20)].toArray, #[9]⟩, some (18, false), 0⟩,
 ⟨some 22, .binOp BinOp.sub 3 (Operand.tmp 21) (Operand.const (Value.int IntKind.i64 1)) 3, some (18, false), 0⟩,
 ⟨some 23, .index 9 (Operand.tmp 19) (Operand.tmp 22), some (18, false), 0⟩,
 ⟨some 24, .binOp BinOp.neq 5 (Operand.tmp 23) (Operand.const (Value.int IntKind.u8 64)) 5, some (18, false), 0⟩,
 ⟨some 25, .pick (Operand.tmp 18) (Operand.const (Value.bool true)) (Operand.tmp 24), none, 0⟩])
 (.cond (Operand.tmp 25)
 (.seq
 (.ops [⟨some 26, .build 39 [].toArray, none, 0⟩,
 ⟨none, .store 39 (Operand.tmp 2) (Operand.tmp 26), none, 0⟩])
 .ret)
 .skip))
 (.seq
 (.ops [⟨some 27, .move (Operand.tmp 0), none, 0⟩,
 ⟨some 28, .move (Operand.tmp 0), none, 0⟩,
 ⟨some 29, .call ⟨(Callee.builtin Builtin.len), [(Operand.tmp 28)].toArray, #[9]⟩, none, 0⟩,
 ⟨some 30, .binOp BinOp.sub 3 (Operand.tmp 29) (Operand.const (Value.int IntKind.i64 1)) 3, none, 0⟩,
 ⟨some 31, .slice 9 (Operand.tmp 27) (some (Operand.const (Value.int IntKind.i64 3))) (some (Operand.tmp 30)) none, none, 0⟩,
 ⟨some 32, .call ⟨(Callee.value (Operand.func 23)), [(Operand.tmp 31), (Operand.const (Value.string ⟨#[46]⟩))].toArray, #[9, 9]⟩, none, 0⟩,
 ⟨some 3, .assign (Operand.tmp 32), none, 0⟩])
 (.seq
 (.draw [⟨some 33, .move (Operand.tmp 0), none, 0⟩,
 ⟨some 34, .index 9 (Operand.tmp 33) (Operand.const (Value.int IntKind.i64 1)), none, 0⟩,
 ⟨some 35, .move (Operand.tmp 3), none, 0⟩,
 ⟨some 36, .indexAddr 22 (Operand.tmp 35) (Operand.const (Value.int IntKind.i64 0)), none, 0⟩,
 ⟨some 37, .load 9 (Operand.tmp 36), none, 0⟩,
 ⟨some 38, .build 39 [(0, (Operand.tmp 34)), (1, (Operand.tmp 37)), (3, (Operand.const (Value.bool true)))].toArray, none, 0⟩,
 ⟨some 4, .alloc 39, none, 0⟩,
 ⟨none, .store 39 (Operand.tmp 4) (Operand.tmp 38), none, 0⟩] true [7] [])
 (.seq
 (.seq
 (.ops [⟨some 39, .move (Operand.tmp 3), none, 0⟩,
 ⟨some 40, .call ⟨(Callee.builtin Builtin.len), [(Operand.tmp 39)].toArray, #[22]⟩, none, 0⟩,
 ⟨some 41, .binOp BinOp.eql 3 (Operand.tmp 40) (Operand.const (Value.int IntKind.i64 2)) 3, none, 0⟩])
 (.cond (Operand.tmp 41)
 (.ops [⟨some 42, .move (Operand.tmp 3), none, 0⟩,
 ⟨some 43, .indexAddr 22 (Operand.tmp 42) (Operand.const (Value.int IntKind.i64 1)), none, 0⟩,
 ⟨some 44, .load 9 (Operand.tmp 43), none, 0⟩,
 ⟨some 45, .fieldAddr 39 (Operand.tmp 4) 2, none, 0⟩,
 ⟨none, .store 9 (Operand.tmp 45) (Operand.tmp 44), none, 0⟩])
 .skip))
 (.seq
 (.seq
 (.ops [⟨some 46, .move (Operand.tmp 3), none, 0⟩,
 ⟨some 47, .call ⟨(Callee.builtin Builtin.len), [(Operand.tmp 46)].toArray, #[22]⟩, none, 0⟩,
 ⟨some 48, .binOp BinOp.gtr 3 (Operand.tmp 47) (Operand.const (Value.int IntKind.i64 2)) 3, none, 0⟩,
 ⟨some 49, .move (Operand.tmp 48), none, 0⟩,
 ⟨some 50, .fieldAddr 39 (Operand.tmp 4) 1, some (49, false), 0⟩,
 ⟨some 51, .load 9 (Operand.tmp 50), some (49, false), 0⟩,
 ⟨some 52, .call ⟨(Callee.value (Operand.func 24)), [(Operand.tmp 51)].toArray, #[9]⟩, some (49, false), 0⟩,
 ⟨some 53, .unOp UnOp.not 4 (Operand.tmp 52), some (49, false), 0⟩,
 ⟨some 54, .pick (Operand.tmp 49) (Operand.const (Value.bool true)) (Operand.tmp 53), none, 0⟩,
 ⟨some 55, .move (Operand.tmp 54), none, 0⟩,
 ⟨some 56, .move (Operand.tmp 3), some (55, false), 0⟩,
 ⟨some 57, .call ⟨(Callee.builtin Builtin.len), [(Operand.tmp 56)].toArray, #[22]⟩, some (55, false), 0⟩,
 ⟨some 58, .binOp BinOp.eql 3 (Operand.tmp 57) (Operand.const (Value.int IntKind.i64 2)) 3, some (55, false), 0⟩,
 ⟨some 59, .move (Operand.tmp 58), some (55, false), 0⟩,
 ⟨some 60, .fieldAddr 39 (Operand.tmp 4) 2, some (59, true), 0⟩,
 ⟨some 61, .load 9 (Operand.tmp 60), some (59, true), 0⟩,
 ⟨some 62, .call ⟨(Callee.value (Operand.func 24)), [(Operand.tmp 61)].toArray, #[9]⟩, some (59, true), 0⟩,
 ⟨some 63, .unOp UnOp.not 4 (Operand.tmp 62), some (59, true), 0⟩,
 ⟨some 64, .pick (Operand.tmp 59) (Operand.tmp 63) (Operand.const (Value.bool false)), some (55, false), 0⟩,
 ⟨some 65, .pick (Operand.tmp 55) (Operand.const (Value.bool true)) (Operand.tmp 64), none, 0⟩])
 (.cond (Operand.tmp 65)
 (.seq
 (.ops [⟨some 66, .build 39 [].toArray, none, 0⟩,
 ⟨none, .store 39 (Operand.tmp 2) (Operand.tmp 66), none, 0⟩])
 .ret)
 .skip))
 (.seq
 (.seq
 (.ops [⟨some 67, .fieldAddr 39 (Operand.tmp 4) 0, none, 0⟩,
 ⟨some 68, .load 5 (Operand.tmp 67), none, 0⟩])
 (.block 0
 (.seq
 (.seq
 (.ops [⟨some 71, .binOp BinOp.eql 5 (Operand.tmp 68) (Operand.const (Value.int IntKind.u8 80)) 5, none, 0⟩,
 ⟨some 70, .assign (Operand.tmp 71), none, 0⟩])
 (.cond (Operand.tmp 70)
 .skip
 (.seq
 (.ops [⟨some 72, .binOp BinOp.eql 5 (Operand.tmp 68) (Operand.const (Value.int IntKind.u8 78)) 5, none, 0⟩,
 ⟨some 70, .assign (Operand.tmp 72), none, 0⟩])
 (.cond (Operand.tmp 70)
 .skip
 (.ops [⟨some 73, .binOp BinOp.eql 5 (Operand.tmp 68) (Operand.const (Value.int IntKind.u8 85)) 5, none, 0⟩,
 ⟨some 70, .assign (Operand.tmp 73), none, 0⟩])))))
 (.cond (Operand.tmp 70)
 (.ops [⟨some 74, .fieldAddr 39 (Operand.tmp 4) 2, none, 0⟩,
 ⟨some 75, .load 9 (Operand.tmp 74), none, 0⟩,
 ⟨some 76, .binOp BinOp.neq 9 (Operand.tmp 75) (Operand.const (Value.string ⟨#[]⟩)) 9, none, 0⟩,
 ⟨some 77, .fieldAddr 39 (Operand.tmp 4) 3, none, 0⟩,
 ⟨none, .store 4 (Operand.tmp 77) (Operand.tmp 76), none, 0⟩])
 (.seq
 (.ops [⟨some 79, .binOp BinOp.eql 5 (Operand.tmp 68) (Operand.const (Value.int IntKind.u8 67)) 5, none, 0⟩,
 ⟨some 78, .assign (Operand.tmp 79), none, 0⟩])
 (.cond (Operand.tmp 78)
 (.ops [⟨some 80, .fieldAddr 39 (Operand.tmp 4) 2, none, 0⟩,
 ⟨some 81, .load 9 (Operand.tmp 80), none, 0⟩,
 ⟨some 82, .binOp BinOp.eql 9 (Operand.tmp 81) (Operand.const (Value.string ⟨#[]⟩)) 9, none, 0⟩,
 ⟨some 83, .fieldAddr 39 (Operand.tmp 4) 3, none, 0⟩,
 ⟨none, .store 4 (Operand.tmp 83) (Operand.tmp 82), none, 0⟩])
 (.seq
 (.seq
 (.ops [⟨some 85, .binOp BinOp.eql 5 (Operand.tmp 68) (Operand.const (Value.int IntKind.u8 82)) 5, none, 0⟩,
 ⟨some 84, .assign (Operand.tmp 85), none, 0⟩])
 (.cond (Operand.tmp 84)
 .skip
 (.ops [⟨some 86, .binOp BinOp.eql 5 (Operand.tmp 68) (Operand.const (Value.int IntKind.u8 68)) 5, none, 0⟩,
 ⟨some 84, .assign (Operand.tmp 86), none, 0⟩])))
 (.cond (Operand.tmp 84)
 .skip
 (.ops [⟨some 69, .fieldAddr 39 (Operand.tmp 4) 3, none, 0⟩,
 ⟨none, .store 4 (Operand.tmp 69) (Operand.const (Value.bool false)), none, 0⟩])))))))))
 (.seq
 (.seq
 (.ops [⟨some 87, .fieldAddr 39 (Operand.tmp 4) 3, none, 0⟩,
 ⟨some 88, .load 4 (Operand.tmp 87), none, 0⟩,
 ⟨some 89, .unOp UnOp.not 4 (Operand.tmp 88), none, 0⟩])
 (.cond (Operand.tmp 89)
 (.seq
 (.ops [⟨some 90, .build 39 [].toArray, none, 0⟩,
 ⟨none, .store 39 (Operand.tmp 2) (Operand.tmp 90), none, 0⟩])
 .ret)
 .skip))
 (.seq
 (.ops [⟨some 91, .load 39 (Operand.tmp 4), none, 0⟩,
 ⟨none, .store 39 (Operand.tmp 2) (Operand.tmp 91), none, 0⟩])
 .ret)))))))))
abbrev R13 : List ResultVar := [ResultVar.cell 2 39]
theorem ok13 : FnOK Tryd.prog 13 L13 R13 1 := ⟨_, _, Tryd.func13, rfl, by kernel_rfl, by kernel_rfl, by kernel_rfl, by kernel_rfl, Nat.le_of_ble_eq_true (by kernel_rfl), by kernel_rfl⟩

/-- ablaut/syms.Validate -/
def L14 : LCode :=
 (.seq
 (.ops [⟨some 2, .assign (Operand.const (Value.int IntKind.i64 0)), none, 0⟩])
 (.seq
 (.seq
 (.ops [⟨some 5, .move (Operand.tmp 0), none, 0⟩,
 ⟨some 6, .call ⟨(Callee.builtin Builtin.len), [(Operand.tmp 5)].toArray, #[22]⟩, none, 0⟩,
 ⟨some 7, .binOp BinOp.gtr 3 (Operand.tmp 6) (Operand.const (Value.int IntKind.i64 40)) 3, none, 0⟩,
 ⟨some 8, .move (Operand.tmp 7), none, 0⟩,
 ⟨some 9, .move (Operand.tmp 0), some (8, false), 0⟩,
 ⟨some 10, .call ⟨(Callee.value (Operand.func 25)), [(Operand.tmp 9), (Operand.func 26)].toArray, #[22, 25]⟩, some (8, false), 0⟩,
 ⟨some 11, .pick (Operand.tmp 8) (Operand.const (Value.bool true)) (Operand.tmp 10), none, 0⟩])
 (.cond (Operand.tmp 11)
 (.seq
 (.ops [⟨some 2, .assign (Operand.const (Value.int IntKind.i64 3)), none, 0⟩])
 .ret)
 .skip))
 (.seq
 (.seq
 (.ops [⟨some 12, .move (Operand.tmp 0), none, 0⟩,
 ⟨some 13, .call ⟨(Callee.builtin Builtin.len), [(Operand.tmp 12)].toArray, #[22]⟩, none, 0⟩,
 ⟨some 14, .move (Operand.const (Value.int IntKind.i64 0)), none, 0⟩])
 (.block 0
 (.loop
 (.seq
 (.ops [⟨some 15, .binOp BinOp.lss 3 (Operand.tmp 14) (Operand.tmp 13) 3, none, 0⟩])
 (.seq
 (.cond (Operand.tmp 15)
 .skip
 (.exit 0))
 (.seq
 (.block 1
 (.seq
 (.ops [⟨some 16, .move (Operand.tmp 14), none, 0⟩,
 ⟨some 17, .indexAddr 22 (Operand.tmp 12) (Operand.tmp 14), none, 0⟩,
 ⟨some 18, .load 9 (Operand.tmp 17), none, 0⟩,
 ⟨some 3, .assign (Operand.tmp 16), none, 0⟩,
 ⟨some 4, .assign (Operand.tmp 18), none, 0⟩])
 (.seq
 (.ops [⟨some 19, .move (Operand.tmp 4), none, 0⟩,
 ⟨some 20, .call ⟨(Callee.value (Operand.func 27)), [(Operand.tmp 19)].toArray, #[9]⟩, none, 0⟩,
 ⟨some 21, .unOp UnOp.not 4 (Operand.tmp 20), none, 0⟩,
 ⟨some 22, .move (Operand.tmp 21), none, 0⟩,
 ⟨some 23, .move (Operand.tmp 3), some (22, false), 0⟩,
 ⟨some 24, .binOp BinOp.gtr 3 (Operand.tmp 23) (Operand.const (Value.int IntKind.i64 0)) 3, some (22, false), 0⟩,
 ⟨some 25, .move (Operand.tmp 24), some (22, false), 0⟩,
 ⟨some 26, .move (Operand.tmp 0), some (25, true), 0⟩,
 ⟨some 27, .move (Operand.tmp 3), some (25, true), 0⟩,
 ⟨some 28, .binOp BinOp.sub 3 (Operand.tmp 27) (Operand.const (Value.int IntKind.i64 1)) 3, some (25, true), 0⟩,
 ⟨some 29, .indexAddr 22 (Operand.tmp 26) (Operand.tmp 28), some (25, true), 0⟩,
 ⟨some 30, .load 9 (Operand.tmp 29), some (25, true), 0⟩,
 ⟨some 31, .move (Operand.tmp 4), some (25, true), 0⟩,
 ⟨some 32, .binOp BinOp.geq 9 (Operand.tmp 30) (Operand.tmp 31) 9, some (25, true), 0⟩,
 ⟨some 33, .pick (Operand.tmp 25) (Operand.tmp 32) (Operand.const (Value.bool false)), some (22, false), 0⟩,
 ⟨some 34, .pick (Operand.tmp 22) (Operand.const (Value.bool true)) (Operand.tmp 33), none, 0⟩])
 (.cond (Operand.tmp 34)
 (.seq
 (.ops [⟨some 2, .assign (Operand.const (Value.int IntKind.i64 1)), none, 0⟩])
 .ret)
 .skip))))
 (.ops [⟨some 35, .binOp BinOp.add 3 (Operand.tmp 14) (Operand.const (Value.int IntKind.i64 1)) 3, none, 0⟩,
 ⟨some 14, .move (Operand.tmp 35), none, 0⟩])))))))
 (.seq
 (.ops [⟨some 2, .assign (Operand.const (Value.int IntKind.i64 0)), none, 0⟩])
 .ret))))
abbrev R14 : List ResultVar := [ResultVar.tmp 2]
theorem ok14 : FnOK Tryd.prog 14 L14 R14 1 := ⟨_, _, Tryd.func14, rfl, by kernel_rfl, by kernel_rfl, by kernel_rfl, by kernel_rfl, Nat.le_of_ble_eq_true (by kernel_rfl), by kernel_rfl⟩

/-- ablaut/ablautref01.Validate -/
def L15 : LCode :=
 (.seq
 (.ops [⟨some 2, .assign (Operand.const (Value.int IntKind.i64 0)), none, 0⟩])
 (.seq
 (.seq
 (.ops [⟨some 3, .move (Operand.tmp 0), none, 0⟩,
 ⟨some 4, .call ⟨(Callee.builtin Builtin.len), [(Operand.tmp 3)].toArray, #[22]⟩, none, 0⟩,
 ⟨some 5, .binOp BinOp.gtr 3 (Operand.tmp 4) (Operand.const (Value.int IntKind.i64 40)) 3, none, 0⟩,
 ⟨some 6, .move (Operand.tmp 5), none, 0⟩,
 ⟨some 7, .move (Operand.tmp 0), some (6, false), 0⟩,
 ⟨some 8, .call ⟨(Callee.value (Operand.func 28)), [(Operand.tmp 7)].toArray, #[22]⟩, some (6, false), 0⟩,
 ⟨some 9, .pick (Operand.tmp 6) (Operand.const (Value.bool true)) (Operand.tmp 8), none, 0⟩])
 (.cond (Operand.tmp 9)
 (.seq
 (.ops [⟨some 2, .assign (Operand.const (Value.int IntKind.i64 3)), none, 0⟩])
 .ret)
 .skip))
 (.seq
 (.seq
 (.ops [⟨some 10, .move (Operand.tmp 0), none, 0⟩,
 ⟨some 11, .call ⟨(Callee.value (Operand.func 29)), [(Operand.tmp 10)].toArray, #[22]⟩, none, 0⟩,
 ⟨some 12, .unOp UnOp.not 4 (Operand.tmp 11), none, 0⟩,
 ⟨some 13, .move (Operand.tmp 12), none, 0⟩,
 ⟨some 14, .move (Operand.tmp 0), some (13, false), 0⟩,
 ⟨some 15, .call ⟨(Callee.value (Operand.func 30)), [(Operand.tmp 14)].toArray, #[22]⟩, some (13, false), 0⟩,
 ⟨some 16, .unOp UnOp.not 4 (Operand.tmp 15), some (13, false), 0⟩,
 ⟨some 17, .pick (Operand.tmp 13) (Operand.const (Value.bool true)) (Operand.tmp 16), none, 0⟩])
 (.cond (Operand.tmp 17)
 (.seq
 (.ops [⟨some 2, .assign (Operand.const (Value.int IntKind.i64 1)), none, 0⟩])
 .ret)
 .skip))
 (.seq
 (.ops [⟨some 2, .assign (Operand.const (Value.int IntKind.i64 0)), none, 0⟩])
 .ret))))
abbrev R15 : List ResultVar := [ResultVar.tmp 2]
theorem ok15 : FnOK Tryd.prog 15 L15 R15 1 := ⟨_, _, Tryd.func15, rfl, by kernel_rfl, by kernel_rfl, by kernel_rfl, by kernel_rfl, Nat.le_of_ble_eq_true (by kernel_rfl), by kernel_rfl⟩

/-- ablaut/ablautref10.sorted -/
def L16 : LCode :=
 (.seq
 (.ops [⟨some 4, .assign (Operand.const (Value.slice none 0 0)), none, 0⟩])
 (.seq
 (.ops [⟨some 5, .assign (Operand.const (Value.slice none 0 0)), none, 0⟩])
 (.seq
 (.seq
 (.ops [⟨some 6, .assign (Operand.const (Value.int IntKind.i64 0)), none, 0⟩])
 (.block 0
 (.loop
 (.seq
 (.seq
 (.ops [⟨some 7, .move (Operand.tmp 6), none, 0⟩,
 ⟨some 8, .move (Operand.tmp 0), none, 0⟩,
 ⟨some 9, .call ⟨(Callee.builtin Builtin.len), [(Operand.tmp 8)].toArray, #[22]⟩, none, 0⟩,
 ⟨some 10, .binOp BinOp.lss 3 (Operand.tmp 7) (Operand.tmp 9) 3, none, 0⟩])
 (.cond (Operand.tmp 10)
 .skip
 (.exit 0)))
 (.seq
 (.block 1
 (.seq
 (.ops [⟨some 13, .move (Operand.tmp 0), none, 0⟩,
 ⟨some 14, .move (Operand.tmp 6), none, 0⟩,
 ⟨some 15, .indexAddr 22 (Operand.tmp 13) (Operand.tmp 14), none, 0⟩,
 ⟨some 16, .load 9 (Operand.tmp 15), none, 0⟩,
 ⟨some 17, .call ⟨(Callee.value (Operand.func 7)), [(Operand.tmp 16)].toArray, #[9]⟩, none, 0⟩,
 ⟨some 18, .move (Operand.tmp 1), none, 0⟩,
 ⟨some 19, .binOp BinOp.eql 4 (Operand.tmp 17) (Operand.tmp 18) 4, none, 0⟩])
 (.cond (Operand.tmp 19)
 (.ops [⟨some 20, .move (Operand.tmp 5), none, 0⟩,
 ⟨some 21, .move (Operand.tmp 0), none, 0⟩,
 ⟨some 22, .move (Operand.tmp 6), none, 0⟩,
 ⟨some 23, .indexAddr 22 (Operand.tmp 21) (Operand.tmp 22), none, 0⟩,
 ⟨some 24, .load 9 (Operand.tmp 23), none, 0⟩,
 ⟨some 25, .buildSlice 22 1 [(0, (Operand.tmp 24))].toArray, none, 0⟩,
 ⟨some 26, .call ⟨(Callee.builtin Builtin.append), [(Operand.tmp 20), (Operand.tmp 25)].toArray, #[22, 22]⟩, none, 0⟩,
 ⟨some 5, .assign (Operand.tmp 26), none, 0⟩])
 .skip)))
 (.ops [⟨some 11, .move (Operand.tmp 6), none, 0⟩,
 ⟨some 12, .binOp BinOp.add 3 (Operand.tmp 11) (Operand.const (Value.int IntKind.i64 1)) 3, none, 0⟩,
 ⟨some 6, .assign (Operand.tmp 12), none, 0⟩]))))))
 (.seq
 (.ops [⟨some 27, .move (Operand.tmp 5), none, 0⟩,
 ⟨some 4, .assign (Operand.tmp 27), none, 0⟩])
 .ret))))
abbrev R16 : List ResultVar := [ResultVar.tmp 4]
theorem ok16 : FnOK Tryd.prog 16 L16 R16 2 := ⟨_, _, Tryd.func16, rfl, by kernel_rfl, by kernel_rfl, by kernel_rfl, by kernel_rfl, Nat.le_of_ble_eq_true (by kernel_rfl), by kernel_rfl⟩

/-- ablaut/ablautref01.Order -/
def L17 : LCode :=
 (.seq
 (.ops [⟨some 4, .assign (Operand.const (Value.int IntKind.i64 0)), none, 0⟩])
 (.seq
 (.seq
 (.ops [⟨some 5, .assign (Operand.const (Value.int IntKind.i64 0)), none, 0⟩])
 (.block 0
 (.loop
 (.seq
 (.seq
 (.ops [⟨some 6, .move (Operand.tmp 5), none, 0⟩,
 ⟨some 7, .move (Operand.tmp 0), none, 0⟩,
 ⟨some 8, .call ⟨(Callee.builtin Builtin.len), [(Operand.tmp 7)].toArray, #[22]⟩, none, 0⟩,
 ⟨some 9, .binOp BinOp.lss 3 (Operand.tmp 6) (Operand.tmp 8) 3, none, 0⟩,
 ⟨some 10, .move (Operand.tmp 9), none, 0⟩,
 ⟨some 11, .move (Operand.tmp 5), some (10, true), 0⟩,
 ⟨some 12, .move (Operand.tmp 1), some (10, true), 0⟩,
 ⟨some 13, .call ⟨(Callee.builtin Builtin.len), [(Operand.tmp 12)].toArray, #[22]⟩, some (10, true), 0⟩,
 ⟨some 14, .binOp BinOp.lss 3 (Operand.tmp 11) (Operand.tmp 13) 3, some (10, true), 0⟩,
 ⟨some 15, .pick (Operand.tmp 10) (Operand.tmp 14) (Operand.const (Value.bool false)), none, 0⟩])
 (.cond (Operand.tmp 15)
 .skip
 (.exit 0)))
 (.seq
 (.block 1
 (.seq
 (.seq
 (.draw [⟨some 18, .move (Operand.tmp 0), none, 0⟩,
 ⟨some 19, .move (Operand.tmp 5), none, 0⟩,
 ⟨some 20, .indexAddr 22 (Operand.tmp 18) (Operand.tmp 19), none, 0⟩,
 ⟨some 21, .load 9 (Operand.tmp 20), none, 0⟩,
 ⟨some 22, .move (Operand.tmp 1), none, 0⟩,
 ⟨some 23, .move (Operand.tmp 5), none, 0⟩,
 ⟨some 24, .indexAddr 22 (Operand.tmp 22) (Operand.tmp 23), none, 0⟩,
 ⟨some 25, .load 9 (Operand.tmp 24), none, 0⟩,
 ⟨some 26, .binOp BinOp.lss 9 (Operand.tmp 21) (Operand.tmp 25) 9, none, 0⟩] true [8] [0, 1, 2, 4, 5, 6, 3, 7, 8])
 (.cond (Operand.tmp 26)
 (.seq
 (.ops [⟨some 4, .assign (Operand.const (Value.int IntKind.i64 (-1))), none, 0⟩])
 .ret)
 .skip))
 (.seq
 (.draw [⟨some 27, .move (Operand.tmp 0), none, 0⟩,
 ⟨some 28, .move (Operand.tmp 5), none, 0⟩,
 ⟨some 29, .indexAddr 22 (Operand.tmp 27) (Operand.tmp 28), none, 0⟩,
 ⟨some 30, .load 9 (Operand.tmp 29), none, 0⟩,
 ⟨some 31, .move (Operand.tmp 1), none, 0⟩,
 ⟨some 32, .move (Operand.tmp 5), none, 0⟩,
 ⟨some 33, .indexAddr 22 (Operand.tmp 31) (Operand.tmp 32), none, 0⟩,
 ⟨some 34, .load 9 (Operand.tmp 33), none, 0⟩,
 ⟨some 35, .binOp BinOp.gtr 9 (Operand.tmp 30) (Operand.tmp 34) 9, none, 0⟩] true [8] [0, 1, 2, 4, 5, 6, 3, 7, 8])
 (.cond (Operand.tmp 35)
 (.seq
 (.ops [⟨some 4, .assign (Operand.const (Value.int IntKind.i64 1)), none, 0⟩])
 .ret)
 .skip))))
 (.ops [⟨some 16, .move (Operand.tmp 5), none, 0⟩,
 ⟨some 17, .binOp BinOp.add 3 (Operand.tmp 16) (Operand.const (Value.int IntKind.i64 1)) 3, none, 0⟩,
 ⟨some 5, .assign (Operand.tmp 17), none, 0⟩]))))))
 (.seq
 (.block 2
 (.seq
 (.ops [⟨some 37, .move (Operand.tmp 0), none, 0⟩,
 ⟨some 38, .call ⟨(Callee.builtin Builtin.len), [(Operand.tmp 37)].toArray, #[22]⟩, none, 0⟩,
 ⟨some 39, .move (Operand.tmp 1), none, 0⟩,
 ⟨some 40, .call ⟨(Callee.builtin Builtin.len), [(Operand.tmp 39)].toArray, #[22]⟩, none, 0⟩,
 ⟨some 41, .binOp BinOp.lss 3 (Operand.tmp 38) (Operand.tmp 40) 3, none, 0⟩,
 ⟨some 36, .assign (Operand.tmp 41), none, 0⟩])
 (.cond (Operand.tmp 36)
 (.seq
 (.ops [⟨some 4, .assign (Operand.const (Value.int IntKind.i64 (-1))), none, 0⟩])
 .ret)
 (.seq
 (.ops [⟨some 43, .move (Operand.tmp 0), none, 0⟩,
 ⟨some 44, .call ⟨(Callee.builtin Builtin.len), [(Operand.tmp 43)].toArray, #[22]⟩, none, 0⟩,
 ⟨some 45, .move (Operand.tmp 1), none, 0⟩,
 ⟨some 46, .call ⟨(Callee.builtin Builtin.len), [(Operand.tmp 45)].toArray, #[22]⟩, none, 0⟩,
 ⟨some 47, .binOp BinOp.gtr 3 (Operand.tmp 44) (Operand.tmp 46) 3, none, 0⟩,
 ⟨some 42, .assign (Operand.tmp 47), none, 0⟩])
 (.cond (Operand.tmp 42)
 (.seq
 (.ops [⟨some 4, .assign (Operand.const (Value.int IntKind.i64 1)), none, 0⟩])
 .ret)
 .skip)))))
 (.seq
 (.ops [⟨some 4, .assign (Operand.const (Value.int IntKind.i64 0)), none, 0⟩])
 .ret))))
abbrev R17 : List ResultVar := [ResultVar.tmp 4]
theorem ok17 : FnOK Tryd.prog 17 L17 R17 2 := ⟨_, _, Tryd.func17, rfl, by kernel_rfl, by kernel_rfl, by kernel_rfl, by kernel_rfl, Nat.le_of_ble_eq_true (by kernel_rfl), by kernel_rfl⟩

/-- ablaut/syms.ValidateWord -/
def L18 : LCode :=
 (.seq
 (.ops [⟨some 2, .assign (Operand.const (Value.int IntKind.i64 0)), none, 0⟩])
 (.seq
 (.block 0
 (.seq
 (.ops [⟨some 4, .move (Operand.tmp 0), none, 0⟩,
 ⟨some 5, .call ⟨(Callee.builtin Builtin.len), [(Operand.tmp 4)].toArray, #[22]⟩, none, 0⟩,
 ⟨some 6, .binOp BinOp.gtr 3 (Operand.tmp 5) (Operand.const (Value.int IntKind.i64 60)) 3, none, 0⟩,
 ⟨some 7, .move (Operand.tmp 6), none, 0⟩,
 ⟨some 8, .move (Operand.tmp 0), some (7, false), 0⟩,
 ⟨some 9, .call ⟨(Callee.value (Operand.func 25)), [(Operand.tmp 8), (Operand.func 26)].toArray, #[22, 25]⟩, some (7, false), 0⟩,
 ⟨some 10, .pick (Operand.tmp 7) (Operand.const (Value.bool true)) (Operand.tmp 9), none, 0⟩,
 ⟨some 3, .assign (Operand.tmp 10), none, 0⟩])
 (.cond (Operand.tmp 3)
 (.seq
 (.ops [⟨some 2, .assign (Operand.const (Value.int IntKind.i64 3)), none, 0⟩])
 .ret)
 (.seq
 (.ops [⟨some 12, .move (Operand.tmp 0), none, 0⟩,
 ⟨some 13, .call ⟨(Callee.value (Operand.func 25)), [(Operand.tmp 12), (Operand.func 31)].toArray, #[22, 25]⟩, none, 0⟩,
 ⟨some 11, .assign (Operand.tmp 13), none, 0⟩])
 (.cond (Operand.tmp 11)
 (.seq
 (.ops [⟨some 2, .assign (Operand.const (Value.int IntKind.i64 1)), none, 0⟩])
 .ret)
 .skip)))))
 (.seq
 (.ops [⟨some 2, .assign (Operand.const (Value.int IntKind.i64 0)), none, 0⟩])
 .ret)))
abbrev R18 : List ResultVar := [ResultVar.tmp 2]
theorem ok18 : FnOK Tryd.prog 18 L18 R18 1 := ⟨_, _, Tryd.func18, rfl, by kernel_rfl, by kernel_rfl, by kernel_rfl, by kernel_rfl, Nat.le_of_ble_eq_true (by kernel_rfl), by kernel_rfl⟩

/-- (ablaut/flag.mark).pass -/
def L19 : LCode :=
 (.seq
 (.ops [⟨some 2, .box 35 (Operand.tmp 0), none, 0⟩,
 ⟨some 3, .box 46 (Operand.tmp 1), none, 0⟩,
 ⟨some 4, .alloc 46, none, 0⟩,
 ⟨some 5, .assign (Operand.const (Value.bool false)), none, 0⟩])
 (.seq
 (.seq
 (.ops [⟨some 6, .fieldAddr 35 (Operand.tmp 2) 0, none, 0⟩,
 ⟨some 7, .load 5 (Operand.tmp 6), none, 0⟩])
 (.block 0
 (.seq
 (.ops [⟨some 9, .binOp BinOp.eql 5 (Operand.tmp 7) (Operand.const (Value.int IntKind.u8 80)) 5, none, 0⟩,
 ⟨some 8, .assign (Operand.tmp 9), none, 0⟩])
 (.cond (Operand.tmp 8)
 (.seq
 (.ops [⟨some 10, .fieldAddr 35 (Operand.tmp 2) 2, none, 0⟩,
 ⟨some 11, .load 9 (Operand.tmp 10), none, 0⟩,
 ⟨some 12, .build 46 [(0, (Operand.tmp 11))].toArray, none, 0⟩,
 ⟨none, .store 46 (Operand.tmp 4) (Operand.tmp 12), none, 0⟩,
 ⟨some 5, .assign (Operand.const (Value.bool true)), none, 0⟩])
 .ret)
 (.seq
 (.ops [⟨some 14, .binOp BinOp.eql 5 (Operand.tmp 7) (Operand.const (Value.int IntKind.u8 78)) 5, none, 0⟩,
 ⟨some 13, .assign (Operand.tmp 14), none, 0⟩])
 (.cond (Operand.tmp 13)
 (.seq
 (.ops [⟨some 15, .fieldAddr 35 (Operand.tmp 2) 2, none, 0⟩,
 ⟨some 16, .load 9 (Operand.tmp 15), none, 0⟩,
 ⟨some 17, .build 46 [(0, (Operand.tmp 16)), (1, (Operand.const (Value.bool true)))].toArray, none, 0⟩,
 ⟨none, .store 46 (Operand.tmp 4) (Operand.tmp 17), none, 0⟩,
 ⟨some 5, .assign (Operand.const (Value.bool true)), none, 0⟩])
 .ret)
 (.seq
 (.ops [⟨some 19, .binOp BinOp.eql 5 (Operand.tmp 7) (Operand.const (Value.int IntKind.u8 67)) 5, none, 0⟩,
 ⟨some 18, .assign (Operand.tmp 19), none, 0⟩])
 (.cond (Operand.tmp 18)
 (.seq
 (.ops [⟨some 20, .build 46 [].toArray, none, 0⟩,
 ⟨none, .store 46 (Operand.tmp 4) (Operand.tmp 20), none, 0⟩,
 ⟨some 5, .assign (Operand.const (Value.bool true)), none, 0⟩])
 .ret)
 (.seq
 (.ops [⟨some 22, .binOp BinOp.eql 5 (Operand.tmp 7) (Operand.const (Value.int IntKind.u8 82)) 5, none, 0⟩,
 ⟨some 21, .assign (Operand.tmp 22), none, 0⟩])
 (.cond (Operand.tmp 21)
 (.seq
 (.seq
 (.ops [⟨some 23, .load 35 (Operand.tmp 2), none, 0⟩,
 ⟨some 24, .call ⟨(Callee.value (Operand.func 32)), [(Operand.tmp 23)].toArray, #[35]⟩, none, 0⟩,
 ⟨some 25, .unOp UnOp.not 4 (Operand.tmp 24), none, 0⟩])
 (.cond (Operand.tmp 25)
 (.seq
 (.draw [⟨some 26, .load 46 (Operand.tmp 3), none, 0⟩,
 ⟨some 27, .fieldAddr 46 (Operand.tmp 3) 0, none, 0⟩,
 ⟨some 28, .load 9 (Operand.tmp 27), none, 0⟩,
 ⟨some 29, .binOp BinOp.neq 9 (Operand.tmp 28) (Operand.const (Value.string ⟨#[]⟩)) 9, none, 0⟩,
 ⟨none, .store 46 (Operand.tmp 4) (Operand.tmp 26), none, 0⟩,
 ⟨some 5, .assign (Operand.tmp 29), none, 0⟩] true [5] [])
 .ret)
 .skip))
 (.seq
 (.draw [⟨some 30, .load 46 (Operand.tmp 3), none, 0⟩,
 ⟨some 31, .load 46 (Operand.tmp 3), none, 0⟩,
 ⟨some 32, .fieldAddr 35 (Operand.tmp 2) 2, none, 0⟩,
 ⟨some 33, .load 9 (Operand.tmp 32), none, 0⟩,
 ⟨some 34, .build 46 [(0, (Operand.tmp 33))].toArray, none, 0⟩,
 ⟨some 35, .binOp BinOp.eql 46 (Operand.tmp 31) (Operand.tmp 34) 46, none, 0⟩,
 ⟨none, .store 46 (Operand.tmp 4) (Operand.tmp 30), none, 0⟩,
 ⟨some 5, .assign (Operand.tmp 35), none, 0⟩] true [7] [])
 .ret))
 (.seq
 (.ops [⟨some 37, .binOp BinOp.eql 5 (Operand.tmp 7) (Operand.const (Value.int IntKind.u8 68)) 5, none, 0⟩,
 ⟨some 36, .assign (Operand.tmp 37), none, 0⟩])
 (.cond (Operand.tmp 36)
 (.seq
 (.seq
 (.ops [⟨some 38, .load 35 (Operand.tmp 2), none, 0⟩,
 ⟨some 39, .call ⟨(Callee.value (Operand.func 32)), [(Operand.tmp 38)].toArray, #[35]⟩, none, 0⟩,
 ⟨some 40, .unOp UnOp.not 4 (Operand.tmp 39), none, 0⟩])
 (.cond (Operand.tmp 40)
 (.seq
 (.draw [⟨some 41, .load 46 (Operand.tmp 3), none, 0⟩,
 ⟨some 42, .fieldAddr 46 (Operand.tmp 3) 0, none, 0⟩,
 ⟨some 43, .load 9 (Operand.tmp 42), none, 0⟩,
 ⟨some 44, .binOp BinOp.eql 9 (Operand.tmp 43) (Operand.const (Value.string ⟨#[]⟩)) 9, none, 0⟩,
 ⟨none, .store 46 (Operand.tmp 4) (Operand.tmp 41), none, 0⟩,
 ⟨some 5, .assign (Operand.tmp 44), none, 0⟩] true [5] [])
 .ret)
 .skip))
 (.seq
 (.draw [⟨some 45, .load 46 (Operand.tmp 3), none, 0⟩,
 ⟨some 46, .load 46 (Operand.tmp 3), none, 0⟩,
 ⟨some 47, .fieldAddr 35 (Operand.tmp 2) 2, none, 0⟩,
 ⟨some 48, .load 9 (Operand.tmp 47), none, 0⟩,
 ⟨some 49, .build 46 [(0, (Operand.tmp 48))].toArray, none, 0⟩,
 ⟨some 50, .binOp BinOp.neq 46 (Operand.tmp 46) (Operand.tmp 49) 46, none, 0⟩,
 ⟨none, .store 46 (Operand.tmp 4) (Operand.tmp 45), none, 0⟩,
 ⟨some 5, .assign (Operand.tmp 50), none, 0⟩] true [7] [])
 .ret))
 .skip))))))))))))
 (.seq
 (.seq
 (.ops [⟨some 51, .fieldAddr 46 (Operand.tmp 3) 0, none, 0⟩,
 ⟨some 52, .load 9 (Operand.tmp 51), none, 0⟩,
 ⟨some 53, .binOp BinOp.eql 9 (Operand.tmp 52) (Operand.const (Value.string ⟨#[]⟩)) 9, none, 0⟩,
 ⟨some 54, .move (Operand.tmp 53), none, 0⟩,
 ⟨some 55, .fieldAddr 46 (Operand.tmp 3) 1, some (54, false), 0⟩,
 ⟨some 56, .load 4 (Operand.tmp 55), some (54, false), 0⟩,
 ⟨some 57, .unOp UnOp.not 4 (Operand.tmp 56), some (54, false), 0⟩,
 ⟨some 58, .move (Operand.tmp 57), some (54, false), 0⟩,
 ⟨some 59, .fieldAddr 46 (Operand.tmp 3) 0, some (58, true), 0⟩,
 ⟨some 60, .load 9 (Operand.tmp 59), some (58, true), 0⟩,
 ⟨some 61, .fieldAddr 35 (Operand.tmp 2) 2, some (58, true), 0⟩,
 ⟨some 62, .load 9 (Operand.tmp 61), some (58, true), 0⟩,
 ⟨some 63, .binOp BinOp.eql 9 (Operand.tmp 60) (Operand.tmp 62) 9, some (58, true), 0⟩,
 ⟨some 64, .pick (Operand.tmp 58) (Operand.tmp 63) (Operand.const (Value.bool false)), some (54, false), 0⟩,
 ⟨some 65, .pick (Operand.tmp 54) (Operand.const (Value.bool true)) (Operand.tmp 64), none, 0⟩,
 ⟨some 66, .move (Operand.tmp 65), none, 0⟩,
 ⟨some 67, .fieldAddr 46 (Operand.tmp 3) 1, some (66, false), 0⟩,
 ⟨some 68, .load 4 (Operand.tmp 67), some (66, false), 0⟩,
 ⟨some 69, .move (Operand.tmp 68), some (66, false), 0⟩,
 ⟨some 70, .fieldAddr 46 (Operand.tmp 3) 0, some (69, true), 0⟩,
 ⟨some 71, .load 9 (Operand.tmp 70), some (69, true), 0⟩,
 ⟨some 72, .fieldAddr 35 (Operand.tmp 2) 2, some (69, true), 0⟩,
 ⟨some 73, .load 9 (Operand.tmp 72), some (69, true), 0⟩,
 ⟨some 74, .binOp BinOp.neq 9 (Operand.tmp 71) (Operand.tmp 73) 9, some (69, true), 0⟩,
 ⟨some 75, .pick (Operand.tmp 69) (Operand.tmp 74) (Operand.const (Value.bool false)), some (66, false), 0⟩,
 ⟨some 76, .pick (Operand.tmp 66) (Operand.const (Value.bool true)) (Operand.tmp 75), none, 0⟩])
 (.cond (Operand.tmp 76)
 (.seq
 (.ops [⟨some 77, .fieldAddr 35 (Operand.tmp 2) 2, none, 0⟩,
 ⟨some 78, .load 9 (Operand.tmp 77), none, 0⟩,
 ⟨some 79, .build 46 [(0, (Operand.tmp 78))].toArray, none, 0⟩,
 ⟨none, .store 46 (Operand.tmp 4) (Operand.tmp 79), none, 0⟩,
 ⟨some 5, .assign (Operand.const (Value.bool true)), none, 0⟩])
 .ret)
 .skip))
 (.seq
 (.ops [⟨some 80, .load 46 (Operand.tmp 3), none, 0⟩,
 ⟨none, .store 46 (Operand.tmp 4) (Operand.tmp 80), none, 0⟩,
 ⟨some 5, .assign (Operand.const (Value.bool false)), none, 0⟩])
 .ret))))
abbrev R19 : List ResultVar := [ResultVar.cell 4 46, ResultVar.tmp 5]
theorem ok19 : FnOK Tryd.prog 19 L19 R19 2 := ⟨_, _, Tryd.func19, rfl, by kernel_rfl, by kernel_rfl, by kernel_rfl, by kernel_rfl, Nat.le_of_ble_eq_true (by kernel_rfl), by kernel_rfl⟩

/-- strings.Cut -/
def L20 : LCode :=
 (.seq
 (.ops [⟨some 4, .assign (Operand.const (Value.string ⟨#[]⟩)), none, 0⟩,
 ⟨some 5, .assign (Operand.const (Value.string ⟨#[]⟩)), none, 0⟩,
 ⟨some 6, .assign (Operand.const (Value.bool false)), none, 0⟩])
 (.seq
 (.ops [⟨some 7, .move (Operand.tmp 0), none, 0⟩,
 ⟨some 8, .move (Operand.tmp 1), none, 0⟩,
 ⟨some 9, .call ⟨(Callee.value (Operand.func 33)), [(Operand.tmp 7), (Operand.tmp 8)].toArray, #[9, 9]⟩, none, 0⟩,
 ⟨some 10, .extract (Operand.tmp 9) 0, none, 0⟩,
 ⟨some 11, .extract (Operand.tmp 9) 1, none, 0⟩,
 ⟨some 12, .extract (Operand.tmp 9) 2, none, 0⟩,
 ⟨some 4, .assign (Operand.tmp 10), none, 0⟩,
 ⟨some 5, .assign (Operand.tmp 11), none, 0⟩,
 ⟨some 6, .assign (Operand.tmp 12), none, 0⟩])
 .ret))
abbrev R20 : List ResultVar := [ResultVar.tmp 4, ResultVar.tmp 5, ResultVar.tmp 6]
theorem ok20 : FnOK Tryd.prog 20 L20 R20 2 := ⟨_, _, Tryd.func20, rfl, by kernel_rfl, by kernel_rfl, by kernel_rfl, by kernel_rfl, Nat.le_of_ble_eq_true (by kernel_rfl), by kernel_rfl⟩

/-- ablaut/flag.isPart -/
def L21 : LCode :=
 (.seq
 (.ops [⟨some 2, .assign (Operand.const (Value.bool false)), none, 0⟩])
 (.seq
 (.ops [⟨some 3, .move (Operand.tmp 0), none, 0⟩,
 ⟨some 4, .binOp BinOp.neq 9 (Operand.tmp 3) (Operand.const (Value.string ⟨#[]⟩)) 9, none, 0⟩,
 ⟨some 5, .move (Operand.tmp 4), none, 0⟩,
 ⟨some 6, .move (Operand.tmp 0), some (5, true), 0⟩,
 ⟨some 7, .call ⟨(Callee.builtin Builtin.len), [(Operand.tmp 6)].toArray, #[9]⟩, some (5, true), 0⟩,
 ⟨some 8, .binOp BinOp.leq 3 (Operand.tmp 7) (Operand.const (Value.int IntKind.i64 5)) 3, some (5, true), 0⟩,
 ⟨some 9, .pick (Operand.tmp 5) (Operand.tmp 8) (Operand.const (Value.bool false)), none, 0⟩,
 ⟨some 10, .move (Operand.tmp 9), none, 0⟩,
 ⟨some 11, .move (Operand.tmp 0), some (10, true), 0⟩,
 ⟨some 12, .call ⟨(Callee.value (Operand.func 34)), [(Operand.tmp 11), (Operand.const (Value.string ⟨#[97, 98, 99, 100, 101, 102, 103, 104, 105, 106, 107, 108, 109, 110, 111, 112, 113, 114, 115, 116, 117, 118, 119, 120, 121, 122]⟩))].toArray, #[9, 9]⟩, some (10, true), 0⟩,
 ⟨some 13, .binOp BinOp.eql 9 (Operand.tmp 12) (Operand.const (Value.string ⟨#[]⟩)) 9, some (10, true), 0⟩,
 ⟨some 14, .pick (Operand.tmp 10) (Operand.tmp 13) (Operand.const (Value.bool false)), none, 0⟩,
 ⟨some 2, .assign (Operand.tmp 14), none, 0⟩])
 .ret))
abbrev R21 : List ResultVar := [ResultVar.tmp 2]
theorem ok21 : FnOK Tryd.prog 21 L21 R21 1 := ⟨_, _, Tryd.func21, rfl, by kernel_rfl, by kernel_rfl, by kernel_rfl, by kernel_rfl, Nat.le_of_ble_eq_true (by kernel_rfl), by kernel_rfl⟩

/-- (ablaut/flag.needed).ok -/
def L22 : LCode :=
 (.seq
 (.ops [⟨some 1, .box 52 (Operand.tmp 0), none, 0⟩,
 ⟨some 2, .assign (Operand.const (Value.bool false)), none, 0⟩])
 (.seq
 (.seq
 (.ops [⟨some 3, .fieldAddr 52 (Operand.tmp 1) 0, none, 0⟩,
 ⟨some 4, .fieldAddr 35 (Operand.tmp 3) 0, none, 0⟩,
 ⟨some 5, .load 5 (Operand.tmp 4), none, 0⟩])
 (.block 0
 (.seq
 (.seq
 (.ops [⟨some 7, .binOp BinOp.eql 5 (Operand.tmp 5) (Operand.const (Value.int IntKind.u8 80)) 5, none, 0⟩,
 ⟨some 6, .assign (Operand.tmp 7), none, 0⟩])
 (.cond (Operand.tmp 6)
 .skip
 (.seq
 (.ops [⟨some 8, .binOp BinOp.eql 5 (Operand.tmp 5) (Operand.const (Value.int IntKind.u8 78)) 5, none, 0⟩,
 ⟨some 6, .assign (Operand.tmp 8), none, 0⟩])
 (.cond (Operand.tmp 6)
 .skip
 (.ops [⟨some 9, .binOp BinOp.eql 5 (Operand.tmp 5) (Operand.const (Value.int IntKind.u8 85)) 5, none, 0⟩,
 ⟨some 6, .assign (Operand.tmp 9), none, 0⟩])))))
 (.cond (Operand.tmp 6)
 (.seq
 (.ops [⟨some 10, .fieldAddr 52 (Operand.tmp 1) 0, none, 0⟩,
 ⟨some 11, .load 35 (Operand.tmp 10), none, 0⟩,
 ⟨some 12, .call ⟨(Callee.value (Operand.func 32)), [(Operand.tmp 11)].toArray, #[35]⟩, none, 0⟩,
 ⟨some 2, .assign (Operand.tmp 12), none, 0⟩])
 .ret)
 (.seq
 (.ops [⟨some 14, .binOp BinOp.eql 5 (Operand.tmp 5) (Operand.const (Value.int IntKind.u8 67)) 5, none, 0⟩,
 ⟨some 13, .assign (Operand.tmp 14), none, 0⟩])
 (.cond (Operand.tmp 13)
 (.seq
 (.ops [⟨some 15, .fieldAddr 52 (Operand.tmp 1) 0, none, 0⟩,
 ⟨some 16, .load 35 (Operand.tmp 15), none, 0⟩,
 ⟨some 17, .call ⟨(Callee.value (Operand.func 32)), [(Operand.tmp 16)].toArray, #[35]⟩, none, 0⟩,
 ⟨some 18, .unOp UnOp.not 4 (Operand.tmp 17), none, 0⟩,
 ⟨some 2, .assign (Operand.tmp 18), none, 0⟩])
 .ret)
 .skip))))))
 (.seq
 (.ops [⟨some 19, .fieldAddr 52 (Operand.tmp 1) 0, none, 0⟩,
 ⟨some 20, .fieldAddr 35 (Operand.tmp 19) 0, none, 0⟩,
 ⟨some 21, .load 5 (Operand.tmp 20), none, 0⟩,
 ⟨some 22, .binOp BinOp.eql 5 (Operand.tmp 21) (Operand.const (Value.int IntKind.u8 82)) 5, none, 0⟩,
 ⟨some 23, .move (Operand.tmp 22), none, 0⟩,
 ⟨some 24, .fieldAddr 52 (Operand.tmp 1) 0, some (23, false), 0⟩,
 ⟨some 25, .fieldAddr 35 (Operand.tmp 24) 0, some (23, false), 0⟩,
 ⟨some 26, .load 5 (Operand.tmp 25), some (23, false), 0⟩,
 ⟨some 27, .binOp BinOp.eql 5 (Operand.tmp 26) (Operand.const (Value.int IntKind.u8 68)) 5, some (23, false), 0⟩,
 ⟨some 28, .pick (Operand.tmp 23) (Operand.const (Value.bool true)) (Operand.tmp 27), none, 0⟩,
 ⟨some 2, .assign (Operand.tmp 28), none, 0⟩])
 .ret)))
abbrev R22 : List ResultVar := [ResultVar.tmp 2]
theorem ok22 : FnOK Tryd.prog 22 L22 R22 1 := ⟨_, _, Tryd.func22, rfl, by kernel_rfl, by kernel_rfl, by kernel_rfl, by kernel_rfl, Nat.le_of_ble_eq_true (by kernel_rfl), by kernel_rfl⟩

/-- strings.Split -/
def L23 : LCode :=
 (.seq
 (.ops [⟨some 4, .assign (Operand.const (Value.slice none 0 0)), none, 0⟩])
 (.seq
 (.ops [⟨some 5, .move (Operand.tmp 0), none, 0⟩,
 ⟨some 6, .move (Operand.tmp 1), none, 0⟩,
 ⟨some 7, .call ⟨(Callee.value (Operand.func 35)), [(Operand.tmp 5), (Operand.tmp 6), (Operand.const (Value.int IntKind.i64 0)), (Operand.const (Value.int IntKind.i64 (-1)))].toArray, #[9, 9, 3, 3]⟩, none, 0⟩,
 ⟨some 4, .assign (Operand.tmp 7), none, 0⟩])
 .ret))
abbrev R23 : List ResultVar := [ResultVar.tmp 4]
theorem ok23 : FnOK Tryd.prog 23 L23 R23 2 := ⟨_, _, Tryd.func23, rfl, by kernel_rfl, by kernel_rfl, by kernel_rfl, by kernel_rfl, Nat.le_of_ble_eq_true (by kernel_rfl), by kernel_rfl⟩

/-- ablaut/ablautref10.isShort -/
def L24 : LCode :=
 (.seq
 (.ops [⟨some 2, .assign (Operand.const (Value.bool false)), none, 0⟩])
 (.seq
 (.seq
 (.ops [⟨some 3, .assign (Operand.const (Value.int IntKind.i64 0)), none, 0⟩])
 (.block 0
 (.loop
 (.seq
 (.seq
 (.ops [⟨some 4, .move (Operand.tmp 3), none, 0⟩,
 ⟨some 5, .move (Operand.tmp 0), none, 0⟩,
 ⟨some 6, .call ⟨(Callee.builtin Builtin.len), [(Operand.tmp 5)].toArray, #[9]⟩, none, 0⟩,
 ⟨some 7, .binOp BinOp.lss 3 (Operand.tmp 4) (Operand.tmp 6) 3, none, 0⟩])
 (.cond (Operand.tmp 7)
 .skip
 (.exit 0)))
 (.seq
 (.block 1
 (.seq
 (.ops [⟨some 10, .move (Operand.tmp 0), none, 0⟩,
 ⟨some 11, .move (Operand.tmp 3), none, 0⟩,
 ⟨some 12, .index 9 (Operand.tmp 10) (Operand.tmp 11), none, 0⟩,
 ⟨some 13, .binOp BinOp.lss 5 (Operand.tmp 12) (Operand.const (Value.int IntKind.u8 97)) 5, none, 0⟩,
 ⟨some 14, .move (Operand.tmp 13), none, 0⟩,
 ⟨some 15, .move (Operand.tmp 0), some (14, false), 0⟩,
 ⟨some 16, .move (Operand.tmp 3), some (14, false), 0⟩,
 ⟨some 17, .index 9 (Operand.tmp 15) (Operand.tmp 16), some (14, false), 0⟩,
 ⟨some 18, .binOp BinOp.gtr 5 (Operand.tmp 17) (Operand.const (Value.int IntKind.u8 122)) 5, some (14, false), 0⟩,
 ⟨some 19, .pick (Operand.tmp 14) (Operand.const (Value.bool true)) (Operand.tmp 18), none, 0⟩])
 (.cond (Operand.tmp 19)
 (.seq
 (.ops [⟨some 2, .assign (Operand.const (Value.bool false)), none, 0⟩])
 .ret)
 .skip)))
 (.ops [⟨some 8, .move (Operand.tmp 3), none, 0⟩,
 ⟨some 9, .binOp BinOp.add 3 (Operand.tmp 8) (Operand.const (Value.int IntKind.i64 1)) 3, none, 0⟩,
 ⟨some 3, .assign (Operand.tmp 9), none, 0⟩]))))))
 (.seq
 (.ops [⟨some 20, .move (Operand.tmp 0), none, 0⟩,
 ⟨some 21, .call ⟨(Callee.builtin Builtin.len), [(Operand.tmp 20)].toArray, #[9]⟩, none, 0⟩,
 ⟨some 22, .binOp BinOp.geq 3 (Operand.tmp 21) (Operand.const (Value.int IntKind.i64 1)) 3, none, 0⟩,
 ⟨some 23, .move (Operand.tmp 22), none, 0⟩,
 ⟨some 24, .move (Operand.tmp 0), some (23, true), 0⟩,
 ⟨some 25, .call ⟨(Callee.builtin Builtin.len), [(Operand.tmp 24)].toArray, #[9]⟩, some (23, true), 0⟩,
 ⟨some 26, .binOp BinOp.leq 3 (Operand.tmp 25) (Operand.const (Value.int IntKind.i64 5)) 3, some (23, true), 0⟩,
 ⟨some 27, .pick (Operand.tmp 23) (Operand.tmp 26) (Operand.const (Value.bool false)), none, 0⟩,
 ⟨some 2, .assign (Operand.tmp 27), none, 0⟩])
 .ret)))
abbrev R24 : List ResultVar := [ResultVar.tmp 2]
theorem ok24 : FnOK Tryd.prog 24 L24 R24 1 := ⟨_, _, Tryd.func24, rfl, by kernel_rfl, by kernel_rfl, by kernel_rfl, by kernel_rfl, Nat.le_of_ble_eq_true (by kernel_rfl), by kernel_rfl⟩

/-- slices.ContainsFunc[[]string,string] -/
def L25 : LCode :=
 (.seq
 (.ops [⟨some 4, .assign (Operand.const (Value.bool false)), none, 0⟩])
 (.seq
 (.ops [⟨some 5, .move (Operand.tmp 0), none, 0⟩,
 ⟨some 6, .move (Operand.tmp 1), none, 0⟩,
 ⟨some 7, .call ⟨(Callee.value (Operand.func 36)), [(Operand.tmp 5), (Operand.tmp 6)].toArray, #[22, 25]⟩, none, 0⟩,
 ⟨some 8, .binOp BinOp.geq 3 (Operand.tmp 7) (Operand.const (Value.int IntKind.i64 0)) 3, none, 0⟩,
 ⟨some 4, .assign (Operand.tmp 8), none, 0⟩])
 .ret))
abbrev R25 : List ResultVar := [ResultVar.tmp 4]
theorem ok25 : FnOK Tryd.prog 25 L25 R25 2 := ⟨_, _, Tryd.func25, rfl, by kernel_rfl, by kernel_rfl, by kernel_rfl, by kernel_rfl, Nat.le_of_ble_eq_true (by kernel_rfl), by kernel_rfl⟩

/-- ablaut/syms.isLong -/
def L26 : LCode :=
 (.seq
 (.ops [⟨some 2, .assign (Operand.const (Value.bool false)), none, 0⟩])
 (.seq
 (.ops [⟨some 3, .move (Operand.tmp 0), none, 0⟩,
 ⟨some 4, .call ⟨(Callee.builtin Builtin.len), [(Operand.tmp 3)].toArray, #[9]⟩, none, 0⟩,
 ⟨some 5, .binOp BinOp.gtr 3 (Operand.tmp 4) (Operand.const (Value.int IntKind.i64 16)) 3, none, 0⟩,
 ⟨some 2, .assign (Operand.tmp 5), none, 0⟩])
 .ret))
abbrev R26 : List ResultVar := [ResultVar.tmp 2]
theorem ok26 : FnOK Tryd.prog 26 L26 R26 1 := ⟨_, _, Tryd.func26, rfl, by kernel_rfl, by kernel_rfl, by kernel_rfl, by kernel_rfl, Nat.le_of_ble_eq_true (by kernel_rfl), by kernel_rfl⟩

/-- ablaut/syms.isSymbol -/
def L27 : LCode :=
 (.seq
 (.ops [⟨some 2, .assign (Operand.const (Value.bool false)), none, 0⟩])
 (.seq
 (.seq
 (.ops [⟨some 4, .move (Operand.tmp 0), none, 0⟩,
 ⟨some 5, .call ⟨(Callee.builtin Builtin.len), [(Operand.tmp 4)].toArray, #[9]⟩, none, 0⟩,
 ⟨some 6, .move (Operand.const (Value.int IntKind.i64 0)), none, 0⟩])
 (.block 0
 (.loop
 (.seq
 (.ops [⟨some 7, .binOp BinOp.lss 3 (Operand.tmp 6) (Operand.tmp 5) 3, none, 0⟩])
 (.seq
 (.cond (Operand.tmp 7)
 .skip
 (.exit 0))
 (.seq
 (.block 1
 (.seq
 (.ops [⟨some 8, .move (Operand.tmp 6), none, 0⟩,
 ⟨some 3, .assign (Operand.tmp 8), none, 0⟩])
 (.seq
 (.ops [⟨some 9, .move (Operand.tmp 0), none, 0⟩,
 ⟨some 10, .move (Operand.tmp 3), none, 0⟩,
 ⟨some 11, .index 9 (Operand.tmp 9) (Operand.tmp 10), none, 0⟩,
 ⟨some 12, .binOp BinOp.lss 5 (Operand.tmp 11) (Operand.const (Value.int IntKind.u8 33)) 5, none, 0⟩,
 ⟨some 13, .move (Operand.tmp 12), none, 0⟩,
 ⟨some 14, .move (Operand.tmp 0), some (13, false), 0⟩,
 ⟨some 15, .move (Operand.tmp 3), some (13, false), 0⟩,
 ⟨some 16, .index 9 (Operand.tmp 14) (Operand.tmp 15), some (13, false), 0⟩,
 ⟨some 17, .binOp BinOp.gtr 5 (Operand.tmp 16) (Operand.const (Value.int IntKind.u8 126)) 5, some (13, false), 0⟩,
 ⟨some 18, .pick (Operand.tmp 13) (Operand.const (Value.bool true)) (Operand.tmp 17), none, 0⟩,
 ⟨some 19, .move (Operand.tmp 18), none, 0⟩,
 ⟨some 20, .move (Operand.tmp 0), some (19, false), 0⟩,
 ⟨some 21, .move (Operand.tmp 3), some (19, false), 0⟩,
 ⟨some 22, .index 9 (Operand.tmp 20) (Operand.tmp 21), some (19, false), 0⟩,
 ⟨some 23, .binOp BinOp.eql 5 (Operand.tmp 22) (Operand.const (Value.int IntKind.u8 60)) 5, some (19, false), 0⟩,
 ⟨some 24, .pick (Operand.tmp 19) (Operand.const (Value.bool true)) (Operand.tmp 23), none, 0⟩,
 ⟨some 25, .move (Operand.tmp 24), none, 0⟩,
 ⟨some 26, .move (Operand.tmp 0), some (25, false), 0⟩,
 ⟨some 27, .move (Operand.tmp 3), some (25, false), 0⟩,
 ⟨some 28, .index 9 (Operand.tmp 26) (Operand.tmp 27), some (25, false), 0⟩,
 ⟨some 29, .binOp BinOp.eql 5 (Operand.tmp 28) (Operand.const (Value.int IntKind.u8 62)) 5, some (25, false), 0⟩,
 ⟨some 30, .pick (Operand.tmp 25) (Operand.const (Value.bool true)) (Operand.tmp 29), none, 0⟩])
 (.cond (Operand.tmp 30)
 (.seq
 (.ops [⟨some 2, .assign (Operand.const (Value.bool false)), none, 0⟩])
 .ret)
 .skip))))
 (.ops [⟨some 31, .binOp BinOp.add 3 (Operand.tmp 6) (Operand.const (Value.int IntKind.i64 1)) 3, none, 0⟩,
 ⟨some 6, .move (Operand.tmp 31), none, 0⟩])))))))
 (.seq
 (.ops [⟨some 32, .move (Operand.tmp 0), none, 0⟩,
 ⟨some 33, .binOp BinOp.neq 9 (Operand.tmp 32) (Operand.const (Value.string ⟨#[]⟩)) 9, none, 0⟩,
 ⟨some 2, .assign (Operand.tmp 33), none, 0⟩])
 .ret)))
abbrev R27 : List ResultVar := [ResultVar.tmp 2]
theorem ok27 : FnOK Tryd.prog 27 L27 R27 1 := ⟨_, _, Tryd.func27, rfl, by kernel_rfl, by kernel_rfl, by kernel_rfl, by kernel_rfl, Nat.le_of_ble_eq_true (by kernel_rfl), by kernel_rfl⟩

/-- ablaut/ablautref01.anyLong -/
def L28 : LCode :=
 (.seq
 (.ops [⟨some 2, .assign (Operand.const (Value.bool false)), none, 0⟩])
 (.seq
 (.seq
 (.ops [⟨some 3, .assign (Operand.const (Value.int IntKind.i64 0)), none, 0⟩])
 (.block 0
 (.loop
 (.seq
 (.seq
 (.ops [⟨some 4, .move (Operand.tmp 3), none, 0⟩,
 ⟨some 5, .move (Operand.tmp 0), none, 0⟩,
 ⟨some 6, .call ⟨(Callee.builtin Builtin.len), [(Operand.tmp 5)].toArray, #[22]⟩, none, 0⟩,
 ⟨some 7, .binOp BinOp.lss 3 (Operand.tmp 4) (Operand.tmp 6) 3, none, 0⟩])
 (.cond (Operand.tmp 7)
 .skip
 (.exit 0)))
 (.seq
 (.block 1
 (.seq
 (.ops [⟨some 10, .move (Operand.tmp 0), none, 0⟩,
 ⟨some 11, .move (Operand.tmp 3), none, 0⟩,
 ⟨some 12, .indexAddr 22 (Operand.tmp 10) (Operand.tmp 11), none, 0⟩,
 ⟨some 13, .load 9 (Operand.tmp 12), none, 0⟩,
 ⟨some 14, .call ⟨(Callee.builtin Builtin.len), [(Operand.tmp 13)].toArray, #[9]⟩, none, 0⟩,
 ⟨some 15, .binOp BinOp.gtr 3 (Operand.tmp 14) (Operand.const (Value.int IntKind.i64 16)) 3, none, 0⟩])
 (.cond (Operand.tmp 15)
 (.seq
 (.ops [⟨some 2, .assign (Operand.const (Value.bool true)), none, 0⟩])
 .ret)
 .skip)))
 (.ops [⟨some 8, .move (Operand.tmp 3), none, 0⟩,
 ⟨some 9, .binOp BinOp.add 3 (Operand.tmp 8) (Operand.const (Value.int IntKind.i64 1)) 3, none, 0⟩,
 ⟨some 3, .assign (Operand.tmp 9), none, 0⟩]))))))
 (.seq
 (.ops [⟨some 2, .assign (Operand.const (Value.bool false)), none, 0⟩])
 .ret)))
abbrev R28 : List ResultVar := [ResultVar.tmp 2]
theorem ok28 : FnOK Tryd.prog 28 L28 R28 1 := ⟨_, _, Tryd.func28, rfl, by kernel_rfl, by kernel_rfl, by kernel_rfl, by kernel_rfl, Nat.le_of_ble_eq_true (by kernel_rfl), by kernel_rfl⟩

/-- ablaut/ablautref01.allSymbols -/
def L29 : LCode :=
 (.seq
 (.ops [⟨some 2, .assign (Operand.const (Value.bool false)), none, 0⟩])
 (.seq
 (.seq
 (.ops [⟨some 3, .assign (Operand.const (Value.int IntKind.i64 0)), none, 0⟩])
 (.block 0
 (.loop
 (.seq
 (.seq
 (.ops [⟨some 4, .move (Operand.tmp 3), none, 0⟩,
 ⟨some 5, .move (Operand.tmp 0), none, 0⟩,
 ⟨some 6, .call ⟨(Callee.builtin Builtin.len), [(Operand.tmp 5)].toArray, #[22]⟩, none, 0⟩,
 ⟨some 7, .binOp BinOp.lss 3 (Operand.tmp 4) (Operand.tmp 6) 3, none, 0⟩])
 (.cond (Operand.tmp 7)
 .skip
 (.exit 0)))
 (.seq
 (.block 1
 (.seq
 (.ops [⟨some 10, .move (Operand.tmp 0), none, 0⟩,
 ⟨some 11, .move (Operand.tmp 3), none, 0⟩,
 ⟨some 12, .indexAddr 22 (Operand.tmp 10) (Operand.tmp 11), none, 0⟩,
 ⟨some 13, .load 9 (Operand.tmp 12), none, 0⟩,
 ⟨some 14, .call ⟨(Callee.value (Operand.func 37)), [(Operand.tmp 13)].toArray, #[9]⟩, none, 0⟩,
 ⟨some 15, .unOp UnOp.not 4 (Operand.tmp 14), none, 0⟩])
 (.cond (Operand.tmp 15)
 (.seq
 (.ops [⟨some 2, .assign (Operand.const (Value.bool false)), none, 0⟩])
 .ret)
 .skip)))
 (.ops [⟨some 8, .move (Operand.tmp 3), none, 0⟩,
 ⟨some 9, .binOp BinOp.add 3 (Operand.tmp 8) (Operand.const (Value.int IntKind.i64 1)) 3, none, 0⟩,
 ⟨some 3, .assign (Operand.tmp 9), none, 0⟩]))))))
 (.seq
 (.ops [⟨some 2, .assign (Operand.const (Value.bool true)), none, 0⟩])
 .ret)))
abbrev R29 : List ResultVar := [ResultVar.tmp 2]
theorem ok29 : FnOK Tryd.prog 29 L29 R29 1 := ⟨_, _, Tryd.func29, rfl, by kernel_rfl, by kernel_rfl, by kernel_rfl, by kernel_rfl, Nat.le_of_ble_eq_true (by kernel_rfl), by kernel_rfl⟩

/-- ablaut/ablautref01.IsSet -/
def L30 : LCode :=
 (.seq
 (.ops [⟨some 2, .assign (Operand.const (Value.bool false)), none, 0⟩])
 (.seq
 (.seq
 (.ops [⟨some 3, .assign (Operand.const (Value.int IntKind.i64 1)), none, 0⟩])
 (.block 0
 (.loop
 (.seq
 (.seq
 (.ops [⟨some 4, .move (Operand.tmp 3), none, 0⟩,
 ⟨some 5, .move (Operand.tmp 0), none, 0⟩,
 ⟨some 6, .call ⟨(Callee.builtin Builtin.len), [(Operand.tmp 5)].toArray, #[22]⟩, none, 0⟩,
 ⟨some 7, .binOp BinOp.lss 3 (Operand.tmp 4) (Operand.tmp 6) 3, none, 0⟩])
 (.cond (Operand.tmp 7)
 .skip
 (.exit 0)))
 (.seq
 (.block 1
 (.seq
 (.draw [⟨some 10, .move (Operand.tmp 0), none, 0⟩,
 ⟨some 11, .move (Operand.tmp 3), none, 0⟩,
 ⟨some 12, .binOp BinOp.sub 3 (Operand.tmp 11) (Operand.const (Value.int IntKind.i64 1)) 3, none, 0⟩,
 ⟨some 13, .indexAddr 22 (Operand.tmp 10) (Operand.tmp 12), none, 0⟩,
 ⟨some 14, .load 9 (Operand.tmp 13), none, 0⟩,
 ⟨some 15, .move (Operand.tmp 0), none, 0⟩,
 ⟨some 16, .move (Operand.tmp 3), none, 0⟩,
 ⟨some 17, .indexAddr 22 (Operand.tmp 15) (Operand.tmp 16), none, 0⟩,
 ⟨some 18, .load 9 (Operand.tmp 17), none, 0⟩,
 ⟨some 19, .binOp BinOp.geq 9 (Operand.tmp 14) (Operand.tmp 18) 9, none, 0⟩] true [9] [0, 1, 2, 3, 5, 6, 7, 4, 8, 9])
 (.cond (Operand.tmp 19)
 (.seq
 (.ops [⟨some 2, .assign (Operand.const (Value.bool false)), none, 0⟩])
 .ret)
 .skip)))
 (.ops [⟨some 8, .move (Operand.tmp 3), none, 0⟩,
 ⟨some 9, .binOp BinOp.add 3 (Operand.tmp 8) (Operand.const (Value.int IntKind.i64 1)) 3, none, 0⟩,
 ⟨some 3, .assign (Operand.tmp 9), none, 0⟩]))))))
 (.seq
 (.ops [⟨some 2, .assign (Operand.const (Value.bool true)), none, 0⟩])
 .ret)))
abbrev R30 : List ResultVar := [ResultVar.tmp 2]
theorem ok30 : FnOK Tryd.prog 30 L30 R30 1 := ⟨_, _, Tryd.func30, rfl, by kernel_rfl, by kernel_rfl, by kernel_rfl, by kernel_rfl, Nat.le_of_ble_eq_true (by kernel_rfl), by kernel_rfl⟩

/-- ablaut/syms.ValidateWord$1 -/
def L31 : LCode :=
 (.seq
 (.ops [⟨some 2, .assign (Operand.const (Value.bool false)), none, 0⟩])
 (.seq
 (.ops [⟨some 3, .move (Operand.tmp 0), none, 0⟩,
 ⟨some 4, .call ⟨(Callee.value (Operand.func 27)), [(Operand.tmp 3)].toArray, #[9]⟩, none, 0⟩,
 ⟨some 5, .unOp UnOp.not 4 (Operand.tmp 4), none, 0⟩,
 ⟨some 2, .assign (Operand.tmp 5), none, 0⟩])
 .ret))
abbrev R31 : List ResultVar := [ResultVar.tmp 2]
theorem ok31 : FnOK Tryd.prog 31 L31 R31 1 := ⟨_, _, Tryd.func31, rfl, by kernel_rfl, by kernel_rfl, by kernel_rfl, by kernel_rfl, Nat.le_of_ble_eq_true (by kernel_rfl), by kernel_rfl⟩

/-- (ablaut/flag.mark).hasValue -/
def L32 : LCode :=
 (.seq
 (.ops [⟨some 1, .box 35 (Operand.tmp 0), none, 0⟩,
 ⟨some 2, .assign (Operand.const (Value.bool false)), none, 0⟩])
 (.seq
 (.ops [⟨some 3, .fieldAddr 35 (Operand.tmp 1) 2, none, 0⟩,
 ⟨some 4, .load 9 (Operand.tmp 3), none, 0⟩,
 ⟨some 5, .binOp BinOp.neq 9 (Operand.tmp 4) (Operand.const (Value.string ⟨#[]⟩)) 9, none, 0⟩,
 ⟨some 2, .assign (Operand.tmp 5), none, 0⟩])
 .ret))
abbrev R32 : List ResultVar := [ResultVar.tmp 2]
theorem ok32 : FnOK Tryd.prog 32 L32 R32 1 := ⟨_, _, Tryd.func32, rfl, by kernel_rfl, by kernel_rfl, by kernel_rfl, by kernel_rfl, Nat.le_of_ble_eq_true (by kernel_rfl), by kernel_rfl⟩

/-- internal/stringslite.Cut -/
def L33 : LCode :=
 (.seq
 (.ops [⟨some 4, .assign (Operand.const (Value.string ⟨#[]⟩)), none, 0⟩,
 ⟨some 5, .assign (Operand.const (Value.string ⟨#[]⟩)), none, 0⟩,
 ⟨some 6, .assign (Operand.const (Value.bool false)), none, 0⟩])
 (.seq
 (.seq
 (.ops [⟨some 8, .move (Operand.tmp 0), none, 0⟩,
 ⟨some 9, .move (Operand.tmp 1), none, 0⟩,
 ⟨some 10, .call ⟨(Callee.value (Operand.func 38)), [(Operand.tmp 8), (Operand.tmp 9)].toArray, #[9, 9]⟩, none, 0⟩,
 ⟨some 7, .assign (Operand.tmp 10), none, 0⟩])
 (.seq
 (.ops [⟨some 11, .move (Operand.tmp 7), none, 0⟩,
 ⟨some 12, .binOp BinOp.geq 3 (Operand.tmp 11) (Operand.const (Value.int IntKind.i64 0)) 3, none, 0⟩])
 (.cond (Operand.tmp 12)
 (.seq
 (.draw [⟨some 13, .move (Operand.tmp 0), none, 0⟩,
 ⟨some 14, .move (Operand.tmp 7), none, 0⟩,
 ⟨some 15, .slice 9 (Operand.tmp 13) none (some (Operand.tmp 14)) none, none, 0⟩,
 ⟨some 16, .move (Operand.tmp 0), none, 0⟩,
 ⟨some 17, .move (Operand.tmp 7), none, 0⟩,
 ⟨some 18, .move (Operand.tmp 1), none, 0⟩,
 ⟨some 19, .call ⟨(Callee.builtin Builtin.len), [(Operand.tmp 18)].toArray, #[9]⟩, none, 0⟩,
 ⟨some 20, .binOp BinOp.add 3 (Operand.tmp 17) (Operand.tmp 19) 3, none, 0⟩,
 ⟨some 21, .slice 9 (Operand.tmp 16) (some (Operand.tmp 20)) none none, none, 0⟩,
 ⟨some 4, .assign (Operand.tmp 15), none, 0⟩,
 ⟨some 5, .assign (Operand.tmp 21), none, 0⟩,
 ⟨some 6, .assign (Operand.const (Value.bool true)), none, 0⟩] true [10, 11] [0, 1, 3, 4, 5, 2, 6, 7, 8, 9, 10, 11])
 .ret)
 .skip)))
 (.seq
 (.ops [⟨some 22, .move (Operand.tmp 0), none, 0⟩,
 ⟨some 4, .assign (Operand.tmp 22), none, 0⟩,
 ⟨some 5, .assign (Operand.const (Value.string ⟨#[]⟩)), none, 0⟩,
 ⟨some 6, .assign (Operand.const (Value.bool false)), none, 0⟩])
 .ret)))
abbrev R33 : List ResultVar := [ResultVar.tmp 4, ResultVar.tmp 5, ResultVar.tmp 6]
theorem ok33 : FnOK Tryd.prog 33 L33 R33 2 := ⟨_, _, Tryd.func33, rfl, by kernel_rfl, by kernel_rfl, by kernel_rfl, by kernel_rfl, Nat.le_of_ble_eq_true (by kernel_rfl), by kernel_rfl⟩

/-- strings.Trim -/
def L34 : LCode :=
 (.seq
 (.ops [⟨some 4, .assign (Operand.const (Value.string ⟨#[]⟩)), none, 0⟩])
 (.seq
 (.seq
 (.ops [⟨some 7, .move (Operand.tmp 0), none, 0⟩,
 ⟨some 8, .binOp BinOp.eql 9 (Operand.tmp 7) (Operand.const (Value.string ⟨#[]⟩)) 9, none, 0⟩,
 ⟨some 9, .move (Operand.tmp 8), none, 0⟩,
 ⟨some 10, .move (Operand.tmp 1), some (9, false), 0⟩,
 ⟨some 11, .binOp BinOp.eql 9 (Operand.tmp 10) (Operand.const (Value.string ⟨#[]⟩)) 9, some (9, false), 0⟩,
 ⟨some 12, .pick (Operand.tmp 9) (Operand.const (Value.bool true)) (Operand.tmp 11), none, 0⟩])
 (.cond (Operand.tmp 12)
 (.seq
 (.ops [⟨some 13, .move (Operand.tmp 0), none, 0⟩,
 ⟨some 4, .assign (Operand.tmp 13), none, 0⟩])
 .ret)
 .skip))
 (.seq
 (.seq
 (.ops [⟨some 14, .move (Operand.tmp 1), none, 0⟩,
 ⟨some 15, .call ⟨(Callee.builtin Builtin.len), [(Operand.tmp 14)].toArray, #[9]⟩, none, 0⟩,
 ⟨some 16, .binOp BinOp.eql 3 (Operand.tmp 15) (Operand.const (Value.int IntKind.i64 1)) 3, none, 0⟩,
 ⟨some 17, .move (Operand.tmp 16), none, 0⟩,
 ⟨some 18, .move (Operand.tmp 1), some (17, true), 0⟩,
 ⟨some 19, .index 9 (Operand.tmp 18) (Operand.const (Value.int IntKind.i64 0)), some (17, true), 0⟩,
 ⟨some 20, .binOp BinOp.lss 5 (Operand.tmp 19) (Operand.const (Value.int IntKind.u8 128)) 5, some (17, true), 0⟩,
 ⟨some 21, .pick (Operand.tmp 17) (Operand.tmp 20) (Operand.const (Value.bool false)), none, 0⟩])
 (.cond (Operand.tmp 21)
 (.seq
 (.draw [⟨some 22, .move (Operand.tmp 0), none, 0⟩,
 ⟨some 23, .move (Operand.tmp 1), none, 0⟩,
 ⟨some 24, .index 9 (Operand.tmp 23) (Operand.const (Value.int IntKind.i64 0)), none, 0⟩,
 ⟨some 25, .call ⟨(Callee.value (Operand.func 40)), [(Operand.tmp 22), (Operand.tmp 24)].toArray, #[9, 5]⟩, none, 0⟩,
 ⟨some 26, .move (Operand.tmp 1), none, 0⟩,
 ⟨some 27, .index 9 (Operand.tmp 26) (Operand.const (Value.int IntKind.i64 0)), none, 0⟩,
 ⟨some 28, .call ⟨(Callee.value (Operand.func 39)), [(Operand.tmp 25), (Operand.tmp 27)].toArray, #[9, 5]⟩, none, 0⟩,
 ⟨some 4, .assign (Operand.tmp 28), none, 0⟩] true [6, 7] [0, 1, 2, 4, 5, 3, 6, 7])
 .ret)
 .skip))
 (.seq
 (.seq
 (.ops [⟨some 30, .move (Operand.tmp 1), none, 0⟩,
 ⟨some 31, .call ⟨(Callee.value (Operand.func 41)), [(Operand.tmp 30)].toArray, #[9]⟩, none, 0⟩,
 ⟨some 29, .move (Operand.tmp 31), none, 0⟩,
 ⟨some 32, .extract (Operand.tmp 29) 0, none, 0⟩,
 ⟨some 33, .extract (Operand.tmp 29) 1, none, 0⟩,
 ⟨some 5, .alloc 61, none, 0⟩,
 ⟨none, .store 61 (Operand.tmp 5) (Operand.tmp 32), none, 0⟩,
 ⟨some 6, .assign (Operand.tmp 33), none, 0⟩])
 (.seq
 (.ops [⟨some 34, .move (Operand.tmp 6), none, 0⟩])
 (.cond (Operand.tmp 34)
 (.seq
 (.ops [⟨some 35, .move (Operand.tmp 0), none, 0⟩,
 ⟨some 36, .call ⟨(Callee.value (Operand.func 43)), [(Operand.tmp 35), (Operand.tmp 5)].toArray, #[9, 65]⟩, none, 0⟩,
 ⟨some 37, .call ⟨(Callee.value (Operand.func 42)), [(Operand.tmp 36), (Operand.tmp 5)].toArray, #[9, 65]⟩, none, 0⟩,
 ⟨some 4, .assign (Operand.tmp 37), none, 0⟩])
 .ret)
 .skip)))
 (.seq
 (.ops [⟨some 38, .move (Operand.tmp 0), none, 0⟩,
 ⟨some 39, .move (Operand.tmp 1), none, 0⟩,
 ⟨some 40, .call ⟨(Callee.value (Operand.func 45)), [(Operand.tmp 38), (Operand.tmp 39)].toArray, #[9, 9]⟩, none, 0⟩,
 ⟨some 41, .move (Operand.tmp 1), none, 0⟩,
 ⟨some 42, .call ⟨(Callee.value (Operand.func 44)), [(Operand.tmp 40), (Operand.tmp 41)].toArray, #[9, 9]⟩, none, 0⟩,
 ⟨some 4, .assign (Operand.tmp 42), none, 0⟩])
 .ret)))))
abbrev R34 : List ResultVar := [ResultVar.tmp 4]
theorem ok34 : FnOK Tryd.prog 34 L34 R34 2 := ⟨_, _, Tryd.func34, rfl, by kernel_rfl, by kernel_rfl, by kernel_rfl, by kernel_rfl, Nat.le_of_ble_eq_true (by kernel_rfl), by kernel_rfl⟩

/-- strings.genSplit -/
def L35 : LCode :=
 (.seq
 (.ops [⟨some 8, .assign (Operand.const (Value.slice none 0 0)), none, 0⟩])
 (.seq
 (.seq
 (.ops [⟨some 12, .move (Operand.tmp 3), none, 0⟩,
 ⟨some 13, .binOp BinOp.eql 3 (Operand.tmp 12) (Operand.const (Value.int IntKind.i64 0)) 3, none, 0⟩])
 (.cond (Operand.tmp 13)
 (.seq
 (.ops [⟨some 8, .assign (Operand.const (Value.slice none 0 0)), none, 0⟩])
 .ret)
 .skip))
 (.seq
 (.seq
 (.ops [⟨some 14, .move (Operand.tmp 1), none, 0⟩,
 ⟨some 15, .binOp BinOp.eql 9 (Operand.tmp 14) (Operand.const (Value.string ⟨#[]⟩)) 9, none, 0⟩])
 (.cond (Operand.tmp 15)
 (.seq
 (.ops [⟨some 16, .move (Operand.tmp 0), none, 0⟩,
 ⟨some 17, .move (Operand.tmp 3), none, 0⟩,
 ⟨some 18, .call ⟨(Callee.value (Operand.func 46)), [(Operand.tmp 16), (Operand.tmp 17)].toArray, #[9, 3]⟩, none, 0⟩,
 ⟨some 8, .assign (Operand.tmp 18), none, 0⟩])
 .ret)
 .skip))
 (.seq
 (.seq
 (.ops [⟨some 19, .move (Operand.tmp 3), none, 0⟩,
 ⟨some 20, .binOp BinOp.lss 3 (Operand.tmp 19) (Operand.const (Value.int IntKind.i64 0)) 3, none, 0⟩])
 (.cond (Operand.tmp 20)
 (.ops [⟨some 21, .move (Operand.tmp 0), none, 0⟩,
 ⟨some 22, .move (Operand.tmp 1), none, 0⟩,
 ⟨some 23, .call ⟨(Callee.value (Operand.func 47)), [(Operand.tmp 21), (Operand.tmp 22)].toArray, #[9, 9]⟩, none, 0⟩,
 ⟨some 24, .binOp BinOp.add 3 (Operand.tmp 23) (Operand.const (Value.int IntKind.i64 1)) 3, none, 0⟩,
 ⟨some 3, .assign (Operand.tmp 24), none, 0⟩])
 .skip))
 (.seq
 (.ops [⟨some 25, .move (Operand.tmp 3), none, 0⟩,
 ⟨some 26, .move (Operand.tmp 0), none, 0⟩,
 ⟨some 27, .call ⟨(Callee.builtin Builtin.len), [(Operand.tmp 26)].toArray, #[9]⟩, none, 0⟩,
 ⟨some 28, .binOp BinOp.add 3 (Operand.tmp 27) (Operand.const (Value.int IntKind.i64 1)) 3, none, 0⟩,
 ⟨some 29, .call ⟨(Callee.builtin Builtin.min), [(Operand.tmp 25), (Operand.tmp 28)].toArray, #[3, 3]⟩, none, 0⟩,
 ⟨some 3, .assign (Operand.tmp 29), none, 0⟩])
 (.seq
 (.ops [⟨some 30, .move (Operand.tmp 3), none, 0⟩,
 ⟨some 31, .makeSlice 22 (Operand.tmp 30) (Operand.tmp 30), none, 0⟩,
 ⟨some 9, .assign (Operand.tmp 31), none, 0⟩])
 (.seq
 (.ops [⟨some 32, .move (Operand.tmp 3), none, 0⟩,
 ⟨some 33, .binOp BinOp.sub 3 (Operand.tmp 32) (Operand.const (Value.int IntKind.i64 1)) 3, none, 0⟩,
 ⟨some 3, .assign (Operand.tmp 33), none, 0⟩])
 (.seq
 (.ops [⟨some 10, .assign (Operand.const (Value.int IntKind.i64 0)), none, 0⟩])
 (.seq
 (.block 0
 (.loop
 (.seq
 (.seq
 (.ops [⟨some 34, .move (Operand.tmp 10), none, 0⟩,
 ⟨some 35, .move (Operand.tmp 3), none, 0⟩,
 ⟨some 36, .binOp BinOp.lss 3 (Operand.tmp 34) (Operand.tmp 35) 3, none, 0⟩])
 (.cond (Operand.tmp 36)
 .skip
 (.exit 0)))
 (.block 1
 (.seq
 (.ops [⟨some 37, .move (Operand.tmp 0), none, 0⟩,
 ⟨some 38, .move (Operand.tmp 1), none, 0⟩,
 ⟨some 39, .call ⟨(Callee.value (Operand.func 48)), [(Operand.tmp 37), (Operand.tmp 38)].toArray, #[9, 9]⟩, none, 0⟩,
 ⟨some 11, .assign (Operand.tmp 39), none, 0⟩])
 (.seq
 (.seq
 (.ops [⟨some 40, .move (Operand.tmp 11), none, 0⟩,
 ⟨some 41, .binOp BinOp.lss 3 (Operand.tmp 40) (Operand.const (Value.int IntKind.i64 0)) 3, none, 0⟩])
 (.cond (Operand.tmp 41)
 (.exit 0)
 .skip))
 (.seq
 (.ops [⟨some 42, .move (Operand.tmp 9), none, 0⟩,
 ⟨some 43, .move (Operand.tmp 10), none, 0⟩,
 ⟨some 44, .move (Operand.tmp 0), none, 0⟩,
 ⟨some 45, .move (Operand.tmp 11), none, 0⟩,
 ⟨some 46, .move (Operand.tmp 2), none, 0⟩,
 ⟨some 47, .binOp BinOp.add 3 (Operand.tmp 45) (Operand.tmp 46) 3, none, 0⟩,
 ⟨some 48, .slice 9 (Operand.tmp 44) none (some (Operand.tmp 47)) none, none, 0⟩,
 ⟨some 49, .indexAddr 22 (Operand.tmp 42) (Operand.tmp 43), none, 0⟩,
 ⟨none, .store 9 (Operand.tmp 49) (Operand.tmp 48), none, 0⟩])
 (.seq
 (.ops [⟨some 50, .move (Operand.tmp 0), none, 0⟩,
 ⟨some 51, .move (Operand.tmp 11), none, 0⟩,
 ⟨some 52, .move (Operand.tmp 1), none, 0⟩,
 ⟨some 53, .call ⟨(Callee.builtin Builtin.len), [(Operand.tmp 52)].toArray, #[9]⟩, none, 0⟩,
 ⟨some 54, .binOp BinOp.add 3 (Operand.tmp 51) (Operand.tmp 53) 3, none, 0⟩,
 ⟨some 55, .slice 9 (Operand.tmp 50) (some (Operand.tmp 54)) none none, none, 0⟩,
 ⟨some 0, .assign (Operand.tmp 55), none, 0⟩])
 (.ops [⟨some 56, .move (Operand.tmp 10), none, 0⟩,
 ⟨some 57, .binOp BinOp.add 3 (Operand.tmp 56) (Operand.const (Value.int IntKind.i64 1)) 3, none, 0⟩,
 ⟨some 10, .assign (Operand.tmp 57), none, 0⟩])))))))))
 (.seq
 (.ops [⟨some 58, .move (Operand.tmp 9), none, 0⟩,
 ⟨some 59, .move (Operand.tmp 10), none, 0⟩,
 ⟨some 60, .move (Operand.tmp 0), none, 0⟩,
 ⟨some 61, .indexAddr 22 (Operand.tmp 58) (Operand.tmp 59), none, 0⟩,
 ⟨none, .store 9 (Operand.tmp 61) (Operand.tmp 60), none, 0⟩])
 (.seq
 (.ops [⟨some 62, .move (Operand.tmp 9), none, 0⟩,
 ⟨some 63, .move (Operand.tmp 10), none, 0⟩,
 ⟨some 64, .binOp BinOp.add 3 (Operand.tmp 63) (Operand.const (Value.int IntKind.i64 1)) 3, none, 0⟩,
 ⟨some 65, .slice 22 (Operand.tmp 62) none (some (Operand.tmp 64)) none, none, 0⟩,
 ⟨some 8, .assign (Operand.tmp 65), none, 0⟩])
 .ret)))))))))))
abbrev R35 : List ResultVar := [ResultVar.tmp 8]
theorem ok35 : FnOK Tryd.prog 35 L35 R35 4 := ⟨_, _, Tryd.func35, rfl, by kernel_rfl, by kernel_rfl, by kernel_rfl, by kernel_rfl, Nat.le_of_ble_eq_true (by kernel_rfl), by kernel_rfl⟩

/-- slices.IndexFunc[[]string,string] -/
def L36 : LCode :=
 (.seq
 (.ops [⟨some 4, .assign (Operand.const (Value.int IntKind.i64 0)), none, 0⟩])
 (.seq
 (.seq
 (.ops [⟨some 6, .move (Operand.tmp 0), none, 0⟩,
 ⟨some 7, .call ⟨(Callee.builtin Builtin.len), [(Operand.tmp 6)].toArray, #[22]⟩, none, 0⟩,
 ⟨some 8, .move (Operand.const (Value.int IntKind.i64 0)), none, 0⟩])
 (.block 0
 (.loop
 (.seq
 (.ops [⟨some 9, .binOp BinOp.lss 3 (Operand.tmp 8) (Operand.tmp 7) 3, none, 0⟩])
 (.seq
 (.cond (Operand.tmp 9)
 .skip
 (.exit 0))
 (.seq
 (.block 1
 (.seq
 (.ops [⟨some 10, .move (Operand.tmp 8), none, 0⟩,
 ⟨some 5, .assign (Operand.tmp 10), none, 0⟩])
 (.seq
 (.ops [⟨some 11, .move (Operand.tmp 1), none, 0⟩,
 ⟨some 12, .move (Operand.tmp 0), none, 0⟩,
 ⟨some 13, .move (Operand.tmp 5), none, 0⟩,
 ⟨some 14, .indexAddr 22 (Operand.tmp 12) (Operand.tmp 13), none, 0⟩,
 ⟨some 15, .load 9 (Operand.tmp 14), none, 0⟩,
 ⟨some 16, .call ⟨(Callee.value (Operand.tmp 11)), [(Operand.tmp 15)].toArray, #[9]⟩, none, 0⟩])
 (.cond (Operand.tmp 16)
 (.seq
 (.ops [⟨some 17, .move (Operand.tmp 5), none, 0⟩,
 ⟨some 4, .assign (Operand.tmp 17), none, 0⟩])
 .ret)
 .skip))))
 (.ops [⟨some 18, .binOp BinOp.add 3 (Operand.tmp 8) (Operand.const (Value.int IntKind.i64 1)) 3, none, 0⟩,
 ⟨some 8, .move (Operand.tmp 18), none, 0⟩])))))))
 (.seq
 (.ops [⟨some 4, .assign (Operand.const (Value.int IntKind.i64 (-1))), none, 0⟩])
 .ret)))
abbrev R36 : List ResultVar := [ResultVar.tmp 4]
theorem ok36 : FnOK Tryd.prog 36 L36 R36 2 := ⟨_, _, Tryd.func36, rfl, by kernel_rfl, by kernel_rfl, by kernel_rfl, by kernel_rfl, Nat.le_of_ble_eq_true (by kernel_rfl), by kernel_rfl⟩

/-- ablaut/ablautref01.IsSymbol -/
def L37 : LCode :=
 (.seq
 (.ops [⟨some 2, .assign (Operand.const (Value.bool false)), none, 0⟩])
 (.seq
 (.seq
 (.ops [⟨some 3, .assign (Operand.const (Value.int IntKind.i64 0)), none, 0⟩])
 (.block 0
 (.loop
 (.seq
 (.seq
 (.ops [⟨some 4, .move (Operand.tmp 3), none, 0⟩,
 ⟨some 5, .move (Operand.tmp 0), none, 0⟩,
 ⟨some 6, .call ⟨(Callee.builtin Builtin.len), [(Operand.tmp 5)].toArray, #[9]⟩, none, 0⟩,
 ⟨some 7, .binOp BinOp.lss 3 (Operand.tmp 4) (Operand.tmp 6) 3, none, 0⟩])
 (.cond (Operand.tmp 7)
 .skip
 (.exit 0)))
 (.seq
 (.block 1
 (.seq
 (.ops [⟨some 10, .move (Operand.tmp 0), none, 0⟩,
 ⟨some 11, .move (Operand.tmp 3), none, 0⟩,
 ⟨some 12, .index 9 (Operand.tmp 10) (Operand.tmp 11), none, 0⟩,
 ⟨some 13, .binOp BinOp.lss 5 (Operand.tmp 12) (Operand.const (Value.int IntKind.u8 33)) 5, none, 0⟩,
 ⟨some 14, .move (Operand.tmp 13), none, 0⟩,
 ⟨some 15, .move (Operand.tmp 0), some (14, false), 0⟩,
 ⟨some 16, .move (Operand.tmp 3), some (14, false), 0⟩,
 ⟨some 17, .index 9 (Operand.tmp 15) (Operand.tmp 16), some (14, false), 0⟩,
 ⟨some 18, .binOp BinOp.gtr 5 (Operand.tmp 17) (Operand.const (Value.int IntKind.u8 126)) 5, some (14, false), 0⟩,
 ⟨some 19, .pick (Operand.tmp 14) (Operand.const (Value.bool true)) (Operand.tmp 18), none, 0⟩,
 ⟨some 20, .move (Operand.tmp 19), none, 0⟩,
 ⟨some 21, .move (Operand.tmp 0), some (20, false), 0⟩,
 ⟨some 22, .move (Operand.tmp 3), some (20, false), 0⟩,
 ⟨some 23, .index 9 (Operand.tmp 21) (Operand.tmp 22), some (20, false), 0⟩,
 ⟨some 24, .binOp BinOp.eql 5 (Operand.tmp 23) (Operand.const (Value.int IntKind.u8 60)) 5, some (20, false), 0⟩,
 ⟨some 25, .pick (Operand.tmp 20) (Operand.const (Value.bool true)) (Operand.tmp 24), none, 0⟩,
 ⟨some 26, .move (Operand.tmp 25), none, 0⟩,
 ⟨some 27, .move (Operand.tmp 0), some (26, false), 0⟩,
 ⟨some 28, .move (Operand.tmp 3), some (26, false), 0⟩,
 ⟨some 29, .index 9 (Operand.tmp 27) (Operand.tmp 28), some (26, false), 0⟩,
 ⟨some 30, .binOp BinOp.eql 5 (Operand.tmp 29) (Operand.const (Value.int IntKind.u8 62)) 5, some (26, false), 0⟩,
 ⟨some 31, .pick (Operand.tmp 26) (Operand.const (Value.bool true)) (Operand.tmp 30), none, 0⟩])
 (.cond (Operand.tmp 31)
 (.seq
 (.ops [⟨some 2, .assign (Operand.const (Value.bool false)), none, 0⟩])
 .ret)
 .skip)))
 (.ops [⟨some 8, .move (Operand.tmp 3), none, 0⟩,
 ⟨some 9, .binOp BinOp.add 3 (Operand.tmp 8) (Operand.const (Value.int IntKind.i64 1)) 3, none, 0⟩,
 ⟨some 3, .assign (Operand.tmp 9), none, 0⟩]))))))
 (.seq
 (.ops [⟨some 32, .move (Operand.tmp 0), none, 0⟩,
 ⟨some 33, .call ⟨(Callee.builtin Builtin.len), [(Operand.tmp 32)].toArray, #[9]⟩, none, 0⟩,
 ⟨some 34, .binOp BinOp.geq 3 (Operand.tmp 33) (Operand.const (Value.int IntKind.i64 1)) 3, none, 0⟩,
 ⟨some 35, .move (Operand.tmp 34), none, 0⟩,
 ⟨some 36, .move (Operand.tmp 0), some (35, true), 0⟩,
 ⟨some 37, .call ⟨(Callee.builtin Builtin.len), [(Operand.tmp 36)].toArray, #[9]⟩, some (35, true), 0⟩,
 ⟨some 38, .binOp BinOp.leq 3 (Operand.tmp 37) (Operand.const (Value.int IntKind.i64 16)) 3, some (35, true), 0⟩,
 ⟨some 39, .pick (Operand.tmp 35) (Operand.tmp 38) (Operand.const (Value.bool false)), none, 0⟩,
 ⟨some 2, .assign (Operand.tmp 39), none, 0⟩])
 .ret)))
abbrev R37 : List ResultVar := [ResultVar.tmp 2]
theorem ok37 : FnOK Tryd.prog 37 L37 R37 1 := ⟨_, _, Tryd.func37, rfl, by kernel_rfl, by kernel_rfl, by kernel_rfl, by kernel_rfl, Nat.le_of_ble_eq_true (by kernel_rfl), by kernel_rfl⟩
end Go.Proofs.YtpmjfoplpccblaaDoor.Vs
