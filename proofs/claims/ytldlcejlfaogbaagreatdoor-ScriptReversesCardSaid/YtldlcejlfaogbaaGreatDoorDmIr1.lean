/- The seat's functions as the engine Dm reads them, written by dgen.py. -/
import Derived.Test.YtldlcejlfaogbaaGreatDoorDmFn
import Derived.Test.YtldlcejlfaogbaaGreatDoorProg
import Derived.KernelRfl
namespace Go.Proofs.YtldlcejlfaogbaaGreatDoor.Vs
set_option linter.unusedVariables false
set_option maxRecDepth 100000
/-- ablaut/ablautref25.row -/
def L53 : LCode :=
 (.seq
 (.ops [⟨some 4, .assign (Operand.const (Value.int IntKind.i64 0)), none, 0⟩])
 (.seq
 (.ops [⟨some 5, .assign (Operand.const (Value.int IntKind.i64 (-1))), none, 0⟩])
 (.seq
 (.seq
 (.ops [⟨some 6, .assign (Operand.const (Value.int IntKind.i64 0)), none, 0⟩])
 (.block 0
 (.loop
 (.seq
 (.seq
 (.ops [⟨some 7, .move (Operand.tmp 6), none, 0⟩,
 ⟨some 8, .move (Operand.tmp 0), none, 0⟩,
 ⟨some 9, .call ⟨(Callee.builtin Builtin.len), [(Operand.tmp 8)].toArray, #[22]⟩, none, 0⟩,
 ⟨some 10, .binOp BinOp.lss 3 (Operand.tmp 7) (Operand.tmp 9) 3, none, 0⟩])
 (.cond (Operand.tmp 10)
 .skip
 (.exit 0)))
 (.seq
 (.block 1
 (.seq
 (.draw [⟨some 13, .move (Operand.tmp 1), none, 0⟩,
 ⟨some 14, .move (Operand.tmp 0), none, 0⟩,
 ⟨some 15, .move (Operand.tmp 6), none, 0⟩,
 ⟨some 16, .indexAddr 22 (Operand.tmp 14) (Operand.tmp 15), none, 0⟩,
 ⟨some 17, .fieldAddr 67 (Operand.tmp 16) 0, none, 0⟩,
 ⟨some 18, .load 23 (Operand.tmp 17), none, 0⟩,
 ⟨some 19, .call ⟨(Callee.value (Operand.func 65)), [(Operand.tmp 13), (Operand.tmp 18)].toArray, #[23, 23]⟩, none, 0⟩,
 ⟨some 20, .move (Operand.tmp 19), none, 0⟩,
 ⟨some 21, .move (Operand.tmp 5), some (20, true), 0⟩,
 ⟨some 22, .binOp BinOp.lss 3 (Operand.tmp 21) (Operand.const (Value.int IntKind.i64 0)) 3, some (20, true), 0⟩,
 ⟨some 23, .move (Operand.tmp 22), some (20, true), 0⟩,
 ⟨some 24, .move (Operand.tmp 0), some (23, false), 0⟩,
 ⟨some 25, .move (Operand.tmp 6), some (23, false), 0⟩,
 ⟨some 26, .indexAddr 22 (Operand.tmp 24) (Operand.tmp 25), some (23, false), 0⟩,
 ⟨some 27, .fieldAddr 67 (Operand.tmp 26) 0, some (23, false), 0⟩,
 ⟨some 28, .load 23 (Operand.tmp 27), some (23, false), 0⟩,
 ⟨some 29, .call ⟨(Callee.builtin Builtin.len), [(Operand.tmp 28)].toArray, #[23]⟩, some (23, false), 0⟩,
 ⟨some 30, .move (Operand.tmp 0), some (23, false), 0⟩,
 ⟨some 31, .move (Operand.tmp 5), some (23, false), 0⟩,
 ⟨some 32, .indexAddr 22 (Operand.tmp 30) (Operand.tmp 31), some (23, false), 0⟩,
 ⟨some 33, .fieldAddr 67 (Operand.tmp 32) 0, some (23, false), 0⟩,
 ⟨some 34, .load 23 (Operand.tmp 33), some (23, false), 0⟩,
 ⟨some 35, .call ⟨(Callee.builtin Builtin.len), [(Operand.tmp 34)].toArray, #[23]⟩, some (23, false), 0⟩,
 ⟨some 36, .binOp BinOp.gtr 3 (Operand.tmp 29) (Operand.tmp 35) 3, some (23, false), 0⟩,
 ⟨some 37, .pick (Operand.tmp 23) (Operand.const (Value.bool true)) (Operand.tmp 36), some (20, true), 0⟩,
 ⟨some 38, .pick (Operand.tmp 20) (Operand.tmp 37) (Operand.const (Value.bool false)), none, 0⟩] true [23, 24, 25] [0, 1, 2, 3, 4, 5, 6, 7, 8, 9, 10, 11, 12, 13, 14, 15, 16, 17, 18, 19, 20, 21, 22, 23, 24, 25])
 (.cond (Operand.tmp 38)
 (.ops [⟨some 39, .move (Operand.tmp 6), none, 0⟩,
 ⟨some 5, .assign (Operand.tmp 39), none, 0⟩])
 .skip)))
 (.ops [⟨some 11, .move (Operand.tmp 6), none, 0⟩,
 ⟨some 12, .binOp BinOp.add 3 (Operand.tmp 11) (Operand.const (Value.int IntKind.i64 1)) 3, none, 0⟩,
 ⟨some 6, .assign (Operand.tmp 12), none, 0⟩]))))))
 (.seq
 (.ops [⟨some 40, .move (Operand.tmp 5), none, 0⟩,
 ⟨some 4, .assign (Operand.tmp 40), none, 0⟩])
 .ret))))
abbrev R53 : List ResultVar := [ResultVar.tmp 4]
theorem ok53 : FnOK Tryz.prog 53 L53 R53 2 := ⟨_, _, Tryz.func53, rfl, by kernel_rfl, by kernel_rfl, by kernel_rfl, by kernel_rfl, Nat.le_of_ble_eq_true (by kernel_rfl), by kernel_rfl⟩

/-- ablaut/script.plain -/
def L56 : LCode :=
 (.seq
 (.ops [⟨some 2, .assign (Operand.const (Value.bool false)), none, 0⟩])
 (.seq
 (.ops [⟨some 3, .move (Operand.tmp 0), none, 0⟩,
 ⟨some 4, .call ⟨(Callee.value (Operand.func 77)), [(Operand.tmp 3), (Operand.func 108)].toArray, #[22, 114]⟩, none, 0⟩,
 ⟨some 5, .unOp UnOp.not 4 (Operand.tmp 4), none, 0⟩,
 ⟨some 2, .assign (Operand.tmp 5), none, 0⟩])
 .ret))
abbrev R56 : List ResultVar := [ResultVar.tmp 2]
theorem ok56 : FnOK Tryz.prog 56 L56 R56 1 := ⟨_, _, Tryz.func56, rfl, by kernel_rfl, by kernel_rfl, by kernel_rfl, by kernel_rfl, Nat.le_of_ble_eq_true (by kernel_rfl), by kernel_rfl⟩

/-- ablaut/ablautref01.Words -/
def L57 : LCode :=
 (.seq
 (.ops [⟨some 2, .assign (Operand.const (Value.int IntKind.i64 0)), none, 0⟩])
 (.seq
 (.seq
 (.ops [⟨some 3, .assign (Operand.const (Value.int IntKind.i64 0)), none, 0⟩])
 (.block 0
 (.loop
 (.seq
 (.seq
 (.ops [⟨some 5, .move (Operand.tmp 3), none, 0⟩,
 ⟨some 6, .move (Operand.tmp 0), none, 0⟩,
 ⟨some 7, .call ⟨(Callee.builtin Builtin.len), [(Operand.tmp 6)].toArray, #[58]⟩, none, 0⟩,
 ⟨some 8, .binOp BinOp.lss 3 (Operand.tmp 5) (Operand.tmp 7) 3, none, 0⟩])
 (.cond (Operand.tmp 8)
 .skip
 (.exit 0)))
 (.seq
 (.block 1
 (.seq
 (.ops [⟨some 11, .move (Operand.tmp 0), none, 0⟩,
 ⟨some 12, .move (Operand.tmp 3), none, 0⟩,
 ⟨some 13, .indexAddr 58 (Operand.tmp 11) (Operand.tmp 12), none, 0⟩,
 ⟨some 14, .load 23 (Operand.tmp 13), none, 0⟩,
 ⟨some 15, .call ⟨(Callee.value (Operand.func 109)), [(Operand.tmp 14)].toArray, #[23]⟩, none, 0⟩,
 ⟨some 4, .assign (Operand.tmp 15), none, 0⟩])
 (.seq
 (.ops [⟨some 16, .move (Operand.tmp 4), none, 0⟩,
 ⟨some 17, .binOp BinOp.neq 32 (Operand.tmp 16) (Operand.const (Value.int IntKind.i64 0)) 32, none, 0⟩])
 (.cond (Operand.tmp 17)
 (.seq
 (.ops [⟨some 18, .move (Operand.tmp 4), none, 0⟩,
 ⟨some 2, .assign (Operand.tmp 18), none, 0⟩])
 .ret)
 .skip))))
 (.ops [⟨some 9, .move (Operand.tmp 3), none, 0⟩,
 ⟨some 10, .binOp BinOp.add 3 (Operand.tmp 9) (Operand.const (Value.int IntKind.i64 1)) 3, none, 0⟩,
 ⟨some 3, .assign (Operand.tmp 10), none, 0⟩]))))))
 (.seq
 (.ops [⟨some 2, .assign (Operand.const (Value.int IntKind.i64 0)), none, 0⟩])
 .ret)))
abbrev R57 : List ResultVar := [ResultVar.tmp 2]
theorem ok57 : FnOK Tryz.prog 57 L57 R57 1 := ⟨_, _, Tryz.func57, rfl, by kernel_rfl, by kernel_rfl, by kernel_rfl, by kernel_rfl, Nat.le_of_ble_eq_true (by kernel_rfl), by kernel_rfl⟩

/-- ablaut/script.asked -/
def L58 : LCode :=
 (.seq
 (.ops [⟨some 2, .assign (Operand.const (Value.int IntKind.i64 0)), none, 0⟩])
 (.seq
 (.block 0
 (.seq
 (.ops [⟨some 4, .move (Operand.tmp 0), none, 0⟩,
 ⟨some 5, .call ⟨(Callee.value (Operand.func 56)), [(Operand.tmp 4)].toArray, #[22]⟩, none, 0⟩,
 ⟨some 6, .unOp UnOp.not 4 (Operand.tmp 5), none, 0⟩,
 ⟨some 3, .assign (Operand.tmp 6), none, 0⟩])
 (.cond (Operand.tmp 3)
 (.seq
 (.ops [⟨some 2, .assign (Operand.const (Value.int IntKind.i64 7)), none, 0⟩])
 .ret)
 (.seq
 (.ops [⟨some 8, .move (Operand.tmp 0), none, 0⟩,
 ⟨some 9, .call ⟨(Callee.value (Operand.func 77)), [(Operand.tmp 8), (Operand.func 110)].toArray, #[22, 114]⟩, none, 0⟩,
 ⟨some 7, .assign (Operand.tmp 9), none, 0⟩])
 (.cond (Operand.tmp 7)
 (.seq
 (.ops [⟨some 2, .assign (Operand.const (Value.int IntKind.i64 3)), none, 0⟩])
 .ret)
 .skip)))))
 (.seq
 (.ops [⟨some 2, .assign (Operand.const (Value.int IntKind.i64 0)), none, 0⟩])
 .ret)))
abbrev R58 : List ResultVar := [ResultVar.tmp 2]
theorem ok58 : FnOK Tryz.prog 58 L58 R58 1 := ⟨_, _, Tryz.func58, rfl, by kernel_rfl, by kernel_rfl, by kernel_rfl, by kernel_rfl, Nat.le_of_ble_eq_true (by kernel_rfl), by kernel_rfl⟩

/-- slices.SortFunc[[]ablaut/api.Shift,ablaut/api.Shift] -/
def L59 : LCode :=
 (.seq
 (.ops [⟨some 5, .move (Operand.tmp 0), none, 0⟩,
 ⟨some 6, .call ⟨(Callee.builtin Builtin.len), [(Operand.tmp 5)].toArray, #[22]⟩, none, 0⟩,
 ⟨some 4, .assign (Operand.tmp 6), none, 0⟩])
 (.ops [⟨some 7, .move (Operand.tmp 0), none, 0⟩,
 ⟨some 8, .move (Operand.tmp 4), none, 0⟩,
 ⟨some 9, .move (Operand.tmp 4), none, 0⟩,
 ⟨some 10, .convert 3 158 (Operand.tmp 9), none, 0⟩,
 ⟨some 11, .call ⟨(Callee.value (Operand.func 112)), [(Operand.tmp 10)].toArray, #[158]⟩, none, 0⟩,
 ⟨some 12, .move (Operand.tmp 1), none, 0⟩,
 ⟨some 13, .call ⟨(Callee.value (Operand.func 111)), [(Operand.tmp 7), (Operand.const (Value.int IntKind.i64 0)), (Operand.tmp 8), (Operand.tmp 11), (Operand.tmp 12)].toArray, #[22, 3, 3, 3, 98]⟩, none, 0⟩]))
abbrev R59 : List ResultVar := []
theorem ok59 : FnOK Tryz.prog 59 L59 R59 2 := ⟨_, _, Tryz.func59, rfl, by kernel_rfl, by kernel_rfl, by kernel_rfl, by kernel_rfl, Nat.le_of_ble_eq_true (by kernel_rfl), by kernel_rfl⟩

/-- ablaut/script.Reverse$1 -/
def L60 : LCode :=
 (.seq
 (.ops [⟨some 2, .box 67 (Operand.tmp 0), none, 0⟩,
 ⟨some 3, .box 67 (Operand.tmp 1), none, 0⟩,
 ⟨some 4, .assign (Operand.const (Value.int IntKind.i64 0)), none, 0⟩])
 (.seq
 (.ops [⟨some 5, .fieldAddr 67 (Operand.tmp 2) 0, none, 0⟩,
 ⟨some 6, .load 23 (Operand.tmp 5), none, 0⟩,
 ⟨some 7, .fieldAddr 67 (Operand.tmp 3) 0, none, 0⟩,
 ⟨some 8, .load 23 (Operand.tmp 7), none, 0⟩,
 ⟨some 9, .call ⟨(Callee.value (Operand.func 61)), [(Operand.tmp 6), (Operand.tmp 8)].toArray, #[23, 23]⟩, none, 0⟩,
 ⟨some 4, .assign (Operand.tmp 9), none, 0⟩])
 .ret))
abbrev R60 : List ResultVar := [ResultVar.tmp 4]
theorem ok60 : FnOK Tryz.prog 60 L60 R60 2 := ⟨_, _, Tryz.func60, rfl, by kernel_rfl, by kernel_rfl, by kernel_rfl, by kernel_rfl, Nat.le_of_ble_eq_true (by kernel_rfl), by kernel_rfl⟩

/-- slices.Compare[[]string,string] -/
def L61 : LCode :=
 (.seq
 (.ops [⟨some 4, .assign (Operand.const (Value.int IntKind.i64 0)), none, 0⟩])
 (.seq
 (.seq
 (.ops [⟨some 9, .move (Operand.tmp 0), none, 0⟩,
 ⟨some 10, .call ⟨(Callee.builtin Builtin.len), [(Operand.tmp 9)].toArray, #[23]⟩, none, 0⟩,
 ⟨some 11, .move (Operand.const (Value.int IntKind.i64 0)), none, 0⟩])
 (.block 0
 (.loop
 (.seq
 (.ops [⟨some 12, .binOp BinOp.lss 3 (Operand.tmp 11) (Operand.tmp 10) 3, none, 0⟩])
 (.seq
 (.cond (Operand.tmp 12)
 .skip
 (.exit 0))
 (.seq
 (.block 1
 (.seq
 (.ops [⟨some 13, .move (Operand.tmp 11), none, 0⟩,
 ⟨some 14, .indexAddr 23 (Operand.tmp 9) (Operand.tmp 11), none, 0⟩,
 ⟨some 15, .load 9 (Operand.tmp 14), none, 0⟩,
 ⟨some 5, .assign (Operand.tmp 13), none, 0⟩,
 ⟨some 6, .assign (Operand.tmp 15), none, 0⟩])
 (.seq
 (.seq
 (.ops [⟨some 16, .move (Operand.tmp 5), none, 0⟩,
 ⟨some 17, .move (Operand.tmp 1), none, 0⟩,
 ⟨some 18, .call ⟨(Callee.builtin Builtin.len), [(Operand.tmp 17)].toArray, #[23]⟩, none, 0⟩,
 ⟨some 19, .binOp BinOp.geq 3 (Operand.tmp 16) (Operand.tmp 18) 3, none, 0⟩])
 (.cond (Operand.tmp 19)
 (.seq
 (.ops [⟨some 4, .assign (Operand.const (Value.int IntKind.i64 1)), none, 0⟩])
 .ret)
 .skip))
 (.seq
 (.ops [⟨some 20, .move (Operand.tmp 1), none, 0⟩,
 ⟨some 21, .move (Operand.tmp 5), none, 0⟩,
 ⟨some 22, .indexAddr 23 (Operand.tmp 20) (Operand.tmp 21), none, 0⟩,
 ⟨some 23, .load 9 (Operand.tmp 22), none, 0⟩,
 ⟨some 7, .assign (Operand.tmp 23), none, 0⟩])
 (.seq
 (.ops [⟨some 24, .move (Operand.tmp 6), none, 0⟩,
 ⟨some 25, .move (Operand.tmp 7), none, 0⟩,
 ⟨some 26, .call ⟨(Callee.value (Operand.func 113)), [(Operand.tmp 24), (Operand.tmp 25)].toArray, #[9, 9]⟩, none, 0⟩,
 ⟨some 8, .assign (Operand.tmp 26), none, 0⟩])
 (.seq
 (.ops [⟨some 27, .move (Operand.tmp 8), none, 0⟩,
 ⟨some 28, .binOp BinOp.neq 3 (Operand.tmp 27) (Operand.const (Value.int IntKind.i64 0)) 3, none, 0⟩])
 (.cond (Operand.tmp 28)
 (.seq
 (.ops [⟨some 29, .move (Operand.tmp 8), none, 0⟩,
 ⟨some 4, .assign (Operand.tmp 29), none, 0⟩])
 .ret)
 .skip)))))))
 (.ops [⟨some 30, .binOp BinOp.add 3 (Operand.tmp 11) (Operand.const (Value.int IntKind.i64 1)) 3, none, 0⟩,
 ⟨some 11, .move (Operand.tmp 30), none, 0⟩])))))))
 (.seq
 (.seq
 (.ops [⟨some 31, .move (Operand.tmp 0), none, 0⟩,
 ⟨some 32, .call ⟨(Callee.builtin Builtin.len), [(Operand.tmp 31)].toArray, #[23]⟩, none, 0⟩,
 ⟨some 33, .move (Operand.tmp 1), none, 0⟩,
 ⟨some 34, .call ⟨(Callee.builtin Builtin.len), [(Operand.tmp 33)].toArray, #[23]⟩, none, 0⟩,
 ⟨some 35, .binOp BinOp.lss 3 (Operand.tmp 32) (Operand.tmp 34) 3, none, 0⟩])
 (.cond (Operand.tmp 35)
 (.seq
 (.ops [⟨some 4, .assign (Operand.const (Value.int IntKind.i64 (-1))), none, 0⟩])
 .ret)
 .skip))
 (.seq
 (.ops [⟨some 4, .assign (Operand.const (Value.int IntKind.i64 0)), none, 0⟩])
 .ret))))
abbrev R61 : List ResultVar := [ResultVar.tmp 4]
theorem ok61 : FnOK Tryz.prog 61 L61 R61 2 := ⟨_, _, Tryz.func61, rfl, by kernel_rfl, by kernel_rfl, by kernel_rfl, by kernel_rfl, Nat.le_of_ble_eq_true (by kernel_rfl), by kernel_rfl⟩

/-- ablaut/script.joins -/
def L62 : LCode :=
 (.seq
 (.ops [⟨some 4, .assign (Operand.const (Value.bool false)), none, 0⟩])
 (.seq
 (.ops [⟨some 21, .makeMap 160 none, none, 0⟩,
 ⟨none, .insert 160 (Operand.tmp 21) (Operand.const (Value.string ⟨#[]⟩)) (Operand.const (Value.bool true)), none, 0⟩,
 ⟨some 22, .move (Operand.tmp 21), none, 0⟩,
 ⟨some 5, .assign (Operand.tmp 22), none, 0⟩])
 (.seq
 (.ops [⟨some 23, .buildSlice 23 1 [(0, (Operand.const (Value.string ⟨#[]⟩)))].toArray, none, 0⟩,
 ⟨some 6, .assign (Operand.tmp 23), none, 0⟩])
 (.seq
 (.seq
 (.ops [⟨some 7, .assign (Operand.const (Value.int IntKind.i64 0)), none, 0⟩])
 (.block 0
 (.loop
 (.seq
 (.seq
 (.ops [⟨some 24, .move (Operand.tmp 7), none, 0⟩,
 ⟨some 25, .move (Operand.tmp 6), none, 0⟩,
 ⟨some 26, .call ⟨(Callee.builtin Builtin.len), [(Operand.tmp 25)].toArray, #[23]⟩, none, 0⟩,
 ⟨some 27, .binOp BinOp.lss 3 (Operand.tmp 24) (Operand.tmp 26) 3, none, 0⟩])
 (.cond (Operand.tmp 27)
 .skip
 (.exit 0)))
 (.seq
 (.block 1
 (.seq
 (.ops [⟨some 30, .move (Operand.tmp 6), none, 0⟩,
 ⟨some 31, .move (Operand.tmp 7), none, 0⟩,
 ⟨some 32, .indexAddr 23 (Operand.tmp 30) (Operand.tmp 31), none, 0⟩,
 ⟨some 33, .load 9 (Operand.tmp 32), none, 0⟩,
 ⟨some 34, .call ⟨(Callee.value (Operand.func 41)), [(Operand.tmp 33)].toArray, #[9]⟩, none, 0⟩,
 ⟨some 8, .assign (Operand.tmp 34), none, 0⟩])
 (.seq
 (.ops [⟨some 36, .move (Operand.tmp 1), none, 0⟩,
 ⟨some 37, .move (Operand.tmp 8), none, 0⟩,
 ⟨some 38, .call ⟨(Callee.value (Operand.func 42)), [(Operand.tmp 36), (Operand.tmp 37)].toArray, #[22, 23]⟩, none, 0⟩,
 ⟨some 35, .move (Operand.tmp 38), none, 0⟩,
 ⟨some 39, .extract (Operand.tmp 35) 0, none, 0⟩,
 ⟨some 40, .extract (Operand.tmp 35) 1, none, 0⟩,
 ⟨some 9, .assign (Operand.tmp 39), none, 0⟩,
 ⟨some 10, .assign (Operand.tmp 40), none, 0⟩])
 (.seq
 (.ops [⟨some 41, .move (Operand.tmp 0), none, 0⟩,
 ⟨some 42, .call ⟨(Callee.builtin Builtin.len), [(Operand.tmp 41)].toArray, #[58]⟩, none, 0⟩,
 ⟨some 43, .move (Operand.const (Value.int IntKind.i64 0)), none, 0⟩])
 (.block 2
 (.loop
 (.seq
 (.ops [⟨some 44, .binOp BinOp.lss 3 (Operand.tmp 43) (Operand.tmp 42) 3, none, 0⟩])
 (.seq
 (.cond (Operand.tmp 44)
 .skip
 (.exit 2))
 (.seq
 (.block 3
 (.seq
 (.ops [⟨some 45, .indexAddr 58 (Operand.tmp 41) (Operand.tmp 43), none, 0⟩,
 ⟨some 46, .load 23 (Operand.tmp 45), none, 0⟩,
 ⟨some 12, .assign (Operand.tmp 46), none, 0⟩])
 (.seq
 (.ops [⟨some 48, .move (Operand.tmp 1), none, 0⟩,
 ⟨some 49, .move (Operand.tmp 8), none, 0⟩,
 ⟨some 50, .move (Operand.tmp 12), none, 0⟩,
 ⟨some 51, .buildSlice 58 2 [(0, (Operand.tmp 49)), (1, (Operand.tmp 50))].toArray, none, 0⟩,
 ⟨some 52, .call ⟨(Callee.value (Operand.func 114)), [(Operand.tmp 51)].toArray, #[58]⟩, none, 0⟩,
 ⟨some 53, .call ⟨(Callee.value (Operand.func 44)), [(Operand.tmp 48), (Operand.tmp 52)].toArray, #[22, 23]⟩, none, 0⟩,
 ⟨some 47, .move (Operand.tmp 53), none, 0⟩,
 ⟨some 54, .extract (Operand.tmp 47) 0, none, 0⟩,
 ⟨some 55, .extract (Operand.tmp 47) 1, none, 0⟩,
 ⟨some 56, .extract (Operand.tmp 47) 2, none, 0⟩,
 ⟨some 13, .assign (Operand.tmp 54), none, 0⟩,
 ⟨some 14, .assign (Operand.tmp 55), none, 0⟩,
 ⟨some 15, .assign (Operand.tmp 56), none, 0⟩])
 (.seq
 (.ops [⟨some 58, .move (Operand.tmp 1), none, 0⟩,
 ⟨some 59, .move (Operand.tmp 12), none, 0⟩,
 ⟨some 60, .call ⟨(Callee.value (Operand.func 42)), [(Operand.tmp 58), (Operand.tmp 59)].toArray, #[22, 23]⟩, none, 0⟩,
 ⟨some 57, .move (Operand.tmp 60), none, 0⟩,
 ⟨some 61, .extract (Operand.tmp 57) 0, none, 0⟩,
 ⟨some 62, .extract (Operand.tmp 57) 1, none, 0⟩,
 ⟨some 16, .assign (Operand.tmp 61), none, 0⟩,
 ⟨some 17, .assign (Operand.tmp 62), none, 0⟩])
 (.seq
 (.ops [⟨some 64, .move (Operand.tmp 1), none, 0⟩,
 ⟨some 65, .move (Operand.tmp 14), none, 0⟩,
 ⟨some 66, .call ⟨(Callee.value (Operand.func 42)), [(Operand.tmp 64), (Operand.tmp 65)].toArray, #[22, 23]⟩, none, 0⟩,
 ⟨some 63, .move (Operand.tmp 66), none, 0⟩,
 ⟨some 67, .extract (Operand.tmp 63) 0, none, 0⟩,
 ⟨some 68, .extract (Operand.tmp 63) 1, none, 0⟩,
 ⟨some 18, .assign (Operand.tmp 67), none, 0⟩,
 ⟨some 19, .assign (Operand.tmp 68), none, 0⟩])
 (.seq
 (.seq
 (.ops [⟨some 69, .move (Operand.tmp 9), none, 0⟩,
 ⟨some 70, .move (Operand.tmp 16), none, 0⟩,
 ⟨some 71, .buildSlice 58 2 [(0, (Operand.tmp 69)), (1, (Operand.tmp 70))].toArray, none, 0⟩,
 ⟨some 72, .call ⟨(Callee.value (Operand.func 114)), [(Operand.tmp 71)].toArray, #[58]⟩, none, 0⟩,
 ⟨some 73, .move (Operand.tmp 13), none, 0⟩,
 ⟨some 74, .move (Operand.tmp 18), none, 0⟩,
 ⟨some 75, .buildSlice 58 2 [(0, (Operand.tmp 73)), (1, (Operand.tmp 74))].toArray, none, 0⟩,
 ⟨some 76, .call ⟨(Callee.value (Operand.func 114)), [(Operand.tmp 75)].toArray, #[58]⟩, none, 0⟩,
 ⟨some 77, .call ⟨(Callee.value (Operand.func 79)), [(Operand.tmp 72), (Operand.tmp 76)].toArray, #[23, 23]⟩, none, 0⟩,
 ⟨some 78, .unOp UnOp.not 4 (Operand.tmp 77), none, 0⟩])
 (.cond (Operand.tmp 78)
 (.seq
 (.ops [⟨some 4, .assign (Operand.const (Value.bool false)), none, 0⟩])
 .ret)
 .skip))
 (.seq
 (.ops [⟨some 79, .move (Operand.tmp 14), none, 0⟩,
 ⟨some 80, .call ⟨(Callee.value (Operand.func 46)), [(Operand.tmp 79)].toArray, #[23]⟩, none, 0⟩,
 ⟨some 20, .assign (Operand.tmp 80), none, 0⟩])
 (.seq
 (.ops [⟨some 81, .move (Operand.tmp 5), none, 0⟩,
 ⟨some 82, .move (Operand.tmp 20), none, 0⟩,
 ⟨some 83, .lookup 160 (Operand.tmp 81) (Operand.tmp 82) false, none, 0⟩,
 ⟨some 84, .unOp UnOp.not 4 (Operand.tmp 83), none, 0⟩])
 (.cond (Operand.tmp 84)
 (.seq
 (.ops [⟨some 85, .move (Operand.tmp 5), none, 0⟩,
 ⟨some 86, .move (Operand.tmp 20), none, 0⟩,
 ⟨none, .mapUpdate 160 (Operand.tmp 85) (Operand.tmp 86) (Operand.const (Value.bool true)), none, 0⟩])
 (.ops [⟨some 87, .move (Operand.tmp 6), none, 0⟩,
 ⟨some 88, .move (Operand.tmp 20), none, 0⟩,
 ⟨some 89, .buildSlice 23 1 [(0, (Operand.tmp 88))].toArray, none, 0⟩,
 ⟨some 90, .call ⟨(Callee.builtin Builtin.append), [(Operand.tmp 87), (Operand.tmp 89)].toArray, #[23, 23]⟩, none, 0⟩,
 ⟨some 6, .assign (Operand.tmp 90), none, 0⟩]))
 .skip)))))))))
 (.ops [⟨some 91, .binOp BinOp.add 3 (Operand.tmp 43) (Operand.const (Value.int IntKind.i64 1)) 3, none, 0⟩,
 ⟨some 43, .move (Operand.tmp 91), none, 0⟩]))))))))))
 (.ops [⟨some 28, .move (Operand.tmp 7), none, 0⟩,
 ⟨some 29, .binOp BinOp.add 3 (Operand.tmp 28) (Operand.const (Value.int IntKind.i64 1)) 3, none, 0⟩,
 ⟨some 7, .assign (Operand.tmp 29), none, 0⟩]))))))
 (.seq
 (.ops [⟨some 4, .assign (Operand.const (Value.bool true)), none, 0⟩])
 .ret)))))
abbrev R62 : List ResultVar := [ResultVar.tmp 4]
theorem ok62 : FnOK Tryz.prog 62 L62 R62 2 := ⟨_, _, Tryz.func62, rfl, by kernel_rfl, by kernel_rfl, by kernel_rfl, by kernel_rfl, Nat.le_of_ble_eq_true (by kernel_rfl), by kernel_rfl⟩

/-- ablaut/ablautref25.plain -/
def L63 : LCode :=
 (.seq
 (.ops [⟨some 2, .assign (Operand.const (Value.int IntKind.i64 0)), none, 0⟩])
 (.seq
 (.seq
 (.ops [⟨some 4, .move (Operand.tmp 0), none, 0⟩,
 ⟨some 5, .call ⟨(Callee.value (Operand.func 20)), [(Operand.tmp 4)].toArray, #[22]⟩, none, 0⟩,
 ⟨some 3, .assign (Operand.tmp 5), none, 0⟩])
 (.seq
 (.ops [⟨some 6, .move (Operand.tmp 3), none, 0⟩,
 ⟨some 7, .binOp BinOp.neq 32 (Operand.tmp 6) (Operand.const (Value.int IntKind.i64 0)) 32, none, 0⟩])
 (.cond (Operand.tmp 7)
 (.seq
 (.ops [⟨some 8, .move (Operand.tmp 3), none, 0⟩,
 ⟨some 2, .assign (Operand.tmp 8), none, 0⟩])
 .ret)
 .skip)))
 (.seq
 (.seq
 (.ops [⟨some 9, .move (Operand.tmp 0), none, 0⟩,
 ⟨some 10, .call ⟨(Callee.value (Operand.func 115)), [(Operand.tmp 9)].toArray, #[22]⟩, none, 0⟩,
 ⟨some 11, .unOp UnOp.not 4 (Operand.tmp 10), none, 0⟩])
 (.cond (Operand.tmp 11)
 (.seq
 (.ops [⟨some 2, .assign (Operand.const (Value.int IntKind.i64 7)), none, 0⟩])
 .ret)
 .skip))
 (.seq
 (.seq
 (.ops [⟨some 12, .move (Operand.tmp 0), none, 0⟩,
 ⟨some 13, .call ⟨(Callee.value (Operand.func 64)), [(Operand.tmp 12)].toArray, #[22]⟩, none, 0⟩,
 ⟨some 14, .call ⟨(Callee.value (Operand.func 116)), [(Operand.tmp 13)].toArray, #[58]⟩, none, 0⟩])
 (.cond (Operand.tmp 14)
 (.seq
 (.ops [⟨some 2, .assign (Operand.const (Value.int IntKind.i64 3)), none, 0⟩])
 .ret)
 .skip))
 (.seq
 (.ops [⟨some 2, .assign (Operand.const (Value.int IntKind.i64 0)), none, 0⟩])
 .ret)))))
abbrev R63 : List ResultVar := [ResultVar.tmp 2]
theorem ok63 : FnOK Tryz.prog 63 L63 R63 1 := ⟨_, _, Tryz.func63, rfl, by kernel_rfl, by kernel_rfl, by kernel_rfl, by kernel_rfl, Nat.le_of_ble_eq_true (by kernel_rfl), by kernel_rfl⟩

/-- ablaut/ablautref25.tos -/
def L64 : LCode :=
 (.seq
 (.ops [⟨some 2, .assign (Operand.const (Value.slice none 0 0)), none, 0⟩])
 (.seq
 (.ops [⟨some 3, .assign (Operand.const (Value.slice none 0 0)), none, 0⟩])
 (.seq
 (.seq
 (.ops [⟨some 4, .assign (Operand.const (Value.int IntKind.i64 0)), none, 0⟩])
 (.block 0
 (.loop
 (.seq
 (.seq
 (.ops [⟨some 5, .move (Operand.tmp 4), none, 0⟩,
 ⟨some 6, .move (Operand.tmp 0), none, 0⟩,
 ⟨some 7, .call ⟨(Callee.builtin Builtin.len), [(Operand.tmp 6)].toArray, #[22]⟩, none, 0⟩,
 ⟨some 8, .binOp BinOp.lss 3 (Operand.tmp 5) (Operand.tmp 7) 3, none, 0⟩])
 (.cond (Operand.tmp 8)
 .skip
 (.exit 0)))
 (.seq
 (.block 1
 (.ops [⟨some 11, .move (Operand.tmp 3), none, 0⟩,
 ⟨some 12, .move (Operand.tmp 0), none, 0⟩,
 ⟨some 13, .move (Operand.tmp 4), none, 0⟩,
 ⟨some 14, .indexAddr 22 (Operand.tmp 12) (Operand.tmp 13), none, 0⟩,
 ⟨some 15, .fieldAddr 67 (Operand.tmp 14) 1, none, 0⟩,
 ⟨some 16, .load 23 (Operand.tmp 15), none, 0⟩,
 ⟨some 17, .buildSlice 58 1 [(0, (Operand.tmp 16))].toArray, none, 0⟩,
 ⟨some 18, .call ⟨(Callee.builtin Builtin.append), [(Operand.tmp 11), (Operand.tmp 17)].toArray, #[58, 58]⟩, none, 0⟩,
 ⟨some 3, .assign (Operand.tmp 18), none, 0⟩]))
 (.ops [⟨some 9, .move (Operand.tmp 4), none, 0⟩,
 ⟨some 10, .binOp BinOp.add 3 (Operand.tmp 9) (Operand.const (Value.int IntKind.i64 1)) 3, none, 0⟩,
 ⟨some 4, .assign (Operand.tmp 10), none, 0⟩]))))))
 (.seq
 (.ops [⟨some 19, .move (Operand.tmp 3), none, 0⟩,
 ⟨some 2, .assign (Operand.tmp 19), none, 0⟩])
 .ret))))
abbrev R64 : List ResultVar := [ResultVar.tmp 2]
theorem ok64 : FnOK Tryz.prog 64 L64 R64 1 := ⟨_, _, Tryz.func64, rfl, by kernel_rfl, by kernel_rfl, by kernel_rfl, by kernel_rfl, Nat.le_of_ble_eq_true (by kernel_rfl), by kernel_rfl⟩

/-- ablaut/ablautref25.begins -/
def L65 : LCode :=
 (.seq
 (.ops [⟨some 4, .assign (Operand.const (Value.bool false)), none, 0⟩])
 (.seq
 (.ops [⟨some 5, .move (Operand.tmp 1), none, 0⟩,
 ⟨some 6, .call ⟨(Callee.builtin Builtin.len), [(Operand.tmp 5)].toArray, #[23]⟩, none, 0⟩,
 ⟨some 7, .move (Operand.tmp 0), none, 0⟩,
 ⟨some 8, .call ⟨(Callee.builtin Builtin.len), [(Operand.tmp 7)].toArray, #[23]⟩, none, 0⟩,
 ⟨some 9, .binOp BinOp.leq 3 (Operand.tmp 6) (Operand.tmp 8) 3, none, 0⟩,
 ⟨some 10, .move (Operand.tmp 9), none, 0⟩,
 ⟨some 11, .move (Operand.tmp 0), some (10, true), 0⟩,
 ⟨some 12, .move (Operand.tmp 1), some (10, true), 0⟩,
 ⟨some 13, .call ⟨(Callee.builtin Builtin.len), [(Operand.tmp 12)].toArray, #[23]⟩, some (10, true), 0⟩,
 ⟨some 14, .slice 23 (Operand.tmp 11) none (some (Operand.tmp 13)) none, some (10, true), 0⟩,
 ⟨some 15, .move (Operand.tmp 1), some (10, true), 0⟩,
 ⟨some 16, .call ⟨(Callee.value (Operand.func 15)), [(Operand.tmp 14), (Operand.tmp 15)].toArray, #[23, 23]⟩, some (10, true), 0⟩,
 ⟨some 17, .pick (Operand.tmp 10) (Operand.tmp 16) (Operand.const (Value.bool false)), none, 0⟩,
 ⟨some 4, .assign (Operand.tmp 17), none, 0⟩])
 .ret))
abbrev R65 : List ResultVar := [ResultVar.tmp 4]
theorem ok65 : FnOK Tryz.prog 65 L65 R65 2 := ⟨_, _, Tryz.func65, rfl, by kernel_rfl, by kernel_rfl, by kernel_rfl, by kernel_rfl, Nat.le_of_ble_eq_true (by kernel_rfl), by kernel_rfl⟩

/-- ablaut/ablautref25.isBegun -/
def L66 : LCode :=
 (.seq
 (.ops [⟨some 6, .assign (Operand.const (Value.bool false)), none, 0⟩])
 (.seq
 (.seq
 (.ops [⟨some 7, .assign (Operand.const (Value.int IntKind.i64 0)), none, 0⟩])
 (.block 0
 (.loop
 (.seq
 (.seq
 (.ops [⟨some 8, .move (Operand.tmp 7), none, 0⟩,
 ⟨some 9, .move (Operand.tmp 0), none, 0⟩,
 ⟨some 10, .call ⟨(Callee.builtin Builtin.len), [(Operand.tmp 9)].toArray, #[58]⟩, none, 0⟩,
 ⟨some 11, .binOp BinOp.lss 3 (Operand.tmp 8) (Operand.tmp 10) 3, none, 0⟩])
 (.cond (Operand.tmp 11)
 .skip
 (.exit 0)))
 (.seq
 (.block 1
 (.seq
 (.seq
 (.ops [⟨some 14, .move (Operand.tmp 0), none, 0⟩,
 ⟨some 15, .move (Operand.tmp 7), none, 0⟩,
 ⟨some 16, .indexAddr 58 (Operand.tmp 14) (Operand.tmp 15), none, 0⟩,
 ⟨some 17, .load 23 (Operand.tmp 16), none, 0⟩,
 ⟨some 18, .move (Operand.tmp 1), none, 0⟩,
 ⟨some 19, .call ⟨(Callee.value (Operand.func 65)), [(Operand.tmp 17), (Operand.tmp 18)].toArray, #[23, 23]⟩, none, 0⟩])
 (.cond (Operand.tmp 19)
 (.seq
 (.ops [⟨some 6, .assign (Operand.const (Value.bool true)), none, 0⟩])
 .ret)
 .skip))
 (.seq
 (.ops [⟨some 20, .move (Operand.tmp 0), none, 0⟩,
 ⟨some 21, .move (Operand.tmp 7), none, 0⟩,
 ⟨some 22, .indexAddr 58 (Operand.tmp 20) (Operand.tmp 21), none, 0⟩,
 ⟨some 23, .load 23 (Operand.tmp 22), none, 0⟩,
 ⟨some 24, .call ⟨(Callee.builtin Builtin.len), [(Operand.tmp 23)].toArray, #[23]⟩, none, 0⟩,
 ⟨some 25, .binOp BinOp.gtr 3 (Operand.tmp 24) (Operand.const (Value.int IntKind.i64 0)) 3, none, 0⟩,
 ⟨some 26, .move (Operand.tmp 25), none, 0⟩,
 ⟨some 27, .move (Operand.tmp 1), some (26, true), 0⟩,
 ⟨some 28, .move (Operand.tmp 0), some (26, true), 0⟩,
 ⟨some 29, .move (Operand.tmp 7), some (26, true), 0⟩,
 ⟨some 30, .indexAddr 58 (Operand.tmp 28) (Operand.tmp 29), some (26, true), 0⟩,
 ⟨some 31, .load 23 (Operand.tmp 30), some (26, true), 0⟩,
 ⟨some 32, .call ⟨(Callee.value (Operand.func 65)), [(Operand.tmp 27), (Operand.tmp 31)].toArray, #[23, 23]⟩, some (26, true), 0⟩,
 ⟨some 33, .pick (Operand.tmp 26) (Operand.tmp 32) (Operand.const (Value.bool false)), none, 0⟩,
 ⟨some 34, .move (Operand.tmp 33), none, 0⟩,
 ⟨some 35, .move (Operand.tmp 2), some (34, true), 0⟩,
 ⟨some 36, .binOp BinOp.gtr 3 (Operand.tmp 35) (Operand.const (Value.int IntKind.i64 0)) 3, some (34, true), 0⟩,
 ⟨some 37, .pick (Operand.tmp 34) (Operand.tmp 36) (Operand.const (Value.bool false)), none, 0⟩,
 ⟨some 38, .move (Operand.tmp 37), none, 0⟩,
 ⟨some 39, .move (Operand.tmp 0), some (38, true), 0⟩,
 ⟨some 40, .move (Operand.tmp 1), some (38, true), 0⟩,
 ⟨some 41, .move (Operand.tmp 0), some (38, true), 0⟩,
 ⟨some 42, .move (Operand.tmp 7), some (38, true), 0⟩,
 ⟨some 43, .indexAddr 58 (Operand.tmp 41) (Operand.tmp 42), some (38, true), 0⟩,
 ⟨some 44, .load 23 (Operand.tmp 43), some (38, true), 0⟩,
 ⟨some 45, .call ⟨(Callee.builtin Builtin.len), [(Operand.tmp 44)].toArray, #[23]⟩, some (38, true), 0⟩,
 ⟨some 46, .slice 23 (Operand.tmp 40) (some (Operand.tmp 45)) none none, some (38, true), 0⟩,
 ⟨some 47, .move (Operand.tmp 2), some (38, true), 0⟩,
 ⟨some 48, .binOp BinOp.sub 3 (Operand.tmp 47) (Operand.const (Value.int IntKind.i64 1)) 3, some (38, true), 0⟩,
 ⟨some 49, .call ⟨(Callee.value (Operand.func 66)), [(Operand.tmp 39), (Operand.tmp 46), (Operand.tmp 48)].toArray, #[58, 23, 3]⟩, some (38, true), 0⟩,
 ⟨some 50, .pick (Operand.tmp 38) (Operand.tmp 49) (Operand.const (Value.bool false)), none, 0⟩])
 (.cond (Operand.tmp 50)
 (.seq
 (.ops [⟨some 6, .assign (Operand.const (Value.bool true)), none, 0⟩])
 .ret)
 .skip))))
 (.ops [⟨some 12, .move (Operand.tmp 7), none, 0⟩,
 ⟨some 13, .binOp BinOp.add 3 (Operand.tmp 12) (Operand.const (Value.int IntKind.i64 1)) 3, none, 0⟩,
 ⟨some 7, .assign (Operand.tmp 13), none, 0⟩]))))))
 (.seq
 (.ops [⟨some 51, .move (Operand.tmp 1), none, 0⟩,
 ⟨some 52, .call ⟨(Callee.builtin Builtin.len), [(Operand.tmp 51)].toArray, #[23]⟩, none, 0⟩,
 ⟨some 53, .binOp BinOp.eql 3 (Operand.tmp 52) (Operand.const (Value.int IntKind.i64 0)) 3, none, 0⟩,
 ⟨some 6, .assign (Operand.tmp 53), none, 0⟩])
 .ret)))
abbrev R66 : List ResultVar := [ResultVar.tmp 6]
theorem ok66 : FnOK Tryz.prog 66 L66 R66 3 := ⟨_, _, Tryz.func66, rfl, by kernel_rfl, by kernel_rfl, by kernel_rfl, by kernel_rfl, Nat.le_of_ble_eq_true (by kernel_rfl), by kernel_rfl⟩

/-- ablaut/ablautref01.Join -/
def L67 : LCode :=
 (.seq
 (.ops [⟨some 4, .assign (Operand.const (Value.slice none 0 0)), none, 0⟩])
 (.seq
 (.ops [⟨some 5, .buildSlice 23 0 [].toArray, none, 0⟩,
 ⟨some 6, .move (Operand.tmp 0), none, 0⟩,
 ⟨some 7, .call ⟨(Callee.builtin Builtin.append), [(Operand.tmp 5), (Operand.tmp 6)].toArray, #[23, 23]⟩, none, 0⟩,
 ⟨some 8, .move (Operand.tmp 1), none, 0⟩,
 ⟨some 9, .call ⟨(Callee.builtin Builtin.append), [(Operand.tmp 7), (Operand.tmp 8)].toArray, #[23, 23]⟩, none, 0⟩,
 ⟨some 4, .assign (Operand.tmp 9), none, 0⟩])
 .ret))
abbrev R67 : List ResultVar := [ResultVar.tmp 4]
theorem ok67 : FnOK Tryz.prog 67 L67 R67 2 := ⟨_, _, Tryz.func67, rfl, by kernel_rfl, by kernel_rfl, by kernel_rfl, by kernel_rfl, Nat.le_of_ble_eq_true (by kernel_rfl), by kernel_rfl⟩

/-- ablaut/ablautref25.sorted -/
def L68 : LCode :=
 (.seq
 (.ops [⟨some 2, .assign (Operand.const (Value.slice none 0 0)), none, 0⟩])
 (.seq
 (.ops [⟨some 3, .assign (Operand.const (Value.slice none 0 0)), none, 0⟩])
 (.seq
 (.seq
 (.ops [⟨some 4, .assign (Operand.const (Value.int IntKind.i64 0)), none, 0⟩])
 (.block 0
 (.loop
 (.seq
 (.seq
 (.ops [⟨some 7, .move (Operand.tmp 4), none, 0⟩,
 ⟨some 8, .move (Operand.tmp 0), none, 0⟩,
 ⟨some 9, .call ⟨(Callee.builtin Builtin.len), [(Operand.tmp 8)].toArray, #[22]⟩, none, 0⟩,
 ⟨some 10, .binOp BinOp.lss 3 (Operand.tmp 7) (Operand.tmp 9) 3, none, 0⟩])
 (.cond (Operand.tmp 10)
 .skip
 (.exit 0)))
 (.seq
 (.block 1
 (.seq
 (.ops [⟨some 13, .move (Operand.tmp 3), none, 0⟩,
 ⟨some 14, .call ⟨(Callee.builtin Builtin.len), [(Operand.tmp 13)].toArray, #[22]⟩, none, 0⟩,
 ⟨some 5, .assign (Operand.tmp 14), none, 0⟩])
 (.seq
 (.block 2
 (.loop
 (.seq
 (.seq
 (.draw [⟨some 15, .move (Operand.tmp 5), none, 0⟩,
 ⟨some 16, .binOp BinOp.gtr 3 (Operand.tmp 15) (Operand.const (Value.int IntKind.i64 0)) 3, none, 0⟩,
 ⟨some 17, .move (Operand.tmp 16), none, 0⟩,
 ⟨some 18, .move (Operand.tmp 3), some (17, true), 0⟩,
 ⟨some 19, .move (Operand.tmp 5), some (17, true), 0⟩,
 ⟨some 20, .binOp BinOp.sub 3 (Operand.tmp 19) (Operand.const (Value.int IntKind.i64 1)) 3, some (17, true), 0⟩,
 ⟨some 21, .indexAddr 22 (Operand.tmp 18) (Operand.tmp 20), some (17, true), 0⟩,
 ⟨some 22, .fieldAddr 67 (Operand.tmp 21) 0, some (17, true), 0⟩,
 ⟨some 23, .load 23 (Operand.tmp 22), some (17, true), 0⟩,
 ⟨some 24, .move (Operand.tmp 0), some (17, true), 0⟩,
 ⟨some 25, .move (Operand.tmp 4), some (17, true), 0⟩,
 ⟨some 26, .indexAddr 22 (Operand.tmp 24) (Operand.tmp 25), some (17, true), 0⟩,
 ⟨some 27, .fieldAddr 67 (Operand.tmp 26) 0, some (17, true), 0⟩,
 ⟨some 28, .load 23 (Operand.tmp 27), some (17, true), 0⟩,
 ⟨some 29, .call ⟨(Callee.value (Operand.func 51)), [(Operand.tmp 23), (Operand.tmp 28)].toArray, #[23, 23]⟩, some (17, true), 0⟩,
 ⟨some 30, .binOp BinOp.gtr 3 (Operand.tmp 29) (Operand.const (Value.int IntKind.i64 0)) 3, some (17, true), 0⟩,
 ⟨some 31, .pick (Operand.tmp 17) (Operand.tmp 30) (Operand.const (Value.bool false)), none, 0⟩] true [14, 15, 16] [0, 1, 2, 3, 4, 5, 6, 7, 9, 10, 11, 12, 8, 13, 14, 15, 16])
 (.cond (Operand.tmp 31)
 .skip
 (.exit 2)))
 (.block 3
 (.ops [⟨some 32, .move (Operand.tmp 5), none, 0⟩,
 ⟨some 33, .binOp BinOp.sub 3 (Operand.tmp 32) (Operand.const (Value.int IntKind.i64 1)) 3, none, 0⟩,
 ⟨some 5, .assign (Operand.tmp 33), none, 0⟩])))))
 (.seq
 (.ops [⟨some 34, .buildSlice 22 0 [].toArray, none, 0⟩,
 ⟨some 35, .move (Operand.tmp 3), none, 0⟩,
 ⟨some 36, .move (Operand.tmp 5), none, 0⟩,
 ⟨some 37, .slice 22 (Operand.tmp 35) none (some (Operand.tmp 36)) none, none, 0⟩,
 ⟨some 38, .call ⟨(Callee.builtin Builtin.append), [(Operand.tmp 34), (Operand.tmp 37)].toArray, #[22, 22]⟩, none, 0⟩,
 ⟨some 6, .assign (Operand.tmp 38), none, 0⟩])
 (.seq
 (.ops [⟨some 39, .move (Operand.tmp 6), none, 0⟩,
 ⟨some 40, .move (Operand.tmp 0), none, 0⟩,
 ⟨some 41, .move (Operand.tmp 4), none, 0⟩,
 ⟨some 42, .indexAddr 22 (Operand.tmp 40) (Operand.tmp 41), none, 0⟩,
 ⟨some 43, .load 67 (Operand.tmp 42), none, 0⟩,
 ⟨some 44, .buildSlice 22 1 [(0, (Operand.tmp 43))].toArray, none, 0⟩,
 ⟨some 45, .call ⟨(Callee.builtin Builtin.append), [(Operand.tmp 39), (Operand.tmp 44)].toArray, #[22, 22]⟩, none, 0⟩,
 ⟨some 6, .assign (Operand.tmp 45), none, 0⟩])
 (.ops [⟨some 46, .move (Operand.tmp 6), none, 0⟩,
 ⟨some 47, .move (Operand.tmp 3), none, 0⟩,
 ⟨some 48, .move (Operand.tmp 5), none, 0⟩,
 ⟨some 49, .slice 22 (Operand.tmp 47) (some (Operand.tmp 48)) none none, none, 0⟩,
 ⟨some 50, .call ⟨(Callee.builtin Builtin.append), [(Operand.tmp 46), (Operand.tmp 49)].toArray, #[22, 22]⟩, none, 0⟩,
 ⟨some 3, .assign (Operand.tmp 50), none, 0⟩]))))))
 (.ops [⟨some 11, .move (Operand.tmp 4), none, 0⟩,
 ⟨some 12, .binOp BinOp.add 3 (Operand.tmp 11) (Operand.const (Value.int IntKind.i64 1)) 3, none, 0⟩,
 ⟨some 4, .assign (Operand.tmp 12), none, 0⟩]))))))
 (.seq
 (.ops [⟨some 51, .move (Operand.tmp 3), none, 0⟩,
 ⟨some 2, .assign (Operand.tmp 51), none, 0⟩])
 .ret))))
abbrev R68 : List ResultVar := [ResultVar.tmp 2]
theorem ok68 : FnOK Tryz.prog 68 L68 R68 1 := ⟨_, _, Tryz.func68, rfl, by kernel_rfl, by kernel_rfl, by kernel_rfl, by kernel_rfl, Nat.le_of_ble_eq_true (by kernel_rfl), by kernel_rfl⟩

/-- ablaut/script.clash -/
def L69 : LCode :=
 (.seq
 (.ops [⟨some 2, .assign (Operand.const (Value.slice none 0 0)), none, 0⟩])
 (.seq
 (.seq
 (.ops [⟨some 17, .move (Operand.tmp 0), none, 0⟩,
 ⟨some 18, .call ⟨(Callee.value (Operand.func 117)), [(Operand.tmp 17), (Operand.func 118)].toArray, #[58, 108]⟩, none, 0⟩,
 ⟨some 3, .assign (Operand.tmp 18), none, 0⟩])
 (.seq
 (.ops [⟨some 19, .move (Operand.tmp 3), none, 0⟩,
 ⟨some 20, .binOp BinOp.geq 3 (Operand.tmp 19) (Operand.const (Value.int IntKind.i64 0)) 3, none, 0⟩])
 (.cond (Operand.tmp 20)
 (.seq
 (.ops [⟨some 21, .move (Operand.tmp 3), none, 0⟩,
 ⟨some 22, .buildSlice 39 1 [(0, (Operand.tmp 21))].toArray, none, 0⟩,
 ⟨some 23, .buildSlice 104 2 [(0, (Operand.const (Value.slice none 0 0))), (1, (Operand.tmp 22))].toArray, none, 0⟩,
 ⟨some 2, .assign (Operand.tmp 23), none, 0⟩])
 .ret)
 .skip)))
 (.seq
 (.ops [⟨some 4, .assign (Operand.const (Value.slice none 0 0)), none, 0⟩])
 (.seq
 (.seq
 (.ops [⟨some 24, .move (Operand.tmp 0), none, 0⟩,
 ⟨some 25, .call ⟨(Callee.builtin Builtin.len), [(Operand.tmp 24)].toArray, #[58]⟩, none, 0⟩,
 ⟨some 26, .move (Operand.const (Value.int IntKind.i64 0)), none, 0⟩])
 (.block 0
 (.loop
 (.seq
 (.ops [⟨some 27, .binOp BinOp.lss 3 (Operand.tmp 26) (Operand.tmp 25) 3, none, 0⟩])
 (.seq
 (.cond (Operand.tmp 27)
 .skip
 (.exit 0))
 (.seq
 (.block 1
 (.seq
 (.ops [⟨some 28, .move (Operand.tmp 26), none, 0⟩,
 ⟨some 29, .indexAddr 58 (Operand.tmp 24) (Operand.tmp 26), none, 0⟩,
 ⟨some 30, .load 23 (Operand.tmp 29), none, 0⟩,
 ⟨some 5, .assign (Operand.tmp 28), none, 0⟩,
 ⟨some 6, .assign (Operand.tmp 30), none, 0⟩])
 (.seq
 (.ops [⟨some 31, .move (Operand.tmp 0), none, 0⟩,
 ⟨some 32, .call ⟨(Callee.builtin Builtin.len), [(Operand.tmp 31)].toArray, #[58]⟩, none, 0⟩,
 ⟨some 33, .move (Operand.const (Value.int IntKind.i64 0)), none, 0⟩])
 (.block 2
 (.loop
 (.seq
 (.ops [⟨some 34, .binOp BinOp.lss 3 (Operand.tmp 33) (Operand.tmp 32) 3, none, 0⟩])
 (.seq
 (.cond (Operand.tmp 34)
 .skip
 (.exit 2))
 (.seq
 (.block 3
 (.seq
 (.ops [⟨some 35, .move (Operand.tmp 33), none, 0⟩,
 ⟨some 36, .indexAddr 58 (Operand.tmp 31) (Operand.tmp 33), none, 0⟩,
 ⟨some 37, .load 23 (Operand.tmp 36), none, 0⟩,
 ⟨some 7, .assign (Operand.tmp 35), none, 0⟩,
 ⟨some 8, .assign (Operand.tmp 37), none, 0⟩])
 (.seq
 (.ops [⟨some 38, .move (Operand.tmp 5), none, 0⟩,
 ⟨some 39, .move (Operand.tmp 7), none, 0⟩,
 ⟨some 40, .binOp BinOp.neq 3 (Operand.tmp 38) (Operand.tmp 39) 3, none, 0⟩,
 ⟨some 41, .move (Operand.tmp 40), none, 0⟩,
 ⟨some 42, .move (Operand.tmp 8), some (41, true), 0⟩,
 ⟨some 43, .move (Operand.tmp 6), some (41, true), 0⟩,
 ⟨some 44, .call ⟨(Callee.value (Operand.func 83)), [(Operand.tmp 42), (Operand.tmp 43)].toArray, #[23, 23]⟩, some (41, true), 0⟩,
 ⟨some 45, .pick (Operand.tmp 41) (Operand.tmp 44) (Operand.const (Value.bool false)), none, 0⟩,
 ⟨some 46, .move (Operand.tmp 45), none, 0⟩,
 ⟨some 47, .move (Operand.tmp 6), some (46, true), 0⟩,
 ⟨some 48, .call ⟨(Callee.builtin Builtin.len), [(Operand.tmp 47)].toArray, #[23]⟩, some (46, true), 0⟩,
 ⟨some 49, .move (Operand.tmp 8), some (46, true), 0⟩,
 ⟨some 50, .call ⟨(Callee.builtin Builtin.len), [(Operand.tmp 49)].toArray, #[23]⟩, some (46, true), 0⟩,
 ⟨some 51, .binOp BinOp.lss 3 (Operand.tmp 48) (Operand.tmp 50) 3, some (46, true), 0⟩,
 ⟨some 52, .move (Operand.tmp 51), some (46, true), 0⟩,
 ⟨some 53, .move (Operand.tmp 5), some (52, false), 0⟩,
 ⟨some 54, .move (Operand.tmp 7), some (52, false), 0⟩,
 ⟨some 55, .binOp BinOp.lss 3 (Operand.tmp 53) (Operand.tmp 54) 3, some (52, false), 0⟩,
 ⟨some 56, .pick (Operand.tmp 52) (Operand.const (Value.bool true)) (Operand.tmp 55), some (46, true), 0⟩,
 ⟨some 57, .pick (Operand.tmp 46) (Operand.tmp 56) (Operand.const (Value.bool false)), none, 0⟩])
 (.cond (Operand.tmp 57)
 (.ops [⟨some 58, .move (Operand.tmp 4), none, 0⟩,
 ⟨some 59, .move (Operand.tmp 8), none, 0⟩,
 ⟨some 60, .move (Operand.tmp 6), none, 0⟩,
 ⟨some 61, .call ⟨(Callee.builtin Builtin.len), [(Operand.tmp 60)].toArray, #[23]⟩, none, 0⟩,
 ⟨some 62, .slice 23 (Operand.tmp 59) (some (Operand.tmp 61)) none none, none, 0⟩,
 ⟨some 63, .move (Operand.tmp 8), none, 0⟩,
 ⟨some 64, .call ⟨(Callee.builtin Builtin.len), [(Operand.tmp 63)].toArray, #[23]⟩, none, 0⟩,
 ⟨some 65, .move (Operand.tmp 5), none, 0⟩,
 ⟨some 66, .buildSlice 39 1 [(0, (Operand.tmp 65))].toArray, none, 0⟩,
 ⟨some 67, .move (Operand.tmp 7), none, 0⟩,
 ⟨some 68, .buildSlice 39 1 [(0, (Operand.tmp 67))].toArray, none, 0⟩,
 ⟨some 69, .build 166 [(0, (Operand.tmp 62)), (1, (Operand.tmp 64)), (2, (Operand.tmp 66)), (3, (Operand.tmp 68))].toArray, none, 0⟩,
 ⟨some 70, .buildSlice 164 1 [(0, (Operand.tmp 69))].toArray, none, 0⟩,
 ⟨some 71, .call ⟨(Callee.builtin Builtin.append), [(Operand.tmp 58), (Operand.tmp 70)].toArray, #[164, 164]⟩, none, 1⟩,
 ⟨some 4, .assign (Operand.tmp 71), none, 0⟩])
 .skip))))
 (.ops [⟨some 72, .binOp BinOp.add 3 (Operand.tmp 33) (Operand.const (Value.int IntKind.i64 1)) 3, none, 0⟩,
 ⟨some 33, .move (Operand.tmp 72), none, 0⟩])))))))))
 (.ops [⟨some 73, .binOp BinOp.add 3 (Operand.tmp 26) (Operand.const (Value.int IntKind.i64 1)) 3, none, 0⟩,
 ⟨some 26, .move (Operand.tmp 73), none, 0⟩])))))))
 (.seq
 (.ops [⟨some 74, .makeMap 160 none, none, 0⟩,
 ⟨some 9, .assign (Operand.tmp 74), none, 0⟩])
 (.seq
 (.block 4
 (.loop
 (.seq
 (.seq
 (.ops [⟨some 75, .move (Operand.tmp 4), none, 0⟩,
 ⟨some 76, .call ⟨(Callee.builtin Builtin.len), [(Operand.tmp 75)].toArray, #[164]⟩, none, 0⟩,
 ⟨some 77, .binOp BinOp.gtr 3 (Operand.tmp 76) (Operand.const (Value.int IntKind.i64 0)) 3, none, 0⟩])
 (.cond (Operand.tmp 77)
 .skip
 (.exit 4)))
 (.block 5
 (.seq
 (.ops [⟨some 10, .assign (Operand.const (Value.int IntKind.i64 0)), none, 0⟩])
 (.seq
 (.seq
 (.ops [⟨some 78, .move (Operand.tmp 4), none, 0⟩,
 ⟨some 79, .call ⟨(Callee.builtin Builtin.len), [(Operand.tmp 78)].toArray, #[164]⟩, none, 0⟩,
 ⟨some 80, .move (Operand.const (Value.int IntKind.i64 0)), none, 0⟩])
 (.block 6
 (.loop
 (.seq
 (.ops [⟨some 81, .binOp BinOp.lss 3 (Operand.tmp 80) (Operand.tmp 79) 3, none, 0⟩])
 (.seq
 (.cond (Operand.tmp 81)
 .skip
 (.exit 6))
 (.seq
 (.block 7
 (.seq
 (.ops [⟨some 82, .move (Operand.tmp 80), none, 0⟩,
 ⟨some 83, .indexAddr 164 (Operand.tmp 78) (Operand.tmp 80), none, 0⟩,
 ⟨some 84, .load 166 (Operand.tmp 83), none, 0⟩,
 ⟨some 12, .alloc 166, none, 0⟩,
 ⟨some 11, .assign (Operand.tmp 82), none, 0⟩,
 ⟨none, .store 166 (Operand.tmp 12) (Operand.tmp 84), none, 0⟩])
 (.seq
 (.draw [⟨some 85, .fieldAddr 166 (Operand.tmp 12) 1, none, 0⟩,
 ⟨some 86, .load 3 (Operand.tmp 85), none, 0⟩,
 ⟨some 87, .move (Operand.tmp 4), none, 0⟩,
 ⟨some 88, .move (Operand.tmp 10), none, 0⟩,
 ⟨some 89, .indexAddr 164 (Operand.tmp 87) (Operand.tmp 88), none, 0⟩,
 ⟨some 90, .fieldAddr 166 (Operand.tmp 89) 1, none, 0⟩,
 ⟨some 91, .load 3 (Operand.tmp 90), none, 0⟩,
 ⟨some 92, .binOp BinOp.lss 3 (Operand.tmp 86) (Operand.tmp 91) 3, none, 0⟩] true [7] [0, 2, 3, 4, 5, 1, 6, 7])
 (.cond (Operand.tmp 92)
 (.ops [⟨some 93, .move (Operand.tmp 11), none, 0⟩,
 ⟨some 10, .assign (Operand.tmp 93), none, 0⟩])
 .skip))))
 (.ops [⟨some 94, .binOp BinOp.add 3 (Operand.tmp 80) (Operand.const (Value.int IntKind.i64 1)) 3, none, 0⟩,
 ⟨some 80, .move (Operand.tmp 94), none, 0⟩])))))))
 (.seq
 (.ops [⟨some 95, .move (Operand.tmp 4), none, 0⟩,
 ⟨some 96, .move (Operand.tmp 10), none, 0⟩,
 ⟨some 97, .indexAddr 164 (Operand.tmp 95) (Operand.tmp 96), none, 0⟩,
 ⟨some 98, .load 166 (Operand.tmp 97), none, 0⟩,
 ⟨some 13, .alloc 166, none, 0⟩,
 ⟨none, .store 166 (Operand.tmp 13) (Operand.tmp 98), none, 0⟩])
 (.seq
 (.ops [⟨some 99, .move (Operand.tmp 4), none, 0⟩,
 ⟨some 100, .move (Operand.tmp 10), none, 0⟩,
 ⟨some 101, .move (Operand.tmp 10), none, 0⟩,
 ⟨some 102, .binOp BinOp.add 3 (Operand.tmp 101) (Operand.const (Value.int IntKind.i64 1)) 3, none, 0⟩,
 ⟨some 103, .call ⟨(Callee.value (Operand.func 119)), [(Operand.tmp 99), (Operand.tmp 100), (Operand.tmp 102)].toArray, #[164, 3, 3]⟩, none, 0⟩,
 ⟨some 4, .assign (Operand.tmp 103), none, 0⟩])
 (.seq
 (.seq
 (.ops [⟨some 104, .fieldAddr 166 (Operand.tmp 13) 0, none, 0⟩,
 ⟨some 105, .load 23 (Operand.tmp 104), none, 0⟩,
 ⟨some 106, .call ⟨(Callee.builtin Builtin.len), [(Operand.tmp 105)].toArray, #[23]⟩, none, 0⟩,
 ⟨some 107, .binOp BinOp.eql 3 (Operand.tmp 106) (Operand.const (Value.int IntKind.i64 0)) 3, none, 0⟩])
 (.cond (Operand.tmp 107)
 (.seq
 (.ops [⟨some 108, .fieldAddr 166 (Operand.tmp 13) 2, none, 0⟩,
 ⟨some 109, .load 39 (Operand.tmp 108), none, 0⟩,
 ⟨some 110, .fieldAddr 166 (Operand.tmp 13) 3, none, 0⟩,
 ⟨some 111, .load 39 (Operand.tmp 110), none, 0⟩,
 ⟨some 112, .buildSlice 104 2 [(0, (Operand.tmp 109)), (1, (Operand.tmp 111))].toArray, none, 0⟩,
 ⟨some 2, .assign (Operand.tmp 112), none, 0⟩])
 .ret)
 .skip))
 (.seq
 (.seq
 (.ops [⟨some 113, .move (Operand.tmp 9), none, 0⟩,
 ⟨some 114, .fieldAddr 166 (Operand.tmp 13) 0, none, 0⟩,
 ⟨some 115, .load 23 (Operand.tmp 114), none, 0⟩,
 ⟨some 116, .call ⟨(Callee.value (Operand.func 46)), [(Operand.tmp 115)].toArray, #[23]⟩, none, 0⟩,
 ⟨some 117, .lookup 160 (Operand.tmp 113) (Operand.tmp 116) false, none, 0⟩])
 (.cond (Operand.tmp 117)
 (.exit 5)
 .skip))
 (.seq
 (.ops [⟨some 118, .move (Operand.tmp 9), none, 0⟩,
 ⟨some 119, .fieldAddr 166 (Operand.tmp 13) 0, none, 0⟩,
 ⟨some 120, .load 23 (Operand.tmp 119), none, 0⟩,
 ⟨some 121, .call ⟨(Callee.value (Operand.func 46)), [(Operand.tmp 120)].toArray, #[23]⟩, none, 0⟩,
 ⟨none, .mapUpdate 160 (Operand.tmp 118) (Operand.tmp 121) (Operand.const (Value.bool true)), none, 0⟩])
 (.seq
 (.ops [⟨some 122, .move (Operand.tmp 0), none, 0⟩,
 ⟨some 123, .call ⟨(Callee.builtin Builtin.len), [(Operand.tmp 122)].toArray, #[58]⟩, none, 0⟩,
 ⟨some 124, .move (Operand.const (Value.int IntKind.i64 0)), none, 0⟩])
 (.block 8
 (.loop
 (.seq
 (.ops [⟨some 125, .binOp BinOp.lss 3 (Operand.tmp 124) (Operand.tmp 123) 3, none, 0⟩])
 (.seq
 (.cond (Operand.tmp 125)
 .skip
 (.exit 8))
 (.seq
 (.block 9
 (.seq
 (.ops [⟨some 126, .move (Operand.tmp 124), none, 0⟩,
 ⟨some 127, .indexAddr 58 (Operand.tmp 122) (Operand.tmp 124), none, 0⟩,
 ⟨some 128, .load 23 (Operand.tmp 127), none, 0⟩,
 ⟨some 14, .assign (Operand.tmp 126), none, 0⟩,
 ⟨some 15, .assign (Operand.tmp 128), none, 0⟩])
 (.seq
 (.ops [⟨some 129, .fieldAddr 166 (Operand.tmp 13) 2, none, 0⟩,
 ⟨some 130, .load 39 (Operand.tmp 129), none, 0⟩,
 ⟨some 131, .call ⟨(Callee.value (Operand.func 120)), [(Operand.tmp 130)].toArray, #[39]⟩, none, 0⟩,
 ⟨some 132, .move (Operand.tmp 14), none, 0⟩,
 ⟨some 133, .buildSlice 39 1 [(0, (Operand.tmp 132))].toArray, none, 0⟩,
 ⟨some 134, .call ⟨(Callee.builtin Builtin.append), [(Operand.tmp 131), (Operand.tmp 133)].toArray, #[39, 39]⟩, none, 0⟩,
 ⟨some 16, .assign (Operand.tmp 134), none, 0⟩])
 (.block 10
 (.seq
 (.ops [⟨some 136, .fieldAddr 166 (Operand.tmp 13) 0, none, 0⟩,
 ⟨some 137, .load 23 (Operand.tmp 136), none, 0⟩,
 ⟨some 138, .move (Operand.tmp 15), none, 0⟩,
 ⟨some 139, .call ⟨(Callee.value (Operand.func 83)), [(Operand.tmp 137), (Operand.tmp 138)].toArray, #[23, 23]⟩, none, 0⟩,
 ⟨some 135, .assign (Operand.tmp 139), none, 0⟩])
 (.cond (Operand.tmp 135)
 (.draw [⟨some 140, .move (Operand.tmp 4), none, 0⟩,
 ⟨some 141, .fieldAddr 166 (Operand.tmp 13) 0, none, 0⟩,
 ⟨some 142, .load 23 (Operand.tmp 141), none, 0⟩,
 ⟨some 143, .move (Operand.tmp 15), none, 0⟩,
 ⟨some 144, .call ⟨(Callee.builtin Builtin.len), [(Operand.tmp 143)].toArray, #[23]⟩, none, 0⟩,
 ⟨some 145, .slice 23 (Operand.tmp 142) (some (Operand.tmp 144)) none none, none, 0⟩,
 ⟨some 146, .fieldAddr 166 (Operand.tmp 13) 1, none, 0⟩,
 ⟨some 147, .load 3 (Operand.tmp 146), none, 0⟩,
 ⟨some 148, .move (Operand.tmp 16), none, 0⟩,
 ⟨some 149, .fieldAddr 166 (Operand.tmp 13) 3, none, 0⟩,
 ⟨some 150, .load 39 (Operand.tmp 149), none, 0⟩,
 ⟨some 151, .build 166 [(0, (Operand.tmp 145)), (1, (Operand.tmp 147)), (2, (Operand.tmp 148)), (3, (Operand.tmp 150))].toArray, none, 0⟩,
 ⟨some 152, .buildSlice 164 1 [(0, (Operand.tmp 151))].toArray, none, 0⟩,
 ⟨some 153, .call ⟨(Callee.builtin Builtin.append), [(Operand.tmp 140), (Operand.tmp 152)].toArray, #[164, 164]⟩, none, 1⟩,
 ⟨some 4, .assign (Operand.tmp 153), none, 0⟩] true [13, 14] [])
 (.seq
 (.ops [⟨some 155, .move (Operand.tmp 15), none, 0⟩,
 ⟨some 156, .fieldAddr 166 (Operand.tmp 13) 0, none, 0⟩,
 ⟨some 157, .load 23 (Operand.tmp 156), none, 0⟩,
 ⟨some 158, .call ⟨(Callee.value (Operand.func 83)), [(Operand.tmp 155), (Operand.tmp 157)].toArray, #[23, 23]⟩, none, 0⟩,
 ⟨some 154, .assign (Operand.tmp 158), none, 0⟩])
 (.cond (Operand.tmp 154)
 (.draw [⟨some 159, .move (Operand.tmp 4), none, 0⟩,
 ⟨some 160, .move (Operand.tmp 15), none, 0⟩,
 ⟨some 161, .fieldAddr 166 (Operand.tmp 13) 0, none, 0⟩,
 ⟨some 162, .load 23 (Operand.tmp 161), none, 0⟩,
 ⟨some 163, .call ⟨(Callee.builtin Builtin.len), [(Operand.tmp 162)].toArray, #[23]⟩, none, 0⟩,
 ⟨some 164, .slice 23 (Operand.tmp 160) (some (Operand.tmp 163)) none none, none, 0⟩,
 ⟨some 165, .fieldAddr 166 (Operand.tmp 13) 1, none, 0⟩,
 ⟨some 166, .load 3 (Operand.tmp 165), none, 0⟩,
 ⟨some 167, .move (Operand.tmp 15), none, 0⟩,
 ⟨some 168, .call ⟨(Callee.builtin Builtin.len), [(Operand.tmp 167)].toArray, #[23]⟩, none, 0⟩,
 ⟨some 169, .binOp BinOp.add 3 (Operand.tmp 166) (Operand.tmp 168) 3, none, 0⟩,
 ⟨some 170, .fieldAddr 166 (Operand.tmp 13) 0, none, 0⟩,
 ⟨some 171, .load 23 (Operand.tmp 170), none, 0⟩,
 ⟨some 172, .call ⟨(Callee.builtin Builtin.len), [(Operand.tmp 171)].toArray, #[23]⟩, none, 0⟩,
 ⟨some 173, .binOp BinOp.sub 3 (Operand.tmp 169) (Operand.tmp 172) 3, none, 0⟩,
 ⟨some 174, .fieldAddr 166 (Operand.tmp 13) 3, none, 0⟩,
 ⟨some 175, .load 39 (Operand.tmp 174), none, 0⟩,
 ⟨some 176, .move (Operand.tmp 16), none, 0⟩,
 ⟨some 177, .build 166 [(0, (Operand.tmp 164)), (1, (Operand.tmp 173)), (2, (Operand.tmp 175)), (3, (Operand.tmp 176))].toArray, none, 0⟩,
 ⟨some 178, .buildSlice 164 1 [(0, (Operand.tmp 177))].toArray, none, 0⟩,
 ⟨some 179, .call ⟨(Callee.builtin Builtin.append), [(Operand.tmp 159), (Operand.tmp 178)].toArray, #[164, 164]⟩, none, 1⟩,
 ⟨some 4, .assign (Operand.tmp 179), none, 0⟩] true [20, 21] [])
 .skip))))))))
 (.ops [⟨some 180, .binOp BinOp.add 3 (Operand.tmp 124) (Operand.const (Value.int IntKind.i64 1)) 3, none, 0⟩,
 ⟨some 124, .move (Operand.tmp 180), none, 0⟩]))))))))))))))))))
 (.seq
 (.ops [⟨some 2, .assign (Operand.const (Value.slice none 0 0)), none, 0⟩])
 .ret)))))))
abbrev R69 : List ResultVar := [ResultVar.tmp 2]
theorem ok69 : FnOK Tryz.prog 69 L69 R69 1 := ⟨_, _, Tryz.func69, rfl, by kernel_rfl, by kernel_rfl, by kernel_rfl, by kernel_rfl, Nat.le_of_ble_eq_true (by kernel_rfl), by kernel_rfl⟩

/-- ablaut/ablautref25.Shortest -/
def L70 : LCode :=
 (.seq
 (.ops [⟨some 2, .assign (Operand.const (Value.int IntKind.i64 0)), none, 0⟩])
 (.seq
 (.seq
 (.ops [⟨some 3, .assign (Operand.const (Value.int IntKind.i64 0)), none, 0⟩])
 (.block 0
 (.loop
 (.seq
 (.seq
 (.ops [⟨some 14, .move (Operand.tmp 3), none, 0⟩,
 ⟨some 15, .move (Operand.tmp 0), none, 0⟩,
 ⟨some 16, .call ⟨(Callee.builtin Builtin.len), [(Operand.tmp 15)].toArray, #[58]⟩, none, 0⟩,
 ⟨some 17, .binOp BinOp.lss 3 (Operand.tmp 14) (Operand.tmp 16) 3, none, 0⟩])
 (.cond (Operand.tmp 17)
 .skip
 (.exit 0)))
 (.seq
 (.block 1
 (.seq
 (.ops [⟨some 20, .move (Operand.tmp 0), none, 0⟩,
 ⟨some 21, .move (Operand.tmp 3), none, 0⟩,
 ⟨some 22, .indexAddr 58 (Operand.tmp 20) (Operand.tmp 21), none, 0⟩,
 ⟨some 23, .load 23 (Operand.tmp 22), none, 0⟩,
 ⟨some 24, .call ⟨(Callee.builtin Builtin.len), [(Operand.tmp 23)].toArray, #[23]⟩, none, 0⟩,
 ⟨some 25, .binOp BinOp.eql 3 (Operand.tmp 24) (Operand.const (Value.int IntKind.i64 0)) 3, none, 0⟩])
 (.cond (Operand.tmp 25)
 (.seq
 (.ops [⟨some 2, .assign (Operand.const (Value.int IntKind.i64 0)), none, 0⟩])
 .ret)
 .skip)))
 (.ops [⟨some 18, .move (Operand.tmp 3), none, 0⟩,
 ⟨some 19, .binOp BinOp.add 3 (Operand.tmp 18) (Operand.const (Value.int IntKind.i64 1)) 3, none, 0⟩,
 ⟨some 3, .assign (Operand.tmp 19), none, 0⟩]))))))
 (.seq
 (.ops [⟨some 26, .move (Operand.tmp 0), none, 0⟩,
 ⟨some 27, .build 171 [(0, (Operand.tmp 26))].toArray, none, 0⟩,
 ⟨some 28, .box 171 (Operand.tmp 27), none, 0⟩,
 ⟨some 4, .assign (Operand.tmp 28), none, 0⟩])
 (.seq
 (.seq
 (.ops [⟨some 5, .assign (Operand.const (Value.int IntKind.i64 0)), none, 0⟩])
 (.block 2
 (.loop
 (.seq
 (.seq
 (.ops [⟨some 29, .move (Operand.tmp 5), none, 0⟩,
 ⟨some 30, .move (Operand.tmp 0), none, 0⟩,
 ⟨some 31, .call ⟨(Callee.builtin Builtin.len), [(Operand.tmp 30)].toArray, #[58]⟩, none, 0⟩,
 ⟨some 32, .binOp BinOp.lss 3 (Operand.tmp 29) (Operand.tmp 31) 3, none, 0⟩])
 (.cond (Operand.tmp 32)
 .skip
 (.exit 2)))
 (.seq
 (.block 3
 (.seq
 (.ops [⟨some 6, .assign (Operand.const (Value.int IntKind.i64 0)), none, 0⟩])
 (.block 4
 (.loop
 (.seq
 (.seq
 (.ops [⟨some 35, .move (Operand.tmp 6), none, 0⟩,
 ⟨some 36, .move (Operand.tmp 0), none, 0⟩,
 ⟨some 37, .call ⟨(Callee.builtin Builtin.len), [(Operand.tmp 36)].toArray, #[58]⟩, none, 0⟩,
 ⟨some 38, .binOp BinOp.lss 3 (Operand.tmp 35) (Operand.tmp 37) 3, none, 0⟩])
 (.cond (Operand.tmp 38)
 .skip
 (.exit 4)))
 (.seq
 (.block 5
 (.seq
 (.draw [⟨some 41, .move (Operand.tmp 5), none, 0⟩,
 ⟨some 42, .move (Operand.tmp 6), none, 0⟩,
 ⟨some 43, .binOp BinOp.neq 3 (Operand.tmp 41) (Operand.tmp 42) 3, none, 0⟩,
 ⟨some 44, .move (Operand.tmp 43), none, 0⟩,
 ⟨some 45, .move (Operand.tmp 0), some (44, true), 0⟩,
 ⟨some 46, .move (Operand.tmp 6), some (44, true), 0⟩,
 ⟨some 47, .indexAddr 58 (Operand.tmp 45) (Operand.tmp 46), some (44, true), 0⟩,
 ⟨some 48, .load 23 (Operand.tmp 47), some (44, true), 0⟩,
 ⟨some 49, .move (Operand.tmp 0), some (44, true), 0⟩,
 ⟨some 50, .move (Operand.tmp 5), some (44, true), 0⟩,
 ⟨some 51, .indexAddr 58 (Operand.tmp 49) (Operand.tmp 50), some (44, true), 0⟩,
 ⟨some 52, .load 23 (Operand.tmp 51), some (44, true), 0⟩,
 ⟨some 53, .call ⟨(Callee.value (Operand.func 65)), [(Operand.tmp 48), (Operand.tmp 52)].toArray, #[23, 23]⟩, some (44, true), 0⟩,
 ⟨some 54, .pick (Operand.tmp 44) (Operand.tmp 53) (Operand.const (Value.bool false)), none, 0⟩] true [12, 13] [0, 1, 2, 3, 4, 5, 6, 8, 9, 10, 7, 11, 12, 13])
 (.cond (Operand.tmp 54)
 (.draw [⟨some 55, .move (Operand.tmp 4), none, 0⟩,
 ⟨some 56, .move (Operand.tmp 0), none, 0⟩,
 ⟨some 57, .move (Operand.tmp 6), none, 0⟩,
 ⟨some 58, .indexAddr 58 (Operand.tmp 56) (Operand.tmp 57), none, 0⟩,
 ⟨some 59, .load 23 (Operand.tmp 58), none, 0⟩,
 ⟨some 60, .move (Operand.tmp 0), none, 0⟩,
 ⟨some 61, .move (Operand.tmp 5), none, 0⟩,
 ⟨some 62, .indexAddr 58 (Operand.tmp 60) (Operand.tmp 61), none, 0⟩,
 ⟨some 63, .load 23 (Operand.tmp 62), none, 0⟩,
 ⟨some 64, .call ⟨(Callee.builtin Builtin.len), [(Operand.tmp 63)].toArray, #[23]⟩, none, 0⟩,
 ⟨some 65, .slice 23 (Operand.tmp 59) (some (Operand.tmp 64)) none none, none, 0⟩,
 ⟨some 66, .move (Operand.tmp 0), none, 0⟩,
 ⟨some 67, .move (Operand.tmp 6), none, 0⟩,
 ⟨some 68, .indexAddr 58 (Operand.tmp 66) (Operand.tmp 67), none, 0⟩,
 ⟨some 69, .load 23 (Operand.tmp 68), none, 0⟩,
 ⟨some 70, .call ⟨(Callee.builtin Builtin.len), [(Operand.tmp 69)].toArray, #[23]⟩, none, 0⟩,
 ⟨some 71, .call ⟨(Callee.value (Operand.func 121)), [(Operand.tmp 55), (Operand.tmp 65), (Operand.tmp 70)].toArray, #[169, 23, 3]⟩, none, 0⟩] true [16] [])
 .skip)))
 (.ops [⟨some 39, .move (Operand.tmp 6), none, 0⟩,
 ⟨some 40, .binOp BinOp.add 3 (Operand.tmp 39) (Operand.const (Value.int IntKind.i64 1)) 3, none, 0⟩,
 ⟨some 6, .assign (Operand.tmp 40), none, 0⟩])))))))
 (.ops [⟨some 33, .move (Operand.tmp 5), none, 0⟩,
 ⟨some 34, .binOp BinOp.add 3 (Operand.tmp 33) (Operand.const (Value.int IntKind.i64 1)) 3, none, 0⟩,
 ⟨some 5, .assign (Operand.tmp 34), none, 0⟩]))))))
 (.seq
 (.seq
 (.ops [⟨some 7, .assign (Operand.const (Value.bool true)), none, 0⟩])
 (.block 6
 (.loop
 (.seq
 (.seq
 (.ops [⟨some 72, .move (Operand.tmp 7), none, 0⟩])
 (.cond (Operand.tmp 72)
 .skip
 (.exit 6)))
 (.block 7
 (.seq
 (.ops [⟨some 7, .assign (Operand.const (Value.bool false)), none, 0⟩])
 (.seq
 (.ops [⟨some 8, .assign (Operand.const (Value.int IntKind.i64 0)), none, 0⟩])
 (.block 8
 (.loop
 (.seq
 (.seq
 (.ops [⟨some 73, .move (Operand.tmp 8), none, 0⟩,
 ⟨some 74, .move (Operand.tmp 4), none, 0⟩,
 ⟨some 75, .nilCheck (Operand.tmp 74), none, 0⟩,
 ⟨some 76, .fieldAddr 171 (Operand.tmp 75) 1, none, 0⟩,
 ⟨some 77, .load 58 (Operand.tmp 76), none, 0⟩,
 ⟨some 78, .call ⟨(Callee.builtin Builtin.len), [(Operand.tmp 77)].toArray, #[58]⟩, none, 0⟩,
 ⟨some 79, .binOp BinOp.lss 3 (Operand.tmp 73) (Operand.tmp 78) 3, none, 0⟩])
 (.cond (Operand.tmp 79)
 .skip
 (.exit 8)))
 (.seq
 (.block 9
 (.seq
 (.draw [⟨some 82, .move (Operand.tmp 4), none, 0⟩,
 ⟨some 83, .nilCheck (Operand.tmp 82), none, 0⟩,
 ⟨some 84, .fieldAddr 171 (Operand.tmp 83) 1, none, 0⟩,
 ⟨some 85, .load 58 (Operand.tmp 84), none, 0⟩,
 ⟨some 86, .move (Operand.tmp 8), none, 0⟩,
 ⟨some 87, .indexAddr 58 (Operand.tmp 85) (Operand.tmp 86), none, 0⟩,
 ⟨some 88, .load 23 (Operand.tmp 87), none, 0⟩,
 ⟨some 89, .move (Operand.tmp 4), none, 0⟩,
 ⟨some 90, .nilCheck (Operand.tmp 89), none, 0⟩,
 ⟨some 91, .fieldAddr 171 (Operand.tmp 90) 2, none, 0⟩,
 ⟨some 92, .load 39 (Operand.tmp 91), none, 0⟩,
 ⟨some 93, .move (Operand.tmp 8), none, 0⟩,
 ⟨some 94, .indexAddr 39 (Operand.tmp 92) (Operand.tmp 93), none, 0⟩,
 ⟨some 95, .load 3 (Operand.tmp 94), none, 0⟩,
 ⟨some 9, .assign (Operand.tmp 88), none, 0⟩,
 ⟨some 10, .assign (Operand.tmp 95), none, 0⟩] true [15] [0, 1, 2, 4, 7, 8, 9, 11, 3, 5, 6, 10, 12, 13, 14, 15])
 (.seq
 (.ops [⟨some 11, .assign (Operand.const (Value.int IntKind.i64 0)), none, 0⟩])
 (.block 10
 (.loop
 (.seq
 (.seq
 (.ops [⟨some 96, .move (Operand.tmp 11), none, 0⟩,
 ⟨some 97, .move (Operand.tmp 0), none, 0⟩,
 ⟨some 98, .call ⟨(Callee.builtin Builtin.len), [(Operand.tmp 97)].toArray, #[58]⟩, none, 0⟩,
 ⟨some 99, .binOp BinOp.lss 3 (Operand.tmp 96) (Operand.tmp 98) 3, none, 0⟩,
 ⟨some 100, .move (Operand.tmp 99), none, 0⟩,
 ⟨some 101, .move (Operand.tmp 9), some (100, true), 0⟩,
 ⟨some 102, .call ⟨(Callee.builtin Builtin.len), [(Operand.tmp 101)].toArray, #[23]⟩, some (100, true), 0⟩,
 ⟨some 103, .binOp BinOp.gtr 3 (Operand.tmp 102) (Operand.const (Value.int IntKind.i64 0)) 3, some (100, true), 0⟩,
 ⟨some 104, .pick (Operand.tmp 100) (Operand.tmp 103) (Operand.const (Value.bool false)), none, 0⟩])
 (.cond (Operand.tmp 104)
 .skip
 (.exit 10)))
 (.seq
 (.block 11
 (.seq
 (.ops [⟨some 107, .move (Operand.tmp 0), none, 0⟩,
 ⟨some 108, .move (Operand.tmp 11), none, 0⟩,
 ⟨some 109, .indexAddr 58 (Operand.tmp 107) (Operand.tmp 108), none, 0⟩,
 ⟨some 110, .load 23 (Operand.tmp 109), none, 0⟩,
 ⟨some 12, .assign (Operand.tmp 110), none, 0⟩])
 (.block 12
 (.seq
 (.ops [⟨some 112, .move (Operand.tmp 12), none, 0⟩,
 ⟨some 113, .move (Operand.tmp 9), none, 0⟩,
 ⟨some 114, .call ⟨(Callee.value (Operand.func 65)), [(Operand.tmp 112), (Operand.tmp 113)].toArray, #[23, 23]⟩, none, 0⟩,
 ⟨some 111, .assign (Operand.tmp 114), none, 0⟩])
 (.cond (Operand.tmp 111)
 (.ops [⟨some 115, .move (Operand.tmp 4), none, 0⟩,
 ⟨some 116, .move (Operand.tmp 12), none, 0⟩,
 ⟨some 117, .move (Operand.tmp 9), none, 0⟩,
 ⟨some 118, .call ⟨(Callee.builtin Builtin.len), [(Operand.tmp 117)].toArray, #[23]⟩, none, 0⟩,
 ⟨some 119, .slice 23 (Operand.tmp 116) (some (Operand.tmp 118)) none none, none, 0⟩,
 ⟨some 120, .move (Operand.tmp 10), none, 0⟩,
 ⟨some 121, .move (Operand.tmp 12), none, 0⟩,
 ⟨some 122, .call ⟨(Callee.builtin Builtin.len), [(Operand.tmp 121)].toArray, #[23]⟩, none, 0⟩,
 ⟨some 123, .binOp BinOp.add 3 (Operand.tmp 120) (Operand.tmp 122) 3, none, 0⟩,
 ⟨some 124, .move (Operand.tmp 9), none, 0⟩,
 ⟨some 125, .call ⟨(Callee.builtin Builtin.len), [(Operand.tmp 124)].toArray, #[23]⟩, none, 0⟩,
 ⟨some 126, .binOp BinOp.sub 3 (Operand.tmp 123) (Operand.tmp 125) 3, none, 0⟩,
 ⟨some 127, .call ⟨(Callee.value (Operand.func 121)), [(Operand.tmp 115), (Operand.tmp 119), (Operand.tmp 126)].toArray, #[169, 23, 3]⟩, none, 0⟩,
 ⟨some 128, .move (Operand.tmp 127), none, 0⟩,
 ⟨some 129, .move (Operand.tmp 7), some (128, false), 0⟩,
 ⟨some 130, .pick (Operand.tmp 128) (Operand.const (Value.bool true)) (Operand.tmp 129), none, 0⟩,
 ⟨some 7, .assign (Operand.tmp 130), none, 0⟩])
 (.seq
 (.ops [⟨some 132, .move (Operand.tmp 9), none, 0⟩,
 ⟨some 133, .move (Operand.tmp 12), none, 0⟩,
 ⟨some 134, .call ⟨(Callee.value (Operand.func 65)), [(Operand.tmp 132), (Operand.tmp 133)].toArray, #[23, 23]⟩, none, 0⟩,
 ⟨some 131, .assign (Operand.tmp 134), none, 0⟩])
 (.cond (Operand.tmp 131)
 (.ops [⟨some 135, .move (Operand.tmp 4), none, 0⟩,
 ⟨some 136, .move (Operand.tmp 9), none, 0⟩,
 ⟨some 137, .move (Operand.tmp 12), none, 0⟩,
 ⟨some 138, .call ⟨(Callee.builtin Builtin.len), [(Operand.tmp 137)].toArray, #[23]⟩, none, 0⟩,
 ⟨some 139, .slice 23 (Operand.tmp 136) (some (Operand.tmp 138)) none none, none, 0⟩,
 ⟨some 140, .move (Operand.tmp 10), none, 0⟩,
 ⟨some 141, .call ⟨(Callee.value (Operand.func 121)), [(Operand.tmp 135), (Operand.tmp 139), (Operand.tmp 140)].toArray, #[169, 23, 3]⟩, none, 0⟩,
 ⟨some 142, .move (Operand.tmp 141), none, 0⟩,
 ⟨some 143, .move (Operand.tmp 7), some (142, false), 0⟩,
 ⟨some 144, .pick (Operand.tmp 142) (Operand.const (Value.bool true)) (Operand.tmp 143), none, 0⟩,
 ⟨some 7, .assign (Operand.tmp 144), none, 0⟩])
 .skip)))))))
 (.ops [⟨some 105, .move (Operand.tmp 11), none, 0⟩,
 ⟨some 106, .binOp BinOp.add 3 (Operand.tmp 105) (Operand.const (Value.int IntKind.i64 1)) 3, none, 0⟩,
 ⟨some 11, .assign (Operand.tmp 106), none, 0⟩]))))))))
 (.ops [⟨some 80, .move (Operand.tmp 8), none, 0⟩,
 ⟨some 81, .binOp BinOp.add 3 (Operand.tmp 80) (Operand.const (Value.int IntKind.i64 1)) 3, none, 0⟩,
 ⟨some 8, .assign (Operand.tmp 81), none, 0⟩]))))))))))))
 (.seq
 (.seq
 (.ops [⟨some 13, .assign (Operand.const (Value.int IntKind.i64 0)), none, 0⟩])
 (.block 13
 (.loop
 (.seq
 (.seq
 (.ops [⟨some 145, .move (Operand.tmp 13), none, 0⟩,
 ⟨some 146, .move (Operand.tmp 4), none, 0⟩,
 ⟨some 147, .nilCheck (Operand.tmp 146), none, 0⟩,
 ⟨some 148, .fieldAddr 171 (Operand.tmp 147) 1, none, 0⟩,
 ⟨some 149, .load 58 (Operand.tmp 148), none, 0⟩,
 ⟨some 150, .call ⟨(Callee.builtin Builtin.len), [(Operand.tmp 149)].toArray, #[58]⟩, none, 0⟩,
 ⟨some 151, .binOp BinOp.lss 3 (Operand.tmp 145) (Operand.tmp 150) 3, none, 0⟩])
 (.cond (Operand.tmp 151)
 .skip
 (.exit 13)))
 (.seq
 (.block 14
 (.seq
 (.ops [⟨some 154, .move (Operand.tmp 4), none, 0⟩,
 ⟨some 155, .nilCheck (Operand.tmp 154), none, 0⟩,
 ⟨some 156, .fieldAddr 171 (Operand.tmp 155) 1, none, 0⟩,
 ⟨some 157, .load 58 (Operand.tmp 156), none, 0⟩,
 ⟨some 158, .move (Operand.tmp 13), none, 0⟩,
 ⟨some 159, .indexAddr 58 (Operand.tmp 157) (Operand.tmp 158), none, 0⟩,
 ⟨some 160, .load 23 (Operand.tmp 159), none, 0⟩,
 ⟨some 161, .call ⟨(Callee.builtin Builtin.len), [(Operand.tmp 160)].toArray, #[23]⟩, none, 0⟩,
 ⟨some 162, .binOp BinOp.eql 3 (Operand.tmp 161) (Operand.const (Value.int IntKind.i64 0)) 3, none, 0⟩])
 (.cond (Operand.tmp 162)
 (.seq
 (.ops [⟨some 163, .move (Operand.tmp 4), none, 0⟩,
 ⟨some 164, .nilCheck (Operand.tmp 163), none, 0⟩,
 ⟨some 165, .fieldAddr 171 (Operand.tmp 164) 2, none, 0⟩,
 ⟨some 166, .load 39 (Operand.tmp 165), none, 0⟩,
 ⟨some 167, .move (Operand.tmp 13), none, 0⟩,
 ⟨some 168, .indexAddr 39 (Operand.tmp 166) (Operand.tmp 167), none, 0⟩,
 ⟨some 169, .load 3 (Operand.tmp 168), none, 0⟩,
 ⟨some 2, .assign (Operand.tmp 169), none, 0⟩])
 .ret)
 .skip)))
 (.ops [⟨some 152, .move (Operand.tmp 13), none, 0⟩,
 ⟨some 153, .binOp BinOp.add 3 (Operand.tmp 152) (Operand.const (Value.int IntKind.i64 1)) 3, none, 0⟩,
 ⟨some 13, .assign (Operand.tmp 153), none, 0⟩]))))))
 (.seq
 (.ops [⟨some 2, .assign (Operand.const (Value.int IntKind.i64 (-1))), none, 0⟩])
 .ret)))))))
abbrev R70 : List ResultVar := [ResultVar.tmp 2]
theorem ok70 : FnOK Tryz.prog 70 L70 R70 1 := ⟨_, _, Tryz.func70, rfl, by kernel_rfl, by kernel_rfl, by kernel_rfl, by kernel_rfl, Nat.le_of_ble_eq_true (by kernel_rfl), by kernel_rfl⟩

/-- strings.Split -/
def L75 : LCode :=
 (.seq
 (.ops [⟨some 4, .assign (Operand.const (Value.slice none 0 0)), none, 0⟩])
 (.seq
 (.ops [⟨some 5, .move (Operand.tmp 0), none, 0⟩,
 ⟨some 6, .move (Operand.tmp 1), none, 0⟩,
 ⟨some 7, .call ⟨(Callee.value (Operand.func 127)), [(Operand.tmp 5), (Operand.tmp 6), (Operand.const (Value.int IntKind.i64 0)), (Operand.const (Value.int IntKind.i64 (-1)))].toArray, #[9, 9, 3, 3]⟩, none, 0⟩,
 ⟨some 4, .assign (Operand.tmp 7), none, 0⟩])
 .ret))
abbrev R75 : List ResultVar := [ResultVar.tmp 4]
theorem ok75 : FnOK Tryz.prog 75 L75 R75 2 := ⟨_, _, Tryz.func75, rfl, by kernel_rfl, by kernel_rfl, by kernel_rfl, by kernel_rfl, Nat.le_of_ble_eq_true (by kernel_rfl), by kernel_rfl⟩

/-- slices.ContainsFunc[[]ablaut/api.Shift,ablaut/api.Shift] -/
def L77 : LCode :=
 (.seq
 (.ops [⟨some 4, .assign (Operand.const (Value.bool false)), none, 0⟩])
 (.seq
 (.ops [⟨some 5, .move (Operand.tmp 0), none, 0⟩,
 ⟨some 6, .move (Operand.tmp 1), none, 0⟩,
 ⟨some 7, .call ⟨(Callee.value (Operand.func 129)), [(Operand.tmp 5), (Operand.tmp 6)].toArray, #[22, 114]⟩, none, 0⟩,
 ⟨some 8, .binOp BinOp.geq 3 (Operand.tmp 7) (Operand.const (Value.int IntKind.i64 0)) 3, none, 0⟩,
 ⟨some 4, .assign (Operand.tmp 8), none, 0⟩])
 .ret))
abbrev R77 : List ResultVar := [ResultVar.tmp 4]
theorem ok77 : FnOK Tryz.prog 77 L77 R77 2 := ⟨_, _, Tryz.func77, rfl, by kernel_rfl, by kernel_rfl, by kernel_rfl, by kernel_rfl, Nat.le_of_ble_eq_true (by kernel_rfl), by kernel_rfl⟩

/-- slices.Equal[[]string,string] -/
def L79 : LCode :=
 (.seq
 (.ops [⟨some 4, .assign (Operand.const (Value.bool false)), none, 0⟩])
 (.seq
 (.seq
 (.ops [⟨some 6, .move (Operand.tmp 0), none, 0⟩,
 ⟨some 7, .call ⟨(Callee.builtin Builtin.len), [(Operand.tmp 6)].toArray, #[23]⟩, none, 0⟩,
 ⟨some 8, .move (Operand.tmp 1), none, 0⟩,
 ⟨some 9, .call ⟨(Callee.builtin Builtin.len), [(Operand.tmp 8)].toArray, #[23]⟩, none, 0⟩,
 ⟨some 10, .binOp BinOp.neq 3 (Operand.tmp 7) (Operand.tmp 9) 3, none, 0⟩])
 (.cond (Operand.tmp 10)
 (.seq
 (.ops [⟨some 4, .assign (Operand.const (Value.bool false)), none, 0⟩])
 .ret)
 .skip))
 (.seq
 (.seq
 (.ops [⟨some 11, .move (Operand.tmp 0), none, 0⟩,
 ⟨some 12, .call ⟨(Callee.builtin Builtin.len), [(Operand.tmp 11)].toArray, #[23]⟩, none, 0⟩,
 ⟨some 13, .move (Operand.const (Value.int IntKind.i64 0)), none, 0⟩])
 (.block 0
 (.loop
 (.seq
 (.ops [⟨some 14, .binOp BinOp.lss 3 (Operand.tmp 13) (Operand.tmp 12) 3, none, 0⟩])
 (.seq
 (.cond (Operand.tmp 14)
 .skip
 (.exit 0))
 (.seq
 (.block 1
 (.seq
 (.ops [⟨some 15, .move (Operand.tmp 13), none, 0⟩,
 ⟨some 5, .assign (Operand.tmp 15), none, 0⟩])
 (.seq
 (.draw [⟨some 16, .move (Operand.tmp 0), none, 0⟩,
 ⟨some 17, .move (Operand.tmp 5), none, 0⟩,
 ⟨some 18, .indexAddr 23 (Operand.tmp 16) (Operand.tmp 17), none, 0⟩,
 ⟨some 19, .load 9 (Operand.tmp 18), none, 0⟩,
 ⟨some 20, .move (Operand.tmp 1), none, 0⟩,
 ⟨some 21, .move (Operand.tmp 5), none, 0⟩,
 ⟨some 22, .indexAddr 23 (Operand.tmp 20) (Operand.tmp 21), none, 0⟩,
 ⟨some 23, .load 9 (Operand.tmp 22), none, 0⟩,
 ⟨some 24, .binOp BinOp.neq 9 (Operand.tmp 19) (Operand.tmp 23) 9, none, 0⟩] true [8] [0, 1, 2, 4, 5, 6, 3, 7, 8])
 (.cond (Operand.tmp 24)
 (.seq
 (.ops [⟨some 4, .assign (Operand.const (Value.bool false)), none, 0⟩])
 .ret)
 .skip))))
 (.ops [⟨some 25, .binOp BinOp.add 3 (Operand.tmp 13) (Operand.const (Value.int IntKind.i64 1)) 3, none, 0⟩,
 ⟨some 13, .move (Operand.tmp 25), none, 0⟩])))))))
 (.seq
 (.ops [⟨some 4, .assign (Operand.const (Value.bool true)), none, 0⟩])
 .ret))))
abbrev R79 : List ResultVar := [ResultVar.tmp 4]
theorem ok79 : FnOK Tryz.prog 79 L79 R79 2 := ⟨_, _, Tryz.func79, rfl, by kernel_rfl, by kernel_rfl, by kernel_rfl, by kernel_rfl, Nat.le_of_ble_eq_true (by kernel_rfl), by kernel_rfl⟩

/-- ablaut/script.checked -/
def L81 : LCode :=
 (.seq
 (.ops [⟨some 4, .assign (Operand.const (Value.int IntKind.i64 0)), none, 0⟩])
 (.seq
 (.seq
 (.ops [⟨some 6, .move (Operand.tmp 0), none, 0⟩,
 ⟨some 7, .call ⟨(Callee.value (Operand.func 35)), [(Operand.tmp 6)].toArray, #[22]⟩, none, 0⟩,
 ⟨some 5, .assign (Operand.tmp 7), none, 0⟩])
 (.seq
 (.ops [⟨some 8, .move (Operand.tmp 5), none, 0⟩,
 ⟨some 9, .binOp BinOp.neq 32 (Operand.tmp 8) (Operand.const (Value.int IntKind.i64 0)) 32, none, 0⟩])
 (.cond (Operand.tmp 9)
 (.seq
 (.ops [⟨some 10, .move (Operand.tmp 5), none, 0⟩,
 ⟨some 4, .assign (Operand.tmp 10), none, 0⟩])
 .ret)
 .skip)))
 (.seq
 (.ops [⟨some 11, .move (Operand.tmp 1), none, 0⟩,
 ⟨some 12, .call ⟨(Callee.value (Operand.func 91)), [(Operand.tmp 11)].toArray, #[23]⟩, none, 0⟩,
 ⟨some 4, .assign (Operand.tmp 12), none, 0⟩])
 .ret)))
abbrev R81 : List ResultVar := [ResultVar.tmp 4]
theorem ok81 : FnOK Tryz.prog 81 L81 R81 2 := ⟨_, _, Tryz.func81, rfl, by kernel_rfl, by kernel_rfl, by kernel_rfl, by kernel_rfl, Nat.le_of_ble_eq_true (by kernel_rfl), by kernel_rfl⟩

/-- ablaut/script.begins -/
def L83 : LCode :=
 (.seq
 (.ops [⟨some 4, .assign (Operand.const (Value.bool false)), none, 0⟩])
 (.seq
 (.ops [⟨some 5, .move (Operand.tmp 0), none, 0⟩,
 ⟨some 6, .call ⟨(Callee.builtin Builtin.len), [(Operand.tmp 5)].toArray, #[23]⟩, none, 0⟩,
 ⟨some 7, .move (Operand.tmp 1), none, 0⟩,
 ⟨some 8, .call ⟨(Callee.builtin Builtin.len), [(Operand.tmp 7)].toArray, #[23]⟩, none, 0⟩,
 ⟨some 9, .binOp BinOp.geq 3 (Operand.tmp 6) (Operand.tmp 8) 3, none, 0⟩,
 ⟨some 10, .move (Operand.tmp 9), none, 0⟩,
 ⟨some 11, .move (Operand.tmp 0), some (10, true), 0⟩,
 ⟨some 12, .move (Operand.tmp 1), some (10, true), 0⟩,
 ⟨some 13, .call ⟨(Callee.builtin Builtin.len), [(Operand.tmp 12)].toArray, #[23]⟩, some (10, true), 0⟩,
 ⟨some 14, .slice 23 (Operand.tmp 11) none (some (Operand.tmp 13)) none, some (10, true), 0⟩,
 ⟨some 15, .move (Operand.tmp 1), some (10, true), 0⟩,
 ⟨some 16, .call ⟨(Callee.value (Operand.func 79)), [(Operand.tmp 14), (Operand.tmp 15)].toArray, #[23, 23]⟩, some (10, true), 0⟩,
 ⟨some 17, .pick (Operand.tmp 10) (Operand.tmp 16) (Operand.const (Value.bool false)), none, 0⟩,
 ⟨some 4, .assign (Operand.tmp 17), none, 0⟩])
 .ret))
abbrev R83 : List ResultVar := [ResultVar.tmp 4]
theorem ok83 : FnOK Tryz.prog 83 L83 R83 2 := ⟨_, _, Tryz.func83, rfl, by kernel_rfl, by kernel_rfl, by kernel_rfl, by kernel_rfl, Nat.le_of_ble_eq_true (by kernel_rfl), by kernel_rfl⟩

/-- ablaut/syms.ValidateWord -/
def L91 : LCode :=
 (.seq
 (.ops [⟨some 2, .assign (Operand.const (Value.int IntKind.i64 0)), none, 0⟩])
 (.seq
 (.block 0
 (.seq
 (.ops [⟨some 4, .move (Operand.tmp 0), none, 0⟩,
 ⟨some 5, .call ⟨(Callee.builtin Builtin.len), [(Operand.tmp 4)].toArray, #[23]⟩, none, 0⟩,
 ⟨some 6, .binOp BinOp.gtr 3 (Operand.tmp 5) (Operand.const (Value.int IntKind.i64 60)) 3, none, 0⟩,
 ⟨some 7, .move (Operand.tmp 6), none, 0⟩,
 ⟨some 8, .move (Operand.tmp 0), some (7, false), 0⟩,
 ⟨some 9, .call ⟨(Callee.value (Operand.func 92)), [(Operand.tmp 8), (Operand.func 93)].toArray, #[23, 130]⟩, some (7, false), 0⟩,
 ⟨some 10, .pick (Operand.tmp 7) (Operand.const (Value.bool true)) (Operand.tmp 9), none, 0⟩,
 ⟨some 3, .assign (Operand.tmp 10), none, 0⟩])
 (.cond (Operand.tmp 3)
 (.seq
 (.ops [⟨some 2, .assign (Operand.const (Value.int IntKind.i64 3)), none, 0⟩])
 .ret)
 (.seq
 (.ops [⟨some 12, .move (Operand.tmp 0), none, 0⟩,
 ⟨some 13, .call ⟨(Callee.value (Operand.func 92)), [(Operand.tmp 12), (Operand.func 141)].toArray, #[23, 130]⟩, none, 0⟩,
 ⟨some 11, .assign (Operand.tmp 13), none, 0⟩])
 (.cond (Operand.tmp 11)
 (.seq
 (.ops [⟨some 2, .assign (Operand.const (Value.int IntKind.i64 1)), none, 0⟩])
 .ret)
 .skip)))))
 (.seq
 (.ops [⟨some 2, .assign (Operand.const (Value.int IntKind.i64 0)), none, 0⟩])
 .ret)))
abbrev R91 : List ResultVar := [ResultVar.tmp 2]
theorem ok91 : FnOK Tryz.prog 91 L91 R91 1 := ⟨_, _, Tryz.func91, rfl, by kernel_rfl, by kernel_rfl, by kernel_rfl, by kernel_rfl, Nat.le_of_ble_eq_true (by kernel_rfl), by kernel_rfl⟩

/-- slices.ContainsFunc[[]string,string] -/
def L92 : LCode :=
 (.seq
 (.ops [⟨some 4, .assign (Operand.const (Value.bool false)), none, 0⟩])
 (.seq
 (.ops [⟨some 5, .move (Operand.tmp 0), none, 0⟩,
 ⟨some 6, .move (Operand.tmp 1), none, 0⟩,
 ⟨some 7, .call ⟨(Callee.value (Operand.func 142)), [(Operand.tmp 5), (Operand.tmp 6)].toArray, #[23, 130]⟩, none, 0⟩,
 ⟨some 8, .binOp BinOp.geq 3 (Operand.tmp 7) (Operand.const (Value.int IntKind.i64 0)) 3, none, 0⟩,
 ⟨some 4, .assign (Operand.tmp 8), none, 0⟩])
 .ret))
abbrev R92 : List ResultVar := [ResultVar.tmp 4]
theorem ok92 : FnOK Tryz.prog 92 L92 R92 2 := ⟨_, _, Tryz.func92, rfl, by kernel_rfl, by kernel_rfl, by kernel_rfl, by kernel_rfl, Nat.le_of_ble_eq_true (by kernel_rfl), by kernel_rfl⟩

/-- ablaut/syms.isLong -/
def L93 : LCode :=
 (.seq
 (.ops [⟨some 2, .assign (Operand.const (Value.bool false)), none, 0⟩])
 (.seq
 (.ops [⟨some 3, .move (Operand.tmp 0), none, 0⟩,
 ⟨some 4, .call ⟨(Callee.builtin Builtin.len), [(Operand.tmp 3)].toArray, #[9]⟩, none, 0⟩,
 ⟨some 5, .binOp BinOp.gtr 3 (Operand.tmp 4) (Operand.const (Value.int IntKind.i64 16)) 3, none, 0⟩,
 ⟨some 2, .assign (Operand.tmp 5), none, 0⟩])
 .ret))
abbrev R93 : List ResultVar := [ResultVar.tmp 2]
theorem ok93 : FnOK Tryz.prog 93 L93 R93 1 := ⟨_, _, Tryz.func93, rfl, by kernel_rfl, by kernel_rfl, by kernel_rfl, by kernel_rfl, Nat.le_of_ble_eq_true (by kernel_rfl), by kernel_rfl⟩

/-- ablaut/syms.isSymbol -/
def L94 : LCode :=
 (.seq
 (.ops [⟨some 2, .assign (Operand.const (Value.bool false)), none, 0⟩])
 (.seq
 (.seq
 (.ops [⟨some 4, .move (Operand.tmp 0), none, 0⟩,
 ⟨some 5, .call ⟨(Callee.builtin Builtin.len), [(Operand.tmp 4)].toArray, #[9]⟩, none, 0⟩,
 ⟨some 6, .move (Operand.const (Value.int IntKind.i64 0)), none, 0⟩])
 (.block 0
 (.loop
 (.seq
 (.ops [⟨some 7, .binOp BinOp.lss 3 (Operand.tmp 6) (Operand.tmp 5) 3, none, 0⟩])
 (.seq
 (.cond (Operand.tmp 7)
 .skip
 (.exit 0))
 (.seq
 (.block 1
 (.seq
 (.ops [⟨some 8, .move (Operand.tmp 6), none, 0⟩,
 ⟨some 3, .assign (Operand.tmp 8), none, 0⟩])
 (.seq
 (.ops [⟨some 9, .move (Operand.tmp 0), none, 0⟩,
 ⟨some 10, .move (Operand.tmp 3), none, 0⟩,
 ⟨some 11, .index 9 (Operand.tmp 9) (Operand.tmp 10), none, 0⟩,
 ⟨some 12, .binOp BinOp.lss 5 (Operand.tmp 11) (Operand.const (Value.int IntKind.u8 33)) 5, none, 0⟩,
 ⟨some 13, .move (Operand.tmp 12), none, 0⟩,
 ⟨some 14, .move (Operand.tmp 0), some (13, false), 0⟩,
 ⟨some 15, .move (Operand.tmp 3), some (13, false), 0⟩,
 ⟨some 16, .index 9 (Operand.tmp 14) (Operand.tmp 15), some (13, false), 0⟩,
 ⟨some 17, .binOp BinOp.gtr 5 (Operand.tmp 16) (Operand.const (Value.int IntKind.u8 126)) 5, some (13, false), 0⟩,
 ⟨some 18, .pick (Operand.tmp 13) (Operand.const (Value.bool true)) (Operand.tmp 17), none, 0⟩,
 ⟨some 19, .move (Operand.tmp 18), none, 0⟩,
 ⟨some 20, .move (Operand.tmp 0), some (19, false), 0⟩,
 ⟨some 21, .move (Operand.tmp 3), some (19, false), 0⟩,
 ⟨some 22, .index 9 (Operand.tmp 20) (Operand.tmp 21), some (19, false), 0⟩,
 ⟨some 23, .binOp BinOp.eql 5 (Operand.tmp 22) (Operand.const (Value.int IntKind.u8 60)) 5, some (19, false), 0⟩,
 ⟨some 24, .pick (Operand.tmp 19) (Operand.const (Value.bool true)) (Operand.tmp 23), none, 0⟩,
 ⟨some 25, .move (Operand.tmp 24), none, 0⟩,
 ⟨some 26, .move (Operand.tmp 0), some (25, false), 0⟩,
 ⟨some 27, .move (Operand.tmp 3), some (25, false), 0⟩,
 ⟨some 28, .index 9 (Operand.tmp 26) (Operand.tmp 27), some (25, false), 0⟩,
 ⟨some 29, .binOp BinOp.eql 5 (Operand.tmp 28) (Operand.const (Value.int IntKind.u8 62)) 5, some (25, false), 0⟩,
 ⟨some 30, .pick (Operand.tmp 25) (Operand.const (Value.bool true)) (Operand.tmp 29), none, 0⟩])
 (.cond (Operand.tmp 30)
 (.seq
 (.ops [⟨some 2, .assign (Operand.const (Value.bool false)), none, 0⟩])
 .ret)
 .skip))))
 (.ops [⟨some 31, .binOp BinOp.add 3 (Operand.tmp 6) (Operand.const (Value.int IntKind.i64 1)) 3, none, 0⟩,
 ⟨some 6, .move (Operand.tmp 31), none, 0⟩])))))))
 (.seq
 (.ops [⟨some 32, .move (Operand.tmp 0), none, 0⟩,
 ⟨some 33, .binOp BinOp.neq 9 (Operand.tmp 32) (Operand.const (Value.string ⟨#[]⟩)) 9, none, 0⟩,
 ⟨some 2, .assign (Operand.tmp 33), none, 0⟩])
 .ret)))
abbrev R94 : List ResultVar := [ResultVar.tmp 2]
theorem ok94 : FnOK Tryz.prog 94 L94 R94 1 := ⟨_, _, Tryz.func94, rfl, by kernel_rfl, by kernel_rfl, by kernel_rfl, by kernel_rfl, Nat.le_of_ble_eq_true (by kernel_rfl), by kernel_rfl⟩

/-- ablaut/script.step -/
def L96 : LCode :=
 (.seq
 (.ops [⟨some 4, .assign (Operand.const (Value.slice none 0 0)), none, 0⟩,
 ⟨some 5, .assign (Operand.const (Value.int IntKind.i64 0)), none, 0⟩,
 ⟨some 6, .assign (Operand.const (Value.int IntKind.i64 0)), none, 0⟩])
 (.seq
 (.ops [⟨some 8, .move (Operand.tmp 0), none, 0⟩,
 ⟨some 9, .move (Operand.tmp 1), none, 0⟩,
 ⟨some 10, .call ⟨(Callee.value (Operand.func 144)), [(Operand.tmp 8), (Operand.tmp 9)].toArray, #[22, 23]⟩, none, 0⟩,
 ⟨some 7, .assign (Operand.tmp 10), none, 0⟩])
 (.seq
 (.seq
 (.ops [⟨some 11, .move (Operand.tmp 7), none, 0⟩,
 ⟨some 12, .binOp BinOp.lss 3 (Operand.tmp 11) (Operand.const (Value.int IntKind.i64 0)) 3, none, 0⟩])
 (.cond (Operand.tmp 12)
 (.seq
 (.ops [⟨some 13, .move (Operand.tmp 1), none, 0⟩,
 ⟨some 14, .slice 23 (Operand.tmp 13) none (some (Operand.const (Value.int IntKind.i64 1))) none, none, 0⟩,
 ⟨some 4, .assign (Operand.tmp 14), none, 0⟩,
 ⟨some 5, .assign (Operand.const (Value.int IntKind.i64 1)), none, 0⟩,
 ⟨some 6, .assign (Operand.const (Value.int IntKind.i64 (-1))), none, 0⟩])
 .ret)
 .skip))
 (.seq
 (.draw [⟨some 15, .move (Operand.tmp 0), none, 0⟩,
 ⟨some 16, .move (Operand.tmp 7), none, 0⟩,
 ⟨some 17, .indexAddr 22 (Operand.tmp 15) (Operand.tmp 16), none, 0⟩,
 ⟨some 18, .fieldAddr 67 (Operand.tmp 17) 1, none, 0⟩,
 ⟨some 19, .load 23 (Operand.tmp 18), none, 0⟩,
 ⟨some 20, .move (Operand.tmp 0), none, 0⟩,
 ⟨some 21, .move (Operand.tmp 7), none, 0⟩,
 ⟨some 22, .indexAddr 22 (Operand.tmp 20) (Operand.tmp 21), none, 0⟩,
 ⟨some 23, .fieldAddr 67 (Operand.tmp 22) 0, none, 0⟩,
 ⟨some 24, .load 23 (Operand.tmp 23), none, 0⟩,
 ⟨some 25, .call ⟨(Callee.builtin Builtin.len), [(Operand.tmp 24)].toArray, #[23]⟩, none, 0⟩,
 ⟨some 26, .move (Operand.tmp 7), none, 0⟩,
 ⟨some 4, .assign (Operand.tmp 19), none, 0⟩,
 ⟨some 5, .assign (Operand.tmp 25), none, 0⟩,
 ⟨some 6, .assign (Operand.tmp 26), none, 0⟩] true [14] [0, 1, 2, 3, 5, 6, 7, 8, 11, 4, 9, 10, 12, 13, 14])
 .ret))))
abbrev R96 : List ResultVar := [ResultVar.tmp 4, ResultVar.tmp 5, ResultVar.tmp 6]
theorem ok96 : FnOK Tryz.prog 96 L96 R96 2 := ⟨_, _, Tryz.func96, rfl, by kernel_rfl, by kernel_rfl, by kernel_rfl, by kernel_rfl, Nat.le_of_ble_eq_true (by kernel_rfl), by kernel_rfl⟩

/-- ablaut/script.waits -/
def L98 : LCode :=
 (.seq
 (.ops [⟨some 3, .box 23 (Operand.tmp 1), none, 0⟩,
 ⟨some 4, .assign (Operand.const (Value.bool false)), none, 0⟩])
 (.seq
 (.ops [⟨some 5, .move (Operand.tmp 0), none, 0⟩,
 ⟨some 6, .makeFunc (Fn.func 146) #[] [(Operand.tmp 3)].toArray, none, 0⟩,
 ⟨some 7, .call ⟨(Callee.value (Operand.func 77)), [(Operand.tmp 5), (Operand.tmp 6)].toArray, #[22, 114]⟩, none, 0⟩,
 ⟨some 4, .assign (Operand.tmp 7), none, 0⟩])
 .ret))
abbrev R98 : List ResultVar := [ResultVar.tmp 4]
theorem ok98 : FnOK Tryz.prog 98 L98 R98 2 := ⟨_, _, Tryz.func98, rfl, by kernel_rfl, by kernel_rfl, by kernel_rfl, by kernel_rfl, Nat.le_of_ble_eq_true (by kernel_rfl), by kernel_rfl⟩
end Go.Proofs.YtldlcejlfaogbaaGreatDoor.Vs
