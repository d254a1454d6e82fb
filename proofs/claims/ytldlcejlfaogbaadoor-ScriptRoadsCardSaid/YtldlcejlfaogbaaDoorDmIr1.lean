/- The seat's functions as the engine Dm reads them, written by dgen.py. -/
import Derived.Test.YtldlcejlfaogbaaDoorDmFn
import Derived.Test.YtldlcejlfaogbaaDoorProg
import Derived.KernelRfl
namespace Go.Proofs.YtldlcejlfaogbaaDoor.Vs
set_option linter.unusedVariables false
set_option maxRecDepth 100000
/-- ablaut/script.Reverse -/
def L18 : LCode :=
 (.seq
 (.ops [⟨some 2, .assign (Operand.const (Value.slice none 0 0)), none, 0⟩,
 ⟨some 3, .assign (Operand.const (Value.bool false)), none, 0⟩,
 ⟨some 4, .assign (Operand.const (Value.int IntKind.i64 0)), none, 0⟩])
 (.seq
 (.seq
 (.ops [⟨some 11, .move (Operand.tmp 0), none, 0⟩,
 ⟨some 12, .call ⟨(Callee.value (Operand.func 20)), [(Operand.tmp 11)].toArray, #[22]⟩, none, 0⟩,
 ⟨some 5, .assign (Operand.tmp 12), none, 0⟩])
 (.seq
 (.ops [⟨some 13, .move (Operand.tmp 5), none, 0⟩,
 ⟨some 14, .binOp BinOp.neq 25 (Operand.tmp 13) (Operand.const (Value.int IntKind.i64 0)) 25, none, 0⟩])
 (.cond (Operand.tmp 14)
 (.seq
 (.ops [⟨some 15, .move (Operand.tmp 5), none, 0⟩,
 ⟨some 2, .assign (Operand.const (Value.slice none 0 0)), none, 0⟩,
 ⟨some 3, .assign (Operand.const (Value.bool false)), none, 0⟩,
 ⟨some 4, .assign (Operand.tmp 15), none, 0⟩])
 .ret)
 .skip)))
 (.seq
 (.seq
 (.ops [⟨some 16, .move (Operand.tmp 0), none, 0⟩,
 ⟨some 17, .call ⟨(Callee.value (Operand.func 21)), [(Operand.tmp 16)].toArray, #[22]⟩, none, 0⟩,
 ⟨some 6, .assign (Operand.tmp 17), none, 0⟩])
 (.seq
 (.ops [⟨some 18, .move (Operand.tmp 6), none, 0⟩,
 ⟨some 19, .binOp BinOp.neq 25 (Operand.tmp 18) (Operand.const (Value.int IntKind.i64 0)) 25, none, 0⟩])
 (.cond (Operand.tmp 19)
 (.seq
 (.ops [⟨some 20, .move (Operand.tmp 6), none, 0⟩,
 ⟨some 2, .assign (Operand.const (Value.slice none 0 0)), none, 0⟩,
 ⟨some 3, .assign (Operand.const (Value.bool false)), none, 0⟩,
 ⟨some 4, .assign (Operand.tmp 20), none, 0⟩])
 .ret)
 .skip)))
 (.seq
 (.ops [⟨some 7, .assign (Operand.const (Value.slice none 0 0)), none, 0⟩])
 (.seq
 (.ops [⟨some 8, .assign (Operand.const (Value.slice none 0 0)), none, 0⟩])
 (.seq
 (.seq
 (.ops [⟨some 21, .move (Operand.tmp 0), none, 0⟩,
 ⟨some 22, .call ⟨(Callee.builtin Builtin.len), [(Operand.tmp 21)].toArray, #[22]⟩, none, 0⟩,
 ⟨some 23, .move (Operand.const (Value.int IntKind.i64 0)), none, 0⟩])
 (.block 0
 (.loop
 (.seq
 (.ops [⟨some 24, .binOp BinOp.lss 3 (Operand.tmp 23) (Operand.tmp 22) 3, none, 0⟩])
 (.seq
 (.cond (Operand.tmp 24)
 .skip
 (.exit 0))
 (.seq
 (.block 1
 (.seq
 (.ops [⟨some 25, .indexAddr 22 (Operand.tmp 21) (Operand.tmp 23), none, 0⟩,
 ⟨some 26, .load 46 (Operand.tmp 25), none, 0⟩,
 ⟨some 10, .alloc 46, none, 0⟩,
 ⟨none, .store 46 (Operand.tmp 10) (Operand.tmp 26), none, 0⟩])
 (.seq
 (.draw [⟨some 27, .move (Operand.tmp 7), none, 0⟩,
 ⟨some 28, .fieldAddr 46 (Operand.tmp 10) 1, none, 0⟩,
 ⟨some 29, .load 29 (Operand.tmp 28), none, 0⟩,
 ⟨some 30, .call ⟨(Callee.value (Operand.func 23)), [(Operand.tmp 29)].toArray, #[29]⟩, none, 0⟩,
 ⟨some 31, .fieldAddr 46 (Operand.tmp 10) 0, none, 0⟩,
 ⟨some 32, .load 29 (Operand.tmp 31), none, 0⟩,
 ⟨some 33, .call ⟨(Callee.value (Operand.func 23)), [(Operand.tmp 32)].toArray, #[29]⟩, none, 0⟩,
 ⟨some 34, .build 46 [(0, (Operand.tmp 30)), (1, (Operand.tmp 33))].toArray, none, 0⟩,
 ⟨some 35, .buildSlice 22 1 [(0, (Operand.tmp 34))].toArray, none, 0⟩,
 ⟨some 36, .call ⟨(Callee.builtin Builtin.append), [(Operand.tmp 27), (Operand.tmp 35)].toArray, #[22, 22]⟩, none, 0⟩,
 ⟨some 7, .assign (Operand.tmp 36), none, 0⟩] true [9, 10] [])
 (.ops [⟨some 37, .move (Operand.tmp 8), none, 0⟩,
 ⟨some 38, .fieldAddr 46 (Operand.tmp 10) 1, none, 0⟩,
 ⟨some 39, .load 29 (Operand.tmp 38), none, 0⟩,
 ⟨some 40, .buildSlice 49 1 [(0, (Operand.tmp 39))].toArray, none, 0⟩,
 ⟨some 41, .call ⟨(Callee.builtin Builtin.append), [(Operand.tmp 37), (Operand.tmp 40)].toArray, #[49, 49]⟩, none, 0⟩,
 ⟨some 8, .assign (Operand.tmp 41), none, 0⟩]))))
 (.ops [⟨some 42, .binOp BinOp.add 3 (Operand.tmp 23) (Operand.const (Value.int IntKind.i64 1)) 3, none, 0⟩,
 ⟨some 23, .move (Operand.tmp 42), none, 0⟩])))))))
 (.seq
 (.ops [⟨some 43, .move (Operand.tmp 7), none, 0⟩,
 ⟨some 44, .call ⟨(Callee.value (Operand.func 41)), [(Operand.tmp 43), (Operand.func 47)].toArray, #[22, 73]⟩, none, 0⟩])
 (.seq
 (.seq
 (.ops [⟨some 45, .move (Operand.tmp 7), none, 0⟩,
 ⟨some 46, .call ⟨(Callee.value (Operand.func 20)), [(Operand.tmp 45)].toArray, #[22]⟩, none, 0⟩,
 ⟨some 47, .binOp BinOp.neq 25 (Operand.tmp 46) (Operand.const (Value.int IntKind.i64 0)) 25, none, 0⟩,
 ⟨some 48, .move (Operand.tmp 47), none, 0⟩,
 ⟨some 49, .move (Operand.tmp 8), some (48, false), 0⟩,
 ⟨some 50, .move (Operand.tmp 7), some (48, false), 0⟩,
 ⟨some 51, .call ⟨(Callee.value (Operand.func 24)), [(Operand.tmp 49), (Operand.tmp 50)].toArray, #[49, 22]⟩, some (48, false), 0⟩,
 ⟨some 52, .unOp UnOp.not 4 (Operand.tmp 51), some (48, false), 0⟩,
 ⟨some 53, .pick (Operand.tmp 48) (Operand.const (Value.bool true)) (Operand.tmp 52), none, 0⟩])
 (.cond (Operand.tmp 53)
 (.seq
 (.ops [⟨some 2, .assign (Operand.const (Value.slice none 0 0)), none, 0⟩,
 ⟨some 3, .assign (Operand.const (Value.bool false)), none, 0⟩,
 ⟨some 4, .assign (Operand.const (Value.int IntKind.i64 0)), none, 0⟩])
 .ret)
 .skip))
 (.seq
 (.ops [⟨some 54, .move (Operand.tmp 7), none, 0⟩,
 ⟨some 2, .assign (Operand.tmp 54), none, 0⟩,
 ⟨some 3, .assign (Operand.const (Value.bool true)), none, 0⟩,
 ⟨some 4, .assign (Operand.const (Value.int IntKind.i64 0)), none, 0⟩])
 .ret)))))))))
abbrev R18 : List ResultVar := [ResultVar.tmp 2, ResultVar.tmp 3, ResultVar.tmp 4]
theorem ok18 : FnOK Tryd.prog 18 L18 R18 1 := ⟨_, _, Tryd.func18, rfl, by kernel_rfl, by kernel_rfl, by kernel_rfl, by kernel_rfl, Nat.le_of_ble_eq_true (by kernel_rfl), by kernel_rfl⟩

/-- ablaut/script.Reversible -/
def L19 : LCode :=
 (.seq
 (.ops [⟨some 2, .assign (Operand.const (Value.bool false)), none, 0⟩,
 ⟨some 3, .alloc 41, none, 0⟩,
 ⟨some 4, .assign (Operand.const (Value.int IntKind.i64 0)), none, 0⟩])
 (.seq
 (.seq
 (.ops [⟨some 15, .move (Operand.tmp 0), none, 0⟩,
 ⟨some 16, .call ⟨(Callee.value (Operand.func 20)), [(Operand.tmp 15)].toArray, #[22]⟩, none, 0⟩,
 ⟨some 5, .assign (Operand.tmp 16), none, 0⟩])
 (.seq
 (.ops [⟨some 17, .move (Operand.tmp 5), none, 0⟩,
 ⟨some 18, .binOp BinOp.neq 25 (Operand.tmp 17) (Operand.const (Value.int IntKind.i64 0)) 25, none, 0⟩])
 (.cond (Operand.tmp 18)
 (.seq
 (.ops [⟨some 19, .build 41 [].toArray, none, 0⟩,
 ⟨some 20, .move (Operand.tmp 5), none, 0⟩,
 ⟨some 2, .assign (Operand.const (Value.bool false)), none, 0⟩,
 ⟨none, .store 41 (Operand.tmp 3) (Operand.tmp 19), none, 0⟩,
 ⟨some 4, .assign (Operand.tmp 20), none, 0⟩])
 .ret)
 .skip)))
 (.seq
 (.seq
 (.ops [⟨some 21, .move (Operand.tmp 0), none, 0⟩,
 ⟨some 22, .call ⟨(Callee.value (Operand.func 21)), [(Operand.tmp 21)].toArray, #[22]⟩, none, 0⟩,
 ⟨some 6, .assign (Operand.tmp 22), none, 0⟩])
 (.seq
 (.ops [⟨some 23, .move (Operand.tmp 6), none, 0⟩,
 ⟨some 24, .binOp BinOp.neq 25 (Operand.tmp 23) (Operand.const (Value.int IntKind.i64 0)) 25, none, 0⟩])
 (.cond (Operand.tmp 24)
 (.seq
 (.ops [⟨some 25, .build 41 [].toArray, none, 0⟩,
 ⟨some 26, .move (Operand.tmp 6), none, 0⟩,
 ⟨some 2, .assign (Operand.const (Value.bool false)), none, 0⟩,
 ⟨none, .store 41 (Operand.tmp 3) (Operand.tmp 25), none, 0⟩,
 ⟨some 4, .assign (Operand.tmp 26), none, 0⟩])
 .ret)
 .skip)))
 (.seq
 (.ops [⟨some 7, .assign (Operand.const (Value.slice none 0 0)), none, 0⟩])
 (.seq
 (.seq
 (.ops [⟨some 27, .move (Operand.tmp 0), none, 0⟩,
 ⟨some 28, .call ⟨(Callee.builtin Builtin.len), [(Operand.tmp 27)].toArray, #[22]⟩, none, 0⟩,
 ⟨some 29, .move (Operand.const (Value.int IntKind.i64 0)), none, 0⟩])
 (.block 0
 (.loop
 (.seq
 (.ops [⟨some 30, .binOp BinOp.lss 3 (Operand.tmp 29) (Operand.tmp 28) 3, none, 0⟩])
 (.seq
 (.cond (Operand.tmp 30)
 .skip
 (.exit 0))
 (.seq
 (.block 1
 (.seq
 (.ops [⟨some 31, .indexAddr 22 (Operand.tmp 27) (Operand.tmp 29), none, 0⟩,
 ⟨some 32, .load 46 (Operand.tmp 31), none, 0⟩,
 ⟨some 9, .alloc 46, none, 0⟩,
 ⟨none, .store 46 (Operand.tmp 9) (Operand.tmp 32), none, 0⟩])
 (.ops [⟨some 33, .move (Operand.tmp 7), none, 0⟩,
 ⟨some 34, .fieldAddr 46 (Operand.tmp 9) 1, none, 0⟩,
 ⟨some 35, .load 29 (Operand.tmp 34), none, 0⟩,
 ⟨some 36, .buildSlice 49 1 [(0, (Operand.tmp 35))].toArray, none, 0⟩,
 ⟨some 37, .call ⟨(Callee.builtin Builtin.append), [(Operand.tmp 33), (Operand.tmp 36)].toArray, #[49, 49]⟩, none, 0⟩,
 ⟨some 7, .assign (Operand.tmp 37), none, 0⟩])))
 (.ops [⟨some 38, .binOp BinOp.add 3 (Operand.tmp 29) (Operand.const (Value.int IntKind.i64 1)) 3, none, 0⟩,
 ⟨some 29, .move (Operand.tmp 38), none, 0⟩])))))))
 (.seq
 (.ops [⟨some 39, .move (Operand.tmp 7), none, 0⟩,
 ⟨some 40, .call ⟨(Callee.value (Operand.func 48)), [(Operand.tmp 39)].toArray, #[49]⟩, none, 0⟩,
 ⟨some 10, .assign (Operand.tmp 40), none, 0⟩])
 (.seq
 (.seq
 (.ops [⟨some 41, .move (Operand.tmp 10), none, 0⟩,
 ⟨some 42, .binOp BinOp.eql 76 (Operand.tmp 41) (Operand.const (Value.slice none 0 0)) 76, none, 0⟩])
 (.cond (Operand.tmp 42)
 (.seq
 (.ops [⟨some 43, .build 41 [].toArray, none, 0⟩,
 ⟨some 2, .assign (Operand.const (Value.bool true)), none, 0⟩,
 ⟨none, .store 41 (Operand.tmp 3) (Operand.tmp 43), none, 0⟩,
 ⟨some 4, .assign (Operand.const (Value.int IntKind.i64 0)), none, 0⟩])
 .ret)
 .skip))
 (.seq
 (.ops [⟨some 11, .alloc 41, none, 0⟩])
 (.seq
 (.seq
 (.ops [⟨some 44, .move (Operand.const (Value.int IntKind.i64 0)), none, 0⟩])
 (.block 2
 (.loop
 (.seq
 (.ops [⟨some 45, .binOp BinOp.lss 3 (Operand.tmp 44) (Operand.const (Value.int IntKind.i64 2)) 3, none, 0⟩])
 (.seq
 (.cond (Operand.tmp 45)
 .skip
 (.exit 2))
 (.seq
 (.block 3
 (.seq
 (.ops [⟨some 46, .move (Operand.tmp 44), none, 0⟩,
 ⟨some 12, .assign (Operand.tmp 46), none, 0⟩])
 (.seq
 (.ops [⟨some 47, .move (Operand.tmp 10), none, 0⟩,
 ⟨some 48, .move (Operand.tmp 12), none, 0⟩,
 ⟨some 49, .indexAddr 76 (Operand.tmp 47) (Operand.tmp 48), none, 0⟩,
 ⟨some 50, .load 56 (Operand.tmp 49), none, 0⟩,
 ⟨some 51, .call ⟨(Callee.builtin Builtin.len), [(Operand.tmp 50)].toArray, #[56]⟩, none, 0⟩,
 ⟨some 52, .move (Operand.const (Value.int IntKind.i64 0)), none, 0⟩])
 (.block 4
 (.loop
 (.seq
 (.ops [⟨some 53, .binOp BinOp.lss 3 (Operand.tmp 52) (Operand.tmp 51) 3, none, 0⟩])
 (.seq
 (.cond (Operand.tmp 53)
 .skip
 (.exit 4))
 (.seq
 (.block 5
 (.seq
 (.ops [⟨some 54, .indexAddr 56 (Operand.tmp 50) (Operand.tmp 52), none, 0⟩,
 ⟨some 55, .load 3 (Operand.tmp 54), none, 0⟩,
 ⟨some 14, .assign (Operand.tmp 55), none, 0⟩])
 (.draw [⟨some 56, .move (Operand.tmp 12), none, 0⟩,
 ⟨some 57, .move (Operand.tmp 12), none, 0⟩,
 ⟨some 58, .indexAddr 41 (Operand.tmp 11) (Operand.tmp 57), none, 0⟩,
 ⟨some 59, .load 29 (Operand.tmp 58), none, 0⟩,
 ⟨some 60, .move (Operand.tmp 0), none, 0⟩,
 ⟨some 61, .move (Operand.tmp 14), none, 0⟩,
 ⟨some 62, .indexAddr 22 (Operand.tmp 60) (Operand.tmp 61), none, 0⟩,
 ⟨some 63, .fieldAddr 46 (Operand.tmp 62) 0, none, 0⟩,
 ⟨some 64, .load 29 (Operand.tmp 63), none, 0⟩,
 ⟨some 65, .call ⟨(Callee.builtin Builtin.append), [(Operand.tmp 59), (Operand.tmp 64)].toArray, #[29, 29]⟩, none, 0⟩,
 ⟨some 66, .indexAddr 41 (Operand.tmp 11) (Operand.tmp 56), none, 0⟩,
 ⟨none, .store 29 (Operand.tmp 66) (Operand.tmp 65), none, 0⟩] true [10, 11] [0, 1, 2, 4, 5, 6, 7, 3, 8, 9, 10, 11])))
 (.ops [⟨some 67, .binOp BinOp.add 3 (Operand.tmp 52) (Operand.const (Value.int IntKind.i64 1)) 3, none, 0⟩,
 ⟨some 52, .move (Operand.tmp 67), none, 0⟩])))))))))
 (.ops [⟨some 68, .binOp BinOp.add 3 (Operand.tmp 44) (Operand.const (Value.int IntKind.i64 1)) 3, none, 0⟩,
 ⟨some 44, .move (Operand.tmp 68), none, 0⟩])))))))
 (.seq
 (.draw [⟨some 69, .load 41 (Operand.tmp 11), none, 0⟩,
 ⟨some 2, .assign (Operand.const (Value.bool false)), none, 0⟩,
 ⟨none, .store 41 (Operand.tmp 3) (Operand.tmp 69), none, 0⟩,
 ⟨some 4, .assign (Operand.const (Value.int IntKind.i64 0)), none, 0⟩] true [2, 3] [1, 0, 2, 3])
 .ret))))))))))
abbrev R19 : List ResultVar := [ResultVar.tmp 2, ResultVar.cell 3 41, ResultVar.tmp 4]
theorem ok19 : FnOK Tryd.prog 19 L19 R19 1 := ⟨_, _, Tryd.func19, rfl, by kernel_rfl, by kernel_rfl, by kernel_rfl, by kernel_rfl, Nat.le_of_ble_eq_true (by kernel_rfl), by kernel_rfl⟩

/-- ablaut/script.Validate -/
def L20 : LCode :=
 (.seq
 (.ops [⟨some 2, .assign (Operand.const (Value.int IntKind.i64 0)), none, 0⟩])
 (.seq
 (.seq
 (.ops [⟨some 10, .move (Operand.tmp 0), none, 0⟩,
 ⟨some 11, .call ⟨(Callee.builtin Builtin.len), [(Operand.tmp 10)].toArray, #[22]⟩, none, 0⟩,
 ⟨some 12, .binOp BinOp.gtr 3 (Operand.tmp 11) (Operand.const (Value.int IntKind.i64 24)) 3, none, 0⟩])
 (.cond (Operand.tmp 12)
 (.seq
 (.ops [⟨some 2, .assign (Operand.const (Value.int IntKind.i64 3)), none, 0⟩])
 .ret)
 .skip))
 (.seq
 (.seq
 (.ops [⟨some 13, .move (Operand.tmp 0), none, 0⟩,
 ⟨some 14, .call ⟨(Callee.builtin Builtin.len), [(Operand.tmp 13)].toArray, #[22]⟩, none, 0⟩,
 ⟨some 15, .move (Operand.const (Value.int IntKind.i64 0)), none, 0⟩])
 (.block 0
 (.loop
 (.seq
 (.ops [⟨some 16, .binOp BinOp.lss 3 (Operand.tmp 15) (Operand.tmp 14) 3, none, 0⟩])
 (.seq
 (.cond (Operand.tmp 16)
 .skip
 (.exit 0))
 (.seq
 (.block 1
 (.seq
 (.ops [⟨some 17, .indexAddr 22 (Operand.tmp 13) (Operand.tmp 15), none, 0⟩,
 ⟨some 18, .load 46 (Operand.tmp 17), none, 0⟩,
 ⟨some 4, .alloc 46, none, 0⟩,
 ⟨none, .store 46 (Operand.tmp 4) (Operand.tmp 18), none, 0⟩])
 (.seq
 (.ops [⟨some 19, .fieldAddr 46 (Operand.tmp 4) 0, none, 0⟩,
 ⟨some 20, .load 29 (Operand.tmp 19), none, 0⟩,
 ⟨some 21, .fieldAddr 46 (Operand.tmp 4) 1, none, 0⟩,
 ⟨some 22, .load 29 (Operand.tmp 21), none, 0⟩,
 ⟨some 23, .buildSlice 49 2 [(0, (Operand.tmp 20)), (1, (Operand.tmp 22))].toArray, none, 0⟩,
 ⟨some 24, .call ⟨(Callee.builtin Builtin.len), [(Operand.tmp 23)].toArray, #[49]⟩, none, 0⟩,
 ⟨some 25, .move (Operand.const (Value.int IntKind.i64 0)), none, 0⟩])
 (.block 2
 (.loop
 (.seq
 (.ops [⟨some 26, .binOp BinOp.lss 3 (Operand.tmp 25) (Operand.tmp 24) 3, none, 0⟩])
 (.seq
 (.cond (Operand.tmp 26)
 .skip
 (.exit 2))
 (.seq
 (.block 3
 (.seq
 (.ops [⟨some 27, .indexAddr 49 (Operand.tmp 23) (Operand.tmp 25), none, 0⟩,
 ⟨some 28, .load 29 (Operand.tmp 27), none, 0⟩,
 ⟨some 6, .assign (Operand.tmp 28), none, 0⟩])
 (.seq
 (.ops [⟨some 29, .move (Operand.tmp 6), none, 0⟩,
 ⟨some 30, .call ⟨(Callee.value (Operand.func 49)), [(Operand.tmp 29)].toArray, #[29]⟩, none, 0⟩,
 ⟨some 7, .assign (Operand.tmp 30), none, 0⟩])
 (.seq
 (.ops [⟨some 31, .move (Operand.tmp 7), none, 0⟩,
 ⟨some 32, .binOp BinOp.neq 25 (Operand.tmp 31) (Operand.const (Value.int IntKind.i64 0)) 25, none, 0⟩])
 (.cond (Operand.tmp 32)
 (.seq
 (.ops [⟨some 33, .move (Operand.tmp 7), none, 0⟩,
 ⟨some 2, .assign (Operand.tmp 33), none, 0⟩])
 .ret)
 .skip)))))
 (.ops [⟨some 34, .binOp BinOp.add 3 (Operand.tmp 25) (Operand.const (Value.int IntKind.i64 1)) 3, none, 0⟩,
 ⟨some 25, .move (Operand.tmp 34), none, 0⟩])))))))))
 (.ops [⟨some 35, .binOp BinOp.add 3 (Operand.tmp 15) (Operand.const (Value.int IntKind.i64 1)) 3, none, 0⟩,
 ⟨some 15, .move (Operand.tmp 35), none, 0⟩])))))))
 (.seq
 (.seq
 (.ops [⟨some 36, .move (Operand.tmp 0), none, 0⟩,
 ⟨some 37, .call ⟨(Callee.builtin Builtin.len), [(Operand.tmp 36)].toArray, #[22]⟩, none, 0⟩,
 ⟨some 38, .move (Operand.const (Value.int IntKind.i64 0)), none, 0⟩])
 (.block 4
 (.loop
 (.seq
 (.ops [⟨some 39, .binOp BinOp.lss 3 (Operand.tmp 38) (Operand.tmp 37) 3, none, 0⟩])
 (.seq
 (.cond (Operand.tmp 39)
 .skip
 (.exit 4))
 (.seq
 (.block 5
 (.seq
 (.ops [⟨some 40, .move (Operand.tmp 38), none, 0⟩,
 ⟨some 41, .indexAddr 22 (Operand.tmp 36) (Operand.tmp 38), none, 0⟩,
 ⟨some 42, .load 46 (Operand.tmp 41), none, 0⟩,
 ⟨some 9, .alloc 46, none, 0⟩,
 ⟨some 8, .assign (Operand.tmp 40), none, 0⟩,
 ⟨none, .store 46 (Operand.tmp 9) (Operand.tmp 42), none, 0⟩])
 (.seq
 (.draw [⟨some 43, .fieldAddr 46 (Operand.tmp 9) 0, none, 0⟩,
 ⟨some 44, .load 29 (Operand.tmp 43), none, 0⟩,
 ⟨some 45, .call ⟨(Callee.builtin Builtin.len), [(Operand.tmp 44)].toArray, #[29]⟩, none, 0⟩,
 ⟨some 46, .binOp BinOp.eql 3 (Operand.tmp 45) (Operand.const (Value.int IntKind.i64 0)) 3, none, 0⟩,
 ⟨some 47, .move (Operand.tmp 46), none, 0⟩,
 ⟨some 48, .move (Operand.tmp 8), some (47, false), 0⟩,
 ⟨some 49, .binOp BinOp.gtr 3 (Operand.tmp 48) (Operand.const (Value.int IntKind.i64 0)) 3, some (47, false), 0⟩,
 ⟨some 50, .move (Operand.tmp 49), some (47, false), 0⟩,
 ⟨some 51, .move (Operand.tmp 0), some (50, true), 0⟩,
 ⟨some 52, .move (Operand.tmp 8), some (50, true), 0⟩,
 ⟨some 53, .binOp BinOp.sub 3 (Operand.tmp 52) (Operand.const (Value.int IntKind.i64 1)) 3, some (50, true), 0⟩,
 ⟨some 54, .indexAddr 22 (Operand.tmp 51) (Operand.tmp 53), some (50, true), 0⟩,
 ⟨some 55, .fieldAddr 46 (Operand.tmp 54) 0, some (50, true), 0⟩,
 ⟨some 56, .load 29 (Operand.tmp 55), some (50, true), 0⟩,
 ⟨some 57, .fieldAddr 46 (Operand.tmp 9) 0, some (50, true), 0⟩,
 ⟨some 58, .load 29 (Operand.tmp 57), some (50, true), 0⟩,
 ⟨some 59, .call ⟨(Callee.value (Operand.func 43)), [(Operand.tmp 56), (Operand.tmp 58)].toArray, #[29, 29]⟩, some (50, true), 0⟩,
 ⟨some 60, .binOp BinOp.geq 3 (Operand.tmp 59) (Operand.const (Value.int IntKind.i64 0)) 3, some (50, true), 0⟩,
 ⟨some 61, .pick (Operand.tmp 50) (Operand.tmp 60) (Operand.const (Value.bool false)), some (47, false), 0⟩,
 ⟨some 62, .pick (Operand.tmp 47) (Operand.const (Value.bool true)) (Operand.tmp 61), none, 0⟩] true [16, 17, 18, 19] [0, 1, 2, 3, 4, 5, 6, 7, 8, 9, 10, 11, 12, 13, 14, 15, 16, 17, 18, 19])
 (.cond (Operand.tmp 62)
 (.seq
 (.ops [⟨some 2, .assign (Operand.const (Value.int IntKind.i64 1)), none, 0⟩])
 .ret)
 .skip))))
 (.ops [⟨some 63, .binOp BinOp.add 3 (Operand.tmp 38) (Operand.const (Value.int IntKind.i64 1)) 3, none, 0⟩,
 ⟨some 38, .move (Operand.tmp 63), none, 0⟩])))))))
 (.seq
 (.ops [⟨some 2, .assign (Operand.const (Value.int IntKind.i64 0)), none, 0⟩])
 .ret)))))
abbrev R20 : List ResultVar := [ResultVar.tmp 2]
theorem ok20 : FnOK Tryd.prog 20 L20 R20 1 := ⟨_, _, Tryd.func20, rfl, by kernel_rfl, by kernel_rfl, by kernel_rfl, by kernel_rfl, Nat.le_of_ble_eq_true (by kernel_rfl), by kernel_rfl⟩

/-- ablaut/script.asked -/
def L21 : LCode :=
 (.seq
 (.ops [⟨some 2, .assign (Operand.const (Value.int IntKind.i64 0)), none, 0⟩])
 (.seq
 (.block 0
 (.seq
 (.ops [⟨some 4, .move (Operand.tmp 0), none, 0⟩,
 ⟨some 5, .call ⟨(Callee.value (Operand.func 50)), [(Operand.tmp 4)].toArray, #[22]⟩, none, 0⟩,
 ⟨some 6, .unOp UnOp.not 4 (Operand.tmp 5), none, 0⟩,
 ⟨some 3, .assign (Operand.tmp 6), none, 0⟩])
 (.cond (Operand.tmp 3)
 (.seq
 (.ops [⟨some 2, .assign (Operand.const (Value.int IntKind.i64 7)), none, 0⟩])
 .ret)
 (.seq
 (.ops [⟨some 8, .move (Operand.tmp 0), none, 0⟩,
 ⟨some 9, .call ⟨(Callee.value (Operand.func 38)), [(Operand.tmp 8), (Operand.func 51)].toArray, #[22, 71]⟩, none, 0⟩,
 ⟨some 7, .assign (Operand.tmp 9), none, 0⟩])
 (.cond (Operand.tmp 7)
 (.seq
 (.ops [⟨some 2, .assign (Operand.const (Value.int IntKind.i64 3)), none, 0⟩])
 .ret)
 .skip)))))
 (.seq
 (.ops [⟨some 2, .assign (Operand.const (Value.int IntKind.i64 0)), none, 0⟩])
 .ret)))
abbrev R21 : List ResultVar := [ResultVar.tmp 2]
theorem ok21 : FnOK Tryd.prog 21 L21 R21 1 := ⟨_, _, Tryd.func21, rfl, by kernel_rfl, by kernel_rfl, by kernel_rfl, by kernel_rfl, Nat.le_of_ble_eq_true (by kernel_rfl), by kernel_rfl⟩

/-- ablaut/script.shifted -/
def L22 : LCode :=
 (.seq
 (.ops [⟨some 4, .assign (Operand.const (Value.slice none 0 0)), none, 0⟩,
 ⟨some 5, .assign (Operand.const (Value.bool false)), none, 0⟩])
 (.seq
 (.ops [⟨some 6, .assign (Operand.const (Value.slice none 0 0)), none, 0⟩])
 (.seq
 (.ops [⟨some 7, .assign (Operand.const (Value.bool true)), none, 0⟩])
 (.seq
 (.block 0
 (.loop
 (.seq
 (.seq
 (.ops [⟨some 11, .move (Operand.tmp 1), none, 0⟩,
 ⟨some 12, .call ⟨(Callee.builtin Builtin.len), [(Operand.tmp 11)].toArray, #[29]⟩, none, 0⟩,
 ⟨some 13, .binOp BinOp.gtr 3 (Operand.tmp 12) (Operand.const (Value.int IntKind.i64 0)) 3, none, 0⟩])
 (.cond (Operand.tmp 13)
 .skip
 (.exit 0)))
 (.block 1
 (.seq
 (.ops [⟨some 15, .move (Operand.tmp 0), none, 0⟩,
 ⟨some 16, .move (Operand.tmp 1), none, 0⟩,
 ⟨some 17, .call ⟨(Callee.value (Operand.func 52)), [(Operand.tmp 15), (Operand.tmp 16)].toArray, #[22, 29]⟩, none, 0⟩,
 ⟨some 14, .move (Operand.tmp 17), none, 0⟩,
 ⟨some 18, .extract (Operand.tmp 14) 0, none, 0⟩,
 ⟨some 19, .extract (Operand.tmp 14) 1, none, 0⟩,
 ⟨some 20, .extract (Operand.tmp 14) 2, none, 0⟩,
 ⟨some 8, .assign (Operand.tmp 18), none, 0⟩,
 ⟨some 9, .assign (Operand.tmp 19), none, 0⟩,
 ⟨some 10, .assign (Operand.tmp 20), none, 0⟩])
 (.seq
 (.ops [⟨some 21, .move (Operand.tmp 6), none, 0⟩,
 ⟨some 22, .move (Operand.tmp 8), none, 0⟩,
 ⟨some 23, .call ⟨(Callee.builtin Builtin.append), [(Operand.tmp 21), (Operand.tmp 22)].toArray, #[29, 29]⟩, none, 0⟩,
 ⟨some 6, .assign (Operand.tmp 23), none, 0⟩])
 (.seq
 (.ops [⟨some 24, .move (Operand.tmp 7), none, 0⟩,
 ⟨some 25, .move (Operand.tmp 24), none, 0⟩,
 ⟨some 26, .move (Operand.tmp 10), some (25, true), 0⟩,
 ⟨some 27, .binOp BinOp.geq 3 (Operand.tmp 26) (Operand.const (Value.int IntKind.i64 0)) 3, some (25, true), 0⟩,
 ⟨some 28, .pick (Operand.tmp 25) (Operand.tmp 27) (Operand.const (Value.bool false)), none, 0⟩,
 ⟨some 7, .assign (Operand.tmp 28), none, 0⟩])
 (.ops [⟨some 29, .move (Operand.tmp 1), none, 0⟩,
 ⟨some 30, .move (Operand.tmp 9), none, 0⟩,
 ⟨some 31, .slice 29 (Operand.tmp 29) (some (Operand.tmp 30)) none none, none, 0⟩,
 ⟨some 1, .assign (Operand.tmp 31), none, 0⟩]))))))))
 (.seq
 (.ops [⟨some 32, .move (Operand.tmp 6), none, 0⟩,
 ⟨some 33, .move (Operand.tmp 7), none, 0⟩,
 ⟨some 4, .assign (Operand.tmp 32), none, 0⟩,
 ⟨some 5, .assign (Operand.tmp 33), none, 0⟩])
 .ret)))))
abbrev R22 : List ResultVar := [ResultVar.tmp 4, ResultVar.tmp 5]
theorem ok22 : FnOK Tryd.prog 22 L22 R22 2 := ⟨_, _, Tryd.func22, rfl, by kernel_rfl, by kernel_rfl, by kernel_rfl, by kernel_rfl, Nat.le_of_ble_eq_true (by kernel_rfl), by kernel_rfl⟩

/-- slices.Clone[[]string,string] -/
def L23 : LCode :=
 (.seq
 (.ops [⟨some 2, .assign (Operand.const (Value.slice none 0 0)), none, 0⟩])
 (.seq
 (.seq
 (.ops [⟨some 3, .move (Operand.tmp 0), none, 0⟩,
 ⟨some 4, .binOp BinOp.eql 29 (Operand.tmp 3) (Operand.const (Value.slice none 0 0)) 29, none, 0⟩])
 (.cond (Operand.tmp 4)
 (.seq
 (.ops [⟨some 2, .assign (Operand.const (Value.slice none 0 0)), none, 0⟩])
 .ret)
 .skip))
 (.seq
 (.ops [⟨some 5, .buildSlice 29 0 [].toArray, none, 0⟩,
 ⟨some 6, .move (Operand.tmp 0), none, 0⟩,
 ⟨some 7, .call ⟨(Callee.builtin Builtin.append), [(Operand.tmp 5), (Operand.tmp 6)].toArray, #[29, 29]⟩, none, 0⟩,
 ⟨some 2, .assign (Operand.tmp 7), none, 0⟩])
 .ret)))
abbrev R23 : List ResultVar := [ResultVar.tmp 2]
theorem ok23 : FnOK Tryd.prog 23 L23 R23 1 := ⟨_, _, Tryd.func23, rfl, by kernel_rfl, by kernel_rfl, by kernel_rfl, by kernel_rfl, Nat.le_of_ble_eq_true (by kernel_rfl), by kernel_rfl⟩

/-- ablaut/script.joins -/
def L24 : LCode :=
 (.seq
 (.ops [⟨some 4, .assign (Operand.const (Value.bool false)), none, 0⟩])
 (.seq
 (.ops [⟨some 21, .makeMap 60 none, none, 0⟩,
 ⟨none, .insert 60 (Operand.tmp 21) (Operand.const (Value.string ⟨#[]⟩)) (Operand.const (Value.bool true)), none, 0⟩,
 ⟨some 22, .move (Operand.tmp 21), none, 0⟩,
 ⟨some 5, .assign (Operand.tmp 22), none, 0⟩])
 (.seq
 (.ops [⟨some 23, .buildSlice 29 1 [(0, (Operand.const (Value.string ⟨#[]⟩)))].toArray, none, 0⟩,
 ⟨some 6, .assign (Operand.tmp 23), none, 0⟩])
 (.seq
 (.seq
 (.ops [⟨some 7, .assign (Operand.const (Value.int IntKind.i64 0)), none, 0⟩])
 (.block 0
 (.loop
 (.seq
 (.seq
 (.ops [⟨some 24, .move (Operand.tmp 7), none, 0⟩,
 ⟨some 25, .move (Operand.tmp 6), none, 0⟩,
 ⟨some 26, .call ⟨(Callee.builtin Builtin.len), [(Operand.tmp 25)].toArray, #[29]⟩, none, 0⟩,
 ⟨some 27, .binOp BinOp.lss 3 (Operand.tmp 24) (Operand.tmp 26) 3, none, 0⟩])
 (.cond (Operand.tmp 27)
 .skip
 (.exit 0)))
 (.seq
 (.block 1
 (.seq
 (.ops [⟨some 30, .move (Operand.tmp 6), none, 0⟩,
 ⟨some 31, .move (Operand.tmp 7), none, 0⟩,
 ⟨some 32, .indexAddr 29 (Operand.tmp 30) (Operand.tmp 31), none, 0⟩,
 ⟨some 33, .load 9 (Operand.tmp 32), none, 0⟩,
 ⟨some 34, .call ⟨(Callee.value (Operand.func 53)), [(Operand.tmp 33)].toArray, #[9]⟩, none, 0⟩,
 ⟨some 8, .assign (Operand.tmp 34), none, 0⟩])
 (.seq
 (.ops [⟨some 36, .move (Operand.tmp 1), none, 0⟩,
 ⟨some 37, .move (Operand.tmp 8), none, 0⟩,
 ⟨some 38, .call ⟨(Callee.value (Operand.func 22)), [(Operand.tmp 36), (Operand.tmp 37)].toArray, #[22, 29]⟩, none, 0⟩,
 ⟨some 35, .move (Operand.tmp 38), none, 0⟩,
 ⟨some 39, .extract (Operand.tmp 35) 0, none, 0⟩,
 ⟨some 40, .extract (Operand.tmp 35) 1, none, 0⟩,
 ⟨some 9, .assign (Operand.tmp 39), none, 0⟩,
 ⟨some 10, .assign (Operand.tmp 40), none, 0⟩])
 (.seq
 (.ops [⟨some 41, .move (Operand.tmp 0), none, 0⟩,
 ⟨some 42, .call ⟨(Callee.builtin Builtin.len), [(Operand.tmp 41)].toArray, #[49]⟩, none, 0⟩,
 ⟨some 43, .move (Operand.const (Value.int IntKind.i64 0)), none, 0⟩])
 (.block 2
 (.loop
 (.seq
 (.ops [⟨some 44, .binOp BinOp.lss 3 (Operand.tmp 43) (Operand.tmp 42) 3, none, 0⟩])
 (.seq
 (.cond (Operand.tmp 44)
 .skip
 (.exit 2))
 (.seq
 (.block 3
 (.seq
 (.ops [⟨some 45, .indexAddr 49 (Operand.tmp 41) (Operand.tmp 43), none, 0⟩,
 ⟨some 46, .load 29 (Operand.tmp 45), none, 0⟩,
 ⟨some 12, .assign (Operand.tmp 46), none, 0⟩])
 (.seq
 (.ops [⟨some 48, .move (Operand.tmp 1), none, 0⟩,
 ⟨some 49, .move (Operand.tmp 8), none, 0⟩,
 ⟨some 50, .move (Operand.tmp 12), none, 0⟩,
 ⟨some 51, .buildSlice 49 2 [(0, (Operand.tmp 49)), (1, (Operand.tmp 50))].toArray, none, 0⟩,
 ⟨some 52, .call ⟨(Callee.value (Operand.func 55)), [(Operand.tmp 51)].toArray, #[49]⟩, none, 0⟩,
 ⟨some 53, .call ⟨(Callee.value (Operand.func 54)), [(Operand.tmp 48), (Operand.tmp 52)].toArray, #[22, 29]⟩, none, 0⟩,
 ⟨some 47, .move (Operand.tmp 53), none, 0⟩,
 ⟨some 54, .extract (Operand.tmp 47) 0, none, 0⟩,
 ⟨some 55, .extract (Operand.tmp 47) 1, none, 0⟩,
 ⟨some 56, .extract (Operand.tmp 47) 2, none, 0⟩,
 ⟨some 13, .assign (Operand.tmp 54), none, 0⟩,
 ⟨some 14, .assign (Operand.tmp 55), none, 0⟩,
 ⟨some 15, .assign (Operand.tmp 56), none, 0⟩])
 (.seq
 (.ops [⟨some 58, .move (Operand.tmp 1), none, 0⟩,
 ⟨some 59, .move (Operand.tmp 12), none, 0⟩,
 ⟨some 60, .call ⟨(Callee.value (Operand.func 22)), [(Operand.tmp 58), (Operand.tmp 59)].toArray, #[22, 29]⟩, none, 0⟩,
 ⟨some 57, .move (Operand.tmp 60), none, 0⟩,
 ⟨some 61, .extract (Operand.tmp 57) 0, none, 0⟩,
 ⟨some 62, .extract (Operand.tmp 57) 1, none, 0⟩,
 ⟨some 16, .assign (Operand.tmp 61), none, 0⟩,
 ⟨some 17, .assign (Operand.tmp 62), none, 0⟩])
 (.seq
 (.ops [⟨some 64, .move (Operand.tmp 1), none, 0⟩,
 ⟨some 65, .move (Operand.tmp 14), none, 0⟩,
 ⟨some 66, .call ⟨(Callee.value (Operand.func 22)), [(Operand.tmp 64), (Operand.tmp 65)].toArray, #[22, 29]⟩, none, 0⟩,
 ⟨some 63, .move (Operand.tmp 66), none, 0⟩,
 ⟨some 67, .extract (Operand.tmp 63) 0, none, 0⟩,
 ⟨some 68, .extract (Operand.tmp 63) 1, none, 0⟩,
 ⟨some 18, .assign (Operand.tmp 67), none, 0⟩,
 ⟨some 19, .assign (Operand.tmp 68), none, 0⟩])
 (.seq
 (.seq
 (.ops [⟨some 69, .move (Operand.tmp 9), none, 0⟩,
 ⟨some 70, .move (Operand.tmp 16), none, 0⟩,
 ⟨some 71, .buildSlice 49 2 [(0, (Operand.tmp 69)), (1, (Operand.tmp 70))].toArray, none, 0⟩,
 ⟨some 72, .call ⟨(Callee.value (Operand.func 55)), [(Operand.tmp 71)].toArray, #[49]⟩, none, 0⟩,
 ⟨some 73, .move (Operand.tmp 13), none, 0⟩,
 ⟨some 74, .move (Operand.tmp 18), none, 0⟩,
 ⟨some 75, .buildSlice 49 2 [(0, (Operand.tmp 73)), (1, (Operand.tmp 74))].toArray, none, 0⟩,
 ⟨some 76, .call ⟨(Callee.value (Operand.func 55)), [(Operand.tmp 75)].toArray, #[49]⟩, none, 0⟩,
 ⟨some 77, .call ⟨(Callee.value (Operand.func 40)), [(Operand.tmp 72), (Operand.tmp 76)].toArray, #[29, 29]⟩, none, 0⟩,
 ⟨some 78, .unOp UnOp.not 4 (Operand.tmp 77), none, 0⟩])
 (.cond (Operand.tmp 78)
 (.seq
 (.ops [⟨some 4, .assign (Operand.const (Value.bool false)), none, 0⟩])
 .ret)
 .skip))
 (.seq
 (.ops [⟨some 79, .move (Operand.tmp 14), none, 0⟩,
 ⟨some 80, .call ⟨(Callee.value (Operand.func 56)), [(Operand.tmp 79)].toArray, #[29]⟩, none, 0⟩,
 ⟨some 20, .assign (Operand.tmp 80), none, 0⟩])
 (.seq
 (.ops [⟨some 81, .move (Operand.tmp 5), none, 0⟩,
 ⟨some 82, .move (Operand.tmp 20), none, 0⟩,
 ⟨some 83, .lookup 60 (Operand.tmp 81) (Operand.tmp 82) false, none, 0⟩,
 ⟨some 84, .unOp UnOp.not 4 (Operand.tmp 83), none, 0⟩])
 (.cond (Operand.tmp 84)
 (.seq
 (.ops [⟨some 85, .move (Operand.tmp 5), none, 0⟩,
 ⟨some 86, .move (Operand.tmp 20), none, 0⟩,
 ⟨none, .mapUpdate 60 (Operand.tmp 85) (Operand.tmp 86) (Operand.const (Value.bool true)), none, 0⟩])
 (.ops [⟨some 87, .move (Operand.tmp 6), none, 0⟩,
 ⟨some 88, .move (Operand.tmp 20), none, 0⟩,
 ⟨some 89, .buildSlice 29 1 [(0, (Operand.tmp 88))].toArray, none, 0⟩,
 ⟨some 90, .call ⟨(Callee.builtin Builtin.append), [(Operand.tmp 87), (Operand.tmp 89)].toArray, #[29, 29]⟩, none, 0⟩,
 ⟨some 6, .assign (Operand.tmp 90), none, 0⟩]))
 .skip)))))))))
 (.ops [⟨some 91, .binOp BinOp.add 3 (Operand.tmp 43) (Operand.const (Value.int IntKind.i64 1)) 3, none, 0⟩,
 ⟨some 43, .move (Operand.tmp 91), none, 0⟩]))))))))))
 (.ops [⟨some 28, .move (Operand.tmp 7), none, 0⟩,
 ⟨some 29, .binOp BinOp.add 3 (Operand.tmp 28) (Operand.const (Value.int IntKind.i64 1)) 3, none, 0⟩,
 ⟨some 7, .assign (Operand.tmp 29), none, 0⟩]))))))
 (.seq
 (.ops [⟨some 4, .assign (Operand.const (Value.bool true)), none, 0⟩])
 .ret)))))
abbrev R24 : List ResultVar := [ResultVar.tmp 4]
theorem ok24 : FnOK Tryd.prog 24 L24 R24 2 := ⟨_, _, Tryd.func24, rfl, by kernel_rfl, by kernel_rfl, by kernel_rfl, by kernel_rfl, Nat.le_of_ble_eq_true (by kernel_rfl), by kernel_rfl⟩

/-- ablaut/ablautref25.Validate -/
def L25 : LCode :=
 (.seq
 (.ops [⟨some 2, .assign (Operand.const (Value.int IntKind.i64 0)), none, 0⟩])
 (.seq
 (.seq
 (.ops [⟨some 6, .move (Operand.tmp 0), none, 0⟩,
 ⟨some 7, .call ⟨(Callee.builtin Builtin.len), [(Operand.tmp 6)].toArray, #[22]⟩, none, 0⟩,
 ⟨some 8, .binOp BinOp.gtr 3 (Operand.tmp 7) (Operand.const (Value.int IntKind.i64 24)) 3, none, 0⟩])
 (.cond (Operand.tmp 8)
 (.seq
 (.ops [⟨some 2, .assign (Operand.const (Value.int IntKind.i64 3)), none, 0⟩])
 .ret)
 .skip))
 (.seq
 (.seq
 (.ops [⟨some 3, .assign (Operand.const (Value.int IntKind.i64 0)), none, 0⟩])
 (.block 0
 (.loop
 (.seq
 (.seq
 (.ops [⟨some 9, .move (Operand.tmp 3), none, 0⟩,
 ⟨some 10, .move (Operand.tmp 0), none, 0⟩,
 ⟨some 11, .call ⟨(Callee.builtin Builtin.len), [(Operand.tmp 10)].toArray, #[22]⟩, none, 0⟩,
 ⟨some 12, .binOp BinOp.lss 3 (Operand.tmp 9) (Operand.tmp 11) 3, none, 0⟩])
 (.cond (Operand.tmp 12)
 .skip
 (.exit 0)))
 (.seq
 (.block 1
 (.seq
 (.draw [⟨some 15, .move (Operand.tmp 0), none, 0⟩,
 ⟨some 16, .move (Operand.tmp 3), none, 0⟩,
 ⟨some 17, .indexAddr 22 (Operand.tmp 15) (Operand.tmp 16), none, 0⟩,
 ⟨some 18, .fieldAddr 46 (Operand.tmp 17) 0, none, 0⟩,
 ⟨some 19, .load 29 (Operand.tmp 18), none, 0⟩,
 ⟨some 20, .move (Operand.tmp 0), none, 0⟩,
 ⟨some 21, .move (Operand.tmp 3), none, 0⟩,
 ⟨some 22, .indexAddr 22 (Operand.tmp 20) (Operand.tmp 21), none, 0⟩,
 ⟨some 23, .fieldAddr 46 (Operand.tmp 22) 1, none, 0⟩,
 ⟨some 24, .load 29 (Operand.tmp 23), none, 0⟩,
 ⟨some 25, .buildSlice 49 2 [(0, (Operand.tmp 19)), (1, (Operand.tmp 24))].toArray, none, 0⟩,
 ⟨some 26, .call ⟨(Callee.value (Operand.func 57)), [(Operand.tmp 25)].toArray, #[49]⟩, none, 0⟩,
 ⟨some 4, .assign (Operand.tmp 26), none, 0⟩] true [10, 11, 12] [])
 (.seq
 (.ops [⟨some 27, .move (Operand.tmp 4), none, 0⟩,
 ⟨some 28, .binOp BinOp.neq 25 (Operand.tmp 27) (Operand.const (Value.int IntKind.i64 0)) 25, none, 0⟩])
 (.cond (Operand.tmp 28)
 (.seq
 (.ops [⟨some 29, .move (Operand.tmp 4), none, 0⟩,
 ⟨some 2, .assign (Operand.tmp 29), none, 0⟩])
 .ret)
 .skip))))
 (.ops [⟨some 13, .move (Operand.tmp 3), none, 0⟩,
 ⟨some 14, .binOp BinOp.add 3 (Operand.tmp 13) (Operand.const (Value.int IntKind.i64 1)) 3, none, 0⟩,
 ⟨some 3, .assign (Operand.tmp 14), none, 0⟩]))))))
 (.seq
 (.seq
 (.ops [⟨some 5, .assign (Operand.const (Value.int IntKind.i64 0)), none, 0⟩])
 (.block 2
 (.loop
 (.seq
 (.seq
 (.ops [⟨some 30, .move (Operand.tmp 5), none, 0⟩,
 ⟨some 31, .move (Operand.tmp 0), none, 0⟩,
 ⟨some 32, .call ⟨(Callee.builtin Builtin.len), [(Operand.tmp 31)].toArray, #[22]⟩, none, 0⟩,
 ⟨some 33, .binOp BinOp.lss 3 (Operand.tmp 30) (Operand.tmp 32) 3, none, 0⟩])
 (.cond (Operand.tmp 33)
 .skip
 (.exit 2)))
 (.seq
 (.block 3
 (.seq
 (.draw [⟨some 36, .move (Operand.tmp 0), none, 0⟩,
 ⟨some 37, .move (Operand.tmp 5), none, 0⟩,
 ⟨some 38, .indexAddr 22 (Operand.tmp 36) (Operand.tmp 37), none, 0⟩,
 ⟨some 39, .fieldAddr 46 (Operand.tmp 38) 0, none, 0⟩,
 ⟨some 40, .load 29 (Operand.tmp 39), none, 0⟩,
 ⟨some 41, .call ⟨(Callee.builtin Builtin.len), [(Operand.tmp 40)].toArray, #[29]⟩, none, 0⟩,
 ⟨some 42, .binOp BinOp.eql 3 (Operand.tmp 41) (Operand.const (Value.int IntKind.i64 0)) 3, none, 0⟩,
 ⟨some 43, .move (Operand.tmp 42), none, 0⟩,
 ⟨some 44, .move (Operand.tmp 5), some (43, false), 0⟩,
 ⟨some 45, .binOp BinOp.gtr 3 (Operand.tmp 44) (Operand.const (Value.int IntKind.i64 0)) 3, some (43, false), 0⟩,
 ⟨some 46, .move (Operand.tmp 45), some (43, false), 0⟩,
 ⟨some 47, .move (Operand.tmp 0), some (46, true), 0⟩,
 ⟨some 48, .move (Operand.tmp 5), some (46, true), 0⟩,
 ⟨some 49, .binOp BinOp.sub 3 (Operand.tmp 48) (Operand.const (Value.int IntKind.i64 1)) 3, some (46, true), 0⟩,
 ⟨some 50, .indexAddr 22 (Operand.tmp 47) (Operand.tmp 49), some (46, true), 0⟩,
 ⟨some 51, .fieldAddr 46 (Operand.tmp 50) 0, some (46, true), 0⟩,
 ⟨some 52, .load 29 (Operand.tmp 51), some (46, true), 0⟩,
 ⟨some 53, .move (Operand.tmp 0), some (46, true), 0⟩,
 ⟨some 54, .move (Operand.tmp 5), some (46, true), 0⟩,
 ⟨some 55, .indexAddr 22 (Operand.tmp 53) (Operand.tmp 54), some (46, true), 0⟩,
 ⟨some 56, .fieldAddr 46 (Operand.tmp 55) 0, some (46, true), 0⟩,
 ⟨some 57, .load 29 (Operand.tmp 56), some (46, true), 0⟩,
 ⟨some 58, .call ⟨(Callee.value (Operand.func 34)), [(Operand.tmp 52), (Operand.tmp 57)].toArray, #[29, 29]⟩, some (46, true), 0⟩,
 ⟨some 59, .binOp BinOp.geq 3 (Operand.tmp 58) (Operand.const (Value.int IntKind.i64 0)) 3, some (46, true), 0⟩,
 ⟨some 60, .pick (Operand.tmp 46) (Operand.tmp 59) (Operand.const (Value.bool false)), some (43, false), 0⟩,
 ⟨some 61, .pick (Operand.tmp 43) (Operand.const (Value.bool true)) (Operand.tmp 60), none, 0⟩] true [22, 23, 24, 25] [0, 1, 2, 3, 4, 5, 6, 7, 8, 9, 10, 11, 12, 13, 14, 15, 16, 17, 18, 19, 20, 21, 22, 23, 24, 25])
 (.cond (Operand.tmp 61)
 (.seq
 (.ops [⟨some 2, .assign (Operand.const (Value.int IntKind.i64 1)), none, 0⟩])
 .ret)
 .skip)))
 (.ops [⟨some 34, .move (Operand.tmp 5), none, 0⟩,
 ⟨some 35, .binOp BinOp.add 3 (Operand.tmp 34) (Operand.const (Value.int IntKind.i64 1)) 3, none, 0⟩,
 ⟨some 5, .assign (Operand.tmp 35), none, 0⟩]))))))
 (.seq
 (.ops [⟨some 2, .assign (Operand.const (Value.int IntKind.i64 0)), none, 0⟩])
 .ret)))))
abbrev R25 : List ResultVar := [ResultVar.tmp 2]
theorem ok25 : FnOK Tryd.prog 25 L25 R25 1 := ⟨_, _, Tryd.func25, rfl, by kernel_rfl, by kernel_rfl, by kernel_rfl, by kernel_rfl, Nat.le_of_ble_eq_true (by kernel_rfl), by kernel_rfl⟩

/-- ablaut/ablautref25.isPlain -/
def L26 : LCode :=
 (.seq
 (.ops [⟨some 2, .assign (Operand.const (Value.bool false)), none, 0⟩])
 (.seq
 (.seq
 (.ops [⟨some 3, .assign (Operand.const (Value.int IntKind.i64 0)), none, 0⟩])
 (.block 0
 (.loop
 (.seq
 (.seq
 (.ops [⟨some 4, .move (Operand.tmp 3), none, 0⟩,
 ⟨some 5, .move (Operand.tmp 0), none, 0⟩,
 ⟨some 6, .call ⟨(Callee.builtin Builtin.len), [(Operand.tmp 5)].toArray, #[22]⟩, none, 0⟩,
 ⟨some 7, .binOp BinOp.lss 3 (Operand.tmp 4) (Operand.tmp 6) 3, none, 0⟩])
 (.cond (Operand.tmp 7)
 .skip
 (.exit 0)))
 (.seq
 (.block 1
 (.seq
 (.ops [⟨some 10, .move (Operand.tmp 0), none, 0⟩,
 ⟨some 11, .move (Operand.tmp 3), none, 0⟩,
 ⟨some 12, .indexAddr 22 (Operand.tmp 10) (Operand.tmp 11), none, 0⟩,
 ⟨some 13, .fieldAddr 46 (Operand.tmp 12) 0, none, 0⟩,
 ⟨some 14, .load 29 (Operand.tmp 13), none, 0⟩,
 ⟨some 15, .call ⟨(Callee.builtin Builtin.len), [(Operand.tmp 14)].toArray, #[29]⟩, none, 0⟩,
 ⟨some 16, .binOp BinOp.neq 3 (Operand.tmp 15) (Operand.const (Value.int IntKind.i64 1)) 3, none, 0⟩])
 (.cond (Operand.tmp 16)
 (.seq
 (.ops [⟨some 2, .assign (Operand.const (Value.bool false)), none, 0⟩])
 .ret)
 .skip)))
 (.ops [⟨some 8, .move (Operand.tmp 3), none, 0⟩,
 ⟨some 9, .binOp BinOp.add 3 (Operand.tmp 8) (Operand.const (Value.int IntKind.i64 1)) 3, none, 0⟩,
 ⟨some 3, .assign (Operand.tmp 9), none, 0⟩]))))))
 (.seq
 (.ops [⟨some 2, .assign (Operand.const (Value.bool true)), none, 0⟩])
 .ret)))
abbrev R26 : List ResultVar := [ResultVar.tmp 2]
theorem ok26 : FnOK Tryd.prog 26 L26 R26 1 := ⟨_, _, Tryd.func26, rfl, by kernel_rfl, by kernel_rfl, by kernel_rfl, by kernel_rfl, Nat.le_of_ble_eq_true (by kernel_rfl), by kernel_rfl⟩

/-- ablaut/ablautref25.isLong -/
def L27 : LCode :=
 (.seq
 (.ops [⟨some 2, .assign (Operand.const (Value.bool false)), none, 0⟩])
 (.seq
 (.seq
 (.ops [⟨some 3, .assign (Operand.const (Value.int IntKind.i64 0)), none, 0⟩])
 (.block 0
 (.loop
 (.seq
 (.seq
 (.ops [⟨some 4, .move (Operand.tmp 3), none, 0⟩,
 ⟨some 5, .move (Operand.tmp 0), none, 0⟩,
 ⟨some 6, .call ⟨(Callee.builtin Builtin.len), [(Operand.tmp 5)].toArray, #[49]⟩, none, 0⟩,
 ⟨some 7, .binOp BinOp.lss 3 (Operand.tmp 4) (Operand.tmp 6) 3, none, 0⟩])
 (.cond (Operand.tmp 7)
 .skip
 (.exit 0)))
 (.seq
 (.block 1
 (.seq
 (.ops [⟨some 10, .move (Operand.tmp 0), none, 0⟩,
 ⟨some 11, .move (Operand.tmp 3), none, 0⟩,
 ⟨some 12, .indexAddr 49 (Operand.tmp 10) (Operand.tmp 11), none, 0⟩,
 ⟨some 13, .load 29 (Operand.tmp 12), none, 0⟩,
 ⟨some 14, .call ⟨(Callee.builtin Builtin.len), [(Operand.tmp 13)].toArray, #[29]⟩, none, 0⟩,
 ⟨some 15, .binOp BinOp.gtr 3 (Operand.tmp 14) (Operand.const (Value.int IntKind.i64 8)) 3, none, 0⟩])
 (.cond (Operand.tmp 15)
 (.seq
 (.ops [⟨some 2, .assign (Operand.const (Value.bool true)), none, 0⟩])
 .ret)
 .skip)))
 (.ops [⟨some 8, .move (Operand.tmp 3), none, 0⟩,
 ⟨some 9, .binOp BinOp.add 3 (Operand.tmp 8) (Operand.const (Value.int IntKind.i64 1)) 3, none, 0⟩,
 ⟨some 3, .assign (Operand.tmp 9), none, 0⟩]))))))
 (.seq
 (.ops [⟨some 2, .assign (Operand.const (Value.bool false)), none, 0⟩])
 .ret)))
abbrev R27 : List ResultVar := [ResultVar.tmp 2]
theorem ok27 : FnOK Tryd.prog 27 L27 R27 1 := ⟨_, _, Tryd.func27, rfl, by kernel_rfl, by kernel_rfl, by kernel_rfl, by kernel_rfl, Nat.le_of_ble_eq_true (by kernel_rfl), by kernel_rfl⟩

/-- ablaut/ablautref25.tos -/
def L28 : LCode :=
 (.seq
 (.ops [⟨some 2, .assign (Operand.const (Value.slice none 0 0)), none, 0⟩])
 (.seq
 (.ops [⟨some 3, .assign (Operand.const (Value.slice none 0 0)), none, 0⟩])
 (.seq
 (.seq
 (.ops [⟨some 4, .assign (Operand.const (Value.int IntKind.i64 0)), none, 0⟩])
 (.block 0
 (.loop
 (.seq
 (.seq
 (.ops [⟨some 5, .move (Operand.tmp 4), none, 0⟩,
 ⟨some 6, .move (Operand.tmp 0), none, 0⟩,
 ⟨some 7, .call ⟨(Callee.builtin Builtin.len), [(Operand.tmp 6)].toArray, #[22]⟩, none, 0⟩,
 ⟨some 8, .binOp BinOp.lss 3 (Operand.tmp 5) (Operand.tmp 7) 3, none, 0⟩])
 (.cond (Operand.tmp 8)
 .skip
 (.exit 0)))
 (.seq
 (.block 1
 (.ops [⟨some 11, .move (Operand.tmp 3), none, 0⟩,
 ⟨some 12, .move (Operand.tmp 0), none, 0⟩,
 ⟨some 13, .move (Operand.tmp 4), none, 0⟩,
 ⟨some 14, .indexAddr 22 (Operand.tmp 12) (Operand.tmp 13), none, 0⟩,
 ⟨some 15, .fieldAddr 46 (Operand.tmp 14) 1, none, 0⟩,
 ⟨some 16, .load 29 (Operand.tmp 15), none, 0⟩,
 ⟨some 17, .buildSlice 49 1 [(0, (Operand.tmp 16))].toArray, none, 0⟩,
 ⟨some 18, .call ⟨(Callee.builtin Builtin.append), [(Operand.tmp 11), (Operand.tmp 17)].toArray, #[49, 49]⟩, none, 0⟩,
 ⟨some 3, .assign (Operand.tmp 18), none, 0⟩]))
 (.ops [⟨some 9, .move (Operand.tmp 4), none, 0⟩,
 ⟨some 10, .binOp BinOp.add 3 (Operand.tmp 9) (Operand.const (Value.int IntKind.i64 1)) 3, none, 0⟩,
 ⟨some 4, .assign (Operand.tmp 10), none, 0⟩]))))))
 (.seq
 (.ops [⟨some 19, .move (Operand.tmp 3), none, 0⟩,
 ⟨some 2, .assign (Operand.tmp 19), none, 0⟩])
 .ret))))
abbrev R28 : List ResultVar := [ResultVar.tmp 2]
theorem ok28 : FnOK Tryd.prog 28 L28 R28 1 := ⟨_, _, Tryd.func28, rfl, by kernel_rfl, by kernel_rfl, by kernel_rfl, by kernel_rfl, Nat.le_of_ble_eq_true (by kernel_rfl), by kernel_rfl⟩

/-- ablaut/ablautref25.Shifted -/
def L29 : LCode :=
 (.seq
 (.ops [⟨some 4, .assign (Operand.const (Value.slice none 0 0)), none, 0⟩,
 ⟨some 5, .assign (Operand.const (Value.bool false)), none, 0⟩,
 ⟨some 6, .assign (Operand.const (Value.slice none 0 0)), none, 0⟩])
 (.seq
 (.ops [⟨some 7, .assign (Operand.const (Value.slice none 0 0)), none, 0⟩])
 (.seq
 (.ops [⟨some 8, .assign (Operand.const (Value.bool true)), none, 0⟩])
 (.seq
 (.ops [⟨some 11, .move (Operand.tmp 0), none, 0⟩,
 ⟨some 12, .call ⟨(Callee.builtin Builtin.len), [(Operand.tmp 11)].toArray, #[22]⟩, none, 0⟩,
 ⟨some 13, .makeSlice 56 (Operand.tmp 12) (Operand.tmp 12), none, 0⟩,
 ⟨some 9, .assign (Operand.tmp 13), none, 0⟩])
 (.seq
 (.block 0
 (.loop
 (.seq
 (.seq
 (.ops [⟨some 14, .move (Operand.tmp 1), none, 0⟩,
 ⟨some 15, .call ⟨(Callee.builtin Builtin.len), [(Operand.tmp 14)].toArray, #[29]⟩, none, 0⟩,
 ⟨some 16, .binOp BinOp.gtr 3 (Operand.tmp 15) (Operand.const (Value.int IntKind.i64 0)) 3, none, 0⟩])
 (.cond (Operand.tmp 16)
 .skip
 (.exit 0)))
 (.block 1
 (.seq
 (.ops [⟨some 17, .move (Operand.tmp 0), none, 0⟩,
 ⟨some 18, .move (Operand.tmp 1), none, 0⟩,
 ⟨some 19, .call ⟨(Callee.value (Operand.func 58)), [(Operand.tmp 17), (Operand.tmp 18)].toArray, #[22, 29]⟩, none, 0⟩,
 ⟨some 10, .assign (Operand.tmp 19), none, 0⟩])
 (.seq
 (.seq
 (.ops [⟨some 20, .move (Operand.tmp 10), none, 0⟩,
 ⟨some 21, .binOp BinOp.lss 3 (Operand.tmp 20) (Operand.const (Value.int IntKind.i64 0)) 3, none, 0⟩])
 (.cond (Operand.tmp 21)
 (.seq
 (.ops [⟨some 22, .move (Operand.tmp 7), none, 0⟩,
 ⟨some 23, .move (Operand.tmp 1), none, 0⟩,
 ⟨some 24, .indexAddr 29 (Operand.tmp 23) (Operand.const (Value.int IntKind.i64 0)), none, 0⟩,
 ⟨some 25, .load 9 (Operand.tmp 24), none, 0⟩,
 ⟨some 26, .buildSlice 29 1 [(0, (Operand.tmp 25))].toArray, none, 0⟩,
 ⟨some 27, .call ⟨(Callee.builtin Builtin.append), [(Operand.tmp 22), (Operand.tmp 26)].toArray, #[29, 29]⟩, none, 0⟩,
 ⟨some 7, .assign (Operand.tmp 27), none, 0⟩])
 (.seq
 (.ops [⟨some 28, .move (Operand.tmp 1), none, 0⟩,
 ⟨some 29, .slice 29 (Operand.tmp 28) (some (Operand.const (Value.int IntKind.i64 1))) none none, none, 0⟩,
 ⟨some 1, .assign (Operand.tmp 29), none, 0⟩])
 (.seq
 (.ops [⟨some 8, .assign (Operand.const (Value.bool false)), none, 0⟩])
 (.exit 1))))
 .skip))
 (.seq
 (.ops [⟨some 30, .move (Operand.tmp 9), none, 0⟩,
 ⟨some 31, .move (Operand.tmp 10), none, 0⟩,
 ⟨some 32, .indexAddr 56 (Operand.tmp 30) (Operand.tmp 31), none, 0⟩,
 ⟨some 33, .load 3 (Operand.tmp 32), none, 0⟩,
 ⟨some 34, .binOp BinOp.add 3 (Operand.tmp 33) (Operand.const (Value.int IntKind.i64 1)) 3, none, 0⟩,
 ⟨some 35, .indexAddr 56 (Operand.tmp 30) (Operand.tmp 31), none, 0⟩,
 ⟨none, .store 3 (Operand.tmp 35) (Operand.tmp 34), none, 0⟩])
 (.seq
 (.ops [⟨some 36, .move (Operand.tmp 7), none, 0⟩,
 ⟨some 37, .move (Operand.tmp 0), none, 0⟩,
 ⟨some 38, .move (Operand.tmp 10), none, 0⟩,
 ⟨some 39, .indexAddr 22 (Operand.tmp 37) (Operand.tmp 38), none, 0⟩,
 ⟨some 40, .fieldAddr 46 (Operand.tmp 39) 1, none, 0⟩,
 ⟨some 41, .load 29 (Operand.tmp 40), none, 0⟩,
 ⟨some 42, .call ⟨(Callee.builtin Builtin.append), [(Operand.tmp 36), (Operand.tmp 41)].toArray, #[29, 29]⟩, none, 0⟩,
 ⟨some 7, .assign (Operand.tmp 42), none, 0⟩])
 (.ops [⟨some 43, .move (Operand.tmp 1), none, 0⟩,
 ⟨some 44, .move (Operand.tmp 0), none, 0⟩,
 ⟨some 45, .move (Operand.tmp 10), none, 0⟩,
 ⟨some 46, .indexAddr 22 (Operand.tmp 44) (Operand.tmp 45), none, 0⟩,
 ⟨some 47, .fieldAddr 46 (Operand.tmp 46) 0, none, 0⟩,
 ⟨some 48, .load 29 (Operand.tmp 47), none, 0⟩,
 ⟨some 49, .call ⟨(Callee.builtin Builtin.len), [(Operand.tmp 48)].toArray, #[29]⟩, none, 0⟩,
 ⟨some 50, .slice 29 (Operand.tmp 43) (some (Operand.tmp 49)) none none, none, 0⟩,
 ⟨some 1, .assign (Operand.tmp 50), none, 0⟩])))))))))
 (.seq
 (.ops [⟨some 51, .move (Operand.tmp 7), none, 0⟩,
 ⟨some 52, .move (Operand.tmp 8), none, 0⟩,
 ⟨some 53, .move (Operand.tmp 9), none, 0⟩,
 ⟨some 4, .assign (Operand.tmp 51), none, 0⟩,
 ⟨some 5, .assign (Operand.tmp 52), none, 0⟩,
 ⟨some 6, .assign (Operand.tmp 53), none, 0⟩])
 .ret))))))
abbrev R29 : List ResultVar := [ResultVar.tmp 4, ResultVar.tmp 5, ResultVar.tmp 6]
theorem ok29 : FnOK Tryd.prog 29 L29 R29 2 := ⟨_, _, Tryd.func29, rfl, by kernel_rfl, by kernel_rfl, by kernel_rfl, by kernel_rfl, Nat.le_of_ble_eq_true (by kernel_rfl), by kernel_rfl⟩

/-- ablaut/ablautref01.Join -/
def L30 : LCode :=
 (.seq
 (.ops [⟨some 4, .assign (Operand.const (Value.slice none 0 0)), none, 0⟩])
 (.seq
 (.ops [⟨some 5, .buildSlice 29 0 [].toArray, none, 0⟩,
 ⟨some 6, .move (Operand.tmp 0), none, 0⟩,
 ⟨some 7, .call ⟨(Callee.builtin Builtin.append), [(Operand.tmp 5), (Operand.tmp 6)].toArray, #[29, 29]⟩, none, 0⟩,
 ⟨some 8, .move (Operand.tmp 1), none, 0⟩,
 ⟨some 9, .call ⟨(Callee.builtin Builtin.append), [(Operand.tmp 7), (Operand.tmp 8)].toArray, #[29, 29]⟩, none, 0⟩,
 ⟨some 4, .assign (Operand.tmp 9), none, 0⟩])
 .ret))
abbrev R30 : List ResultVar := [ResultVar.tmp 4]
theorem ok30 : FnOK Tryd.prog 30 L30 R30 2 := ⟨_, _, Tryd.func30, rfl, by kernel_rfl, by kernel_rfl, by kernel_rfl, by kernel_rfl, Nat.le_of_ble_eq_true (by kernel_rfl), by kernel_rfl⟩

/-- ablaut/ablautref25.flow -/
def L31 : LCode :=
 (.seq
 (.ops [⟨some 4, .assign (Operand.const (Value.slice none 0 0)), none, 0⟩,
 ⟨some 5, .assign (Operand.const (Value.slice none 0 0)), none, 0⟩])
 (.seq
 (.ops [⟨some 6, .assign (Operand.const (Value.slice none 0 0)), none, 0⟩])
 (.seq
 (.block 0
 (.loop
 (.seq
 (.seq
 (.ops [⟨some 8, .move (Operand.tmp 1), none, 0⟩,
 ⟨some 9, .call ⟨(Callee.builtin Builtin.len), [(Operand.tmp 8)].toArray, #[29]⟩, none, 0⟩,
 ⟨some 10, .binOp BinOp.gtr 3 (Operand.tmp 9) (Operand.const (Value.int IntKind.i64 0)) 3, none, 0⟩,
 ⟨some 11, .move (Operand.tmp 10), none, 0⟩,
 ⟨some 12, .move (Operand.tmp 0), some (11, true), 0⟩,
 ⟨some 13, .move (Operand.tmp 1), some (11, true), 0⟩,
 ⟨some 14, .call ⟨(Callee.value (Operand.func 59)), [(Operand.tmp 12), (Operand.tmp 13)].toArray, #[22, 29]⟩, some (11, true), 0⟩,
 ⟨some 15, .unOp UnOp.not 4 (Operand.tmp 14), some (11, true), 0⟩,
 ⟨some 16, .pick (Operand.tmp 11) (Operand.tmp 15) (Operand.const (Value.bool false)), none, 0⟩])
 (.cond (Operand.tmp 16)
 .skip
 (.exit 0)))
 (.block 1
 (.seq
 (.ops [⟨some 17, .move (Operand.tmp 0), none, 0⟩,
 ⟨some 18, .move (Operand.tmp 1), none, 0⟩,
 ⟨some 19, .call ⟨(Callee.value (Operand.func 58)), [(Operand.tmp 17), (Operand.tmp 18)].toArray, #[22, 29]⟩, none, 0⟩,
 ⟨some 7, .assign (Operand.tmp 19), none, 0⟩])
 (.seq
 (.ops [⟨some 20, .move (Operand.tmp 7), none, 0⟩,
 ⟨some 21, .binOp BinOp.geq 3 (Operand.tmp 20) (Operand.const (Value.int IntKind.i64 0)) 3, none, 0⟩])
 (.cond (Operand.tmp 21)
 (.seq
 (.ops [⟨some 22, .move (Operand.tmp 6), none, 0⟩,
 ⟨some 23, .move (Operand.tmp 0), none, 0⟩,
 ⟨some 24, .move (Operand.tmp 7), none, 0⟩,
 ⟨some 25, .indexAddr 22 (Operand.tmp 23) (Operand.tmp 24), none, 0⟩,
 ⟨some 26, .fieldAddr 46 (Operand.tmp 25) 1, none, 0⟩,
 ⟨some 27, .load 29 (Operand.tmp 26), none, 0⟩,
 ⟨some 28, .call ⟨(Callee.builtin Builtin.append), [(Operand.tmp 22), (Operand.tmp 27)].toArray, #[29, 29]⟩, none, 0⟩,
 ⟨some 6, .assign (Operand.tmp 28), none, 0⟩])
 (.ops [⟨some 29, .move (Operand.tmp 1), none, 0⟩,
 ⟨some 30, .move (Operand.tmp 0), none, 0⟩,
 ⟨some 31, .move (Operand.tmp 7), none, 0⟩,
 ⟨some 32, .indexAddr 22 (Operand.tmp 30) (Operand.tmp 31), none, 0⟩,
 ⟨some 33, .fieldAddr 46 (Operand.tmp 32) 0, none, 0⟩,
 ⟨some 34, .load 29 (Operand.tmp 33), none, 0⟩,
 ⟨some 35, .call ⟨(Callee.builtin Builtin.len), [(Operand.tmp 34)].toArray, #[29]⟩, none, 0⟩,
 ⟨some 36, .slice 29 (Operand.tmp 29) (some (Operand.tmp 35)) none none, none, 0⟩,
 ⟨some 1, .assign (Operand.tmp 36), none, 0⟩]))
 (.seq
 (.ops [⟨some 37, .move (Operand.tmp 6), none, 0⟩,
 ⟨some 38, .move (Operand.tmp 1), none, 0⟩,
 ⟨some 39, .indexAddr 29 (Operand.tmp 38) (Operand.const (Value.int IntKind.i64 0)), none, 0⟩,
 ⟨some 40, .load 9 (Operand.tmp 39), none, 0⟩,
 ⟨some 41, .buildSlice 29 1 [(0, (Operand.tmp 40))].toArray, none, 0⟩,
 ⟨some 42, .call ⟨(Callee.builtin Builtin.append), [(Operand.tmp 37), (Operand.tmp 41)].toArray, #[29, 29]⟩, none, 0⟩,
 ⟨some 6, .assign (Operand.tmp 42), none, 0⟩])
 (.ops [⟨some 43, .move (Operand.tmp 1), none, 0⟩,
 ⟨some 44, .slice 29 (Operand.tmp 43) (some (Operand.const (Value.int IntKind.i64 1))) none none, none, 0⟩,
 ⟨some 1, .assign (Operand.tmp 44), none, 0⟩])))))))))
 (.seq
 (.ops [⟨some 45, .move (Operand.tmp 6), none, 0⟩,
 ⟨some 46, .move (Operand.tmp 1), none, 0⟩,
 ⟨some 4, .assign (Operand.tmp 45), none, 0⟩,
 ⟨some 5, .assign (Operand.tmp 46), none, 0⟩])
 .ret))))
abbrev R31 : List ResultVar := [ResultVar.tmp 4, ResultVar.tmp 5]
theorem ok31 : FnOK Tryd.prog 31 L31 R31 2 := ⟨_, _, Tryd.func31, rfl, by kernel_rfl, by kernel_rfl, by kernel_rfl, by kernel_rfl, Nat.le_of_ble_eq_true (by kernel_rfl), by kernel_rfl⟩

/-- ablaut/ablautref01.Written -/
def L32 : LCode :=
 (.seq
 (.ops [⟨some 2, .assign (Operand.const (Value.string ⟨#[]⟩)), none, 0⟩])
 (.seq
 (.ops [⟨some 3, .assign (Operand.const (Value.string ⟨#[]⟩)), none, 0⟩])
 (.seq
 (.seq
 (.ops [⟨some 4, .assign (Operand.const (Value.int IntKind.i64 0)), none, 0⟩])
 (.block 0
 (.loop
 (.seq
 (.seq
 (.ops [⟨some 5, .move (Operand.tmp 4), none, 0⟩,
 ⟨some 6, .move (Operand.tmp 0), none, 0⟩,
 ⟨some 7, .call ⟨(Callee.builtin Builtin.len), [(Operand.tmp 6)].toArray, #[29]⟩, none, 0⟩,
 ⟨some 8, .binOp BinOp.lss 3 (Operand.tmp 5) (Operand.tmp 7) 3, none, 0⟩])
 (.cond (Operand.tmp 8)
 .skip
 (.exit 0)))
 (.seq
 (.block 1
 (.seq
 (.ops [⟨some 11, .move (Operand.tmp 0), none, 0⟩,
 ⟨some 12, .move (Operand.tmp 4), none, 0⟩,
 ⟨some 13, .indexAddr 29 (Operand.tmp 11) (Operand.tmp 12), none, 0⟩,
 ⟨some 14, .load 9 (Operand.tmp 13), none, 0⟩,
 ⟨some 15, .call ⟨(Callee.builtin Builtin.len), [(Operand.tmp 14)].toArray, #[9]⟩, none, 0⟩,
 ⟨some 16, .binOp BinOp.eql 3 (Operand.tmp 15) (Operand.const (Value.int IntKind.i64 1)) 3, none, 0⟩])
 (.cond (Operand.tmp 16)
 (.ops [⟨some 17, .move (Operand.tmp 3), none, 0⟩,
 ⟨some 18, .move (Operand.tmp 0), none, 0⟩,
 ⟨some 19, .move (Operand.tmp 4), none, 0⟩,
 ⟨some 20, .indexAddr 29 (Operand.tmp 18) (Operand.tmp 19), none, 0⟩,
 ⟨some 21, .load 9 (Operand.tmp 20), none, 0⟩,
 ⟨some 22, .binOp BinOp.add 9 (Operand.tmp 17) (Operand.tmp 21) 9, none, 0⟩,
 ⟨some 3, .assign (Operand.tmp 22), none, 0⟩])
 (.ops [⟨some 23, .move (Operand.tmp 3), none, 0⟩,
 ⟨some 24, .move (Operand.tmp 0), none, 0⟩,
 ⟨some 25, .move (Operand.tmp 4), none, 0⟩,
 ⟨some 26, .indexAddr 29 (Operand.tmp 24) (Operand.tmp 25), none, 0⟩,
 ⟨some 27, .load 9 (Operand.tmp 26), none, 0⟩,
 ⟨some 28, .binOp BinOp.add 9 (Operand.const (Value.string ⟨#[60]⟩)) (Operand.tmp 27) 9, none, 0⟩,
 ⟨some 29, .binOp BinOp.add 9 (Operand.tmp 28) (Operand.const (Value.string ⟨#[62]⟩)) 9, none, 0⟩,
 ⟨some 30, .binOp BinOp.add 9 (Operand.tmp 23) (Operand.tmp 29) 9, none, 0⟩,
 ⟨some 3, .assign (Operand.tmp 30), none, 0⟩]))))
 (.ops [⟨some 9, .move (Operand.tmp 4), none, 0⟩,
 ⟨some 10, .binOp BinOp.add 3 (Operand.tmp 9) (Operand.const (Value.int IntKind.i64 1)) 3, none, 0⟩,
 ⟨some 4, .assign (Operand.tmp 10), none, 0⟩]))))))
 (.seq
 (.ops [⟨some 31, .move (Operand.tmp 3), none, 0⟩,
 ⟨some 2, .assign (Operand.tmp 31), none, 0⟩])
 .ret))))
abbrev R32 : List ResultVar := [ResultVar.tmp 2]
theorem ok32 : FnOK Tryd.prog 32 L32 R32 1 := ⟨_, _, Tryd.func32, rfl, by kernel_rfl, by kernel_rfl, by kernel_rfl, by kernel_rfl, Nat.le_of_ble_eq_true (by kernel_rfl), by kernel_rfl⟩

/-- ablaut/script.checked -/
def L33 : LCode :=
 (.seq
 (.ops [⟨some 4, .assign (Operand.const (Value.int IntKind.i64 0)), none, 0⟩])
 (.seq
 (.seq
 (.ops [⟨some 6, .move (Operand.tmp 0), none, 0⟩,
 ⟨some 7, .call ⟨(Callee.value (Operand.func 20)), [(Operand.tmp 6)].toArray, #[22]⟩, none, 0⟩,
 ⟨some 5, .assign (Operand.tmp 7), none, 0⟩])
 (.seq
 (.ops [⟨some 8, .move (Operand.tmp 5), none, 0⟩,
 ⟨some 9, .binOp BinOp.neq 25 (Operand.tmp 8) (Operand.const (Value.int IntKind.i64 0)) 25, none, 0⟩])
 (.cond (Operand.tmp 9)
 (.seq
 (.ops [⟨some 10, .move (Operand.tmp 5), none, 0⟩,
 ⟨some 4, .assign (Operand.tmp 10), none, 0⟩])
 .ret)
 .skip)))
 (.seq
 (.ops [⟨some 11, .move (Operand.tmp 1), none, 0⟩,
 ⟨some 12, .call ⟨(Callee.value (Operand.func 49)), [(Operand.tmp 11)].toArray, #[29]⟩, none, 0⟩,
 ⟨some 4, .assign (Operand.tmp 12), none, 0⟩])
 .ret)))
abbrev R33 : List ResultVar := [ResultVar.tmp 4]
theorem ok33 : FnOK Tryd.prog 33 L33 R33 2 := ⟨_, _, Tryd.func33, rfl, by kernel_rfl, by kernel_rfl, by kernel_rfl, by kernel_rfl, Nat.le_of_ble_eq_true (by kernel_rfl), by kernel_rfl⟩

/-- ablaut/ablautref01.Order -/
def L34 : LCode :=
 (.seq
 (.ops [⟨some 4, .assign (Operand.const (Value.int IntKind.i64 0)), none, 0⟩])
 (.seq
 (.seq
 (.ops [⟨some 5, .assign (Operand.const (Value.int IntKind.i64 0)), none, 0⟩])
 (.block 0
 (.loop
 (.seq
 (.seq
 (.ops [⟨some 6, .move (Operand.tmp 5), none, 0⟩,
 ⟨some 7, .move (Operand.tmp 0), none, 0⟩,
 ⟨some 8, .call ⟨(Callee.builtin Builtin.len), [(Operand.tmp 7)].toArray, #[29]⟩, none, 0⟩,
 ⟨some 9, .binOp BinOp.lss 3 (Operand.tmp 6) (Operand.tmp 8) 3, none, 0⟩,
 ⟨some 10, .move (Operand.tmp 9), none, 0⟩,
 ⟨some 11, .move (Operand.tmp 5), some (10, true), 0⟩,
 ⟨some 12, .move (Operand.tmp 1), some (10, true), 0⟩,
 ⟨some 13, .call ⟨(Callee.builtin Builtin.len), [(Operand.tmp 12)].toArray, #[29]⟩, some (10, true), 0⟩,
 ⟨some 14, .binOp BinOp.lss 3 (Operand.tmp 11) (Operand.tmp 13) 3, some (10, true), 0⟩,
 ⟨some 15, .pick (Operand.tmp 10) (Operand.tmp 14) (Operand.const (Value.bool false)), none, 0⟩])
 (.cond (Operand.tmp 15)
 .skip
 (.exit 0)))
 (.seq
 (.block 1
 (.seq
 (.seq
 (.draw [⟨some 18, .move (Operand.tmp 0), none, 0⟩,
 ⟨some 19, .move (Operand.tmp 5), none, 0⟩,
 ⟨some 20, .indexAddr 29 (Operand.tmp 18) (Operand.tmp 19), none, 0⟩,
 ⟨some 21, .load 9 (Operand.tmp 20), none, 0⟩,
 ⟨some 22, .move (Operand.tmp 1), none, 0⟩,
 ⟨some 23, .move (Operand.tmp 5), none, 0⟩,
 ⟨some 24, .indexAddr 29 (Operand.tmp 22) (Operand.tmp 23), none, 0⟩,
 ⟨some 25, .load 9 (Operand.tmp 24), none, 0⟩,
 ⟨some 26, .binOp BinOp.lss 9 (Operand.tmp 21) (Operand.tmp 25) 9, none, 0⟩] true [8] [0, 1, 2, 4, 5, 6, 3, 7, 8])
 (.cond (Operand.tmp 26)
 (.seq
 (.ops [⟨some 4, .assign (Operand.const (Value.int IntKind.i64 (-1))), none, 0⟩])
 .ret)
 .skip))
 (.seq
 (.draw [⟨some 27, .move (Operand.tmp 0), none, 0⟩,
 ⟨some 28, .move (Operand.tmp 5), none, 0⟩,
 ⟨some 29, .indexAddr 29 (Operand.tmp 27) (Operand.tmp 28), none, 0⟩,
 ⟨some 30, .load 9 (Operand.tmp 29), none, 0⟩,
 ⟨some 31, .move (Operand.tmp 1), none, 0⟩,
 ⟨some 32, .move (Operand.tmp 5), none, 0⟩,
 ⟨some 33, .indexAddr 29 (Operand.tmp 31) (Operand.tmp 32), none, 0⟩,
 ⟨some 34, .load 9 (Operand.tmp 33), none, 0⟩,
 ⟨some 35, .binOp BinOp.gtr 9 (Operand.tmp 30) (Operand.tmp 34) 9, none, 0⟩] true [8] [0, 1, 2, 4, 5, 6, 3, 7, 8])
 (.cond (Operand.tmp 35)
 (.seq
 (.ops [⟨some 4, .assign (Operand.const (Value.int IntKind.i64 1)), none, 0⟩])
 .ret)
 .skip))))
 (.ops [⟨some 16, .move (Operand.tmp 5), none, 0⟩,
 ⟨some 17, .binOp BinOp.add 3 (Operand.tmp 16) (Operand.const (Value.int IntKind.i64 1)) 3, none, 0⟩,
 ⟨some 5, .assign (Operand.tmp 17), none, 0⟩]))))))
 (.seq
 (.block 2
 (.seq
 (.ops [⟨some 37, .move (Operand.tmp 0), none, 0⟩,
 ⟨some 38, .call ⟨(Callee.builtin Builtin.len), [(Operand.tmp 37)].toArray, #[29]⟩, none, 0⟩,
 ⟨some 39, .move (Operand.tmp 1), none, 0⟩,
 ⟨some 40, .call ⟨(Callee.builtin Builtin.len), [(Operand.tmp 39)].toArray, #[29]⟩, none, 0⟩,
 ⟨some 41, .binOp BinOp.lss 3 (Operand.tmp 38) (Operand.tmp 40) 3, none, 0⟩,
 ⟨some 36, .assign (Operand.tmp 41), none, 0⟩])
 (.cond (Operand.tmp 36)
 (.seq
 (.ops [⟨some 4, .assign (Operand.const (Value.int IntKind.i64 (-1))), none, 0⟩])
 .ret)
 (.seq
 (.ops [⟨some 43, .move (Operand.tmp 0), none, 0⟩,
 ⟨some 44, .call ⟨(Callee.builtin Builtin.len), [(Operand.tmp 43)].toArray, #[29]⟩, none, 0⟩,
 ⟨some 45, .move (Operand.tmp 1), none, 0⟩,
 ⟨some 46, .call ⟨(Callee.builtin Builtin.len), [(Operand.tmp 45)].toArray, #[29]⟩, none, 0⟩,
 ⟨some 47, .binOp BinOp.gtr 3 (Operand.tmp 44) (Operand.tmp 46) 3, none, 0⟩,
 ⟨some 42, .assign (Operand.tmp 47), none, 0⟩])
 (.cond (Operand.tmp 42)
 (.seq
 (.ops [⟨some 4, .assign (Operand.const (Value.int IntKind.i64 1)), none, 0⟩])
 .ret)
 .skip)))))
 (.seq
 (.ops [⟨some 4, .assign (Operand.const (Value.int IntKind.i64 0)), none, 0⟩])
 .ret))))
abbrev R34 : List ResultVar := [ResultVar.tmp 4]
theorem ok34 : FnOK Tryd.prog 34 L34 R34 2 := ⟨_, _, Tryd.func34, rfl, by kernel_rfl, by kernel_rfl, by kernel_rfl, by kernel_rfl, Nat.le_of_ble_eq_true (by kernel_rfl), by kernel_rfl⟩

/-- strings.Cut -/
def L35 : LCode :=
 (.seq
 (.ops [⟨some 4, .assign (Operand.const (Value.string ⟨#[]⟩)), none, 0⟩,
 ⟨some 5, .assign (Operand.const (Value.string ⟨#[]⟩)), none, 0⟩,
 ⟨some 6, .assign (Operand.const (Value.bool false)), none, 0⟩])
 (.seq
 (.ops [⟨some 7, .move (Operand.tmp 0), none, 0⟩,
 ⟨some 8, .move (Operand.tmp 1), none, 0⟩,
 ⟨some 9, .call ⟨(Callee.value (Operand.func 60)), [(Operand.tmp 7), (Operand.tmp 8)].toArray, #[9, 9]⟩, none, 0⟩,
 ⟨some 10, .extract (Operand.tmp 9) 0, none, 0⟩,
 ⟨some 11, .extract (Operand.tmp 9) 1, none, 0⟩,
 ⟨some 12, .extract (Operand.tmp 9) 2, none, 0⟩,
 ⟨some 4, .assign (Operand.tmp 10), none, 0⟩,
 ⟨some 5, .assign (Operand.tmp 11), none, 0⟩,
 ⟨some 6, .assign (Operand.tmp 12), none, 0⟩])
 .ret))
abbrev R35 : List ResultVar := [ResultVar.tmp 4, ResultVar.tmp 5, ResultVar.tmp 6]
theorem ok35 : FnOK Tryd.prog 35 L35 R35 2 := ⟨_, _, Tryd.func35, rfl, by kernel_rfl, by kernel_rfl, by kernel_rfl, by kernel_rfl, Nat.le_of_ble_eq_true (by kernel_rfl), by kernel_rfl⟩

/-- strings.Split -/
def L36 : LCode :=
 (.seq
 (.ops [⟨some 4, .assign (Operand.const (Value.slice none 0 0)), none, 0⟩])
 (.seq
 (.ops [⟨some 5, .move (Operand.tmp 0), none, 0⟩,
 ⟨some 6, .move (Operand.tmp 1), none, 0⟩,
 ⟨some 7, .call ⟨(Callee.value (Operand.func 61)), [(Operand.tmp 5), (Operand.tmp 6), (Operand.const (Value.int IntKind.i64 0)), (Operand.const (Value.int IntKind.i64 (-1)))].toArray, #[9, 9, 3, 3]⟩, none, 0⟩,
 ⟨some 4, .assign (Operand.tmp 7), none, 0⟩])
 .ret))
abbrev R36 : List ResultVar := [ResultVar.tmp 4]
theorem ok36 : FnOK Tryd.prog 36 L36 R36 2 := ⟨_, _, Tryd.func36, rfl, by kernel_rfl, by kernel_rfl, by kernel_rfl, by kernel_rfl, Nat.le_of_ble_eq_true (by kernel_rfl), by kernel_rfl⟩

/-- ablaut/script.read -/
def L37 : LCode :=
 (.seq
 (.ops [⟨some 2, .assign (Operand.const (Value.slice none 0 0)), none, 0⟩,
 ⟨some 3, .assign (Operand.const (Value.bool false)), none, 0⟩])
 (.seq
 (.seq
 (.ops [⟨some 7, .move (Operand.tmp 0), none, 0⟩,
 ⟨some 8, .binOp BinOp.eql 9 (Operand.tmp 7) (Operand.const (Value.string ⟨#[91, 93]⟩)) 9, none, 0⟩])
 (.cond (Operand.tmp 8)
 (.seq
 (.ops [⟨some 2, .assign (Operand.const (Value.slice none 0 0)), none, 0⟩,
 ⟨some 3, .assign (Operand.const (Value.bool true)), none, 0⟩])
 .ret)
 .skip))
 (.seq
 (.seq
 (.ops [⟨some 9, .move (Operand.tmp 0), none, 0⟩,
 ⟨some 10, .binOp BinOp.eql 9 (Operand.tmp 9) (Operand.const (Value.string ⟨#[]⟩)) 9, none, 0⟩])
 (.cond (Operand.tmp 10)
 (.seq
 (.ops [⟨some 2, .assign (Operand.const (Value.slice none 0 0)), none, 0⟩,
 ⟨some 3, .assign (Operand.const (Value.bool false)), none, 0⟩])
 .ret)
 .skip))
 (.seq
 (.ops [⟨some 4, .assign (Operand.const (Value.slice none 0 0)), none, 0⟩])
 (.seq
 (.block 0
 (.loop
 (.seq
 (.seq
 (.ops [⟨some 11, .move (Operand.tmp 0), none, 0⟩,
 ⟨some 12, .binOp BinOp.neq 9 (Operand.tmp 11) (Operand.const (Value.string ⟨#[]⟩)) 9, none, 0⟩])
 (.cond (Operand.tmp 12)
 .skip
 (.exit 0)))
 (.block 1
 (.seq
 (.draw [⟨some 13, .move (Operand.tmp 0), none, 0⟩,
 ⟨some 14, .slice 9 (Operand.tmp 13) none (some (Operand.const (Value.int IntKind.i64 1))) none, none, 0⟩,
 ⟨some 5, .assign (Operand.const (Value.int IntKind.i64 1)), none, 0⟩,
 ⟨some 6, .assign (Operand.tmp 14), none, 0⟩] true [3] [0, 2, 1, 3])
 (.seq
 (.seq
 (.ops [⟨some 15, .move (Operand.tmp 0), none, 0⟩,
 ⟨some 16, .index 9 (Operand.tmp 15) (Operand.const (Value.int IntKind.i64 0)), none, 0⟩,
 ⟨some 17, .binOp BinOp.eql 5 (Operand.tmp 16) (Operand.const (Value.int IntKind.u8 60)) 5, none, 0⟩])
 (.cond (Operand.tmp 17)
 (.seq
 (.ops [⟨some 18, .move (Operand.tmp 0), none, 0⟩,
 ⟨some 19, .call ⟨(Callee.value (Operand.func 62)), [(Operand.tmp 18), (Operand.const (Value.int IntKind.u8 62))].toArray, #[9, 5]⟩, none, 0⟩,
 ⟨some 20, .binOp BinOp.add 3 (Operand.tmp 19) (Operand.const (Value.int IntKind.i64 1)) 3, none, 0⟩,
 ⟨some 5, .assign (Operand.tmp 20), none, 0⟩])
 (.seq
 (.seq
 (.ops [⟨some 21, .move (Operand.tmp 5), none, 0⟩,
 ⟨some 22, .binOp BinOp.lss 3 (Operand.tmp 21) (Operand.const (Value.int IntKind.i64 4)) 3, none, 0⟩])
 (.cond (Operand.tmp 22)
 (.seq
 (.ops [⟨some 2, .assign (Operand.const (Value.slice none 0 0)), none, 0⟩,
 ⟨some 3, .assign (Operand.const (Value.bool false)), none, 0⟩])
 .ret)
 .skip))
 (.ops [⟨some 23, .move (Operand.tmp 0), none, 0⟩,
 ⟨some 24, .move (Operand.tmp 5), none, 0⟩,
 ⟨some 25, .binOp BinOp.sub 3 (Operand.tmp 24) (Operand.const (Value.int IntKind.i64 1)) 3, none, 0⟩,
 ⟨some 26, .slice 9 (Operand.tmp 23) (some (Operand.const (Value.int IntKind.i64 1))) (some (Operand.tmp 25)) none, none, 0⟩,
 ⟨some 6, .assign (Operand.tmp 26), none, 0⟩])))
 .skip))
 (.seq
 (.seq
 (.ops [⟨some 27, .move (Operand.tmp 6), none, 0⟩,
 ⟨some 28, .buildSlice 29 1 [(0, (Operand.tmp 27))].toArray, none, 0⟩,
 ⟨some 29, .call ⟨(Callee.value (Operand.func 49)), [(Operand.tmp 28)].toArray, #[29]⟩, none, 0⟩,
 ⟨some 30, .binOp BinOp.neq 25 (Operand.tmp 29) (Operand.const (Value.int IntKind.i64 0)) 25, none, 0⟩])
 (.cond (Operand.tmp 30)
 (.seq
 (.ops [⟨some 2, .assign (Operand.const (Value.slice none 0 0)), none, 0⟩,
 ⟨some 3, .assign (Operand.const (Value.bool false)), none, 0⟩])
 .ret)
 .skip))
 (.draw [⟨some 31, .move (Operand.tmp 4), none, 0⟩,
 ⟨some 32, .move (Operand.tmp 6), none, 0⟩,
 ⟨some 33, .buildSlice 29 1 [(0, (Operand.tmp 32))].toArray, none, 0⟩,
 ⟨some 34, .call ⟨(Callee.builtin Builtin.append), [(Operand.tmp 31), (Operand.tmp 33)].toArray, #[29, 29]⟩, none, 0⟩,
 ⟨some 35, .move (Operand.tmp 0), none, 0⟩,
 ⟨some 36, .move (Operand.tmp 5), none, 0⟩,
 ⟨some 37, .slice 9 (Operand.tmp 35) (some (Operand.tmp 36)) none none, none, 0⟩,
 ⟨some 4, .assign (Operand.tmp 34), none, 0⟩,
 ⟨some 0, .assign (Operand.tmp 37), none, 0⟩] true [8] []))))))))
 (.seq
 (.ops [⟨some 38, .move (Operand.tmp 4), none, 0⟩,
 ⟨some 2, .assign (Operand.tmp 38), none, 0⟩,
 ⟨some 3, .assign (Operand.const (Value.bool true)), none, 0⟩])
 .ret))))))
abbrev R37 : List ResultVar := [ResultVar.tmp 2, ResultVar.tmp 3]
theorem ok37 : FnOK Tryd.prog 37 L37 R37 1 := ⟨_, _, Tryd.func37, rfl, by kernel_rfl, by kernel_rfl, by kernel_rfl, by kernel_rfl, Nat.le_of_ble_eq_true (by kernel_rfl), by kernel_rfl⟩

/-- slices.ContainsFunc[[]ablaut/api.Shift,ablaut/api.Shift] -/
def L38 : LCode :=
 (.seq
 (.ops [⟨some 4, .assign (Operand.const (Value.bool false)), none, 0⟩])
 (.seq
 (.ops [⟨some 5, .move (Operand.tmp 0), none, 0⟩,
 ⟨some 6, .move (Operand.tmp 1), none, 0⟩,
 ⟨some 7, .call ⟨(Callee.value (Operand.func 63)), [(Operand.tmp 5), (Operand.tmp 6)].toArray, #[22, 71]⟩, none, 0⟩,
 ⟨some 8, .binOp BinOp.geq 3 (Operand.tmp 7) (Operand.const (Value.int IntKind.i64 0)) 3, none, 0⟩,
 ⟨some 4, .assign (Operand.tmp 8), none, 0⟩])
 .ret))
abbrev R38 : List ResultVar := [ResultVar.tmp 4]
theorem ok38 : FnOK Tryd.prog 38 L38 R38 2 := ⟨_, _, Tryd.func38, rfl, by kernel_rfl, by kernel_rfl, by kernel_rfl, by kernel_rfl, Nat.le_of_ble_eq_true (by kernel_rfl), by kernel_rfl⟩

/-- ablaut/script.Read$1 -/
def L39 : LCode :=
 (.seq
 (.ops [⟨some 2, .box 46 (Operand.tmp 0), none, 0⟩,
 ⟨some 3, .assign (Operand.const (Value.bool false)), none, 0⟩])
 (.seq
 (.ops [⟨some 4, .fieldAddr 46 (Operand.tmp 2) 0, none, 0⟩,
 ⟨some 5, .load 29 (Operand.tmp 4), none, 0⟩,
 ⟨some 6, .load 29 (Operand.tmp 1), none, 0⟩,
 ⟨some 7, .call ⟨(Callee.value (Operand.func 40)), [(Operand.tmp 5), (Operand.tmp 6)].toArray, #[29, 29]⟩, none, 0⟩,
 ⟨some 3, .assign (Operand.tmp 7), none, 0⟩])
 .ret))
abbrev R39 : List ResultVar := [ResultVar.tmp 3]
theorem ok39 : FnOK Tryd.prog 39 L39 R39 2 := ⟨_, _, Tryd.func39, rfl, by kernel_rfl, by kernel_rfl, by kernel_rfl, by kernel_rfl, Nat.le_of_ble_eq_true (by kernel_rfl), by kernel_rfl⟩

/-- slices.Equal[[]string,string] -/
def L40 : LCode :=
 (.seq
 (.ops [⟨some 4, .assign (Operand.const (Value.bool false)), none, 0⟩])
 (.seq
 (.seq
 (.ops [⟨some 6, .move (Operand.tmp 0), none, 0⟩,
 ⟨some 7, .call ⟨(Callee.builtin Builtin.len), [(Operand.tmp 6)].toArray, #[29]⟩, none, 0⟩,
 ⟨some 8, .move (Operand.tmp 1), none, 0⟩,
 ⟨some 9, .call ⟨(Callee.builtin Builtin.len), [(Operand.tmp 8)].toArray, #[29]⟩, none, 0⟩,
 ⟨some 10, .binOp BinOp.neq 3 (Operand.tmp 7) (Operand.tmp 9) 3, none, 0⟩])
 (.cond (Operand.tmp 10)
 (.seq
 (.ops [⟨some 4, .assign (Operand.const (Value.bool false)), none, 0⟩])
 .ret)
 .skip))
 (.seq
 (.seq
 (.ops [⟨some 11, .move (Operand.tmp 0), none, 0⟩,
 ⟨some 12, .call ⟨(Callee.builtin Builtin.len), [(Operand.tmp 11)].toArray, #[29]⟩, none, 0⟩,
 ⟨some 13, .move (Operand.const (Value.int IntKind.i64 0)), none, 0⟩])
 (.block 0
 (.loop
 (.seq
 (.ops [⟨some 14, .binOp BinOp.lss 3 (Operand.tmp 13) (Operand.tmp 12) 3, none, 0⟩])
 (.seq
 (.cond (Operand.tmp 14)
 .skip
 (.exit 0))
 (.seq
 (.block 1
 (.seq
 (.ops [⟨some 15, .move (Operand.tmp 13), none, 0⟩,
 ⟨some 5, .assign (Operand.tmp 15), none, 0⟩])
 (.seq
 (.draw [⟨some 16, .move (Operand.tmp 0), none, 0⟩,
 ⟨some 17, .move (Operand.tmp 5), none, 0⟩,
 ⟨some 18, .indexAddr 29 (Operand.tmp 16) (Operand.tmp 17), none, 0⟩,
 ⟨some 19, .load 9 (Operand.tmp 18), none, 0⟩,
 ⟨some 20, .move (Operand.tmp 1), none, 0⟩,
 ⟨some 21, .move (Operand.tmp 5), none, 0⟩,
 ⟨some 22, .indexAddr 29 (Operand.tmp 20) (Operand.tmp 21), none, 0⟩,
 ⟨some 23, .load 9 (Operand.tmp 22), none, 0⟩,
 ⟨some 24, .binOp BinOp.neq 9 (Operand.tmp 19) (Operand.tmp 23) 9, none, 0⟩] true [8] [0, 1, 2, 4, 5, 6, 3, 7, 8])
 (.cond (Operand.tmp 24)
 (.seq
 (.ops [⟨some 4, .assign (Operand.const (Value.bool false)), none, 0⟩])
 .ret)
 .skip))))
 (.ops [⟨some 25, .binOp BinOp.add 3 (Operand.tmp 13) (Operand.const (Value.int IntKind.i64 1)) 3, none, 0⟩,
 ⟨some 13, .move (Operand.tmp 25), none, 0⟩])))))))
 (.seq
 (.ops [⟨some 4, .assign (Operand.const (Value.bool true)), none, 0⟩])
 .ret))))
abbrev R40 : List ResultVar := [ResultVar.tmp 4]
theorem ok40 : FnOK Tryd.prog 40 L40 R40 2 := ⟨_, _, Tryd.func40, rfl, by kernel_rfl, by kernel_rfl, by kernel_rfl, by kernel_rfl, Nat.le_of_ble_eq_true (by kernel_rfl), by kernel_rfl⟩

/-- slices.SortFunc[[]ablaut/api.Shift,ablaut/api.Shift] -/
def L41 : LCode :=
 (.seq
 (.ops [⟨some 5, .move (Operand.tmp 0), none, 0⟩,
 ⟨some 6, .call ⟨(Callee.builtin Builtin.len), [(Operand.tmp 5)].toArray, #[22]⟩, none, 0⟩,
 ⟨some 4, .assign (Operand.tmp 6), none, 0⟩])
 (.ops [⟨some 7, .move (Operand.tmp 0), none, 0⟩,
 ⟨some 8, .move (Operand.tmp 4), none, 0⟩,
 ⟨some 9, .move (Operand.tmp 4), none, 0⟩,
 ⟨some 10, .convert 3 92 (Operand.tmp 9), none, 0⟩,
 ⟨some 11, .call ⟨(Callee.value (Operand.func 65)), [(Operand.tmp 10)].toArray, #[92]⟩, none, 0⟩,
 ⟨some 12, .move (Operand.tmp 1), none, 0⟩,
 ⟨some 13, .call ⟨(Callee.value (Operand.func 64)), [(Operand.tmp 7), (Operand.const (Value.int IntKind.i64 0)), (Operand.tmp 8), (Operand.tmp 11), (Operand.tmp 12)].toArray, #[22, 3, 3, 3, 73]⟩, none, 0⟩]))
abbrev R41 : List ResultVar := []
theorem ok41 : FnOK Tryd.prog 41 L41 R41 2 := ⟨_, _, Tryd.func41, rfl, by kernel_rfl, by kernel_rfl, by kernel_rfl, by kernel_rfl, Nat.le_of_ble_eq_true (by kernel_rfl), by kernel_rfl⟩

/-- ablaut/script.Read$2 -/
def L42 : LCode :=
 (.seq
 (.ops [⟨some 2, .box 46 (Operand.tmp 0), none, 0⟩,
 ⟨some 3, .box 46 (Operand.tmp 1), none, 0⟩,
 ⟨some 4, .assign (Operand.const (Value.int IntKind.i64 0)), none, 0⟩])
 (.seq
 (.ops [⟨some 5, .fieldAddr 46 (Operand.tmp 2) 0, none, 0⟩,
 ⟨some 6, .load 29 (Operand.tmp 5), none, 0⟩,
 ⟨some 7, .fieldAddr 46 (Operand.tmp 3) 0, none, 0⟩,
 ⟨some 8, .load 29 (Operand.tmp 7), none, 0⟩,
 ⟨some 9, .call ⟨(Callee.value (Operand.func 43)), [(Operand.tmp 6), (Operand.tmp 8)].toArray, #[29, 29]⟩, none, 0⟩,
 ⟨some 4, .assign (Operand.tmp 9), none, 0⟩])
 .ret))
abbrev R42 : List ResultVar := [ResultVar.tmp 4]
theorem ok42 : FnOK Tryd.prog 42 L42 R42 2 := ⟨_, _, Tryd.func42, rfl, by kernel_rfl, by kernel_rfl, by kernel_rfl, by kernel_rfl, Nat.le_of_ble_eq_true (by kernel_rfl), by kernel_rfl⟩

/-- slices.Compare[[]string,string] -/
def L43 : LCode :=
 (.seq
 (.ops [⟨some 4, .assign (Operand.const (Value.int IntKind.i64 0)), none, 0⟩])
 (.seq
 (.seq
 (.ops [⟨some 9, .move (Operand.tmp 0), none, 0⟩,
 ⟨some 10, .call ⟨(Callee.builtin Builtin.len), [(Operand.tmp 9)].toArray, #[29]⟩, none, 0⟩,
 ⟨some 11, .move (Operand.const (Value.int IntKind.i64 0)), none, 0⟩])
 (.block 0
 (.loop
 (.seq
 (.ops [⟨some 12, .binOp BinOp.lss 3 (Operand.tmp 11) (Operand.tmp 10) 3, none, 0⟩])
 (.seq
 (.cond (Operand.tmp 12)
 .skip
 (.exit 0))
 (.seq
 (.block 1
 (.seq
 (.ops [⟨some 13, .move (Operand.tmp 11), none, 0⟩,
 ⟨some 14, .indexAddr 29 (Operand.tmp 9) (Operand.tmp 11), none, 0⟩,
 ⟨some 15, .load 9 (Operand.tmp 14), none, 0⟩,
 ⟨some 5, .assign (Operand.tmp 13), none, 0⟩,
 ⟨some 6, .assign (Operand.tmp 15), none, 0⟩])
 (.seq
 (.seq
 (.ops [⟨some 16, .move (Operand.tmp 5), none, 0⟩,
 ⟨some 17, .move (Operand.tmp 1), none, 0⟩,
 ⟨some 18, .call ⟨(Callee.builtin Builtin.len), [(Operand.tmp 17)].toArray, #[29]⟩, none, 0⟩,
 ⟨some 19, .binOp BinOp.geq 3 (Operand.tmp 16) (Operand.tmp 18) 3, none, 0⟩])
 (.cond (Operand.tmp 19)
 (.seq
 (.ops [⟨some 4, .assign (Operand.const (Value.int IntKind.i64 1)), none, 0⟩])
 .ret)
 .skip))
 (.seq
 (.ops [⟨some 20, .move (Operand.tmp 1), none, 0⟩,
 ⟨some 21, .move (Operand.tmp 5), none, 0⟩,
 ⟨some 22, .indexAddr 29 (Operand.tmp 20) (Operand.tmp 21), none, 0⟩,
 ⟨some 23, .load 9 (Operand.tmp 22), none, 0⟩,
 ⟨some 7, .assign (Operand.tmp 23), none, 0⟩])
 (.seq
 (.ops [⟨some 24, .move (Operand.tmp 6), none, 0⟩,
 ⟨some 25, .move (Operand.tmp 7), none, 0⟩,
 ⟨some 26, .call ⟨(Callee.value (Operand.func 66)), [(Operand.tmp 24), (Operand.tmp 25)].toArray, #[9, 9]⟩, none, 0⟩,
 ⟨some 8, .assign (Operand.tmp 26), none, 0⟩])
 (.seq
 (.ops [⟨some 27, .move (Operand.tmp 8), none, 0⟩,
 ⟨some 28, .binOp BinOp.neq 3 (Operand.tmp 27) (Operand.const (Value.int IntKind.i64 0)) 3, none, 0⟩])
 (.cond (Operand.tmp 28)
 (.seq
 (.ops [⟨some 29, .move (Operand.tmp 8), none, 0⟩,
 ⟨some 4, .assign (Operand.tmp 29), none, 0⟩])
 .ret)
 .skip)))))))
 (.ops [⟨some 30, .binOp BinOp.add 3 (Operand.tmp 11) (Operand.const (Value.int IntKind.i64 1)) 3, none, 0⟩,
 ⟨some 11, .move (Operand.tmp 30), none, 0⟩])))))))
 (.seq
 (.seq
 (.ops [⟨some 31, .move (Operand.tmp 0), none, 0⟩,
 ⟨some 32, .call ⟨(Callee.builtin Builtin.len), [(Operand.tmp 31)].toArray, #[29]⟩, none, 0⟩,
 ⟨some 33, .move (Operand.tmp 1), none, 0⟩,
 ⟨some 34, .call ⟨(Callee.builtin Builtin.len), [(Operand.tmp 33)].toArray, #[29]⟩, none, 0⟩,
 ⟨some 35, .binOp BinOp.lss 3 (Operand.tmp 32) (Operand.tmp 34) 3, none, 0⟩])
 (.cond (Operand.tmp 35)
 (.seq
 (.ops [⟨some 4, .assign (Operand.const (Value.int IntKind.i64 (-1))), none, 0⟩])
 .ret)
 .skip))
 (.seq
 (.ops [⟨some 4, .assign (Operand.const (Value.int IntKind.i64 0)), none, 0⟩])
 .ret))))
abbrev R43 : List ResultVar := [ResultVar.tmp 4]
theorem ok43 : FnOK Tryd.prog 43 L43 R43 2 := ⟨_, _, Tryd.func43, rfl, by kernel_rfl, by kernel_rfl, by kernel_rfl, by kernel_rfl, Nat.le_of_ble_eq_true (by kernel_rfl), by kernel_rfl⟩

/-- ablaut/ablautref25.cut -/
def L44 : LCode :=
 (.seq
 (.ops [⟨some 4, .assign (Operand.const (Value.slice none 0 0)), none, 0⟩])
 (.seq
 (.ops [⟨some 5, .assign (Operand.const (Value.slice none 0 0)), none, 0⟩])
 (.seq
 (.ops [⟨some 6, .assign (Operand.const (Value.int IntKind.i64 0)), none, 0⟩])
 (.seq
 (.seq
 (.ops [⟨some 7, .assign (Operand.const (Value.int IntKind.i64 0)), none, 0⟩])
 (.block 0
 (.loop
 (.seq
 (.seq
 (.ops [⟨some 8, .move (Operand.tmp 7), none, 0⟩,
 ⟨some 9, .move (Operand.tmp 0), none, 0⟩,
 ⟨some 10, .call ⟨(Callee.builtin Builtin.len), [(Operand.tmp 9)].toArray, #[9]⟩, none, 0⟩,
 ⟨some 11, .binOp BinOp.leq 3 (Operand.tmp 8) (Operand.tmp 10) 3, none, 0⟩])
 (.cond (Operand.tmp 11)
 .skip
 (.exit 0)))
 (.seq
 (.block 1
 (.seq
 (.ops [⟨some 14, .move (Operand.tmp 7), none, 0⟩,
 ⟨some 15, .move (Operand.tmp 0), none, 0⟩,
 ⟨some 16, .call ⟨(Callee.builtin Builtin.len), [(Operand.tmp 15)].toArray, #[9]⟩, none, 0⟩,
 ⟨some 17, .binOp BinOp.eql 3 (Operand.tmp 14) (Operand.tmp 16) 3, none, 0⟩,
 ⟨some 18, .move (Operand.tmp 17), none, 0⟩,
 ⟨some 19, .move (Operand.tmp 0), some (18, false), 0⟩,
 ⟨some 20, .move (Operand.tmp 7), some (18, false), 0⟩,
 ⟨some 21, .index 9 (Operand.tmp 19) (Operand.tmp 20), some (18, false), 0⟩,
 ⟨some 22, .move (Operand.tmp 1), some (18, false), 0⟩,
 ⟨some 23, .binOp BinOp.eql 5 (Operand.tmp 21) (Operand.tmp 22) 5, some (18, false), 0⟩,
 ⟨some 24, .pick (Operand.tmp 18) (Operand.const (Value.bool true)) (Operand.tmp 23), none, 0⟩])
 (.cond (Operand.tmp 24)
 (.seq
 (.ops [⟨some 25, .move (Operand.tmp 5), none, 0⟩,
 ⟨some 26, .move (Operand.tmp 0), none, 0⟩,
 ⟨some 27, .move (Operand.tmp 6), none, 0⟩,
 ⟨some 28, .move (Operand.tmp 7), none, 0⟩,
 ⟨some 29, .slice 9 (Operand.tmp 26) (some (Operand.tmp 27)) (some (Operand.tmp 28)) none, none, 0⟩,
 ⟨some 30, .buildSlice 29 1 [(0, (Operand.tmp 29))].toArray, none, 0⟩,
 ⟨some 31, .call ⟨(Callee.builtin Builtin.append), [(Operand.tmp 25), (Operand.tmp 30)].toArray, #[29, 29]⟩, none, 0⟩,
 ⟨some 5, .assign (Operand.tmp 31), none, 0⟩])
 (.ops [⟨some 32, .move (Operand.tmp 7), none, 0⟩,
 ⟨some 33, .binOp BinOp.add 3 (Operand.tmp 32) (Operand.const (Value.int IntKind.i64 1)) 3, none, 0⟩,
 ⟨some 6, .assign (Operand.tmp 33), none, 0⟩]))
 .skip)))
 (.ops [⟨some 12, .move (Operand.tmp 7), none, 0⟩,
 ⟨some 13, .binOp BinOp.add 3 (Operand.tmp 12) (Operand.const (Value.int IntKind.i64 1)) 3, none, 0⟩,
 ⟨some 7, .assign (Operand.tmp 13), none, 0⟩]))))))
 (.seq
 (.ops [⟨some 34, .move (Operand.tmp 5), none, 0⟩,
 ⟨some 4, .assign (Operand.tmp 34), none, 0⟩])
 .ret)))))
abbrev R44 : List ResultVar := [ResultVar.tmp 4]
theorem ok44 : FnOK Tryd.prog 44 L44 R44 2 := ⟨_, _, Tryd.func44, rfl, by kernel_rfl, by kernel_rfl, by kernel_rfl, by kernel_rfl, Nat.le_of_ble_eq_true (by kernel_rfl), by kernel_rfl⟩

/-- ablaut/ablautref25.read -/
def L45 : LCode :=
 (.seq
 (.ops [⟨some 2, .assign (Operand.const (Value.slice none 0 0)), none, 0⟩,
 ⟨some 3, .assign (Operand.const (Value.bool false)), none, 0⟩])
 (.seq
 (.seq
 (.ops [⟨some 6, .move (Operand.tmp 0), none, 0⟩,
 ⟨some 7, .binOp BinOp.eql 9 (Operand.tmp 6) (Operand.const (Value.string ⟨#[91, 93]⟩)) 9, none, 0⟩])
 (.cond (Operand.tmp 7)
 (.seq
 (.ops [⟨some 2, .assign (Operand.const (Value.slice none 0 0)), none, 0⟩,
 ⟨some 3, .assign (Operand.const (Value.bool true)), none, 0⟩])
 .ret)
 .skip))
 (.seq
 (.ops [⟨some 9, .move (Operand.tmp 0), none, 0⟩,
 ⟨some 10, .call ⟨(Callee.value (Operand.func 67)), [(Operand.tmp 9)].toArray, #[9]⟩, none, 0⟩,
 ⟨some 8, .move (Operand.tmp 10), none, 0⟩,
 ⟨some 11, .extract (Operand.tmp 8) 0, none, 0⟩,
 ⟨some 12, .extract (Operand.tmp 8) 1, none, 0⟩,
 ⟨some 4, .assign (Operand.tmp 11), none, 0⟩,
 ⟨some 5, .assign (Operand.tmp 12), none, 0⟩])
 (.seq
 (.ops [⟨some 13, .move (Operand.tmp 4), none, 0⟩,
 ⟨some 14, .move (Operand.tmp 5), none, 0⟩,
 ⟨some 15, .move (Operand.tmp 14), none, 0⟩,
 ⟨some 16, .move (Operand.tmp 0), some (15, true), 0⟩,
 ⟨some 17, .binOp BinOp.neq 9 (Operand.tmp 16) (Operand.const (Value.string ⟨#[]⟩)) 9, some (15, true), 0⟩,
 ⟨some 18, .pick (Operand.tmp 15) (Operand.tmp 17) (Operand.const (Value.bool false)), none, 0⟩,
 ⟨some 2, .assign (Operand.tmp 13), none, 0⟩,
 ⟨some 3, .assign (Operand.tmp 18), none, 0⟩])
 .ret))))
abbrev R45 : List ResultVar := [ResultVar.tmp 2, ResultVar.tmp 3]
theorem ok45 : FnOK Tryd.prog 45 L45 R45 1 := ⟨_, _, Tryd.func45, rfl, by kernel_rfl, by kernel_rfl, by kernel_rfl, by kernel_rfl, Nat.le_of_ble_eq_true (by kernel_rfl), by kernel_rfl⟩

/-- ablaut/ablautref25.sorted -/
def L46 : LCode :=
 (.seq
 (.ops [⟨some 2, .assign (Operand.const (Value.slice none 0 0)), none, 0⟩])
 (.seq
 (.ops [⟨some 3, .assign (Operand.const (Value.slice none 0 0)), none, 0⟩])
 (.seq
 (.seq
 (.ops [⟨some 4, .assign (Operand.const (Value.int IntKind.i64 0)), none, 0⟩])
 (.block 0
 (.loop
 (.seq
 (.seq
 (.ops [⟨some 7, .move (Operand.tmp 4), none, 0⟩,
 ⟨some 8, .move (Operand.tmp 0), none, 0⟩,
 ⟨some 9, .call ⟨(Callee.builtin Builtin.len), [(Operand.tmp 8)].toArray, #[22]⟩, none, 0⟩,
 ⟨some 10, .binOp BinOp.lss 3 (Operand.tmp 7) (Operand.tmp 9) 3, none, 0⟩])
 (.cond (Operand.tmp 10)
 .skip
 (.exit 0)))
 (.seq
 (.block 1
 (.seq
 (.ops [⟨some 13, .move (Operand.tmp 3), none, 0⟩,
 ⟨some 14, .call ⟨(Callee.builtin Builtin.len), [(Operand.tmp 13)].toArray, #[22]⟩, none, 0⟩,
 ⟨some 5, .assign (Operand.tmp 14), none, 0⟩])
 (.seq
 (.block 2
 (.loop
 (.seq
 (.seq
 (.draw [⟨some 15, .move (Operand.tmp 5), none, 0⟩,
 ⟨some 16, .binOp BinOp.gtr 3 (Operand.tmp 15) (Operand.const (Value.int IntKind.i64 0)) 3, none, 0⟩,
 ⟨some 17, .move (Operand.tmp 16), none, 0⟩,
 ⟨some 18, .move (Operand.tmp 3), some (17, true), 0⟩,
 ⟨some 19, .move (Operand.tmp 5), some (17, true), 0⟩,
 ⟨some 20, .binOp BinOp.sub 3 (Operand.tmp 19) (Operand.const (Value.int IntKind.i64 1)) 3, some (17, true), 0⟩,
 ⟨some 21, .indexAddr 22 (Operand.tmp 18) (Operand.tmp 20), some (17, true), 0⟩,
 ⟨some 22, .fieldAddr 46 (Operand.tmp 21) 0, some (17, true), 0⟩,
 ⟨some 23, .load 29 (Operand.tmp 22), some (17, true), 0⟩,
 ⟨some 24, .move (Operand.tmp 0), some (17, true), 0⟩,
 ⟨some 25, .move (Operand.tmp 4), some (17, true), 0⟩,
 ⟨some 26, .indexAddr 22 (Operand.tmp 24) (Operand.tmp 25), some (17, true), 0⟩,
 ⟨some 27, .fieldAddr 46 (Operand.tmp 26) 0, some (17, true), 0⟩,
 ⟨some 28, .load 29 (Operand.tmp 27), some (17, true), 0⟩,
 ⟨some 29, .call ⟨(Callee.value (Operand.func 34)), [(Operand.tmp 23), (Operand.tmp 28)].toArray, #[29, 29]⟩, some (17, true), 0⟩,
 ⟨some 30, .binOp BinOp.gtr 3 (Operand.tmp 29) (Operand.const (Value.int IntKind.i64 0)) 3, some (17, true), 0⟩,
 ⟨some 31, .pick (Operand.tmp 17) (Operand.tmp 30) (Operand.const (Value.bool false)), none, 0⟩] true [14, 15, 16] [0, 1, 2, 3, 4, 5, 6, 7, 9, 10, 11, 12, 8, 13, 14, 15, 16])
 (.cond (Operand.tmp 31)
 .skip
 (.exit 2)))
 (.block 3
 (.ops [⟨some 32, .move (Operand.tmp 5), none, 0⟩,
 ⟨some 33, .binOp BinOp.sub 3 (Operand.tmp 32) (Operand.const (Value.int IntKind.i64 1)) 3, none, 0⟩,
 ⟨some 5, .assign (Operand.tmp 33), none, 0⟩])))))
 (.seq
 (.ops [⟨some 34, .buildSlice 22 0 [].toArray, none, 0⟩,
 ⟨some 35, .move (Operand.tmp 3), none, 0⟩,
 ⟨some 36, .move (Operand.tmp 5), none, 0⟩,
 ⟨some 37, .slice 22 (Operand.tmp 35) none (some (Operand.tmp 36)) none, none, 0⟩,
 ⟨some 38, .call ⟨(Callee.builtin Builtin.append), [(Operand.tmp 34), (Operand.tmp 37)].toArray, #[22, 22]⟩, none, 0⟩,
 ⟨some 6, .assign (Operand.tmp 38), none, 0⟩])
 (.seq
 (.ops [⟨some 39, .move (Operand.tmp 6), none, 0⟩,
 ⟨some 40, .move (Operand.tmp 0), none, 0⟩,
 ⟨some 41, .move (Operand.tmp 4), none, 0⟩,
 ⟨some 42, .indexAddr 22 (Operand.tmp 40) (Operand.tmp 41), none, 0⟩,
 ⟨some 43, .load 46 (Operand.tmp 42), none, 0⟩,
 ⟨some 44, .buildSlice 22 1 [(0, (Operand.tmp 43))].toArray, none, 0⟩,
 ⟨some 45, .call ⟨(Callee.builtin Builtin.append), [(Operand.tmp 39), (Operand.tmp 44)].toArray, #[22, 22]⟩, none, 0⟩,
 ⟨some 6, .assign (Operand.tmp 45), none, 0⟩])
 (.ops [⟨some 46, .move (Operand.tmp 6), none, 0⟩,
 ⟨some 47, .move (Operand.tmp 3), none, 0⟩,
 ⟨some 48, .move (Operand.tmp 5), none, 0⟩,
 ⟨some 49, .slice 22 (Operand.tmp 47) (some (Operand.tmp 48)) none none, none, 0⟩,
 ⟨some 50, .call ⟨(Callee.builtin Builtin.append), [(Operand.tmp 46), (Operand.tmp 49)].toArray, #[22, 22]⟩, none, 0⟩,
 ⟨some 3, .assign (Operand.tmp 50), none, 0⟩]))))))
 (.ops [⟨some 11, .move (Operand.tmp 4), none, 0⟩,
 ⟨some 12, .binOp BinOp.add 3 (Operand.tmp 11) (Operand.const (Value.int IntKind.i64 1)) 3, none, 0⟩,
 ⟨some 4, .assign (Operand.tmp 12), none, 0⟩]))))))
 (.seq
 (.ops [⟨some 51, .move (Operand.tmp 3), none, 0⟩,
 ⟨some 2, .assign (Operand.tmp 51), none, 0⟩])
 .ret))))
abbrev R46 : List ResultVar := [ResultVar.tmp 2]
theorem ok46 : FnOK Tryd.prog 46 L46 R46 1 := ⟨_, _, Tryd.func46, rfl, by kernel_rfl, by kernel_rfl, by kernel_rfl, by kernel_rfl, Nat.le_of_ble_eq_true (by kernel_rfl), by kernel_rfl⟩

/-- ablaut/script.Reverse$1 -/
def L47 : LCode :=
 (.seq
 (.ops [⟨some 2, .box 46 (Operand.tmp 0), none, 0⟩,
 ⟨some 3, .box 46 (Operand.tmp 1), none, 0⟩,
 ⟨some 4, .assign (Operand.const (Value.int IntKind.i64 0)), none, 0⟩])
 (.seq
 (.ops [⟨some 5, .fieldAddr 46 (Operand.tmp 2) 0, none, 0⟩,
 ⟨some 6, .load 29 (Operand.tmp 5), none, 0⟩,
 ⟨some 7, .fieldAddr 46 (Operand.tmp 3) 0, none, 0⟩,
 ⟨some 8, .load 29 (Operand.tmp 7), none, 0⟩,
 ⟨some 9, .call ⟨(Callee.value (Operand.func 43)), [(Operand.tmp 6), (Operand.tmp 8)].toArray, #[29, 29]⟩, none, 0⟩,
 ⟨some 4, .assign (Operand.tmp 9), none, 0⟩])
 .ret))
abbrev R47 : List ResultVar := [ResultVar.tmp 4]
theorem ok47 : FnOK Tryd.prog 47 L47 R47 2 := ⟨_, _, Tryd.func47, rfl, by kernel_rfl, by kernel_rfl, by kernel_rfl, by kernel_rfl, Nat.le_of_ble_eq_true (by kernel_rfl), by kernel_rfl⟩
end Go.Proofs.YtldlcejlfaogbaaDoor.Vs
