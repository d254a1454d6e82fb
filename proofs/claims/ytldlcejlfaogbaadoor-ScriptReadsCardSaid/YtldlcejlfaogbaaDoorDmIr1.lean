/- The seat's functions as the engine Dm reads them, written by dgen.py. -/
import Derived.Test.YtldlcejlfaogbaaDoorDmFn
import Derived.Test.YtldlcejlfaogbaaDoorProg
import Derived.KernelRfl
namespace Go.Proofs.YtldlcejlfaogbaaDoor.Vs
set_option linter.unusedVariables false
set_option maxRecDepth 100000
/-- ablaut/script.joins -/
def L24 : LCode :=
 (.seq
 (.ops [⟨some 4, .assign (Operand.const (Value.bool false)), none, 0⟩])
 (.seq
 (.ops [⟨some 21, .makeMap 60 none, none, 0⟩,
 ⟨none, .insert 60 (Operand.tmp 21) (Operand.const (Value.string ⟨#[]⟩)) (Operand.const (Value.bool true)), none, 0⟩,
 ⟨some 22, .move (Operand.tmp 21), none, 0⟩,
 ⟨some 5, .assign (Operand.tmp 22), none, 0⟩])
 (.seq
 (.ops [⟨some 23, .buildSlice 29 1 [(0, (Operand.const (Value.string ⟨#[]⟩)))].toArray, none, 0⟩,
 ⟨some 6, .assign (Operand.tmp 23), none, 0⟩])
 (.seq
 (.seq
 (.ops [⟨some 7, .assign (Operand.const (Value.int IntKind.i64 0)), none, 0⟩])
 (.block 0
 (.loop
 (.seq
 (.seq
 (.ops [⟨some 24, .move (Operand.tmp 7), none, 0⟩,
 ⟨some 25, .move (Operand.tmp 6), none, 0⟩,
 ⟨some 26, .call ⟨(Callee.builtin Builtin.len), [(Operand.tmp 25)].toArray, #[29]⟩, none, 0⟩,
 ⟨some 27, .binOp BinOp.lss 3 (Operand.tmp 24) (Operand.tmp 26) 3, none, 0⟩])
 (.cond (Operand.tmp 27)
 .skip
 (.exit 0)))
 (.seq
 (.block 1
 (.seq
 (.ops [⟨some 30, .move (Operand.tmp 6), none, 0⟩,
 ⟨some 31, .move (Operand.tmp 7), none, 0⟩,
 ⟨some 32, .indexAddr 29 (Operand.tmp 30) (Operand.tmp 31), none, 0⟩,
 ⟨some 33, .load 9 (Operand.tmp 32), none, 0⟩,
 ⟨some 34, .call ⟨(Callee.value (Operand.func 53)), [(Operand.tmp 33)].toArray, #[9]⟩, none, 0⟩,
 ⟨some 8, .assign (Operand.tmp 34), none, 0⟩])
 (.seq
 (.ops [⟨some 36, .move (Operand.tmp 1), none, 0⟩,
 ⟨some 37, .move (Operand.tmp 8), none, 0⟩,
 ⟨some 38, .call ⟨(Callee.value (Operand.func 22)), [(Operand.tmp 36), (Operand.tmp 37)].toArray, #[22, 29]⟩, none, 0⟩,
 ⟨some 35, .move (Operand.tmp 38), none, 0⟩,
 ⟨some 39, .extract (Operand.tmp 35) 0, none, 0⟩,
 ⟨some 40, .extract (Operand.tmp 35) 1, none, 0⟩,
 ⟨some 9, .assign (Operand.tmp 39), none, 0⟩,
 ⟨some 10, .assign (Operand.tmp 40), none, 0⟩])
 (.seq
 (.ops [⟨some 41, .move (Operand.tmp 0), none, 0⟩,
 ⟨some 42, .call ⟨(Callee.builtin Builtin.len), [(Operand.tmp 41)].toArray, #[49]⟩, none, 0⟩,
 ⟨some 43, .move (Operand.const (Value.int IntKind.i64 0)), none, 0⟩])
 (.block 2
 (.loop
 (.seq
 (.ops [⟨some 44, .binOp BinOp.lss 3 (Operand.tmp 43) (Operand.tmp 42) 3, none, 0⟩])
 (.seq
 (.cond (Operand.tmp 44)
 .skip
 (.exit 2))
 (.seq
 (.block 3
 (.seq
 (.ops [⟨some 45, .indexAddr 49 (Operand.tmp 41) (Operand.tmp 43), none, 0⟩,
 ⟨some 46, .load 29 (Operand.tmp 45), none, 0⟩,
 ⟨some 12, .assign (Operand.tmp 46), none, 0⟩])
 (.seq
 (.ops [⟨some 48, .move (Operand.tmp 1), none, 0⟩,
 ⟨some 49, .move (Operand.tmp 8), none, 0⟩,
 ⟨some 50, .move (Operand.tmp 12), none, 0⟩,
 ⟨some 51, .buildSlice 49 2 [(0, (Operand.tmp 49)), (1, (Operand.tmp 50))].toArray, none, 0⟩,
 ⟨some 52, .call ⟨(Callee.value (Operand.func 55)), [(Operand.tmp 51)].toArray, #[49]⟩, none, 0⟩,
 ⟨some 53, .call ⟨(Callee.value (Operand.func 54)), [(Operand.tmp 48), (Operand.tmp 52)].toArray, #[22, 29]⟩, none, 0⟩,
 ⟨some 47, .move (Operand.tmp 53), none, 0⟩,
 ⟨some 54, .extract (Operand.tmp 47) 0, none, 0⟩,
 ⟨some 55, .extract (Operand.tmp 47) 1, none, 0⟩,
 ⟨some 56, .extract (Operand.tmp 47) 2, none, 0⟩,
 ⟨some 13, .assign (Operand.tmp 54), none, 0⟩,
 ⟨some 14, .assign (Operand.tmp 55), none, 0⟩,
 ⟨some 15, .assign (Operand.tmp 56), none, 0⟩])
 (.seq
 (.ops [⟨some 58, .move (Operand.tmp 1), none, 0⟩,
 ⟨some 59, .move (Operand.tmp 12), none, 0⟩,
 ⟨some 60, .call ⟨(Callee.value (Operand.func 22)), [(Operand.tmp 58), (Operand.tmp 59)].toArray, #[22, 29]⟩, none, 0⟩,
 ⟨some 57, .move (Operand.tmp 60), none, 0⟩,
 ⟨some 61, .extract (Operand.tmp 57) 0, none, 0⟩,
 ⟨some 62, .extract (Operand.tmp 57) 1, none, 0⟩,
 ⟨some 16, .assign (Operand.tmp 61), none, 0⟩,
 ⟨some 17, .assign (Operand.tmp 62), none, 0⟩])
 (.seq
 (.ops [⟨some 64, .move (Operand.tmp 1), none, 0⟩,
 ⟨some 65, .move (Operand.tmp 14), none, 0⟩,
 ⟨some 66, .call ⟨(Callee.value (Operand.func 22)), [(Operand.tmp 64), (Operand.tmp 65)].toArray, #[22, 29]⟩, none, 0⟩,
 ⟨some 63, .move (Operand.tmp 66), none, 0⟩,
 ⟨some 67, .extract (Operand.tmp 63) 0, none, 0⟩,
 ⟨some 68, .extract (Operand.tmp 63) 1, none, 0⟩,
 ⟨some 18, .assign (Operand.tmp 67), none, 0⟩,
 ⟨some 19, .assign (Operand.tmp 68), none, 0⟩])
 (.seq
 (.seq
 (.ops [⟨some 69, .move (Operand.tmp 9), none, 0⟩,
 ⟨some 70, .move (Operand.tmp 16), none, 0⟩,
 ⟨some 71, .buildSlice 49 2 [(0, (Operand.tmp 69)), (1, (Operand.tmp 70))].toArray, none, 0⟩,
 ⟨some 72, .call ⟨(Callee.value (Operand.func 55)), [(Operand.tmp 71)].toArray, #[49]⟩, none, 0⟩,
 ⟨some 73, .move (Operand.tmp 13), none, 0⟩,
 ⟨some 74, .move (Operand.tmp 18), none, 0⟩,
 ⟨some 75, .buildSlice 49 2 [(0, (Operand.tmp 73)), (1, (Operand.tmp 74))].toArray, none, 0⟩,
 ⟨some 76, .call ⟨(Callee.value (Operand.func 55)), [(Operand.tmp 75)].toArray, #[49]⟩, none, 0⟩,
 ⟨some 77, .call ⟨(Callee.value (Operand.func 40)), [(Operand.tmp 72), (Operand.tmp 76)].toArray, #[29, 29]⟩, none, 0⟩,
 ⟨some 78, .unOp UnOp.not 4 (Operand.tmp 77), none, 0⟩])
 (.cond (Operand.tmp 78)
 (.seq
 (.ops [⟨some 4, .assign (Operand.const (Value.bool false)), none, 0⟩])
 .ret)
 .skip))
 (.seq
 (.ops [⟨some 79, .move (Operand.tmp 14), none, 0⟩,
 ⟨some 80, .call ⟨(Callee.value (Operand.func 56)), [(Operand.tmp 79)].toArray, #[29]⟩, none, 0⟩,
 ⟨some 20, .assign (Operand.tmp 80), none, 0⟩])
 (.seq
 (.ops [⟨some 81, .move (Operand.tmp 5), none, 0⟩,
 ⟨some 82, .move (Operand.tmp 20), none, 0⟩,
 ⟨some 83, .lookup 60 (Operand.tmp 81) (Operand.tmp 82) false, none, 0⟩,
 ⟨some 84, .unOp UnOp.not 4 (Operand.tmp 83), none, 0⟩])
 (.cond (Operand.tmp 84)
 (.seq
 (.ops [⟨some 85, .move (Operand.tmp 5), none, 0⟩,
 ⟨some 86, .move (Operand.tmp 20), none, 0⟩,
 ⟨none, .mapUpdate 60 (Operand.tmp 85) (Operand.tmp 86) (Operand.const (Value.bool true)), none, 0⟩])
 (.ops [⟨some 87, .move (Operand.tmp 6), none, 0⟩,
 ⟨some 88, .move (Operand.tmp 20), none, 0⟩,
 ⟨some 89, .buildSlice 29 1 [(0, (Operand.tmp 88))].toArray, none, 0⟩,
 ⟨some 90, .call ⟨(Callee.builtin Builtin.append), [(Operand.tmp 87), (Operand.tmp 89)].toArray, #[29, 29]⟩, none, 0⟩,
 ⟨some 6, .assign (Operand.tmp 90), none, 0⟩]))
 .skip)))))))))
 (.ops [⟨some 91, .binOp BinOp.add 3 (Operand.tmp 43) (Operand.const (Value.int IntKind.i64 1)) 3, none, 0⟩,
 ⟨some 43, .move (Operand.tmp 91), none, 0⟩]))))))))))
 (.ops [⟨some 28, .move (Operand.tmp 7), none, 0⟩,
 ⟨some 29, .binOp BinOp.add 3 (Operand.tmp 28) (Operand.const (Value.int IntKind.i64 1)) 3, none, 0⟩,
 ⟨some 7, .assign (Operand.tmp 29), none, 0⟩]))))))
 (.seq
 (.ops [⟨some 4, .assign (Operand.const (Value.bool true)), none, 0⟩])
 .ret)))))
abbrev R24 : List ResultVar := [ResultVar.tmp 4]
theorem ok24 : FnOK Tryd.prog 24 L24 R24 2 := ⟨_, _, Tryd.func24, rfl, by kernel_rfl, by kernel_rfl, by kernel_rfl, by kernel_rfl, Nat.le_of_ble_eq_true (by kernel_rfl), by kernel_rfl⟩

/-- ablaut/ablautref25.Validate -/
def L25 : LCode :=
 (.seq
 (.ops [⟨some 2, .assign (Operand.const (Value.int IntKind.i64 0)), none, 0⟩])
 (.seq
 (.seq
 (.ops [⟨some 6, .move (Operand.tmp 0), none, 0⟩,
 ⟨some 7, .call ⟨(Callee.builtin Builtin.len), [(Operand.tmp 6)].toArray, #[22]⟩, none, 0⟩,
 ⟨some 8, .binOp BinOp.gtr 3 (Operand.tmp 7) (Operand.const (Value.int IntKind.i64 24)) 3, none, 0⟩])
 (.cond (Operand.tmp 8)
 (.seq
 (.ops [⟨some 2, .assign (Operand.const (Value.int IntKind.i64 3)), none, 0⟩])
 .ret)
 .skip))
 (.seq
 (.seq
 (.ops [⟨some 3, .assign (Operand.const (Value.int IntKind.i64 0)), none, 0⟩])
 (.block 0
 (.loop
 (.seq
 (.seq
 (.ops [⟨some 9, .move (Operand.tmp 3), none, 0⟩,
 ⟨some 10, .move (Operand.tmp 0), none, 0⟩,
 ⟨some 11, .call ⟨(Callee.builtin Builtin.len), [(Operand.tmp 10)].toArray, #[22]⟩, none, 0⟩,
 ⟨some 12, .binOp BinOp.lss 3 (Operand.tmp 9) (Operand.tmp 11) 3, none, 0⟩])
 (.cond (Operand.tmp 12)
 .skip
 (.exit 0)))
 (.seq
 (.block 1
 (.seq
 (.draw [⟨some 15, .move (Operand.tmp 0), none, 0⟩,
 ⟨some 16, .move (Operand.tmp 3), none, 0⟩,
 ⟨some 17, .indexAddr 22 (Operand.tmp 15) (Operand.tmp 16), none, 0⟩,
 ⟨some 18, .fieldAddr 46 (Operand.tmp 17) 0, none, 0⟩,
 ⟨some 19, .load 29 (Operand.tmp 18), none, 0⟩,
 ⟨some 20, .move (Operand.tmp 0), none, 0⟩,
 ⟨some 21, .move (Operand.tmp 3), none, 0⟩,
 ⟨some 22, .indexAddr 22 (Operand.tmp 20) (Operand.tmp 21), none, 0⟩,
 ⟨some 23, .fieldAddr 46 (Operand.tmp 22) 1, none, 0⟩,
 ⟨some 24, .load 29 (Operand.tmp 23), none, 0⟩,
 ⟨some 25, .buildSlice 49 2 [(0, (Operand.tmp 19)), (1, (Operand.tmp 24))].toArray, none, 0⟩,
 ⟨some 26, .call ⟨(Callee.value (Operand.func 57)), [(Operand.tmp 25)].toArray, #[49]⟩, none, 0⟩,
 ⟨some 4, .assign (Operand.tmp 26), none, 0⟩] true [10, 11, 12] [])
 (.seq
 (.ops [⟨some 27, .move (Operand.tmp 4), none, 0⟩,
 ⟨some 28, .binOp BinOp.neq 25 (Operand.tmp 27) (Operand.const (Value.int IntKind.i64 0)) 25, none, 0⟩])
 (.cond (Operand.tmp 28)
 (.seq
 (.ops [⟨some 29, .move (Operand.tmp 4), none, 0⟩,
 ⟨some 2, .assign (Operand.tmp 29), none, 0⟩])
 .ret)
 .skip))))
 (.ops [⟨some 13, .move (Operand.tmp 3), none, 0⟩,
 ⟨some 14, .binOp BinOp.add 3 (Operand.tmp 13) (Operand.const (Value.int IntKind.i64 1)) 3, none, 0⟩,
 ⟨some 3, .assign (Operand.tmp 14), none, 0⟩]))))))
 (.seq
 (.seq
 (.ops [⟨some 5, .assign (Operand.const (Value.int IntKind.i64 0)), none, 0⟩])
 (.block 2
 (.loop
 (.seq
 (.seq
 (.ops [⟨some 30, .move (Operand.tmp 5), none, 0⟩,
 ⟨some 31, .move (Operand.tmp 0), none, 0⟩,
 ⟨some 32, .call ⟨(Callee.builtin Builtin.len), [(Operand.tmp 31)].toArray, #[22]⟩, none, 0⟩,
 ⟨some 33, .binOp BinOp.lss 3 (Operand.tmp 30) (Operand.tmp 32) 3, none, 0⟩])
 (.cond (Operand.tmp 33)
 .skip
 (.exit 2)))
 (.seq
 (.block 3
 (.seq
 (.draw [⟨some 36, .move (Operand.tmp 0), none, 0⟩,
 ⟨some 37, .move (Operand.tmp 5), none, 0⟩,
 ⟨some 38, .indexAddr 22 (Operand.tmp 36) (Operand.tmp 37), none, 0⟩,
 ⟨some 39, .fieldAddr 46 (Operand.tmp 38) 0, none, 0⟩,
 ⟨some 40, .load 29 (Operand.tmp 39), none, 0⟩,
 ⟨some 41, .call ⟨(Callee.builtin Builtin.len), [(Operand.tmp 40)].toArray, #[29]⟩, none, 0⟩,
 ⟨some 42, .binOp BinOp.eql 3 (Operand.tmp 41) (Operand.const (Value.int IntKind.i64 0)) 3, none, 0⟩,
 ⟨some 43, .move (Operand.tmp 42), none, 0⟩,
 ⟨some 44, .move (Operand.tmp 5), some (43, false), 0⟩,
 ⟨some 45, .binOp BinOp.gtr 3 (Operand.tmp 44) (Operand.const (Value.int IntKind.i64 0)) 3, some (43, false), 0⟩,
 ⟨some 46, .move (Operand.tmp 45), some (43, false), 0⟩,
 ⟨some 47, .move (Operand.tmp 0), some (46, true), 0⟩,
 ⟨some 48, .move (Operand.tmp 5), some (46, true), 0⟩,
 ⟨some 49, .binOp BinOp.sub 3 (Operand.tmp 48) (Operand.const (Value.int IntKind.i64 1)) 3, some (46, true), 0⟩,
 ⟨some 50, .indexAddr 22 (Operand.tmp 47) (Operand.tmp 49), some (46, true), 0⟩,
 ⟨some 51, .fieldAddr 46 (Operand.tmp 50) 0, some (46, true), 0⟩,
 ⟨some 52, .load 29 (Operand.tmp 51), some (46, true), 0⟩,
 ⟨some 53, .move (Operand.tmp 0), some (46, true), 0⟩,
 ⟨some 54, .move (Operand.tmp 5), some (46, true), 0⟩,
 ⟨some 55, .indexAddr 22 (Operand.tmp 53) (Operand.tmp 54), some (46, true), 0⟩,
 ⟨some 56, .fieldAddr 46 (Operand.tmp 55) 0, some (46, true), 0⟩,
 ⟨some 57, .load 29 (Operand.tmp 56), some (46, true), 0⟩,
 ⟨some 58, .call ⟨(Callee.value (Operand.func 34)), [(Operand.tmp 52), (Operand.tmp 57)].toArray, #[29, 29]⟩, some (46, true), 0⟩,
 ⟨some 59, .binOp BinOp.geq 3 (Operand.tmp 58) (Operand.const (Value.int IntKind.i64 0)) 3, some (46, true), 0⟩,
 ⟨some 60, .pick (Operand.tmp 46) (Operand.tmp 59) (Operand.const (Value.bool false)), some (43, false), 0⟩,
 ⟨some 61, .pick (Operand.tmp 43) (Operand.const (Value.bool true)) (Operand.tmp 60), none, 0⟩] true [22, 23, 24, 25] [0, 1, 2, 3, 4, 5, 6, 7, 8, 9, 10, 11, 12, 13, 14, 15, 16, 17, 18, 19, 20, 21, 22, 23, 24, 25])
 (.cond (Operand.tmp 61)
 (.seq
 (.ops [⟨some 2, .assign (Operand.const (Value.int IntKind.i64 1)), none, 0⟩])
 .ret)
 .skip)))
 (.ops [⟨some 34, .move (Operand.tmp 5), none, 0⟩,
 ⟨some 35, .binOp BinOp.add 3 (Operand.tmp 34) (Operand.const (Value.int IntKind.i64 1)) 3, none, 0⟩,
 ⟨some 5, .assign (Operand.tmp 35), none, 0⟩]))))))
 (.seq
 (.ops [⟨some 2, .assign (Operand.const (Value.int IntKind.i64 0)), none, 0⟩])
 .ret)))))
abbrev R25 : List ResultVar := [ResultVar.tmp 2]
theorem ok25 : FnOK Tryd.prog 25 L25 R25 1 := ⟨_, _, Tryd.func25, rfl, by kernel_rfl, by kernel_rfl, by kernel_rfl, by kernel_rfl, Nat.le_of_ble_eq_true (by kernel_rfl), by kernel_rfl⟩

/-- ablaut/ablautref25.isPlain -/
def L26 : LCode :=
 (.seq
 (.ops [⟨some 2, .assign (Operand.const (Value.bool false)), none, 0⟩])
 (.seq
 (.seq
 (.ops [⟨some 3, .assign (Operand.const (Value.int IntKind.i64 0)), none, 0⟩])
 (.block 0
 (.loop
 (.seq
 (.seq
 (.ops [⟨some 4, .move (Operand.tmp 3), none, 0⟩,
 ⟨some 5, .move (Operand.tmp 0), none, 0⟩,
 ⟨some 6, .call ⟨(Callee.builtin Builtin.len), [(Operand.tmp 5)].toArray, #[22]⟩, none, 0⟩,
 ⟨some 7, .binOp BinOp.lss 3 (Operand.tmp 4) (Operand.tmp 6) 3, none, 0⟩])
 (.cond (Operand.tmp 7)
 .skip
 (.exit 0)))
 (.seq
 (.block 1
 (.seq
 (.ops [⟨some 10, .move (Operand.tmp 0), none, 0⟩,
 ⟨some 11, .move (Operand.tmp 3), none, 0⟩,
 ⟨some 12, .indexAddr 22 (Operand.tmp 10) (Operand.tmp 11), none, 0⟩,
 ⟨some 13, .fieldAddr 46 (Operand.tmp 12) 0, none, 0⟩,
 ⟨some 14, .load 29 (Operand.tmp 13), none, 0⟩,
 ⟨some 15, .call ⟨(Callee.builtin Builtin.len), [(Operand.tmp 14)].toArray, #[29]⟩, none, 0⟩,
 ⟨some 16, .binOp BinOp.neq 3 (Operand.tmp 15) (Operand.const (Value.int IntKind.i64 1)) 3, none, 0⟩])
 (.cond (Operand.tmp 16)
 (.seq
 (.ops [⟨some 2, .assign (Operand.const (Value.bool false)), none, 0⟩])
 .ret)
 .skip)))
 (.ops [⟨some 8, .move (Operand.tmp 3), none, 0⟩,
 ⟨some 9, .binOp BinOp.add 3 (Operand.tmp 8) (Operand.const (Value.int IntKind.i64 1)) 3, none, 0⟩,
 ⟨some 3, .assign (Operand.tmp 9), none, 0⟩]))))))
 (.seq
 (.ops [⟨some 2, .assign (Operand.const (Value.bool true)), none, 0⟩])
 .ret)))
abbrev R26 : List ResultVar := [ResultVar.tmp 2]
theorem ok26 : FnOK Tryd.prog 26 L26 R26 1 := ⟨_, _, Tryd.func26, rfl, by kernel_rfl, by kernel_rfl, by kernel_rfl, by kernel_rfl, Nat.le_of_ble_eq_true (by kernel_rfl), by kernel_rfl⟩

/-- ablaut/ablautref25.isLong -/
def L27 : LCode :=
 (.seq
 (.ops [⟨some 2, .assign (Operand.const (Value.bool false)), none, 0⟩])
 (.seq
 (.seq
 (.ops [⟨some 3, .assign (Operand.const (Value.int IntKind.i64 0)), none, 0⟩])
 (.block 0
 (.loop
 (.seq
 (.seq
 (.ops [⟨some 4, .move (Operand.tmp 3), none, 0⟩,
 ⟨some 5, .move (Operand.tmp 0), none, 0⟩,
 ⟨some 6, .call ⟨(Callee.builtin Builtin.len), [(Operand.tmp 5)].toArray, #[49]⟩, none, 0⟩,
 ⟨some 7, .binOp BinOp.lss 3 (Operand.tmp 4) (Operand.tmp 6) 3, none, 0⟩])
 (.cond (Operand.tmp 7)
 .skip
 (.exit 0)))
 (.seq
 (.block 1
 (.seq
 (.ops [⟨some 10, .move (Operand.tmp 0), none, 0⟩,
 ⟨some 11, .move (Operand.tmp 3), none, 0⟩,
 ⟨some 12, .indexAddr 49 (Operand.tmp 10) (Operand.tmp 11), none, 0⟩,
 ⟨some 13, .load 29 (Operand.tmp 12), none, 0⟩,
 ⟨some 14, .call ⟨(Callee.builtin Builtin.len), [(Operand.tmp 13)].toArray, #[29]⟩, none, 0⟩,
 ⟨some 15, .binOp BinOp.gtr 3 (Operand.tmp 14) (Operand.const (Value.int IntKind.i64 8)) 3, none, 0⟩])
 (.cond (Operand.tmp 15)
 (.seq
 (.ops [⟨some 2, .assign (Operand.const (Value.bool true)), none, 0⟩])
 .ret)
 .skip)))
 (.ops [⟨some 8, .move (Operand.tmp 3), none, 0⟩,
 ⟨some 9, .binOp BinOp.add 3 (Operand.tmp 8) (Operand.const (Value.int IntKind.i64 1)) 3, none, 0⟩,
 ⟨some 3, .assign (Operand.tmp 9), none, 0⟩]))))))
 (.seq
 (.ops [⟨some 2, .assign (Operand.const (Value.bool false)), none, 0⟩])
 .ret)))
abbrev R27 : List ResultVar := [ResultVar.tmp 2]
theorem ok27 : FnOK Tryd.prog 27 L27 R27 1 := ⟨_, _, Tryd.func27, rfl, by kernel_rfl, by kernel_rfl, by kernel_rfl, by kernel_rfl, Nat.le_of_ble_eq_true (by kernel_rfl), by kernel_rfl⟩

/-- ablaut/ablautref25.tos -/
def L28 : LCode :=
 (.seq
 (.ops [⟨some 2, .assign (Operand.const (Value.slice none 0 0)), none, 0⟩])
 (.seq
 (.ops [⟨some 3, .assign (Operand.const (Value.slice none 0 0)), none, 0⟩])
 (.seq
 (.seq
 (.ops [⟨some 4, .assign (Operand.const (Value.int IntKind.i64 0)), none, 0⟩])
 (.block 0
 (.loop
 (.seq
 (.seq
 (.ops [⟨some 5, .move (Operand.tmp 4), none, 0⟩,
 ⟨some 6, .move (Operand.tmp 0), none, 0⟩,
 ⟨some 7, .call ⟨(Callee.builtin Builtin.len), [(Operand.tmp 6)].toArray, #[22]⟩, none, 0⟩,
 ⟨some 8, .binOp BinOp.lss 3 (Operand.tmp 5) (Operand.tmp 7) 3, none, 0⟩])
 (.cond (Operand.tmp 8)
 .skip
 (.exit 0)))
 (.seq
 (.block 1
 (.ops [⟨some 11, .move (Operand.tmp 3), none, 0⟩,
 ⟨some 12, .move (Operand.tmp 0), none, 0⟩,
 ⟨some 13, .move (Operand.tmp 4), none, 0⟩,
 ⟨some 14, .indexAddr 22 (Operand.tmp 12) (Operand.tmp 13), none, 0⟩,
 ⟨some 15, .fieldAddr 46 (Operand.tmp 14) 1, none, 0⟩,
 ⟨some 16, .load 29 (Operand.tmp 15), none, 0⟩,
 ⟨some 17, .buildSlice 49 1 [(0, (Operand.tmp 16))].toArray, none, 0⟩,
 ⟨some 18, .call ⟨(Callee.builtin Builtin.append), [(Operand.tmp 11), (Operand.tmp 17)].toArray, #[49, 49]⟩, none, 0⟩,
 ⟨some 3, .assign (Operand.tmp 18), none, 0⟩]))
 (.ops [⟨some 9, .move (Operand.tmp 4), none, 0⟩,
 ⟨some 10, .binOp BinOp.add 3 (Operand.tmp 9) (Operand.const (Value.int IntKind.i64 1)) 3, none, 0⟩,
 ⟨some 4, .assign (Operand.tmp 10), none, 0⟩]))))))
 (.seq
 (.ops [⟨some 19, .move (Operand.tmp 3), none, 0⟩,
 ⟨some 2, .assign (Operand.tmp 19), none, 0⟩])
 .ret))))
abbrev R28 : List ResultVar := [ResultVar.tmp 2]
theorem ok28 : FnOK Tryd.prog 28 L28 R28 1 := ⟨_, _, Tryd.func28, rfl, by kernel_rfl, by kernel_rfl, by kernel_rfl, by kernel_rfl, Nat.le_of_ble_eq_true (by kernel_rfl), by kernel_rfl⟩

/-- ablaut/ablautref25.Shifted -/
def L29 : LCode :=
 (.seq
 (.ops [⟨some 4, .assign (Operand.const (Value.slice none 0 0)), none, 0⟩,
 ⟨some 5, .assign (Operand.const (Value.bool false)), none, 0⟩,
 ⟨some 6, .assign (Operand.const (Value.slice none 0 0)), none, 0⟩])
 (.seq
 (.ops [⟨some 7, .assign (Operand.const (Value.slice none 0 0)), none, 0⟩])
 (.seq
 (.ops [⟨some 8, .assign (Operand.const (Value.bool true)), none, 0⟩])
 (.seq
 (.ops [⟨some 11, .move (Operand.tmp 0), none, 0⟩,
 ⟨some 12, .call ⟨(Callee.builtin Builtin.len), [(Operand.tmp 11)].toArray, #[22]⟩, none, 0⟩,
 ⟨some 13, .makeSlice 56 (Operand.tmp 12) (Operand.tmp 12), none, 0⟩,
 ⟨some 9, .assign (Operand.tmp 13), none, 0⟩])
 (.seq
 (.block 0
 (.loop
 (.seq
 (.seq
 (.ops [⟨some 14, .move (Operand.tmp 1), none, 0⟩,
 ⟨some 15, .call ⟨(Callee.builtin Builtin.len), [(Operand.tmp 14)].toArray, #[29]⟩, none, 0⟩,
 ⟨some 16, .binOp BinOp.gtr 3 (Operand.tmp 15) (Operand.const (Value.int IntKind.i64 0)) 3, none, 0⟩])
 (.cond (Operand.tmp 16)
 .skip
 (.exit 0)))
 (.block 1
 (.seq
 (.ops [⟨some 17, .move (Operand.tmp 0), none, 0⟩,
 ⟨some 18, .move (Operand.tmp 1), none, 0⟩,
 ⟨some 19, .call ⟨(Callee.value (Operand.func 58)), [(Operand.tmp 17), (Operand.tmp 18)].toArray, #[22, 29]⟩, none, 0⟩,
 ⟨some 10, .assign (Operand.tmp 19), none, 0⟩])
 (.seq
 (.seq
 (.ops [⟨some 20, .move (Operand.tmp 10), none, 0⟩,
 ⟨some 21, .binOp BinOp.lss 3 (Operand.tmp 20) (Operand.const (Value.int IntKind.i64 0)) 3, none, 0⟩])
 (.cond (Operand.tmp 21)
 (.seq
 (.ops [⟨some 22, .move (Operand.tmp 7), none, 0⟩,
 ⟨some 23, .move (Operand.tmp 1), none, 0⟩,
 ⟨some 24, .indexAddr 29 (Operand.tmp 23) (Operand.const (Value.int IntKind.i64 0)), none, 0⟩,
 ⟨some 25, .load 9 (Operand.tmp 24), none, 0⟩,
 ⟨some 26, .buildSlice 29 1 [(0, (Operand.tmp 25))].toArray, none, 0⟩,
 ⟨some 27, .call ⟨(Callee.builtin Builtin.append), [(Operand.tmp 22), (Operand.tmp 26)].toArray, #[29, 29]⟩, none, 0⟩,
 ⟨some 7, .assign (Operand.tmp 27), none, 0⟩])
 (.seq
 (.ops [⟨some 28, .move (Operand.tmp 1), none, 0⟩,
 ⟨some 29, .slice 29 (Operand.tmp 28) (some (Operand.const (Value.int IntKind.i64 1))) none none, none, 0⟩,
 ⟨some 1, .assign (Operand.tmp 29), none, 0⟩])
 (.seq
 (.ops [⟨some 8, .assign (Operand.const (Value.bool false)), none, 0⟩])
 (.exit 1))))
 .skip))
 (.seq
 (.ops [⟨some 30, .move (Operand.tmp 9), none, 0⟩,
 ⟨some 31, .move (Operand.tmp 10), none, 0⟩,
 ⟨some 32, .indexAddr 56 (Operand.tmp 30) (Operand.tmp 31), none, 0⟩,
 ⟨some 33, .load 3 (Operand.tmp 32), none, 0⟩,
 ⟨some 34, .binOp BinOp.add 3 (Operand.tmp 33) (Operand.const (Value.int IntKind.i64 1)) 3, none, 0⟩,
 ⟨some 35, .indexAddr 56 (Operand.tmp 30) (Operand.tmp 31), none, 0⟩,
 ⟨none, .store 3 (Operand.tmp 35) (Operand.tmp 34), none, 0⟩])
 (.seq
 (.ops [⟨some 36, .move (Operand.tmp 7), none, 0⟩,
 ⟨some 37, .move (Operand.tmp 0), none, 0⟩,
 ⟨some 38, .move (Operand.tmp 10), none, 0⟩,
 ⟨some 39, .indexAddr 22 (Operand.tmp 37) (Operand.tmp 38), none, 0⟩,
 ⟨some 40, .fieldAddr 46 (Operand.tmp 39) 1, none, 0⟩,
 ⟨some 41, .load 29 (Operand.tmp 40), none, 0⟩,
 ⟨some 42, .call ⟨(Callee.builtin Builtin.append), [(Operand.tmp 36), (Operand.tmp 41)].toArray, #[29, 29]⟩, none, 0⟩,
 ⟨some 7, .assign (Operand.tmp 42), none, 0⟩])
 (.ops [⟨some 43, .move (Operand.tmp 1), none, 0⟩,
 ⟨some 44, .move (Operand.tmp 0), none, 0⟩,
 ⟨some 45, .move (Operand.tmp 10), none, 0⟩,
 ⟨some 46, .indexAddr 22 (Operand.tmp 44) (Operand.tmp 45), none, 0⟩,
 ⟨some 47, .fieldAddr 46 (Operand.tmp 46) 0, none, 0⟩,
 ⟨some 48, .load 29 (Operand.tmp 47), none, 0⟩,
 ⟨some 49, .call ⟨(Callee.builtin Builtin.len), [(Operand.tmp 48)].toArray, #[29]⟩, none, 0⟩,
 ⟨some 50, .slice 29 (Operand.tmp 43) (some (Operand.tmp 49)) none none, none, 0⟩,
 ⟨some 1, .assign (Operand.tmp 50), none, 0⟩])))))))))
 (.seq
 (.ops [⟨some 51, .move (Operand.tmp 7), none, 0⟩,
 ⟨some 52, .move (Operand.tmp 8), none, 0⟩,
 ⟨some 53, .move (Operand.tmp 9), none, 0⟩,
 ⟨some 4, .assign (Operand.tmp 51), none, 0⟩,
 ⟨some 5, .assign (Operand.tmp 52), none, 0⟩,
 ⟨some 6, .assign (Operand.tmp 53), none, 0⟩])
 .ret))))))
abbrev R29 : List ResultVar := [ResultVar.tmp 4, ResultVar.tmp 5, ResultVar.tmp 6]
theorem ok29 : FnOK Tryd.prog 29 L29 R29 2 := ⟨_, _, Tryd.func29, rfl, by kernel_rfl, by kernel_rfl, by kernel_rfl, by kernel_rfl, Nat.le_of_ble_eq_true (by kernel_rfl), by kernel_rfl⟩

/-- ablaut/ablautref01.Join -/
def L30 : LCode :=
 (.seq
 (.ops [⟨some 4, .assign (Operand.const (Value.slice none 0 0)), none, 0⟩])
 (.seq
 (.ops [⟨some 5, .buildSlice 29 0 [].toArray, none, 0⟩,
 ⟨some 6, .move (Operand.tmp 0), none, 0⟩,
 ⟨some 7, .call ⟨(Callee.builtin Builtin.append), [(Operand.tmp 5), (Operand.tmp 6)].toArray, #[29, 29]⟩, none, 0⟩,
 ⟨some 8, .move (Operand.tmp 1), none, 0⟩,
 ⟨some 9, .call ⟨(Callee.builtin Builtin.append), [(Operand.tmp 7), (Operand.tmp 8)].toArray, #[29, 29]⟩, none, 0⟩,
 ⟨some 4, .assign (Operand.tmp 9), none, 0⟩])
 .ret))
abbrev R30 : List ResultVar := [ResultVar.tmp 4]
theorem ok30 : FnOK Tryd.prog 30 L30 R30 2 := ⟨_, _, Tryd.func30, rfl, by kernel_rfl, by kernel_rfl, by kernel_rfl, by kernel_rfl, Nat.le_of_ble_eq_true (by kernel_rfl), by kernel_rfl⟩

/-- ablaut/ablautref25.flow -/
def L31 : LCode :=
 (.seq
 (.ops [⟨some 4, .assign (Operand.const (Value.slice none 0 0)), none, 0⟩,
 ⟨some 5, .assign (Operand.const (Value.slice none 0 0)), none, 0⟩])
 (.seq
 (.ops [⟨some 6, .assign (Operand.const (Value.slice none 0 0)), none, 0⟩])
 (.seq
 (.block 0
 (.loop
 (.seq
 (.seq
 (.ops [⟨some 8, .move (Operand.tmp 1), none, 0⟩,
 ⟨some 9, .call ⟨(Callee.builtin Builtin.len), [(Operand.tmp 8)].toArray, #[29]⟩, none, 0⟩,
 ⟨some 10, .binOp BinOp.gtr 3 (Operand.tmp 9) (Operand.const (Value.int IntKind.i64 0)) 3, none, 0⟩,
 ⟨some 11, .move (Operand.tmp 10), none, 0⟩,
 ⟨some 12, .move (Operand.tmp 0), some (11, true), 0⟩,
 ⟨some 13, .move (Operand.tmp 1), some (11, true), 0⟩,
 ⟨some 14, .call ⟨(Callee.value (Operand.func 59)), [(Operand.tmp 12), (Operand.tmp 13)].toArray, #[22, 29]⟩, some (11, true), 0⟩,
 ⟨some 15, .unOp UnOp.not 4 (Operand.tmp 14), some (11, true), 0⟩,
 ⟨some 16, .pick (Operand.tmp 11) (Operand.tmp 15) (Operand.const (Value.bool false)), none, 0⟩])
 (.cond (Operand.tmp 16)
 .skip
 (.exit 0)))
 (.block 1
 (.seq
 (.ops [⟨some 17, .move (Operand.tmp 0), none, 0⟩,
 ⟨some 18, .move (Operand.tmp 1), none, 0⟩,
 ⟨some 19, .call ⟨(Callee.value (Operand.func 58)), [(Operand.tmp 17), (Operand.tmp 18)].toArray, #[22, 29]⟩, none, 0⟩,
 ⟨some 7, .assign (Operand.tmp 19), none, 0⟩])
 (.seq
 (.ops [⟨some 20, .move (Operand.tmp 7), none, 0⟩,
 ⟨some 21, .binOp BinOp.geq 3 (Operand.tmp 20) (Operand.const (Value.int IntKind.i64 0)) 3, none, 0⟩])
 (.cond (Operand.tmp 21)
 (.seq
 (.ops [⟨some 22, .move (Operand.tmp 6), none, 0⟩,
 ⟨some 23, .move (Operand.tmp 0), none, 0⟩,
 ⟨some 24, .move (Operand.tmp 7), none, 0⟩,
 ⟨some 25, .indexAddr 22 (Operand.tmp 23) (Operand.tmp 24), none, 0⟩,
 ⟨some 26, .fieldAddr 46 (Operand.tmp 25) 1, none, 0⟩,
 ⟨some 27, .load 29 (Operand.tmp 26), none, 0⟩,
 ⟨some 28, .call ⟨(Callee.builtin Builtin.append), [(Operand.tmp 22), (Operand.tmp 27)].toArray, #[29, 29]⟩, none, 0⟩,
 ⟨some 6, .assign (Operand.tmp 28), none, 0⟩])
 (.ops [⟨some 29, .move (Operand.tmp 1), none, 0⟩,
 ⟨some 30, .move (Operand.tmp 0), none, 0⟩,
 ⟨some 31, .move (Operand.tmp 7), none, 0⟩,
 ⟨some 32, .indexAddr 22 (Operand.tmp 30) (Operand.tmp 31), none, 0⟩,
 ⟨some 33, .fieldAddr 46 (Operand.tmp 32) 0, none, 0⟩,
 ⟨some 34, .load 29 (Operand.tmp 33), none, 0⟩,
 ⟨some 35, .call ⟨(Callee.builtin Builtin.len), [(Operand.tmp 34)].toArray, #[29]⟩, none, 0⟩,
 ⟨some 36, .slice 29 (Operand.tmp 29) (some (Operand.tmp 35)) none none, none, 0⟩,
 ⟨some 1, .assign (Operand.tmp 36), none, 0⟩]))
 (.seq
 (.ops [⟨some 37, .move (Operand.tmp 6), none, 0⟩,
 ⟨some 38, .move (Operand.tmp 1), none, 0⟩,
 ⟨some 39, .indexAddr 29 (Operand.tmp 38) (Operand.const (Value.int IntKind.i64 0)), none, 0⟩,
 ⟨some 40, .load 9 (Operand.tmp 39), none, 0⟩,
 ⟨some 41, .buildSlice 29 1 [(0, (Operand.tmp 40))].toArray, none, 0⟩,
 ⟨some 42, .call ⟨(Callee.builtin Builtin.append), [(Operand.tmp 37), (Operand.tmp 41)].toArray, #[29, 29]⟩, none, 0⟩,
 ⟨some 6, .assign (Operand.tmp 42), none, 0⟩])
 (.ops [⟨some 43, .move (Operand.tmp 1), none, 0⟩,
 ⟨some 44, .slice 29 (Operand.tmp 43) (some (Operand.const (Value.int IntKind.i64 1))) none none, none, 0⟩,
 ⟨some 1, .assign (Operand.tmp 44), none, 0⟩])))))))))
 (.seq
 (.ops [⟨some 45, .move (Operand.tmp 6), none, 0⟩,
 ⟨some 46, .move (Operand.tmp 1), none, 0⟩,
 ⟨some 4, .assign (Operand.tmp 45), none, 0⟩,
 ⟨some 5, .assign (Operand.tmp 46), none, 0⟩])
 .ret))))
abbrev R31 : List ResultVar := [ResultVar.tmp 4, ResultVar.tmp 5]
theorem ok31 : FnOK Tryd.prog 31 L31 R31 2 := ⟨_, _, Tryd.func31, rfl, by kernel_rfl, by kernel_rfl, by kernel_rfl, by kernel_rfl, Nat.le_of_ble_eq_true (by kernel_rfl), by kernel_rfl⟩

/-- ablaut/ablautref01.Written -/
def L32 : LCode :=
 (.seq
 (.ops [⟨some 2, .assign (Operand.const (Value.string ⟨#[]⟩)), none, 0⟩])
 (.seq
 (.ops [⟨some 3, .assign (Operand.const (Value.string ⟨#[]⟩)), none, 0⟩])
 (.seq
 (.seq
 (.ops [⟨some 4, .assign (Operand.const (Value.int IntKind.i64 0)), none, 0⟩])
 (.block 0
 (.loop
 (.seq
 (.seq
 (.ops [⟨some 5, .move (Operand.tmp 4), none, 0⟩,
 ⟨some 6, .move (Operand.tmp 0), none, 0⟩,
 ⟨some 7, .call ⟨(Callee.builtin Builtin.len), [(Operand.tmp 6)].toArray, #[29]⟩, none, 0⟩,
 ⟨some 8, .binOp BinOp.lss 3 (Operand.tmp 5) (Operand.tmp 7) 3, none, 0⟩])
 (.cond (Operand.tmp 8)
 .skip
 (.exit 0)))
 (.seq
 (.block 1
 (.seq
 (.ops [⟨some 11, .move (Operand.tmp 0), none, 0⟩,
 ⟨some 12, .move (Operand.tmp 4), none, 0⟩,
 ⟨some 13, .indexAddr 29 (Operand.tmp 11) (Operand.tmp 12), none, 0⟩,
 ⟨some 14, .load 9 (Operand.tmp 13), none, 0⟩,
 ⟨some 15, .call ⟨(Callee.builtin Builtin.len), [(Operand.tmp 14)].toArray, #[9]⟩, none, 0⟩,
 ⟨some 16, .binOp BinOp.eql 3 (Operand.tmp 15) (Operand.const (Value.int IntKind.i64 1)) 3, none, 0⟩])
 (.cond (Operand.tmp 16)
 (.ops [⟨some 17, .move (Operand.tmp 3), none, 0⟩,
 ⟨some 18, .move (Operand.tmp 0), none, 0⟩,
 ⟨some 19, .move (Operand.tmp 4), none, 0⟩,
 ⟨some 20, .indexAddr 29 (Operand.tmp 18) (Operand.tmp 19), none, 0⟩,
 ⟨some 21, .load 9 (Operand.tmp 20), none, 0⟩,
 ⟨some 22, .binOp BinOp.add 9 (Operand.tmp 17) (Operand.tmp 21) 9, none, 0⟩,
 ⟨some 3, .assign (Operand.tmp 22), none, 0⟩])
 (.ops [⟨some 23, .move (Operand.tmp 3), none, 0⟩,
 ⟨some 24, .move (Operand.tmp 0), none, 0⟩,
 ⟨some 25, .move (Operand.tmp 4), none, 0⟩,
 ⟨some 26, .indexAddr 29 (Operand.tmp 24) (Operand.tmp 25), none, 0⟩,
 ⟨some 27, .load 9 (Operand.tmp 26), none, 0⟩,
 ⟨some 28, .binOp BinOp.add 9 (Operand.const (Value.string ⟨#[60]⟩)) (Operand.tmp 27) 9, none, 0⟩,
 ⟨some 29, .binOp BinOp.add 9 (Operand.tmp 28) (Operand.const (Value.string ⟨#[62]⟩)) 9, none, 0⟩,
 ⟨some 30, .binOp BinOp.add 9 (Operand.tmp 23) (Operand.tmp 29) 9, none, 0⟩,
 ⟨some 3, .assign (Operand.tmp 30), none, 0⟩]))))
 (.ops [⟨some 9, .move (Operand.tmp 4), none, 0⟩,
 ⟨some 10, .binOp BinOp.add 3 (Operand.tmp 9) (Operand.const (Value.int IntKind.i64 1)) 3, none, 0⟩,
 ⟨some 4, .assign (Operand.tmp 10), none, 0⟩]))))))
 (.seq
 (.ops [⟨some 31, .move (Operand.tmp 3), none, 0⟩,
 ⟨some 2, .assign (Operand.tmp 31), none, 0⟩])
 .ret))))
abbrev R32 : List ResultVar := [ResultVar.tmp 2]
theorem ok32 : FnOK Tryd.prog 32 L32 R32 1 := ⟨_, _, Tryd.func32, rfl, by kernel_rfl, by kernel_rfl, by kernel_rfl, by kernel_rfl, Nat.le_of_ble_eq_true (by kernel_rfl), by kernel_rfl⟩

/-- ablaut/script.checked -/
def L33 : LCode :=
 (.seq
 (.ops [⟨some 4, .assign (Operand.const (Value.int IntKind.i64 0)), none, 0⟩])
 (.seq
 (.seq
 (.ops [⟨some 6, .move (Operand.tmp 0), none, 0⟩,
 ⟨some 7, .call ⟨(Callee.value (Operand.func 20)), [(Operand.tmp 6)].toArray, #[22]⟩, none, 0⟩,
 ⟨some 5, .assign (Operand.tmp 7), none, 0⟩])
 (.seq
 (.ops [⟨some 8, .move (Operand.tmp 5), none, 0⟩,
 ⟨some 9, .binOp BinOp.neq 25 (Operand.tmp 8) (Operand.const (Value.int IntKind.i64 0)) 25, none, 0⟩])
 (.cond (Operand.tmp 9)
 (.seq
 (.ops [⟨some 10, .move (Operand.tmp 5), none, 0⟩,
 ⟨some 4, .assign (Operand.tmp 10), none, 0⟩])
 .ret)
 .skip)))
 (.seq
 (.ops [⟨some 11, .move (Operand.tmp 1), none, 0⟩,
 ⟨some 12, .call ⟨(Callee.value (Operand.func 49)), [(Operand.tmp 11)].toArray, #[29]⟩, none, 0⟩,
 ⟨some 4, .assign (Operand.tmp 12), none, 0⟩])
 .ret)))
abbrev R33 : List ResultVar := [ResultVar.tmp 4]
theorem ok33 : FnOK Tryd.prog 33 L33 R33 2 := ⟨_, _, Tryd.func33, rfl, by kernel_rfl, by kernel_rfl, by kernel_rfl, by kernel_rfl, Nat.le_of_ble_eq_true (by kernel_rfl), by kernel_rfl⟩

/-- ablaut/ablautref01.Order -/
def L34 : LCode :=
 (.seq
 (.ops [⟨some 4, .assign (Operand.const (Value.int IntKind.i64 0)), none, 0⟩])
 (.seq
 (.seq
 (.ops [⟨some 5, .assign (Operand.const (Value.int IntKind.i64 0)), none, 0⟩])
 (.block 0
 (.loop
 (.seq
 (.seq
 (.ops [⟨some 6, .move (Operand.tmp 5), none, 0⟩,
 ⟨some 7, .move (Operand.tmp 0), none, 0⟩,
 ⟨some 8, .call ⟨(Callee.builtin Builtin.len), [(Operand.tmp 7)].toArray, #[29]⟩, none, 0⟩,
 ⟨some 9, .binOp BinOp.lss 3 (Operand.tmp 6) (Operand.tmp 8) 3, none, 0⟩,
 ⟨some 10, .move (Operand.tmp 9), none, 0⟩,
 ⟨some 11, .move (Operand.tmp 5), some (10, true), 0⟩,
 ⟨some 12, .move (Operand.tmp 1), some (10, true), 0⟩,
 ⟨some 13, .call ⟨(Callee.builtin Builtin.len), [(Operand.tmp 12)].toArray, #[29]⟩, some (10, true), 0⟩,
 ⟨some 14, .binOp BinOp.lss 3 (Operand.tmp 11) (Operand.tmp 13) 3, some (10, true), 0⟩,
 ⟨some 15, .pick (Operand.tmp 10) (Operand.tmp 14) (Operand.const (Value.bool false)), none, 0⟩])
 (.cond (Operand.tmp 15)
 .skip
 (.exit 0)))
 (.seq
 (.block 1
 (.seq
 (.seq
 (.draw [⟨some 18, .move (Operand.tmp 0), none, 0⟩,
 ⟨some 19, .move (Operand.tmp 5), none, 0⟩,
 ⟨some 20, .indexAddr 29 (Operand.tmp 18) (Operand.tmp 19), none, 0⟩,
 ⟨some 21, .load 9 (Operand.tmp 20), none, 0⟩,
 ⟨some 22, .move (Operand.tmp 1), none, 0⟩,
 ⟨some 23, .move (Operand.tmp 5), none, 0⟩,
 ⟨some 24, .indexAddr 29 (Operand.tmp 22) (Operand.tmp 23), none, 0⟩,
 ⟨some 25, .load 9 (Operand.tmp 24), none, 0⟩,
 ⟨some 26, .binOp BinOp.lss 9 (Operand.tmp 21) (Operand.tmp 25) 9, none, 0⟩] true [8] [0, 1, 2, 4, 5, 6, 3, 7, 8])
 (.cond (Operand.tmp 26)
 (.seq
 (.ops [⟨some 4, .assign (Operand.const (Value.int IntKind.i64 (-1))), none, 0⟩])
 .ret)
 .skip))
 (.seq
 (.draw [⟨some 27, .move (Operand.tmp 0), none, 0⟩,
 ⟨some 28, .move (Operand.tmp 5), none, 0⟩,
 ⟨some 29, .indexAddr 29 (Operand.tmp 27) (Operand.tmp 28), none, 0⟩,
 ⟨some 30, .load 9 (Operand.tmp 29), none, 0⟩,
 ⟨some 31, .move (Operand.tmp 1), none, 0⟩,
 ⟨some 32, .move (Operand.tmp 5), none, 0⟩,
 ⟨some 33, .indexAddr 29 (Operand.tmp 31) (Operand.tmp 32), none, 0⟩,
 ⟨some 34, .load 9 (Operand.tmp 33), none, 0⟩,
 ⟨some 35, .binOp BinOp.gtr 9 (Operand.tmp 30) (Operand.tmp 34) 9, none, 0⟩] true [8] [0, 1, 2, 4, 5, 6, 3, 7, 8])
 (.cond (Operand.tmp 35)
 (.seq
 (.ops [⟨some 4, .assign (Operand.const (Value.int IntKind.i64 1)), none, 0⟩])
 .ret)
 .skip))))
 (.ops [⟨some 16, .move (Operand.tmp 5), none, 0⟩,
 ⟨some 17, .binOp BinOp.add 3 (Operand.tmp 16) (Operand.const (Value.int IntKind.i64 1)) 3, none, 0⟩,
 ⟨some 5, .assign (Operand.tmp 17), none, 0⟩]))))))
 (.seq
 (.block 2
 (.seq
 (.ops [⟨some 37, .move (Operand.tmp 0), none, 0⟩,
 ⟨some 38, .call ⟨(Callee.builtin Builtin.len), [(Operand.tmp 37)].toArray, #[29]⟩, none, 0⟩,
 ⟨some 39, .move (Operand.tmp 1), none, 0⟩,
 ⟨some 40, .call ⟨(Callee.builtin Builtin.len), [(Operand.tmp 39)].toArray, #[29]⟩, none, 0⟩,
 ⟨some 41, .binOp BinOp.lss 3 (Operand.tmp 38) (Operand.tmp 40) 3, none, 0⟩,
 ⟨some 36, .assign (Operand.tmp 41), none, 0⟩])
 (.cond (Operand.tmp 36)
 (.seq
 (.ops [⟨some 4, .assign (Operand.const (Value.int IntKind.i64 (-1))), none, 0⟩])
 .ret)
 (.seq
 (.ops [⟨some 43, .move (Operand.tmp 0), none, 0⟩,
 ⟨some 44, .call ⟨(Callee.builtin Builtin.len), [(Operand.tmp 43)].toArray, #[29]⟩, none, 0⟩,
 ⟨some 45, .move (Operand.tmp 1), none, 0⟩,
 ⟨some 46, .call ⟨(Callee.builtin Builtin.len), [(Operand.tmp 45)].toArray, #[29]⟩, none, 0⟩,
 ⟨some 47, .binOp BinOp.gtr 3 (Operand.tmp 44) (Operand.tmp 46) 3, none, 0⟩,
 ⟨some 42, .assign (Operand.tmp 47), none, 0⟩])
 (.cond (Operand.tmp 42)
 (.seq
 (.ops [⟨some 4, .assign (Operand.const (Value.int IntKind.i64 1)), none, 0⟩])
 .ret)
 .skip)))))
 (.seq
 (.ops [⟨some 4, .assign (Operand.const (Value.int IntKind.i64 0)), none, 0⟩])
 .ret))))
abbrev R34 : List ResultVar := [ResultVar.tmp 4]
theorem ok34 : FnOK Tryd.prog 34 L34 R34 2 := ⟨_, _, Tryd.func34, rfl, by kernel_rfl, by kernel_rfl, by kernel_rfl, by kernel_rfl, Nat.le_of_ble_eq_true (by kernel_rfl), by kernel_rfl⟩

/-- strings.Cut -/
def L35 : LCode :=
 (.seq
 (.ops [⟨some 4, .assign (Operand.const (Value.string ⟨#[]⟩)), none, 0⟩,
 ⟨some 5, .assign (Operand.const (Value.string ⟨#[]⟩)), none, 0⟩,
 ⟨some 6, .assign (Operand.const (Value.bool false)), none, 0⟩])
 (.seq
 (.ops [⟨some 7, .move (Operand.tmp 0), none, 0⟩,
 ⟨some 8, .move (Operand.tmp 1), none, 0⟩,
 ⟨some 9, .call ⟨(Callee.value (Operand.func 60)), [(Operand.tmp 7), (Operand.tmp 8)].toArray, #[9, 9]⟩, none, 0⟩,
 ⟨some 10, .extract (Operand.tmp 9) 0, none, 0⟩,
 ⟨some 11, .extract (Operand.tmp 9) 1, none, 0⟩,
 ⟨some 12, .extract (Operand.tmp 9) 2, none, 0⟩,
 ⟨some 4, .assign (Operand.tmp 10), none, 0⟩,
 ⟨some 5, .assign (Operand.tmp 11), none, 0⟩,
 ⟨some 6, .assign (Operand.tmp 12), none, 0⟩])
 .ret))
abbrev R35 : List ResultVar := [ResultVar.tmp 4, ResultVar.tmp 5, ResultVar.tmp 6]
theorem ok35 : FnOK Tryd.prog 35 L35 R35 2 := ⟨_, _, Tryd.func35, rfl, by kernel_rfl, by kernel_rfl, by kernel_rfl, by kernel_rfl, Nat.le_of_ble_eq_true (by kernel_rfl), by kernel_rfl⟩

/-- strings.Split -/
def L36 : LCode :=
 (.seq
 (.ops [⟨some 4, .assign (Operand.const (Value.slice none 0 0)), none, 0⟩])
 (.seq
 (.ops [⟨some 5, .move (Operand.tmp 0), none, 0⟩,
 ⟨some 6, .move (Operand.tmp 1), none, 0⟩,
 ⟨some 7, .call ⟨(Callee.value (Operand.func 61)), [(Operand.tmp 5), (Operand.tmp 6), (Operand.const (Value.int IntKind.i64 0)), (Operand.const (Value.int IntKind.i64 (-1)))].toArray, #[9, 9, 3, 3]⟩, none, 0⟩,
 ⟨some 4, .assign (Operand.tmp 7), none, 0⟩])
 .ret))
abbrev R36 : List ResultVar := [ResultVar.tmp 4]
theorem ok36 : FnOK Tryd.prog 36 L36 R36 2 := ⟨_, _, Tryd.func36, rfl, by kernel_rfl, by kernel_rfl, by kernel_rfl, by kernel_rfl, Nat.le_of_ble_eq_true (by kernel_rfl), by kernel_rfl⟩

/-- ablaut/script.read -/
def L37 : LCode :=
 (.seq
 (.ops [⟨some 2, .assign (Operand.const (Value.slice none 0 0)), none, 0⟩,
 ⟨some 3, .assign (Operand.const (Value.bool false)), none, 0⟩])
 (.seq
 (.seq
 (.ops [⟨some 7, .move (Operand.tmp 0), none, 0⟩,
 ⟨some 8, .binOp BinOp.eql 9 (Operand.tmp 7) (Operand.const (Value.string ⟨#[91, 93]⟩)) 9, none, 0⟩])
 (.cond (Operand.tmp 8)
 (.seq
 (.ops [⟨some 2, .assign (Operand.const (Value.slice none 0 0)), none, 0⟩,
 ⟨some 3, .assign (Operand.const (Value.bool true)), none, 0⟩])
 .ret)
 .skip))
 (.seq
 (.seq
 (.ops [⟨some 9, .move (Operand.tmp 0), none, 0⟩,
 ⟨some 10, .binOp BinOp.eql 9 (Operand.tmp 9) (Operand.const (Value.string ⟨#[]⟩)) 9, none, 0⟩])
 (.cond (Operand.tmp 10)
 (.seq
 (.ops [⟨some 2, .assign (Operand.const (Value.slice none 0 0)), none, 0⟩,
 ⟨some 3, .assign (Operand.const (Value.bool false)), none, 0⟩])
 .ret)
 .skip))
 (.seq
 (.ops [⟨some 4, .assign (Operand.const (Value.slice none 0 0)), none, 0⟩])
 (.seq
 (.block 0
 (.loop
 (.seq
 (.seq
 (.ops [⟨some 11, .move (Operand.tmp 0), none, 0⟩,
 ⟨some 12, .binOp BinOp.neq 9 (Operand.tmp 11) (Operand.const (Value.string ⟨#[]⟩)) 9, none, 0⟩])
 (.cond (Operand.tmp 12)
 .skip
 (.exit 0)))
 (.block 1
 (.seq
 (.draw [⟨some 13, .move (Operand.tmp 0), none, 0⟩,
 ⟨some 14, .slice 9 (Operand.tmp 13) none (some (Operand.const (Value.int IntKind.i64 1))) none, none, 0⟩,
 ⟨some 5, .assign (Operand.const (Value.int IntKind.i64 1)), none, 0⟩,
 ⟨some 6, .assign (Operand.tmp 14), none, 0⟩] true [3] [0, 2, 1, 3])
 (.seq
 (.seq
 (.ops [⟨some 15, .move (Operand.tmp 0), none, 0⟩,
 ⟨some 16, .index 9 (Operand.tmp 15) (Operand.const (Value.int IntKind.i64 0)), none, 0⟩,
 ⟨some 17, .binOp BinOp.eql 5 (Operand.tmp 16) (Operand.const (Value.int IntKind.u8 60)) 5, none, 0⟩])
 (.cond (Operand.tmp 17)
 (.seq
 (.ops [⟨some 18, .move (Operand.tmp 0), none, 0⟩,
 ⟨some 19, .call ⟨(Callee.value (Operand.func 62)), [(Operand.tmp 18), (Operand.const (Value.int IntKind.u8 62))].toArray, #[9, 5]⟩, none, 0⟩,
 ⟨some 20, .binOp BinOp.add 3 (Operand.tmp 19) (Operand.const (Value.int IntKind.i64 1)) 3, none, 0⟩,
 ⟨some 5, .assign (Operand.tmp 20), none, 0⟩])
 (.seq
 (.seq
 (.ops [⟨some 21, .move (Operand.tmp 5), none, 0⟩,
 ⟨some 22, .binOp BinOp.lss 3 (Operand.tmp 21) (Operand.const (Value.int IntKind.i64 4)) 3, none, 0⟩])
 (.cond (Operand.tmp 22)
 (.seq
 (.ops [⟨some 2, .assign (Operand.const (Value.slice none 0 0)), none, 0⟩,
 ⟨some 3, .assign (Operand.const (Value.bool false)), none, 0⟩])
 .ret)
 .skip))
 (.ops [⟨some 23, .move (Operand.tmp 0), none, 0⟩,
 ⟨some 24, .move (Operand.tmp 5), none, 0⟩,
 ⟨some 25, .binOp BinOp.sub 3 (Operand.tmp 24) (Operand.const (Value.int IntKind.i64 1)) 3, none, 0⟩,
 ⟨some 26, .slice 9 (Operand.tmp 23) (some (Operand.const (Value.int IntKind.i64 1))) (some (Operand.tmp 25)) none, none, 0⟩,
 ⟨some 6, .assign (Operand.tmp 26), none, 0⟩])))
 .skip))
 (.seq
 (.seq
 (.ops [⟨some 27, .move (Operand.tmp 6), none, 0⟩,
 ⟨some 28, .buildSlice 29 1 [(0, (Operand.tmp 27))].toArray, none, 0⟩,
 ⟨some 29, .call ⟨(Callee.value (Operand.func 49)), [(Operand.tmp 28)].toArray, #[29]⟩, none, 0⟩,
 ⟨some 30, .binOp BinOp.neq 25 (Operand.tmp 29) (Operand.const (Value.int IntKind.i64 0)) 25, none, 0⟩])
 (.cond (Operand.tmp 30)
 (.seq
 (.ops [⟨some 2, .assign (Operand.const (Value.slice none 0 0)), none, 0⟩,
 ⟨some 3, .assign (Operand.const (Value.bool false)), none, 0⟩])
 .ret)
 .skip))
 (.draw [⟨some 31, .move (Operand.tmp 4), none, 0⟩,
 ⟨some 32, .move (Operand.tmp 6), none, 0⟩,
 ⟨some 33, .buildSlice 29 1 [(0, (Operand.tmp 32))].toArray, none, 0⟩,
 ⟨some 34, .call ⟨(Callee.builtin Builtin.append), [(Operand.tmp 31), (Operand.tmp 33)].toArray, #[29, 29]⟩, none, 0⟩,
 ⟨some 35, .move (Operand.tmp 0), none, 0⟩,
 ⟨some 36, .move (Operand.tmp 5), none, 0⟩,
 ⟨some 37, .slice 9 (Operand.tmp 35) (some (Operand.tmp 36)) none none, none, 0⟩,
 ⟨some 4, .assign (Operand.tmp 34), none, 0⟩,
 ⟨some 0, .assign (Operand.tmp 37), none, 0⟩] true [8] []))))))))
 (.seq
 (.ops [⟨some 38, .move (Operand.tmp 4), none, 0⟩,
 ⟨some 2, .assign (Operand.tmp 38), none, 0⟩,
 ⟨some 3, .assign (Operand.const (Value.bool true)), none, 0⟩])
 .ret))))))
abbrev R37 : List ResultVar := [ResultVar.tmp 2, ResultVar.tmp 3]
theorem ok37 : FnOK Tryd.prog 37 L37 R37 1 := ⟨_, _, Tryd.func37, rfl, by kernel_rfl, by kernel_rfl, by kernel_rfl, by kernel_rfl, Nat.le_of_ble_eq_true (by kernel_rfl), by kernel_rfl⟩

/-- slices.ContainsFunc[[]ablaut/api.Shift,ablaut/api.Shift] -/
def L38 : LCode :=
 (.seq
 (.ops [⟨some 4, .assign (Operand.const (Value.bool false)), none, 0⟩])
 (.seq
 (.ops [⟨some 5, .move (Operand.tmp 0), none, 0⟩,
 ⟨some 6, .move (Operand.tmp 1), none, 0⟩,
 ⟨some 7, .call ⟨(Callee.value (Operand.func 63)), [(Operand.tmp 5), (Operand.tmp 6)].toArray, #[22, 71]⟩, none, 0⟩,
 ⟨some 8, .binOp BinOp.geq 3 (Operand.tmp 7) (Operand.const (Value.int IntKind.i64 0)) 3, none, 0⟩,
 ⟨some 4, .assign (Operand.tmp 8), none, 0⟩])
 .ret))
abbrev R38 : List ResultVar := [ResultVar.tmp 4]
theorem ok38 : FnOK Tryd.prog 38 L38 R38 2 := ⟨_, _, Tryd.func38, rfl, by kernel_rfl, by kernel_rfl, by kernel_rfl, by kernel_rfl, Nat.le_of_ble_eq_true (by kernel_rfl), by kernel_rfl⟩

/-- ablaut/script.Read$1 -/
def L39 : LCode :=
 (.seq
 (.ops [⟨some 2, .box 46 (Operand.tmp 0), none, 0⟩,
 ⟨some 3, .assign (Operand.const (Value.bool false)), none, 0⟩])
 (.seq
 (.ops [⟨some 4, .fieldAddr 46 (Operand.tmp 2) 0, none, 0⟩,
 ⟨some 5, .load 29 (Operand.tmp 4), none, 0⟩,
 ⟨some 6, .load 29 (Operand.tmp 1), none, 0⟩,
 ⟨some 7, .call ⟨(Callee.value (Operand.func 40)), [(Operand.tmp 5), (Operand.tmp 6)].toArray, #[29, 29]⟩, none, 0⟩,
 ⟨some 3, .assign (Operand.tmp 7), none, 0⟩])
 .ret))
abbrev R39 : List ResultVar := [ResultVar.tmp 3]
theorem ok39 : FnOK Tryd.prog 39 L39 R39 2 := ⟨_, _, Tryd.func39, rfl, by kernel_rfl, by kernel_rfl, by kernel_rfl, by kernel_rfl, Nat.le_of_ble_eq_true (by kernel_rfl), by kernel_rfl⟩

/-- slices.Equal[[]string,string] -/
def L40 : LCode :=
 (.seq
 (.ops [⟨some 4, .assign (Operand.const (Value.bool false)), none, 0⟩])
 (.seq
 (.seq
 (.ops [⟨some 6, .move (Operand.tmp 0), none, 0⟩,
 ⟨some 7, .call ⟨(Callee.builtin Builtin.len), [(Operand.tmp 6)].toArray, #[29]⟩, none, 0⟩,
 ⟨some 8, .move (Operand.tmp 1), none, 0⟩,
 ⟨some 9, .call ⟨(Callee.builtin Builtin.len), [(Operand.tmp 8)].toArray, #[29]⟩, none, 0⟩,
 ⟨some 10, .binOp BinOp.neq 3 (Operand.tmp 7) (Operand.tmp 9) 3, none, 0⟩])
 (.cond (Operand.tmp 10)
 (.seq
 (.ops [⟨some 4, .assign (Operand.const (Value.bool false)), none, 0⟩])
 .ret)
 .skip))
 (.seq
 (.seq
 (.ops [⟨some 11, .move (Operand.tmp 0), none, 0⟩,
 ⟨some 12, .call ⟨(Callee.builtin Builtin.len), [(Operand.tmp 11)].toArray, #[29]⟩, none, 0⟩,
 ⟨some 13, .move (Operand.const (Value.int IntKind.i64 0)), none, 0⟩])
 (.block 0
 (.loop
 (.seq
 (.ops [⟨some 14, .binOp BinOp.lss 3 (Operand.tmp 13) (Operand.tmp 12) 3, none, 0⟩])
 (.seq
 (.cond (Operand.tmp 14)
 .skip
 (.exit 0))
 (.seq
 (.block 1
 (.seq
 (.ops [⟨some 15, .move (Operand.tmp 13), none, 0⟩,
 ⟨some 5, .assign (Operand.tmp 15), none, 0⟩])
 (.seq
 (.draw [⟨some 16, .move (Operand.tmp 0), none, 0⟩,
 ⟨some 17, .move (Operand.tmp 5), none, 0⟩,
 ⟨some 18, .indexAddr 29 (Operand.tmp 16) (Operand.tmp 17), none, 0⟩,
 ⟨some 19, .load 9 (Operand.tmp 18), none, 0⟩,
 ⟨some 20, .move (Operand.tmp 1), none, 0⟩,
 ⟨some 21, .move (Operand.tmp 5), none, 0⟩,
 ⟨some 22, .indexAddr 29 (Operand.tmp 20) (Operand.tmp 21), none, 0⟩,
 ⟨some 23, .load 9 (Operand.tmp 22), none, 0⟩,
 ⟨some 24, .binOp BinOp.neq 9 (Operand.tmp 19) (Operand.tmp 23) 9, none, 0⟩] true [8] [0, 1, 2, 4, 5, 6, 3, 7, 8])
 (.cond (Operand.tmp 24)
 (.seq
 (.ops [⟨some 4, .assign (Operand.const (Value.bool false)), none, 0⟩])
 .ret)
 .skip))))
 (.ops [⟨some 25, .binOp BinOp.add 3 (Operand.tmp 13) (Operand.const (Value.int IntKind.i64 1)) 3, none, 0⟩,
 ⟨some 13, .move (Operand.tmp 25), none, 0⟩])))))))
 (.seq
 (.ops [⟨some 4, .assign (Operand.const (Value.bool true)), none, 0⟩])
 .ret))))
abbrev R40 : List ResultVar := [ResultVar.tmp 4]
theorem ok40 : FnOK Tryd.prog 40 L40 R40 2 := ⟨_, _, Tryd.func40, rfl, by kernel_rfl, by kernel_rfl, by kernel_rfl, by kernel_rfl, Nat.le_of_ble_eq_true (by kernel_rfl), by kernel_rfl⟩

/-- slices.SortFunc[[]ablaut/api.Shift,ablaut/api.Shift] -/
def L41 : LCode :=
 (.seq
 (.ops [⟨some 5, .move (Operand.tmp 0), none, 0⟩,
 ⟨some 6, .call ⟨(Callee.builtin Builtin.len), [(Operand.tmp 5)].toArray, #[22]⟩, none, 0⟩,
 ⟨some 4, .assign (Operand.tmp 6), none, 0⟩])
 (.ops [⟨some 7, .move (Operand.tmp 0), none, 0⟩,
 ⟨some 8, .move (Operand.tmp 4), none, 0⟩,
 ⟨some 9, .move (Operand.tmp 4), none, 0⟩,
 ⟨some 10, .convert 3 92 (Operand.tmp 9), none, 0⟩,
 ⟨some 11, .call ⟨(Callee.value (Operand.func 65)), [(Operand.tmp 10)].toArray, #[92]⟩, none, 0⟩,
 ⟨some 12, .move (Operand.tmp 1), none, 0⟩,
 ⟨some 13, .call ⟨(Callee.value (Operand.func 64)), [(Operand.tmp 7), (Operand.const (Value.int IntKind.i64 0)), (Operand.tmp 8), (Operand.tmp 11), (Operand.tmp 12)].toArray, #[22, 3, 3, 3, 73]⟩, none, 0⟩]))
abbrev R41 : List ResultVar := []
theorem ok41 : FnOK Tryd.prog 41 L41 R41 2 := ⟨_, _, Tryd.func41, rfl, by kernel_rfl, by kernel_rfl, by kernel_rfl, by kernel_rfl, Nat.le_of_ble_eq_true (by kernel_rfl), by kernel_rfl⟩

/-- ablaut/script.Read$2 -/
def L42 : LCode :=
 (.seq
 (.ops [⟨some 2, .box 46 (Operand.tmp 0), none, 0⟩,
 ⟨some 3, .box 46 (Operand.tmp 1), none, 0⟩,
 ⟨some 4, .assign (Operand.const (Value.int IntKind.i64 0)), none, 0⟩])
 (.seq
 (.ops [⟨some 5, .fieldAddr 46 (Operand.tmp 2) 0, none, 0⟩,
 ⟨some 6, .load 29 (Operand.tmp 5), none, 0⟩,
 ⟨some 7, .fieldAddr 46 (Operand.tmp 3) 0, none, 0⟩,
 ⟨some 8, .load 29 (Operand.tmp 7), none, 0⟩,
 ⟨some 9, .call ⟨(Callee.value (Operand.func 43)), [(Operand.tmp 6), (Operand.tmp 8)].toArray, #[29, 29]⟩, none, 0⟩,
 ⟨some 4, .assign (Operand.tmp 9), none, 0⟩])
 .ret))
abbrev R42 : List ResultVar := [ResultVar.tmp 4]
theorem ok42 : FnOK Tryd.prog 42 L42 R42 2 := ⟨_, _, Tryd.func42, rfl, by kernel_rfl, by kernel_rfl, by kernel_rfl, by kernel_rfl, Nat.le_of_ble_eq_true (by kernel_rfl), by kernel_rfl⟩

/-- slices.Compare[[]string,string] -/
def L43 : LCode :=
 (.seq
 (.ops [⟨some 4, .assign (Operand.const (Value.int IntKind.i64 0)), none, 0⟩])
 (.seq
 (.seq
 (.ops [⟨some 9, .move (Operand.tmp 0), none, 0⟩,
 ⟨some 10, .call ⟨(Callee.builtin Builtin.len), [(Operand.tmp 9)].toArray, #[29]⟩, none, 0⟩,
 ⟨some 11, .move (Operand.const (Value.int IntKind.i64 0)), none, 0⟩])
 (.block 0
 (.loop
 (.seq
 (.ops [⟨some 12, .binOp BinOp.lss 3 (Operand.tmp 11) (Operand.tmp 10) 3, none, 0⟩])
 (.seq
 (.cond (Operand.tmp 12)
 .skip
 (.exit 0))
 (.seq
 (.block 1
 (.seq
 (.ops [⟨some 13, .move (Operand.tmp 11), none, 0⟩,
 ⟨some 14, .indexAddr 29 (Operand.tmp 9) (Operand.tmp 11), none, 0⟩,
 ⟨some 15, .load 9 (Operand.tmp 14), none, 0⟩,
 ⟨some 5, .assign (Operand.tmp 13), none, 0⟩,
 ⟨some 6, .assign (Operand.tmp 15), none, 0⟩])
 (.seq
 (.seq
 (.ops [⟨some 16, .move (Operand.tmp 5), none, 0⟩,
 ⟨some 17, .move (Operand.tmp 1), none, 0⟩,
 ⟨some 18, .call ⟨(Callee.builtin Builtin.len), [(Operand.tmp 17)].toArray, #[29]⟩, none, 0⟩,
 ⟨some 19, .binOp BinOp.geq 3 (Operand.tmp 16) (Operand.tmp 18) 3, none, 0⟩])
 (.cond (Operand.tmp 19)
 (.seq
 (.ops [⟨some 4, .assign (Operand.const (Value.int IntKind.i64 1)), none, 0⟩])
 .ret)
 .skip))
 (.seq
 (.ops [⟨some 20, .move (Operand.tmp 1), none, 0⟩,
 ⟨some 21, .move (Operand.tmp 5), none, 0⟩,
 ⟨some 22, .indexAddr 29 (Operand.tmp 20) (Operand.tmp 21), none, 0⟩,
 ⟨some 23, .load 9 (Operand.tmp 22), none, 0⟩,
 ⟨some 7, .assign (Operand.tmp 23), none, 0⟩])
 (.seq
 (.ops [⟨some 24, .move (Operand.tmp 6), none, 0⟩,
 ⟨some 25, .move (Operand.tmp 7), none, 0⟩,
 ⟨some 26, .call ⟨(Callee.value (Operand.func 66)), [(Operand.tmp 24), (Operand.tmp 25)].toArray, #[9, 9]⟩, none, 0⟩,
 ⟨some 8, .assign (Operand.tmp 26), none, 0⟩])
 (.seq
 (.ops [⟨some 27, .move (Operand.tmp 8), none, 0⟩,
 ⟨some 28, .binOp BinOp.neq 3 (Operand.tmp 27) (Operand.const (Value.int IntKind.i64 0)) 3, none, 0⟩])
 (.cond (Operand.tmp 28)
 (.seq
 (.ops [⟨some 29, .move (Operand.tmp 8), none, 0⟩,
 ⟨some 4, .assign (Operand.tmp 29), none, 0⟩])
 .ret)
 .skip)))))))
 (.ops [⟨some 30, .binOp BinOp.add 3 (Operand.tmp 11) (Operand.const (Value.int IntKind.i64 1)) 3, none, 0⟩,
 ⟨some 11, .move (Operand.tmp 30), none, 0⟩])))))))
 (.seq
 (.seq
 (.ops [⟨some 31, .move (Operand.tmp 0), none, 0⟩,
 ⟨some 32, .call ⟨(Callee.builtin Builtin.len), [(Operand.tmp 31)].toArray, #[29]⟩, none, 0⟩,
 ⟨some 33, .move (Operand.tmp 1), none, 0⟩,
 ⟨some 34, .call ⟨(Callee.builtin Builtin.len), [(Operand.tmp 33)].toArray, #[29]⟩, none, 0⟩,
 ⟨some 35, .binOp BinOp.lss 3 (Operand.tmp 32) (Operand.tmp 34) 3, none, 0⟩])
 (.cond (Operand.tmp 35)
 (.seq
 (.ops [⟨some 4, .assign (Operand.const (Value.int IntKind.i64 (-1))), none, 0⟩])
 .ret)
 .skip))
 (.seq
 (.ops [⟨some 4, .assign (Operand.const (Value.int IntKind.i64 0)), none, 0⟩])
 .ret))))
abbrev R43 : List ResultVar := [ResultVar.tmp 4]
theorem ok43 : FnOK Tryd.prog 43 L43 R43 2 := ⟨_, _, Tryd.func43, rfl, by kernel_rfl, by kernel_rfl, by kernel_rfl, by kernel_rfl, Nat.le_of_ble_eq_true (by kernel_rfl), by kernel_rfl⟩

/-- ablaut/ablautref25.cut -/
def L44 : LCode :=
 (.seq
 (.ops [⟨some 4, .assign (Operand.const (Value.slice none 0 0)), none, 0⟩])
 (.seq
 (.ops [⟨some 5, .assign (Operand.const (Value.slice none 0 0)), none, 0⟩])
 (.seq
 (.ops [⟨some 6, .assign (Operand.const (Value.int IntKind.i64 0)), none, 0⟩])
 (.seq
 (.seq
 (.ops [⟨some 7, .assign (Operand.const (Value.int IntKind.i64 0)), none, 0⟩])
 (.block 0
 (.loop
 (.seq
 (.seq
 (.ops [⟨some 8, .move (Operand.tmp 7), none, 0⟩,
 ⟨some 9, .move (Operand.tmp 0), none, 0⟩,
 ⟨some 10, .call ⟨(Callee.builtin Builtin.len), [(Operand.tmp 9)].toArray, #[9]⟩, none, 0⟩,
 ⟨some 11, .binOp BinOp.leq 3 (Operand.tmp 8) (Operand.tmp 10) 3, none, 0⟩])
 (.cond (Operand.tmp 11)
 .skip
 (.exit 0)))
 (.seq
 (.block 1
 (.seq
 (.ops [⟨some 14, .move (Operand.tmp 7), none, 0⟩,
 ⟨some 15, .move (Operand.tmp 0), none, 0⟩,
 ⟨some 16, .call ⟨(Callee.builtin Builtin.len), [(Operand.tmp 15)].toArray, #[9]⟩, none, 0⟩,
 ⟨some 17, .binOp BinOp.eql 3 (Operand.tmp 14) (Operand.tmp 16) 3, none, 0⟩,
 ⟨some 18, .move (Operand.tmp 17), none, 0⟩,
 ⟨some 19, .move (Operand.tmp 0), some (18, false), 0⟩,
 ⟨some 20, .move (Operand.tmp 7), some (18, false), 0⟩,
 ⟨some 21, .index 9 (Operand.tmp 19) (Operand.tmp 20), some (18, false), 0⟩,
 ⟨some 22, .move (Operand.tmp 1), some (18, false), 0⟩,
 ⟨some 23, .binOp BinOp.eql 5 (Operand.tmp 21) (Operand.tmp 22) 5, some (18, false), 0⟩,
 ⟨some 24, .pick (Operand.tmp 18) (Operand.const (Value.bool true)) (Operand.tmp 23), none, 0⟩])
 (.cond (Operand.tmp 24)
 (.seq
 (.ops [⟨some 25, .move (Operand.tmp 5), none, 0⟩,
 ⟨some 26, .move (Operand.tmp 0), none, 0⟩,
 ⟨some 27, .move (Operand.tmp 6), none, 0⟩,
 ⟨some 28, .move (Operand.tmp 7), none, 0⟩,
 ⟨some 29, .slice 9 (Operand.tmp 26) (some (Operand.tmp 27)) (some (Operand.tmp 28)) none, none, 0⟩,
 ⟨some 30, .buildSlice 29 1 [(0, (Operand.tmp 29))].toArray, none, 0⟩,
 ⟨some 31, .call ⟨(Callee.builtin Builtin.append), [(Operand.tmp 25), (Operand.tmp 30)].toArray, #[29, 29]⟩, none, 0⟩,
 ⟨some 5, .assign (Operand.tmp 31), none, 0⟩])
 (.ops [⟨some 32, .move (Operand.tmp 7), none, 0⟩,
 ⟨some 33, .binOp BinOp.add 3 (Operand.tmp 32) (Operand.const (Value.int IntKind.i64 1)) 3, none, 0⟩,
 ⟨some 6, .assign (Operand.tmp 33), none, 0⟩]))
 .skip)))
 (.ops [⟨some 12, .move (Operand.tmp 7), none, 0⟩,
 ⟨some 13, .binOp BinOp.add 3 (Operand.tmp 12) (Operand.const (Value.int IntKind.i64 1)) 3, none, 0⟩,
 ⟨some 7, .assign (Operand.tmp 13), none, 0⟩]))))))
 (.seq
 (.ops [⟨some 34, .move (Operand.tmp 5), none, 0⟩,
 ⟨some 4, .assign (Operand.tmp 34), none, 0⟩])
 .ret)))))
abbrev R44 : List ResultVar := [ResultVar.tmp 4]
theorem ok44 : FnOK Tryd.prog 44 L44 R44 2 := ⟨_, _, Tryd.func44, rfl, by kernel_rfl, by kernel_rfl, by kernel_rfl, by kernel_rfl, Nat.le_of_ble_eq_true (by kernel_rfl), by kernel_rfl⟩

/-- ablaut/ablautref25.read -/
def L45 : LCode :=
 (.seq
 (.ops [⟨some 2, .assign (Operand.const (Value.slice none 0 0)), none, 0⟩,
 ⟨some 3, .assign (Operand.const (Value.bool false)), none, 0⟩])
 (.seq
 (.seq
 (.ops [⟨some 6, .move (Operand.tmp 0), none, 0⟩,
 ⟨some 7, .binOp BinOp.eql 9 (Operand.tmp 6) (Operand.const (Value.string ⟨#[91, 93]⟩)) 9, none, 0⟩])
 (.cond (Operand.tmp 7)
 (.seq
 (.ops [⟨some 2, .assign (Operand.const (Value.slice none 0 0)), none, 0⟩,
 ⟨some 3, .assign (Operand.const (Value.bool true)), none, 0⟩])
 .ret)
 .skip))
 (.seq
 (.ops [⟨some 9, .move (Operand.tmp 0), none, 0⟩,
 ⟨some 10, .call ⟨(Callee.value (Operand.func 67)), [(Operand.tmp 9)].toArray, #[9]⟩, none, 0⟩,
 ⟨some 8, .move (Operand.tmp 10), none, 0⟩,
 ⟨some 11, .extract (Operand.tmp 8) 0, none, 0⟩,
 ⟨some 12, .extract (Operand.tmp 8) 1, none, 0⟩,
 ⟨some 4, .assign (Operand.tmp 11), none, 0⟩,
 ⟨some 5, .assign (Operand.tmp 12), none, 0⟩])
 (.seq
 (.ops [⟨some 13, .move (Operand.tmp 4), none, 0⟩,
 ⟨some 14, .move (Operand.tmp 5), none, 0⟩,
 ⟨some 15, .move (Operand.tmp 14), none, 0⟩,
 ⟨some 16, .move (Operand.tmp 0), some (15, true), 0⟩,
 ⟨some 17, .binOp BinOp.neq 9 (Operand.tmp 16) (Operand.const (Value.string ⟨#[]⟩)) 9, some (15, true), 0⟩,
 ⟨some 18, .pick (Operand.tmp 15) (Operand.tmp 17) (Operand.const (Value.bool false)), none, 0⟩,
 ⟨some 2, .assign (Operand.tmp 13), none, 0⟩,
 ⟨some 3, .assign (Operand.tmp 18), none, 0⟩])
 .ret))))
abbrev R45 : List ResultVar := [ResultVar.tmp 2, ResultVar.tmp 3]
theorem ok45 : FnOK Tryd.prog 45 L45 R45 1 := ⟨_, _, Tryd.func45, rfl, by kernel_rfl, by kernel_rfl, by kernel_rfl, by kernel_rfl, Nat.le_of_ble_eq_true (by kernel_rfl), by kernel_rfl⟩

/-- ablaut/ablautref25.sorted -/
def L46 : LCode :=
 (.seq
 (.ops [⟨some 2, .assign (Operand.const (Value.slice none 0 0)), none, 0⟩])
 (.seq
 (.ops [⟨some 3, .assign (Operand.const (Value.slice none 0 0)), none, 0⟩])
 (.seq
 (.seq
 (.ops [⟨some 4, .assign (Operand.const (Value.int IntKind.i64 0)), none, 0⟩])
 (.block 0
 (.loop
 (.seq
 (.seq
 (.ops [⟨some 7, .move (Operand.tmp 4), none, 0⟩,
 ⟨some 8, .move (Operand.tmp 0), none, 0⟩,
 ⟨some 9, .call ⟨(Callee.builtin Builtin.len), [(Operand.tmp 8)].toArray, #[22]⟩, none, 0⟩,
 ⟨some 10, .binOp BinOp.lss 3 (Operand.tmp 7) (Operand.tmp 9) 3, none, 0⟩])
 (.cond (Operand.tmp 10)
 .skip
 (.exit 0)))
 (.seq
 (.block 1
 (.seq
 (.ops [⟨some 13, .move (Operand.tmp 3), none, 0⟩,
 ⟨some 14, .call ⟨(Callee.builtin Builtin.len), [(Operand.tmp 13)].toArray, #[22]⟩, none, 0⟩,
 ⟨some 5, .assign (Operand.tmp 14), none, 0⟩])
 (.seq
 (.block 2
 (.loop
 (.seq
 (.seq
 (.draw [⟨some 15, .move (Operand.tmp 5), none, 0⟩,
 ⟨some 16, .binOp BinOp.gtr 3 (Operand.tmp 15) (Operand.const (Value.int IntKind.i64 0)) 3, none, 0⟩,
 ⟨some 17, .move (Operand.tmp 16), none, 0⟩,
 ⟨some 18, .move (Operand.tmp 3), some (17, true), 0⟩,
 ⟨some 19, .move (Operand.tmp 5), some (17, true), 0⟩,
 ⟨some 20, .binOp BinOp.sub 3 (Operand.tmp 19) (Operand.const (Value.int IntKind.i64 1)) 3, some (17, true), 0⟩,
 ⟨some 21, .indexAddr 22 (Operand.tmp 18) (Operand.tmp 20), some (17, true), 0⟩,
 ⟨some 22, .fieldAddr 46 (Operand.tmp 21) 0, some (17, true), 0⟩,
 ⟨some 23, .load 29 (Operand.tmp 22), some (17, true), 0⟩,
 ⟨some 24, .move (Operand.tmp 0), some (17, true), 0⟩,
 ⟨some 25, .move (Operand.tmp 4), some (17, true), 0⟩,
 ⟨some 26, .indexAddr 22 (Operand.tmp 24) (Operand.tmp 25), some (17, true), 0⟩,
 ⟨some 27, .fieldAddr 46 (Operand.tmp 26) 0, some (17, true), 0⟩,
 ⟨some 28, .load 29 (Operand.tmp 27), some (17, true), 0⟩,
 ⟨some 29, .call ⟨(Callee.value (Operand.func 34)), [(Operand.tmp 23), (Operand.tmp 28)].toArray, #[29, 29]⟩, some (17, true), 0⟩,
 ⟨some 30, .binOp BinOp.gtr 3 (Operand.tmp 29) (Operand.const (Value.int IntKind.i64 0)) 3, some (17, true), 0⟩,
 ⟨some 31, .pick (Operand.tmp 17) (Operand.tmp 30) (Operand.const (Value.bool false)), none, 0⟩] true [14, 15, 16] [0, 1, 2, 3, 4, 5, 6, 7, 9, 10, 11, 12, 8, 13, 14, 15, 16])
 (.cond (Operand.tmp 31)
 .skip
 (.exit 2)))
 (.block 3
 (.ops [⟨some 32, .move (Operand.tmp 5), none, 0⟩,
 ⟨some 33, .binOp BinOp.sub 3 (Operand.tmp 32) (Operand.const (Value.int IntKind.i64 1)) 3, none, 0⟩,
 ⟨some 5, .assign (Operand.tmp 33), none, 0⟩])))))
 (.seq
 (.ops [⟨some 34, .buildSlice 22 0 [].toArray, none, 0⟩,
 ⟨some 35, .move (Operand.tmp 3), none, 0⟩,
 ⟨some 36, .move (Operand.tmp 5), none, 0⟩,
 ⟨some 37, .slice 22 (Operand.tmp 35) none (some (Operand.tmp 36)) none, none, 0⟩,
 ⟨some 38, .call ⟨(Callee.builtin Builtin.append), [(Operand.tmp 34), (Operand.tmp 37)].toArray, #[22, 22]⟩, none, 0⟩,
 ⟨some 6, .assign (Operand.tmp 38), none, 0⟩])
 (.seq
 (.ops [⟨some 39, .move (Operand.tmp 6), none, 0⟩,
 ⟨some 40, .move (Operand.tmp 0), none, 0⟩,
 ⟨some 41, .move (Operand.tmp 4), none, 0⟩,
 ⟨some 42, .indexAddr 22 (Operand.tmp 40) (Operand.tmp 41), none, 0⟩,
 ⟨some 43, .load 46 (Operand.tmp 42), none, 0⟩,
 ⟨some 44, .buildSlice 22 1 [(0, (Operand.tmp 43))].toArray, none, 0⟩,
 ⟨some 45, .call ⟨(Callee.builtin Builtin.append), [(Operand.tmp 39), (Operand.tmp 44)].toArray, #[22, 22]⟩, none, 0⟩,
 ⟨some 6, .assign (Operand.tmp 45), none, 0⟩])
 (.ops [⟨some 46, .move (Operand.tmp 6), none, 0⟩,
 ⟨some 47, .move (Operand.tmp 3), none, 0⟩,
 ⟨some 48, .move (Operand.tmp 5), none, 0⟩,
 ⟨some 49, .slice 22 (Operand.tmp 47) (some (Operand.tmp 48)) none none, none, 0⟩,
 ⟨some 50, .call ⟨(Callee.builtin Builtin.append), [(Operand.tmp 46), (Operand.tmp 49)].toArray, #[22, 22]⟩, none, 0⟩,
 ⟨some 3, .assign (Operand.tmp 50), none, 0⟩]))))))
 (.ops [⟨some 11, .move (Operand.tmp 4), none, 0⟩,
 ⟨some 12, .binOp BinOp.add 3 (Operand.tmp 11) (Operand.const (Value.int IntKind.i64 1)) 3, none, 0⟩,
 ⟨some 4, .assign (Operand.tmp 12), none, 0⟩]))))))
 (.seq
 (.ops [⟨some 51, .move (Operand.tmp 3), none, 0⟩,
 ⟨some 2, .assign (Operand.tmp 51), none, 0⟩])
 .ret))))
abbrev R46 : List ResultVar := [ResultVar.tmp 2]
theorem ok46 : FnOK Tryd.prog 46 L46 R46 1 := ⟨_, _, Tryd.func46, rfl, by kernel_rfl, by kernel_rfl, by kernel_rfl, by kernel_rfl, Nat.le_of_ble_eq_true (by kernel_rfl), by kernel_rfl⟩

/-- ablaut/script.clash -/
def L48 : LCode :=
 (.seq
 (.ops [⟨some 2, .assign (Operand.const (Value.slice none 0 0)), none, 0⟩])
 (.seq
 (.seq
 (.ops [⟨some 17, .move (Operand.tmp 0), none, 0⟩,
 ⟨some 18, .call ⟨(Callee.value (Operand.func 68)), [(Operand.tmp 17), (Operand.func 69)].toArray, #[49, 95]⟩, none, 0⟩,
 ⟨some 3, .assign (Operand.tmp 18), none, 0⟩])
 (.seq
 (.ops [⟨some 19, .move (Operand.tmp 3), none, 0⟩,
 ⟨some 20, .binOp BinOp.geq 3 (Operand.tmp 19) (Operand.const (Value.int IntKind.i64 0)) 3, none, 0⟩])
 (.cond (Operand.tmp 20)
 (.seq
 (.ops [⟨some 21, .move (Operand.tmp 3), none, 0⟩,
 ⟨some 22, .buildSlice 56 1 [(0, (Operand.tmp 21))].toArray, none, 0⟩,
 ⟨some 23, .buildSlice 76 2 [(0, (Operand.const (Value.slice none 0 0))), (1, (Operand.tmp 22))].toArray, none, 0⟩,
 ⟨some 2, .assign (Operand.tmp 23), none, 0⟩])
 .ret)
 .skip)))
 (.seq
 (.ops [⟨some 4, .assign (Operand.const (Value.slice none 0 0)), none, 0⟩])
 (.seq
 (.seq
 (.ops [⟨some 24, .move (Operand.tmp 0), none, 0⟩,
 ⟨some 25, .call ⟨(Callee.builtin Builtin.len), [(Operand.tmp 24)].toArray, #[49]⟩, none, 0⟩,
 ⟨some 26, .move (Operand.const (Value.int IntKind.i64 0)), none, 0⟩])
 (.block 0
 (.loop
 (.seq
 (.ops [⟨some 27, .binOp BinOp.lss 3 (Operand.tmp 26) (Operand.tmp 25) 3, none, 0⟩])
 (.seq
 (.cond (Operand.tmp 27)
 .skip
 (.exit 0))
 (.seq
 (.block 1
 (.seq
 (.ops [⟨some 28, .move (Operand.tmp 26), none, 0⟩,
 ⟨some 29, .indexAddr 49 (Operand.tmp 24) (Operand.tmp 26), none, 0⟩,
 ⟨some 30, .load 29 (Operand.tmp 29), none, 0⟩,
 ⟨some 5, .assign (Operand.tmp 28), none, 0⟩,
 ⟨some 6, .assign (Operand.tmp 30), none, 0⟩])
 (.seq
 (.ops [⟨some 31, .move (Operand.tmp 0), none, 0⟩,
 ⟨some 32, .call ⟨(Callee.builtin Builtin.len), [(Operand.tmp 31)].toArray, #[49]⟩, none, 0⟩,
 ⟨some 33, .move (Operand.const (Value.int IntKind.i64 0)), none, 0⟩])
 (.block 2
 (.loop
 (.seq
 (.ops [⟨some 34, .binOp BinOp.lss 3 (Operand.tmp 33) (Operand.tmp 32) 3, none, 0⟩])
 (.seq
 (.cond (Operand.tmp 34)
 .skip
 (.exit 2))
 (.seq
 (.block 3
 (.seq
 (.ops [⟨some 35, .move (Operand.tmp 33), none, 0⟩,
 ⟨some 36, .indexAddr 49 (Operand.tmp 31) (Operand.tmp 33), none, 0⟩,
 ⟨some 37, .load 29 (Operand.tmp 36), none, 0⟩,
 ⟨some 7, .assign (Operand.tmp 35), none, 0⟩,
 ⟨some 8, .assign (Operand.tmp 37), none, 0⟩])
 (.seq
 (.ops [⟨some 38, .move (Operand.tmp 5), none, 0⟩,
 ⟨some 39, .move (Operand.tmp 7), none, 0⟩,
 ⟨some 40, .binOp BinOp.neq 3 (Operand.tmp 38) (Operand.tmp 39) 3, none, 0⟩,
 ⟨some 41, .move (Operand.tmp 40), none, 0⟩,
 ⟨some 42, .move (Operand.tmp 8), some (41, true), 0⟩,
 ⟨some 43, .move (Operand.tmp 6), some (41, true), 0⟩,
 ⟨some 44, .call ⟨(Callee.value (Operand.func 70)), [(Operand.tmp 42), (Operand.tmp 43)].toArray, #[29, 29]⟩, some (41, true), 0⟩,
 ⟨some 45, .pick (Operand.tmp 41) (Operand.tmp 44) (Operand.const (Value.bool false)), none, 0⟩,
 ⟨some 46, .move (Operand.tmp 45), none, 0⟩,
 ⟨some 47, .move (Operand.tmp 6), some (46, true), 0⟩,
 ⟨some 48, .call ⟨(Callee.builtin Builtin.len), [(Operand.tmp 47)].toArray, #[29]⟩, some (46, true), 0⟩,
 ⟨some 49, .move (Operand.tmp 8), some (46, true), 0⟩,
 ⟨some 50, .call ⟨(Callee.builtin Builtin.len), [(Operand.tmp 49)].toArray, #[29]⟩, some (46, true), 0⟩,
 ⟨some 51, .binOp BinOp.lss 3 (Operand.tmp 48) (Operand.tmp 50) 3, some (46, true), 0⟩,
 ⟨some 52, .move (Operand.tmp 51), some (46, true), 0⟩,
 ⟨some 53, .move (Operand.tmp 5), some (52, false), 0⟩,
 ⟨some 54, .move (Operand.tmp 7), some (52, false), 0⟩,
 ⟨some 55, .binOp BinOp.lss 3 (Operand.tmp 53) (Operand.tmp 54) 3, some (52, false), 0⟩,
 ⟨some 56, .pick (Operand.tmp 52) (Operand.const (Value.bool true)) (Operand.tmp 55), some (46, true), 0⟩,
 ⟨some 57, .pick (Operand.tmp 46) (Operand.tmp 56) (Operand.const (Value.bool false)), none, 0⟩])
 (.cond (Operand.tmp 57)
 (.ops [⟨some 58, .move (Operand.tmp 4), none, 0⟩,
 ⟨some 59, .move (Operand.tmp 8), none, 0⟩,
 ⟨some 60, .move (Operand.tmp 6), none, 0⟩,
 ⟨some 61, .call ⟨(Callee.builtin Builtin.len), [(Operand.tmp 60)].toArray, #[29]⟩, none, 0⟩,
 ⟨some 62, .slice 29 (Operand.tmp 59) (some (Operand.tmp 61)) none none, none, 0⟩,
 ⟨some 63, .move (Operand.tmp 8), none, 0⟩,
 ⟨some 64, .call ⟨(Callee.builtin Builtin.len), [(Operand.tmp 63)].toArray, #[29]⟩, none, 0⟩,
 ⟨some 65, .move (Operand.tmp 5), none, 0⟩,
 ⟨some 66, .buildSlice 56 1 [(0, (Operand.tmp 65))].toArray, none, 0⟩,
 ⟨some 67, .move (Operand.tmp 7), none, 0⟩,
 ⟨some 68, .buildSlice 56 1 [(0, (Operand.tmp 67))].toArray, none, 0⟩,
 ⟨some 69, .build 98 [(0, (Operand.tmp 62)), (1, (Operand.tmp 64)), (2, (Operand.tmp 66)), (3, (Operand.tmp 68))].toArray, none, 0⟩,
 ⟨some 70, .buildSlice 96 1 [(0, (Operand.tmp 69))].toArray, none, 0⟩,
 ⟨some 71, .call ⟨(Callee.builtin Builtin.append), [(Operand.tmp 58), (Operand.tmp 70)].toArray, #[96, 96]⟩, none, 1⟩,
 ⟨some 4, .assign (Operand.tmp 71), none, 0⟩])
 .skip))))
 (.ops [⟨some 72, .binOp BinOp.add 3 (Operand.tmp 33) (Operand.const (Value.int IntKind.i64 1)) 3, none, 0⟩,
 ⟨some 33, .move (Operand.tmp 72), none, 0⟩])))))))))
 (.ops [⟨some 73, .binOp BinOp.add 3 (Operand.tmp 26) (Operand.const (Value.int IntKind.i64 1)) 3, none, 0⟩,
 ⟨some 26, .move (Operand.tmp 73), none, 0⟩])))))))
 (.seq
 (.ops [⟨some 74, .makeMap 60 none, none, 0⟩,
 ⟨some 9, .assign (Operand.tmp 74), none, 0⟩])
 (.seq
 (.block 4
 (.loop
 (.seq
 (.seq
 (.ops [⟨some 75, .move (Operand.tmp 4), none, 0⟩,
 ⟨some 76, .call ⟨(Callee.builtin Builtin.len), [(Operand.tmp 75)].toArray, #[96]⟩, none, 0⟩,
 ⟨some 77, .binOp BinOp.gtr 3 (Operand.tmp 76) (Operand.const (Value.int IntKind.i64 0)) 3, none, 0⟩])
 (.cond (Operand.tmp 77)
 .skip
 (.exit 4)))
 (.block 5
 (.seq
 (.ops [⟨some 10, .assign (Operand.const (Value.int IntKind.i64 0)), none, 0⟩])
 (.seq
 (.seq
 (.ops [⟨some 78, .move (Operand.tmp 4), none, 0⟩,
 ⟨some 79, .call ⟨(Callee.builtin Builtin.len), [(Operand.tmp 78)].toArray, #[96]⟩, none, 0⟩,
 ⟨some 80, .move (Operand.const (Value.int IntKind.i64 0)), none, 0⟩])
 (.block 6
 (.loop
 (.seq
 (.ops [⟨some 81, .binOp BinOp.lss 3 (Operand.tmp 80) (Operand.tmp 79) 3, none, 0⟩])
 (.seq
 (.cond (Operand.tmp 81)
 .skip
 (.exit 6))
 (.seq
 (.block 7
 (.seq
 (.ops [⟨some 82, .move (Operand.tmp 80), none, 0⟩,
 ⟨some 83, .indexAddr 96 (Operand.tmp 78) (Operand.tmp 80), none, 0⟩,
 ⟨some 84, .load 98 (Operand.tmp 83), none, 0⟩,
 ⟨some 12, .alloc 98, none, 0⟩,
 ⟨some 11, .assign (Operand.tmp 82), none, 0⟩,
 ⟨none, .store 98 (Operand.tmp 12) (Operand.tmp 84), none, 0⟩])
 (.seq
 (.draw [⟨some 85, .fieldAddr 98 (Operand.tmp 12) 1, none, 0⟩,
 ⟨some 86, .load 3 (Operand.tmp 85), none, 0⟩,
 ⟨some 87, .move (Operand.tmp 4), none, 0⟩,
 ⟨some 88, .move (Operand.tmp 10), none, 0⟩,
 ⟨some 89, .indexAddr 96 (Operand.tmp 87) (Operand.tmp 88), none, 0⟩,
 ⟨some 90, .fieldAddr 98 (Operand.tmp 89) 1, none, 0⟩,
 ⟨some 91, .load 3 (Operand.tmp 90), none, 0⟩,
 ⟨some 92, .binOp BinOp.lss 3 (Operand.tmp 86) (Operand.tmp 91) 3, none, 0⟩] true [7] [0, 2, 3, 4, 5, 1, 6, 7])
 (.cond (Operand.tmp 92)
 (.ops [⟨some 93, .move (Operand.tmp 11), none, 0⟩,
 ⟨some 10, .assign (Operand.tmp 93), none, 0⟩])
 .skip))))
 (.ops [⟨some 94, .binOp BinOp.add 3 (Operand.tmp 80) (Operand.const (Value.int IntKind.i64 1)) 3, none, 0⟩,
 ⟨some 80, .move (Operand.tmp 94), none, 0⟩])))))))
 (.seq
 (.ops [⟨some 95, .move (Operand.tmp 4), none, 0⟩,
 ⟨some 96, .move (Operand.tmp 10), none, 0⟩,
 ⟨some 97, .indexAddr 96 (Operand.tmp 95) (Operand.tmp 96), none, 0⟩,
 ⟨some 98, .load 98 (Operand.tmp 97), none, 0⟩,
 ⟨some 13, .alloc 98, none, 0⟩,
 ⟨none, .store 98 (Operand.tmp 13) (Operand.tmp 98), none, 0⟩])
 (.seq
 (.ops [⟨some 99, .move (Operand.tmp 4), none, 0⟩,
 ⟨some 100, .move (Operand.tmp 10), none, 0⟩,
 ⟨some 101, .move (Operand.tmp 10), none, 0⟩,
 ⟨some 102, .binOp BinOp.add 3 (Operand.tmp 101) (Operand.const (Value.int IntKind.i64 1)) 3, none, 0⟩,
 ⟨some 103, .call ⟨(Callee.value (Operand.func 71)), [(Operand.tmp 99), (Operand.tmp 100), (Operand.tmp 102)].toArray, #[96, 3, 3]⟩, none, 0⟩,
 ⟨some 4, .assign (Operand.tmp 103), none, 0⟩])
 (.seq
 (.seq
 (.ops [⟨some 104, .fieldAddr 98 (Operand.tmp 13) 0, none, 0⟩,
 ⟨some 105, .load 29 (Operand.tmp 104), none, 0⟩,
 ⟨some 106, .call ⟨(Callee.builtin Builtin.len), [(Operand.tmp 105)].toArray, #[29]⟩, none, 0⟩,
 ⟨some 107, .binOp BinOp.eql 3 (Operand.tmp 106) (Operand.const (Value.int IntKind.i64 0)) 3, none, 0⟩])
 (.cond (Operand.tmp 107)
 (.seq
 (.ops [⟨some 108, .fieldAddr 98 (Operand.tmp 13) 2, none, 0⟩,
 ⟨some 109, .load 56 (Operand.tmp 108), none, 0⟩,
 ⟨some 110, .fieldAddr 98 (Operand.tmp 13) 3, none, 0⟩,
 ⟨some 111, .load 56 (Operand.tmp 110), none, 0⟩,
 ⟨some 112, .buildSlice 76 2 [(0, (Operand.tmp 109)), (1, (Operand.tmp 111))].toArray, none, 0⟩,
 ⟨some 2, .assign (Operand.tmp 112), none, 0⟩])
 .ret)
 .skip))
 (.seq
 (.seq
 (.ops [⟨some 113, .move (Operand.tmp 9), none, 0⟩,
 ⟨some 114, .fieldAddr 98 (Operand.tmp 13) 0, none, 0⟩,
 ⟨some 115, .load 29 (Operand.tmp 114), none, 0⟩,
 ⟨some 116, .call ⟨(Callee.value (Operand.func 56)), [(Operand.tmp 115)].toArray, #[29]⟩, none, 0⟩,
 ⟨some 117, .lookup 60 (Operand.tmp 113) (Operand.tmp 116) false, none, 0⟩])
 (.cond (Operand.tmp 117)
 (.exit 5)
 .skip))
 (.seq
 (.ops [⟨some 118, .move (Operand.tmp 9), none, 0⟩,
 ⟨some 119, .fieldAddr 98 (Operand.tmp 13) 0, none, 0⟩,
 ⟨some 120, .load 29 (Operand.tmp 119), none, 0⟩,
 ⟨some 121, .call ⟨(Callee.value (Operand.func 56)), [(Operand.tmp 120)].toArray, #[29]⟩, none, 0⟩,
 ⟨none, .mapUpdate 60 (Operand.tmp 118) (Operand.tmp 121) (Operand.const (Value.bool true)), none, 0⟩])
 (.seq
 (.ops [⟨some 122, .move (Operand.tmp 0), none, 0⟩,
 ⟨some 123, .call ⟨(Callee.builtin Builtin.len), [(Operand.tmp 122)].toArray, #[49]⟩, none, 0⟩,
 ⟨some 124, .move (Operand.const (Value.int IntKind.i64 0)), none, 0⟩])
 (.block 8
 (.loop
 (.seq
 (.ops [⟨some 125, .binOp BinOp.lss 3 (Operand.tmp 124) (Operand.tmp 123) 3, none, 0⟩])
 (.seq
 (.cond (Operand.tmp 125)
 .skip
 (.exit 8))
 (.seq
 (.block 9
 (.seq
 (.ops [⟨some 126, .move (Operand.tmp 124), none, 0⟩,
 ⟨some 127, .indexAddr 49 (Operand.tmp 122) (Operand.tmp 124), none, 0⟩,
 ⟨some 128, .load 29 (Operand.tmp 127), none, 0⟩,
 ⟨some 14, .assign (Operand.tmp 126), none, 0⟩,
 ⟨some 15, .assign (Operand.tmp 128), none, 0⟩])
 (.seq
 (.ops [⟨some 129, .fieldAddr 98 (Operand.tmp 13) 2, none, 0⟩,
 ⟨some 130, .load 56 (Operand.tmp 129), none, 0⟩,
 ⟨some 131, .call ⟨(Callee.value (Operand.func 72)), [(Operand.tmp 130)].toArray, #[56]⟩, none, 0⟩,
 ⟨some 132, .move (Operand.tmp 14), none, 0⟩,
 ⟨some 133, .buildSlice 56 1 [(0, (Operand.tmp 132))].toArray, none, 0⟩,
 ⟨some 134, .call ⟨(Callee.builtin Builtin.append), [(Operand.tmp 131), (Operand.tmp 133)].toArray, #[56, 56]⟩, none, 0⟩,
 ⟨some 16, .assign (Operand.tmp 134), none, 0⟩])
 (.block 10
 (.seq
 (.ops [⟨some 136, .fieldAddr 98 (Operand.tmp 13) 0, none, 0⟩,
 ⟨some 137, .load 29 (Operand.tmp 136), none, 0⟩,
 ⟨some 138, .move (Operand.tmp 15), none, 0⟩,
 ⟨some 139, .call ⟨(Callee.value (Operand.func 70)), [(Operand.tmp 137), (Operand.tmp 138)].toArray, #[29, 29]⟩, none, 0⟩,
 ⟨some 135, .assign (Operand.tmp 139), none, 0⟩])
 (.cond (Operand.tmp 135)
 (.draw [⟨some 140, .move (Operand.tmp 4), none, 0⟩,
 ⟨some 141, .fieldAddr 98 (Operand.tmp 13) 0, none, 0⟩,
 ⟨some 142, .load 29 (Operand.tmp 141), none, 0⟩,
 ⟨some 143, .move (Operand.tmp 15), none, 0⟩,
 ⟨some 144, .call ⟨(Callee.builtin Builtin.len), [(Operand.tmp 143)].toArray, #[29]⟩, none, 0⟩,
 ⟨some 145, .slice 29 (Operand.tmp 142) (some (Operand.tmp 144)) none none, none, 0⟩,
 ⟨some 146, .fieldAddr 98 (Operand.tmp 13) 1, none, 0⟩,
 ⟨some 147, .load 3 (Operand.tmp 146), none, 0⟩,
 ⟨some 148, .move (Operand.tmp 16), none, 0⟩,
 ⟨some 149, .fieldAddr 98 (Operand.tmp 13) 3, none, 0⟩,
 ⟨some 150, .load 56 (Operand.tmp 149), none, 0⟩,
 ⟨some 151, .build 98 [(0, (Operand.tmp 145)), (1, (Operand.tmp 147)), (2, (Operand.tmp 148)), (3, (Operand.tmp 150))].toArray, none, 0⟩,
 ⟨some 152, .buildSlice 96 1 [(0, (Operand.tmp 151))].toArray, none, 0⟩,
 ⟨some 153, .call ⟨(Callee.builtin Builtin.append), [(Operand.tmp 140), (Operand.tmp 152)].toArray, #[96, 96]⟩, none, 1⟩,
 ⟨some 4, .assign (Operand.tmp 153), none, 0⟩] true [13, 14] [])
 (.seq
 (.ops [⟨some 155, .move (Operand.tmp 15), none, 0⟩,
 ⟨some 156, .fieldAddr 98 (Operand.tmp 13) 0, none, 0⟩,
 ⟨some 157, .load 29 (Operand.tmp 156), none, 0⟩,
 ⟨some 158, .call ⟨(Callee.value (Operand.func 70)), [(Operand.tmp 155), (Operand.tmp 157)].toArray, #[29, 29]⟩, none, 0⟩,
 ⟨some 154, .assign (Operand.tmp 158), none, 0⟩])
 (.cond (Operand.tmp 154)
 (.draw [⟨some 159, .move (Operand.tmp 4), none, 0⟩,
 ⟨some 160, .move (Operand.tmp 15), none, 0⟩,
 ⟨some 161, .fieldAddr 98 (Operand.tmp 13) 0, none, 0⟩,
 ⟨some 162, .load 29 (Operand.tmp 161), none, 0⟩,
 ⟨some 163, .call ⟨(Callee.builtin Builtin.len), [(Operand.tmp 162)].toArray, #[29]⟩, none, 0⟩,
 ⟨some 164, .slice 29 (Operand.tmp 160) (some (Operand.tmp 163)) none none, none, 0⟩,
 ⟨some 165, .fieldAddr 98 (Operand.tmp 13) 1, none, 0⟩,
 ⟨some 166, .load 3 (Operand.tmp 165), none, 0⟩,
 ⟨some 167, .move (Operand.tmp 15), none, 0⟩,
 ⟨some 168, .call ⟨(Callee.builtin Builtin.len), [(Operand.tmp 167)].toArray, #[29]⟩, none, 0⟩,
 ⟨some 169, .binOp BinOp.add 3 (Operand.tmp 166) (Operand.tmp 168) 3, none, 0⟩,
 ⟨some 170, .fieldAddr 98 (Operand.tmp 13) 0, none, 0⟩,
 ⟨some 171, .load 29 (Operand.tmp 170), none, 0⟩,
 ⟨some 172, .call ⟨(Callee.builtin Builtin.len), [(Operand.tmp 171)].toArray, #[29]⟩, none, 0⟩,
 ⟨some 173, .binOp BinOp.sub 3 (Operand.tmp 169) (Operand.tmp 172) 3, none, 0⟩,
 ⟨some 174, .fieldAddr 98 (Operand.tmp 13) 3, none, 0⟩,
 ⟨some 175, .load 56 (Operand.tmp 174), none, 0⟩,
 ⟨some 176, .move (Operand.tmp 16), none, 0⟩,
 ⟨some 177, .build 98 [(0, (Operand.tmp 164)), (1, (Operand.tmp 173)), (2, (Operand.tmp 175)), (3, (Operand.tmp 176))].toArray, none, 0⟩,
 ⟨some 178, .buildSlice 96 1 [(0, (Operand.tmp 177))].toArray, none, 0⟩,
 ⟨some 179, .call ⟨(Callee.builtin Builtin.append), [(Operand.tmp 159), (Operand.tmp 178)].toArray, #[96, 96]⟩, none, 1⟩,
 ⟨some 4, .assign (Operand.tmp 179), none, 0⟩] true [20, 21] [])
 .skip))))))))
 (.ops [⟨some 180, .binOp BinOp.add 3 (Operand.tmp 124) (Operand.const (Value.int IntKind.i64 1)) 3, none, 0⟩,
 ⟨some 124, .move (Operand.tmp 180), none, 0⟩]))))))))))))))))))
 (.seq
 (.ops [⟨some 2, .assign (Operand.const (Value.slice none 0 0)), none, 0⟩])
 .ret)))))))
abbrev R48 : List ResultVar := [ResultVar.tmp 2]
theorem ok48 : FnOK Tryd.prog 48 L48 R48 1 := ⟨_, _, Tryd.func48, rfl, by kernel_rfl, by kernel_rfl, by kernel_rfl, by kernel_rfl, Nat.le_of_ble_eq_true (by kernel_rfl), by kernel_rfl⟩

/-- ablaut/syms.ValidateWord -/
def L49 : LCode :=
 (.seq
 (.ops [⟨some 2, .assign (Operand.const (Value.int IntKind.i64 0)), none, 0⟩])
 (.seq
 (.block 0
 (.seq
 (.ops [⟨some 4, .move (Operand.tmp 0), none, 0⟩,
 ⟨some 5, .call ⟨(Callee.builtin Builtin.len), [(Operand.tmp 4)].toArray, #[29]⟩, none, 0⟩,
 ⟨some 6, .binOp BinOp.gtr 3 (Operand.tmp 5) (Operand.const (Value.int IntKind.i64 60)) 3, none, 0⟩,
 ⟨some 7, .move (Operand.tmp 6), none, 0⟩,
 ⟨some 8, .move (Operand.tmp 0), some (7, false), 0⟩,
 ⟨some 9, .call ⟨(Callee.value (Operand.func 73)), [(Operand.tmp 8), (Operand.func 74)].toArray, #[29, 39]⟩, some (7, false), 0⟩,
 ⟨some 10, .pick (Operand.tmp 7) (Operand.const (Value.bool true)) (Operand.tmp 9), none, 0⟩,
 ⟨some 3, .assign (Operand.tmp 10), none, 0⟩])
 (.cond (Operand.tmp 3)
 (.seq
 (.ops [⟨some 2, .assign (Operand.const (Value.int IntKind.i64 3)), none, 0⟩])
 .ret)
 (.seq
 (.ops [⟨some 12, .move (Operand.tmp 0), none, 0⟩,
 ⟨some 13, .call ⟨(Callee.value (Operand.func 73)), [(Operand.tmp 12), (Operand.func 75)].toArray, #[29, 39]⟩, none, 0⟩,
 ⟨some 11, .assign (Operand.tmp 13), none, 0⟩])
 (.cond (Operand.tmp 11)
 (.seq
 (.ops [⟨some 2, .assign (Operand.const (Value.int IntKind.i64 1)), none, 0⟩])
 .ret)
 .skip)))))
 (.seq
 (.ops [⟨some 2, .assign (Operand.const (Value.int IntKind.i64 0)), none, 0⟩])
 .ret)))
abbrev R49 : List ResultVar := [ResultVar.tmp 2]
theorem ok49 : FnOK Tryd.prog 49 L49 R49 1 := ⟨_, _, Tryd.func49, rfl, by kernel_rfl, by kernel_rfl, by kernel_rfl, by kernel_rfl, Nat.le_of_ble_eq_true (by kernel_rfl), by kernel_rfl⟩

/-- ablaut/script.plain -/
def L50 : LCode :=
 (.seq
 (.ops [⟨some 2, .assign (Operand.const (Value.bool false)), none, 0⟩])
 (.seq
 (.ops [⟨some 3, .move (Operand.tmp 0), none, 0⟩,
 ⟨some 4, .call ⟨(Callee.value (Operand.func 38)), [(Operand.tmp 3), (Operand.func 77)].toArray, #[22, 71]⟩, none, 0⟩,
 ⟨some 5, .unOp UnOp.not 4 (Operand.tmp 4), none, 0⟩,
 ⟨some 2, .assign (Operand.tmp 5), none, 0⟩])
 .ret))
abbrev R50 : List ResultVar := [ResultVar.tmp 2]
theorem ok50 : FnOK Tryd.prog 50 L50 R50 1 := ⟨_, _, Tryd.func50, rfl, by kernel_rfl, by kernel_rfl, by kernel_rfl, by kernel_rfl, Nat.le_of_ble_eq_true (by kernel_rfl), by kernel_rfl⟩

/-- ablaut/script.asked$1 -/
def L51 : LCode :=
 (.seq
 (.ops [⟨some 1, .box 46 (Operand.tmp 0), none, 0⟩,
 ⟨some 2, .assign (Operand.const (Value.bool false)), none, 0⟩])
 (.seq
 (.ops [⟨some 3, .fieldAddr 46 (Operand.tmp 1) 1, none, 0⟩,
 ⟨some 4, .load 29 (Operand.tmp 3), none, 0⟩,
 ⟨some 5, .call ⟨(Callee.builtin Builtin.len), [(Operand.tmp 4)].toArray, #[29]⟩, none, 0⟩,
 ⟨some 6, .binOp BinOp.gtr 3 (Operand.tmp 5) (Operand.const (Value.int IntKind.i64 8)) 3, none, 0⟩,
 ⟨some 2, .assign (Operand.tmp 6), none, 0⟩])
 .ret))
abbrev R51 : List ResultVar := [ResultVar.tmp 2]
theorem ok51 : FnOK Tryd.prog 51 L51 R51 1 := ⟨_, _, Tryd.func51, rfl, by kernel_rfl, by kernel_rfl, by kernel_rfl, by kernel_rfl, Nat.le_of_ble_eq_true (by kernel_rfl), by kernel_rfl⟩

/-- ablaut/script.step -/
def L52 : LCode :=
 (.seq
 (.ops [⟨some 4, .assign (Operand.const (Value.slice none 0 0)), none, 0⟩,
 ⟨some 5, .assign (Operand.const (Value.int IntKind.i64 0)), none, 0⟩,
 ⟨some 6, .assign (Operand.const (Value.int IntKind.i64 0)), none, 0⟩])
 (.seq
 (.ops [⟨some 8, .move (Operand.tmp 0), none, 0⟩,
 ⟨some 9, .move (Operand.tmp 1), none, 0⟩,
 ⟨some 10, .call ⟨(Callee.value (Operand.func 78)), [(Operand.tmp 8), (Operand.tmp 9)].toArray, #[22, 29]⟩, none, 0⟩,
 ⟨some 7, .assign (Operand.tmp 10), none, 0⟩])
 (.seq
 (.seq
 (.ops [⟨some 11, .move (Operand.tmp 7), none, 0⟩,
 ⟨some 12, .binOp BinOp.lss 3 (Operand.tmp 11) (Operand.const (Value.int IntKind.i64 0)) 3, none, 0⟩])
 (.cond (Operand.tmp 12)
 (.seq
 (.ops [⟨some 13, .move (Operand.tmp 1), none, 0⟩,
 ⟨some 14, .slice 29 (Operand.tmp 13) none (some (Operand.const (Value.int IntKind.i64 1))) none, none, 0⟩,
 ⟨some 4, .assign (Operand.tmp 14), none, 0⟩,
 ⟨some 5, .assign (Operand.const (Value.int IntKind.i64 1)), none, 0⟩,
 ⟨some 6, .assign (Operand.const (Value.int IntKind.i64 (-1))), none, 0⟩])
 .ret)
 .skip))
 (.seq
 (.draw [⟨some 15, .move (Operand.tmp 0), none, 0⟩,
 ⟨some 16, .move (Operand.tmp 7), none, 0⟩,
 ⟨some 17, .indexAddr 22 (Operand.tmp 15) (Operand.tmp 16), none, 0⟩,
 ⟨some 18, .fieldAddr 46 (Operand.tmp 17) 1, none, 0⟩,
 ⟨some 19, .load 29 (Operand.tmp 18), none, 0⟩,
 ⟨some 20, .move (Operand.tmp 0), none, 0⟩,
 ⟨some 21, .move (Operand.tmp 7), none, 0⟩,
 ⟨some 22, .indexAddr 22 (Operand.tmp 20) (Operand.tmp 21), none, 0⟩,
 ⟨some 23, .fieldAddr 46 (Operand.tmp 22) 0, none, 0⟩,
 ⟨some 24, .load 29 (Operand.tmp 23), none, 0⟩,
 ⟨some 25, .call ⟨(Callee.builtin Builtin.len), [(Operand.tmp 24)].toArray, #[29]⟩, none, 0⟩,
 ⟨some 26, .move (Operand.tmp 7), none, 0⟩,
 ⟨some 4, .assign (Operand.tmp 19), none, 0⟩,
 ⟨some 5, .assign (Operand.tmp 25), none, 0⟩,
 ⟨some 6, .assign (Operand.tmp 26), none, 0⟩] true [14] [0, 1, 2, 3, 5, 6, 7, 8, 11, 4, 9, 10, 12, 13, 14])
 .ret))))
abbrev R52 : List ResultVar := [ResultVar.tmp 4, ResultVar.tmp 5, ResultVar.tmp 6]
theorem ok52 : FnOK Tryd.prog 52 L52 R52 2 := ⟨_, _, Tryd.func52, rfl, by kernel_rfl, by kernel_rfl, by kernel_rfl, by kernel_rfl, Nat.le_of_ble_eq_true (by kernel_rfl), by kernel_rfl⟩

/-- ablaut/script.word -/
def L53 : LCode :=
 (.seq
 (.ops [⟨some 2, .assign (Operand.const (Value.slice none 0 0)), none, 0⟩])
 (.seq
 (.seq
 (.ops [⟨some 3, .move (Operand.tmp 0), none, 0⟩,
 ⟨some 4, .binOp BinOp.eql 9 (Operand.tmp 3) (Operand.const (Value.string ⟨#[]⟩)) 9, none, 0⟩])
 (.cond (Operand.tmp 4)
 (.seq
 (.ops [⟨some 2, .assign (Operand.const (Value.slice none 0 0)), none, 0⟩])
 .ret)
 .skip))
 (.seq
 (.ops [⟨some 5, .move (Operand.tmp 0), none, 0⟩,
 ⟨some 6, .call ⟨(Callee.value (Operand.func 36)), [(Operand.tmp 5), (Operand.const (Value.string ⟨#[32]⟩))].toArray, #[9, 9]⟩, none, 0⟩,
 ⟨some 2, .assign (Operand.tmp 6), none, 0⟩])
 .ret)))
abbrev R53 : List ResultVar := [ResultVar.tmp 2]
theorem ok53 : FnOK Tryd.prog 53 L53 R53 1 := ⟨_, _, Tryd.func53, rfl, by kernel_rfl, by kernel_rfl, by kernel_rfl, by kernel_rfl, Nat.le_of_ble_eq_true (by kernel_rfl), by kernel_rfl⟩
end Go.Proofs.YtldlcejlfaogbaaDoor.Vs
