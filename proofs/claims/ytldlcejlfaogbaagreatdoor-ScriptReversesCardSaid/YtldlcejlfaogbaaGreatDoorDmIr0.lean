/- The seat's functions as the engine Dm reads them, written by dgen.py. -/
import Derived.Test.YtldlcejlfaogbaaGreatDoorDmFn
import Derived.Test.YtldlcejlfaogbaaGreatDoorProg
import Derived.KernelRfl
namespace Go.Proofs.YtldlcejlfaogbaaGreatDoor.Vs
set_option linter.unusedVariables false
set_option maxRecDepth 100000
/-- ablaut/ablautlaw25.ScriptReverses -/
def L4 : LCode :=
 (.seq
 (.ops [⟨some 2, .assign (Operand.const (Value.bool false)), none, 0⟩])
 (.seq
 (.seq
 (.ops [⟨some 23, .move (Operand.tmp 0), none, 0⟩,
 ⟨some 24, .call ⟨(Callee.value (Operand.func 8)), [(Operand.tmp 23)].toArray, #[22]⟩, none, 0⟩])
 (.cond (Operand.tmp 24)
 (.seq
 (.ops [⟨some 25, .call ⟨(Callee.value (Operand.func 10)), [].toArray, #[]⟩, none, 0⟩,
 ⟨some 2, .assign (Operand.tmp 25), none, 0⟩])
 .ret)
 .skip))
 (.seq
 (.ops [⟨some 27, .move (Operand.tmp 0), none, 0⟩,
 ⟨some 28, .call ⟨(Callee.value (Operand.func 19)), [(Operand.tmp 27)].toArray, #[22]⟩, none, 0⟩,
 ⟨some 26, .move (Operand.tmp 28), none, 0⟩,
 ⟨some 29, .extract (Operand.tmp 26) 0, none, 0⟩,
 ⟨some 30, .extract (Operand.tmp 26) 1, none, 0⟩,
 ⟨some 3, .assign (Operand.tmp 29), none, 0⟩,
 ⟨some 4, .assign (Operand.tmp 30), none, 0⟩])
 (.seq
 (.seq
 (.ops [⟨some 31, .move (Operand.tmp 0), none, 0⟩,
 ⟨some 32, .call ⟨(Callee.value (Operand.func 20)), [(Operand.tmp 31)].toArray, #[22]⟩, none, 0⟩,
 ⟨some 5, .assign (Operand.tmp 32), none, 0⟩])
 (.seq
 (.ops [⟨some 33, .move (Operand.tmp 4), none, 0⟩,
 ⟨some 34, .move (Operand.tmp 5), none, 0⟩,
 ⟨some 35, .binOp BinOp.neq 32 (Operand.tmp 33) (Operand.tmp 34) 32, none, 0⟩,
 ⟨some 36, .move (Operand.tmp 35), none, 0⟩,
 ⟨some 37, .move (Operand.tmp 3), some (36, false), 0⟩,
 ⟨some 38, .move (Operand.tmp 5), some (36, false), 0⟩,
 ⟨some 39, .binOp BinOp.eql 32 (Operand.tmp 38) (Operand.const (Value.int IntKind.i64 0)) 32, some (36, false), 0⟩,
 ⟨some 40, .move (Operand.tmp 39), some (36, false), 0⟩,
 ⟨some 41, .move (Operand.tmp 0), some (40, true), 0⟩,
 ⟨some 42, .call ⟨(Callee.value (Operand.func 21)), [(Operand.tmp 41)].toArray, #[22]⟩, some (40, true), 0⟩,
 ⟨some 43, .pick (Operand.tmp 40) (Operand.tmp 42) (Operand.const (Value.bool false)), some (36, false), 0⟩,
 ⟨some 44, .binOp BinOp.neq 4 (Operand.tmp 37) (Operand.tmp 43) 4, some (36, false), 0⟩,
 ⟨some 45, .pick (Operand.tmp 36) (Operand.const (Value.bool true)) (Operand.tmp 44), none, 0⟩])
 (.cond (Operand.tmp 45)
 (.seq
 (.ops [⟨some 2, .assign (Operand.const (Value.bool false)), none, 0⟩])
 .ret)
 .skip)))
 (.seq
 (.ops [⟨some 47, .move (Operand.tmp 0), none, 0⟩,
 ⟨some 48, .call ⟨(Callee.value (Operand.func 22)), [(Operand.tmp 47)].toArray, #[22]⟩, none, 0⟩,
 ⟨some 46, .move (Operand.tmp 48), none, 0⟩,
 ⟨some 49, .extract (Operand.tmp 46) 0, none, 0⟩,
 ⟨some 50, .extract (Operand.tmp 46) 1, none, 0⟩,
 ⟨some 51, .extract (Operand.tmp 46) 2, none, 0⟩,
 ⟨some 6, .assign (Operand.tmp 49), none, 0⟩,
 ⟨some 7, .assign (Operand.tmp 50), none, 0⟩,
 ⟨some 8, .assign (Operand.tmp 51), none, 0⟩])
 (.seq
 (.ops [⟨some 53, .move (Operand.tmp 0), none, 0⟩,
 ⟨some 54, .call ⟨(Callee.value (Operand.func 23)), [(Operand.tmp 53)].toArray, #[22]⟩, none, 0⟩,
 ⟨some 52, .move (Operand.tmp 54), none, 0⟩,
 ⟨some 55, .extract (Operand.tmp 52) 0, none, 0⟩,
 ⟨some 56, .extract (Operand.tmp 52) 1, none, 0⟩,
 ⟨some 57, .extract (Operand.tmp 52) 2, none, 0⟩,
 ⟨some 9, .assign (Operand.tmp 55), none, 0⟩,
 ⟨some 10, .assign (Operand.tmp 56), none, 0⟩,
 ⟨some 11, .assign (Operand.tmp 57), none, 0⟩])
 (.seq
 (.seq
 (.ops [⟨some 58, .move (Operand.tmp 6), none, 0⟩,
 ⟨some 59, .move (Operand.tmp 9), none, 0⟩,
 ⟨some 60, .call ⟨(Callee.value (Operand.func 24)), [(Operand.tmp 58), (Operand.tmp 59)].toArray, #[22, 22]⟩, none, 0⟩,
 ⟨some 61, .unOp UnOp.not 4 (Operand.tmp 60), none, 0⟩,
 ⟨some 62, .move (Operand.tmp 61), none, 0⟩,
 ⟨some 63, .move (Operand.tmp 7), some (62, false), 0⟩,
 ⟨some 64, .move (Operand.tmp 10), some (62, false), 0⟩,
 ⟨some 65, .binOp BinOp.neq 4 (Operand.tmp 63) (Operand.tmp 64) 4, some (62, false), 0⟩,
 ⟨some 66, .pick (Operand.tmp 62) (Operand.const (Value.bool true)) (Operand.tmp 65), none, 0⟩,
 ⟨some 67, .move (Operand.tmp 66), none, 0⟩,
 ⟨some 68, .move (Operand.tmp 8), some (67, false), 0⟩,
 ⟨some 69, .move (Operand.tmp 11), some (67, false), 0⟩,
 ⟨some 70, .binOp BinOp.neq 32 (Operand.tmp 68) (Operand.tmp 69) 32, some (67, false), 0⟩,
 ⟨some 71, .pick (Operand.tmp 67) (Operand.const (Value.bool true)) (Operand.tmp 70), none, 0⟩])
 (.cond (Operand.tmp 71)
 (.seq
 (.ops [⟨some 2, .assign (Operand.const (Value.bool false)), none, 0⟩])
 .ret)
 .skip))
 (.seq
 (.ops [⟨some 73, .move (Operand.tmp 0), none, 0⟩,
 ⟨some 74, .call ⟨(Callee.value (Operand.func 25)), [(Operand.tmp 73)].toArray, #[22]⟩, none, 0⟩,
 ⟨some 72, .move (Operand.tmp 74), none, 0⟩,
 ⟨some 75, .extract (Operand.tmp 72) 0, none, 0⟩,
 ⟨some 76, .extract (Operand.tmp 72) 1, none, 0⟩,
 ⟨some 77, .extract (Operand.tmp 72) 2, none, 0⟩,
 ⟨some 13, .alloc 24, none, 0⟩,
 ⟨some 12, .assign (Operand.tmp 75), none, 0⟩,
 ⟨none, .store 24 (Operand.tmp 13) (Operand.tmp 76), none, 0⟩,
 ⟨some 14, .assign (Operand.tmp 77), none, 0⟩])
 (.seq
 (.ops [⟨some 79, .move (Operand.tmp 0), none, 0⟩,
 ⟨some 80, .call ⟨(Callee.value (Operand.func 26)), [(Operand.tmp 79)].toArray, #[22]⟩, none, 0⟩,
 ⟨some 78, .move (Operand.tmp 80), none, 0⟩,
 ⟨some 81, .extract (Operand.tmp 78) 0, none, 0⟩,
 ⟨some 82, .extract (Operand.tmp 78) 1, none, 0⟩,
 ⟨some 15, .assign (Operand.tmp 81), none, 0⟩,
 ⟨some 16, .assign (Operand.tmp 82), none, 0⟩])
 (.seq
 (.seq
 (.ops [⟨some 83, .move (Operand.tmp 14), none, 0⟩,
 ⟨some 84, .move (Operand.tmp 16), none, 0⟩,
 ⟨some 85, .binOp BinOp.neq 32 (Operand.tmp 83) (Operand.tmp 84) 32, none, 0⟩])
 (.cond (Operand.tmp 85)
 (.seq
 (.ops [⟨some 2, .assign (Operand.const (Value.bool false)), none, 0⟩])
 .ret)
 .skip))
 (.seq
 (.seq
 (.ops [⟨some 86, .move (Operand.tmp 14), none, 0⟩,
 ⟨some 87, .binOp BinOp.neq 32 (Operand.tmp 86) (Operand.const (Value.int IntKind.i64 0)) 32, none, 0⟩,
 ⟨some 88, .move (Operand.tmp 87), none, 0⟩,
 ⟨some 89, .move (Operand.tmp 15), some (88, false), 0⟩,
 ⟨some 90, .binOp BinOp.lss 3 (Operand.tmp 89) (Operand.const (Value.int IntKind.i64 0)) 3, some (88, false), 0⟩,
 ⟨some 91, .pick (Operand.tmp 88) (Operand.const (Value.bool true)) (Operand.tmp 90), none, 0⟩])
 (.cond (Operand.tmp 91)
 (.seq
 (.ops [⟨some 92, .move (Operand.tmp 12), none, 0⟩,
 ⟨some 93, .move (Operand.tmp 14), none, 0⟩,
 ⟨some 94, .binOp BinOp.eql 32 (Operand.tmp 93) (Operand.const (Value.int IntKind.i64 0)) 32, none, 0⟩,
 ⟨some 95, .binOp BinOp.eql 4 (Operand.tmp 92) (Operand.tmp 94) 4, none, 0⟩,
 ⟨some 96, .move (Operand.tmp 95), none, 0⟩,
 ⟨some 97, .indexAddr 24 (Operand.tmp 13) (Operand.const (Value.int IntKind.i64 0)), some (96, true), 0⟩,
 ⟨some 98, .load 23 (Operand.tmp 97), some (96, true), 0⟩,
 ⟨some 99, .call ⟨(Callee.builtin Builtin.len), [(Operand.tmp 98)].toArray, #[23]⟩, some (96, true), 0⟩,
 ⟨some 100, .binOp BinOp.eql 3 (Operand.tmp 99) (Operand.const (Value.int IntKind.i64 0)) 3, some (96, true), 0⟩,
 ⟨some 101, .pick (Operand.tmp 96) (Operand.tmp 100) (Operand.const (Value.bool false)), none, 0⟩,
 ⟨some 102, .move (Operand.tmp 101), none, 0⟩,
 ⟨some 103, .indexAddr 24 (Operand.tmp 13) (Operand.const (Value.int IntKind.i64 1)), some (102, true), 0⟩,
 ⟨some 104, .load 23 (Operand.tmp 103), some (102, true), 0⟩,
 ⟨some 105, .call ⟨(Callee.builtin Builtin.len), [(Operand.tmp 104)].toArray, #[23]⟩, some (102, true), 0⟩,
 ⟨some 106, .binOp BinOp.eql 3 (Operand.tmp 105) (Operand.const (Value.int IntKind.i64 0)) 3, some (102, true), 0⟩,
 ⟨some 107, .pick (Operand.tmp 102) (Operand.tmp 106) (Operand.const (Value.bool false)), none, 0⟩,
 ⟨some 108, .move (Operand.tmp 107), none, 0⟩,
 ⟨some 109, .call ⟨(Callee.value (Operand.func 10)), [].toArray, #[]⟩, some (108, true), 0⟩,
 ⟨some 110, .pick (Operand.tmp 108) (Operand.tmp 109) (Operand.const (Value.bool false)), none, 0⟩,
 ⟨some 2, .assign (Operand.tmp 110), none, 0⟩])
 .ret)
 .skip))
 (.seq
 (.ops [⟨some 112, .move (Operand.tmp 0), none, 0⟩,
 ⟨some 113, .indexAddr 24 (Operand.tmp 13) (Operand.const (Value.int IntKind.i64 0)), none, 0⟩,
 ⟨some 114, .load 23 (Operand.tmp 113), none, 0⟩,
 ⟨some 115, .call ⟨(Callee.value (Operand.func 17)), [(Operand.tmp 112), (Operand.tmp 114)].toArray, #[22, 23]⟩, none, 0⟩,
 ⟨some 111, .move (Operand.tmp 115), none, 0⟩,
 ⟨some 116, .extract (Operand.tmp 111) 0, none, 0⟩,
 ⟨some 117, .extract (Operand.tmp 111) 1, none, 0⟩,
 ⟨some 118, .extract (Operand.tmp 111) 2, none, 0⟩,
 ⟨some 17, .assign (Operand.tmp 116), none, 0⟩,
 ⟨some 18, .assign (Operand.tmp 117), none, 0⟩,
 ⟨some 19, .assign (Operand.tmp 118), none, 0⟩])
 (.seq
 (.ops [⟨some 120, .move (Operand.tmp 0), none, 0⟩,
 ⟨some 121, .indexAddr 24 (Operand.tmp 13) (Operand.const (Value.int IntKind.i64 1)), none, 0⟩,
 ⟨some 122, .load 23 (Operand.tmp 121), none, 0⟩,
 ⟨some 123, .call ⟨(Callee.value (Operand.func 17)), [(Operand.tmp 120), (Operand.tmp 122)].toArray, #[22, 23]⟩, none, 0⟩,
 ⟨some 119, .move (Operand.tmp 123), none, 0⟩,
 ⟨some 124, .extract (Operand.tmp 119) 0, none, 0⟩,
 ⟨some 125, .extract (Operand.tmp 119) 1, none, 0⟩,
 ⟨some 126, .extract (Operand.tmp 119) 2, none, 0⟩,
 ⟨some 20, .assign (Operand.tmp 124), none, 0⟩,
 ⟨some 21, .assign (Operand.tmp 125), none, 0⟩,
 ⟨some 22, .assign (Operand.tmp 126), none, 0⟩])
 (.seq
 (.ops [⟨some 127, .move (Operand.tmp 12), none, 0⟩,
 ⟨some 128, .unOp UnOp.not 4 (Operand.tmp 127), none, 0⟩,
 ⟨some 129, .move (Operand.tmp 128), none, 0⟩,
 ⟨some 130, .move (Operand.tmp 18), some (129, true), 0⟩,
 ⟨some 131, .pick (Operand.tmp 129) (Operand.tmp 130) (Operand.const (Value.bool false)), none, 0⟩,
 ⟨some 132, .move (Operand.tmp 131), none, 0⟩,
 ⟨some 133, .move (Operand.tmp 21), some (132, true), 0⟩,
 ⟨some 134, .pick (Operand.tmp 132) (Operand.tmp 133) (Operand.const (Value.bool false)), none, 0⟩,
 ⟨some 135, .move (Operand.tmp 134), none, 0⟩,
 ⟨some 136, .indexAddr 24 (Operand.tmp 13) (Operand.const (Value.int IntKind.i64 0)), some (135, true), 0⟩,
 ⟨some 137, .load 23 (Operand.tmp 136), some (135, true), 0⟩,
 ⟨some 138, .indexAddr 24 (Operand.tmp 13) (Operand.const (Value.int IntKind.i64 1)), some (135, true), 0⟩,
 ⟨some 139, .load 23 (Operand.tmp 138), some (135, true), 0⟩,
 ⟨some 140, .call ⟨(Callee.value (Operand.func 15)), [(Operand.tmp 137), (Operand.tmp 139)].toArray, #[23, 23]⟩, some (135, true), 0⟩,
 ⟨some 141, .unOp UnOp.not 4 (Operand.tmp 140), some (135, true), 0⟩,
 ⟨some 142, .pick (Operand.tmp 135) (Operand.tmp 141) (Operand.const (Value.bool false)), none, 0⟩,
 ⟨some 143, .move (Operand.tmp 142), none, 0⟩,
 ⟨some 144, .move (Operand.tmp 17), some (143, true), 0⟩,
 ⟨some 145, .move (Operand.tmp 20), some (143, true), 0⟩,
 ⟨some 146, .call ⟨(Callee.value (Operand.func 15)), [(Operand.tmp 144), (Operand.tmp 145)].toArray, #[23, 23]⟩, some (143, true), 0⟩,
 ⟨some 147, .pick (Operand.tmp 143) (Operand.tmp 146) (Operand.const (Value.bool false)), none, 0⟩,
 ⟨some 148, .move (Operand.tmp 147), none, 0⟩,
 ⟨some 149, .move (Operand.tmp 17), some (148, true), 0⟩,
 ⟨some 150, .call ⟨(Callee.builtin Builtin.len), [(Operand.tmp 149)].toArray, #[23]⟩, some (148, true), 0⟩,
 ⟨some 151, .move (Operand.tmp 15), some (148, true), 0⟩,
 ⟨some 152, .binOp BinOp.eql 3 (Operand.tmp 150) (Operand.tmp 151) 3, some (148, true), 0⟩,
 ⟨some 153, .pick (Operand.tmp 148) (Operand.tmp 152) (Operand.const (Value.bool false)), none, 0⟩,
 ⟨some 154, .move (Operand.tmp 153), none, 0⟩,
 ⟨some 155, .call ⟨(Callee.value (Operand.func 10)), [].toArray, #[]⟩, some (154, true), 0⟩,
 ⟨some 156, .pick (Operand.tmp 154) (Operand.tmp 155) (Operand.const (Value.bool false)), none, 0⟩,
 ⟨some 2, .assign (Operand.tmp 156), none, 0⟩])
 .ret))))))))))))))
abbrev R4 : List ResultVar := [ResultVar.tmp 2]
theorem ok4 : FnOK Tryz.prog 4 L4 R4 1 := ⟨_, _, Tryz.func4, rfl, by kernel_rfl, by kernel_rfl, by kernel_rfl, by kernel_rfl, Nat.le_of_ble_eq_true (by kernel_rfl), by kernel_rfl⟩

/-- ablaut/ablautlaw25.over -/
def L8 : LCode :=
 (.seq
 (.ops [⟨some 2, .assign (Operand.const (Value.bool false)), none, 0⟩])
 (.seq
 (.ops [⟨some 5, .move (Operand.tmp 0), none, 0⟩,
 ⟨some 6, .call ⟨(Callee.builtin Builtin.len), [(Operand.tmp 5)].toArray, #[22]⟩, none, 0⟩,
 ⟨some 3, .assign (Operand.tmp 6), none, 0⟩])
 (.seq
 (.seq
 (.ops [⟨some 4, .assign (Operand.const (Value.int IntKind.i64 0)), none, 0⟩])
 (.block 0
 (.loop
 (.seq
 (.seq
 (.ops [⟨some 7, .move (Operand.tmp 4), none, 0⟩,
 ⟨some 8, .move (Operand.tmp 0), none, 0⟩,
 ⟨some 9, .call ⟨(Callee.builtin Builtin.len), [(Operand.tmp 8)].toArray, #[22]⟩, none, 0⟩,
 ⟨some 10, .binOp BinOp.lss 3 (Operand.tmp 7) (Operand.tmp 9) 3, none, 0⟩,
 ⟨some 11, .move (Operand.tmp 10), none, 0⟩,
 ⟨some 12, .move (Operand.tmp 3), some (11, true), 0⟩,
 ⟨some 13, .binOp BinOp.leq 3 (Operand.tmp 12) (Operand.const (Value.int IntKind.i64 100000)) 3, some (11, true), 0⟩,
 ⟨some 14, .pick (Operand.tmp 11) (Operand.tmp 13) (Operand.const (Value.bool false)), none, 0⟩])
 (.cond (Operand.tmp 14)
 .skip
 (.exit 0)))
 (.seq
 (.block 1
 (.draw [⟨some 17, .move (Operand.tmp 3), none, 0⟩,
 ⟨some 18, .move (Operand.tmp 0), none, 0⟩,
 ⟨some 19, .move (Operand.tmp 4), none, 0⟩,
 ⟨some 20, .indexAddr 22 (Operand.tmp 18) (Operand.tmp 19), none, 0⟩,
 ⟨some 21, .fieldAddr 67 (Operand.tmp 20) 0, none, 0⟩,
 ⟨some 22, .load 23 (Operand.tmp 21), none, 0⟩,
 ⟨some 23, .move (Operand.tmp 0), none, 0⟩,
 ⟨some 24, .move (Operand.tmp 4), none, 0⟩,
 ⟨some 25, .indexAddr 22 (Operand.tmp 23) (Operand.tmp 24), none, 0⟩,
 ⟨some 26, .fieldAddr 67 (Operand.tmp 25) 1, none, 0⟩,
 ⟨some 27, .load 23 (Operand.tmp 26), none, 0⟩,
 ⟨some 28, .buildSlice 58 2 [(0, (Operand.tmp 22)), (1, (Operand.tmp 27))].toArray, none, 0⟩,
 ⟨some 29, .call ⟨(Callee.value (Operand.func 9)), [(Operand.tmp 28)].toArray, #[58]⟩, none, 0⟩,
 ⟨some 30, .binOp BinOp.add 3 (Operand.tmp 17) (Operand.tmp 29) 3, none, 0⟩,
 ⟨some 3, .assign (Operand.tmp 30), none, 0⟩] true [13, 14] []))
 (.ops [⟨some 15, .move (Operand.tmp 4), none, 0⟩,
 ⟨some 16, .binOp BinOp.add 3 (Operand.tmp 15) (Operand.const (Value.int IntKind.i64 1)) 3, none, 0⟩,
 ⟨some 4, .assign (Operand.tmp 16), none, 0⟩]))))))
 (.seq
 (.ops [⟨some 31, .move (Operand.tmp 3), none, 0⟩,
 ⟨some 32, .binOp BinOp.gtr 3 (Operand.tmp 31) (Operand.const (Value.int IntKind.i64 100000)) 3, none, 0⟩,
 ⟨some 2, .assign (Operand.tmp 32), none, 0⟩])
 .ret))))
abbrev R8 : List ResultVar := [ResultVar.tmp 2]
theorem ok8 : FnOK Tryz.prog 8 L8 R8 1 := ⟨_, _, Tryz.func8, rfl, by kernel_rfl, by kernel_rfl, by kernel_rfl, by kernel_rfl, Nat.le_of_ble_eq_true (by kernel_rfl), by kernel_rfl⟩

/-- ablaut/ablautlaw25.bytes -/
def L9 : LCode :=
 (.seq
 (.ops [⟨some 2, .assign (Operand.const (Value.int IntKind.i64 0)), none, 0⟩])
 (.seq
 (.ops [⟨some 3, .assign (Operand.const (Value.int IntKind.i64 0)), none, 0⟩])
 (.seq
 (.seq
 (.ops [⟨some 4, .assign (Operand.const (Value.int IntKind.i64 0)), none, 0⟩])
 (.block 0
 (.loop
 (.seq
 (.seq
 (.ops [⟨some 6, .move (Operand.tmp 4), none, 0⟩,
 ⟨some 7, .move (Operand.tmp 0), none, 0⟩,
 ⟨some 8, .call ⟨(Callee.builtin Builtin.len), [(Operand.tmp 7)].toArray, #[58]⟩, none, 0⟩,
 ⟨some 9, .binOp BinOp.lss 3 (Operand.tmp 6) (Operand.tmp 8) 3, none, 0⟩,
 ⟨some 10, .move (Operand.tmp 9), none, 0⟩,
 ⟨some 11, .move (Operand.tmp 3), some (10, true), 0⟩,
 ⟨some 12, .binOp BinOp.leq 3 (Operand.tmp 11) (Operand.const (Value.int IntKind.i64 100000)) 3, some (10, true), 0⟩,
 ⟨some 13, .pick (Operand.tmp 10) (Operand.tmp 12) (Operand.const (Value.bool false)), none, 0⟩])
 (.cond (Operand.tmp 13)
 .skip
 (.exit 0)))
 (.seq
 (.block 1
 (.seq
 (.ops [⟨some 16, .move (Operand.tmp 3), none, 0⟩,
 ⟨some 17, .move (Operand.tmp 0), none, 0⟩,
 ⟨some 18, .move (Operand.tmp 4), none, 0⟩,
 ⟨some 19, .indexAddr 58 (Operand.tmp 17) (Operand.tmp 18), none, 0⟩,
 ⟨some 20, .load 23 (Operand.tmp 19), none, 0⟩,
 ⟨some 21, .call ⟨(Callee.builtin Builtin.len), [(Operand.tmp 20)].toArray, #[23]⟩, none, 0⟩,
 ⟨some 22, .binOp BinOp.add 3 (Operand.const (Value.int IntKind.i64 1)) (Operand.tmp 21) 3, none, 0⟩,
 ⟨some 23, .binOp BinOp.add 3 (Operand.tmp 16) (Operand.tmp 22) 3, none, 0⟩,
 ⟨some 3, .assign (Operand.tmp 23), none, 0⟩])
 (.seq
 (.ops [⟨some 5, .assign (Operand.const (Value.int IntKind.i64 0)), none, 0⟩])
 (.block 2
 (.loop
 (.seq
 (.seq
 (.ops [⟨some 24, .move (Operand.tmp 5), none, 0⟩,
 ⟨some 25, .move (Operand.tmp 0), none, 0⟩,
 ⟨some 26, .move (Operand.tmp 4), none, 0⟩,
 ⟨some 27, .indexAddr 58 (Operand.tmp 25) (Operand.tmp 26), none, 0⟩,
 ⟨some 28, .load 23 (Operand.tmp 27), none, 0⟩,
 ⟨some 29, .call ⟨(Callee.builtin Builtin.len), [(Operand.tmp 28)].toArray, #[23]⟩, none, 0⟩,
 ⟨some 30, .binOp BinOp.lss 3 (Operand.tmp 24) (Operand.tmp 29) 3, none, 0⟩,
 ⟨some 31, .move (Operand.tmp 30), none, 0⟩,
 ⟨some 32, .move (Operand.tmp 3), some (31, true), 0⟩,
 ⟨some 33, .binOp BinOp.leq 3 (Operand.tmp 32) (Operand.const (Value.int IntKind.i64 100000)) 3, some (31, true), 0⟩,
 ⟨some 34, .pick (Operand.tmp 31) (Operand.tmp 33) (Operand.const (Value.bool false)), none, 0⟩])
 (.cond (Operand.tmp 34)
 .skip
 (.exit 2)))
 (.seq
 (.block 3
 (.ops [⟨some 37, .move (Operand.tmp 3), none, 0⟩,
 ⟨some 38, .move (Operand.tmp 0), none, 0⟩,
 ⟨some 39, .move (Operand.tmp 4), none, 0⟩,
 ⟨some 40, .indexAddr 58 (Operand.tmp 38) (Operand.tmp 39), none, 0⟩,
 ⟨some 41, .load 23 (Operand.tmp 40), none, 0⟩,
 ⟨some 42, .move (Operand.tmp 5), none, 0⟩,
 ⟨some 43, .indexAddr 23 (Operand.tmp 41) (Operand.tmp 42), none, 0⟩,
 ⟨some 44, .load 9 (Operand.tmp 43), none, 0⟩,
 ⟨some 45, .call ⟨(Callee.builtin Builtin.len), [(Operand.tmp 44)].toArray, #[9]⟩, none, 0⟩,
 ⟨some 46, .binOp BinOp.add 3 (Operand.tmp 37) (Operand.tmp 45) 3, none, 0⟩,
 ⟨some 3, .assign (Operand.tmp 46), none, 0⟩]))
 (.ops [⟨some 35, .move (Operand.tmp 5), none, 0⟩,
 ⟨some 36, .binOp BinOp.add 3 (Operand.tmp 35) (Operand.const (Value.int IntKind.i64 1)) 3, none, 0⟩,
 ⟨some 5, .assign (Operand.tmp 36), none, 0⟩]))))))))
 (.ops [⟨some 14, .move (Operand.tmp 4), none, 0⟩,
 ⟨some 15, .binOp BinOp.add 3 (Operand.tmp 14) (Operand.const (Value.int IntKind.i64 1)) 3, none, 0⟩,
 ⟨some 4, .assign (Operand.tmp 15), none, 0⟩]))))))
 (.seq
 (.ops [⟨some 47, .move (Operand.tmp 3), none, 0⟩,
 ⟨some 2, .assign (Operand.tmp 47), none, 0⟩])
 .ret))))
abbrev R9 : List ResultVar := [ResultVar.tmp 2]
theorem ok9 : FnOK Tryz.prog 9 L9 R9 1 := ⟨_, _, Tryz.func9, rfl, by kernel_rfl, by kernel_rfl, by kernel_rfl, by kernel_rfl, Nat.le_of_ble_eq_true (by kernel_rfl), by kernel_rfl⟩

/-- ablaut/ablautlaw25.known -/
def L10 : LCode :=
 (.seq
 (.ops [⟨some 0, .assign (Operand.const (Value.bool false)), none, 0⟩])
 (.seq
 (.ops [⟨some 7, .buildSlice 23 1 [(0, (Operand.const (Value.string ⟨#[97]⟩)))].toArray, none, 0⟩,
 ⟨some 8, .buildSlice 23 1 [(0, (Operand.const (Value.string ⟨#[120]⟩)))].toArray, none, 0⟩,
 ⟨some 9, .build 67 [(0, (Operand.tmp 7)), (1, (Operand.tmp 8))].toArray, none, 0⟩,
 ⟨some 10, .buildSlice 23 1 [(0, (Operand.const (Value.string ⟨#[98]⟩)))].toArray, none, 0⟩,
 ⟨some 11, .buildSlice 23 2 [(0, (Operand.const (Value.string ⟨#[120]⟩))), (1, (Operand.const (Value.string ⟨#[120]⟩)))].toArray, none, 0⟩,
 ⟨some 12, .build 67 [(0, (Operand.tmp 10)), (1, (Operand.tmp 11))].toArray, none, 0⟩,
 ⟨some 13, .buildSlice 22 2 [(0, (Operand.tmp 9)), (1, (Operand.tmp 12))].toArray, none, 0⟩,
 ⟨some 1, .assign (Operand.tmp 13), none, 0⟩])
 (.seq
 (.ops [⟨some 15, .move (Operand.tmp 1), none, 0⟩,
 ⟨some 16, .call ⟨(Callee.value (Operand.func 25)), [(Operand.tmp 15)].toArray, #[22]⟩, none, 0⟩,
 ⟨some 14, .move (Operand.tmp 16), none, 0⟩,
 ⟨some 17, .extract (Operand.tmp 14) 0, none, 0⟩,
 ⟨some 18, .extract (Operand.tmp 14) 1, none, 0⟩,
 ⟨some 19, .extract (Operand.tmp 14) 2, none, 0⟩,
 ⟨some 3, .alloc 24, none, 0⟩,
 ⟨some 2, .assign (Operand.tmp 17), none, 0⟩,
 ⟨none, .store 24 (Operand.tmp 3) (Operand.tmp 18), none, 0⟩,
 ⟨some 4, .assign (Operand.tmp 19), none, 0⟩])
 (.seq
 (.ops [⟨some 21, .move (Operand.tmp 1), none, 0⟩,
 ⟨some 22, .buildSlice 23 2 [(0, (Operand.const (Value.string ⟨#[97]⟩))), (1, (Operand.const (Value.string ⟨#[98]⟩)))].toArray, none, 0⟩,
 ⟨some 23, .call ⟨(Callee.value (Operand.func 33)), [(Operand.tmp 21), (Operand.tmp 22)].toArray, #[22, 23]⟩, none, 0⟩,
 ⟨some 20, .move (Operand.tmp 23), none, 0⟩,
 ⟨some 24, .extract (Operand.tmp 20) 0, none, 0⟩,
 ⟨some 25, .extract (Operand.tmp 20) 1, none, 0⟩,
 ⟨some 5, .assign (Operand.tmp 24), none, 0⟩,
 ⟨some 6, .assign (Operand.tmp 25), none, 0⟩])
 (.seq
 (.ops [⟨some 26, .move (Operand.tmp 2), none, 0⟩,
 ⟨some 27, .unOp UnOp.not 4 (Operand.tmp 26), none, 0⟩,
 ⟨some 28, .move (Operand.tmp 27), none, 0⟩,
 ⟨some 29, .move (Operand.tmp 4), some (28, true), 0⟩,
 ⟨some 30, .binOp BinOp.eql 32 (Operand.tmp 29) (Operand.const (Value.int IntKind.i64 0)) 32, some (28, true), 0⟩,
 ⟨some 31, .pick (Operand.tmp 28) (Operand.tmp 30) (Operand.const (Value.bool false)), none, 0⟩,
 ⟨some 32, .move (Operand.tmp 31), none, 0⟩,
 ⟨some 33, .move (Operand.tmp 6), some (32, true), 0⟩,
 ⟨some 34, .binOp BinOp.eql 32 (Operand.tmp 33) (Operand.const (Value.int IntKind.i64 0)) 32, some (32, true), 0⟩,
 ⟨some 35, .pick (Operand.tmp 32) (Operand.tmp 34) (Operand.const (Value.bool false)), none, 0⟩,
 ⟨some 36, .move (Operand.tmp 35), none, 0⟩,
 ⟨some 37, .move (Operand.tmp 5), some (36, true), 0⟩,
 ⟨some 38, .call ⟨(Callee.builtin Builtin.len), [(Operand.tmp 37)].toArray, #[23]⟩, some (36, true), 0⟩,
 ⟨some 39, .binOp BinOp.eql 3 (Operand.tmp 38) (Operand.const (Value.int IntKind.i64 3)) 3, some (36, true), 0⟩,
 ⟨some 40, .pick (Operand.tmp 36) (Operand.tmp 39) (Operand.const (Value.bool false)), none, 0⟩,
 ⟨some 0, .assign (Operand.tmp 40), none, 0⟩])
 .ret)))))
abbrev R10 : List ResultVar := [ResultVar.tmp 0]
theorem ok10 : FnOK Tryz.prog 10 L10 R10 0 := ⟨_, _, Tryz.func10, rfl, by kernel_rfl, by kernel_rfl, by kernel_rfl, by kernel_rfl, Nat.le_of_ble_eq_true (by kernel_rfl), by kernel_rfl⟩

/-- ablaut/ablautref01.Same -/
def L15 : LCode :=
 (.seq
 (.ops [⟨some 4, .assign (Operand.const (Value.bool false)), none, 0⟩])
 (.seq
 (.ops [⟨some 5, .move (Operand.tmp 0), none, 0⟩,
 ⟨some 6, .move (Operand.tmp 1), none, 0⟩,
 ⟨some 7, .call ⟨(Callee.value (Operand.func 51)), [(Operand.tmp 5), (Operand.tmp 6)].toArray, #[23, 23]⟩, none, 0⟩,
 ⟨some 8, .binOp BinOp.eql 3 (Operand.tmp 7) (Operand.const (Value.int IntKind.i64 0)) 3, none, 0⟩,
 ⟨some 4, .assign (Operand.tmp 8), none, 0⟩])
 .ret))
abbrev R15 : List ResultVar := [ResultVar.tmp 4]
theorem ok15 : FnOK Tryz.prog 15 L15 R15 2 := ⟨_, _, Tryz.func15, rfl, by kernel_rfl, by kernel_rfl, by kernel_rfl, by kernel_rfl, Nat.le_of_ble_eq_true (by kernel_rfl), by kernel_rfl⟩

/-- ablaut/ablautref25.Shifted -/
def L17 : LCode :=
 (.seq
 (.ops [⟨some 4, .assign (Operand.const (Value.slice none 0 0)), none, 0⟩,
 ⟨some 5, .assign (Operand.const (Value.bool false)), none, 0⟩,
 ⟨some 6, .assign (Operand.const (Value.slice none 0 0)), none, 0⟩])
 (.seq
 (.ops [⟨some 7, .assign (Operand.const (Value.slice none 0 0)), none, 0⟩])
 (.seq
 (.ops [⟨some 8, .assign (Operand.const (Value.bool true)), none, 0⟩])
 (.seq
 (.ops [⟨some 11, .move (Operand.tmp 0), none, 0⟩,
 ⟨some 12, .call ⟨(Callee.builtin Builtin.len), [(Operand.tmp 11)].toArray, #[22]⟩, none, 0⟩,
 ⟨some 13, .makeSlice 39 (Operand.tmp 12) (Operand.tmp 12), none, 0⟩,
 ⟨some 9, .assign (Operand.tmp 13), none, 0⟩])
 (.seq
 (.block 0
 (.loop
 (.seq
 (.seq
 (.ops [⟨some 14, .move (Operand.tmp 1), none, 0⟩,
 ⟨some 15, .call ⟨(Callee.builtin Builtin.len), [(Operand.tmp 14)].toArray, #[23]⟩, none, 0⟩,
 ⟨some 16, .binOp BinOp.gtr 3 (Operand.tmp 15) (Operand.const (Value.int IntKind.i64 0)) 3, none, 0⟩])
 (.cond (Operand.tmp 16)
 .skip
 (.exit 0)))
 (.block 1
 (.seq
 (.ops [⟨some 17, .move (Operand.tmp 0), none, 0⟩,
 ⟨some 18, .move (Operand.tmp 1), none, 0⟩,
 ⟨some 19, .call ⟨(Callee.value (Operand.func 53)), [(Operand.tmp 17), (Operand.tmp 18)].toArray, #[22, 23]⟩, none, 0⟩,
 ⟨some 10, .assign (Operand.tmp 19), none, 0⟩])
 (.seq
 (.seq
 (.ops [⟨some 20, .move (Operand.tmp 10), none, 0⟩,
 ⟨some 21, .binOp BinOp.lss 3 (Operand.tmp 20) (Operand.const (Value.int IntKind.i64 0)) 3, none, 0⟩])
 (.cond (Operand.tmp 21)
 (.seq
 (.ops [⟨some 22, .move (Operand.tmp 7), none, 0⟩,
 ⟨some 23, .move (Operand.tmp 1), none, 0⟩,
 ⟨some 24, .indexAddr 23 (Operand.tmp 23) (Operand.const (Value.int IntKind.i64 0)), none, 0⟩,
 ⟨some 25, .load 9 (Operand.tmp 24), none, 0⟩,
 ⟨some 26, .buildSlice 23 1 [(0, (Operand.tmp 25))].toArray, none, 0⟩,
 ⟨some 27, .call ⟨(Callee.builtin Builtin.append), [(Operand.tmp 22), (Operand.tmp 26)].toArray, #[23, 23]⟩, none, 0⟩,
 ⟨some 7, .assign (Operand.tmp 27), none, 0⟩])
 (.seq
 (.ops [⟨some 28, .move (Operand.tmp 1), none, 0⟩,
 ⟨some 29, .slice 23 (Operand.tmp 28) (some (Operand.const (Value.int IntKind.i64 1))) none none, none, 0⟩,
 ⟨some 1, .assign (Operand.tmp 29), none, 0⟩])
 (.seq
 (.ops [⟨some 8, .assign (Operand.const (Value.bool false)), none, 0⟩])
 (.exit 1))))
 .skip))
 (.seq
 (.ops [⟨some 30, .move (Operand.tmp 9), none, 0⟩,
 ⟨some 31, .move (Operand.tmp 10), none, 0⟩,
 ⟨some 32, .indexAddr 39 (Operand.tmp 30) (Operand.tmp 31), none, 0⟩,
 ⟨some 33, .load 3 (Operand.tmp 32), none, 0⟩,
 ⟨some 34, .binOp BinOp.add 3 (Operand.tmp 33) (Operand.const (Value.int IntKind.i64 1)) 3, none, 0⟩,
 ⟨some 35, .indexAddr 39 (Operand.tmp 30) (Operand.tmp 31), none, 0⟩,
 ⟨none, .store 3 (Operand.tmp 35) (Operand.tmp 34), none, 0⟩])
 (.seq
 (.ops [⟨some 36, .move (Operand.tmp 7), none, 0⟩,
 ⟨some 37, .move (Operand.tmp 0), none, 0⟩,
 ⟨some 38, .move (Operand.tmp 10), none, 0⟩,
 ⟨some 39, .indexAddr 22 (Operand.tmp 37) (Operand.tmp 38), none, 0⟩,
 ⟨some 40, .fieldAddr 67 (Operand.tmp 39) 1, none, 0⟩,
 ⟨some 41, .load 23 (Operand.tmp 40), none, 0⟩,
 ⟨some 42, .call ⟨(Callee.builtin Builtin.append), [(Operand.tmp 36), (Operand.tmp 41)].toArray, #[23, 23]⟩, none, 0⟩,
 ⟨some 7, .assign (Operand.tmp 42), none, 0⟩])
 (.ops [⟨some 43, .move (Operand.tmp 1), none, 0⟩,
 ⟨some 44, .move (Operand.tmp 0), none, 0⟩,
 ⟨some 45, .move (Operand.tmp 10), none, 0⟩,
 ⟨some 46, .indexAddr 22 (Operand.tmp 44) (Operand.tmp 45), none, 0⟩,
 ⟨some 47, .fieldAddr 67 (Operand.tmp 46) 0, none, 0⟩,
 ⟨some 48, .load 23 (Operand.tmp 47), none, 0⟩,
 ⟨some 49, .call ⟨(Callee.builtin Builtin.len), [(Operand.tmp 48)].toArray, #[23]⟩, none, 0⟩,
 ⟨some 50, .slice 23 (Operand.tmp 43) (some (Operand.tmp 49)) none none, none, 0⟩,
 ⟨some 1, .assign (Operand.tmp 50), none, 0⟩])))))))))
 (.seq
 (.ops [⟨some 51, .move (Operand.tmp 7), none, 0⟩,
 ⟨some 52, .move (Operand.tmp 8), none, 0⟩,
 ⟨some 53, .move (Operand.tmp 9), none, 0⟩,
 ⟨some 4, .assign (Operand.tmp 51), none, 0⟩,
 ⟨some 5, .assign (Operand.tmp 52), none, 0⟩,
 ⟨some 6, .assign (Operand.tmp 53), none, 0⟩])
 .ret))))))
abbrev R17 : List ResultVar := [ResultVar.tmp 4, ResultVar.tmp 5, ResultVar.tmp 6]
theorem ok17 : FnOK Tryz.prog 17 L17 R17 2 := ⟨_, _, Tryz.func17, rfl, by kernel_rfl, by kernel_rfl, by kernel_rfl, by kernel_rfl, Nat.le_of_ble_eq_true (by kernel_rfl), by kernel_rfl⟩

/-- ablaut/script.Plain -/
def L19 : LCode :=
 (.seq
 (.ops [⟨some 2, .assign (Operand.const (Value.bool false)), none, 0⟩,
 ⟨some 3, .assign (Operand.const (Value.int IntKind.i64 0)), none, 0⟩])
 (.seq
 (.seq
 (.ops [⟨some 5, .move (Operand.tmp 0), none, 0⟩,
 ⟨some 6, .call ⟨(Callee.value (Operand.func 35)), [(Operand.tmp 5)].toArray, #[22]⟩, none, 0⟩,
 ⟨some 4, .assign (Operand.tmp 6), none, 0⟩])
 (.seq
 (.ops [⟨some 7, .move (Operand.tmp 4), none, 0⟩,
 ⟨some 8, .binOp BinOp.neq 32 (Operand.tmp 7) (Operand.const (Value.int IntKind.i64 0)) 32, none, 0⟩])
 (.cond (Operand.tmp 8)
 (.seq
 (.ops [⟨some 9, .move (Operand.tmp 4), none, 0⟩,
 ⟨some 2, .assign (Operand.const (Value.bool false)), none, 0⟩,
 ⟨some 3, .assign (Operand.tmp 9), none, 0⟩])
 .ret)
 .skip)))
 (.seq
 (.ops [⟨some 10, .move (Operand.tmp 0), none, 0⟩,
 ⟨some 11, .call ⟨(Callee.value (Operand.func 56)), [(Operand.tmp 10)].toArray, #[22]⟩, none, 0⟩,
 ⟨some 2, .assign (Operand.tmp 11), none, 0⟩,
 ⟨some 3, .assign (Operand.const (Value.int IntKind.i64 0)), none, 0⟩])
 .ret)))
abbrev R19 : List ResultVar := [ResultVar.tmp 2, ResultVar.tmp 3]
theorem ok19 : FnOK Tryz.prog 19 L19 R19 1 := ⟨_, _, Tryz.func19, rfl, by kernel_rfl, by kernel_rfl, by kernel_rfl, by kernel_rfl, Nat.le_of_ble_eq_true (by kernel_rfl), by kernel_rfl⟩

/-- ablaut/ablautref25.Validate -/
def L20 : LCode :=
 (.seq
 (.ops [⟨some 2, .assign (Operand.const (Value.int IntKind.i64 0)), none, 0⟩])
 (.seq
 (.seq
 (.ops [⟨some 6, .move (Operand.tmp 0), none, 0⟩,
 ⟨some 7, .call ⟨(Callee.builtin Builtin.len), [(Operand.tmp 6)].toArray, #[22]⟩, none, 0⟩,
 ⟨some 8, .binOp BinOp.gtr 3 (Operand.tmp 7) (Operand.const (Value.int IntKind.i64 24)) 3, none, 0⟩])
 (.cond (Operand.tmp 8)
 (.seq
 (.ops [⟨some 2, .assign (Operand.const (Value.int IntKind.i64 3)), none, 0⟩])
 .ret)
 .skip))
 (.seq
 (.seq
 (.ops [⟨some 3, .assign (Operand.const (Value.int IntKind.i64 0)), none, 0⟩])
 (.block 0
 (.loop
 (.seq
 (.seq
 (.ops [⟨some 9, .move (Operand.tmp 3), none, 0⟩,
 ⟨some 10, .move (Operand.tmp 0), none, 0⟩,
 ⟨some 11, .call ⟨(Callee.builtin Builtin.len), [(Operand.tmp 10)].toArray, #[22]⟩, none, 0⟩,
 ⟨some 12, .binOp BinOp.lss 3 (Operand.tmp 9) (Operand.tmp 11) 3, none, 0⟩])
 (.cond (Operand.tmp 12)
 .skip
 (.exit 0)))
 (.seq
 (.block 1
 (.seq
 (.draw [⟨some 15, .move (Operand.tmp 0), none, 0⟩,
 ⟨some 16, .move (Operand.tmp 3), none, 0⟩,
 ⟨some 17, .indexAddr 22 (Operand.tmp 15) (Operand.tmp 16), none, 0⟩,
 ⟨some 18, .fieldAddr 67 (Operand.tmp 17) 0, none, 0⟩,
 ⟨some 19, .load 23 (Operand.tmp 18), none, 0⟩,
 ⟨some 20, .move (Operand.tmp 0), none, 0⟩,
 ⟨some 21, .move (Operand.tmp 3), none, 0⟩,
 ⟨some 22, .indexAddr 22 (Operand.tmp 20) (Operand.tmp 21), none, 0⟩,
 ⟨some 23, .fieldAddr 67 (Operand.tmp 22) 1, none, 0⟩,
 ⟨some 24, .load 23 (Operand.tmp 23), none, 0⟩,
 ⟨some 25, .buildSlice 58 2 [(0, (Operand.tmp 19)), (1, (Operand.tmp 24))].toArray, none, 0⟩,
 ⟨some 26, .call ⟨(Callee.value (Operand.func 57)), [(Operand.tmp 25)].toArray, #[58]⟩, none, 0⟩,
 ⟨some 4, .assign (Operand.tmp 26), none, 0⟩] true [10, 11, 12] [])
 (.seq
 (.ops [⟨some 27, .move (Operand.tmp 4), none, 0⟩,
 ⟨some 28, .binOp BinOp.neq 32 (Operand.tmp 27) (Operand.const (Value.int IntKind.i64 0)) 32, none, 0⟩])
 (.cond (Operand.tmp 28)
 (.seq
 (.ops [⟨some 29, .move (Operand.tmp 4), none, 0⟩,
 ⟨some 2, .assign (Operand.tmp 29), none, 0⟩])
 .ret)
 .skip))))
 (.ops [⟨some 13, .move (Operand.tmp 3), none, 0⟩,
 ⟨some 14, .binOp BinOp.add 3 (Operand.tmp 13) (Operand.const (Value.int IntKind.i64 1)) 3, none, 0⟩,
 ⟨some 3, .assign (Operand.tmp 14), none, 0⟩]))))))
 (.seq
 (.seq
 (.ops [⟨some 5, .assign (Operand.const (Value.int IntKind.i64 0)), none, 0⟩])
 (.block 2
 (.loop
 (.seq
 (.seq
 (.ops [⟨some 30, .move (Operand.tmp 5), none, 0⟩,
 ⟨some 31, .move (Operand.tmp 0), none, 0⟩,
 ⟨some 32, .call ⟨(Callee.builtin Builtin.len), [(Operand.tmp 31)].toArray, #[22]⟩, none, 0⟩,
 ⟨some 33, .binOp BinOp.lss 3 (Operand.tmp 30) (Operand.tmp 32) 3, none, 0⟩])
 (.cond (Operand.tmp 33)
 .skip
 (.exit 2)))
 (.seq
 (.block 3
 (.seq
 (.draw [⟨some 36, .move (Operand.tmp 0), none, 0⟩,
 ⟨some 37, .move (Operand.tmp 5), none, 0⟩,
 ⟨some 38, .indexAddr 22 (Operand.tmp 36) (Operand.tmp 37), none, 0⟩,
 ⟨some 39, .fieldAddr 67 (Operand.tmp 38) 0, none, 0⟩,
 ⟨some 40, .load 23 (Operand.tmp 39), none, 0⟩,
 ⟨some 41, .call ⟨(Callee.builtin Builtin.len), [(Operand.tmp 40)].toArray, #[23]⟩, none, 0⟩,
 ⟨some 42, .binOp BinOp.eql 3 (Operand.tmp 41) (Operand.const (Value.int IntKind.i64 0)) 3, none, 0⟩,
 ⟨some 43, .move (Operand.tmp 42), none, 0⟩,
 ⟨some 44, .move (Operand.tmp 5), some (43, false), 0⟩,
 ⟨some 45, .binOp BinOp.gtr 3 (Operand.tmp 44) (Operand.const (Value.int IntKind.i64 0)) 3, some (43, false), 0⟩,
 ⟨some 46, .move (Operand.tmp 45), some (43, false), 0⟩,
 ⟨some 47, .move (Operand.tmp 0), some (46, true), 0⟩,
 ⟨some 48, .move (Operand.tmp 5), some (46, true), 0⟩,
 ⟨some 49, .binOp BinOp.sub 3 (Operand.tmp 48) (Operand.const (Value.int IntKind.i64 1)) 3, some (46, true), 0⟩,
 ⟨some 50, .indexAddr 22 (Operand.tmp 47) (Operand.tmp 49), some (46, true), 0⟩,
 ⟨some 51, .fieldAddr 67 (Operand.tmp 50) 0, some (46, true), 0⟩,
 ⟨some 52, .load 23 (Operand.tmp 51), some (46, true), 0⟩,
 ⟨some 53, .move (Operand.tmp 0), some (46, true), 0⟩,
 ⟨some 54, .move (Operand.tmp 5), some (46, true), 0⟩,
 ⟨some 55, .indexAddr 22 (Operand.tmp 53) (Operand.tmp 54), some (46, true), 0⟩,
 ⟨some 56, .fieldAddr 67 (Operand.tmp 55) 0, some (46, true), 0⟩,
 ⟨some 57, .load 23 (Operand.tmp 56), some (46, true), 0⟩,
 ⟨some 58, .call ⟨(Callee.value (Operand.func 51)), [(Operand.tmp 52), (Operand.tmp 57)].toArray, #[23, 23]⟩, some (46, true), 0⟩,
 ⟨some 59, .binOp BinOp.geq 3 (Operand.tmp 58) (Operand.const (Value.int IntKind.i64 0)) 3, some (46, true), 0⟩,
 ⟨some 60, .pick (Operand.tmp 46) (Operand.tmp 59) (Operand.const (Value.bool false)), some (43, false), 0⟩,
 ⟨some 61, .pick (Operand.tmp 43) (Operand.const (Value.bool true)) (Operand.tmp 60), none, 0⟩] true [22, 23, 24, 25] [0, 1, 2, 3, 4, 5, 6, 7, 8, 9, 10, 11, 12, 13, 14, 15, 16, 17, 18, 19, 20, 21, 22, 23, 24, 25])
 (.cond (Operand.tmp 61)
 (.seq
 (.ops [⟨some 2, .assign (Operand.const (Value.int IntKind.i64 1)), none, 0⟩])
 .ret)
 .skip)))
 (.ops [⟨some 34, .move (Operand.tmp 5), none, 0⟩,
 ⟨some 35, .binOp BinOp.add 3 (Operand.tmp 34) (Operand.const (Value.int IntKind.i64 1)) 3, none, 0⟩,
 ⟨some 5, .assign (Operand.tmp 35), none, 0⟩]))))))
 (.seq
 (.ops [⟨some 2, .assign (Operand.const (Value.int IntKind.i64 0)), none, 0⟩])
 .ret)))))
abbrev R20 : List ResultVar := [ResultVar.tmp 2]
theorem ok20 : FnOK Tryz.prog 20 L20 R20 1 := ⟨_, _, Tryz.func20, rfl, by kernel_rfl, by kernel_rfl, by kernel_rfl, by kernel_rfl, Nat.le_of_ble_eq_true (by kernel_rfl), by kernel_rfl⟩

/-- ablaut/ablautlaw25.plain -/
def L21 : LCode :=
 (.seq
 (.ops [⟨some 2, .assign (Operand.const (Value.bool false)), none, 0⟩])
 (.seq
 (.seq
 (.ops [⟨some 3, .assign (Operand.const (Value.int IntKind.i64 0)), none, 0⟩])
 (.block 0
 (.loop
 (.seq
 (.seq
 (.ops [⟨some 4, .move (Operand.tmp 3), none, 0⟩,
 ⟨some 5, .move (Operand.tmp 0), none, 0⟩,
 ⟨some 6, .call ⟨(Callee.builtin Builtin.len), [(Operand.tmp 5)].toArray, #[22]⟩, none, 0⟩,
 ⟨some 7, .binOp BinOp.lss 3 (Operand.tmp 4) (Operand.tmp 6) 3, none, 0⟩])
 (.cond (Operand.tmp 7)
 .skip
 (.exit 0)))
 (.seq
 (.block 1
 (.seq
 (.ops [⟨some 10, .move (Operand.tmp 0), none, 0⟩,
 ⟨some 11, .move (Operand.tmp 3), none, 0⟩,
 ⟨some 12, .indexAddr 22 (Operand.tmp 10) (Operand.tmp 11), none, 0⟩,
 ⟨some 13, .fieldAddr 67 (Operand.tmp 12) 0, none, 0⟩,
 ⟨some 14, .load 23 (Operand.tmp 13), none, 0⟩,
 ⟨some 15, .call ⟨(Callee.builtin Builtin.len), [(Operand.tmp 14)].toArray, #[23]⟩, none, 0⟩,
 ⟨some 16, .binOp BinOp.neq 3 (Operand.tmp 15) (Operand.const (Value.int IntKind.i64 1)) 3, none, 0⟩])
 (.cond (Operand.tmp 16)
 (.seq
 (.ops [⟨some 2, .assign (Operand.const (Value.bool false)), none, 0⟩])
 .ret)
 .skip)))
 (.ops [⟨some 8, .move (Operand.tmp 3), none, 0⟩,
 ⟨some 9, .binOp BinOp.add 3 (Operand.tmp 8) (Operand.const (Value.int IntKind.i64 1)) 3, none, 0⟩,
 ⟨some 3, .assign (Operand.tmp 9), none, 0⟩]))))))
 (.seq
 (.ops [⟨some 2, .assign (Operand.const (Value.bool true)), none, 0⟩])
 .ret)))
abbrev R21 : List ResultVar := [ResultVar.tmp 2]
theorem ok21 : FnOK Tryz.prog 21 L21 R21 1 := ⟨_, _, Tryz.func21, rfl, by kernel_rfl, by kernel_rfl, by kernel_rfl, by kernel_rfl, Nat.le_of_ble_eq_true (by kernel_rfl), by kernel_rfl⟩

/-- ablaut/script.Reverse -/
def L22 : LCode :=
 (.seq
 (.ops [⟨some 2, .assign (Operand.const (Value.slice none 0 0)), none, 0⟩,
 ⟨some 3, .assign (Operand.const (Value.bool false)), none, 0⟩,
 ⟨some 4, .assign (Operand.const (Value.int IntKind.i64 0)), none, 0⟩])
 (.seq
 (.seq
 (.ops [⟨some 11, .move (Operand.tmp 0), none, 0⟩,
 ⟨some 12, .call ⟨(Callee.value (Operand.func 35)), [(Operand.tmp 11)].toArray, #[22]⟩, none, 0⟩,
 ⟨some 5, .assign (Operand.tmp 12), none, 0⟩])
 (.seq
 (.ops [⟨some 13, .move (Operand.tmp 5), none, 0⟩,
 ⟨some 14, .binOp BinOp.neq 32 (Operand.tmp 13) (Operand.const (Value.int IntKind.i64 0)) 32, none, 0⟩])
 (.cond (Operand.tmp 14)
 (.seq
 (.ops [⟨some 15, .move (Operand.tmp 5), none, 0⟩,
 ⟨some 2, .assign (Operand.const (Value.slice none 0 0)), none, 0⟩,
 ⟨some 3, .assign (Operand.const (Value.bool false)), none, 0⟩,
 ⟨some 4, .assign (Operand.tmp 15), none, 0⟩])
 .ret)
 .skip)))
 (.seq
 (.seq
 (.ops [⟨some 16, .move (Operand.tmp 0), none, 0⟩,
 ⟨some 17, .call ⟨(Callee.value (Operand.func 58)), [(Operand.tmp 16)].toArray, #[22]⟩, none, 0⟩,
 ⟨some 6, .assign (Operand.tmp 17), none, 0⟩])
 (.seq
 (.ops [⟨some 18, .move (Operand.tmp 6), none, 0⟩,
 ⟨some 19, .binOp BinOp.neq 32 (Operand.tmp 18) (Operand.const (Value.int IntKind.i64 0)) 32, none, 0⟩])
 (.cond (Operand.tmp 19)
 (.seq
 (.ops [⟨some 20, .move (Operand.tmp 6), none, 0⟩,
 ⟨some 2, .assign (Operand.const (Value.slice none 0 0)), none, 0⟩,
 ⟨some 3, .assign (Operand.const (Value.bool false)), none, 0⟩,
 ⟨some 4, .assign (Operand.tmp 20), none, 0⟩])
 .ret)
 .skip)))
 (.seq
 (.ops [⟨some 7, .assign (Operand.const (Value.slice none 0 0)), none, 0⟩])
 (.seq
 (.ops [⟨some 8, .assign (Operand.const (Value.slice none 0 0)), none, 0⟩])
 (.seq
 (.seq
 (.ops [⟨some 21, .move (Operand.tmp 0), none, 0⟩,
 ⟨some 22, .call ⟨(Callee.builtin Builtin.len), [(Operand.tmp 21)].toArray, #[22]⟩, none, 0⟩,
 ⟨some 23, .move (Operand.const (Value.int IntKind.i64 0)), none, 0⟩])
 (.block 0
 (.loop
 (.seq
 (.ops [⟨some 24, .binOp BinOp.lss 3 (Operand.tmp 23) (Operand.tmp 22) 3, none, 0⟩])
 (.seq
 (.cond (Operand.tmp 24)
 .skip
 (.exit 0))
 (.seq
 (.block 1
 (.seq
 (.ops [⟨some 25, .indexAddr 22 (Operand.tmp 21) (Operand.tmp 23), none, 0⟩,
 ⟨some 26, .load 67 (Operand.tmp 25), none, 0⟩,
 ⟨some 10, .alloc 67, none, 0⟩,
 ⟨none, .store 67 (Operand.tmp 10) (Operand.tmp 26), none, 0⟩])
 (.seq
 (.draw [⟨some 27, .move (Operand.tmp 7), none, 0⟩,
 ⟨some 28, .fieldAddr 67 (Operand.tmp 10) 1, none, 0⟩,
 ⟨some 29, .load 23 (Operand.tmp 28), none, 0⟩,
 ⟨some 30, .call ⟨(Callee.value (Operand.func 45)), [(Operand.tmp 29)].toArray, #[23]⟩, none, 0⟩,
 ⟨some 31, .fieldAddr 67 (Operand.tmp 10) 0, none, 0⟩,
 ⟨some 32, .load 23 (Operand.tmp 31), none, 0⟩,
 ⟨some 33, .call ⟨(Callee.value (Operand.func 45)), [(Operand.tmp 32)].toArray, #[23]⟩, none, 0⟩,
 ⟨some 34, .build 67 [(0, (Operand.tmp 30)), (1, (Operand.tmp 33))].toArray, none, 0⟩,
 ⟨some 35, .buildSlice 22 1 [(0, (Operand.tmp 34))].toArray, none, 0⟩,
 ⟨some 36, .call ⟨(Callee.builtin Builtin.append), [(Operand.tmp 27), (Operand.tmp 35)].toArray, #[22, 22]⟩, none, 1⟩,
 ⟨some 7, .assign (Operand.tmp 36), none, 0⟩] true [9, 10] [])
 (.ops [⟨some 37, .move (Operand.tmp 8), none, 0⟩,
 ⟨some 38, .fieldAddr 67 (Operand.tmp 10) 1, none, 0⟩,
 ⟨some 39, .load 23 (Operand.tmp 38), none, 0⟩,
 ⟨some 40, .buildSlice 58 1 [(0, (Operand.tmp 39))].toArray, none, 0⟩,
 ⟨some 41, .call ⟨(Callee.builtin Builtin.append), [(Operand.tmp 37), (Operand.tmp 40)].toArray, #[58, 58]⟩, none, 0⟩,
 ⟨some 8, .assign (Operand.tmp 41), none, 0⟩]))))
 (.ops [⟨some 42, .binOp BinOp.add 3 (Operand.tmp 23) (Operand.const (Value.int IntKind.i64 1)) 3, none, 0⟩,
 ⟨some 23, .move (Operand.tmp 42), none, 0⟩])))))))
 (.seq
 (.ops [⟨some 43, .move (Operand.tmp 7), none, 0⟩,
 ⟨some 44, .call ⟨(Callee.value (Operand.func 59)), [(Operand.tmp 43), (Operand.func 60)].toArray, #[22, 98]⟩, none, 0⟩])
 (.seq
 (.seq
 (.ops [⟨some 45, .move (Operand.tmp 7), none, 0⟩,
 ⟨some 46, .call ⟨(Callee.value (Operand.func 35)), [(Operand.tmp 45)].toArray, #[22]⟩, none, 0⟩,
 ⟨some 47, .binOp BinOp.neq 32 (Operand.tmp 46) (Operand.const (Value.int IntKind.i64 0)) 32, none, 0⟩,
 ⟨some 48, .move (Operand.tmp 47), none, 0⟩,
 ⟨some 49, .move (Operand.tmp 8), some (48, false), 0⟩,
 ⟨some 50, .move (Operand.tmp 7), some (48, false), 0⟩,
 ⟨some 51, .call ⟨(Callee.value (Operand.func 62)), [(Operand.tmp 49), (Operand.tmp 50)].toArray, #[58, 22]⟩, some (48, false), 0⟩,
 ⟨some 52, .unOp UnOp.not 4 (Operand.tmp 51), some (48, false), 0⟩,
 ⟨some 53, .pick (Operand.tmp 48) (Operand.const (Value.bool true)) (Operand.tmp 52), none, 0⟩])
 (.cond (Operand.tmp 53)
 (.seq
 (.ops [⟨some 2, .assign (Operand.const (Value.slice none 0 0)), none, 0⟩,
 ⟨some 3, .assign (Operand.const (Value.bool false)), none, 0⟩,
 ⟨some 4, .assign (Operand.const (Value.int IntKind.i64 0)), none, 0⟩])
 .ret)
 .skip))
 (.seq
 (.ops [⟨some 54, .move (Operand.tmp 7), none, 0⟩,
 ⟨some 2, .assign (Operand.tmp 54), none, 0⟩,
 ⟨some 3, .assign (Operand.const (Value.bool true)), none, 0⟩,
 ⟨some 4, .assign (Operand.const (Value.int IntKind.i64 0)), none, 0⟩])
 .ret)))))))))
abbrev R22 : List ResultVar := [ResultVar.tmp 2, ResultVar.tmp 3, ResultVar.tmp 4]
theorem ok22 : FnOK Tryz.prog 22 L22 R22 1 := ⟨_, _, Tryz.func22, rfl, by kernel_rfl, by kernel_rfl, by kernel_rfl, by kernel_rfl, Nat.le_of_ble_eq_true (by kernel_rfl), by kernel_rfl⟩

/-- ablaut/ablautref25.Reverse -/
def L23 : LCode :=
 (.seq
 (.ops [⟨some 2, .assign (Operand.const (Value.slice none 0 0)), none, 0⟩,
 ⟨some 3, .assign (Operand.const (Value.bool false)), none, 0⟩,
 ⟨some 4, .assign (Operand.const (Value.int IntKind.i64 0)), none, 0⟩])
 (.seq
 (.seq
 (.ops [⟨some 11, .move (Operand.tmp 0), none, 0⟩,
 ⟨some 12, .call ⟨(Callee.value (Operand.func 63)), [(Operand.tmp 11)].toArray, #[22]⟩, none, 0⟩,
 ⟨some 5, .assign (Operand.tmp 12), none, 0⟩])
 (.seq
 (.ops [⟨some 13, .move (Operand.tmp 5), none, 0⟩,
 ⟨some 14, .binOp BinOp.neq 32 (Operand.tmp 13) (Operand.const (Value.int IntKind.i64 0)) 32, none, 0⟩])
 (.cond (Operand.tmp 14)
 (.seq
 (.ops [⟨some 15, .move (Operand.tmp 5), none, 0⟩,
 ⟨some 2, .assign (Operand.const (Value.slice none 0 0)), none, 0⟩,
 ⟨some 3, .assign (Operand.const (Value.bool false)), none, 0⟩,
 ⟨some 4, .assign (Operand.tmp 15), none, 0⟩])
 .ret)
 .skip)))
 (.seq
 (.ops [⟨some 16, .move (Operand.tmp 0), none, 0⟩,
 ⟨some 17, .call ⟨(Callee.value (Operand.func 64)), [(Operand.tmp 16)].toArray, #[22]⟩, none, 0⟩,
 ⟨some 6, .assign (Operand.tmp 17), none, 0⟩])
 (.seq
 (.seq
 (.ops [⟨some 7, .assign (Operand.const (Value.int IntKind.i64 0)), none, 0⟩])
 (.block 0
 (.loop
 (.seq
 (.seq
 (.ops [⟨some 18, .move (Operand.tmp 7), none, 0⟩,
 ⟨some 19, .move (Operand.tmp 6), none, 0⟩,
 ⟨some 20, .call ⟨(Callee.builtin Builtin.len), [(Operand.tmp 19)].toArray, #[58]⟩, none, 0⟩,
 ⟨some 21, .binOp BinOp.lss 3 (Operand.tmp 18) (Operand.tmp 20) 3, none, 0⟩])
 (.cond (Operand.tmp 21)
 .skip
 (.exit 0)))
 (.seq
 (.block 1
 (.seq
 (.seq
 (.ops [⟨some 24, .move (Operand.tmp 6), none, 0⟩,
 ⟨some 25, .move (Operand.tmp 7), none, 0⟩,
 ⟨some 26, .indexAddr 58 (Operand.tmp 24) (Operand.tmp 25), none, 0⟩,
 ⟨some 27, .load 23 (Operand.tmp 26), none, 0⟩,
 ⟨some 28, .call ⟨(Callee.builtin Builtin.len), [(Operand.tmp 27)].toArray, #[23]⟩, none, 0⟩,
 ⟨some 29, .binOp BinOp.eql 3 (Operand.tmp 28) (Operand.const (Value.int IntKind.i64 0)) 3, none, 0⟩])
 (.cond (Operand.tmp 29)
 (.seq
 (.ops [⟨some 2, .assign (Operand.const (Value.slice none 0 0)), none, 0⟩,
 ⟨some 3, .assign (Operand.const (Value.bool false)), none, 0⟩,
 ⟨some 4, .assign (Operand.const (Value.int IntKind.i64 0)), none, 0⟩])
 .ret)
 .skip))
 (.seq
 (.ops [⟨some 8, .assign (Operand.const (Value.int IntKind.i64 0)), none, 0⟩])
 (.block 2
 (.loop
 (.seq
 (.seq
 (.ops [⟨some 30, .move (Operand.tmp 8), none, 0⟩,
 ⟨some 31, .move (Operand.tmp 6), none, 0⟩,
 ⟨some 32, .call ⟨(Callee.builtin Builtin.len), [(Operand.tmp 31)].toArray, #[58]⟩, none, 0⟩,
 ⟨some 33, .binOp BinOp.lss 3 (Operand.tmp 30) (Operand.tmp 32) 3, none, 0⟩])
 (.cond (Operand.tmp 33)
 .skip
 (.exit 2)))
 (.seq
 (.block 3
 (.seq
 (.seq
 (.draw [⟨some 36, .move (Operand.tmp 8), none, 0⟩,
 ⟨some 37, .move (Operand.tmp 7), none, 0⟩,
 ⟨some 38, .binOp BinOp.neq 3 (Operand.tmp 36) (Operand.tmp 37) 3, none, 0⟩,
 ⟨some 39, .move (Operand.tmp 38), none, 0⟩,
 ⟨some 40, .move (Operand.tmp 6), some (39, true), 0⟩,
 ⟨some 41, .move (Operand.tmp 7), some (39, true), 0⟩,
 ⟨some 42, .indexAddr 58 (Operand.tmp 40) (Operand.tmp 41), some (39, true), 0⟩,
 ⟨some 43, .load 23 (Operand.tmp 42), some (39, true), 0⟩,
 ⟨some 44, .move (Operand.tmp 6), some (39, true), 0⟩,
 ⟨some 45, .move (Operand.tmp 8), some (39, true), 0⟩,
 ⟨some 46, .indexAddr 58 (Operand.tmp 44) (Operand.tmp 45), some (39, true), 0⟩,
 ⟨some 47, .load 23 (Operand.tmp 46), some (39, true), 0⟩,
 ⟨some 48, .call ⟨(Callee.value (Operand.func 15)), [(Operand.tmp 43), (Operand.tmp 47)].toArray, #[23, 23]⟩, some (39, true), 0⟩,
 ⟨some 49, .pick (Operand.tmp 39) (Operand.tmp 48) (Operand.const (Value.bool false)), none, 0⟩] true [12, 13] [0, 1, 2, 3, 4, 5, 6, 8, 9, 10, 7, 11, 12, 13])
 (.cond (Operand.tmp 49)
 (.seq
 (.ops [⟨some 2, .assign (Operand.const (Value.slice none 0 0)), none, 0⟩,
 ⟨some 3, .assign (Operand.const (Value.bool false)), none, 0⟩,
 ⟨some 4, .assign (Operand.const (Value.int IntKind.i64 0)), none, 0⟩])
 .ret)
 .skip))
 (.seq
 (.draw [⟨some 50, .move (Operand.tmp 6), none, 0⟩,
 ⟨some 51, .move (Operand.tmp 8), none, 0⟩,
 ⟨some 52, .indexAddr 58 (Operand.tmp 50) (Operand.tmp 51), none, 0⟩,
 ⟨some 53, .load 23 (Operand.tmp 52), none, 0⟩,
 ⟨some 54, .call ⟨(Callee.builtin Builtin.len), [(Operand.tmp 53)].toArray, #[23]⟩, none, 0⟩,
 ⟨some 55, .move (Operand.tmp 6), none, 0⟩,
 ⟨some 56, .move (Operand.tmp 7), none, 0⟩,
 ⟨some 57, .indexAddr 58 (Operand.tmp 55) (Operand.tmp 56), none, 0⟩,
 ⟨some 58, .load 23 (Operand.tmp 57), none, 0⟩,
 ⟨some 59, .call ⟨(Callee.builtin Builtin.len), [(Operand.tmp 58)].toArray, #[23]⟩, none, 0⟩,
 ⟨some 60, .binOp BinOp.gtr 3 (Operand.tmp 54) (Operand.tmp 59) 3, none, 0⟩,
 ⟨some 61, .move (Operand.tmp 60), none, 0⟩,
 ⟨some 62, .move (Operand.tmp 6), some (61, true), 0⟩,
 ⟨some 63, .move (Operand.tmp 8), some (61, true), 0⟩,
 ⟨some 64, .indexAddr 58 (Operand.tmp 62) (Operand.tmp 63), some (61, true), 0⟩,
 ⟨some 65, .load 23 (Operand.tmp 64), some (61, true), 0⟩,
 ⟨some 66, .move (Operand.tmp 6), some (61, true), 0⟩,
 ⟨some 67, .move (Operand.tmp 7), some (61, true), 0⟩,
 ⟨some 68, .indexAddr 58 (Operand.tmp 66) (Operand.tmp 67), some (61, true), 0⟩,
 ⟨some 69, .load 23 (Operand.tmp 68), some (61, true), 0⟩,
 ⟨some 70, .call ⟨(Callee.value (Operand.func 65)), [(Operand.tmp 65), (Operand.tmp 69)].toArray, #[23, 23]⟩, some (61, true), 0⟩,
 ⟨some 71, .pick (Operand.tmp 61) (Operand.tmp 70) (Operand.const (Value.bool false)), none, 0⟩,
 ⟨some 72, .move (Operand.tmp 71), none, 0⟩,
 ⟨some 73, .move (Operand.tmp 6), some (72, true), 0⟩,
 ⟨some 74, .move (Operand.tmp 6), some (72, true), 0⟩,
 ⟨some 75, .move (Operand.tmp 8), some (72, true), 0⟩,
 ⟨some 76, .indexAddr 58 (Operand.tmp 74) (Operand.tmp 75), some (72, true), 0⟩,
 ⟨some 77, .load 23 (Operand.tmp 76), some (72, true), 0⟩,
 ⟨some 78, .move (Operand.tmp 6), some (72, true), 0⟩,
 ⟨some 79, .move (Operand.tmp 7), some (72, true), 0⟩,
 ⟨some 80, .indexAddr 58 (Operand.tmp 78) (Operand.tmp 79), some (72, true), 0⟩,
 ⟨some 81, .load 23 (Operand.tmp 80), some (72, true), 0⟩,
 ⟨some 82, .call ⟨(Callee.builtin Builtin.len), [(Operand.tmp 81)].toArray, #[23]⟩, some (72, true), 0⟩,
 ⟨some 83, .slice 23 (Operand.tmp 77) (some (Operand.tmp 82)) none none, some (72, true), 0⟩,
 ⟨some 84, .move (Operand.tmp 6), some (72, true), 0⟩,
 ⟨some 85, .move (Operand.tmp 8), some (72, true), 0⟩,
 ⟨some 86, .indexAddr 58 (Operand.tmp 84) (Operand.tmp 85), some (72, true), 0⟩,
 ⟨some 87, .load 23 (Operand.tmp 86), some (72, true), 0⟩,
 ⟨some 88, .call ⟨(Callee.builtin Builtin.len), [(Operand.tmp 87)].toArray, #[23]⟩, some (72, true), 0⟩,
 ⟨some 89, .call ⟨(Callee.value (Operand.func 66)), [(Operand.tmp 73), (Operand.tmp 83), (Operand.tmp 88)].toArray, #[58, 23, 3]⟩, some (72, true), 0⟩,
 ⟨some 90, .pick (Operand.tmp 72) (Operand.tmp 89) (Operand.const (Value.bool false)), none, 0⟩] true [39, 40] [])
 (.cond (Operand.tmp 90)
 (.seq
 (.ops [⟨some 2, .assign (Operand.const (Value.slice none 0 0)), none, 0⟩,
 ⟨some 3, .assign (Operand.const (Value.bool false)), none, 0⟩,
 ⟨some 4, .assign (Operand.const (Value.int IntKind.i64 0)), none, 0⟩])
 .ret)
 .skip))))
 (.ops [⟨some 34, .move (Operand.tmp 8), none, 0⟩,
 ⟨some 35, .binOp BinOp.add 3 (Operand.tmp 34) (Operand.const (Value.int IntKind.i64 1)) 3, none, 0⟩,
 ⟨some 8, .assign (Operand.tmp 35), none, 0⟩]))))))))
 (.ops [⟨some 22, .move (Operand.tmp 7), none, 0⟩,
 ⟨some 23, .binOp BinOp.add 3 (Operand.tmp 22) (Operand.const (Value.int IntKind.i64 1)) 3, none, 0⟩,
 ⟨some 7, .assign (Operand.tmp 23), none, 0⟩]))))))
 (.seq
 (.ops [⟨some 9, .assign (Operand.const (Value.slice none 0 0)), none, 0⟩])
 (.seq
 (.seq
 (.ops [⟨some 10, .assign (Operand.const (Value.int IntKind.i64 0)), none, 0⟩])
 (.block 4
 (.loop
 (.seq
 (.seq
 (.ops [⟨some 91, .move (Operand.tmp 10), none, 0⟩,
 ⟨some 92, .move (Operand.tmp 0), none, 0⟩,
 ⟨some 93, .call ⟨(Callee.builtin Builtin.len), [(Operand.tmp 92)].toArray, #[22]⟩, none, 0⟩,
 ⟨some 94, .binOp BinOp.lss 3 (Operand.tmp 91) (Operand.tmp 93) 3, none, 0⟩])
 (.cond (Operand.tmp 94)
 .skip
 (.exit 4)))
 (.seq
 (.block 5
 (.draw [⟨some 97, .move (Operand.tmp 9), none, 0⟩,
 ⟨some 98, .move (Operand.tmp 0), none, 0⟩,
 ⟨some 99, .move (Operand.tmp 10), none, 0⟩,
 ⟨some 100, .indexAddr 22 (Operand.tmp 98) (Operand.tmp 99), none, 0⟩,
 ⟨some 101, .fieldAddr 67 (Operand.tmp 100) 1, none, 0⟩,
 ⟨some 102, .load 23 (Operand.tmp 101), none, 0⟩,
 ⟨some 103, .call ⟨(Callee.value (Operand.func 67)), [(Operand.tmp 102), (Operand.const (Value.slice none 0 0))].toArray, #[23, 23]⟩, none, 0⟩,
 ⟨some 104, .move (Operand.tmp 0), none, 0⟩,
 ⟨some 105, .move (Operand.tmp 10), none, 0⟩,
 ⟨some 106, .indexAddr 22 (Operand.tmp 104) (Operand.tmp 105), none, 0⟩,
 ⟨some 107, .fieldAddr 67 (Operand.tmp 106) 0, none, 0⟩,
 ⟨some 108, .load 23 (Operand.tmp 107), none, 0⟩,
 ⟨some 109, .call ⟨(Callee.value (Operand.func 67)), [(Operand.tmp 108), (Operand.const (Value.slice none 0 0))].toArray, #[23, 23]⟩, none, 0⟩,
 ⟨some 110, .build 67 [(0, (Operand.tmp 103)), (1, (Operand.tmp 109))].toArray, none, 0⟩,
 ⟨some 111, .buildSlice 22 1 [(0, (Operand.tmp 110))].toArray, none, 0⟩,
 ⟨some 112, .call ⟨(Callee.builtin Builtin.append), [(Operand.tmp 97), (Operand.tmp 111)].toArray, #[22, 22]⟩, none, 0⟩,
 ⟨some 9, .assign (Operand.tmp 112), none, 0⟩] true [15, 16] []))
 (.ops [⟨some 95, .move (Operand.tmp 10), none, 0⟩,
 ⟨some 96, .binOp BinOp.add 3 (Operand.tmp 95) (Operand.const (Value.int IntKind.i64 1)) 3, none, 0⟩,
 ⟨some 10, .assign (Operand.tmp 96), none, 0⟩]))))))
 (.seq
 (.ops [⟨some 113, .move (Operand.tmp 9), none, 0⟩,
 ⟨some 114, .call ⟨(Callee.value (Operand.func 68)), [(Operand.tmp 113)].toArray, #[22]⟩, none, 0⟩,
 ⟨some 2, .assign (Operand.tmp 114), none, 0⟩,
 ⟨some 3, .assign (Operand.const (Value.bool true)), none, 0⟩,
 ⟨some 4, .assign (Operand.const (Value.int IntKind.i64 0)), none, 0⟩])
 .ret)))))))
abbrev R23 : List ResultVar := [ResultVar.tmp 2, ResultVar.tmp 3, ResultVar.tmp 4]
theorem ok23 : FnOK Tryz.prog 23 L23 R23 1 := ⟨_, _, Tryz.func23, rfl, by kernel_rfl, by kernel_rfl, by kernel_rfl, by kernel_rfl, Nat.le_of_ble_eq_true (by kernel_rfl), by kernel_rfl⟩

/-- ablaut/ablautref25.Same -/
def L24 : LCode :=
 (.seq
 (.ops [⟨some 4, .assign (Operand.const (Value.bool false)), none, 0⟩])
 (.seq
 (.seq
 (.ops [⟨some 6, .move (Operand.tmp 0), none, 0⟩,
 ⟨some 7, .call ⟨(Callee.builtin Builtin.len), [(Operand.tmp 6)].toArray, #[22]⟩, none, 0⟩,
 ⟨some 8, .move (Operand.tmp 1), none, 0⟩,
 ⟨some 9, .call ⟨(Callee.builtin Builtin.len), [(Operand.tmp 8)].toArray, #[22]⟩, none, 0⟩,
 ⟨some 10, .binOp BinOp.neq 3 (Operand.tmp 7) (Operand.tmp 9) 3, none, 0⟩])
 (.cond (Operand.tmp 10)
 (.seq
 (.ops [⟨some 4, .assign (Operand.const (Value.bool false)), none, 0⟩])
 .ret)
 .skip))
 (.seq
 (.seq
 (.ops [⟨some 5, .assign (Operand.const (Value.int IntKind.i64 0)), none, 0⟩])
 (.block 0
 (.loop
 (.seq
 (.seq
 (.ops [⟨some 11, .move (Operand.tmp 5), none, 0⟩,
 ⟨some 12, .move (Operand.tmp 0), none, 0⟩,
 ⟨some 13, .call ⟨(Callee.builtin Builtin.len), [(Operand.tmp 12)].toArray, #[22]⟩, none, 0⟩,
 ⟨some 14, .binOp BinOp.lss 3 (Operand.tmp 11) (Operand.tmp 13) 3, none, 0⟩])
 (.cond (Operand.tmp 14)
 .skip
 (.exit 0)))
 (.seq
 (.block 1
 (.seq
 (.draw [⟨some 17, .move (Operand.tmp 0), none, 0⟩,
 ⟨some 18, .move (Operand.tmp 5), none, 0⟩,
 ⟨some 19, .indexAddr 22 (Operand.tmp 17) (Operand.tmp 18), none, 0⟩,
 ⟨some 20, .fieldAddr 67 (Operand.tmp 19) 0, none, 0⟩,
 ⟨some 21, .load 23 (Operand.tmp 20), none, 0⟩,
 ⟨some 22, .move (Operand.tmp 1), none, 0⟩,
 ⟨some 23, .move (Operand.tmp 5), none, 0⟩,
 ⟨some 24, .indexAddr 22 (Operand.tmp 22) (Operand.tmp 23), none, 0⟩,
 ⟨some 25, .fieldAddr 67 (Operand.tmp 24) 0, none, 0⟩,
 ⟨some 26, .load 23 (Operand.tmp 25), none, 0⟩,
 ⟨some 27, .call ⟨(Callee.value (Operand.func 15)), [(Operand.tmp 21), (Operand.tmp 26)].toArray, #[23, 23]⟩, none, 0⟩,
 ⟨some 28, .unOp UnOp.not 4 (Operand.tmp 27), none, 0⟩,
 ⟨some 29, .move (Operand.tmp 28), none, 0⟩,
 ⟨some 30, .move (Operand.tmp 0), some (29, false), 0⟩,
 ⟨some 31, .move (Operand.tmp 5), some (29, false), 0⟩,
 ⟨some 32, .indexAddr 22 (Operand.tmp 30) (Operand.tmp 31), some (29, false), 0⟩,
 ⟨some 33, .fieldAddr 67 (Operand.tmp 32) 1, some (29, false), 0⟩,
 ⟨some 34, .load 23 (Operand.tmp 33), some (29, false), 0⟩,
 ⟨some 35, .move (Operand.tmp 1), some (29, false), 0⟩,
 ⟨some 36, .move (Operand.tmp 5), some (29, false), 0⟩,
 ⟨some 37, .indexAddr 22 (Operand.tmp 35) (Operand.tmp 36), some (29, false), 0⟩,
 ⟨some 38, .fieldAddr 67 (Operand.tmp 37) 1, some (29, false), 0⟩,
 ⟨some 39, .load 23 (Operand.tmp 38), some (29, false), 0⟩,
 ⟨some 40, .call ⟨(Callee.value (Operand.func 15)), [(Operand.tmp 34), (Operand.tmp 39)].toArray, #[23, 23]⟩, some (29, false), 0⟩,
 ⟨some 41, .unOp UnOp.not 4 (Operand.tmp 40), some (29, false), 0⟩,
 ⟨some 42, .pick (Operand.tmp 29) (Operand.const (Value.bool true)) (Operand.tmp 41), none, 0⟩] true [23, 24, 25] [])
 (.cond (Operand.tmp 42)
 (.seq
 (.ops [⟨some 4, .assign (Operand.const (Value.bool false)), none, 0⟩])
 .ret)
 .skip)))
 (.ops [⟨some 15, .move (Operand.tmp 5), none, 0⟩,
 ⟨some 16, .binOp BinOp.add 3 (Operand.tmp 15) (Operand.const (Value.int IntKind.i64 1)) 3, none, 0⟩,
 ⟨some 5, .assign (Operand.tmp 16), none, 0⟩]))))))
 (.seq
 (.ops [⟨some 4, .assign (Operand.const (Value.bool true)), none, 0⟩])
 .ret))))
abbrev R24 : List ResultVar := [ResultVar.tmp 4]
theorem ok24 : FnOK Tryz.prog 24 L24 R24 2 := ⟨_, _, Tryz.func24, rfl, by kernel_rfl, by kernel_rfl, by kernel_rfl, by kernel_rfl, Nat.le_of_ble_eq_true (by kernel_rfl), by kernel_rfl⟩

/-- ablaut/script.Reversible -/
def L25 : LCode :=
 (.seq
 (.ops [⟨some 2, .assign (Operand.const (Value.bool false)), none, 0⟩,
 ⟨some 3, .alloc 24, none, 0⟩,
 ⟨some 4, .assign (Operand.const (Value.int IntKind.i64 0)), none, 0⟩])
 (.seq
 (.seq
 (.ops [⟨some 15, .move (Operand.tmp 0), none, 0⟩,
 ⟨some 16, .call ⟨(Callee.value (Operand.func 35)), [(Operand.tmp 15)].toArray, #[22]⟩, none, 0⟩,
 ⟨some 5, .assign (Operand.tmp 16), none, 0⟩])
 (.seq
 (.ops [⟨some 17, .move (Operand.tmp 5), none, 0⟩,
 ⟨some 18, .binOp BinOp.neq 32 (Operand.tmp 17) (Operand.const (Value.int IntKind.i64 0)) 32, none, 0⟩])
 (.cond (Operand.tmp 18)
 (.seq
 (.ops [⟨some 19, .build 24 [].toArray, none, 0⟩,
 ⟨some 20, .move (Operand.tmp 5), none, 0⟩,
 ⟨some 2, .assign (Operand.const (Value.bool false)), none, 0⟩,
 ⟨none, .store 24 (Operand.tmp 3) (Operand.tmp 19), none, 0⟩,
 ⟨some 4, .assign (Operand.tmp 20), none, 0⟩])
 .ret)
 .skip)))
 (.seq
 (.seq
 (.ops [⟨some 21, .move (Operand.tmp 0), none, 0⟩,
 ⟨some 22, .call ⟨(Callee.value (Operand.func 58)), [(Operand.tmp 21)].toArray, #[22]⟩, none, 0⟩,
 ⟨some 6, .assign (Operand.tmp 22), none, 0⟩])
 (.seq
 (.ops [⟨some 23, .move (Operand.tmp 6), none, 0⟩,
 ⟨some 24, .binOp BinOp.neq 32 (Operand.tmp 23) (Operand.const (Value.int IntKind.i64 0)) 32, none, 0⟩])
 (.cond (Operand.tmp 24)
 (.seq
 (.ops [⟨some 25, .build 24 [].toArray, none, 0⟩,
 ⟨some 26, .move (Operand.tmp 6), none, 0⟩,
 ⟨some 2, .assign (Operand.const (Value.bool false)), none, 0⟩,
 ⟨none, .store 24 (Operand.tmp 3) (Operand.tmp 25), none, 0⟩,
 ⟨some 4, .assign (Operand.tmp 26), none, 0⟩])
 .ret)
 .skip)))
 (.seq
 (.ops [⟨some 7, .assign (Operand.const (Value.slice none 0 0)), none, 0⟩])
 (.seq
 (.seq
 (.ops [⟨some 27, .move (Operand.tmp 0), none, 0⟩,
 ⟨some 28, .call ⟨(Callee.builtin Builtin.len), [(Operand.tmp 27)].toArray, #[22]⟩, none, 0⟩,
 ⟨some 29, .move (Operand.const (Value.int IntKind.i64 0)), none, 0⟩])
 (.block 0
 (.loop
 (.seq
 (.ops [⟨some 30, .binOp BinOp.lss 3 (Operand.tmp 29) (Operand.tmp 28) 3, none, 0⟩])
 (.seq
 (.cond (Operand.tmp 30)
 .skip
 (.exit 0))
 (.seq
 (.block 1
 (.seq
 (.ops [⟨some 31, .indexAddr 22 (Operand.tmp 27) (Operand.tmp 29), none, 0⟩,
 ⟨some 32, .load 67 (Operand.tmp 31), none, 0⟩,
 ⟨some 9, .alloc 67, none, 0⟩,
 ⟨none, .store 67 (Operand.tmp 9) (Operand.tmp 32), none, 0⟩])
 (.ops [⟨some 33, .move (Operand.tmp 7), none, 0⟩,
 ⟨some 34, .fieldAddr 67 (Operand.tmp 9) 1, none, 0⟩,
 ⟨some 35, .load 23 (Operand.tmp 34), none, 0⟩,
 ⟨some 36, .buildSlice 58 1 [(0, (Operand.tmp 35))].toArray, none, 0⟩,
 ⟨some 37, .call ⟨(Callee.builtin Builtin.append), [(Operand.tmp 33), (Operand.tmp 36)].toArray, #[58, 58]⟩, none, 0⟩,
 ⟨some 7, .assign (Operand.tmp 37), none, 0⟩])))
 (.ops [⟨some 38, .binOp BinOp.add 3 (Operand.tmp 29) (Operand.const (Value.int IntKind.i64 1)) 3, none, 0⟩,
 ⟨some 29, .move (Operand.tmp 38), none, 0⟩])))))))
 (.seq
 (.ops [⟨some 39, .move (Operand.tmp 7), none, 0⟩,
 ⟨some 40, .call ⟨(Callee.value (Operand.func 69)), [(Operand.tmp 39)].toArray, #[58]⟩, none, 0⟩,
 ⟨some 10, .assign (Operand.tmp 40), none, 0⟩])
 (.seq
 (.seq
 (.ops [⟨some 41, .move (Operand.tmp 10), none, 0⟩,
 ⟨some 42, .binOp BinOp.eql 104 (Operand.tmp 41) (Operand.const (Value.slice none 0 0)) 104, none, 0⟩])
 (.cond (Operand.tmp 42)
 (.seq
 (.ops [⟨some 43, .build 24 [].toArray, none, 0⟩,
 ⟨some 2, .assign (Operand.const (Value.bool true)), none, 0⟩,
 ⟨none, .store 24 (Operand.tmp 3) (Operand.tmp 43), none, 0⟩,
 ⟨some 4, .assign (Operand.const (Value.int IntKind.i64 0)), none, 0⟩])
 .ret)
 .skip))
 (.seq
 (.ops [⟨some 11, .alloc 24, none, 0⟩])
 (.seq
 (.seq
 (.ops [⟨some 44, .move (Operand.const (Value.int IntKind.i64 0)), none, 0⟩])
 (.block 2
 (.loop
 (.seq
 (.ops [⟨some 45, .binOp BinOp.lss 3 (Operand.tmp 44) (Operand.const (Value.int IntKind.i64 2)) 3, none, 0⟩])
 (.seq
 (.cond (Operand.tmp 45)
 .skip
 (.exit 2))
 (.seq
 (.block 3
 (.seq
 (.ops [⟨some 46, .move (Operand.tmp 44), none, 0⟩,
 ⟨some 12, .assign (Operand.tmp 46), none, 0⟩])
 (.seq
 (.ops [⟨some 47, .move (Operand.tmp 10), none, 0⟩,
 ⟨some 48, .move (Operand.tmp 12), none, 0⟩,
 ⟨some 49, .indexAddr 104 (Operand.tmp 47) (Operand.tmp 48), none, 0⟩,
 ⟨some 50, .load 39 (Operand.tmp 49), none, 0⟩,
 ⟨some 51, .call ⟨(Callee.builtin Builtin.len), [(Operand.tmp 50)].toArray, #[39]⟩, none, 0⟩,
 ⟨some 52, .move (Operand.const (Value.int IntKind.i64 0)), none, 0⟩])
 (.block 4
 (.loop
 (.seq
 (.ops [⟨some 53, .binOp BinOp.lss 3 (Operand.tmp 52) (Operand.tmp 51) 3, none, 0⟩])
 (.seq
 (.cond (Operand.tmp 53)
 .skip
 (.exit 4))
 (.seq
 (.block 5
 (.seq
 (.ops [⟨some 54, .indexAddr 39 (Operand.tmp 50) (Operand.tmp 52), none, 0⟩,
 ⟨some 55, .load 3 (Operand.tmp 54), none, 0⟩,
 ⟨some 14, .assign (Operand.tmp 55), none, 0⟩])
 (.draw [⟨some 56, .move (Operand.tmp 12), none, 0⟩,
 ⟨some 57, .move (Operand.tmp 12), none, 0⟩,
 ⟨some 58, .indexAddr 24 (Operand.tmp 11) (Operand.tmp 57), none, 0⟩,
 ⟨some 59, .load 23 (Operand.tmp 58), none, 0⟩,
 ⟨some 60, .move (Operand.tmp 0), none, 0⟩,
 ⟨some 61, .move (Operand.tmp 14), none, 0⟩,
 ⟨some 62, .indexAddr 22 (Operand.tmp 60) (Operand.tmp 61), none, 0⟩,
 ⟨some 63, .fieldAddr 67 (Operand.tmp 62) 0, none, 0⟩,
 ⟨some 64, .load 23 (Operand.tmp 63), none, 0⟩,
 ⟨some 65, .call ⟨(Callee.builtin Builtin.append), [(Operand.tmp 59), (Operand.tmp 64)].toArray, #[23, 23]⟩, none, 0⟩,
 ⟨some 66, .indexAddr 24 (Operand.tmp 11) (Operand.tmp 56), none, 0⟩,
 ⟨none, .store 23 (Operand.tmp 66) (Operand.tmp 65), none, 0⟩] true [10, 11] [0, 1, 2, 4, 5, 6, 7, 3, 8, 9, 10, 11])))
 (.ops [⟨some 67, .binOp BinOp.add 3 (Operand.tmp 52) (Operand.const (Value.int IntKind.i64 1)) 3, none, 0⟩,
 ⟨some 52, .move (Operand.tmp 67), none, 0⟩])))))))))
 (.ops [⟨some 68, .binOp BinOp.add 3 (Operand.tmp 44) (Operand.const (Value.int IntKind.i64 1)) 3, none, 0⟩,
 ⟨some 44, .move (Operand.tmp 68), none, 0⟩])))))))
 (.seq
 (.draw [⟨some 69, .load 24 (Operand.tmp 11), none, 0⟩,
 ⟨some 2, .assign (Operand.const (Value.bool false)), none, 0⟩,
 ⟨none, .store 24 (Operand.tmp 3) (Operand.tmp 69), none, 0⟩,
 ⟨some 4, .assign (Operand.const (Value.int IntKind.i64 0)), none, 0⟩] true [2, 3] [1, 0, 2, 3])
 .ret))))))))))
abbrev R25 : List ResultVar := [ResultVar.tmp 2, ResultVar.cell 3 24, ResultVar.tmp 4]
theorem ok25 : FnOK Tryz.prog 25 L25 R25 1 := ⟨_, _, Tryz.func25, rfl, by kernel_rfl, by kernel_rfl, by kernel_rfl, by kernel_rfl, Nat.le_of_ble_eq_true (by kernel_rfl), by kernel_rfl⟩

/-- ablaut/ablautref25.Reversible -/
def L26 : LCode :=
 (.seq
 (.ops [⟨some 2, .assign (Operand.const (Value.int IntKind.i64 0)), none, 0⟩,
 ⟨some 3, .assign (Operand.const (Value.int IntKind.i64 0)), none, 0⟩])
 (.seq
 (.seq
 (.ops [⟨some 5, .move (Operand.tmp 0), none, 0⟩,
 ⟨some 6, .call ⟨(Callee.value (Operand.func 63)), [(Operand.tmp 5)].toArray, #[22]⟩, none, 0⟩,
 ⟨some 4, .assign (Operand.tmp 6), none, 0⟩])
 (.seq
 (.ops [⟨some 7, .move (Operand.tmp 4), none, 0⟩,
 ⟨some 8, .binOp BinOp.neq 32 (Operand.tmp 7) (Operand.const (Value.int IntKind.i64 0)) 32, none, 0⟩])
 (.cond (Operand.tmp 8)
 (.seq
 (.ops [⟨some 9, .move (Operand.tmp 4), none, 0⟩,
 ⟨some 2, .assign (Operand.const (Value.int IntKind.i64 0)), none, 0⟩,
 ⟨some 3, .assign (Operand.tmp 9), none, 0⟩])
 .ret)
 .skip)))
 (.seq
 (.ops [⟨some 10, .move (Operand.tmp 0), none, 0⟩,
 ⟨some 11, .call ⟨(Callee.value (Operand.func 64)), [(Operand.tmp 10)].toArray, #[22]⟩, none, 0⟩,
 ⟨some 12, .call ⟨(Callee.value (Operand.func 70)), [(Operand.tmp 11)].toArray, #[58]⟩, none, 0⟩,
 ⟨some 2, .assign (Operand.tmp 12), none, 0⟩,
 ⟨some 3, .assign (Operand.const (Value.int IntKind.i64 0)), none, 0⟩])
 .ret)))
abbrev R26 : List ResultVar := [ResultVar.tmp 2, ResultVar.tmp 3]
theorem ok26 : FnOK Tryz.prog 26 L26 R26 1 := ⟨_, _, Tryz.func26, rfl, by kernel_rfl, by kernel_rfl, by kernel_rfl, by kernel_rfl, Nat.le_of_ble_eq_true (by kernel_rfl), by kernel_rfl⟩

/-- ablaut/script.Shift -/
def L33 : LCode :=
 (.seq
 (.ops [⟨some 4, .assign (Operand.const (Value.slice none 0 0)), none, 0⟩,
 ⟨some 5, .assign (Operand.const (Value.int IntKind.i64 0)), none, 0⟩])
 (.seq
 (.seq
 (.ops [⟨some 9, .move (Operand.tmp 0), none, 0⟩,
 ⟨some 10, .move (Operand.tmp 1), none, 0⟩,
 ⟨some 11, .call ⟨(Callee.value (Operand.func 81)), [(Operand.tmp 9), (Operand.tmp 10)].toArray, #[22, 23]⟩, none, 0⟩,
 ⟨some 6, .assign (Operand.tmp 11), none, 0⟩])
 (.seq
 (.ops [⟨some 12, .move (Operand.tmp 6), none, 0⟩,
 ⟨some 13, .binOp BinOp.neq 32 (Operand.tmp 12) (Operand.const (Value.int IntKind.i64 0)) 32, none, 0⟩])
 (.cond (Operand.tmp 13)
 (.seq
 (.ops [⟨some 14, .move (Operand.tmp 6), none, 0⟩,
 ⟨some 4, .assign (Operand.const (Value.slice none 0 0)), none, 0⟩,
 ⟨some 5, .assign (Operand.tmp 14), none, 0⟩])
 .ret)
 .skip)))
 (.seq
 (.ops [⟨some 16, .move (Operand.tmp 0), none, 0⟩,
 ⟨some 17, .move (Operand.tmp 1), none, 0⟩,
 ⟨some 18, .call ⟨(Callee.value (Operand.func 42)), [(Operand.tmp 16), (Operand.tmp 17)].toArray, #[22, 23]⟩, none, 0⟩,
 ⟨some 15, .move (Operand.tmp 18), none, 0⟩,
 ⟨some 19, .extract (Operand.tmp 15) 0, none, 0⟩,
 ⟨some 20, .extract (Operand.tmp 15) 1, none, 0⟩,
 ⟨some 7, .assign (Operand.tmp 19), none, 0⟩,
 ⟨some 8, .assign (Operand.tmp 20), none, 0⟩])
 (.seq
 (.seq
 (.ops [⟨some 21, .move (Operand.tmp 7), none, 0⟩,
 ⟨some 22, .call ⟨(Callee.builtin Builtin.len), [(Operand.tmp 21)].toArray, #[23]⟩, none, 0⟩,
 ⟨some 23, .binOp BinOp.gtr 3 (Operand.tmp 22) (Operand.const (Value.int IntKind.i64 60)) 3, none, 0⟩])
 (.cond (Operand.tmp 23)
 (.seq
 (.ops [⟨some 4, .assign (Operand.const (Value.slice none 0 0)), none, 0⟩,
 ⟨some 5, .assign (Operand.const (Value.int IntKind.i64 3)), none, 0⟩])
 .ret)
 .skip))
 (.seq
 (.ops [⟨some 24, .move (Operand.tmp 7), none, 0⟩,
 ⟨some 4, .assign (Operand.tmp 24), none, 0⟩,
 ⟨some 5, .assign (Operand.const (Value.int IntKind.i64 0)), none, 0⟩])
 .ret)))))
abbrev R33 : List ResultVar := [ResultVar.tmp 4, ResultVar.tmp 5]
theorem ok33 : FnOK Tryz.prog 33 L33 R33 2 := ⟨_, _, Tryz.func33, rfl, by kernel_rfl, by kernel_rfl, by kernel_rfl, by kernel_rfl, Nat.le_of_ble_eq_true (by kernel_rfl), by kernel_rfl⟩

/-- ablaut/script.Validate -/
def L35 : LCode :=
 (.seq
 (.ops [⟨some 2, .assign (Operand.const (Value.int IntKind.i64 0)), none, 0⟩])
 (.seq
 (.seq
 (.ops [⟨some 10, .move (Operand.tmp 0), none, 0⟩,
 ⟨some 11, .call ⟨(Callee.builtin Builtin.len), [(Operand.tmp 10)].toArray, #[22]⟩, none, 0⟩,
 ⟨some 12, .binOp BinOp.gtr 3 (Operand.tmp 11) (Operand.const (Value.int IntKind.i64 24)) 3, none, 0⟩])
 (.cond (Operand.tmp 12)
 (.seq
 (.ops [⟨some 2, .assign (Operand.const (Value.int IntKind.i64 3)), none, 0⟩])
 .ret)
 .skip))
 (.seq
 (.seq
 (.ops [⟨some 13, .move (Operand.tmp 0), none, 0⟩,
 ⟨some 14, .call ⟨(Callee.builtin Builtin.len), [(Operand.tmp 13)].toArray, #[22]⟩, none, 0⟩,
 ⟨some 15, .move (Operand.const (Value.int IntKind.i64 0)), none, 0⟩])
 (.block 0
 (.loop
 (.seq
 (.ops [⟨some 16, .binOp BinOp.lss 3 (Operand.tmp 15) (Operand.tmp 14) 3, none, 0⟩])
 (.seq
 (.cond (Operand.tmp 16)
 .skip
 (.exit 0))
 (.seq
 (.block 1
 (.seq
 (.ops [⟨some 17, .indexAddr 22 (Operand.tmp 13) (Operand.tmp 15), none, 0⟩,
 ⟨some 18, .load 67 (Operand.tmp 17), none, 0⟩,
 ⟨some 4, .alloc 67, none, 0⟩,
 ⟨none, .store 67 (Operand.tmp 4) (Operand.tmp 18), none, 0⟩])
 (.seq
 (.ops [⟨some 19, .fieldAddr 67 (Operand.tmp 4) 0, none, 0⟩,
 ⟨some 20, .load 23 (Operand.tmp 19), none, 0⟩,
 ⟨some 21, .fieldAddr 67 (Operand.tmp 4) 1, none, 0⟩,
 ⟨some 22, .load 23 (Operand.tmp 21), none, 0⟩,
 ⟨some 23, .buildSlice 58 2 [(0, (Operand.tmp 20)), (1, (Operand.tmp 22))].toArray, none, 0⟩,
 ⟨some 24, .call ⟨(Callee.builtin Builtin.len), [(Operand.tmp 23)].toArray, #[58]⟩, none, 0⟩,
 ⟨some 25, .move (Operand.const (Value.int IntKind.i64 0)), none, 0⟩])
 (.block 2
 (.loop
 (.seq
 (.ops [⟨some 26, .binOp BinOp.lss 3 (Operand.tmp 25) (Operand.tmp 24) 3, none, 0⟩])
 (.seq
 (.cond (Operand.tmp 26)
 .skip
 (.exit 2))
 (.seq
 (.block 3
 (.seq
 (.ops [⟨some 27, .indexAddr 58 (Operand.tmp 23) (Operand.tmp 25), none, 0⟩,
 ⟨some 28, .load 23 (Operand.tmp 27), none, 0⟩,
 ⟨some 6, .assign (Operand.tmp 28), none, 0⟩])
 (.seq
 (.ops [⟨some 29, .move (Operand.tmp 6), none, 0⟩,
 ⟨some 30, .call ⟨(Callee.value (Operand.func 91)), [(Operand.tmp 29)].toArray, #[23]⟩, none, 0⟩,
 ⟨some 7, .assign (Operand.tmp 30), none, 0⟩])
 (.seq
 (.ops [⟨some 31, .move (Operand.tmp 7), none, 0⟩,
 ⟨some 32, .binOp BinOp.neq 32 (Operand.tmp 31) (Operand.const (Value.int IntKind.i64 0)) 32, none, 0⟩])
 (.cond (Operand.tmp 32)
 (.seq
 (.ops [⟨some 33, .move (Operand.tmp 7), none, 0⟩,
 ⟨some 2, .assign (Operand.tmp 33), none, 0⟩])
 .ret)
 .skip)))))
 (.ops [⟨some 34, .binOp BinOp.add 3 (Operand.tmp 25) (Operand.const (Value.int IntKind.i64 1)) 3, none, 0⟩,
 ⟨some 25, .move (Operand.tmp 34), none, 0⟩])))))))))
 (.ops [⟨some 35, .binOp BinOp.add 3 (Operand.tmp 15) (Operand.const (Value.int IntKind.i64 1)) 3, none, 0⟩,
 ⟨some 15, .move (Operand.tmp 35), none, 0⟩])))))))
 (.seq
 (.seq
 (.ops [⟨some 36, .move (Operand.tmp 0), none, 0⟩,
 ⟨some 37, .call ⟨(Callee.builtin Builtin.len), [(Operand.tmp 36)].toArray, #[22]⟩, none, 0⟩,
 ⟨some 38, .move (Operand.const (Value.int IntKind.i64 0)), none, 0⟩])
 (.block 4
 (.loop
 (.seq
 (.ops [⟨some 39, .binOp BinOp.lss 3 (Operand.tmp 38) (Operand.tmp 37) 3, none, 0⟩])
 (.seq
 (.cond (Operand.tmp 39)
 .skip
 (.exit 4))
 (.seq
 (.block 5
 (.seq
 (.ops [⟨some 40, .move (Operand.tmp 38), none, 0⟩,
 ⟨some 41, .indexAddr 22 (Operand.tmp 36) (Operand.tmp 38), none, 0⟩,
 ⟨some 42, .load 67 (Operand.tmp 41), none, 0⟩,
 ⟨some 9, .alloc 67, none, 0⟩,
 ⟨some 8, .assign (Operand.tmp 40), none, 0⟩,
 ⟨none, .store 67 (Operand.tmp 9) (Operand.tmp 42), none, 0⟩])
 (.seq
 (.draw [⟨some 43, .fieldAddr 67 (Operand.tmp 9) 0, none, 0⟩,
 ⟨some 44, .load 23 (Operand.tmp 43), none, 0⟩,
 ⟨some 45, .call ⟨(Callee.builtin Builtin.len), [(Operand.tmp 44)].toArray, #[23]⟩, none, 0⟩,
 ⟨some 46, .binOp BinOp.eql 3 (Operand.tmp 45) (Operand.const (Value.int IntKind.i64 0)) 3, none, 0⟩,
 ⟨some 47, .move (Operand.tmp 46), none, 0⟩,
 ⟨some 48, .move (Operand.tmp 8), some (47, false), 0⟩,
 ⟨some 49, .binOp BinOp.gtr 3 (Operand.tmp 48) (Operand.const (Value.int IntKind.i64 0)) 3, some (47, false), 0⟩,
 ⟨some 50, .move (Operand.tmp 49), some (47, false), 0⟩,
 ⟨some 51, .move (Operand.tmp 0), some (50, true), 0⟩,
 ⟨some 52, .move (Operand.tmp 8), some (50, true), 0⟩,
 ⟨some 53, .binOp BinOp.sub 3 (Operand.tmp 52) (Operand.const (Value.int IntKind.i64 1)) 3, some (50, true), 0⟩,
 ⟨some 54, .indexAddr 22 (Operand.tmp 51) (Operand.tmp 53), some (50, true), 0⟩,
 ⟨some 55, .fieldAddr 67 (Operand.tmp 54) 0, some (50, true), 0⟩,
 ⟨some 56, .load 23 (Operand.tmp 55), some (50, true), 0⟩,
 ⟨some 57, .fieldAddr 67 (Operand.tmp 9) 0, some (50, true), 0⟩,
 ⟨some 58, .load 23 (Operand.tmp 57), some (50, true), 0⟩,
 ⟨some 59, .call ⟨(Callee.value (Operand.func 61)), [(Operand.tmp 56), (Operand.tmp 58)].toArray, #[23, 23]⟩, some (50, true), 0⟩,
 ⟨some 60, .binOp BinOp.geq 3 (Operand.tmp 59) (Operand.const (Value.int IntKind.i64 0)) 3, some (50, true), 0⟩,
 ⟨some 61, .pick (Operand.tmp 50) (Operand.tmp 60) (Operand.const (Value.bool false)), some (47, false), 0⟩,
 ⟨some 62, .pick (Operand.tmp 47) (Operand.const (Value.bool true)) (Operand.tmp 61), none, 0⟩] true [16, 17, 18, 19] [0, 1, 2, 3, 4, 5, 6, 7, 8, 9, 10, 11, 12, 13, 14, 15, 16, 17, 18, 19])
 (.cond (Operand.tmp 62)
 (.seq
 (.ops [⟨some 2, .assign (Operand.const (Value.int IntKind.i64 1)), none, 0⟩])
 .ret)
 .skip))))
 (.ops [⟨some 63, .binOp BinOp.add 3 (Operand.tmp 38) (Operand.const (Value.int IntKind.i64 1)) 3, none, 0⟩,
 ⟨some 38, .move (Operand.tmp 63), none, 0⟩])))))))
 (.seq
 (.ops [⟨some 2, .assign (Operand.const (Value.int IntKind.i64 0)), none, 0⟩])
 .ret)))))
abbrev R35 : List ResultVar := [ResultVar.tmp 2]
theorem ok35 : FnOK Tryz.prog 35 L35 R35 1 := ⟨_, _, Tryz.func35, rfl, by kernel_rfl, by kernel_rfl, by kernel_rfl, by kernel_rfl, Nat.le_of_ble_eq_true (by kernel_rfl), by kernel_rfl⟩

/-- ablaut/script.word -/
def L41 : LCode :=
 (.seq
 (.ops [⟨some 2, .assign (Operand.const (Value.slice none 0 0)), none, 0⟩])
 (.seq
 (.seq
 (.ops [⟨some 3, .move (Operand.tmp 0), none, 0⟩,
 ⟨some 4, .binOp BinOp.eql 9 (Operand.tmp 3) (Operand.const (Value.string ⟨#[]⟩)) 9, none, 0⟩])
 (.cond (Operand.tmp 4)
 (.seq
 (.ops [⟨some 2, .assign (Operand.const (Value.slice none 0 0)), none, 0⟩])
 .ret)
 .skip))
 (.seq
 (.ops [⟨some 5, .move (Operand.tmp 0), none, 0⟩,
 ⟨some 6, .call ⟨(Callee.value (Operand.func 75)), [(Operand.tmp 5), (Operand.const (Value.string ⟨#[32]⟩))].toArray, #[9, 9]⟩, none, 0⟩,
 ⟨some 2, .assign (Operand.tmp 6), none, 0⟩])
 .ret)))
abbrev R41 : List ResultVar := [ResultVar.tmp 2]
theorem ok41 : FnOK Tryz.prog 41 L41 R41 1 := ⟨_, _, Tryz.func41, rfl, by kernel_rfl, by kernel_rfl, by kernel_rfl, by kernel_rfl, Nat.le_of_ble_eq_true (by kernel_rfl), by kernel_rfl⟩

/-- ablaut/script.shifted -/
def L42 : LCode :=
 (.seq
 (.ops [⟨some 4, .assign (Operand.const (Value.slice none 0 0)), none, 0⟩,
 ⟨some 5, .assign (Operand.const (Value.bool false)), none, 0⟩])
 (.seq
 (.ops [⟨some 6, .assign (Operand.const (Value.slice none 0 0)), none, 0⟩])
 (.seq
 (.ops [⟨some 7, .assign (Operand.const (Value.bool true)), none, 0⟩])
 (.seq
 (.block 0
 (.loop
 (.seq
 (.seq
 (.ops [⟨some 11, .move (Operand.tmp 1), none, 0⟩,
 ⟨some 12, .call ⟨(Callee.builtin Builtin.len), [(Operand.tmp 11)].toArray, #[23]⟩, none, 0⟩,
 ⟨some 13, .binOp BinOp.gtr 3 (Operand.tmp 12) (Operand.const (Value.int IntKind.i64 0)) 3, none, 0⟩])
 (.cond (Operand.tmp 13)
 .skip
 (.exit 0)))
 (.block 1
 (.seq
 (.ops [⟨some 15, .move (Operand.tmp 0), none, 0⟩,
 ⟨some 16, .move (Operand.tmp 1), none, 0⟩,
 ⟨some 17, .call ⟨(Callee.value (Operand.func 96)), [(Operand.tmp 15), (Operand.tmp 16)].toArray, #[22, 23]⟩, none, 0⟩,
 ⟨some 14, .move (Operand.tmp 17), none, 0⟩,
 ⟨some 18, .extract (Operand.tmp 14) 0, none, 0⟩,
 ⟨some 19, .extract (Operand.tmp 14) 1, none, 0⟩,
 ⟨some 20, .extract (Operand.tmp 14) 2, none, 0⟩,
 ⟨some 8, .assign (Operand.tmp 18), none, 0⟩,
 ⟨some 9, .assign (Operand.tmp 19), none, 0⟩,
 ⟨some 10, .assign (Operand.tmp 20), none, 0⟩])
 (.seq
 (.ops [⟨some 21, .move (Operand.tmp 6), none, 0⟩,
 ⟨some 22, .move (Operand.tmp 8), none, 0⟩,
 ⟨some 23, .call ⟨(Callee.builtin Builtin.append), [(Operand.tmp 21), (Operand.tmp 22)].toArray, #[23, 23]⟩, none, 0⟩,
 ⟨some 6, .assign (Operand.tmp 23), none, 0⟩])
 (.seq
 (.ops [⟨some 24, .move (Operand.tmp 7), none, 0⟩,
 ⟨some 25, .move (Operand.tmp 24), none, 0⟩,
 ⟨some 26, .move (Operand.tmp 10), some (25, true), 0⟩,
 ⟨some 27, .binOp BinOp.geq 3 (Operand.tmp 26) (Operand.const (Value.int IntKind.i64 0)) 3, some (25, true), 0⟩,
 ⟨some 28, .pick (Operand.tmp 25) (Operand.tmp 27) (Operand.const (Value.bool false)), none, 0⟩,
 ⟨some 7, .assign (Operand.tmp 28), none, 0⟩])
 (.ops [⟨some 29, .move (Operand.tmp 1), none, 0⟩,
 ⟨some 30, .move (Operand.tmp 9), none, 0⟩,
 ⟨some 31, .slice 23 (Operand.tmp 29) (some (Operand.tmp 30)) none none, none, 0⟩,
 ⟨some 1, .assign (Operand.tmp 31), none, 0⟩]))))))))
 (.seq
 (.ops [⟨some 32, .move (Operand.tmp 6), none, 0⟩,
 ⟨some 33, .move (Operand.tmp 7), none, 0⟩,
 ⟨some 4, .assign (Operand.tmp 32), none, 0⟩,
 ⟨some 5, .assign (Operand.tmp 33), none, 0⟩])
 .ret)))))
abbrev R42 : List ResultVar := [ResultVar.tmp 4, ResultVar.tmp 5]
theorem ok42 : FnOK Tryz.prog 42 L42 R42 2 := ⟨_, _, Tryz.func42, rfl, by kernel_rfl, by kernel_rfl, by kernel_rfl, by kernel_rfl, Nat.le_of_ble_eq_true (by kernel_rfl), by kernel_rfl⟩

/-- ablaut/script.fed -/
def L44 : LCode :=
 (.seq
 (.ops [⟨some 4, .assign (Operand.const (Value.slice none 0 0)), none, 0⟩,
 ⟨some 5, .assign (Operand.const (Value.slice none 0 0)), none, 0⟩,
 ⟨some 6, .assign (Operand.const (Value.bool false)), none, 0⟩])
 (.seq
 (.ops [⟨some 6, .assign (Operand.const (Value.bool true)), none, 0⟩])
 (.seq
 (.block 0
 (.loop
 (.seq
 (.seq
 (.ops [⟨some 10, .move (Operand.tmp 1), none, 0⟩,
 ⟨some 11, .call ⟨(Callee.builtin Builtin.len), [(Operand.tmp 10)].toArray, #[23]⟩, none, 0⟩,
 ⟨some 12, .binOp BinOp.gtr 3 (Operand.tmp 11) (Operand.const (Value.int IntKind.i64 0)) 3, none, 0⟩,
 ⟨some 13, .move (Operand.tmp 12), none, 0⟩,
 ⟨some 14, .move (Operand.tmp 0), some (13, true), 0⟩,
 ⟨some 15, .move (Operand.tmp 1), some (13, true), 0⟩,
 ⟨some 16, .call ⟨(Callee.value (Operand.func 98)), [(Operand.tmp 14), (Operand.tmp 15)].toArray, #[22, 23]⟩, some (13, true), 0⟩,
 ⟨some 17, .unOp UnOp.not 4 (Operand.tmp 16), some (13, true), 0⟩,
 ⟨some 18, .pick (Operand.tmp 13) (Operand.tmp 17) (Operand.const (Value.bool false)), none, 0⟩])
 (.cond (Operand.tmp 18)
 .skip
 (.exit 0)))
 (.block 1
 (.seq
 (.ops [⟨some 20, .move (Operand.tmp 0), none, 0⟩,
 ⟨some 21, .move (Operand.tmp 1), none, 0⟩,
 ⟨some 22, .call ⟨(Callee.value (Operand.func 96)), [(Operand.tmp 20), (Operand.tmp 21)].toArray, #[22, 23]⟩, none, 0⟩,
 ⟨some 19, .move (Operand.tmp 22), none, 0⟩,
 ⟨some 23, .extract (Operand.tmp 19) 0, none, 0⟩,
 ⟨some 24, .extract (Operand.tmp 19) 1, none, 0⟩,
 ⟨some 25, .extract (Operand.tmp 19) 2, none, 0⟩,
 ⟨some 7, .assign (Operand.tmp 23), none, 0⟩,
 ⟨some 8, .assign (Operand.tmp 24), none, 0⟩,
 ⟨some 9, .assign (Operand.tmp 25), none, 0⟩])
 (.seq
 (.ops [⟨some 26, .move (Operand.tmp 4), none, 0⟩,
 ⟨some 27, .move (Operand.tmp 7), none, 0⟩,
 ⟨some 28, .call ⟨(Callee.builtin Builtin.append), [(Operand.tmp 26), (Operand.tmp 27)].toArray, #[23, 23]⟩, none, 0⟩,
 ⟨some 4, .assign (Operand.tmp 28), none, 0⟩])
 (.seq
 (.ops [⟨some 29, .move (Operand.tmp 6), none, 0⟩,
 ⟨some 30, .move (Operand.tmp 29), none, 0⟩,
 ⟨some 31, .move (Operand.tmp 9), some (30, true), 0⟩,
 ⟨some 32, .binOp BinOp.geq 3 (Operand.tmp 31) (Operand.const (Value.int IntKind.i64 0)) 3, some (30, true), 0⟩,
 ⟨some 33, .pick (Operand.tmp 30) (Operand.tmp 32) (Operand.const (Value.bool false)), none, 0⟩,
 ⟨some 6, .assign (Operand.tmp 33), none, 0⟩])
 (.ops [⟨some 34, .move (Operand.tmp 1), none, 0⟩,
 ⟨some 35, .move (Operand.tmp 8), none, 0⟩,
 ⟨some 36, .slice 23 (Operand.tmp 34) (some (Operand.tmp 35)) none none, none, 0⟩,
 ⟨some 1, .assign (Operand.tmp 36), none, 0⟩]))))))))
 (.seq
 (.ops [⟨some 37, .move (Operand.tmp 4), none, 0⟩,
 ⟨some 38, .move (Operand.tmp 1), none, 0⟩,
 ⟨some 39, .move (Operand.tmp 6), none, 0⟩,
 ⟨some 4, .assign (Operand.tmp 37), none, 0⟩,
 ⟨some 5, .assign (Operand.tmp 38), none, 0⟩,
 ⟨some 6, .assign (Operand.tmp 39), none, 0⟩])
 .ret))))
abbrev R44 : List ResultVar := [ResultVar.tmp 4, ResultVar.tmp 5, ResultVar.tmp 6]
theorem ok44 : FnOK Tryz.prog 44 L44 R44 2 := ⟨_, _, Tryz.func44, rfl, by kernel_rfl, by kernel_rfl, by kernel_rfl, by kernel_rfl, Nat.le_of_ble_eq_true (by kernel_rfl), by kernel_rfl⟩

/-- slices.Clone[[]string,string] -/
def L45 : LCode :=
 (.seq
 (.ops [⟨some 2, .assign (Operand.const (Value.slice none 0 0)), none, 0⟩])
 (.seq
 (.seq
 (.ops [⟨some 3, .move (Operand.tmp 0), none, 0⟩,
 ⟨some 4, .binOp BinOp.eql 23 (Operand.tmp 3) (Operand.const (Value.slice none 0 0)) 23, none, 0⟩])
 (.cond (Operand.tmp 4)
 (.seq
 (.ops [⟨some 2, .assign (Operand.const (Value.slice none 0 0)), none, 0⟩])
 .ret)
 .skip))
 (.seq
 (.ops [⟨some 5, .buildSlice 23 0 [].toArray, none, 0⟩,
 ⟨some 6, .move (Operand.tmp 0), none, 0⟩,
 ⟨some 7, .call ⟨(Callee.builtin Builtin.append), [(Operand.tmp 5), (Operand.tmp 6)].toArray, #[23, 23]⟩, none, 0⟩,
 ⟨some 2, .assign (Operand.tmp 7), none, 0⟩])
 .ret)))
abbrev R45 : List ResultVar := [ResultVar.tmp 2]
theorem ok45 : FnOK Tryz.prog 45 L45 R45 1 := ⟨_, _, Tryz.func45, rfl, by kernel_rfl, by kernel_rfl, by kernel_rfl, by kernel_rfl, Nat.le_of_ble_eq_true (by kernel_rfl), by kernel_rfl⟩

/-- ablaut/script.key -/
def L46 : LCode :=
 (.seq
 (.ops [⟨some 2, .assign (Operand.const (Value.string ⟨#[]⟩)), none, 0⟩])
 (.seq
 (.ops [⟨some 3, .move (Operand.tmp 0), none, 0⟩,
 ⟨some 4, .call ⟨(Callee.value (Operand.func 99)), [(Operand.tmp 3), (Operand.const (Value.string ⟨#[32]⟩))].toArray, #[23, 9]⟩, none, 0⟩,
 ⟨some 2, .assign (Operand.tmp 4), none, 0⟩])
 .ret))
abbrev R46 : List ResultVar := [ResultVar.tmp 2]
theorem ok46 : FnOK Tryz.prog 46 L46 R46 1 := ⟨_, _, Tryz.func46, rfl, by kernel_rfl, by kernel_rfl, by kernel_rfl, by kernel_rfl, Nat.le_of_ble_eq_true (by kernel_rfl), by kernel_rfl⟩

/-- ablaut/ablautref01.Order -/
def L51 : LCode :=
 (.seq
 (.ops [⟨some 4, .assign (Operand.const (Value.int IntKind.i64 0)), none, 0⟩])
 (.seq
 (.seq
 (.ops [⟨some 5, .assign (Operand.const (Value.int IntKind.i64 0)), none, 0⟩])
 (.block 0
 (.loop
 (.seq
 (.seq
 (.ops [⟨some 6, .move (Operand.tmp 5), none, 0⟩,
 ⟨some 7, .move (Operand.tmp 0), none, 0⟩,
 ⟨some 8, .call ⟨(Callee.builtin Builtin.len), [(Operand.tmp 7)].toArray, #[23]⟩, none, 0⟩,
 ⟨some 9, .binOp BinOp.lss 3 (Operand.tmp 6) (Operand.tmp 8) 3, none, 0⟩,
 ⟨some 10, .move (Operand.tmp 9), none, 0⟩,
 ⟨some 11, .move (Operand.tmp 5), some (10, true), 0⟩,
 ⟨some 12, .move (Operand.tmp 1), some (10, true), 0⟩,
 ⟨some 13, .call ⟨(Callee.builtin Builtin.len), [(Operand.tmp 12)].toArray, #[23]⟩, some (10, true), 0⟩,
 ⟨some 14, .binOp BinOp.lss 3 (Operand.tmp 11) (Operand.tmp 13) 3, some (10, true), 0⟩,
 ⟨some 15, .pick (Operand.tmp 10) (Operand.tmp 14) (Operand.const (Value.bool false)), none, 0⟩])
 (.cond (Operand.tmp 15)
 .skip
 (.exit 0)))
 (.seq
 (.block 1
 (.seq
 (.seq
 (.draw [⟨some 18, .move (Operand.tmp 0), none, 0⟩,
 ⟨some 19, .move (Operand.tmp 5), none, 0⟩,
 ⟨some 20, .indexAddr 23 (Operand.tmp 18) (Operand.tmp 19), none, 0⟩,
 ⟨some 21, .load 9 (Operand.tmp 20), none, 0⟩,
 ⟨some 22, .move (Operand.tmp 1), none, 0⟩,
 ⟨some 23, .move (Operand.tmp 5), none, 0⟩,
 ⟨some 24, .indexAddr 23 (Operand.tmp 22) (Operand.tmp 23), none, 0⟩,
 ⟨some 25, .load 9 (Operand.tmp 24), none, 0⟩,
 ⟨some 26, .binOp BinOp.lss 9 (Operand.tmp 21) (Operand.tmp 25) 9, none, 0⟩] true [8] [0, 1, 2, 4, 5, 6, 3, 7, 8])
 (.cond (Operand.tmp 26)
 (.seq
 (.ops [⟨some 4, .assign (Operand.const (Value.int IntKind.i64 (-1))), none, 0⟩])
 .ret)
 .skip))
 (.seq
 (.draw [⟨some 27, .move (Operand.tmp 0), none, 0⟩,
 ⟨some 28, .move (Operand.tmp 5), none, 0⟩,
 ⟨some 29, .indexAddr 23 (Operand.tmp 27) (Operand.tmp 28), none, 0⟩,
 ⟨some 30, .load 9 (Operand.tmp 29), none, 0⟩,
 ⟨some 31, .move (Operand.tmp 1), none, 0⟩,
 ⟨some 32, .move (Operand.tmp 5), none, 0⟩,
 ⟨some 33, .indexAddr 23 (Operand.tmp 31) (Operand.tmp 32), none, 0⟩,
 ⟨some 34, .load 9 (Operand.tmp 33), none, 0⟩,
 ⟨some 35, .binOp BinOp.gtr 9 (Operand.tmp 30) (Operand.tmp 34) 9, none, 0⟩] true [8] [0, 1, 2, 4, 5, 6, 3, 7, 8])
 (.cond (Operand.tmp 35)
 (.seq
 (.ops [⟨some 4, .assign (Operand.const (Value.int IntKind.i64 1)), none, 0⟩])
 .ret)
 .skip))))
 (.ops [⟨some 16, .move (Operand.tmp 5), none, 0⟩,
 ⟨some 17, .binOp BinOp.add 3 (Operand.tmp 16) (Operand.const (Value.int IntKind.i64 1)) 3, none, 0⟩,
 ⟨some 5, .assign (Operand.tmp 17), none, 0⟩]))))))
 (.seq
 (.block 2
 (.seq
 (.ops [⟨some 37, .move (Operand.tmp 0), none, 0⟩,
 ⟨some 38, .call ⟨(Callee.builtin Builtin.len), [(Operand.tmp 37)].toArray, #[23]⟩, none, 0⟩,
 ⟨some 39, .move (Operand.tmp 1), none, 0⟩,
 ⟨some 40, .call ⟨(Callee.builtin Builtin.len), [(Operand.tmp 39)].toArray, #[23]⟩, none, 0⟩,
 ⟨some 41, .binOp BinOp.lss 3 (Operand.tmp 38) (Operand.tmp 40) 3, none, 0⟩,
 ⟨some 36, .assign (Operand.tmp 41), none, 0⟩])
 (.cond (Operand.tmp 36)
 (.seq
 (.ops [⟨some 4, .assign (Operand.const (Value.int IntKind.i64 (-1))), none, 0⟩])
 .ret)
 (.seq
 (.ops [⟨some 43, .move (Operand.tmp 0), none, 0⟩,
 ⟨some 44, .call ⟨(Callee.builtin Builtin.len), [(Operand.tmp 43)].toArray, #[23]⟩, none, 0⟩,
 ⟨some 45, .move (Operand.tmp 1), none, 0⟩,
 ⟨some 46, .call ⟨(Callee.builtin Builtin.len), [(Operand.tmp 45)].toArray, #[23]⟩, none, 0⟩,
 ⟨some 47, .binOp BinOp.gtr 3 (Operand.tmp 44) (Operand.tmp 46) 3, none, 0⟩,
 ⟨some 42, .assign (Operand.tmp 47), none, 0⟩])
 (.cond (Operand.tmp 42)
 (.seq
 (.ops [⟨some 4, .assign (Operand.const (Value.int IntKind.i64 1)), none, 0⟩])
 .ret)
 .skip)))))
 (.seq
 (.ops [⟨some 4, .assign (Operand.const (Value.int IntKind.i64 0)), none, 0⟩])
 .ret))))
abbrev R51 : List ResultVar := [ResultVar.tmp 4]
theorem ok51 : FnOK Tryz.prog 51 L51 R51 2 := ⟨_, _, Tryz.func51, rfl, by kernel_rfl, by kernel_rfl, by kernel_rfl, by kernel_rfl, Nat.le_of_ble_eq_true (by kernel_rfl), by kernel_rfl⟩
end Go.Proofs.YtldlcejlfaogbaaGreatDoor.Vs
