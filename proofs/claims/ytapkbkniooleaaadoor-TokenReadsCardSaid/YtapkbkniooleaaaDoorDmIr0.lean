/- The seat's functions as the engine Dm reads them, written by dgen.py. -/
import Derived.Test.YtapkbkniooleaaaDoorDmFn
import Derived.Test.YtapkbkniooleaaaDoorProg
import Derived.KernelRfl
namespace Go.Proofs.YtapkbkniooleaaaDoor.Vs
set_option linter.unusedVariables false
set_option maxRecDepth 100000
/-- ablaut/ablautlaw17.TokenReads -/
def L5 : LCode :=
 (.seq
 (.ops [⟨some 2, .assign (Operand.const (Value.bool false)), none, 0⟩])
 (.seq
 (.seq
 (.ops [⟨some 7, .move (Operand.tmp 0), none, 0⟩,
 ⟨some 8, .call ⟨(Callee.builtin Builtin.len), [(Operand.tmp 7)].toArray, #[9]⟩, none, 0⟩,
 ⟨some 9, .binOp BinOp.gtr 3 (Operand.tmp 8) (Operand.const (Value.int IntKind.i64 24000)) 3, none, 0⟩])
 (.cond (Operand.tmp 9)
 (.seq
 (.ops [⟨some 10, .call ⟨(Callee.value (Operand.func 7)), [].toArray, #[]⟩, none, 0⟩,
 ⟨some 2, .assign (Operand.tmp 10), none, 0⟩])
 .ret)
 .skip))
 (.seq
 (.ops [⟨some 12, .move (Operand.tmp 0), none, 0⟩,
 ⟨some 13, .call ⟨(Callee.value (Operand.func 16)), [(Operand.tmp 12)].toArray, #[9]⟩, none, 0⟩,
 ⟨some 11, .move (Operand.tmp 13), none, 0⟩,
 ⟨some 14, .extract (Operand.tmp 11) 0, none, 0⟩,
 ⟨some 15, .extract (Operand.tmp 11) 1, none, 0⟩,
 ⟨some 3, .assign (Operand.tmp 14), none, 0⟩,
 ⟨some 4, .assign (Operand.tmp 15), none, 0⟩])
 (.seq
 (.ops [⟨some 17, .move (Operand.tmp 0), none, 0⟩,
 ⟨some 18, .call ⟨(Callee.value (Operand.func 17)), [(Operand.tmp 17)].toArray, #[9]⟩, none, 0⟩,
 ⟨some 16, .move (Operand.tmp 18), none, 0⟩,
 ⟨some 19, .extract (Operand.tmp 16) 0, none, 0⟩,
 ⟨some 20, .extract (Operand.tmp 16) 1, none, 0⟩,
 ⟨some 5, .assign (Operand.tmp 19), none, 0⟩,
 ⟨some 6, .assign (Operand.tmp 20), none, 0⟩])
 (.seq
 (.ops [⟨some 21, .move (Operand.tmp 3), none, 0⟩,
 ⟨some 22, .move (Operand.tmp 5), none, 0⟩,
 ⟨some 23, .binOp BinOp.eql 3 (Operand.tmp 21) (Operand.tmp 22) 3, none, 0⟩,
 ⟨some 24, .move (Operand.tmp 23), none, 0⟩,
 ⟨some 25, .move (Operand.tmp 4), some (24, true), 0⟩,
 ⟨some 26, .move (Operand.tmp 6), some (24, true), 0⟩,
 ⟨some 27, .binOp BinOp.eql 4 (Operand.tmp 25) (Operand.tmp 26) 4, some (24, true), 0⟩,
 ⟨some 28, .pick (Operand.tmp 24) (Operand.tmp 27) (Operand.const (Value.bool false)), none, 0⟩,
 ⟨some 29, .move (Operand.tmp 28), none, 0⟩,
 ⟨some 30, .call ⟨(Callee.value (Operand.func 7)), [].toArray, #[]⟩, some (29, true), 0⟩,
 ⟨some 31, .pick (Operand.tmp 29) (Operand.tmp 30) (Operand.const (Value.bool false)), none, 0⟩,
 ⟨some 2, .assign (Operand.tmp 31), none, 0⟩])
 .ret)))))
abbrev R5 : List ResultVar := [ResultVar.tmp 2]
theorem ok5 : FnOK Tryd.prog 5 L5 R5 1 := ⟨_, _, Tryd.func5, rfl, by kernel_rfl, by kernel_rfl, by kernel_rfl, by kernel_rfl, Nat.le_of_ble_eq_true (by kernel_rfl), by kernel_rfl⟩

/-- ablaut/ablautlaw17.known -/
def L7 : LCode :=
 (.seq
 (.ops [⟨some 0, .assign (Operand.const (Value.bool false)), none, 0⟩])
 (.seq
 (.ops [⟨some 6, .buildSlice 34 1 [(0, (Operand.const (Value.string ⟨#[68, 114, 46]⟩)))].toArray, none, 0⟩,
 ⟨some 7, .buildSlice 34 1 [(0, (Operand.const (Value.string ⟨#[39, 115]⟩)))].toArray, none, 0⟩,
 ⟨some 8, .build 36 [(1, (Operand.tmp 6)), (3, (Operand.tmp 7))].toArray, none, 0⟩,
 ⟨some 1, .alloc 36, none, 0⟩,
 ⟨none, .store 36 (Operand.tmp 1) (Operand.tmp 8), none, 0⟩])
 (.seq
 (.ops [⟨some 10, .load 36 (Operand.tmp 1), none, 0⟩,
 ⟨some 11, .call ⟨(Callee.value (Operand.func 18)), [(Operand.tmp 10), (Operand.const (Value.string ⟨#[68, 114, 46, 32, 76, 101, 101, 39, 115, 32, 99, 97, 116, 46, 32, 73, 116, 32, 114, 97, 110, 46]⟩))].toArray, #[36, 9]⟩, none, 0⟩,
 ⟨some 9, .move (Operand.tmp 11), none, 0⟩,
 ⟨some 12, .extract (Operand.tmp 9) 0, none, 0⟩,
 ⟨some 13, .extract (Operand.tmp 9) 1, none, 0⟩,
 ⟨some 2, .assign (Operand.tmp 12), none, 0⟩,
 ⟨some 3, .assign (Operand.tmp 13), none, 0⟩])
 (.seq
 (.ops [⟨some 15, .load 36 (Operand.tmp 1), none, 0⟩,
 ⟨some 16, .call ⟨(Callee.value (Operand.func 19)), [(Operand.tmp 15), (Operand.const (Value.string ⟨#[68, 114, 46, 32, 76, 101, 101, 39, 115, 32, 99, 97, 116, 46, 32, 73, 116, 32, 114, 97, 110, 46]⟩))].toArray, #[36, 9]⟩, none, 0⟩,
 ⟨some 14, .move (Operand.tmp 16), none, 0⟩,
 ⟨some 17, .extract (Operand.tmp 14) 0, none, 0⟩,
 ⟨some 18, .extract (Operand.tmp 14) 1, none, 0⟩,
 ⟨some 4, .assign (Operand.tmp 17), none, 0⟩,
 ⟨some 5, .assign (Operand.tmp 18), none, 0⟩])
 (.seq
 (.ops [⟨some 19, .move (Operand.tmp 3), none, 0⟩,
 ⟨some 20, .binOp BinOp.eql 27 (Operand.tmp 19) (Operand.const (Value.int IntKind.i64 0)) 27, none, 0⟩,
 ⟨some 21, .move (Operand.tmp 20), none, 0⟩,
 ⟨some 22, .move (Operand.tmp 5), some (21, true), 0⟩,
 ⟨some 23, .binOp BinOp.eql 27 (Operand.tmp 22) (Operand.const (Value.int IntKind.i64 0)) 27, some (21, true), 0⟩,
 ⟨some 24, .pick (Operand.tmp 21) (Operand.tmp 23) (Operand.const (Value.bool false)), none, 0⟩,
 ⟨some 25, .move (Operand.tmp 24), none, 0⟩,
 ⟨some 26, .move (Operand.tmp 2), some (25, true), 0⟩,
 ⟨some 27, .call ⟨(Callee.builtin Builtin.len), [(Operand.tmp 26)].toArray, #[37]⟩, some (25, true), 0⟩,
 ⟨some 28, .binOp BinOp.eql 3 (Operand.tmp 27) (Operand.const (Value.int IntKind.i64 8)) 3, some (25, true), 0⟩,
 ⟨some 29, .pick (Operand.tmp 25) (Operand.tmp 28) (Operand.const (Value.bool false)), none, 0⟩,
 ⟨some 30, .move (Operand.tmp 29), none, 0⟩,
 ⟨some 31, .move (Operand.tmp 2), some (30, true), 0⟩,
 ⟨some 32, .indexAddr 37 (Operand.tmp 31) (Operand.const (Value.int IntKind.i64 2)), some (30, true), 0⟩,
 ⟨some 33, .fieldAddr 44 (Operand.tmp 32) 3, some (30, true), 0⟩,
 ⟨some 34, .load 9 (Operand.tmp 33), some (30, true), 0⟩,
 ⟨some 35, .binOp BinOp.eql 9 (Operand.tmp 34) (Operand.const (Value.string ⟨#[39, 115]⟩)) 9, some (30, true), 0⟩,
 ⟨some 36, .pick (Operand.tmp 30) (Operand.tmp 35) (Operand.const (Value.bool false)), none, 0⟩,
 ⟨some 37, .move (Operand.tmp 36), none, 0⟩,
 ⟨some 38, .move (Operand.tmp 2), some (37, true), 0⟩,
 ⟨some 39, .indexAddr 37 (Operand.tmp 38) (Operand.const (Value.int IntKind.i64 2)), some (37, true), 0⟩,
 ⟨some 40, .fieldAddr 44 (Operand.tmp 39) 2, some (37, true), 0⟩,
 ⟨some 41, .load 3 (Operand.tmp 40), some (37, true), 0⟩,
 ⟨some 42, .binOp BinOp.eql 3 (Operand.tmp 41) (Operand.const (Value.int IntKind.i64 5)) 3, some (37, true), 0⟩,
 ⟨some 43, .pick (Operand.tmp 37) (Operand.tmp 42) (Operand.const (Value.bool false)), none, 0⟩,
 ⟨some 44, .move (Operand.tmp 43), none, 0⟩,
 ⟨some 45, .move (Operand.tmp 4), some (44, true), 0⟩,
 ⟨some 46, .call ⟨(Callee.builtin Builtin.len), [(Operand.tmp 45)].toArray, #[40]⟩, some (44, true), 0⟩,
 ⟨some 47, .binOp BinOp.eql 3 (Operand.tmp 46) (Operand.const (Value.int IntKind.i64 2)) 3, some (44, true), 0⟩,
 ⟨some 48, .pick (Operand.tmp 44) (Operand.tmp 47) (Operand.const (Value.bool false)), none, 0⟩,
 ⟨some 49, .move (Operand.tmp 48), none, 0⟩,
 ⟨some 50, .move (Operand.tmp 4), some (49, true), 0⟩,
 ⟨some 51, .indexAddr 40 (Operand.tmp 50) (Operand.const (Value.int IntKind.i64 1)), some (49, true), 0⟩,
 ⟨some 52, .load 3 (Operand.tmp 51), some (49, true), 0⟩,
 ⟨some 53, .binOp BinOp.eql 3 (Operand.tmp 52) (Operand.const (Value.int IntKind.i64 5)) 3, some (49, true), 0⟩,
 ⟨some 54, .pick (Operand.tmp 49) (Operand.tmp 53) (Operand.const (Value.bool false)), none, 0⟩,
 ⟨some 0, .assign (Operand.tmp 54), none, 0⟩])
 .ret)))))
abbrev R7 : List ResultVar := [ResultVar.tmp 0]
theorem ok7 : FnOK Tryd.prog 7 L7 R7 0 := ⟨_, _, Tryd.func7, rfl, by kernel_rfl, by kernel_rfl, by kernel_rfl, by kernel_rfl, Nat.le_of_ble_eq_true (by kernel_rfl), by kernel_rfl⟩

/-- ablaut/token.Lower -/
def L10 : LCode :=
 (.seq
 (.ops [⟨some 2, .assign (Operand.const (Value.string ⟨#[]⟩)), none, 0⟩])
 (.seq
 (.ops [⟨some 6, .move (Operand.tmp 0), none, 0⟩,
 ⟨some 7, .convert 9 49 (Operand.tmp 6), none, 0⟩,
 ⟨some 3, .assign (Operand.tmp 7), none, 0⟩])
 (.seq
 (.seq
 (.ops [⟨some 8, .move (Operand.tmp 3), none, 0⟩,
 ⟨some 9, .call ⟨(Callee.builtin Builtin.len), [(Operand.tmp 8)].toArray, #[49]⟩, none, 0⟩,
 ⟨some 10, .move (Operand.const (Value.int IntKind.i64 0)), none, 0⟩])
 (.block 0
 (.loop
 (.seq
 (.ops [⟨some 11, .binOp BinOp.lss 3 (Operand.tmp 10) (Operand.tmp 9) 3, none, 0⟩])
 (.seq
 (.cond (Operand.tmp 11)
 .skip
 (.exit 0))
 (.seq
 (.block 1
 (.seq
 (.ops [⟨some 12, .move (Operand.tmp 10), none, 0⟩,
 ⟨some 13, .indexAddr 49 (Operand.tmp 8) (Operand.tmp 10), none, 0⟩,
 ⟨some 14, .load 5 (Operand.tmp 13), none, 0⟩,
 ⟨some 4, .assign (Operand.tmp 12), none, 0⟩,
 ⟨some 5, .assign (Operand.tmp 14), none, 0⟩])
 (.seq
 (.ops [⟨some 15, .move (Operand.tmp 5), none, 0⟩,
 ⟨some 16, .call ⟨(Callee.value (Operand.func 24)), [(Operand.tmp 15)].toArray, #[5]⟩, none, 0⟩])
 (.cond (Operand.tmp 16)
 (.ops [⟨some 17, .move (Operand.tmp 3), none, 0⟩,
 ⟨some 18, .move (Operand.tmp 4), none, 0⟩,
 ⟨some 19, .move (Operand.tmp 5), none, 0⟩,
 ⟨some 20, .binOp BinOp.add 5 (Operand.tmp 19) (Operand.const (Value.int IntKind.u8 32)) 5, none, 0⟩,
 ⟨some 21, .indexAddr 49 (Operand.tmp 17) (Operand.tmp 18), none, 0⟩,
 ⟨none, .store 5 (Operand.tmp 21) (Operand.tmp 20), none, 0⟩])
 .skip))))
 (.ops [⟨some 22, .binOp BinOp.add 3 (Operand.tmp 10) (Operand.const (Value.int IntKind.i64 1)) 3, none, 0⟩,
 ⟨some 10, .move (Operand.tmp 22), none, 0⟩])))))))
 (.seq
 (.ops [⟨some 23, .move (Operand.tmp 3), none, 0⟩,
 ⟨some 24, .convert 49 9 (Operand.tmp 23), none, 0⟩,
 ⟨some 2, .assign (Operand.tmp 24), none, 0⟩])
 .ret))))
abbrev R10 : List ResultVar := [ResultVar.tmp 2]
theorem ok10 : FnOK Tryd.prog 10 L10 R10 1 := ⟨_, _, Tryd.func10, rfl, by kernel_rfl, by kernel_rfl, by kernel_rfl, by kernel_rfl, Nat.le_of_ble_eq_true (by kernel_rfl), by kernel_rfl⟩

/-- ablaut/token.Unspell -/
def L16 : LCode :=
 (.seq
 (.ops [⟨some 2, .assign (Operand.const (Value.int IntKind.i64 0)), none, 0⟩,
 ⟨some 3, .assign (Operand.const (Value.bool false)), none, 0⟩])
 (.seq
 (.ops [⟨some 8, .move (Operand.tmp 0), none, 0⟩,
 ⟨some 9, .call ⟨(Callee.value (Operand.func 31)), [(Operand.tmp 8)].toArray, #[9]⟩, none, 0⟩,
 ⟨some 4, .assign (Operand.tmp 9), none, 0⟩])
 (.seq
 (.seq
 (.ops [⟨some 11, .move (Operand.tmp 0), none, 0⟩,
 ⟨some 12, .call ⟨(Callee.value (Operand.func 20)), [(Operand.tmp 11), (Operand.const (Value.string ⟨#[32, 116, 104, 111, 117, 115, 97, 110, 100]⟩))].toArray, #[9, 9]⟩, none, 0⟩,
 ⟨some 10, .move (Operand.tmp 12), none, 0⟩,
 ⟨some 13, .extract (Operand.tmp 10) 0, none, 0⟩,
 ⟨some 14, .extract (Operand.tmp 10) 1, none, 0⟩,
 ⟨some 15, .extract (Operand.tmp 10) 2, none, 0⟩,
 ⟨some 5, .assign (Operand.tmp 13), none, 0⟩,
 ⟨some 6, .assign (Operand.tmp 14), none, 0⟩,
 ⟨some 7, .assign (Operand.tmp 15), none, 0⟩])
 (.seq
 (.ops [⟨some 16, .move (Operand.tmp 7), none, 0⟩])
 (.cond (Operand.tmp 16)
 (.seq
 (.ops [⟨some 17, .move (Operand.tmp 5), none, 0⟩,
 ⟨some 18, .call ⟨(Callee.value (Operand.func 31)), [(Operand.tmp 17)].toArray, #[9]⟩, none, 0⟩,
 ⟨some 19, .binOp BinOp.mul 3 (Operand.const (Value.int IntKind.i64 1000)) (Operand.tmp 18) 3, none, 0⟩,
 ⟨some 4, .assign (Operand.tmp 19), none, 0⟩])
 (.seq
 (.ops [⟨some 20, .move (Operand.tmp 6), none, 0⟩,
 ⟨some 21, .call ⟨(Callee.value (Operand.func 32)), [(Operand.tmp 20), (Operand.const (Value.string ⟨#[32]⟩))].toArray, #[9, 9]⟩, none, 0⟩,
 ⟨some 22, .call ⟨(Callee.value (Operand.func 32)), [(Operand.tmp 21), (Operand.const (Value.string ⟨#[97, 110, 100, 32]⟩))].toArray, #[9, 9]⟩, none, 0⟩,
 ⟨some 6, .assign (Operand.tmp 22), none, 0⟩])
 (.seq
 (.ops [⟨some 23, .move (Operand.tmp 6), none, 0⟩,
 ⟨some 24, .binOp BinOp.neq 9 (Operand.tmp 23) (Operand.const (Value.string ⟨#[]⟩)) 9, none, 0⟩])
 (.cond (Operand.tmp 24)
 (.ops [⟨some 25, .move (Operand.tmp 4), none, 0⟩,
 ⟨some 26, .move (Operand.tmp 6), none, 0⟩,
 ⟨some 27, .call ⟨(Callee.value (Operand.func 31)), [(Operand.tmp 26)].toArray, #[9]⟩, none, 0⟩,
 ⟨some 28, .call ⟨(Callee.builtin Builtin.max), [(Operand.const (Value.int IntKind.i64 0)), (Operand.tmp 27)].toArray, #[3, 3]⟩, none, 0⟩,
 ⟨some 29, .binOp BinOp.add 3 (Operand.tmp 25) (Operand.tmp 28) 3, none, 0⟩,
 ⟨some 4, .assign (Operand.tmp 29), none, 0⟩])
 .skip))))
 .skip)))
 (.seq
 (.seq
 (.ops [⟨some 30, .move (Operand.tmp 4), none, 0⟩,
 ⟨some 31, .binOp BinOp.lss 3 (Operand.tmp 30) (Operand.const (Value.int IntKind.i64 0)) 3, none, 0⟩,
 ⟨some 32, .move (Operand.tmp 31), none, 0⟩,
 ⟨some 33, .move (Operand.tmp 4), some (32, false), 0⟩,
 ⟨some 34, .binOp BinOp.gtr 3 (Operand.tmp 33) (Operand.const (Value.int IntKind.i64 999999)) 3, some (32, false), 0⟩,
 ⟨some 35, .pick (Operand.tmp 32) (Operand.const (Value.bool true)) (Operand.tmp 34), none, 0⟩,
 ⟨some 36, .move (Operand.tmp 35), none, 0⟩,
 ⟨some 37, .move (Operand.tmp 4), some (36, false), 0⟩,
 ⟨some 38, .call ⟨(Callee.value (Operand.func 29)), [(Operand.tmp 37)].toArray, #[3]⟩, some (36, false), 0⟩,
 ⟨some 39, .move (Operand.tmp 0), some (36, false), 0⟩,
 ⟨some 40, .binOp BinOp.neq 9 (Operand.tmp 38) (Operand.tmp 39) 9, some (36, false), 0⟩,
 ⟨some 41, .pick (Operand.tmp 36) (Operand.const (Value.bool true)) (Operand.tmp 40), none, 0⟩])
 (.cond (Operand.tmp 41)
 (.seq
 (.ops [⟨some 2, .assign (Operand.const (Value.int IntKind.i64 0)), none, 0⟩,
 ⟨some 3, .assign (Operand.const (Value.bool false)), none, 0⟩])
 .ret)
 .skip))
 (.seq
 (.ops [⟨some 42, .move (Operand.tmp 4), none, 0⟩,
 ⟨some 2, .assign (Operand.tmp 42), none, 0⟩,
 ⟨some 3, .assign (Operand.const (Value.bool true)), none, 0⟩])
 .ret)))))
abbrev R16 : List ResultVar := [ResultVar.tmp 2, ResultVar.tmp 3]
theorem ok16 : FnOK Tryd.prog 16 L16 R16 1 := ⟨_, _, Tryd.func16, rfl, by kernel_rfl, by kernel_rfl, by kernel_rfl, by kernel_rfl, Nat.le_of_ble_eq_true (by kernel_rfl), by kernel_rfl⟩

/-- ablaut/ablautref17.Unspell -/
def L17 : LCode :=
 (.seq
 (.ops [⟨some 2, .assign (Operand.const (Value.int IntKind.i64 0)), none, 0⟩,
 ⟨some 3, .assign (Operand.const (Value.bool false)), none, 0⟩])
 (.seq
 (.seq
 (.ops [⟨some 11, .move (Operand.tmp 0), none, 0⟩,
 ⟨some 12, .call ⟨(Callee.value (Operand.func 33)), [(Operand.tmp 11), (Operand.const (Value.int IntKind.i64 0)), (Operand.const (Value.int IntKind.i64 1000))].toArray, #[9, 3, 3]⟩, none, 0⟩,
 ⟨some 10, .move (Operand.tmp 12), none, 0⟩,
 ⟨some 13, .extract (Operand.tmp 10) 0, none, 0⟩,
 ⟨some 14, .extract (Operand.tmp 10) 1, none, 0⟩,
 ⟨some 4, .assign (Operand.tmp 13), none, 0⟩,
 ⟨some 5, .assign (Operand.tmp 14), none, 0⟩])
 (.seq
 (.ops [⟨some 15, .move (Operand.tmp 5), none, 0⟩,
 ⟨some 16, .move (Operand.tmp 0), none, 0⟩,
 ⟨some 17, .call ⟨(Callee.builtin Builtin.len), [(Operand.tmp 16)].toArray, #[9]⟩, none, 0⟩,
 ⟨some 18, .binOp BinOp.eql 3 (Operand.tmp 15) (Operand.tmp 17) 3, none, 0⟩])
 (.cond (Operand.tmp 18)
 (.seq
 (.ops [⟨some 19, .move (Operand.tmp 4), none, 0⟩,
 ⟨some 2, .assign (Operand.tmp 19), none, 0⟩,
 ⟨some 3, .assign (Operand.const (Value.bool true)), none, 0⟩])
 .ret)
 .skip)))
 (.seq
 (.seq
 (.ops [⟨some 6, .assign (Operand.const (Value.int IntKind.i64 1)), none, 0⟩])
 (.block 0
 (.loop
 (.seq
 (.seq
 (.ops [⟨some 20, .move (Operand.tmp 6), none, 0⟩,
 ⟨some 21, .binOp BinOp.lss 3 (Operand.tmp 20) (Operand.const (Value.int IntKind.i64 1000)) 3, none, 0⟩])
 (.cond (Operand.tmp 21)
 .skip
 (.exit 0)))
 (.seq
 (.block 1
 (.seq
 (.ops [⟨some 24, .move (Operand.tmp 6), none, 0⟩,
 ⟨some 25, .call ⟨(Callee.value (Operand.func 30)), [(Operand.tmp 24)].toArray, #[3]⟩, none, 0⟩,
 ⟨some 26, .binOp BinOp.add 9 (Operand.tmp 25) (Operand.const (Value.string ⟨#[32, 116, 104, 111, 117, 115, 97, 110, 100]⟩)) 9, none, 0⟩,
 ⟨some 7, .assign (Operand.tmp 26), none, 0⟩])
 (.seq
 (.seq
 (.ops [⟨some 27, .move (Operand.tmp 7), none, 0⟩,
 ⟨some 28, .call ⟨(Callee.builtin Builtin.len), [(Operand.tmp 27)].toArray, #[9]⟩, none, 0⟩,
 ⟨some 29, .move (Operand.tmp 0), none, 0⟩,
 ⟨some 30, .call ⟨(Callee.builtin Builtin.len), [(Operand.tmp 29)].toArray, #[9]⟩, none, 0⟩,
 ⟨some 31, .binOp BinOp.gtr 3 (Operand.tmp 28) (Operand.tmp 30) 3, none, 0⟩,
 ⟨some 32, .move (Operand.tmp 31), none, 0⟩,
 ⟨some 33, .move (Operand.tmp 0), some (32, false), 0⟩,
 ⟨some 34, .move (Operand.tmp 7), some (32, false), 0⟩,
 ⟨some 35, .call ⟨(Callee.builtin Builtin.len), [(Operand.tmp 34)].toArray, #[9]⟩, some (32, false), 0⟩,
 ⟨some 36, .slice 9 (Operand.tmp 33) none (some (Operand.tmp 35)) none, some (32, false), 0⟩,
 ⟨some 37, .move (Operand.tmp 7), some (32, false), 0⟩,
 ⟨some 38, .binOp BinOp.neq 9 (Operand.tmp 36) (Operand.tmp 37) 9, some (32, false), 0⟩,
 ⟨some 39, .pick (Operand.tmp 32) (Operand.const (Value.bool true)) (Operand.tmp 38), none, 0⟩])
 (.cond (Operand.tmp 39)
 (.exit 1)
 .skip))
 (.seq
 (.ops [⟨some 40, .move (Operand.tmp 0), none, 0⟩,
 ⟨some 41, .move (Operand.tmp 7), none, 0⟩,
 ⟨some 42, .call ⟨(Callee.builtin Builtin.len), [(Operand.tmp 41)].toArray, #[9]⟩, none, 0⟩,
 ⟨some 43, .slice 9 (Operand.tmp 40) (some (Operand.tmp 42)) none none, none, 0⟩,
 ⟨some 8, .assign (Operand.tmp 43), none, 0⟩])
 (.seq
 (.seq
 (.ops [⟨some 44, .move (Operand.tmp 8), none, 0⟩,
 ⟨some 45, .binOp BinOp.eql 9 (Operand.tmp 44) (Operand.const (Value.string ⟨#[]⟩)) 9, none, 0⟩])
 (.cond (Operand.tmp 45)
 (.seq
 (.ops [⟨some 46, .move (Operand.tmp 6), none, 0⟩,
 ⟨some 47, .binOp BinOp.mul 3 (Operand.const (Value.int IntKind.i64 1000)) (Operand.tmp 46) 3, none, 0⟩,
 ⟨some 2, .assign (Operand.tmp 47), none, 0⟩,
 ⟨some 3, .assign (Operand.const (Value.bool true)), none, 0⟩])
 .ret)
 .skip))
 (.seq
 (.ops [⟨some 9, .assign (Operand.const (Value.int IntKind.i64 1)), none, 0⟩])
 (.block 2
 (.loop
 (.seq
 (.seq
 (.ops [⟨some 48, .move (Operand.tmp 9), none, 0⟩,
 ⟨some 49, .binOp BinOp.lss 3 (Operand.tmp 48) (Operand.const (Value.int IntKind.i64 1000)) 3, none, 0⟩])
 (.cond (Operand.tmp 49)
 .skip
 (.exit 2)))
 (.seq
 (.block 3
 (.seq
 (.ops [⟨some 52, .move (Operand.tmp 6), none, 0⟩,
 ⟨some 53, .binOp BinOp.mul 3 (Operand.const (Value.int IntKind.i64 1000)) (Operand.tmp 52) 3, none, 0⟩,
 ⟨some 54, .move (Operand.tmp 9), none, 0⟩,
 ⟨some 55, .binOp BinOp.add 3 (Operand.tmp 53) (Operand.tmp 54) 3, none, 0⟩,
 ⟨some 56, .call ⟨(Callee.value (Operand.func 30)), [(Operand.tmp 55)].toArray, #[3]⟩, none, 0⟩,
 ⟨some 57, .move (Operand.tmp 0), none, 0⟩,
 ⟨some 58, .binOp BinOp.eql 9 (Operand.tmp 56) (Operand.tmp 57) 9, none, 0⟩])
 (.cond (Operand.tmp 58)
 (.seq
 (.ops [⟨some 59, .move (Operand.tmp 6), none, 0⟩,
 ⟨some 60, .binOp BinOp.mul 3 (Operand.const (Value.int IntKind.i64 1000)) (Operand.tmp 59) 3, none, 0⟩,
 ⟨some 61, .move (Operand.tmp 9), none, 0⟩,
 ⟨some 62, .binOp BinOp.add 3 (Operand.tmp 60) (Operand.tmp 61) 3, none, 0⟩,
 ⟨some 2, .assign (Operand.tmp 62), none, 0⟩,
 ⟨some 3, .assign (Operand.const (Value.bool true)), none, 0⟩])
 .ret)
 .skip)))
 (.ops [⟨some 50, .move (Operand.tmp 9), none, 0⟩,
 ⟨some 51, .binOp BinOp.add 3 (Operand.tmp 50) (Operand.const (Value.int IntKind.i64 1)) 3, none, 0⟩,
 ⟨some 9, .assign (Operand.tmp 51), none, 0⟩])))))))))))
 (.ops [⟨some 22, .move (Operand.tmp 6), none, 0⟩,
 ⟨some 23, .binOp BinOp.add 3 (Operand.tmp 22) (Operand.const (Value.int IntKind.i64 1)) 3, none, 0⟩,
 ⟨some 6, .assign (Operand.tmp 23), none, 0⟩]))))))
 (.seq
 (.ops [⟨some 2, .assign (Operand.const (Value.int IntKind.i64 0)), none, 0⟩,
 ⟨some 3, .assign (Operand.const (Value.bool false)), none, 0⟩])
 .ret))))
abbrev R17 : List ResultVar := [ResultVar.tmp 2, ResultVar.tmp 3]
theorem ok17 : FnOK Tryd.prog 17 L17 R17 1 := ⟨_, _, Tryd.func17, rfl, by kernel_rfl, by kernel_rfl, by kernel_rfl, by kernel_rfl, Nat.le_of_ble_eq_true (by kernel_rfl), by kernel_rfl⟩

/-- ablaut/token.Tokens -/
def L18 : LCode :=
 (.seq
 (.ops [⟨some 2, .box 36 (Operand.tmp 0), none, 0⟩,
 ⟨some 4, .assign (Operand.const (Value.slice none 0 0)), none, 0⟩,
 ⟨some 5, .assign (Operand.const (Value.int IntKind.i64 0)), none, 0⟩])
 (.seq
 (.seq
 (.ops [⟨some 16, .load 36 (Operand.tmp 2), none, 0⟩,
 ⟨some 17, .call ⟨(Callee.value (Operand.func 34)), [(Operand.tmp 16)].toArray, #[36]⟩, none, 0⟩,
 ⟨some 6, .assign (Operand.tmp 17), none, 0⟩])
 (.seq
 (.ops [⟨some 18, .move (Operand.tmp 6), none, 0⟩,
 ⟨some 19, .binOp BinOp.neq 27 (Operand.tmp 18) (Operand.const (Value.int IntKind.i64 0)) 27, none, 0⟩])
 (.cond (Operand.tmp 19)
 (.seq
 (.ops [⟨some 20, .move (Operand.tmp 6), none, 0⟩,
 ⟨some 4, .assign (Operand.const (Value.slice none 0 0)), none, 0⟩,
 ⟨some 5, .assign (Operand.tmp 20), none, 0⟩])
 .ret)
 .skip)))
 (.seq
 (.seq
 (.ops [⟨some 21, .move (Operand.tmp 1), none, 0⟩,
 ⟨some 22, .call ⟨(Callee.builtin Builtin.len), [(Operand.tmp 21)].toArray, #[9]⟩, none, 0⟩,
 ⟨some 23, .binOp BinOp.gtr 3 (Operand.tmp 22) (Operand.const (Value.int IntKind.i64 6000)) 3, none, 0⟩])
 (.cond (Operand.tmp 23)
 (.seq
 (.ops [⟨some 4, .assign (Operand.const (Value.slice none 0 0)), none, 0⟩,
 ⟨some 5, .assign (Operand.const (Value.int IntKind.i64 3)), none, 0⟩])
 .ret)
 .skip))
 (.seq
 (.ops [⟨some 24, .fieldAddr 36 (Operand.tmp 2) 0, none, 0⟩,
 ⟨some 25, .load 34 (Operand.tmp 24), none, 0⟩,
 ⟨some 26, .makeInterface 56 (Operand.tmp 25), none, 0⟩,
 ⟨some 27, .fieldAddr 36 (Operand.tmp 2) 1, none, 0⟩,
 ⟨some 28, .load 34 (Operand.tmp 27), none, 0⟩,
 ⟨some 29, .makeInterface 56 (Operand.tmp 28), none, 0⟩,
 ⟨some 30, .build 58 [].toArray, none, 0⟩,
 ⟨some 31, .makeInterface 58 (Operand.tmp 30), none, 0⟩,
 ⟨some 32, .build 59 [].toArray, none, 0⟩,
 ⟨some 33, .makeInterface 59 (Operand.tmp 32), none, 0⟩,
 ⟨some 34, .build 60 [].toArray, none, 0⟩,
 ⟨some 35, .makeInterface 60 (Operand.tmp 34), none, 0⟩,
 ⟨some 36, .buildSlice 61 5 [(0, (Operand.tmp 26)), (1, (Operand.tmp 29)), (2, (Operand.tmp 31)), (3, (Operand.tmp 33)), (4, (Operand.tmp 35))].toArray, none, 0⟩,
 ⟨some 7, .assign (Operand.tmp 36), none, 0⟩])
 (.seq
 (.ops [⟨some 8, .assign (Operand.const (Value.slice none 0 0)), none, 0⟩])
 (.seq
 .skip
 (.seq
 (.seq
 (.ops [⟨some 9, .assign (Operand.const (Value.int IntKind.i64 0)), none, 0⟩])
 (.block 0
 (.loop
 (.seq
 (.seq
 (.ops [⟨some 37, .move (Operand.tmp 9), none, 0⟩,
 ⟨some 38, .move (Operand.tmp 1), none, 0⟩,
 ⟨some 39, .call ⟨(Callee.builtin Builtin.len), [(Operand.tmp 38)].toArray, #[9]⟩, none, 0⟩,
 ⟨some 40, .binOp BinOp.lss 3 (Operand.tmp 37) (Operand.tmp 39) 3, none, 0⟩])
 (.cond (Operand.tmp 40)
 .skip
 (.exit 0)))
 (.block 1
 (.seq
 (.seq
 (.ops [⟨some 41, .move (Operand.tmp 1), none, 0⟩,
 ⟨some 42, .move (Operand.tmp 9), none, 0⟩,
 ⟨some 43, .index 9 (Operand.tmp 41) (Operand.tmp 42), none, 0⟩,
 ⟨some 44, .call ⟨(Callee.value (Operand.func 35)), [(Operand.tmp 43)].toArray, #[5]⟩, none, 0⟩])
 (.cond (Operand.tmp 44)
 (.seq
 (.ops [⟨some 45, .move (Operand.tmp 9), none, 0⟩,
 ⟨some 46, .binOp BinOp.add 3 (Operand.tmp 45) (Operand.const (Value.int IntKind.i64 1)) 3, none, 0⟩,
 ⟨some 9, .assign (Operand.tmp 46), none, 0⟩])
 (.exit 1))
 .skip))
 (.seq
 (.ops [⟨some 47, .build 60 [].toArray, none, 0⟩,
 ⟨some 48, .makeInterface 60 (Operand.tmp 47), none, 0⟩,
 ⟨some 10, .assign (Operand.tmp 48), none, 0⟩,
 ⟨some 11, .assign (Operand.const (Value.int IntKind.i64 0)), none, 0⟩])
 (.seq
 (.seq
 (.ops [⟨some 49, .move (Operand.tmp 7), none, 0⟩,
 ⟨some 50, .call ⟨(Callee.builtin Builtin.len), [(Operand.tmp 49)].toArray, #[61]⟩, none, 0⟩,
 ⟨some 51, .move (Operand.const (Value.int IntKind.i64 0)), none, 0⟩])
 (.block 2
 (.loop
 (.seq
 (.ops [⟨some 52, .binOp BinOp.lss 3 (Operand.tmp 51) (Operand.tmp 50) 3, none, 0⟩])
 (.seq
 (.cond (Operand.tmp 52)
 .skip
 (.exit 2))
 (.seq
 (.block 3
 (.seq
 (.ops [⟨some 53, .indexAddr 61 (Operand.tmp 49) (Operand.tmp 51), none, 0⟩,
 ⟨some 54, .load 63 (Operand.tmp 53), none, 0⟩,
 ⟨some 13, .assign (Operand.tmp 54), none, 0⟩])
 (.seq
 (.draw [⟨some 55, .move (Operand.tmp 13), none, 0⟩,
 ⟨some 56, .move (Operand.tmp 1), none, 0⟩,
 ⟨some 57, .move (Operand.tmp 9), none, 0⟩,
 ⟨some 58, .slice 9 (Operand.tmp 56) (some (Operand.tmp 57)) none none, none, 0⟩,
 ⟨some 59, .makeFunc (Fn.method "ablaut/token.length") #[(Operand.tmp 55)] [].toArray, none, 0⟩,
 ⟨some 60, .nilCheck (Operand.tmp 59), none, 0⟩,
 ⟨some 61, .move (Operand.tmp 55), none, 0⟩,
 ⟨some 62, .call ⟨(Callee.invoke (Operand.tmp 61) "ablaut/token.length"), [(Operand.tmp 58)].toArray, #[9]⟩, none, 0⟩,
 ⟨some 14, .assign (Operand.tmp 62), none, 0⟩] true [7, 8] [0, 1, 2, 4, 5, 6, 3, 7, 8])
 (.seq
 (.ops [⟨some 63, .move (Operand.tmp 14), none, 0⟩,
 ⟨some 64, .move (Operand.tmp 11), none, 0⟩,
 ⟨some 65, .binOp BinOp.gtr 3 (Operand.tmp 63) (Operand.tmp 64) 3, none, 0⟩])
 (.cond (Operand.tmp 65)
 (.ops [⟨some 66, .move (Operand.tmp 13), none, 0⟩,
 ⟨some 67, .move (Operand.tmp 14), none, 0⟩,
 ⟨some 10, .assign (Operand.tmp 66), none, 0⟩,
 ⟨some 11, .assign (Operand.tmp 67), none, 0⟩])
 .skip)))))
 (.ops [⟨some 68, .binOp BinOp.add 3 (Operand.tmp 51) (Operand.const (Value.int IntKind.i64 1)) 3, none, 0⟩,
 ⟨some 51, .move (Operand.tmp 68), none, 0⟩])))))))
 (.seq
 (.seq
 (.ops [⟨some 69, .move (Operand.tmp 10), none, 0⟩,
 ⟨some 70, .call ⟨(Callee.value (Operand.func 36)), [(Operand.tmp 69)].toArray, #[63]⟩, none, 0⟩,
 ⟨some 15, .assign (Operand.tmp 70), none, 0⟩])
 (.seq
 (.ops [⟨some 71, .move (Operand.tmp 15), none, 0⟩,
 ⟨some 72, .binOp BinOp.eql 3 (Operand.tmp 71) (Operand.const (Value.int IntKind.i64 0)) 3, none, 0⟩])
 (.cond (Operand.tmp 72)
 (.draw [⟨some 73, .move (Operand.tmp 8), none, 0⟩,
 ⟨some 74, .load 36 (Operand.tmp 2), none, 0⟩,
 ⟨some 75, .move (Operand.tmp 9), none, 0⟩,
 ⟨some 76, .move (Operand.tmp 1), none, 0⟩,
 ⟨some 77, .move (Operand.tmp 9), none, 0⟩,
 ⟨some 78, .move (Operand.tmp 9), none, 0⟩,
 ⟨some 79, .move (Operand.tmp 11), none, 0⟩,
 ⟨some 80, .binOp BinOp.add 3 (Operand.tmp 78) (Operand.tmp 79) 3, none, 0⟩,
 ⟨some 81, .slice 9 (Operand.tmp 76) (some (Operand.tmp 77)) (some (Operand.tmp 80)) none, none, 0⟩,
 ⟨some 82, .call ⟨(Callee.value (Operand.func 37)), [(Operand.tmp 74), (Operand.tmp 75), (Operand.tmp 81)].toArray, #[36, 3, 9]⟩, none, 0⟩,
 ⟨some 83, .call ⟨(Callee.builtin Builtin.append), [(Operand.tmp 73), (Operand.tmp 82)].toArray, #[37, 37]⟩, none, 0⟩,
 ⟨some 8, .assign (Operand.tmp 83), none, 0⟩] true [10, 11] [])
 (.ops [⟨some 84, .move (Operand.tmp 8), none, 0⟩,
 ⟨some 85, .move (Operand.tmp 9), none, 0⟩,
 ⟨some 86, .move (Operand.tmp 9), none, 0⟩,
 ⟨some 87, .move (Operand.tmp 11), none, 0⟩,
 ⟨some 88, .binOp BinOp.add 3 (Operand.tmp 86) (Operand.tmp 87) 3, none, 0⟩,
 ⟨some 89, .move (Operand.tmp 15), none, 0⟩,
 ⟨some 90, .move (Operand.tmp 1), none, 0⟩,
 ⟨some 91, .move (Operand.tmp 9), none, 0⟩,
 ⟨some 92, .move (Operand.tmp 9), none, 0⟩,
 ⟨some 93, .move (Operand.tmp 11), none, 0⟩,
 ⟨some 94, .binOp BinOp.add 3 (Operand.tmp 92) (Operand.tmp 93) 3, none, 0⟩,
 ⟨some 95, .slice 9 (Operand.tmp 90) (some (Operand.tmp 91)) (some (Operand.tmp 94)) none, none, 0⟩,
 ⟨some 96, .build 44 [(0, (Operand.tmp 85)), (1, (Operand.tmp 88)), (2, (Operand.tmp 89)), (3, (Operand.tmp 95))].toArray, none, 0⟩,
 ⟨some 97, .buildSlice 37 1 [(0, (Operand.tmp 96))].toArray, none, 0⟩,
 ⟨some 98, .call ⟨(Callee.builtin Builtin.append), [(Operand.tmp 84), (Operand.tmp 97)].toArray, #[37, 37]⟩, none, 0⟩,
 ⟨some 8, .assign (Operand.tmp 98), none, 0⟩]))))
 (.seq
 (.ops [⟨some 99, .move (Operand.tmp 9), none, 0⟩,
 ⟨some 100, .move (Operand.tmp 11), none, 0⟩,
 ⟨some 101, .binOp BinOp.add 3 (Operand.tmp 99) (Operand.tmp 100) 3, none, 0⟩,
 ⟨some 9, .assign (Operand.tmp 101), none, 0⟩])
 (.seq
 (.ops [⟨some 102, .move (Operand.tmp 8), none, 0⟩,
 ⟨some 103, .call ⟨(Callee.builtin Builtin.len), [(Operand.tmp 102)].toArray, #[37]⟩, none, 0⟩,
 ⟨some 104, .binOp BinOp.gtr 3 (Operand.tmp 103) (Operand.const (Value.int IntKind.i64 200)) 3, none, 0⟩])
 (.cond (Operand.tmp 104)
 (.seq
 (.ops [⟨some 4, .assign (Operand.const (Value.slice none 0 0)), none, 0⟩,
 ⟨some 5, .assign (Operand.const (Value.int IntKind.i64 3)), none, 0⟩])
 .ret)
 .skip))))))))))))
 (.seq
 (.ops [⟨some 105, .move (Operand.tmp 8), none, 0⟩,
 ⟨some 4, .assign (Operand.tmp 105), none, 0⟩,
 ⟨some 5, .assign (Operand.const (Value.int IntKind.i64 0)), none, 0⟩])
 .ret))))))))
abbrev R18 : List ResultVar := [ResultVar.tmp 4, ResultVar.tmp 5]
theorem ok18 : FnOK Tryd.prog 18 L18 R18 2 := ⟨_, _, Tryd.func18, rfl, by kernel_rfl, by kernel_rfl, by kernel_rfl, by kernel_rfl, Nat.le_of_ble_eq_true (by kernel_rfl), by kernel_rfl⟩

/-- ablaut/token.Sentences -/
def L19 : LCode :=
 (.seq
 (.ops [⟨some 2, .box 36 (Operand.tmp 0), none, 0⟩,
 ⟨some 4, .assign (Operand.const (Value.slice none 0 0)), none, 0⟩,
 ⟨some 5, .assign (Operand.const (Value.int IntKind.i64 0)), none, 0⟩])
 (.seq
 (.ops [⟨some 9, .load 36 (Operand.tmp 2), none, 0⟩,
 ⟨some 10, .move (Operand.tmp 1), none, 0⟩,
 ⟨some 11, .call ⟨(Callee.value (Operand.func 18)), [(Operand.tmp 9), (Operand.tmp 10)].toArray, #[36, 9]⟩, none, 0⟩,
 ⟨some 8, .move (Operand.tmp 11), none, 0⟩,
 ⟨some 12, .extract (Operand.tmp 8) 0, none, 0⟩,
 ⟨some 13, .extract (Operand.tmp 8) 1, none, 0⟩,
 ⟨some 6, .assign (Operand.tmp 12), none, 0⟩,
 ⟨some 7, .assign (Operand.tmp 13), none, 0⟩])
 (.seq
 (.seq
 (.ops [⟨some 14, .move (Operand.tmp 7), none, 0⟩,
 ⟨some 15, .binOp BinOp.neq 27 (Operand.tmp 14) (Operand.const (Value.int IntKind.i64 0)) 27, none, 0⟩])
 (.cond (Operand.tmp 15)
 (.seq
 (.ops [⟨some 16, .move (Operand.tmp 7), none, 0⟩,
 ⟨some 4, .assign (Operand.const (Value.slice none 0 0)), none, 0⟩,
 ⟨some 5, .assign (Operand.tmp 16), none, 0⟩])
 .ret)
 .skip))
 (.seq
 (.ops [⟨some 17, .move (Operand.tmp 6), none, 0⟩,
 ⟨some 18, .call ⟨(Callee.value (Operand.func 38)), [(Operand.tmp 17)].toArray, #[37]⟩, none, 0⟩,
 ⟨some 4, .assign (Operand.tmp 18), none, 0⟩,
 ⟨some 5, .assign (Operand.const (Value.int IntKind.i64 0)), none, 0⟩])
 .ret))))
abbrev R19 : List ResultVar := [ResultVar.tmp 4, ResultVar.tmp 5]
theorem ok19 : FnOK Tryd.prog 19 L19 R19 2 := ⟨_, _, Tryd.func19, rfl, by kernel_rfl, by kernel_rfl, by kernel_rfl, by kernel_rfl, Nat.le_of_ble_eq_true (by kernel_rfl), by kernel_rfl⟩

/-- ablaut/token.isBig -/
def L24 : LCode :=
 (.seq
 (.ops [⟨some 2, .assign (Operand.const (Value.bool false)), none, 0⟩])
 (.seq
 (.ops [⟨some 3, .move (Operand.tmp 0), none, 0⟩,
 ⟨some 4, .binOp BinOp.geq 5 (Operand.tmp 3) (Operand.const (Value.int IntKind.u8 65)) 5, none, 0⟩,
 ⟨some 5, .move (Operand.tmp 4), none, 0⟩,
 ⟨some 6, .move (Operand.tmp 0), some (5, true), 0⟩,
 ⟨some 7, .binOp BinOp.leq 5 (Operand.tmp 6) (Operand.const (Value.int IntKind.u8 90)) 5, some (5, true), 0⟩,
 ⟨some 8, .pick (Operand.tmp 5) (Operand.tmp 7) (Operand.const (Value.bool false)), none, 0⟩,
 ⟨some 2, .assign (Operand.tmp 8), none, 0⟩])
 .ret))
abbrev R24 : List ResultVar := [ResultVar.tmp 2]
theorem ok24 : FnOK Tryd.prog 24 L24 R24 1 := ⟨_, _, Tryd.func24, rfl, by kernel_rfl, by kernel_rfl, by kernel_rfl, by kernel_rfl, Nat.le_of_ble_eq_true (by kernel_rfl), by kernel_rfl⟩

/-- ablaut/token.isLetter -/
def L26 : LCode :=
 (.seq
 (.ops [⟨some 2, .assign (Operand.const (Value.bool false)), none, 0⟩])
 (.seq
 (.ops [⟨some 3, .move (Operand.tmp 0), none, 0⟩,
 ⟨some 4, .call ⟨(Callee.value (Operand.func 24)), [(Operand.tmp 3)].toArray, #[5]⟩, none, 0⟩,
 ⟨some 5, .move (Operand.tmp 4), none, 0⟩,
 ⟨some 6, .move (Operand.tmp 0), some (5, false), 0⟩,
 ⟨some 7, .call ⟨(Callee.value (Operand.func 42)), [(Operand.tmp 6)].toArray, #[5]⟩, some (5, false), 0⟩,
 ⟨some 8, .pick (Operand.tmp 5) (Operand.const (Value.bool true)) (Operand.tmp 7), none, 0⟩,
 ⟨some 9, .move (Operand.tmp 8), none, 0⟩,
 ⟨some 10, .move (Operand.tmp 0), some (9, false), 0⟩,
 ⟨some 11, .binOp BinOp.gtr 5 (Operand.tmp 10) (Operand.const (Value.int IntKind.u8 127)) 5, some (9, false), 0⟩,
 ⟨some 12, .pick (Operand.tmp 9) (Operand.const (Value.bool true)) (Operand.tmp 11), none, 0⟩,
 ⟨some 2, .assign (Operand.tmp 12), none, 0⟩])
 .ret))
abbrev R26 : List ResultVar := [ResultVar.tmp 2]
theorem ok26 : FnOK Tryd.prog 26 L26 R26 1 := ⟨_, _, Tryd.func26, rfl, by kernel_rfl, by kernel_rfl, by kernel_rfl, by kernel_rfl, Nat.le_of_ble_eq_true (by kernel_rfl), by kernel_rfl⟩

/-- ablaut/token.isDigit -/
def L27 : LCode :=
 (.seq
 (.ops [⟨some 2, .assign (Operand.const (Value.bool false)), none, 0⟩])
 (.seq
 (.ops [⟨some 3, .move (Operand.tmp 0), none, 0⟩,
 ⟨some 4, .binOp BinOp.geq 5 (Operand.tmp 3) (Operand.const (Value.int IntKind.u8 48)) 5, none, 0⟩,
 ⟨some 5, .move (Operand.tmp 4), none, 0⟩,
 ⟨some 6, .move (Operand.tmp 0), some (5, true), 0⟩,
 ⟨some 7, .binOp BinOp.leq 5 (Operand.tmp 6) (Operand.const (Value.int IntKind.u8 57)) 5, some (5, true), 0⟩,
 ⟨some 8, .pick (Operand.tmp 5) (Operand.tmp 7) (Operand.const (Value.bool false)), none, 0⟩,
 ⟨some 2, .assign (Operand.tmp 8), none, 0⟩])
 .ret))
abbrev R27 : List ResultVar := [ResultVar.tmp 2]
theorem ok27 : FnOK Tryd.prog 27 L27 R27 1 := ⟨_, _, Tryd.func27, rfl, by kernel_rfl, by kernel_rfl, by kernel_rfl, by kernel_rfl, Nat.le_of_ble_eq_true (by kernel_rfl), by kernel_rfl⟩

end Go.Proofs.YtapkbkniooleaaaDoor.Vs
