/- The seat's functions as the engine Dm reads them, written by dgen.py. -/
import Derived.Test.YtldlcejlfaogbaaGreatDoorDmFn
import Derived.Test.YtldlcejlfaogbaaGreatDoorProg
import Derived.KernelRfl
namespace Go.Proofs.YtldlcejlfaogbaaGreatDoor.Vs
set_option linter.unusedVariables false
set_option maxRecDepth 100000
/-- strings.Join -/
def L99 : LCode :=
 (.seq
 (.ops [⟨some 4, .assign (Operand.const (Value.string ⟨#[]⟩)), none, 0⟩])
 (.seq
 (.seq
 (.ops [⟨some 11, .move (Operand.tmp 0), none, 0⟩,
 ⟨some 12, .call ⟨(Callee.builtin Builtin.len), [(Operand.tmp 11)].toArray, #[23]⟩, none, 0⟩])
 (.block 0
 (.seq
 (.ops [⟨some 14, .binOp BinOp.eql 3 (Operand.tmp 12) (Operand.const (Value.int IntKind.i64 0)) 3, none, 0⟩,
 ⟨some 13, .assign (Operand.tmp 14), none, 0⟩])
 (.cond (Operand.tmp 13)
 (.seq
 (.ops [⟨some 4, .assign (Operand.const (Value.string ⟨#[]⟩)), none, 0⟩])
 .ret)
 (.seq
 (.ops [⟨some 16, .binOp BinOp.eql 3 (Operand.tmp 12) (Operand.const (Value.int IntKind.i64 1)) 3, none, 0⟩,
 ⟨some 15, .assign (Operand.tmp 16), none, 0⟩])
 (.cond (Operand.tmp 15)
 (.seq
 (.ops [⟨some 17, .move (Operand.tmp 0), none, 0⟩,
 ⟨some 18, .indexAddr 23 (Operand.tmp 17) (Operand.const (Value.int IntKind.i64 0)), none, 0⟩,
 ⟨some 19, .load 9 (Operand.tmp 18), none, 0⟩,
 ⟨some 4, .assign (Operand.tmp 19), none, 0⟩])
 .ret)
 .skip))))))
 (.seq
 (.ops [⟨some 5, .assign (Operand.const (Value.int IntKind.i64 0)), none, 0⟩])
 (.seq
 (.seq
 (.ops [⟨some 20, .move (Operand.tmp 1), none, 0⟩,
 ⟨some 21, .call ⟨(Callee.builtin Builtin.len), [(Operand.tmp 20)].toArray, #[9]⟩, none, 0⟩,
 ⟨some 22, .binOp BinOp.gtr 3 (Operand.tmp 21) (Operand.const (Value.int IntKind.i64 0)) 3, none, 0⟩])
 (.cond (Operand.tmp 22)
 (.seq
 (.seq
 (.ops [⟨some 23, .move (Operand.tmp 1), none, 0⟩,
 ⟨some 24, .call ⟨(Callee.builtin Builtin.len), [(Operand.tmp 23)].toArray, #[9]⟩, none, 0⟩,
 ⟨some 25, .move (Operand.tmp 0), none, 0⟩,
 ⟨some 26, .call ⟨(Callee.builtin Builtin.len), [(Operand.tmp 25)].toArray, #[23]⟩, none, 0⟩,
 ⟨some 27, .binOp BinOp.sub 3 (Operand.tmp 26) (Operand.const (Value.int IntKind.i64 1)) 3, none, 0⟩,
 ⟨some 28, .binOp BinOp.quo 3 (Operand.const (Value.int IntKind.i64 9223372036854775807)) (Operand.tmp 27) 3, none, 0⟩,
 ⟨some 29, .binOp BinOp.geq 3 (Operand.tmp 24) (Operand.tmp 28) 3, none, 0⟩])
 (.cond (Operand.tmp 29)
 (.ops [⟨some 30, .makeInterface 9 (Operand.const (Value.string ⟨#[115, 116, 114, 105, 110, 103, 115, 58, 32, 74, 111, 105, 110, 32, 111, 117, 116, 112, 117, 116, 32, 108, 101, 110, 103, 116, 104, 32, 111, 118, 101, 114, 102, 108, 111, 119]⟩)), none, 0⟩,
 ⟨none, .panic (Operand.tmp 30), none, 0⟩])
 .skip))
 (.ops [⟨some 31, .move (Operand.tmp 5), none, 0⟩,
 ⟨some 32, .move (Operand.tmp 1), none, 0⟩,
 ⟨some 33, .call ⟨(Callee.builtin Builtin.len), [(Operand.tmp 32)].toArray, #[9]⟩, none, 0⟩,
 ⟨some 34, .move (Operand.tmp 0), none, 0⟩,
 ⟨some 35, .call ⟨(Callee.builtin Builtin.len), [(Operand.tmp 34)].toArray, #[23]⟩, none, 0⟩,
 ⟨some 36, .binOp BinOp.sub 3 (Operand.tmp 35) (Operand.const (Value.int IntKind.i64 1)) 3, none, 0⟩,
 ⟨some 37, .binOp BinOp.mul 3 (Operand.tmp 33) (Operand.tmp 36) 3, none, 0⟩,
 ⟨some 38, .binOp BinOp.add 3 (Operand.tmp 31) (Operand.tmp 37) 3, none, 0⟩,
 ⟨some 5, .assign (Operand.tmp 38), none, 0⟩]))
 .skip))
 (.seq
 (.seq
 (.ops [⟨some 39, .move (Operand.tmp 0), none, 0⟩,
 ⟨some 40, .call ⟨(Callee.builtin Builtin.len), [(Operand.tmp 39)].toArray, #[23]⟩, none, 0⟩,
 ⟨some 41, .move (Operand.const (Value.int IntKind.i64 0)), none, 0⟩])
 (.block 1
 (.loop
 (.seq
 (.ops [⟨some 42, .binOp BinOp.lss 3 (Operand.tmp 41) (Operand.tmp 40) 3, none, 0⟩])
 (.seq
 (.cond (Operand.tmp 42)
 .skip
 (.exit 1))
 (.seq
 (.block 2
 (.seq
 (.ops [⟨some 43, .indexAddr 23 (Operand.tmp 39) (Operand.tmp 41), none, 0⟩,
 ⟨some 44, .load 9 (Operand.tmp 43), none, 0⟩,
 ⟨some 7, .assign (Operand.tmp 44), none, 0⟩])
 (.seq
 (.seq
 (.ops [⟨some 45, .move (Operand.tmp 7), none, 0⟩,
 ⟨some 46, .call ⟨(Callee.builtin Builtin.len), [(Operand.tmp 45)].toArray, #[9]⟩, none, 0⟩,
 ⟨some 47, .move (Operand.tmp 5), none, 0⟩,
 ⟨some 48, .binOp BinOp.sub 3 (Operand.const (Value.int IntKind.i64 9223372036854775807)) (Operand.tmp 47) 3, none, 0⟩,
 ⟨some 49, .binOp BinOp.gtr 3 (Operand.tmp 46) (Operand.tmp 48) 3, none, 0⟩])
 (.cond (Operand.tmp 49)
 (.ops [⟨some 50, .makeInterface 9 (Operand.const (Value.string ⟨#[115, 116, 114, 105, 110, 103, 115, 58, 32, 74, 111, 105, 110, 32, 111, 117, 116, 112, 117, 116, 32, 108, 101, 110, 103, 116, 104, 32, 111, 118, 101, 114, 102, 108, 111, 119]⟩)), none, 0⟩,
 ⟨none, .panic (Operand.tmp 50), none, 0⟩])
 .skip))
 (.ops [⟨some 51, .move (Operand.tmp 5), none, 0⟩,
 ⟨some 52, .move (Operand.tmp 7), none, 0⟩,
 ⟨some 53, .call ⟨(Callee.builtin Builtin.len), [(Operand.tmp 52)].toArray, #[9]⟩, none, 0⟩,
 ⟨some 54, .binOp BinOp.add 3 (Operand.tmp 51) (Operand.tmp 53) 3, none, 0⟩,
 ⟨some 5, .assign (Operand.tmp 54), none, 0⟩]))))
 (.ops [⟨some 55, .binOp BinOp.add 3 (Operand.tmp 41) (Operand.const (Value.int IntKind.i64 1)) 3, none, 0⟩,
 ⟨some 41, .move (Operand.tmp 55), none, 0⟩])))))))
 (.seq
 (.ops [⟨some 8, .alloc 176, none, 0⟩])
 (.seq
 (.ops [⟨some 56, .move (Operand.tmp 5), none, 0⟩,
 ⟨some 57, .call ⟨(Callee.value (Operand.func 147)), [(Operand.tmp 8), (Operand.tmp 56)].toArray, #[176, 3]⟩, none, 0⟩])
 (.seq
 (.ops [⟨some 58, .move (Operand.tmp 0), none, 0⟩,
 ⟨some 59, .indexAddr 23 (Operand.tmp 58) (Operand.const (Value.int IntKind.i64 0)), none, 0⟩,
 ⟨some 60, .load 9 (Operand.tmp 59), none, 0⟩,
 ⟨some 61, .call ⟨(Callee.value (Operand.func 122)), [(Operand.tmp 8), (Operand.tmp 60)].toArray, #[176, 9]⟩, none, 0⟩])
 (.seq
 (.seq
 (.ops [⟨some 62, .move (Operand.tmp 0), none, 0⟩,
 ⟨some 63, .slice 23 (Operand.tmp 62) (some (Operand.const (Value.int IntKind.i64 1))) none none, none, 0⟩,
 ⟨some 64, .call ⟨(Callee.builtin Builtin.len), [(Operand.tmp 63)].toArray, #[23]⟩, none, 0⟩,
 ⟨some 65, .move (Operand.const (Value.int IntKind.i64 0)), none, 0⟩])
 (.block 3
 (.loop
 (.seq
 (.ops [⟨some 66, .binOp BinOp.lss 3 (Operand.tmp 65) (Operand.tmp 64) 3, none, 0⟩])
 (.seq
 (.cond (Operand.tmp 66)
 .skip
 (.exit 3))
 (.seq
 (.block 4
 (.seq
 (.ops [⟨some 67, .indexAddr 23 (Operand.tmp 63) (Operand.tmp 65), none, 0⟩,
 ⟨some 68, .load 9 (Operand.tmp 67), none, 0⟩,
 ⟨some 10, .assign (Operand.tmp 68), none, 0⟩])
 (.seq
 (.ops [⟨some 69, .move (Operand.tmp 1), none, 0⟩,
 ⟨some 70, .call ⟨(Callee.value (Operand.func 122)), [(Operand.tmp 8), (Operand.tmp 69)].toArray, #[176, 9]⟩, none, 0⟩])
 (.ops [⟨some 71, .move (Operand.tmp 10), none, 0⟩,
 ⟨some 72, .call ⟨(Callee.value (Operand.func 122)), [(Operand.tmp 8), (Operand.tmp 71)].toArray, #[176, 9]⟩, none, 0⟩]))))
 (.ops [⟨some 73, .binOp BinOp.add 3 (Operand.tmp 65) (Operand.const (Value.int IntKind.i64 1)) 3, none, 0⟩,
 ⟨some 65, .move (Operand.tmp 73), none, 0⟩])))))))
 (.seq
 (.ops [⟨some 74, .call ⟨(Callee.value (Operand.func 124)), [(Operand.tmp 8)].toArray, #[176]⟩, none, 0⟩,
 ⟨some 4, .assign (Operand.tmp 74), none, 0⟩])
 .ret))))))))))
abbrev R99 : List ResultVar := [ResultVar.tmp 4]
theorem ok99 : FnOK Tryz.prog 99 L99 R99 2 := ⟨_, _, Tryz.func99, rfl, by kernel_rfl, by kernel_rfl, by kernel_rfl, by kernel_rfl, Nat.le_of_ble_eq_true (by kernel_rfl), by kernel_rfl⟩

/-- ablaut/ablautref01.anyLong -/
def L101 : LCode :=
 (.seq
 (.ops [⟨some 2, .assign (Operand.const (Value.bool false)), none, 0⟩])
 (.seq
 (.seq
 (.ops [⟨some 3, .assign (Operand.const (Value.int IntKind.i64 0)), none, 0⟩])
 (.block 0
 (.loop
 (.seq
 (.seq
 (.ops [⟨some 4, .move (Operand.tmp 3), none, 0⟩,
 ⟨some 5, .move (Operand.tmp 0), none, 0⟩,
 ⟨some 6, .call ⟨(Callee.builtin Builtin.len), [(Operand.tmp 5)].toArray, #[23]⟩, none, 0⟩,
 ⟨some 7, .binOp BinOp.lss 3 (Operand.tmp 4) (Operand.tmp 6) 3, none, 0⟩])
 (.cond (Operand.tmp 7)
 .skip
 (.exit 0)))
 (.seq
 (.block 1
 (.seq
 (.ops [⟨some 10, .move (Operand.tmp 0), none, 0⟩,
 ⟨some 11, .move (Operand.tmp 3), none, 0⟩,
 ⟨some 12, .indexAddr 23 (Operand.tmp 10) (Operand.tmp 11), none, 0⟩,
 ⟨some 13, .load 9 (Operand.tmp 12), none, 0⟩,
 ⟨some 14, .call ⟨(Callee.builtin Builtin.len), [(Operand.tmp 13)].toArray, #[9]⟩, none, 0⟩,
 ⟨some 15, .binOp BinOp.gtr 3 (Operand.tmp 14) (Operand.const (Value.int IntKind.i64 16)) 3, none, 0⟩])
 (.cond (Operand.tmp 15)
 (.seq
 (.ops [⟨some 2, .assign (Operand.const (Value.bool true)), none, 0⟩])
 .ret)
 .skip)))
 (.ops [⟨some 8, .move (Operand.tmp 3), none, 0⟩,
 ⟨some 9, .binOp BinOp.add 3 (Operand.tmp 8) (Operand.const (Value.int IntKind.i64 1)) 3, none, 0⟩,
 ⟨some 3, .assign (Operand.tmp 9), none, 0⟩]))))))
 (.seq
 (.ops [⟨some 2, .assign (Operand.const (Value.bool false)), none, 0⟩])
 .ret)))
abbrev R101 : List ResultVar := [ResultVar.tmp 2]
theorem ok101 : FnOK Tryz.prog 101 L101 R101 1 := ⟨_, _, Tryz.func101, rfl, by kernel_rfl, by kernel_rfl, by kernel_rfl, by kernel_rfl, Nat.le_of_ble_eq_true (by kernel_rfl), by kernel_rfl⟩

/-- ablaut/ablautref01.allSymbols -/
def L102 : LCode :=
 (.seq
 (.ops [⟨some 2, .assign (Operand.const (Value.bool false)), none, 0⟩])
 (.seq
 (.seq
 (.ops [⟨some 3, .assign (Operand.const (Value.int IntKind.i64 0)), none, 0⟩])
 (.block 0
 (.loop
 (.seq
 (.seq
 (.ops [⟨some 4, .move (Operand.tmp 3), none, 0⟩,
 ⟨some 5, .move (Operand.tmp 0), none, 0⟩,
 ⟨some 6, .call ⟨(Callee.builtin Builtin.len), [(Operand.tmp 5)].toArray, #[23]⟩, none, 0⟩,
 ⟨some 7, .binOp BinOp.lss 3 (Operand.tmp 4) (Operand.tmp 6) 3, none, 0⟩])
 (.cond (Operand.tmp 7)
 .skip
 (.exit 0)))
 (.seq
 (.block 1
 (.seq
 (.ops [⟨some 10, .move (Operand.tmp 0), none, 0⟩,
 ⟨some 11, .move (Operand.tmp 3), none, 0⟩,
 ⟨some 12, .indexAddr 23 (Operand.tmp 10) (Operand.tmp 11), none, 0⟩,
 ⟨some 13, .load 9 (Operand.tmp 12), none, 0⟩,
 ⟨some 14, .call ⟨(Callee.value (Operand.func 148)), [(Operand.tmp 13)].toArray, #[9]⟩, none, 0⟩,
 ⟨some 15, .unOp UnOp.not 4 (Operand.tmp 14), none, 0⟩])
 (.cond (Operand.tmp 15)
 (.seq
 (.ops [⟨some 2, .assign (Operand.const (Value.bool false)), none, 0⟩])
 .ret)
 .skip)))
 (.ops [⟨some 8, .move (Operand.tmp 3), none, 0⟩,
 ⟨some 9, .binOp BinOp.add 3 (Operand.tmp 8) (Operand.const (Value.int IntKind.i64 1)) 3, none, 0⟩,
 ⟨some 3, .assign (Operand.tmp 9), none, 0⟩]))))))
 (.seq
 (.ops [⟨some 2, .assign (Operand.const (Value.bool true)), none, 0⟩])
 .ret)))
abbrev R102 : List ResultVar := [ResultVar.tmp 2]
theorem ok102 : FnOK Tryz.prog 102 L102 R102 1 := ⟨_, _, Tryz.func102, rfl, by kernel_rfl, by kernel_rfl, by kernel_rfl, by kernel_rfl, Nat.le_of_ble_eq_true (by kernel_rfl), by kernel_rfl⟩

/-- ablaut/script.plain$1 -/
def L108 : LCode :=
 (.seq
 (.ops [⟨some 1, .box 67 (Operand.tmp 0), none, 0⟩,
 ⟨some 2, .assign (Operand.const (Value.bool false)), none, 0⟩])
 (.seq
 (.ops [⟨some 3, .fieldAddr 67 (Operand.tmp 1) 0, none, 0⟩,
 ⟨some 4, .load 23 (Operand.tmp 3), none, 0⟩,
 ⟨some 5, .call ⟨(Callee.builtin Builtin.len), [(Operand.tmp 4)].toArray, #[23]⟩, none, 0⟩,
 ⟨some 6, .binOp BinOp.neq 3 (Operand.tmp 5) (Operand.const (Value.int IntKind.i64 1)) 3, none, 0⟩,
 ⟨some 2, .assign (Operand.tmp 6), none, 0⟩])
 .ret))
abbrev R108 : List ResultVar := [ResultVar.tmp 2]
theorem ok108 : FnOK Tryz.prog 108 L108 R108 1 := ⟨_, _, Tryz.func108, rfl, by kernel_rfl, by kernel_rfl, by kernel_rfl, by kernel_rfl, Nat.le_of_ble_eq_true (by kernel_rfl), by kernel_rfl⟩

/-- ablaut/ablautref01.ValidateWord -/
def L109 : LCode :=
 (.seq
 (.ops [⟨some 2, .assign (Operand.const (Value.int IntKind.i64 0)), none, 0⟩])
 (.seq
 (.seq
 (.ops [⟨some 3, .move (Operand.tmp 0), none, 0⟩,
 ⟨some 4, .call ⟨(Callee.builtin Builtin.len), [(Operand.tmp 3)].toArray, #[23]⟩, none, 0⟩,
 ⟨some 5, .binOp BinOp.gtr 3 (Operand.tmp 4) (Operand.const (Value.int IntKind.i64 60)) 3, none, 0⟩,
 ⟨some 6, .move (Operand.tmp 5), none, 0⟩,
 ⟨some 7, .move (Operand.tmp 0), some (6, false), 0⟩,
 ⟨some 8, .call ⟨(Callee.value (Operand.func 101)), [(Operand.tmp 7)].toArray, #[23]⟩, some (6, false), 0⟩,
 ⟨some 9, .pick (Operand.tmp 6) (Operand.const (Value.bool true)) (Operand.tmp 8), none, 0⟩])
 (.cond (Operand.tmp 9)
 (.seq
 (.ops [⟨some 2, .assign (Operand.const (Value.int IntKind.i64 3)), none, 0⟩])
 .ret)
 .skip))
 (.seq
 (.seq
 (.ops [⟨some 10, .move (Operand.tmp 0), none, 0⟩,
 ⟨some 11, .call ⟨(Callee.value (Operand.func 102)), [(Operand.tmp 10)].toArray, #[23]⟩, none, 0⟩,
 ⟨some 12, .unOp UnOp.not 4 (Operand.tmp 11), none, 0⟩])
 (.cond (Operand.tmp 12)
 (.seq
 (.ops [⟨some 2, .assign (Operand.const (Value.int IntKind.i64 1)), none, 0⟩])
 .ret)
 .skip))
 (.seq
 (.ops [⟨some 2, .assign (Operand.const (Value.int IntKind.i64 0)), none, 0⟩])
 .ret))))
abbrev R109 : List ResultVar := [ResultVar.tmp 2]
theorem ok109 : FnOK Tryz.prog 109 L109 R109 1 := ⟨_, _, Tryz.func109, rfl, by kernel_rfl, by kernel_rfl, by kernel_rfl, by kernel_rfl, Nat.le_of_ble_eq_true (by kernel_rfl), by kernel_rfl⟩

/-- ablaut/script.asked$1 -/
def L110 : LCode :=
 (.seq
 (.ops [⟨some 1, .box 67 (Operand.tmp 0), none, 0⟩,
 ⟨some 2, .assign (Operand.const (Value.bool false)), none, 0⟩])
 (.seq
 (.ops [⟨some 3, .fieldAddr 67 (Operand.tmp 1) 1, none, 0⟩,
 ⟨some 4, .load 23 (Operand.tmp 3), none, 0⟩,
 ⟨some 5, .call ⟨(Callee.builtin Builtin.len), [(Operand.tmp 4)].toArray, #[23]⟩, none, 0⟩,
 ⟨some 6, .binOp BinOp.gtr 3 (Operand.tmp 5) (Operand.const (Value.int IntKind.i64 8)) 3, none, 0⟩,
 ⟨some 2, .assign (Operand.tmp 6), none, 0⟩])
 .ret))
abbrev R110 : List ResultVar := [ResultVar.tmp 2]
theorem ok110 : FnOK Tryz.prog 110 L110 R110 1 := ⟨_, _, Tryz.func110, rfl, by kernel_rfl, by kernel_rfl, by kernel_rfl, by kernel_rfl, Nat.le_of_ble_eq_true (by kernel_rfl), by kernel_rfl⟩

/-- slices.pdqsortCmpFunc[ablaut/api.Shift] -/
def L111 : LCode :=
 (.seq
 (.ops [⟨some 10, .assign (Operand.const (Value.bool true)), none, 0⟩])
 (.seq
 (.ops [⟨some 11, .assign (Operand.const (Value.bool true)), none, 0⟩])
 (.block 0
 (.loop
 (.block 1
 (.seq
 (.ops [⟨some 21, .move (Operand.tmp 2), none, 0⟩,
 ⟨some 22, .move (Operand.tmp 1), none, 0⟩,
 ⟨some 23, .binOp BinOp.sub 3 (Operand.tmp 21) (Operand.tmp 22) 3, none, 0⟩,
 ⟨some 12, .assign (Operand.tmp 23), none, 0⟩])
 (.seq
 (.seq
 (.ops [⟨some 24, .move (Operand.tmp 12), none, 0⟩,
 ⟨some 25, .binOp BinOp.leq 3 (Operand.tmp 24) (Operand.const (Value.int IntKind.i64 12)) 3, none, 0⟩])
 (.cond (Operand.tmp 25)
 (.seq
 (.ops [⟨some 26, .move (Operand.tmp 0), none, 0⟩,
 ⟨some 27, .move (Operand.tmp 1), none, 0⟩,
 ⟨some 28, .move (Operand.tmp 2), none, 0⟩,
 ⟨some 29, .move (Operand.tmp 4), none, 0⟩,
 ⟨some 30, .call ⟨(Callee.value (Operand.func 150)), [(Operand.tmp 26), (Operand.tmp 27), (Operand.tmp 28), (Operand.tmp 29)].toArray, #[22, 3, 3, 98]⟩, none, 0⟩])
 .ret)
 .skip))
 (.seq
 (.seq
 (.ops [⟨some 31, .move (Operand.tmp 3), none, 0⟩,
 ⟨some 32, .binOp BinOp.eql 3 (Operand.tmp 31) (Operand.const (Value.int IntKind.i64 0)) 3, none, 0⟩])
 (.cond (Operand.tmp 32)
 (.seq
 (.ops [⟨some 33, .move (Operand.tmp 0), none, 0⟩,
 ⟨some 34, .move (Operand.tmp 1), none, 0⟩,
 ⟨some 35, .move (Operand.tmp 2), none, 0⟩,
 ⟨some 36, .move (Operand.tmp 4), none, 0⟩,
 ⟨some 37, .call ⟨(Callee.value (Operand.func 151)), [(Operand.tmp 33), (Operand.tmp 34), (Operand.tmp 35), (Operand.tmp 36)].toArray, #[22, 3, 3, 98]⟩, none, 0⟩])
 .ret)
 .skip))
 (.seq
 (.seq
 (.ops [⟨some 38, .move (Operand.tmp 10), none, 0⟩,
 ⟨some 39, .unOp UnOp.not 4 (Operand.tmp 38), none, 0⟩])
 (.cond (Operand.tmp 39)
 (.seq
 (.ops [⟨some 40, .move (Operand.tmp 0), none, 0⟩,
 ⟨some 41, .move (Operand.tmp 1), none, 0⟩,
 ⟨some 42, .move (Operand.tmp 2), none, 0⟩,
 ⟨some 43, .move (Operand.tmp 4), none, 0⟩,
 ⟨some 44, .call ⟨(Callee.value (Operand.func 152)), [(Operand.tmp 40), (Operand.tmp 41), (Operand.tmp 42), (Operand.tmp 43)].toArray, #[22, 3, 3, 98]⟩, none, 0⟩])
 (.ops [⟨some 45, .move (Operand.tmp 3), none, 0⟩,
 ⟨some 46, .binOp BinOp.sub 3 (Operand.tmp 45) (Operand.const (Value.int IntKind.i64 1)) 3, none, 0⟩,
 ⟨some 3, .assign (Operand.tmp 46), none, 0⟩]))
 .skip))
 (.seq
 (.ops [⟨some 48, .move (Operand.tmp 0), none, 0⟩,
 ⟨some 49, .move (Operand.tmp 1), none, 0⟩,
 ⟨some 50, .move (Operand.tmp 2), none, 0⟩,
 ⟨some 51, .move (Operand.tmp 4), none, 0⟩,
 ⟨some 52, .call ⟨(Callee.value (Operand.func 153)), [(Operand.tmp 48), (Operand.tmp 49), (Operand.tmp 50), (Operand.tmp 51)].toArray, #[22, 3, 3, 98]⟩, none, 0⟩,
 ⟨some 47, .move (Operand.tmp 52), none, 0⟩,
 ⟨some 53, .extract (Operand.tmp 47) 0, none, 0⟩,
 ⟨some 54, .extract (Operand.tmp 47) 1, none, 0⟩,
 ⟨some 13, .assign (Operand.tmp 53), none, 0⟩,
 ⟨some 14, .assign (Operand.tmp 54), none, 0⟩])
 (.seq
 (.seq
 (.ops [⟨some 55, .move (Operand.tmp 14), none, 0⟩,
 ⟨some 56, .binOp BinOp.eql 203 (Operand.tmp 55) (Operand.const (Value.int IntKind.i64 2)) 203, none, 0⟩])
 (.cond (Operand.tmp 56)
 (.seq
 (.ops [⟨some 57, .move (Operand.tmp 0), none, 0⟩,
 ⟨some 58, .move (Operand.tmp 1), none, 0⟩,
 ⟨some 59, .move (Operand.tmp 2), none, 0⟩,
 ⟨some 60, .move (Operand.tmp 4), none, 0⟩,
 ⟨some 61, .call ⟨(Callee.value (Operand.func 154)), [(Operand.tmp 57), (Operand.tmp 58), (Operand.tmp 59), (Operand.tmp 60)].toArray, #[22, 3, 3, 98]⟩, none, 0⟩])
 (.seq
 (.ops [⟨some 62, .move (Operand.tmp 2), none, 0⟩,
 ⟨some 63, .binOp BinOp.sub 3 (Operand.tmp 62) (Operand.const (Value.int IntKind.i64 1)) 3, none, 0⟩,
 ⟨some 64, .move (Operand.tmp 13), none, 0⟩,
 ⟨some 65, .move (Operand.tmp 1), none, 0⟩,
 ⟨some 66, .binOp BinOp.sub 3 (Operand.tmp 64) (Operand.tmp 65) 3, none, 0⟩,
 ⟨some 67, .binOp BinOp.sub 3 (Operand.tmp 63) (Operand.tmp 66) 3, none, 0⟩,
 ⟨some 13, .assign (Operand.tmp 67), none, 0⟩])
 (.ops [⟨some 14, .assign (Operand.const (Value.int IntKind.i64 1)), none, 0⟩])))
 .skip))
 (.seq
 (.seq
 (.ops [⟨some 68, .move (Operand.tmp 10), none, 0⟩,
 ⟨some 69, .move (Operand.tmp 68), none, 0⟩,
 ⟨some 70, .move (Operand.tmp 11), some (69, true), 0⟩,
 ⟨some 71, .pick (Operand.tmp 69) (Operand.tmp 70) (Operand.const (Value.bool false)), none, 0⟩,
 ⟨some 72, .move (Operand.tmp 71), none, 0⟩,
 ⟨some 73, .move (Operand.tmp 14), some (72, true), 0⟩,
 ⟨some 74, .binOp BinOp.eql 203 (Operand.tmp 73) (Operand.const (Value.int IntKind.i64 1)) 203, some (72, true), 0⟩,
 ⟨some 75, .pick (Operand.tmp 72) (Operand.tmp 74) (Operand.const (Value.bool false)), none, 0⟩])
 (.cond (Operand.tmp 75)
 (.seq
 (.ops [⟨some 76, .move (Operand.tmp 0), none, 0⟩,
 ⟨some 77, .move (Operand.tmp 1), none, 0⟩,
 ⟨some 78, .move (Operand.tmp 2), none, 0⟩,
 ⟨some 79, .move (Operand.tmp 4), none, 0⟩,
 ⟨some 80, .call ⟨(Callee.value (Operand.func 155)), [(Operand.tmp 76), (Operand.tmp 77), (Operand.tmp 78), (Operand.tmp 79)].toArray, #[22, 3, 3, 98]⟩, none, 0⟩])
 (.cond (Operand.tmp 80)
 .ret
 .skip))
 .skip))
 (.seq
 (.seq
 (.draw [⟨some 81, .move (Operand.tmp 1), none, 0⟩,
 ⟨some 82, .binOp BinOp.gtr 3 (Operand.tmp 81) (Operand.const (Value.int IntKind.i64 0)) 3, none, 0⟩,
 ⟨some 83, .move (Operand.tmp 82), none, 0⟩,
 ⟨some 84, .move (Operand.tmp 4), some (83, true), 0⟩,
 ⟨some 85, .move (Operand.tmp 0), some (83, true), 0⟩,
 ⟨some 86, .move (Operand.tmp 1), some (83, true), 0⟩,
 ⟨some 87, .binOp BinOp.sub 3 (Operand.tmp 86) (Operand.const (Value.int IntKind.i64 1)) 3, some (83, true), 0⟩,
 ⟨some 88, .indexAddr 22 (Operand.tmp 85) (Operand.tmp 87), some (83, true), 0⟩,
 ⟨some 89, .load 67 (Operand.tmp 88), some (83, true), 0⟩,
 ⟨some 90, .move (Operand.tmp 0), some (83, true), 0⟩,
 ⟨some 91, .move (Operand.tmp 13), some (83, true), 0⟩,
 ⟨some 92, .indexAddr 22 (Operand.tmp 90) (Operand.tmp 91), some (83, true), 0⟩,
 ⟨some 93, .load 67 (Operand.tmp 92), some (83, true), 0⟩,
 ⟨some 94, .call ⟨(Callee.value (Operand.tmp 84)), [(Operand.tmp 89), (Operand.tmp 93)].toArray, #[67, 67]⟩, some (83, true), 0⟩,
 ⟨some 95, .binOp BinOp.lss 3 (Operand.tmp 94) (Operand.const (Value.int IntKind.i64 0)) 3, some (83, true), 0⟩,
 ⟨some 96, .unOp UnOp.not 4 (Operand.tmp 95), some (83, true), 0⟩,
 ⟨some 97, .pick (Operand.tmp 83) (Operand.tmp 96) (Operand.const (Value.bool false)), none, 0⟩] true [13, 14, 15, 16] [0, 1, 2, 3, 4, 5, 6, 7, 9, 10, 11, 8, 12, 13, 14, 15, 16])
 (.cond (Operand.tmp 97)
 (.seq
 (.ops [⟨some 98, .move (Operand.tmp 0), none, 0⟩,
 ⟨some 99, .move (Operand.tmp 1), none, 0⟩,
 ⟨some 100, .move (Operand.tmp 2), none, 0⟩,
 ⟨some 101, .move (Operand.tmp 13), none, 0⟩,
 ⟨some 102, .move (Operand.tmp 4), none, 0⟩,
 ⟨some 103, .call ⟨(Callee.value (Operand.func 156)), [(Operand.tmp 98), (Operand.tmp 99), (Operand.tmp 100), (Operand.tmp 101), (Operand.tmp 102)].toArray, #[22, 3, 3, 3, 98]⟩, none, 0⟩,
 ⟨some 15, .assign (Operand.tmp 103), none, 0⟩])
 (.seq
 (.ops [⟨some 104, .move (Operand.tmp 15), none, 0⟩,
 ⟨some 1, .assign (Operand.tmp 104), none, 0⟩])
 (.exit 1)))
 .skip))
 (.seq
 (.ops [⟨some 106, .move (Operand.tmp 0), none, 0⟩,
 ⟨some 107, .move (Operand.tmp 1), none, 0⟩,
 ⟨some 108, .move (Operand.tmp 2), none, 0⟩,
 ⟨some 109, .move (Operand.tmp 13), none, 0⟩,
 ⟨some 110, .move (Operand.tmp 4), none, 0⟩,
 ⟨some 111, .call ⟨(Callee.value (Operand.func 157)), [(Operand.tmp 106), (Operand.tmp 107), (Operand.tmp 108), (Operand.tmp 109), (Operand.tmp 110)].toArray, #[22, 3, 3, 3, 98]⟩, none, 0⟩,
 ⟨some 105, .move (Operand.tmp 111), none, 0⟩,
 ⟨some 112, .extract (Operand.tmp 105) 0, none, 0⟩,
 ⟨some 113, .extract (Operand.tmp 105) 1, none, 0⟩,
 ⟨some 16, .assign (Operand.tmp 112), none, 0⟩,
 ⟨some 17, .assign (Operand.tmp 113), none, 0⟩])
 (.seq
 (.ops [⟨some 114, .move (Operand.tmp 17), none, 0⟩,
 ⟨some 11, .assign (Operand.tmp 114), none, 0⟩])
 (.seq
 (.ops [⟨some 115, .move (Operand.tmp 16), none, 0⟩,
 ⟨some 116, .move (Operand.tmp 1), none, 0⟩,
 ⟨some 117, .binOp BinOp.sub 3 (Operand.tmp 115) (Operand.tmp 116) 3, none, 0⟩,
 ⟨some 118, .move (Operand.tmp 2), none, 0⟩,
 ⟨some 119, .move (Operand.tmp 16), none, 0⟩,
 ⟨some 120, .binOp BinOp.sub 3 (Operand.tmp 118) (Operand.tmp 119) 3, none, 0⟩,
 ⟨some 18, .assign (Operand.tmp 117), none, 0⟩,
 ⟨some 19, .assign (Operand.tmp 120), none, 0⟩])
 (.seq
 (.ops [⟨some 121, .move (Operand.tmp 12), none, 0⟩,
 ⟨some 122, .binOp BinOp.quo 3 (Operand.tmp 121) (Operand.const (Value.int IntKind.i64 8)) 3, none, 0⟩,
 ⟨some 20, .assign (Operand.tmp 122), none, 0⟩])
 (.seq
 (.ops [⟨some 123, .move (Operand.tmp 18), none, 0⟩,
 ⟨some 124, .move (Operand.tmp 19), none, 0⟩,
 ⟨some 125, .binOp BinOp.lss 3 (Operand.tmp 123) (Operand.tmp 124) 3, none, 0⟩])
 (.cond (Operand.tmp 125)
 (.seq
 (.ops [⟨some 126, .move (Operand.tmp 18), none, 0⟩,
 ⟨some 127, .move (Operand.tmp 20), none, 0⟩,
 ⟨some 128, .binOp BinOp.geq 3 (Operand.tmp 126) (Operand.tmp 127) 3, none, 0⟩,
 ⟨some 10, .assign (Operand.tmp 128), none, 0⟩])
 (.seq
 (.ops [⟨some 129, .move (Operand.tmp 0), none, 0⟩,
 ⟨some 130, .move (Operand.tmp 1), none, 0⟩,
 ⟨some 131, .move (Operand.tmp 16), none, 0⟩,
 ⟨some 132, .move (Operand.tmp 3), none, 0⟩,
 ⟨some 133, .move (Operand.tmp 4), none, 0⟩,
 ⟨some 134, .call ⟨(Callee.value (Operand.func 111)), [(Operand.tmp 129), (Operand.tmp 130), (Operand.tmp 131), (Operand.tmp 132), (Operand.tmp 133)].toArray, #[22, 3, 3, 3, 98]⟩, none, 0⟩])
 (.ops [⟨some 135, .move (Operand.tmp 16), none, 0⟩,
 ⟨some 136, .binOp BinOp.add 3 (Operand.tmp 135) (Operand.const (Value.int IntKind.i64 1)) 3, none, 0⟩,
 ⟨some 1, .assign (Operand.tmp 136), none, 0⟩])))
 (.seq
 (.ops [⟨some 137, .move (Operand.tmp 19), none, 0⟩,
 ⟨some 138, .move (Operand.tmp 20), none, 0⟩,
 ⟨some 139, .binOp BinOp.geq 3 (Operand.tmp 137) (Operand.tmp 138) 3, none, 0⟩,
 ⟨some 10, .assign (Operand.tmp 139), none, 0⟩])
 (.seq
 (.ops [⟨some 140, .move (Operand.tmp 0), none, 0⟩,
 ⟨some 141, .move (Operand.tmp 16), none, 0⟩,
 ⟨some 142, .binOp BinOp.add 3 (Operand.tmp 141) (Operand.const (Value.int IntKind.i64 1)) 3, none, 0⟩,
 ⟨some 143, .move (Operand.tmp 2), none, 0⟩,
 ⟨some 144, .move (Operand.tmp 3), none, 0⟩,
 ⟨some 145, .move (Operand.tmp 4), none, 0⟩,
 ⟨some 146, .call ⟨(Callee.value (Operand.func 111)), [(Operand.tmp 140), (Operand.tmp 142), (Operand.tmp 143), (Operand.tmp 144), (Operand.tmp 145)].toArray, #[22, 3, 3, 3, 98]⟩, none, 0⟩])
 (.ops [⟨some 147, .move (Operand.tmp 16), none, 0⟩,
 ⟨some 2, .assign (Operand.tmp 147), none, 0⟩]))))))))))))))))))))))
abbrev R111 : List ResultVar := []
theorem ok111 : FnOK Tryz.prog 111 L111 R111 5 := ⟨_, _, Tryz.func111, rfl, by kernel_rfl, by kernel_rfl, by kernel_rfl, by kernel_rfl, Nat.le_of_ble_eq_true (by kernel_rfl), by kernel_rfl⟩

/-- math/bits.Len -/
def L112 : LCode :=
 (.seq
 (.ops [⟨some 2, .assign (Operand.const (Value.int IntKind.i64 0)), none, 0⟩])
 (.seq
 (.cond (Operand.const (Value.bool false))
 (.seq
 (.ops [⟨some 3, .move (Operand.tmp 0), none, 0⟩,
 ⟨some 4, .convert 158 210 (Operand.tmp 3), none, 0⟩,
 ⟨some 5, .call ⟨(Callee.value (Operand.func 158)), [(Operand.tmp 4)].toArray, #[210]⟩, none, 0⟩,
 ⟨some 2, .assign (Operand.tmp 5), none, 0⟩])
 .ret)
 .skip)
 (.seq
 (.ops [⟨some 6, .move (Operand.tmp 0), none, 0⟩,
 ⟨some 7, .call ⟨(Callee.value (Operand.func 159)), [(Operand.tmp 6)].toArray, #[212]⟩, none, 0⟩,
 ⟨some 2, .assign (Operand.tmp 7), none, 0⟩])
 .ret)))
abbrev R112 : List ResultVar := [ResultVar.tmp 2]
theorem ok112 : FnOK Tryz.prog 112 L112 R112 1 := ⟨_, _, Tryz.func112, rfl, by kernel_rfl, by kernel_rfl, by kernel_rfl, by kernel_rfl, Nat.le_of_ble_eq_true (by kernel_rfl), by kernel_rfl⟩

/-- cmp.Compare[string] -/
def L113 : LCode :=
 (.seq
 (.ops [⟨some 4, .assign (Operand.const (Value.int IntKind.i64 0)), none, 0⟩])
 (.seq
 (.ops [⟨some 7, .move (Operand.tmp 0), none, 0⟩,
 ⟨some 8, .call ⟨(Callee.value (Operand.func 160)), [(Operand.tmp 7)].toArray, #[9]⟩, none, 0⟩,
 ⟨some 5, .assign (Operand.tmp 8), none, 0⟩])
 (.seq
 (.ops [⟨some 9, .move (Operand.tmp 1), none, 0⟩,
 ⟨some 10, .call ⟨(Callee.value (Operand.func 160)), [(Operand.tmp 9)].toArray, #[9]⟩, none, 0⟩,
 ⟨some 6, .assign (Operand.tmp 10), none, 0⟩])
 (.seq
 (.seq
 (.ops [⟨some 11, .move (Operand.tmp 5), none, 0⟩])
 (.cond (Operand.tmp 11)
 (.seq
 (.seq
 (.ops [⟨some 12, .move (Operand.tmp 6), none, 0⟩])
 (.cond (Operand.tmp 12)
 (.seq
 (.ops [⟨some 4, .assign (Operand.const (Value.int IntKind.i64 0)), none, 0⟩])
 .ret)
 .skip))
 (.seq
 (.ops [⟨some 4, .assign (Operand.const (Value.int IntKind.i64 (-1))), none, 0⟩])
 .ret))
 .skip))
 (.seq
 (.seq
 (.ops [⟨some 13, .move (Operand.tmp 6), none, 0⟩])
 (.cond (Operand.tmp 13)
 (.seq
 (.ops [⟨some 4, .assign (Operand.const (Value.int IntKind.i64 1)), none, 0⟩])
 .ret)
 .skip))
 (.seq
 (.seq
 (.ops [⟨some 14, .move (Operand.tmp 0), none, 0⟩,
 ⟨some 15, .move (Operand.tmp 1), none, 0⟩,
 ⟨some 16, .binOp BinOp.lss 9 (Operand.tmp 14) (Operand.tmp 15) 9, none, 0⟩])
 (.cond (Operand.tmp 16)
 (.seq
 (.ops [⟨some 4, .assign (Operand.const (Value.int IntKind.i64 (-1))), none, 0⟩])
 .ret)
 .skip))
 (.seq
 (.seq
 (.ops [⟨some 17, .move (Operand.tmp 0), none, 0⟩,
 ⟨some 18, .move (Operand.tmp 1), none, 0⟩,
 ⟨some 19, .binOp BinOp.gtr 9 (Operand.tmp 17) (Operand.tmp 18) 9, none, 0⟩])
 (.cond (Operand.tmp 19)
 (.seq
 (.ops [⟨some 4, .assign (Operand.const (Value.int IntKind.i64 1)), none, 0⟩])
 .ret)
 .skip))
 (.seq
 (.ops [⟨some 4, .assign (Operand.const (Value.int IntKind.i64 0)), none, 0⟩])
 .ret))))))))
abbrev R113 : List ResultVar := [ResultVar.tmp 4]
theorem ok113 : FnOK Tryz.prog 113 L113 R113 2 := ⟨_, _, Tryz.func113, rfl, by kernel_rfl, by kernel_rfl, by kernel_rfl, by kernel_rfl, Nat.le_of_ble_eq_true (by kernel_rfl), by kernel_rfl⟩

/-- slices.Concat[[]string,string] -/
def L114 : LCode :=
 (.seq
 (.ops [⟨some 2, .assign (Operand.const (Value.slice none 0 0)), none, 0⟩])
 (.seq
 (.ops [⟨some 3, .assign (Operand.const (Value.int IntKind.i64 0)), none, 0⟩])
 (.seq
 (.seq
 (.ops [⟨some 9, .move (Operand.tmp 0), none, 0⟩,
 ⟨some 10, .call ⟨(Callee.builtin Builtin.len), [(Operand.tmp 9)].toArray, #[58]⟩, none, 0⟩,
 ⟨some 11, .move (Operand.const (Value.int IntKind.i64 0)), none, 0⟩])
 (.block 0
 (.loop
 (.seq
 (.ops [⟨some 12, .binOp BinOp.lss 3 (Operand.tmp 11) (Operand.tmp 10) 3, none, 0⟩])
 (.seq
 (.cond (Operand.tmp 12)
 .skip
 (.exit 0))
 (.seq
 (.block 1
 (.seq
 (.ops [⟨some 13, .indexAddr 58 (Operand.tmp 9) (Operand.tmp 11), none, 0⟩,
 ⟨some 14, .load 23 (Operand.tmp 13), none, 0⟩,
 ⟨some 5, .assign (Operand.tmp 14), none, 0⟩])
 (.seq
 (.ops [⟨some 15, .move (Operand.tmp 3), none, 0⟩,
 ⟨some 16, .move (Operand.tmp 5), none, 0⟩,
 ⟨some 17, .call ⟨(Callee.builtin Builtin.len), [(Operand.tmp 16)].toArray, #[23]⟩, none, 0⟩,
 ⟨some 18, .binOp BinOp.add 3 (Operand.tmp 15) (Operand.tmp 17) 3, none, 0⟩,
 ⟨some 3, .assign (Operand.tmp 18), none, 0⟩])
 (.seq
 (.ops [⟨some 19, .move (Operand.tmp 3), none, 0⟩,
 ⟨some 20, .binOp BinOp.lss 3 (Operand.tmp 19) (Operand.const (Value.int IntKind.i64 0)) 3, none, 0⟩])
 (.cond (Operand.tmp 20)
 (.ops [⟨some 21, .makeInterface 9 (Operand.const (Value.string ⟨#[108, 101, 110, 32, 111, 117, 116, 32, 111, 102, 32, 114, 97, 110, 103, 101]⟩)), none, 0⟩,
 ⟨none, .panic (Operand.tmp 21), none, 0⟩])
 .skip)))))
 (.ops [⟨some 22, .binOp BinOp.add 3 (Operand.tmp 11) (Operand.const (Value.int IntKind.i64 1)) 3, none, 0⟩,
 ⟨some 11, .move (Operand.tmp 22), none, 0⟩])))))))
 (.seq
 (.ops [⟨some 23, .move (Operand.tmp 3), none, 0⟩,
 ⟨some 24, .call ⟨(Callee.value (Operand.func 161)), [(Operand.const (Value.slice none 0 0)), (Operand.tmp 23)].toArray, #[23, 3]⟩, none, 0⟩,
 ⟨some 6, .assign (Operand.tmp 24), none, 0⟩])
 (.seq
 (.seq
 (.ops [⟨some 25, .move (Operand.tmp 0), none, 0⟩,
 ⟨some 26, .call ⟨(Callee.builtin Builtin.len), [(Operand.tmp 25)].toArray, #[58]⟩, none, 0⟩,
 ⟨some 27, .move (Operand.const (Value.int IntKind.i64 0)), none, 0⟩])
 (.block 2
 (.loop
 (.seq
 (.ops [⟨some 28, .binOp BinOp.lss 3 (Operand.tmp 27) (Operand.tmp 26) 3, none, 0⟩])
 (.seq
 (.cond (Operand.tmp 28)
 .skip
 (.exit 2))
 (.seq
 (.block 3
 (.seq
 (.ops [⟨some 29, .indexAddr 58 (Operand.tmp 25) (Operand.tmp 27), none, 0⟩,
 ⟨some 30, .load 23 (Operand.tmp 29), none, 0⟩,
 ⟨some 8, .assign (Operand.tmp 30), none, 0⟩])
 (.ops [⟨some 31, .move (Operand.tmp 6), none, 0⟩,
 ⟨some 32, .move (Operand.tmp 8), none, 0⟩,
 ⟨some 33, .call ⟨(Callee.builtin Builtin.append), [(Operand.tmp 31), (Operand.tmp 32)].toArray, #[23, 23]⟩, none, 0⟩,
 ⟨some 6, .assign (Operand.tmp 33), none, 0⟩])))
 (.ops [⟨some 34, .binOp BinOp.add 3 (Operand.tmp 27) (Operand.const (Value.int IntKind.i64 1)) 3, none, 0⟩,
 ⟨some 27, .move (Operand.tmp 34), none, 0⟩])))))))
 (.seq
 (.ops [⟨some 35, .move (Operand.tmp 6), none, 0⟩,
 ⟨some 2, .assign (Operand.tmp 35), none, 0⟩])
 .ret))))))
abbrev R114 : List ResultVar := [ResultVar.tmp 2]
theorem ok114 : FnOK Tryz.prog 114 L114 R114 1 := ⟨_, _, Tryz.func114, rfl, by kernel_rfl, by kernel_rfl, by kernel_rfl, by kernel_rfl, Nat.le_of_ble_eq_true (by kernel_rfl), by kernel_rfl⟩

/-- ablaut/ablautref25.isPlain -/
def L115 : LCode :=
 (.seq
 (.ops [⟨some 2, .assign (Operand.const (Value.bool false)), none, 0⟩])
 (.seq
 (.seq
 (.ops [⟨some 3, .assign (Operand.const (Value.int IntKind.i64 0)), none, 0⟩])
 (.block 0
 (.loop
 (.seq
 (.seq
 (.ops [⟨some 4, .move (Operand.tmp 3), none, 0⟩,
 ⟨some 5, .move (Operand.tmp 0), none, 0⟩,
 ⟨some 6, .call ⟨(Callee.builtin Builtin.len), [(Operand.tmp 5)].toArray, #[22]⟩, none, 0⟩,
 ⟨some 7, .binOp BinOp.lss 3 (Operand.tmp 4) (Operand.tmp 6) 3, none, 0⟩])
 (.cond (Operand.tmp 7)
 .skip
 (.exit 0)))
 (.seq
 (.block 1
 (.seq
 (.ops [⟨some 10, .move (Operand.tmp 0), none, 0⟩,
 ⟨some 11, .move (Operand.tmp 3), none, 0⟩,
 ⟨some 12, .indexAddr 22 (Operand.tmp 10) (Operand.tmp 11), none, 0⟩,
 ⟨some 13, .fieldAddr 67 (Operand.tmp 12) 0, none, 0⟩,
 ⟨some 14, .load 23 (Operand.tmp 13), none, 0⟩,
 ⟨some 15, .call ⟨(Callee.builtin Builtin.len), [(Operand.tmp 14)].toArray, #[23]⟩, none, 0⟩,
 ⟨some 16, .binOp BinOp.neq 3 (Operand.tmp 15) (Operand.const (Value.int IntKind.i64 1)) 3, none, 0⟩])
 (.cond (Operand.tmp 16)
 (.seq
 (.ops [⟨some 2, .assign (Operand.const (Value.bool false)), none, 0⟩])
 .ret)
 .skip)))
 (.ops [⟨some 8, .move (Operand.tmp 3), none, 0⟩,
 ⟨some 9, .binOp BinOp.add 3 (Operand.tmp 8) (Operand.const (Value.int IntKind.i64 1)) 3, none, 0⟩,
 ⟨some 3, .assign (Operand.tmp 9), none, 0⟩]))))))
 (.seq
 (.ops [⟨some 2, .assign (Operand.const (Value.bool true)), none, 0⟩])
 .ret)))
abbrev R115 : List ResultVar := [ResultVar.tmp 2]
theorem ok115 : FnOK Tryz.prog 115 L115 R115 1 := ⟨_, _, Tryz.func115, rfl, by kernel_rfl, by kernel_rfl, by kernel_rfl, by kernel_rfl, Nat.le_of_ble_eq_true (by kernel_rfl), by kernel_rfl⟩

/-- ablaut/ablautref25.isLong -/
def L116 : LCode :=
 (.seq
 (.ops [⟨some 2, .assign (Operand.const (Value.bool false)), none, 0⟩])
 (.seq
 (.seq
 (.ops [⟨some 3, .assign (Operand.const (Value.int IntKind.i64 0)), none, 0⟩])
 (.block 0
 (.loop
 (.seq
 (.seq
 (.ops [⟨some 4, .move (Operand.tmp 3), none, 0⟩,
 ⟨some 5, .move (Operand.tmp 0), none, 0⟩,
 ⟨some 6, .call ⟨(Callee.builtin Builtin.len), [(Operand.tmp 5)].toArray, #[58]⟩, none, 0⟩,
 ⟨some 7, .binOp BinOp.lss 3 (Operand.tmp 4) (Operand.tmp 6) 3, none, 0⟩])
 (.cond (Operand.tmp 7)
 .skip
 (.exit 0)))
 (.seq
 (.block 1
 (.seq
 (.ops [⟨some 10, .move (Operand.tmp 0), none, 0⟩,
 ⟨some 11, .move (Operand.tmp 3), none, 0⟩,
 ⟨some 12, .indexAddr 58 (Operand.tmp 10) (Operand.tmp 11), none, 0⟩,
 ⟨some 13, .load 23 (Operand.tmp 12), none, 0⟩,
 ⟨some 14, .call ⟨(Callee.builtin Builtin.len), [(Operand.tmp 13)].toArray, #[23]⟩, none, 0⟩,
 ⟨some 15, .binOp BinOp.gtr 3 (Operand.tmp 14) (Operand.const (Value.int IntKind.i64 8)) 3, none, 0⟩])
 (.cond (Operand.tmp 15)
 (.seq
 (.ops [⟨some 2, .assign (Operand.const (Value.bool true)), none, 0⟩])
 .ret)
 .skip)))
 (.ops [⟨some 8, .move (Operand.tmp 3), none, 0⟩,
 ⟨some 9, .binOp BinOp.add 3 (Operand.tmp 8) (Operand.const (Value.int IntKind.i64 1)) 3, none, 0⟩,
 ⟨some 3, .assign (Operand.tmp 9), none, 0⟩]))))))
 (.seq
 (.ops [⟨some 2, .assign (Operand.const (Value.bool false)), none, 0⟩])
 .ret)))
abbrev R116 : List ResultVar := [ResultVar.tmp 2]
theorem ok116 : FnOK Tryz.prog 116 L116 R116 1 := ⟨_, _, Tryz.func116, rfl, by kernel_rfl, by kernel_rfl, by kernel_rfl, by kernel_rfl, Nat.le_of_ble_eq_true (by kernel_rfl), by kernel_rfl⟩

/-- slices.IndexFunc[[][]string,[]string] -/
def L117 : LCode :=
 (.seq
 (.ops [⟨some 4, .assign (Operand.const (Value.int IntKind.i64 0)), none, 0⟩])
 (.seq
 (.seq
 (.ops [⟨some 6, .move (Operand.tmp 0), none, 0⟩,
 ⟨some 7, .call ⟨(Callee.builtin Builtin.len), [(Operand.tmp 6)].toArray, #[58]⟩, none, 0⟩,
 ⟨some 8, .move (Operand.const (Value.int IntKind.i64 0)), none, 0⟩])
 (.block 0
 (.loop
 (.seq
 (.ops [⟨some 9, .binOp BinOp.lss 3 (Operand.tmp 8) (Operand.tmp 7) 3, none, 0⟩])
 (.seq
 (.cond (Operand.tmp 9)
 .skip
 (.exit 0))
 (.seq
 (.block 1
 (.seq
 (.ops [⟨some 10, .move (Operand.tmp 8), none, 0⟩,
 ⟨some 5, .assign (Operand.tmp 10), none, 0⟩])
 (.seq
 (.ops [⟨some 11, .move (Operand.tmp 1), none, 0⟩,
 ⟨some 12, .move (Operand.tmp 0), none, 0⟩,
 ⟨some 13, .move (Operand.tmp 5), none, 0⟩,
 ⟨some 14, .indexAddr 58 (Operand.tmp 12) (Operand.tmp 13), none, 0⟩,
 ⟨some 15, .load 23 (Operand.tmp 14), none, 0⟩,
 ⟨some 16, .call ⟨(Callee.value (Operand.tmp 11)), [(Operand.tmp 15)].toArray, #[23]⟩, none, 0⟩])
 (.cond (Operand.tmp 16)
 (.seq
 (.ops [⟨some 17, .move (Operand.tmp 5), none, 0⟩,
 ⟨some 4, .assign (Operand.tmp 17), none, 0⟩])
 .ret)
 .skip))))
 (.ops [⟨some 18, .binOp BinOp.add 3 (Operand.tmp 8) (Operand.const (Value.int IntKind.i64 1)) 3, none, 0⟩,
 ⟨some 8, .move (Operand.tmp 18), none, 0⟩])))))))
 (.seq
 (.ops [⟨some 4, .assign (Operand.const (Value.int IntKind.i64 (-1))), none, 0⟩])
 .ret)))
abbrev R117 : List ResultVar := [ResultVar.tmp 4]
theorem ok117 : FnOK Tryz.prog 117 L117 R117 2 := ⟨_, _, Tryz.func117, rfl, by kernel_rfl, by kernel_rfl, by kernel_rfl, by kernel_rfl, Nat.le_of_ble_eq_true (by kernel_rfl), by kernel_rfl⟩

/-- ablaut/script.clash$1 -/
def L118 : LCode :=
 (.seq
 (.ops [⟨some 2, .assign (Operand.const (Value.bool false)), none, 0⟩])
 (.seq
 (.ops [⟨some 3, .move (Operand.tmp 0), none, 0⟩,
 ⟨some 4, .call ⟨(Callee.builtin Builtin.len), [(Operand.tmp 3)].toArray, #[23]⟩, none, 0⟩,
 ⟨some 5, .binOp BinOp.eql 3 (Operand.tmp 4) (Operand.const (Value.int IntKind.i64 0)) 3, none, 0⟩,
 ⟨some 2, .assign (Operand.tmp 5), none, 0⟩])
 .ret))
abbrev R118 : List ResultVar := [ResultVar.tmp 2]
theorem ok118 : FnOK Tryz.prog 118 L118 R118 1 := ⟨_, _, Tryz.func118, rfl, by kernel_rfl, by kernel_rfl, by kernel_rfl, by kernel_rfl, Nat.le_of_ble_eq_true (by kernel_rfl), by kernel_rfl⟩

/-- slices.Delete[[]ablaut/script.race,ablaut/script.race] -/
def L119 : LCode :=
 (.seq
 (.ops [⟨some 6, .assign (Operand.const (Value.slice none 0 0)), none, 0⟩])
 (.seq
 (.ops [⟨some 8, .move (Operand.tmp 0), none, 0⟩,
 ⟨some 9, .move (Operand.tmp 1), none, 0⟩,
 ⟨some 10, .move (Operand.tmp 2), none, 0⟩,
 ⟨some 11, .move (Operand.tmp 0), none, 0⟩,
 ⟨some 12, .call ⟨(Callee.builtin Builtin.len), [(Operand.tmp 11)].toArray, #[164]⟩, none, 0⟩,
 ⟨some 13, .slice 164 (Operand.tmp 8) (some (Operand.tmp 9)) (some (Operand.tmp 10)) (some (Operand.tmp 12)), none, 0⟩])
 (.seq
 (.seq
 (.ops [⟨some 14, .move (Operand.tmp 1), none, 0⟩,
 ⟨some 15, .move (Operand.tmp 2), none, 0⟩,
 ⟨some 16, .binOp BinOp.eql 3 (Operand.tmp 14) (Operand.tmp 15) 3, none, 0⟩])
 (.cond (Operand.tmp 16)
 (.seq
 (.ops [⟨some 17, .move (Operand.tmp 0), none, 0⟩,
 ⟨some 6, .assign (Operand.tmp 17), none, 0⟩])
 .ret)
 .skip))
 (.seq
 (.ops [⟨some 18, .move (Operand.tmp 0), none, 0⟩,
 ⟨some 19, .call ⟨(Callee.builtin Builtin.len), [(Operand.tmp 18)].toArray, #[164]⟩, none, 0⟩,
 ⟨some 7, .assign (Operand.tmp 19), none, 0⟩])
 (.seq
 (.draw [⟨some 20, .move (Operand.tmp 0), none, 0⟩,
 ⟨some 21, .move (Operand.tmp 1), none, 0⟩,
 ⟨some 22, .slice 164 (Operand.tmp 20) none (some (Operand.tmp 21)) none, none, 0⟩,
 ⟨some 23, .move (Operand.tmp 0), none, 0⟩,
 ⟨some 24, .move (Operand.tmp 2), none, 0⟩,
 ⟨some 25, .slice 164 (Operand.tmp 23) (some (Operand.tmp 24)) none none, none, 0⟩,
 ⟨some 26, .call ⟨(Callee.builtin Builtin.append), [(Operand.tmp 22), (Operand.tmp 25)].toArray, #[164, 164]⟩, none, 0⟩,
 ⟨some 0, .assign (Operand.tmp 26), none, 0⟩] true [6, 7] [0, 1, 3, 4, 2, 5, 6, 7])
 (.seq
 (.ops [⟨some 27, .move (Operand.tmp 0), none, 0⟩,
 ⟨some 28, .move (Operand.tmp 0), none, 0⟩,
 ⟨some 29, .call ⟨(Callee.builtin Builtin.len), [(Operand.tmp 28)].toArray, #[164]⟩, none, 0⟩,
 ⟨some 30, .move (Operand.tmp 7), none, 0⟩,
 ⟨some 31, .slice 164 (Operand.tmp 27) (some (Operand.tmp 29)) (some (Operand.tmp 30)) none, none, 0⟩,
 ⟨none, .call ⟨(Callee.builtin Builtin.clear), [(Operand.tmp 31)].toArray, #[164]⟩, none, 0⟩])
 (.seq
 (.ops [⟨some 32, .move (Operand.tmp 0), none, 0⟩,
 ⟨some 6, .assign (Operand.tmp 32), none, 0⟩])
 .ret)))))))
abbrev R119 : List ResultVar := [ResultVar.tmp 6]
theorem ok119 : FnOK Tryz.prog 119 L119 R119 3 := ⟨_, _, Tryz.func119, rfl, by kernel_rfl, by kernel_rfl, by kernel_rfl, by kernel_rfl, Nat.le_of_ble_eq_true (by kernel_rfl), by kernel_rfl⟩

/-- slices.Clone[[]int,int] -/
def L120 : LCode :=
 (.seq
 (.ops [⟨some 2, .assign (Operand.const (Value.slice none 0 0)), none, 0⟩])
 (.seq
 (.seq
 (.ops [⟨some 3, .move (Operand.tmp 0), none, 0⟩,
 ⟨some 4, .binOp BinOp.eql 39 (Operand.tmp 3) (Operand.const (Value.slice none 0 0)) 39, none, 0⟩])
 (.cond (Operand.tmp 4)
 (.seq
 (.ops [⟨some 2, .assign (Operand.const (Value.slice none 0 0)), none, 0⟩])
 .ret)
 .skip))
 (.seq
 (.ops [⟨some 5, .buildSlice 39 0 [].toArray, none, 0⟩,
 ⟨some 6, .move (Operand.tmp 0), none, 0⟩,
 ⟨some 7, .call ⟨(Callee.builtin Builtin.append), [(Operand.tmp 5), (Operand.tmp 6)].toArray, #[39, 39]⟩, none, 0⟩,
 ⟨some 2, .assign (Operand.tmp 7), none, 0⟩])
 .ret)))
abbrev R120 : List ResultVar := [ResultVar.tmp 2]
theorem ok120 : FnOK Tryz.prog 120 L120 R120 1 := ⟨_, _, Tryz.func120, rfl, by kernel_rfl, by kernel_rfl, by kernel_rfl, by kernel_rfl, Nat.le_of_ble_eq_true (by kernel_rfl), by kernel_rfl⟩

/-- (*ablaut/ablautref25.best).put -/
def L121 : LCode :=
 (.seq
 (.ops [⟨some 6, .assign (Operand.const (Value.bool false)), none, 0⟩])
 (.seq
 (.seq
 (.ops [⟨some 7, .assign (Operand.const (Value.int IntKind.i64 0)), none, 0⟩])
 (.block 0
 (.loop
 (.seq
 (.seq
 (.ops [⟨some 8, .move (Operand.tmp 7), none, 0⟩,
 ⟨some 9, .move (Operand.tmp 0), none, 0⟩,
 ⟨some 10, .nilCheck (Operand.tmp 9), none, 0⟩,
 ⟨some 11, .fieldAddr 171 (Operand.tmp 10) 1, none, 0⟩,
 ⟨some 12, .load 58 (Operand.tmp 11), none, 0⟩,
 ⟨some 13, .call ⟨(Callee.builtin Builtin.len), [(Operand.tmp 12)].toArray, #[58]⟩, none, 0⟩,
 ⟨some 14, .binOp BinOp.lss 3 (Operand.tmp 8) (Operand.tmp 13) 3, none, 0⟩])
 (.cond (Operand.tmp 14)
 .skip
 (.exit 0)))
 (.seq
 (.block 1
 (.seq
 (.ops [⟨some 17, .move (Operand.tmp 0), none, 0⟩,
 ⟨some 18, .nilCheck (Operand.tmp 17), none, 0⟩,
 ⟨some 19, .fieldAddr 171 (Operand.tmp 18) 1, none, 0⟩,
 ⟨some 20, .load 58 (Operand.tmp 19), none, 0⟩,
 ⟨some 21, .move (Operand.tmp 7), none, 0⟩,
 ⟨some 22, .indexAddr 58 (Operand.tmp 20) (Operand.tmp 21), none, 0⟩,
 ⟨some 23, .load 23 (Operand.tmp 22), none, 0⟩,
 ⟨some 24, .move (Operand.tmp 1), none, 0⟩,
 ⟨some 25, .call ⟨(Callee.value (Operand.func 15)), [(Operand.tmp 23), (Operand.tmp 24)].toArray, #[23, 23]⟩, none, 0⟩])
 (.cond (Operand.tmp 25)
 (.seq
 (.seq
 (.ops [⟨some 26, .move (Operand.tmp 0), none, 0⟩,
 ⟨some 27, .nilCheck (Operand.tmp 26), none, 0⟩,
 ⟨some 28, .fieldAddr 171 (Operand.tmp 27) 2, none, 0⟩,
 ⟨some 29, .load 39 (Operand.tmp 28), none, 0⟩,
 ⟨some 30, .move (Operand.tmp 7), none, 0⟩,
 ⟨some 31, .indexAddr 39 (Operand.tmp 29) (Operand.tmp 30), none, 0⟩,
 ⟨some 32, .load 3 (Operand.tmp 31), none, 0⟩,
 ⟨some 33, .move (Operand.tmp 2), none, 0⟩,
 ⟨some 34, .binOp BinOp.leq 3 (Operand.tmp 32) (Operand.tmp 33) 3, none, 0⟩])
 (.cond (Operand.tmp 34)
 (.seq
 (.ops [⟨some 6, .assign (Operand.const (Value.bool false)), none, 0⟩])
 .ret)
 .skip))
 (.seq
 (.ops [⟨some 35, .move (Operand.tmp 0), none, 0⟩,
 ⟨some 36, .nilCheck (Operand.tmp 35), none, 0⟩,
 ⟨some 37, .fieldAddr 171 (Operand.tmp 36) 2, none, 0⟩,
 ⟨some 38, .load 39 (Operand.tmp 37), none, 0⟩,
 ⟨some 39, .move (Operand.tmp 7), none, 0⟩,
 ⟨some 40, .move (Operand.tmp 2), none, 0⟩,
 ⟨some 41, .indexAddr 39 (Operand.tmp 38) (Operand.tmp 39), none, 0⟩,
 ⟨none, .store 3 (Operand.tmp 41) (Operand.tmp 40), none, 0⟩])
 (.seq
 (.ops [⟨some 6, .assign (Operand.const (Value.bool true)), none, 0⟩])
 .ret)))
 .skip)))
 (.ops [⟨some 15, .move (Operand.tmp 7), none, 0⟩,
 ⟨some 16, .binOp BinOp.add 3 (Operand.tmp 15) (Operand.const (Value.int IntKind.i64 1)) 3, none, 0⟩,
 ⟨some 7, .assign (Operand.tmp 16), none, 0⟩]))))))
 (.seq
 (.ops [⟨some 42, .move (Operand.tmp 0), none, 0⟩,
 ⟨some 43, .move (Operand.tmp 0), none, 0⟩,
 ⟨some 44, .nilCheck (Operand.tmp 43), none, 0⟩,
 ⟨some 45, .fieldAddr 171 (Operand.tmp 44) 1, none, 0⟩,
 ⟨some 46, .load 58 (Operand.tmp 45), none, 0⟩,
 ⟨some 47, .move (Operand.tmp 1), none, 0⟩,
 ⟨some 48, .buildSlice 58 1 [(0, (Operand.tmp 47))].toArray, none, 0⟩,
 ⟨some 49, .call ⟨(Callee.builtin Builtin.append), [(Operand.tmp 46), (Operand.tmp 48)].toArray, #[58, 58]⟩, none, 0⟩,
 ⟨some 50, .nilCheck (Operand.tmp 42), none, 0⟩,
 ⟨some 51, .fieldAddr 171 (Operand.tmp 50) 1, none, 0⟩,
 ⟨none, .store 58 (Operand.tmp 51) (Operand.tmp 49), none, 0⟩])
 (.seq
 (.ops [⟨some 52, .move (Operand.tmp 0), none, 0⟩,
 ⟨some 53, .move (Operand.tmp 0), none, 0⟩,
 ⟨some 54, .nilCheck (Operand.tmp 53), none, 0⟩,
 ⟨some 55, .fieldAddr 171 (Operand.tmp 54) 2, none, 0⟩,
 ⟨some 56, .load 39 (Operand.tmp 55), none, 0⟩,
 ⟨some 57, .move (Operand.tmp 2), none, 0⟩,
 ⟨some 58, .buildSlice 39 1 [(0, (Operand.tmp 57))].toArray, none, 0⟩,
 ⟨some 59, .call ⟨(Callee.builtin Builtin.append), [(Operand.tmp 56), (Operand.tmp 58)].toArray, #[39, 39]⟩, none, 1⟩,
 ⟨some 60, .nilCheck (Operand.tmp 52), none, 0⟩,
 ⟨some 61, .fieldAddr 171 (Operand.tmp 60) 2, none, 0⟩,
 ⟨none, .store 39 (Operand.tmp 61) (Operand.tmp 59), none, 0⟩])
 (.seq
 (.ops [⟨some 6, .assign (Operand.const (Value.bool true)), none, 0⟩])
 .ret)))))
abbrev R121 : List ResultVar := [ResultVar.tmp 6]
theorem ok121 : FnOK Tryz.prog 121 L121 R121 3 := ⟨_, _, Tryz.func121, rfl, by kernel_rfl, by kernel_rfl, by kernel_rfl, by kernel_rfl, Nat.le_of_ble_eq_true (by kernel_rfl), by kernel_rfl⟩

/-- (*strings.Builder).WriteString -/
def L122 : LCode :=
 (.seq
 (.ops [⟨some 4, .assign (Operand.const (Value.int IntKind.i64 0)), none, 0⟩,
 ⟨some 5, .assign (Operand.const Value.nilIface), none, 0⟩])
 (.seq
 (.ops [⟨some 6, .move (Operand.tmp 0), none, 0⟩,
 ⟨some 7, .call ⟨(Callee.value (Operand.func 162)), [(Operand.tmp 6)].toArray, #[173]⟩, none, 0⟩])
 (.seq
 (.ops [⟨some 8, .move (Operand.tmp 0), none, 0⟩,
 ⟨some 9, .move (Operand.tmp 0), none, 0⟩,
 ⟨some 10, .nilCheck (Operand.tmp 9), none, 0⟩,
 ⟨some 11, .fieldAddr 176 (Operand.tmp 10) 1, none, 0⟩,
 ⟨some 12, .load 174 (Operand.tmp 11), none, 0⟩,
 ⟨some 13, .move (Operand.tmp 1), none, 0⟩,
 ⟨some 14, .call ⟨(Callee.builtin Builtin.append), [(Operand.tmp 12), (Operand.tmp 13)].toArray, #[174, 9]⟩, none, 0⟩,
 ⟨some 15, .nilCheck (Operand.tmp 8), none, 0⟩,
 ⟨some 16, .fieldAddr 176 (Operand.tmp 15) 1, none, 0⟩,
 ⟨none, .store 174 (Operand.tmp 16) (Operand.tmp 14), none, 0⟩])
 (.seq
 (.ops [⟨some 17, .move (Operand.tmp 1), none, 0⟩,
 ⟨some 18, .call ⟨(Callee.builtin Builtin.len), [(Operand.tmp 17)].toArray, #[9]⟩, none, 0⟩,
 ⟨some 4, .assign (Operand.tmp 18), none, 0⟩,
 ⟨some 5, .assign (Operand.const Value.nilIface), none, 0⟩])
 .ret))))
abbrev R122 : List ResultVar := [ResultVar.tmp 4, ResultVar.tmp 5]
theorem ok122 : FnOK Tryz.prog 122 L122 R122 2 := ⟨_, _, Tryz.func122, rfl, by kernel_rfl, by kernel_rfl, by kernel_rfl, by kernel_rfl, Nat.le_of_ble_eq_true (by kernel_rfl), by kernel_rfl⟩

/-- (*strings.Builder).String -/
def L124 : LCode :=
 (.seq
 (.ops [⟨some 2, .assign (Operand.const (Value.string ⟨#[]⟩)), none, 0⟩])
 (.seq
 (.draw [⟨some 3, .move (Operand.tmp 0), none, 0⟩,
 ⟨some 4, .nilCheck (Operand.tmp 3), none, 0⟩,
 ⟨some 5, .fieldAddr 176 (Operand.tmp 4) 1, none, 0⟩,
 ⟨some 6, .load 174 (Operand.tmp 5), none, 0⟩,
 ⟨some 7, .call ⟨(Callee.builtin Builtin.unsafeSliceData), [(Operand.tmp 6)].toArray, #[174]⟩, none, 0⟩,
 ⟨some 8, .move (Operand.tmp 0), none, 0⟩,
 ⟨some 9, .nilCheck (Operand.tmp 8), none, 0⟩,
 ⟨some 10, .fieldAddr 176 (Operand.tmp 9) 1, none, 0⟩,
 ⟨some 11, .load 174 (Operand.tmp 10), none, 0⟩,
 ⟨some 12, .call ⟨(Callee.builtin Builtin.len), [(Operand.tmp 11)].toArray, #[174]⟩, none, 0⟩,
 ⟨some 13, .call ⟨(Callee.builtin Builtin.unsafeString), [(Operand.tmp 7), (Operand.tmp 12)].toArray, #[214, 3]⟩, none, 0⟩,
 ⟨some 2, .assign (Operand.tmp 13), none, 0⟩] true [10, 11] [])
 .ret))
abbrev R124 : List ResultVar := [ResultVar.tmp 2]
theorem ok124 : FnOK Tryz.prog 124 L124 R124 1 := ⟨_, _, Tryz.func124, rfl, by kernel_rfl, by kernel_rfl, by kernel_rfl, by kernel_rfl, Nat.le_of_ble_eq_true (by kernel_rfl), by kernel_rfl⟩

/-- strings.genSplit -/
def L127 : LCode :=
 (.seq
 (.ops [⟨some 8, .assign (Operand.const (Value.slice none 0 0)), none, 0⟩])
 (.seq
 (.seq
 (.ops [⟨some 12, .move (Operand.tmp 3), none, 0⟩,
 ⟨some 13, .binOp BinOp.eql 3 (Operand.tmp 12) (Operand.const (Value.int IntKind.i64 0)) 3, none, 0⟩])
 (.cond (Operand.tmp 13)
 (.seq
 (.ops [⟨some 8, .assign (Operand.const (Value.slice none 0 0)), none, 0⟩])
 .ret)
 .skip))
 (.seq
 (.seq
 (.ops [⟨some 14, .move (Operand.tmp 1), none, 0⟩,
 ⟨some 15, .binOp BinOp.eql 9 (Operand.tmp 14) (Operand.const (Value.string ⟨#[]⟩)) 9, none, 0⟩])
 (.cond (Operand.tmp 15)
 (.seq
 (.ops [⟨some 16, .move (Operand.tmp 0), none, 0⟩,
 ⟨some 17, .move (Operand.tmp 3), none, 0⟩,
 ⟨some 18, .call ⟨(Callee.value (Operand.func 164)), [(Operand.tmp 16), (Operand.tmp 17)].toArray, #[9, 3]⟩, none, 0⟩,
 ⟨some 8, .assign (Operand.tmp 18), none, 0⟩])
 .ret)
 .skip))
 (.seq
 (.seq
 (.ops [⟨some 19, .move (Operand.tmp 3), none, 0⟩,
 ⟨some 20, .binOp BinOp.lss 3 (Operand.tmp 19) (Operand.const (Value.int IntKind.i64 0)) 3, none, 0⟩])
 (.cond (Operand.tmp 20)
 (.ops [⟨some 21, .move (Operand.tmp 0), none, 0⟩,
 ⟨some 22, .move (Operand.tmp 1), none, 0⟩,
 ⟨some 23, .call ⟨(Callee.value (Operand.func 165)), [(Operand.tmp 21), (Operand.tmp 22)].toArray, #[9, 9]⟩, none, 0⟩,
 ⟨some 24, .binOp BinOp.add 3 (Operand.tmp 23) (Operand.const (Value.int IntKind.i64 1)) 3, none, 0⟩,
 ⟨some 3, .assign (Operand.tmp 24), none, 0⟩])
 .skip))
 (.seq
 (.ops [⟨some 25, .move (Operand.tmp 3), none, 0⟩,
 ⟨some 26, .move (Operand.tmp 0), none, 0⟩,
 ⟨some 27, .call ⟨(Callee.builtin Builtin.len), [(Operand.tmp 26)].toArray, #[9]⟩, none, 0⟩,
 ⟨some 28, .binOp BinOp.add 3 (Operand.tmp 27) (Operand.const (Value.int IntKind.i64 1)) 3, none, 0⟩,
 ⟨some 29, .call ⟨(Callee.builtin Builtin.min), [(Operand.tmp 25), (Operand.tmp 28)].toArray, #[3, 3]⟩, none, 0⟩,
 ⟨some 3, .assign (Operand.tmp 29), none, 0⟩])
 (.seq
 (.ops [⟨some 30, .move (Operand.tmp 3), none, 0⟩,
 ⟨some 31, .makeSlice 23 (Operand.tmp 30) (Operand.tmp 30), none, 0⟩,
 ⟨some 9, .assign (Operand.tmp 31), none, 0⟩])
 (.seq
 (.ops [⟨some 32, .move (Operand.tmp 3), none, 0⟩,
 ⟨some 33, .binOp BinOp.sub 3 (Operand.tmp 32) (Operand.const (Value.int IntKind.i64 1)) 3, none, 0⟩,
 ⟨some 3, .assign (Operand.tmp 33), none, 0⟩])
 (.seq
 (.ops [⟨some 10, .assign (Operand.const (Value.int IntKind.i64 0)), none, 0⟩])
 (.seq
 (.block 0
 (.loop
 (.seq
 (.seq
 (.ops [⟨some 34, .move (Operand.tmp 10), none, 0⟩,
 ⟨some 35, .move (Operand.tmp 3), none, 0⟩,
 ⟨some 36, .binOp BinOp.lss 3 (Operand.tmp 34) (Operand.tmp 35) 3, none, 0⟩])
 (.cond (Operand.tmp 36)
 .skip
 (.exit 0)))
 (.block 1
 (.seq
 (.ops [⟨some 37, .move (Operand.tmp 0), none, 0⟩,
 ⟨some 38, .move (Operand.tmp 1), none, 0⟩,
 ⟨some 39, .call ⟨(Callee.value (Operand.func 166)), [(Operand.tmp 37), (Operand.tmp 38)].toArray, #[9, 9]⟩, none, 0⟩,
 ⟨some 11, .assign (Operand.tmp 39), none, 0⟩])
 (.seq
 (.seq
 (.ops [⟨some 40, .move (Operand.tmp 11), none, 0⟩,
 ⟨some 41, .binOp BinOp.lss 3 (Operand.tmp 40) (Operand.const (Value.int IntKind.i64 0)) 3, none, 0⟩])
 (.cond (Operand.tmp 41)
 (.exit 0)
 .skip))
 (.seq
 (.ops [⟨some 42, .move (Operand.tmp 9), none, 0⟩,
 ⟨some 43, .move (Operand.tmp 10), none, 0⟩,
 ⟨some 44, .move (Operand.tmp 0), none, 0⟩,
 ⟨some 45, .move (Operand.tmp 11), none, 0⟩,
 ⟨some 46, .move (Operand.tmp 2), none, 0⟩,
 ⟨some 47, .binOp BinOp.add 3 (Operand.tmp 45) (Operand.tmp 46) 3, none, 0⟩,
 ⟨some 48, .slice 9 (Operand.tmp 44) none (some (Operand.tmp 47)) none, none, 0⟩,
 ⟨some 49, .indexAddr 23 (Operand.tmp 42) (Operand.tmp 43), none, 0⟩,
 ⟨none, .store 9 (Operand.tmp 49) (Operand.tmp 48), none, 0⟩])
 (.seq
 (.ops [⟨some 50, .move (Operand.tmp 0), none, 0⟩,
 ⟨some 51, .move (Operand.tmp 11), none, 0⟩,
 ⟨some 52, .move (Operand.tmp 1), none, 0⟩,
 ⟨some 53, .call ⟨(Callee.builtin Builtin.len), [(Operand.tmp 52)].toArray, #[9]⟩, none, 0⟩,
 ⟨some 54, .binOp BinOp.add 3 (Operand.tmp 51) (Operand.tmp 53) 3, none, 0⟩,
 ⟨some 55, .slice 9 (Operand.tmp 50) (some (Operand.tmp 54)) none none, none, 0⟩,
 ⟨some 0, .assign (Operand.tmp 55), none, 0⟩])
 (.ops [⟨some 56, .move (Operand.tmp 10), none, 0⟩,
 ⟨some 57, .binOp BinOp.add 3 (Operand.tmp 56) (Operand.const (Value.int IntKind.i64 1)) 3, none, 0⟩,
 ⟨some 10, .assign (Operand.tmp 57), none, 0⟩])))))))))
 (.seq
 (.ops [⟨some 58, .move (Operand.tmp 9), none, 0⟩,
 ⟨some 59, .move (Operand.tmp 10), none, 0⟩,
 ⟨some 60, .move (Operand.tmp 0), none, 0⟩,
 ⟨some 61, .indexAddr 23 (Operand.tmp 58) (Operand.tmp 59), none, 0⟩,
 ⟨none, .store 9 (Operand.tmp 61) (Operand.tmp 60), none, 0⟩])
 (.seq
 (.ops [⟨some 62, .move (Operand.tmp 9), none, 0⟩,
 ⟨some 63, .move (Operand.tmp 10), none, 0⟩,
 ⟨some 64, .binOp BinOp.add 3 (Operand.tmp 63) (Operand.const (Value.int IntKind.i64 1)) 3, none, 0⟩,
 ⟨some 65, .slice 23 (Operand.tmp 62) none (some (Operand.tmp 64)) none, none, 0⟩,
 ⟨some 8, .assign (Operand.tmp 65), none, 0⟩])
 .ret)))))))))))
abbrev R127 : List ResultVar := [ResultVar.tmp 8]
theorem ok127 : FnOK Tryz.prog 127 L127 R127 4 := ⟨_, _, Tryz.func127, rfl, by kernel_rfl, by kernel_rfl, by kernel_rfl, by kernel_rfl, Nat.le_of_ble_eq_true (by kernel_rfl), by kernel_rfl⟩

/-- slices.IndexFunc[[]ablaut/api.Shift,ablaut/api.Shift] -/
def L129 : LCode :=
 (.seq
 (.ops [⟨some 4, .assign (Operand.const (Value.int IntKind.i64 0)), none, 0⟩])
 (.seq
 (.seq
 (.ops [⟨some 6, .move (Operand.tmp 0), none, 0⟩,
 ⟨some 7, .call ⟨(Callee.builtin Builtin.len), [(Operand.tmp 6)].toArray, #[22]⟩, none, 0⟩,
 ⟨some 8, .move (Operand.const (Value.int IntKind.i64 0)), none, 0⟩])
 (.block 0
 (.loop
 (.seq
 (.ops [⟨some 9, .binOp BinOp.lss 3 (Operand.tmp 8) (Operand.tmp 7) 3, none, 0⟩])
 (.seq
 (.cond (Operand.tmp 9)
 .skip
 (.exit 0))
 (.seq
 (.block 1
 (.seq
 (.ops [⟨some 10, .move (Operand.tmp 8), none, 0⟩,
 ⟨some 5, .assign (Operand.tmp 10), none, 0⟩])
 (.seq
 (.ops [⟨some 11, .move (Operand.tmp 1), none, 0⟩,
 ⟨some 12, .move (Operand.tmp 0), none, 0⟩,
 ⟨some 13, .move (Operand.tmp 5), none, 0⟩,
 ⟨some 14, .indexAddr 22 (Operand.tmp 12) (Operand.tmp 13), none, 0⟩,
 ⟨some 15, .load 67 (Operand.tmp 14), none, 0⟩,
 ⟨some 16, .call ⟨(Callee.value (Operand.tmp 11)), [(Operand.tmp 15)].toArray, #[67]⟩, none, 0⟩])
 (.cond (Operand.tmp 16)
 (.seq
 (.ops [⟨some 17, .move (Operand.tmp 5), none, 0⟩,
 ⟨some 4, .assign (Operand.tmp 17), none, 0⟩])
 .ret)
 .skip))))
 (.ops [⟨some 18, .binOp BinOp.add 3 (Operand.tmp 8) (Operand.const (Value.int IntKind.i64 1)) 3, none, 0⟩,
 ⟨some 8, .move (Operand.tmp 18), none, 0⟩])))))))
 (.seq
 (.ops [⟨some 4, .assign (Operand.const (Value.int IntKind.i64 (-1))), none, 0⟩])
 .ret)))
abbrev R129 : List ResultVar := [ResultVar.tmp 4]
theorem ok129 : FnOK Tryz.prog 129 L129 R129 2 := ⟨_, _, Tryz.func129, rfl, by kernel_rfl, by kernel_rfl, by kernel_rfl, by kernel_rfl, Nat.le_of_ble_eq_true (by kernel_rfl), by kernel_rfl⟩

/-- ablaut/syms.ValidateWord$1 -/
def L141 : LCode :=
 (.seq
 (.ops [⟨some 2, .assign (Operand.const (Value.bool false)), none, 0⟩])
 (.seq
 (.ops [⟨some 3, .move (Operand.tmp 0), none, 0⟩,
 ⟨some 4, .call ⟨(Callee.value (Operand.func 94)), [(Operand.tmp 3)].toArray, #[9]⟩, none, 0⟩,
 ⟨some 5, .unOp UnOp.not 4 (Operand.tmp 4), none, 0⟩,
 ⟨some 2, .assign (Operand.tmp 5), none, 0⟩])
 .ret))
abbrev R141 : List ResultVar := [ResultVar.tmp 2]
theorem ok141 : FnOK Tryz.prog 141 L141 R141 1 := ⟨_, _, Tryz.func141, rfl, by kernel_rfl, by kernel_rfl, by kernel_rfl, by kernel_rfl, Nat.le_of_ble_eq_true (by kernel_rfl), by kernel_rfl⟩

/-- slices.IndexFunc[[]string,string] -/
def L142 : LCode :=
 (.seq
 (.ops [⟨some 4, .assign (Operand.const (Value.int IntKind.i64 0)), none, 0⟩])
 (.seq
 (.seq
 (.ops [⟨some 6, .move (Operand.tmp 0), none, 0⟩,
 ⟨some 7, .call ⟨(Callee.builtin Builtin.len), [(Operand.tmp 6)].toArray, #[23]⟩, none, 0⟩,
 ⟨some 8, .move (Operand.const (Value.int IntKind.i64 0)), none, 0⟩])
 (.block 0
 (.loop
 (.seq
 (.ops [⟨some 9, .binOp BinOp.lss 3 (Operand.tmp 8) (Operand.tmp 7) 3, none, 0⟩])
 (.seq
 (.cond (Operand.tmp 9)
 .skip
 (.exit 0))
 (.seq
 (.block 1
 (.seq
 (.ops [⟨some 10, .move (Operand.tmp 8), none, 0⟩,
 ⟨some 5, .assign (Operand.tmp 10), none, 0⟩])
 (.seq
 (.ops [⟨some 11, .move (Operand.tmp 1), none, 0⟩,
 ⟨some 12, .move (Operand.tmp 0), none, 0⟩,
 ⟨some 13, .move (Operand.tmp 5), none, 0⟩,
 ⟨some 14, .indexAddr 23 (Operand.tmp 12) (Operand.tmp 13), none, 0⟩,
 ⟨some 15, .load 9 (Operand.tmp 14), none, 0⟩,
 ⟨some 16, .call ⟨(Callee.value (Operand.tmp 11)), [(Operand.tmp 15)].toArray, #[9]⟩, none, 0⟩])
 (.cond (Operand.tmp 16)
 (.seq
 (.ops [⟨some 17, .move (Operand.tmp 5), none, 0⟩,
 ⟨some 4, .assign (Operand.tmp 17), none, 0⟩])
 .ret)
 .skip))))
 (.ops [⟨some 18, .binOp BinOp.add 3 (Operand.tmp 8) (Operand.const (Value.int IntKind.i64 1)) 3, none, 0⟩,
 ⟨some 8, .move (Operand.tmp 18), none, 0⟩])))))))
 (.seq
 (.ops [⟨some 4, .assign (Operand.const (Value.int IntKind.i64 (-1))), none, 0⟩])
 .ret)))
abbrev R142 : List ResultVar := [ResultVar.tmp 4]
theorem ok142 : FnOK Tryz.prog 142 L142 R142 2 := ⟨_, _, Tryz.func142, rfl, by kernel_rfl, by kernel_rfl, by kernel_rfl, by kernel_rfl, Nat.le_of_ble_eq_true (by kernel_rfl), by kernel_rfl⟩

/-- ablaut/script.fit -/
def L144 : LCode :=
 (.seq
 (.ops [⟨some 4, .assign (Operand.const (Value.int IntKind.i64 0)), none, 0⟩])
 (.seq
 (.ops [⟨some 5, .assign (Operand.const (Value.int IntKind.i64 (-1))), none, 0⟩])
 (.seq
 (.seq
 (.ops [⟨some 8, .move (Operand.tmp 0), none, 0⟩,
 ⟨some 9, .call ⟨(Callee.builtin Builtin.len), [(Operand.tmp 8)].toArray, #[22]⟩, none, 0⟩,
 ⟨some 10, .move (Operand.const (Value.int IntKind.i64 0)), none, 0⟩])
 (.block 0
 (.loop
 (.seq
 (.ops [⟨some 11, .binOp BinOp.lss 3 (Operand.tmp 10) (Operand.tmp 9) 3, none, 0⟩])
 (.seq
 (.cond (Operand.tmp 11)
 .skip
 (.exit 0))
 (.seq
 (.block 1
 (.seq
 (.ops [⟨some 12, .move (Operand.tmp 10), none, 0⟩,
 ⟨some 13, .indexAddr 22 (Operand.tmp 8) (Operand.tmp 10), none, 0⟩,
 ⟨some 14, .load 67 (Operand.tmp 13), none, 0⟩,
 ⟨some 7, .alloc 67, none, 0⟩,
 ⟨some 6, .assign (Operand.tmp 12), none, 0⟩,
 ⟨none, .store 67 (Operand.tmp 7) (Operand.tmp 14), none, 0⟩])
 (.seq
 (.draw [⟨some 15, .move (Operand.tmp 1), none, 0⟩,
 ⟨some 16, .fieldAddr 67 (Operand.tmp 7) 0, none, 0⟩,
 ⟨some 17, .load 23 (Operand.tmp 16), none, 0⟩,
 ⟨some 18, .call ⟨(Callee.value (Operand.func 83)), [(Operand.tmp 15), (Operand.tmp 17)].toArray, #[23, 23]⟩, none, 0⟩,
 ⟨some 19, .move (Operand.tmp 18), none, 0⟩,
 ⟨some 20, .move (Operand.tmp 5), some (19, true), 0⟩,
 ⟨some 21, .binOp BinOp.lss 3 (Operand.tmp 20) (Operand.const (Value.int IntKind.i64 0)) 3, some (19, true), 0⟩,
 ⟨some 22, .move (Operand.tmp 21), some (19, true), 0⟩,
 ⟨some 23, .fieldAddr 67 (Operand.tmp 7) 0, some (22, false), 0⟩,
 ⟨some 24, .load 23 (Operand.tmp 23), some (22, false), 0⟩,
 ⟨some 25, .call ⟨(Callee.builtin Builtin.len), [(Operand.tmp 24)].toArray, #[23]⟩, some (22, false), 0⟩,
 ⟨some 26, .move (Operand.tmp 0), some (22, false), 0⟩,
 ⟨some 27, .move (Operand.tmp 5), some (22, false), 0⟩,
 ⟨some 28, .indexAddr 22 (Operand.tmp 26) (Operand.tmp 27), some (22, false), 0⟩,
 ⟨some 29, .fieldAddr 67 (Operand.tmp 28) 0, some (22, false), 0⟩,
 ⟨some 30, .load 23 (Operand.tmp 29), some (22, false), 0⟩,
 ⟨some 31, .call ⟨(Callee.builtin Builtin.len), [(Operand.tmp 30)].toArray, #[23]⟩, some (22, false), 0⟩,
 ⟨some 32, .binOp BinOp.gtr 3 (Operand.tmp 25) (Operand.tmp 31) 3, some (22, false), 0⟩,
 ⟨some 33, .pick (Operand.tmp 22) (Operand.const (Value.bool true)) (Operand.tmp 32), some (19, true), 0⟩,
 ⟨some 34, .pick (Operand.tmp 19) (Operand.tmp 33) (Operand.const (Value.bool false)), none, 0⟩] true [17, 18, 19] [0, 1, 2, 3, 4, 5, 6, 7, 8, 9, 10, 11, 12, 13, 14, 15, 16, 17, 18, 19])
 (.cond (Operand.tmp 34)
 (.ops [⟨some 35, .move (Operand.tmp 6), none, 0⟩,
 ⟨some 5, .assign (Operand.tmp 35), none, 0⟩])
 .skip))))
 (.ops [⟨some 36, .binOp BinOp.add 3 (Operand.tmp 10) (Operand.const (Value.int IntKind.i64 1)) 3, none, 0⟩,
 ⟨some 10, .move (Operand.tmp 36), none, 0⟩])))))))
 (.seq
 (.ops [⟨some 37, .move (Operand.tmp 5), none, 0⟩,
 ⟨some 4, .assign (Operand.tmp 37), none, 0⟩])
 .ret))))
abbrev R144 : List ResultVar := [ResultVar.tmp 4]
theorem ok144 : FnOK Tryz.prog 144 L144 R144 2 := ⟨_, _, Tryz.func144, rfl, by kernel_rfl, by kernel_rfl, by kernel_rfl, by kernel_rfl, Nat.le_of_ble_eq_true (by kernel_rfl), by kernel_rfl⟩

/-- ablaut/script.waits$1 -/
def L146 : LCode :=
 (.seq
 (.ops [⟨some 2, .box 67 (Operand.tmp 0), none, 0⟩,
 ⟨some 3, .assign (Operand.const (Value.bool false)), none, 0⟩])
 (.seq
 (.ops [⟨some 4, .fieldAddr 67 (Operand.tmp 2) 0, none, 0⟩,
 ⟨some 5, .load 23 (Operand.tmp 4), none, 0⟩,
 ⟨some 6, .call ⟨(Callee.builtin Builtin.len), [(Operand.tmp 5)].toArray, #[23]⟩, none, 0⟩,
 ⟨some 7, .load 23 (Operand.tmp 1), none, 0⟩,
 ⟨some 8, .call ⟨(Callee.builtin Builtin.len), [(Operand.tmp 7)].toArray, #[23]⟩, none, 0⟩,
 ⟨some 9, .binOp BinOp.gtr 3 (Operand.tmp 6) (Operand.tmp 8) 3, none, 0⟩,
 ⟨some 10, .move (Operand.tmp 9), none, 0⟩,
 ⟨some 11, .fieldAddr 67 (Operand.tmp 2) 0, some (10, true), 0⟩,
 ⟨some 12, .load 23 (Operand.tmp 11), some (10, true), 0⟩,
 ⟨some 13, .load 23 (Operand.tmp 1), some (10, true), 0⟩,
 ⟨some 14, .call ⟨(Callee.value (Operand.func 83)), [(Operand.tmp 12), (Operand.tmp 13)].toArray, #[23, 23]⟩, some (10, true), 0⟩,
 ⟨some 15, .pick (Operand.tmp 10) (Operand.tmp 14) (Operand.const (Value.bool false)), none, 0⟩,
 ⟨some 3, .assign (Operand.tmp 15), none, 0⟩])
 .ret))
abbrev R146 : List ResultVar := [ResultVar.tmp 3]
theorem ok146 : FnOK Tryz.prog 146 L146 R146 2 := ⟨_, _, Tryz.func146, rfl, by kernel_rfl, by kernel_rfl, by kernel_rfl, by kernel_rfl, Nat.le_of_ble_eq_true (by kernel_rfl), by kernel_rfl⟩

/-- (*strings.Builder).Grow -/
def L147 : LCode :=
 (.seq
 (.ops [⟨some 4, .move (Operand.tmp 0), none, 0⟩,
 ⟨some 5, .call ⟨(Callee.value (Operand.func 162)), [(Operand.tmp 4)].toArray, #[173]⟩, none, 0⟩])
 (.seq
 (.seq
 (.ops [⟨some 6, .move (Operand.tmp 1), none, 0⟩,
 ⟨some 7, .binOp BinOp.lss 3 (Operand.tmp 6) (Operand.const (Value.int IntKind.i64 0)) 3, none, 0⟩])
 (.cond (Operand.tmp 7)
 (.ops [⟨some 8, .makeInterface 9 (Operand.const (Value.string ⟨#[115, 116, 114, 105, 110, 103, 115, 46, 66, 117, 105, 108, 100, 101, 114, 46, 71, 114, 111, 119, 58, 32, 110, 101, 103, 97, 116, 105, 118, 101, 32, 99, 111, 117, 110, 116]⟩)), none, 0⟩,
 ⟨none, .panic (Operand.tmp 8), none, 0⟩])
 .skip))
 (.seq
 (.draw [⟨some 9, .move (Operand.tmp 0), none, 0⟩,
 ⟨some 10, .nilCheck (Operand.tmp 9), none, 0⟩,
 ⟨some 11, .fieldAddr 176 (Operand.tmp 10) 1, none, 0⟩,
 ⟨some 12, .load 174 (Operand.tmp 11), none, 0⟩,
 ⟨some 13, .call ⟨(Callee.builtin Builtin.cap), [(Operand.tmp 12)].toArray, #[174]⟩, none, 0⟩,
 ⟨some 14, .move (Operand.tmp 0), none, 0⟩,
 ⟨some 15, .nilCheck (Operand.tmp 14), none, 0⟩,
 ⟨some 16, .fieldAddr 176 (Operand.tmp 15) 1, none, 0⟩,
 ⟨some 17, .load 174 (Operand.tmp 16), none, 0⟩,
 ⟨some 18, .call ⟨(Callee.builtin Builtin.len), [(Operand.tmp 17)].toArray, #[174]⟩, none, 0⟩,
 ⟨some 19, .binOp BinOp.sub 3 (Operand.tmp 13) (Operand.tmp 18) 3, none, 0⟩,
 ⟨some 20, .move (Operand.tmp 1), none, 0⟩,
 ⟨some 21, .binOp BinOp.lss 3 (Operand.tmp 19) (Operand.tmp 20) 3, none, 0⟩] true [12] [])
 (.cond (Operand.tmp 21)
 (.ops [⟨some 22, .move (Operand.tmp 0), none, 0⟩,
 ⟨some 23, .move (Operand.tmp 1), none, 0⟩,
 ⟨some 24, .call ⟨(Callee.value (Operand.func 181)), [(Operand.tmp 22), (Operand.tmp 23)].toArray, #[173, 3]⟩, none, 0⟩])
 .skip))))
abbrev R147 : List ResultVar := []
theorem ok147 : FnOK Tryz.prog 147 L147 R147 2 := ⟨_, _, Tryz.func147, rfl, by kernel_rfl, by kernel_rfl, by kernel_rfl, by kernel_rfl, Nat.le_of_ble_eq_true (by kernel_rfl), by kernel_rfl⟩

/-- ablaut/ablautref01.IsSymbol -/
def L148 : LCode :=
 (.seq
 (.ops [⟨some 2, .assign (Operand.const (Value.bool false)), none, 0⟩])
 (.seq
 (.seq
 (.ops [⟨some 3, .assign (Operand.const (Value.int IntKind.i64 0)), none, 0⟩])
 (.block 0
 (.loop
 (.seq
 (.seq
 (.ops [⟨some 4, .move (Operand.tmp 3), none, 0⟩,
 ⟨some 5, .move (Operand.tmp 0), none, 0⟩,
 ⟨some 6, .call ⟨(Callee.builtin Builtin.len), [(Operand.tmp 5)].toArray, #[9]⟩, none, 0⟩,
 ⟨some 7, .binOp BinOp.lss 3 (Operand.tmp 4) (Operand.tmp 6) 3, none, 0⟩])
 (.cond (Operand.tmp 7)
 .skip
 (.exit 0)))
 (.seq
 (.block 1
 (.seq
 (.ops [⟨some 10, .move (Operand.tmp 0), none, 0⟩,
 ⟨some 11, .move (Operand.tmp 3), none, 0⟩,
 ⟨some 12, .index 9 (Operand.tmp 10) (Operand.tmp 11), none, 0⟩,
 ⟨some 13, .binOp BinOp.lss 5 (Operand.tmp 12) (Operand.const (Value.int IntKind.u8 33)) 5, none, 0⟩,
 ⟨some 14, .move (Operand.tmp 13), none, 0⟩,
 ⟨some 15, .move (Operand.tmp 0), some (14, false), 0⟩,
 ⟨some 16, .move (Operand.tmp 3), some (14, false), 0⟩,
 ⟨some 17, .index 9 (Operand.tmp 15) (Operand.tmp 16), some (14, false), 0⟩,
 ⟨some 18, .binOp BinOp.gtr 5 (Operand.tmp 17) (Operand.const (Value.int IntKind.u8 126)) 5, some (14, false), 0⟩,
 ⟨some 19, .pick (Operand.tmp 14) (Operand.const (Value.bool true)) (Operand.tmp 18), none, 0⟩,
 ⟨some 20, .move (Operand.tmp 19), none, 0⟩,
 ⟨some 21, .move (Operand.tmp 0), some (20, false), 0⟩,
 ⟨some 22, .move (Operand.tmp 3), some (20, false), 0⟩,
 ⟨some 23, .index 9 (Operand.tmp 21) (Operand.tmp 22), some (20, false), 0⟩,
 ⟨some 24, .binOp BinOp.eql 5 (Operand.tmp 23) (Operand.const (Value.int IntKind.u8 60)) 5, some (20, false), 0⟩,
 ⟨some 25, .pick (Operand.tmp 20) (Operand.const (Value.bool true)) (Operand.tmp 24), none, 0⟩,
 ⟨some 26, .move (Operand.tmp 25), none, 0⟩,
 ⟨some 27, .move (Operand.tmp 0), some (26, false), 0⟩,
 ⟨some 28, .move (Operand.tmp 3), some (26, false), 0⟩,
 ⟨some 29, .index 9 (Operand.tmp 27) (Operand.tmp 28), some (26, false), 0⟩,
 ⟨some 30, .binOp BinOp.eql 5 (Operand.tmp 29) (Operand.const (Value.int IntKind.u8 62)) 5, some (26, false), 0⟩,
 ⟨some 31, .pick (Operand.tmp 26) (Operand.const (Value.bool true)) (Operand.tmp 30), none, 0⟩])
 (.cond (Operand.tmp 31)
 (.seq
 (.ops [⟨some 2, .assign (Operand.const (Value.bool false)), none, 0⟩])
 .ret)
 .skip)))
 (.ops [⟨some 8, .move (Operand.tmp 3), none, 0⟩,
 ⟨some 9, .binOp BinOp.add 3 (Operand.tmp 8) (Operand.const (Value.int IntKind.i64 1)) 3, none, 0⟩,
 ⟨some 3, .assign (Operand.tmp 9), none, 0⟩]))))))
 (.seq
 (.ops [⟨some 32, .move (Operand.tmp 0), none, 0⟩,
 ⟨some 33, .call ⟨(Callee.builtin Builtin.len), [(Operand.tmp 32)].toArray, #[9]⟩, none, 0⟩,
 ⟨some 34, .binOp BinOp.geq 3 (Operand.tmp 33) (Operand.const (Value.int IntKind.i64 1)) 3, none, 0⟩,
 ⟨some 35, .move (Operand.tmp 34), none, 0⟩,
 ⟨some 36, .move (Operand.tmp 0), some (35, true), 0⟩,
 ⟨some 37, .call ⟨(Callee.builtin Builtin.len), [(Operand.tmp 36)].toArray, #[9]⟩, some (35, true), 0⟩,
 ⟨some 38, .binOp BinOp.leq 3 (Operand.tmp 37) (Operand.const (Value.int IntKind.i64 16)) 3, some (35, true), 0⟩,
 ⟨some 39, .pick (Operand.tmp 35) (Operand.tmp 38) (Operand.const (Value.bool false)), none, 0⟩,
 ⟨some 2, .assign (Operand.tmp 39), none, 0⟩])
 .ret)))
abbrev R148 : List ResultVar := [ResultVar.tmp 2]
theorem ok148 : FnOK Tryz.prog 148 L148 R148 1 := ⟨_, _, Tryz.func148, rfl, by kernel_rfl, by kernel_rfl, by kernel_rfl, by kernel_rfl, Nat.le_of_ble_eq_true (by kernel_rfl), by kernel_rfl⟩

/-- slices.insertionSortCmpFunc[ablaut/api.Shift] -/
def L150 : LCode :=
 (.seq
 (.ops [⟨some 10, .move (Operand.tmp 1), none, 0⟩,
 ⟨some 11, .binOp BinOp.add 3 (Operand.tmp 10) (Operand.const (Value.int IntKind.i64 1)) 3, none, 0⟩,
 ⟨some 8, .assign (Operand.tmp 11), none, 0⟩])
 (.block 0
 (.loop
 (.seq
 (.seq
 (.ops [⟨some 12, .move (Operand.tmp 8), none, 0⟩,
 ⟨some 13, .move (Operand.tmp 2), none, 0⟩,
 ⟨some 14, .binOp BinOp.lss 3 (Operand.tmp 12) (Operand.tmp 13) 3, none, 0⟩])
 (.cond (Operand.tmp 14)
 .skip
 (.exit 0)))
 (.seq
 (.block 1
 (.seq
 (.ops [⟨some 17, .move (Operand.tmp 8), none, 0⟩,
 ⟨some 9, .assign (Operand.tmp 17), none, 0⟩])
 (.block 2
 (.loop
 (.seq
 (.seq
 (.draw [⟨some 18, .move (Operand.tmp 9), none, 0⟩,
 ⟨some 19, .move (Operand.tmp 1), none, 0⟩,
 ⟨some 20, .binOp BinOp.gtr 3 (Operand.tmp 18) (Operand.tmp 19) 3, none, 0⟩,
 ⟨some 21, .move (Operand.tmp 20), none, 0⟩,
 ⟨some 22, .move (Operand.tmp 3), some (21, true), 0⟩,
 ⟨some 23, .move (Operand.tmp 0), some (21, true), 0⟩,
 ⟨some 24, .move (Operand.tmp 9), some (21, true), 0⟩,
 ⟨some 25, .indexAddr 22 (Operand.tmp 23) (Operand.tmp 24), some (21, true), 0⟩,
 ⟨some 26, .load 67 (Operand.tmp 25), some (21, true), 0⟩,
 ⟨some 27, .move (Operand.tmp 0), some (21, true), 0⟩,
 ⟨some 28, .move (Operand.tmp 9), some (21, true), 0⟩,
 ⟨some 29, .binOp BinOp.sub 3 (Operand.tmp 28) (Operand.const (Value.int IntKind.i64 1)) 3, some (21, true), 0⟩,
 ⟨some 30, .indexAddr 22 (Operand.tmp 27) (Operand.tmp 29), some (21, true), 0⟩,
 ⟨some 31, .load 67 (Operand.tmp 30), some (21, true), 0⟩,
 ⟨some 32, .call ⟨(Callee.value (Operand.tmp 22)), [(Operand.tmp 26), (Operand.tmp 31)].toArray, #[67, 67]⟩, some (21, true), 0⟩,
 ⟨some 33, .binOp BinOp.lss 3 (Operand.tmp 32) (Operand.const (Value.int IntKind.i64 0)) 3, some (21, true), 0⟩,
 ⟨some 34, .pick (Operand.tmp 21) (Operand.tmp 33) (Operand.const (Value.bool false)), none, 0⟩] true [14, 15, 16] [0, 1, 2, 3, 4, 5, 6, 7, 9, 10, 11, 12, 8, 13, 14, 15, 16])
 (.cond (Operand.tmp 34)
 .skip
 (.exit 2)))
 (.seq
 (.block 3
 (.draw [⟨some 37, .move (Operand.tmp 0), none, 0⟩,
 ⟨some 38, .move (Operand.tmp 9), none, 0⟩,
 ⟨some 39, .move (Operand.tmp 0), none, 0⟩,
 ⟨some 40, .move (Operand.tmp 9), none, 0⟩,
 ⟨some 41, .binOp BinOp.sub 3 (Operand.tmp 40) (Operand.const (Value.int IntKind.i64 1)) 3, none, 0⟩,
 ⟨some 42, .move (Operand.tmp 0), none, 0⟩,
 ⟨some 43, .move (Operand.tmp 9), none, 0⟩,
 ⟨some 44, .binOp BinOp.sub 3 (Operand.tmp 43) (Operand.const (Value.int IntKind.i64 1)) 3, none, 0⟩,
 ⟨some 45, .indexAddr 22 (Operand.tmp 42) (Operand.tmp 44), none, 0⟩,
 ⟨some 46, .load 67 (Operand.tmp 45), none, 0⟩,
 ⟨some 47, .move (Operand.tmp 0), none, 0⟩,
 ⟨some 48, .move (Operand.tmp 9), none, 0⟩,
 ⟨some 49, .indexAddr 22 (Operand.tmp 47) (Operand.tmp 48), none, 0⟩,
 ⟨some 50, .load 67 (Operand.tmp 49), none, 0⟩,
 ⟨some 51, .indexAddr 22 (Operand.tmp 37) (Operand.tmp 38), none, 0⟩,
 ⟨none, .store 67 (Operand.tmp 51) (Operand.tmp 46), none, 0⟩,
 ⟨some 52, .indexAddr 22 (Operand.tmp 39) (Operand.tmp 41), none, 0⟩,
 ⟨none, .store 67 (Operand.tmp 52) (Operand.tmp 50), none, 0⟩] true [16, 17] [0, 1, 2, 3, 4, 5, 6, 7, 8, 10, 11, 12, 9, 13, 14, 15, 16, 17]))
 (.ops [⟨some 35, .move (Operand.tmp 9), none, 0⟩,
 ⟨some 36, .binOp BinOp.sub 3 (Operand.tmp 35) (Operand.const (Value.int IntKind.i64 1)) 3, none, 0⟩,
 ⟨some 9, .assign (Operand.tmp 36), none, 0⟩])))))))
 (.ops [⟨some 15, .move (Operand.tmp 8), none, 0⟩,
 ⟨some 16, .binOp BinOp.add 3 (Operand.tmp 15) (Operand.const (Value.int IntKind.i64 1)) 3, none, 0⟩,
 ⟨some 8, .assign (Operand.tmp 16), none, 0⟩]))))))
abbrev R150 : List ResultVar := []
theorem ok150 : FnOK Tryz.prog 150 L150 R150 4 := ⟨_, _, Tryz.func150, rfl, by kernel_rfl, by kernel_rfl, by kernel_rfl, by kernel_rfl, Nat.le_of_ble_eq_true (by kernel_rfl), by kernel_rfl⟩

/-- cmp.isNaN[string] -/
def L160 : LCode :=
 (.seq
 (.ops [⟨some 2, .assign (Operand.const (Value.bool false)), none, 0⟩])
 (.seq
 (.ops [⟨some 3, .move (Operand.tmp 0), none, 0⟩,
 ⟨some 4, .move (Operand.tmp 0), none, 0⟩,
 ⟨some 5, .binOp BinOp.neq 9 (Operand.tmp 3) (Operand.tmp 4) 9, none, 0⟩,
 ⟨some 2, .assign (Operand.tmp 5), none, 0⟩])
 .ret))
abbrev R160 : List ResultVar := [ResultVar.tmp 2]
theorem ok160 : FnOK Tryz.prog 160 L160 R160 1 := ⟨_, _, Tryz.func160, rfl, by kernel_rfl, by kernel_rfl, by kernel_rfl, by kernel_rfl, Nat.le_of_ble_eq_true (by kernel_rfl), by kernel_rfl⟩

/-- slices.Grow[[]string,string] -/
def L161 : LCode :=
 (.seq
 (.ops [⟨some 4, .assign (Operand.const (Value.slice none 0 0)), none, 0⟩])
 (.seq
 (.seq
 (.ops [⟨some 5, .move (Operand.tmp 1), none, 0⟩,
 ⟨some 6, .binOp BinOp.lss 3 (Operand.tmp 5) (Operand.const (Value.int IntKind.i64 0)) 3, none, 0⟩])
 (.cond (Operand.tmp 6)
 (.ops [⟨some 7, .makeInterface 9 (Operand.const (Value.string ⟨#[99, 97, 110, 110, 111, 116, 32, 98, 101, 32, 110, 101, 103, 97, 116, 105, 118, 101]⟩)), none, 0⟩,
 ⟨none, .panic (Operand.tmp 7), none, 0⟩])
 .skip))
 (.seq
 (.seq
 (.ops [⟨some 8, .move (Operand.tmp 1), none, 0⟩,
 ⟨some 9, .move (Operand.tmp 0), none, 0⟩,
 ⟨some 10, .call ⟨(Callee.builtin Builtin.cap), [(Operand.tmp 9)].toArray, #[23]⟩, none, 0⟩,
 ⟨some 11, .move (Operand.tmp 0), none, 0⟩,
 ⟨some 12, .call ⟨(Callee.builtin Builtin.len), [(Operand.tmp 11)].toArray, #[23]⟩, none, 0⟩,
 ⟨some 13, .binOp BinOp.sub 3 (Operand.tmp 10) (Operand.tmp 12) 3, none, 0⟩,
 ⟨some 14, .binOp BinOp.sub 3 (Operand.tmp 8) (Operand.tmp 13) 3, none, 0⟩,
 ⟨some 1, .assign (Operand.tmp 14), none, 0⟩])
 (.seq
 (.ops [⟨some 15, .move (Operand.tmp 1), none, 0⟩,
 ⟨some 16, .binOp BinOp.gtr 3 (Operand.tmp 15) (Operand.const (Value.int IntKind.i64 0)) 3, none, 0⟩])
 (.cond (Operand.tmp 16)
 (.ops [⟨some 17, .move (Operand.tmp 0), none, 0⟩,
 ⟨some 18, .move (Operand.tmp 0), none, 0⟩,
 ⟨some 19, .call ⟨(Callee.builtin Builtin.cap), [(Operand.tmp 18)].toArray, #[23]⟩, none, 0⟩,
 ⟨some 20, .slice 23 (Operand.tmp 17) none (some (Operand.tmp 19)) none, none, 0⟩,
 ⟨some 21, .move (Operand.tmp 1), none, 0⟩,
 ⟨some 22, .call ⟨(Callee.builtin Builtin.append), [(Operand.tmp 20), (Operand.tmp 21)].toArray, #[23, 3]⟩, none, 5⟩,
 ⟨some 23, .move (Operand.tmp 0), none, 0⟩,
 ⟨some 24, .call ⟨(Callee.builtin Builtin.len), [(Operand.tmp 23)].toArray, #[23]⟩, none, 0⟩,
 ⟨some 25, .slice 23 (Operand.tmp 22) none (some (Operand.tmp 24)) none, none, 0⟩,
 ⟨some 0, .assign (Operand.tmp 25), none, 0⟩])
 .skip)))
 (.seq
 (.ops [⟨some 26, .move (Operand.tmp 0), none, 0⟩,
 ⟨some 4, .assign (Operand.tmp 26), none, 0⟩])
 .ret))))
abbrev R161 : List ResultVar := [ResultVar.tmp 4]
theorem ok161 : FnOK Tryz.prog 161 L161 R161 2 := ⟨_, _, Tryz.func161, rfl, by kernel_rfl, by kernel_rfl, by kernel_rfl, by kernel_rfl, Nat.le_of_ble_eq_true (by kernel_rfl), by kernel_rfl⟩

/-- (*strings.Builder).copyCheck -/
def L162 : LCode :=
 (.seq
 (.ops [⟨some 2, .move (Operand.tmp 0), none, 0⟩,
 ⟨some 3, .nilCheck (Operand.tmp 2), none, 0⟩,
 ⟨some 4, .fieldAddr 176 (Operand.tmp 3) 0, none, 0⟩,
 ⟨some 5, .load 173 (Operand.tmp 4), none, 0⟩,
 ⟨some 6, .binOp BinOp.eql 173 (Operand.tmp 5) (Operand.const (Value.pointer none)) 173, none, 0⟩])
 (.cond (Operand.tmp 6)
 (.ops [⟨some 7, .move (Operand.tmp 0), none, 0⟩,
 ⟨some 8, .move (Operand.tmp 0), none, 0⟩,
 ⟨some 9, .convert 173 233 (Operand.tmp 8), none, 0⟩,
 ⟨some 10, .call ⟨(Callee.value (Operand.func 189)), [(Operand.tmp 9)].toArray, #[233]⟩, none, 0⟩,
 ⟨some 11, .convert 233 173 (Operand.tmp 10), none, 0⟩,
 ⟨some 12, .nilCheck (Operand.tmp 7), none, 0⟩,
 ⟨some 13, .fieldAddr 176 (Operand.tmp 12) 0, none, 0⟩,
 ⟨none, .store 173 (Operand.tmp 13) (Operand.tmp 11), none, 0⟩])
 (.seq
 (.ops [⟨some 14, .move (Operand.tmp 0), none, 0⟩,
 ⟨some 15, .nilCheck (Operand.tmp 14), none, 0⟩,
 ⟨some 16, .fieldAddr 176 (Operand.tmp 15) 0, none, 0⟩,
 ⟨some 17, .load 173 (Operand.tmp 16), none, 0⟩,
 ⟨some 18, .move (Operand.tmp 0), none, 0⟩,
 ⟨some 19, .binOp BinOp.neq 173 (Operand.tmp 17) (Operand.tmp 18) 173, none, 0⟩])
 (.cond (Operand.tmp 19)
 .bad
 .skip))))
abbrev R162 : List ResultVar := []
theorem ok162 : FnOK Tryz.prog 162 L162 R162 1 := ⟨_, _, Tryz.func162, rfl, by kernel_rfl, by kernel_rfl, by kernel_rfl, by kernel_rfl, Nat.le_of_ble_eq_true (by kernel_rfl), by kernel_rfl⟩
end Go.Proofs.YtldlcejlfaogbaaGreatDoor.Vs
