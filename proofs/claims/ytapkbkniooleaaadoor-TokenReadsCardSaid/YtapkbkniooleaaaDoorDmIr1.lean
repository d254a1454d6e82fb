/- The seat's functions as the engine Dm reads them, written by dgen.py. -/
import Derived.Test.YtapkbkniooleaaaDoorDmFn
import Derived.Test.YtapkbkniooleaaaDoorProg
import Derived.KernelRfl
namespace Go.Proofs.YtapkbkniooleaaaDoor.Vs
set_option linter.unusedVariables false
set_option maxRecDepth 100000
/-- ablaut/token.spelt -/
def L29 : LCode :=
 (.seq
 (.ops [⟨some 2, .assign (Operand.const (Value.string ⟨#[]⟩)), none, 0⟩])
 (.seq
 (.block 0
 (.seq
 (.ops [⟨some 4, .move (Operand.tmp 0), none, 0⟩,
 ⟨some 5, .binOp BinOp.lss 3 (Operand.tmp 4) (Operand.const (Value.int IntKind.i64 20)) 3, none, 0⟩,
 ⟨some 3, .assign (Operand.tmp 5), none, 0⟩])
 (.cond (Operand.tmp 3)
 (.seq
 (.ops [⟨some 6, .move (Operand.tmp 0), none, 0⟩,
 ⟨some 7, .call ⟨(Callee.value (Operand.func 44)), [(Operand.tmp 6)].toArray, #[3]⟩, none, 0⟩,
 ⟨some 2, .assign (Operand.tmp 7), none, 0⟩])
 .ret)
 (.seq
 (.ops [⟨some 9, .move (Operand.tmp 0), none, 0⟩,
 ⟨some 10, .binOp BinOp.lss 3 (Operand.tmp 9) (Operand.const (Value.int IntKind.i64 100)) 3, none, 0⟩,
 ⟨some 8, .assign (Operand.tmp 10), none, 0⟩])
 (.cond (Operand.tmp 8)
 (.seq
 (.seq
 (.ops [⟨some 11, .move (Operand.tmp 0), none, 0⟩,
 ⟨some 12, .binOp BinOp.rem 3 (Operand.tmp 11) (Operand.const (Value.int IntKind.i64 10)) 3, none, 0⟩,
 ⟨some 13, .binOp BinOp.eql 3 (Operand.tmp 12) (Operand.const (Value.int IntKind.i64 0)) 3, none, 0⟩])
 (.cond (Operand.tmp 13)
 (.seq
 (.ops [⟨some 14, .move (Operand.tmp 0), none, 0⟩,
 ⟨some 15, .binOp BinOp.quo 3 (Operand.tmp 14) (Operand.const (Value.int IntKind.i64 10)) 3, none, 0⟩,
 ⟨some 16, .call ⟨(Callee.value (Operand.func 45)), [(Operand.tmp 15)].toArray, #[3]⟩, none, 0⟩,
 ⟨some 2, .assign (Operand.tmp 16), none, 0⟩])
 .ret)
 .skip))
 (.seq
 (.ops [⟨some 17, .move (Operand.tmp 0), none, 0⟩,
 ⟨some 18, .binOp BinOp.quo 3 (Operand.tmp 17) (Operand.const (Value.int IntKind.i64 10)) 3, none, 0⟩,
 ⟨some 19, .call ⟨(Callee.value (Operand.func 45)), [(Operand.tmp 18)].toArray, #[3]⟩, none, 0⟩,
 ⟨some 20, .binOp BinOp.add 9 (Operand.tmp 19) (Operand.const (Value.string ⟨#[45]⟩)) 9, none, 0⟩,
 ⟨some 21, .move (Operand.tmp 0), none, 0⟩,
 ⟨some 22, .binOp BinOp.rem 3 (Operand.tmp 21) (Operand.const (Value.int IntKind.i64 10)) 3, none, 0⟩,
 ⟨some 23, .call ⟨(Callee.value (Operand.func 44)), [(Operand.tmp 22)].toArray, #[3]⟩, none, 0⟩,
 ⟨some 24, .binOp BinOp.add 9 (Operand.tmp 20) (Operand.tmp 23) 9, none, 0⟩,
 ⟨some 2, .assign (Operand.tmp 24), none, 0⟩])
 .ret))
 (.seq
 (.ops [⟨some 26, .move (Operand.tmp 0), none, 0⟩,
 ⟨some 27, .binOp BinOp.lss 3 (Operand.tmp 26) (Operand.const (Value.int IntKind.i64 1000)) 3, none, 0⟩,
 ⟨some 25, .assign (Operand.tmp 27), none, 0⟩])
 (.cond (Operand.tmp 25)
 (.seq
 (.ops [⟨some 28, .move (Operand.tmp 0), none, 0⟩,
 ⟨some 29, .binOp BinOp.quo 3 (Operand.tmp 28) (Operand.const (Value.int IntKind.i64 100)) 3, none, 0⟩,
 ⟨some 30, .call ⟨(Callee.value (Operand.func 44)), [(Operand.tmp 29)].toArray, #[3]⟩, none, 0⟩,
 ⟨some 31, .binOp BinOp.add 9 (Operand.tmp 30) (Operand.const (Value.string ⟨#[32, 104, 117, 110, 100, 114, 101, 100]⟩)) 9, none, 0⟩,
 ⟨some 32, .move (Operand.tmp 0), none, 0⟩,
 ⟨some 33, .binOp BinOp.rem 3 (Operand.tmp 32) (Operand.const (Value.int IntKind.i64 100)) 3, none, 0⟩,
 ⟨some 34, .call ⟨(Callee.value (Operand.func 46)), [(Operand.tmp 31), (Operand.tmp 33)].toArray, #[9, 3]⟩, none, 0⟩,
 ⟨some 2, .assign (Operand.tmp 34), none, 0⟩])
 .ret)
 .skip)))))))
 (.seq
 (.ops [⟨some 35, .move (Operand.tmp 0), none, 0⟩,
 ⟨some 36, .binOp BinOp.quo 3 (Operand.tmp 35) (Operand.const (Value.int IntKind.i64 1000)) 3, none, 0⟩,
 ⟨some 37, .call ⟨(Callee.value (Operand.func 29)), [(Operand.tmp 36)].toArray, #[3]⟩, none, 0⟩,
 ⟨some 38, .binOp BinOp.add 9 (Operand.tmp 37) (Operand.const (Value.string ⟨#[32, 116, 104, 111, 117, 115, 97, 110, 100]⟩)) 9, none, 0⟩,
 ⟨some 39, .move (Operand.tmp 0), none, 0⟩,
 ⟨some 40, .binOp BinOp.rem 3 (Operand.tmp 39) (Operand.const (Value.int IntKind.i64 1000)) 3, none, 0⟩,
 ⟨some 41, .call ⟨(Callee.value (Operand.func 46)), [(Operand.tmp 38), (Operand.tmp 40)].toArray, #[9, 3]⟩, none, 0⟩,
 ⟨some 2, .assign (Operand.tmp 41), none, 0⟩])
 .ret)))
abbrev R29 : List ResultVar := [ResultVar.tmp 2]
theorem ok29 : FnOK Tryd.prog 29 L29 R29 1 := ⟨_, _, Tryd.func29, rfl, by kernel_rfl, by kernel_rfl, by kernel_rfl, by kernel_rfl, Nat.le_of_ble_eq_true (by kernel_rfl), by kernel_rfl⟩

/-- ablaut/ablautref17.spell -/
def L30 : LCode :=
 (.seq
 (.ops [⟨some 2, .assign (Operand.const (Value.string ⟨#[]⟩)), none, 0⟩])
 (.seq
 (.block 0
 (.seq
 (.ops [⟨some 6, .move (Operand.tmp 0), none, 0⟩,
 ⟨some 7, .binOp BinOp.lss 3 (Operand.tmp 6) (Operand.const (Value.int IntKind.i64 20)) 3, none, 0⟩,
 ⟨some 5, .assign (Operand.tmp 7), none, 0⟩])
 (.cond (Operand.tmp 5)
 (.seq
 (.ops [⟨some 8, .call ⟨(Callee.value (Operand.func 47)), [].toArray, #[]⟩, none, 0⟩,
 ⟨some 9, .move (Operand.tmp 0), none, 0⟩,
 ⟨some 10, .index 69 (Operand.tmp 8) (Operand.tmp 9), none, 0⟩,
 ⟨some 2, .assign (Operand.tmp 10), none, 0⟩])
 .ret)
 (.seq
 (.ops [⟨some 12, .move (Operand.tmp 0), none, 0⟩,
 ⟨some 13, .binOp BinOp.lss 3 (Operand.tmp 12) (Operand.const (Value.int IntKind.i64 100)) 3, none, 0⟩,
 ⟨some 11, .assign (Operand.tmp 13), none, 0⟩])
 (.cond (Operand.tmp 11)
 (.seq
 (.seq
 (.ops [⟨some 14, .move (Operand.tmp 0), none, 0⟩,
 ⟨some 15, .binOp BinOp.rem 3 (Operand.tmp 14) (Operand.const (Value.int IntKind.i64 10)) 3, none, 0⟩,
 ⟨some 16, .binOp BinOp.eql 3 (Operand.tmp 15) (Operand.const (Value.int IntKind.i64 0)) 3, none, 0⟩])
 (.cond (Operand.tmp 16)
 (.seq
 (.ops [⟨some 17, .call ⟨(Callee.value (Operand.func 48)), [].toArray, #[]⟩, none, 0⟩,
 ⟨some 18, .move (Operand.tmp 0), none, 0⟩,
 ⟨some 19, .binOp BinOp.quo 3 (Operand.tmp 18) (Operand.const (Value.int IntKind.i64 10)) 3, none, 0⟩,
 ⟨some 20, .index 71 (Operand.tmp 17) (Operand.tmp 19), none, 0⟩,
 ⟨some 2, .assign (Operand.tmp 20), none, 0⟩])
 .ret)
 .skip))
 (.seq
 (.draw [⟨some 21, .call ⟨(Callee.value (Operand.func 48)), [].toArray, #[]⟩, none, 0⟩,
 ⟨some 22, .move (Operand.tmp 0), none, 0⟩,
 ⟨some 23, .binOp BinOp.quo 3 (Operand.tmp 22) (Operand.const (Value.int IntKind.i64 10)) 3, none, 0⟩,
 ⟨some 24, .index 71 (Operand.tmp 21) (Operand.tmp 23), none, 0⟩,
 ⟨some 25, .binOp BinOp.add 9 (Operand.tmp 24) (Operand.const (Value.string ⟨#[45]⟩)) 9, none, 0⟩,
 ⟨some 26, .call ⟨(Callee.value (Operand.func 47)), [].toArray, #[]⟩, none, 0⟩,
 ⟨some 27, .move (Operand.tmp 0), none, 0⟩,
 ⟨some 28, .binOp BinOp.rem 3 (Operand.tmp 27) (Operand.const (Value.int IntKind.i64 10)) 3, none, 0⟩,
 ⟨some 29, .index 69 (Operand.tmp 26) (Operand.tmp 28), none, 0⟩,
 ⟨some 30, .binOp BinOp.add 9 (Operand.tmp 25) (Operand.tmp 29) 9, none, 0⟩,
 ⟨some 2, .assign (Operand.tmp 30), none, 0⟩] true [9, 10] [1, 2, 6, 7, 0, 3, 4, 5, 8, 9, 10])
 .ret))
 (.seq
 (.ops [⟨some 32, .move (Operand.tmp 0), none, 0⟩,
 ⟨some 33, .binOp BinOp.lss 3 (Operand.tmp 32) (Operand.const (Value.int IntKind.i64 1000)) 3, none, 0⟩,
 ⟨some 31, .assign (Operand.tmp 33), none, 0⟩])
 (.cond (Operand.tmp 31)
 (.seq
 (.ops [⟨some 34, .call ⟨(Callee.value (Operand.func 47)), [].toArray, #[]⟩, none, 0⟩,
 ⟨some 35, .move (Operand.tmp 0), none, 0⟩,
 ⟨some 36, .binOp BinOp.quo 3 (Operand.tmp 35) (Operand.const (Value.int IntKind.i64 100)) 3, none, 0⟩,
 ⟨some 37, .index 69 (Operand.tmp 34) (Operand.tmp 36), none, 0⟩,
 ⟨some 38, .binOp BinOp.add 9 (Operand.tmp 37) (Operand.const (Value.string ⟨#[32, 104, 117, 110, 100, 114, 101, 100]⟩)) 9, none, 0⟩,
 ⟨some 3, .assign (Operand.tmp 38), none, 0⟩])
 (.seq
 (.seq
 (.ops [⟨some 39, .move (Operand.tmp 0), none, 0⟩,
 ⟨some 40, .binOp BinOp.rem 3 (Operand.tmp 39) (Operand.const (Value.int IntKind.i64 100)) 3, none, 0⟩,
 ⟨some 41, .binOp BinOp.gtr 3 (Operand.tmp 40) (Operand.const (Value.int IntKind.i64 0)) 3, none, 0⟩])
 (.cond (Operand.tmp 41)
 (.ops [⟨some 42, .move (Operand.tmp 3), none, 0⟩,
 ⟨some 43, .move (Operand.tmp 0), none, 0⟩,
 ⟨some 44, .binOp BinOp.rem 3 (Operand.tmp 43) (Operand.const (Value.int IntKind.i64 100)) 3, none, 0⟩,
 ⟨some 45, .call ⟨(Callee.value (Operand.func 30)), [(Operand.tmp 44)].toArray, #[3]⟩, none, 0⟩,
 ⟨some 46, .binOp BinOp.add 9 (Operand.const (Value.string ⟨#[32, 97, 110, 100, 32]⟩)) (Operand.tmp 45) 9, none, 0⟩,
 ⟨some 47, .binOp BinOp.add 9 (Operand.tmp 42) (Operand.tmp 46) 9, none, 0⟩,
 ⟨some 3, .assign (Operand.tmp 47), none, 0⟩])
 .skip))
 (.seq
 (.ops [⟨some 48, .move (Operand.tmp 3), none, 0⟩,
 ⟨some 2, .assign (Operand.tmp 48), none, 0⟩])
 .ret)))
 .skip)))))))
 (.seq
 (.ops [⟨some 49, .move (Operand.tmp 0), none, 0⟩,
 ⟨some 50, .binOp BinOp.quo 3 (Operand.tmp 49) (Operand.const (Value.int IntKind.i64 1000)) 3, none, 0⟩,
 ⟨some 51, .call ⟨(Callee.value (Operand.func 30)), [(Operand.tmp 50)].toArray, #[3]⟩, none, 0⟩,
 ⟨some 52, .binOp BinOp.add 9 (Operand.tmp 51) (Operand.const (Value.string ⟨#[32, 116, 104, 111, 117, 115, 97, 110, 100]⟩)) 9, none, 0⟩,
 ⟨some 4, .assign (Operand.tmp 52), none, 0⟩])
 (.seq
 (.block 1
 (.seq
 (.ops [⟨some 54, .move (Operand.tmp 0), none, 0⟩,
 ⟨some 55, .binOp BinOp.rem 3 (Operand.tmp 54) (Operand.const (Value.int IntKind.i64 1000)) 3, none, 0⟩,
 ⟨some 56, .binOp BinOp.geq 3 (Operand.tmp 55) (Operand.const (Value.int IntKind.i64 100)) 3, none, 0⟩,
 ⟨some 53, .assign (Operand.tmp 56), none, 0⟩])
 (.cond (Operand.tmp 53)
 (.ops [⟨some 57, .move (Operand.tmp 4), none, 0⟩,
 ⟨some 58, .move (Operand.tmp 0), none, 0⟩,
 ⟨some 59, .binOp BinOp.rem 3 (Operand.tmp 58) (Operand.const (Value.int IntKind.i64 1000)) 3, none, 0⟩,
 ⟨some 60, .call ⟨(Callee.value (Operand.func 30)), [(Operand.tmp 59)].toArray, #[3]⟩, none, 0⟩,
 ⟨some 61, .binOp BinOp.add 9 (Operand.const (Value.string ⟨#[32]⟩)) (Operand.tmp 60) 9, none, 0⟩,
 ⟨some 62, .binOp BinOp.add 9 (Operand.tmp 57) (Operand.tmp 61) 9, none, 0⟩,
 ⟨some 4, .assign (Operand.tmp 62), none, 0⟩])
 (.seq
 (.ops [⟨some 64, .move (Operand.tmp 0), none, 0⟩,
 ⟨some 65, .binOp BinOp.rem 3 (Operand.tmp 64) (Operand.const (Value.int IntKind.i64 1000)) 3, none, 0⟩,
 ⟨some 66, .binOp BinOp.gtr 3 (Operand.tmp 65) (Operand.const (Value.int IntKind.i64 0)) 3, none, 0⟩,
 ⟨some 63, .assign (Operand.tmp 66), none, 0⟩])
 (.cond (Operand.tmp 63)
 (.ops [⟨some 67, .move (Operand.tmp 4), none, 0⟩,
 ⟨some 68, .move (Operand.tmp 0), none, 0⟩,
 ⟨some 69, .binOp BinOp.rem 3 (Operand.tmp 68) (Operand.const (Value.int IntKind.i64 1000)) 3, none, 0⟩,
 ⟨some 70, .call ⟨(Callee.value (Operand.func 30)), [(Operand.tmp 69)].toArray, #[3]⟩, none, 0⟩,
 ⟨some 71, .binOp BinOp.add 9 (Operand.const (Value.string ⟨#[32, 97, 110, 100, 32]⟩)) (Operand.tmp 70) 9, none, 0⟩,
 ⟨some 72, .binOp BinOp.add 9 (Operand.tmp 67) (Operand.tmp 71) 9, none, 0⟩,
 ⟨some 4, .assign (Operand.tmp 72), none, 0⟩])
 .skip)))))
 (.seq
 (.ops [⟨some 73, .move (Operand.tmp 4), none, 0⟩,
 ⟨some 2, .assign (Operand.tmp 73), none, 0⟩])
 .ret)))))
abbrev R30 : List ResultVar := [ResultVar.tmp 2]
theorem ok30 : FnOK Tryd.prog 30 L30 R30 1 := ⟨_, _, Tryd.func30, rfl, by kernel_rfl, by kernel_rfl, by kernel_rfl, by kernel_rfl, Nat.le_of_ble_eq_true (by kernel_rfl), by kernel_rfl⟩

/-- ablaut/token.hundreds -/
def L31 : LCode :=
 (.seq
 (.ops [⟨some 2, .assign (Operand.const (Value.int IntKind.i64 0)), none, 0⟩])
 (.seq
 (.ops [⟨some 9, .move (Operand.tmp 0), none, 0⟩,
 ⟨some 10, .call ⟨(Callee.value (Operand.func 20)), [(Operand.tmp 9), (Operand.const (Value.string ⟨#[32, 104, 117, 110, 100, 114, 101, 100]⟩))].toArray, #[9, 9]⟩, none, 0⟩,
 ⟨some 8, .move (Operand.tmp 10), none, 0⟩,
 ⟨some 11, .extract (Operand.tmp 8) 0, none, 0⟩,
 ⟨some 12, .extract (Operand.tmp 8) 1, none, 0⟩,
 ⟨some 13, .extract (Operand.tmp 8) 2, none, 0⟩,
 ⟨some 3, .assign (Operand.tmp 11), none, 0⟩,
 ⟨some 4, .assign (Operand.tmp 12), none, 0⟩,
 ⟨some 5, .assign (Operand.tmp 13), none, 0⟩])
 (.seq
 (.seq
 (.ops [⟨some 14, .move (Operand.tmp 5), none, 0⟩,
 ⟨some 15, .unOp UnOp.not 4 (Operand.tmp 14), none, 0⟩])
 (.cond (Operand.tmp 15)
 (.seq
 (.ops [⟨some 16, .move (Operand.tmp 0), none, 0⟩,
 ⟨some 17, .call ⟨(Callee.value (Operand.func 49)), [(Operand.tmp 16)].toArray, #[9]⟩, none, 0⟩,
 ⟨some 2, .assign (Operand.tmp 17), none, 0⟩])
 .ret)
 .skip))
 (.seq
 (.ops [⟨some 18, .move (Operand.tmp 3), none, 0⟩,
 ⟨some 19, .call ⟨(Callee.value (Operand.func 49)), [(Operand.tmp 18)].toArray, #[9]⟩, none, 0⟩,
 ⟨some 6, .assign (Operand.tmp 19), none, 0⟩])
 (.seq
 (.seq
 (.ops [⟨some 20, .move (Operand.tmp 6), none, 0⟩,
 ⟨some 21, .binOp BinOp.lss 3 (Operand.tmp 20) (Operand.const (Value.int IntKind.i64 1)) 3, none, 0⟩,
 ⟨some 22, .move (Operand.tmp 21), none, 0⟩,
 ⟨some 23, .move (Operand.tmp 6), some (22, false), 0⟩,
 ⟨some 24, .binOp BinOp.gtr 3 (Operand.tmp 23) (Operand.const (Value.int IntKind.i64 9)) 3, some (22, false), 0⟩,
 ⟨some 25, .pick (Operand.tmp 22) (Operand.const (Value.bool true)) (Operand.tmp 24), none, 0⟩])
 (.cond (Operand.tmp 25)
 (.seq
 (.ops [⟨some 2, .assign (Operand.const (Value.int IntKind.i64 (-1))), none, 0⟩])
 .ret)
 .skip))
 (.seq
 (.seq
 (.ops [⟨some 26, .move (Operand.tmp 4), none, 0⟩,
 ⟨some 27, .binOp BinOp.eql 9 (Operand.tmp 26) (Operand.const (Value.string ⟨#[]⟩)) 9, none, 0⟩])
 (.cond (Operand.tmp 27)
 (.seq
 (.ops [⟨some 28, .move (Operand.tmp 6), none, 0⟩,
 ⟨some 29, .binOp BinOp.mul 3 (Operand.const (Value.int IntKind.i64 100)) (Operand.tmp 28) 3, none, 0⟩,
 ⟨some 2, .assign (Operand.tmp 29), none, 0⟩])
 .ret)
 .skip))
 (.seq
 (.ops [⟨some 30, .move (Operand.tmp 4), none, 0⟩,
 ⟨some 31, .call ⟨(Callee.value (Operand.func 32)), [(Operand.tmp 30), (Operand.const (Value.string ⟨#[32, 97, 110, 100, 32]⟩))].toArray, #[9, 9]⟩, none, 0⟩,
 ⟨some 32, .call ⟨(Callee.value (Operand.func 49)), [(Operand.tmp 31)].toArray, #[9]⟩, none, 0⟩,
 ⟨some 7, .assign (Operand.tmp 32), none, 0⟩])
 (.seq
 (.seq
 (.ops [⟨some 33, .move (Operand.tmp 7), none, 0⟩,
 ⟨some 34, .binOp BinOp.lss 3 (Operand.tmp 33) (Operand.const (Value.int IntKind.i64 1)) 3, none, 0⟩])
 (.cond (Operand.tmp 34)
 (.seq
 (.ops [⟨some 2, .assign (Operand.const (Value.int IntKind.i64 (-1))), none, 0⟩])
 .ret)
 .skip))
 (.seq
 (.ops [⟨some 35, .move (Operand.tmp 6), none, 0⟩,
 ⟨some 36, .binOp BinOp.mul 3 (Operand.const (Value.int IntKind.i64 100)) (Operand.tmp 35) 3, none, 0⟩,
 ⟨some 37, .move (Operand.tmp 7), none, 0⟩,
 ⟨some 38, .binOp BinOp.add 3 (Operand.tmp 36) (Operand.tmp 37) 3, none, 0⟩,
 ⟨some 2, .assign (Operand.tmp 38), none, 0⟩])
 .ret)))))))))
abbrev R31 : List ResultVar := [ResultVar.tmp 2]
theorem ok31 : FnOK Tryd.prog 31 L31 R31 1 := ⟨_, _, Tryd.func31, rfl, by kernel_rfl, by kernel_rfl, by kernel_rfl, by kernel_rfl, Nat.le_of_ble_eq_true (by kernel_rfl), by kernel_rfl⟩

abbrev R32 : List ResultVar := [ResultVar.tmp 4]
/-- ablaut/ablautref17.below -/
def L33 : LCode :=
 (.seq
 (.ops [⟨some 6, .assign (Operand.const (Value.int IntKind.i64 0)), none, 0⟩,
 ⟨some 7, .assign (Operand.const (Value.int IntKind.i64 0)), none, 0⟩])
 (.seq
 (.ops [⟨some 8, .assign (Operand.const (Value.int IntKind.i64 0)), none, 0⟩,
 ⟨some 9, .assign (Operand.const (Value.int IntKind.i64 (-1))), none, 0⟩])
 (.seq
 (.seq
 (.ops [⟨some 12, .move (Operand.tmp 1), none, 0⟩,
 ⟨some 10, .assign (Operand.tmp 12), none, 0⟩])
 (.block 0
 (.loop
 (.seq
 (.seq
 (.ops [⟨some 13, .move (Operand.tmp 10), none, 0⟩,
 ⟨some 14, .move (Operand.tmp 2), none, 0⟩,
 ⟨some 15, .binOp BinOp.lss 3 (Operand.tmp 13) (Operand.tmp 14) 3, none, 0⟩])
 (.cond (Operand.tmp 15)
 .skip
 (.exit 0)))
 (.seq
 (.block 1
 (.seq
 (.ops [⟨some 18, .move (Operand.tmp 10), none, 0⟩,
 ⟨some 19, .call ⟨(Callee.value (Operand.func 30)), [(Operand.tmp 18)].toArray, #[3]⟩, none, 0⟩,
 ⟨some 11, .assign (Operand.tmp 19), none, 0⟩])
 (.seq
 (.ops [⟨some 20, .move (Operand.tmp 11), none, 0⟩,
 ⟨some 21, .call ⟨(Callee.builtin Builtin.len), [(Operand.tmp 20)].toArray, #[9]⟩, none, 0⟩,
 ⟨some 22, .move (Operand.tmp 0), none, 0⟩,
 ⟨some 23, .call ⟨(Callee.builtin Builtin.len), [(Operand.tmp 22)].toArray, #[9]⟩, none, 0⟩,
 ⟨some 24, .binOp BinOp.leq 3 (Operand.tmp 21) (Operand.tmp 23) 3, none, 0⟩,
 ⟨some 25, .move (Operand.tmp 24), none, 0⟩,
 ⟨some 26, .move (Operand.tmp 0), some (25, true), 0⟩,
 ⟨some 27, .move (Operand.tmp 11), some (25, true), 0⟩,
 ⟨some 28, .call ⟨(Callee.builtin Builtin.len), [(Operand.tmp 27)].toArray, #[9]⟩, some (25, true), 0⟩,
 ⟨some 29, .slice 9 (Operand.tmp 26) none (some (Operand.tmp 28)) none, some (25, true), 0⟩,
 ⟨some 30, .move (Operand.tmp 11), some (25, true), 0⟩,
 ⟨some 31, .binOp BinOp.eql 9 (Operand.tmp 29) (Operand.tmp 30) 9, some (25, true), 0⟩,
 ⟨some 32, .pick (Operand.tmp 25) (Operand.tmp 31) (Operand.const (Value.bool false)), none, 0⟩,
 ⟨some 33, .move (Operand.tmp 32), none, 0⟩,
 ⟨some 34, .move (Operand.tmp 11), some (33, true), 0⟩,
 ⟨some 35, .call ⟨(Callee.builtin Builtin.len), [(Operand.tmp 34)].toArray, #[9]⟩, some (33, true), 0⟩,
 ⟨some 36, .move (Operand.tmp 9), some (33, true), 0⟩,
 ⟨some 37, .binOp BinOp.gtr 3 (Operand.tmp 35) (Operand.tmp 36) 3, some (33, true), 0⟩,
 ⟨some 38, .pick (Operand.tmp 33) (Operand.tmp 37) (Operand.const (Value.bool false)), none, 0⟩])
 (.cond (Operand.tmp 38)
 (.ops [⟨some 39, .move (Operand.tmp 10), none, 0⟩,
 ⟨some 40, .move (Operand.tmp 11), none, 0⟩,
 ⟨some 41, .call ⟨(Callee.builtin Builtin.len), [(Operand.tmp 40)].toArray, #[9]⟩, none, 0⟩,
 ⟨some 8, .assign (Operand.tmp 39), none, 0⟩,
 ⟨some 9, .assign (Operand.tmp 41), none, 0⟩])
 .skip))))
 (.ops [⟨some 16, .move (Operand.tmp 10), none, 0⟩,
 ⟨some 17, .binOp BinOp.add 3 (Operand.tmp 16) (Operand.const (Value.int IntKind.i64 1)) 3, none, 0⟩,
 ⟨some 10, .assign (Operand.tmp 17), none, 0⟩]))))))
 (.seq
 (.ops [⟨some 42, .move (Operand.tmp 8), none, 0⟩,
 ⟨some 43, .move (Operand.tmp 9), none, 0⟩,
 ⟨some 6, .assign (Operand.tmp 42), none, 0⟩,
 ⟨some 7, .assign (Operand.tmp 43), none, 0⟩])
 .ret))))
abbrev R33 : List ResultVar := [ResultVar.tmp 6, ResultVar.tmp 7]
theorem ok33 : FnOK Tryd.prog 33 L33 R33 3 := ⟨_, _, Tryd.func33, rfl, by kernel_rfl, by kernel_rfl, by kernel_rfl, by kernel_rfl, Nat.le_of_ble_eq_true (by kernel_rfl), by kernel_rfl⟩

/-- ablaut/token.Validate -/
def L34 : LCode :=
 (.seq
 (.ops [⟨some 1, .box 36 (Operand.tmp 0), none, 0⟩,
 ⟨some 2, .assign (Operand.const (Value.int IntKind.i64 0)), none, 0⟩])
 (.seq
 (.seq
 (.ops [⟨some 12, .load 36 (Operand.tmp 1), none, 0⟩,
 ⟨some 13, .call ⟨(Callee.value (Operand.func 51)), [(Operand.tmp 12)].toArray, #[36]⟩, none, 0⟩,
 ⟨some 14, .call ⟨(Callee.builtin Builtin.len), [(Operand.tmp 13)].toArray, #[73]⟩, none, 0⟩,
 ⟨some 15, .move (Operand.const (Value.int IntKind.i64 0)), none, 0⟩])
 (.block 0
 (.loop
 (.seq
 (.ops [⟨some 16, .binOp BinOp.lss 3 (Operand.tmp 15) (Operand.tmp 14) 3, none, 0⟩])
 (.seq
 (.cond (Operand.tmp 16)
 .skip
 (.exit 0))
 (.seq
 (.block 1
 (.seq
 (.ops [⟨some 17, .indexAddr 73 (Operand.tmp 13) (Operand.tmp 15), none, 0⟩,
 ⟨some 18, .load 34 (Operand.tmp 17), none, 0⟩,
 ⟨some 4, .assign (Operand.tmp 18), none, 0⟩])
 (.seq
 (.ops [⟨some 19, .move (Operand.tmp 4), none, 0⟩,
 ⟨some 20, .call ⟨(Callee.builtin Builtin.len), [(Operand.tmp 19)].toArray, #[34]⟩, none, 0⟩,
 ⟨some 21, .binOp BinOp.gtr 3 (Operand.tmp 20) (Operand.const (Value.int IntKind.i64 300)) 3, none, 0⟩,
 ⟨some 22, .move (Operand.tmp 21), none, 0⟩,
 ⟨some 23, .move (Operand.tmp 4), some (22, false), 0⟩,
 ⟨some 24, .call ⟨(Callee.value (Operand.func 52)), [(Operand.tmp 23), (Operand.func 53)].toArray, #[34, 26]⟩, some (22, false), 0⟩,
 ⟨some 25, .pick (Operand.tmp 22) (Operand.const (Value.bool true)) (Operand.tmp 24), none, 0⟩])
 (.cond (Operand.tmp 25)
 (.seq
 (.ops [⟨some 2, .assign (Operand.const (Value.int IntKind.i64 3)), none, 0⟩])
 .ret)
 .skip))))
 (.ops [⟨some 26, .binOp BinOp.add 3 (Operand.tmp 15) (Operand.const (Value.int IntKind.i64 1)) 3, none, 0⟩,
 ⟨some 15, .move (Operand.tmp 26), none, 0⟩])))))))
 (.seq
 (.seq
 (.ops [⟨some 27, .load 36 (Operand.tmp 1), none, 0⟩,
 ⟨some 28, .call ⟨(Callee.value (Operand.func 51)), [(Operand.tmp 27)].toArray, #[36]⟩, none, 0⟩,
 ⟨some 29, .call ⟨(Callee.builtin Builtin.len), [(Operand.tmp 28)].toArray, #[73]⟩, none, 0⟩,
 ⟨some 30, .move (Operand.const (Value.int IntKind.i64 0)), none, 0⟩])
 (.block 2
 (.loop
 (.seq
 (.ops [⟨some 31, .binOp BinOp.lss 3 (Operand.tmp 30) (Operand.tmp 29) 3, none, 0⟩])
 (.seq
 (.cond (Operand.tmp 31)
 .skip
 (.exit 2))
 (.seq
 (.block 3
 (.seq
 (.ops [⟨some 32, .move (Operand.tmp 30), none, 0⟩,
 ⟨some 33, .indexAddr 73 (Operand.tmp 28) (Operand.tmp 30), none, 0⟩,
 ⟨some 34, .load 34 (Operand.tmp 33), none, 0⟩,
 ⟨some 5, .assign (Operand.tmp 32), none, 0⟩,
 ⟨some 6, .assign (Operand.tmp 34), none, 0⟩])
 (.seq
 (.ops [⟨some 35, .move (Operand.tmp 6), none, 0⟩,
 ⟨some 36, .call ⟨(Callee.builtin Builtin.len), [(Operand.tmp 35)].toArray, #[34]⟩, none, 0⟩,
 ⟨some 37, .move (Operand.const (Value.int IntKind.i64 0)), none, 0⟩])
 (.block 4
 (.loop
 (.seq
 (.ops [⟨some 38, .binOp BinOp.lss 3 (Operand.tmp 37) (Operand.tmp 36) 3, none, 0⟩])
 (.seq
 (.cond (Operand.tmp 38)
 .skip
 (.exit 4))
 (.seq
 (.block 5
 (.seq
 (.ops [⟨some 39, .indexAddr 34 (Operand.tmp 35) (Operand.tmp 37), none, 0⟩,
 ⟨some 40, .load 9 (Operand.tmp 39), none, 0⟩,
 ⟨some 8, .assign (Operand.tmp 40), none, 0⟩])
 (.seq
 (.ops [⟨some 41, .move (Operand.tmp 8), none, 0⟩,
 ⟨some 42, .binOp BinOp.eql 9 (Operand.tmp 41) (Operand.const (Value.string ⟨#[]⟩)) 9, none, 0⟩,
 ⟨some 43, .move (Operand.tmp 42), none, 0⟩,
 ⟨some 44, .move (Operand.tmp 5), some (43, false), 0⟩,
 ⟨some 45, .binOp BinOp.lss 3 (Operand.tmp 44) (Operand.const (Value.int IntKind.i64 2)) 3, some (43, false), 0⟩,
 ⟨some 46, .move (Operand.tmp 45), some (43, false), 0⟩,
 ⟨some 47, .move (Operand.tmp 8), some (46, true), 0⟩,
 ⟨some 48, .call ⟨(Callee.value (Operand.func 54)), [(Operand.tmp 47)].toArray, #[9]⟩, some (46, true), 0⟩,
 ⟨some 49, .unOp UnOp.not 4 (Operand.tmp 48), some (46, true), 0⟩,
 ⟨some 50, .pick (Operand.tmp 46) (Operand.tmp 49) (Operand.const (Value.bool false)), some (43, false), 0⟩,
 ⟨some 51, .pick (Operand.tmp 43) (Operand.const (Value.bool true)) (Operand.tmp 50), none, 0⟩,
 ⟨some 52, .move (Operand.tmp 51), none, 0⟩,
 ⟨some 53, .move (Operand.tmp 5), some (52, false), 0⟩,
 ⟨some 54, .binOp BinOp.eql 3 (Operand.tmp 53) (Operand.const (Value.int IntKind.i64 1)) 3, some (52, false), 0⟩,
 ⟨some 55, .move (Operand.tmp 54), some (52, false), 0⟩,
 ⟨some 56, .move (Operand.tmp 8), some (55, true), 0⟩,
 ⟨some 57, .move (Operand.tmp 8), some (55, true), 0⟩,
 ⟨some 58, .call ⟨(Callee.builtin Builtin.len), [(Operand.tmp 57)].toArray, #[9]⟩, some (55, true), 0⟩,
 ⟨some 59, .binOp BinOp.sub 3 (Operand.tmp 58) (Operand.const (Value.int IntKind.i64 1)) 3, some (55, true), 0⟩,
 ⟨some 60, .index 9 (Operand.tmp 56) (Operand.tmp 59), some (55, true), 0⟩,
 ⟨some 61, .binOp BinOp.neq 5 (Operand.tmp 60) (Operand.const (Value.int IntKind.u8 46)) 5, some (55, true), 0⟩,
 ⟨some 62, .pick (Operand.tmp 55) (Operand.tmp 61) (Operand.const (Value.bool false)), some (52, false), 0⟩,
 ⟨some 63, .pick (Operand.tmp 52) (Operand.const (Value.bool true)) (Operand.tmp 62), none, 0⟩,
 ⟨some 64, .move (Operand.tmp 63), none, 0⟩,
 ⟨some 65, .move (Operand.tmp 5), some (64, false), 0⟩,
 ⟨some 66, .binOp BinOp.gtr 3 (Operand.tmp 65) (Operand.const (Value.int IntKind.i64 1)) 3, some (64, false), 0⟩,
 ⟨some 67, .move (Operand.tmp 66), some (64, false), 0⟩,
 ⟨some 68, .move (Operand.tmp 8), some (67, true), 0⟩,
 ⟨some 69, .call ⟨(Callee.value (Operand.func 55)), [(Operand.tmp 68)].toArray, #[9]⟩, some (67, true), 0⟩,
 ⟨some 70, .unOp UnOp.not 4 (Operand.tmp 69), some (67, true), 0⟩,
 ⟨some 71, .pick (Operand.tmp 67) (Operand.tmp 70) (Operand.const (Value.bool false)), some (64, false), 0⟩,
 ⟨some 72, .pick (Operand.tmp 64) (Operand.const (Value.bool true)) (Operand.tmp 71), none, 0⟩])
 (.cond (Operand.tmp 72)
 (.seq
 (.ops [⟨some 2, .assign (Operand.const (Value.int IntKind.i64 1)), none, 0⟩])
 .ret)
 .skip))))
 (.ops [⟨some 73, .binOp BinOp.add 3 (Operand.tmp 37) (Operand.const (Value.int IntKind.i64 1)) 3, none, 0⟩,
 ⟨some 37, .move (Operand.tmp 73), none, 0⟩])))))))))
 (.ops [⟨some 74, .binOp BinOp.add 3 (Operand.tmp 30) (Operand.const (Value.int IntKind.i64 1)) 3, none, 0⟩,
 ⟨some 30, .move (Operand.tmp 74), none, 0⟩])))))))
 (.seq
 (.seq
 (.ops [⟨some 75, .load 36 (Operand.tmp 1), none, 0⟩,
 ⟨some 76, .call ⟨(Callee.value (Operand.func 51)), [(Operand.tmp 75)].toArray, #[36]⟩, none, 0⟩,
 ⟨some 77, .call ⟨(Callee.builtin Builtin.len), [(Operand.tmp 76)].toArray, #[73]⟩, none, 0⟩,
 ⟨some 78, .move (Operand.const (Value.int IntKind.i64 0)), none, 0⟩])
 (.block 6
 (.loop
 (.seq
 (.ops [⟨some 79, .binOp BinOp.lss 3 (Operand.tmp 78) (Operand.tmp 77) 3, none, 0⟩])
 (.seq
 (.cond (Operand.tmp 79)
 .skip
 (.exit 6))
 (.seq
 (.block 7
 (.seq
 (.ops [⟨some 80, .indexAddr 73 (Operand.tmp 76) (Operand.tmp 78), none, 0⟩,
 ⟨some 81, .load 34 (Operand.tmp 80), none, 0⟩,
 ⟨some 10, .assign (Operand.tmp 81), none, 0⟩])
 (.seq
 (.ops [⟨some 82, .move (Operand.tmp 10), none, 0⟩,
 ⟨some 83, .call ⟨(Callee.value (Operand.func 57)), [(Operand.tmp 82)].toArray, #[34]⟩, none, 0⟩,
 ⟨some 84, .call ⟨(Callee.value (Operand.func 56)), [(Operand.tmp 83)].toArray, #[78]⟩, none, 0⟩,
 ⟨some 11, .assign (Operand.tmp 84), none, 0⟩])
 (.seq
 (.ops [⟨some 85, .move (Operand.tmp 11), none, 0⟩,
 ⟨some 86, .call ⟨(Callee.value (Operand.func 58)), [(Operand.tmp 85)].toArray, #[34]⟩, none, 0⟩,
 ⟨some 87, .call ⟨(Callee.builtin Builtin.len), [(Operand.tmp 86)].toArray, #[34]⟩, none, 0⟩,
 ⟨some 88, .move (Operand.tmp 10), none, 0⟩,
 ⟨some 89, .call ⟨(Callee.builtin Builtin.len), [(Operand.tmp 88)].toArray, #[34]⟩, none, 0⟩,
 ⟨some 90, .binOp BinOp.lss 3 (Operand.tmp 87) (Operand.tmp 89) 3, none, 0⟩])
 (.cond (Operand.tmp 90)
 (.seq
 (.ops [⟨some 2, .assign (Operand.const (Value.int IntKind.i64 5)), none, 0⟩])
 .ret)
 .skip)))))
 (.ops [⟨some 91, .binOp BinOp.add 3 (Operand.tmp 78) (Operand.const (Value.int IntKind.i64 1)) 3, none, 0⟩,
 ⟨some 78, .move (Operand.tmp 91), none, 0⟩])))))))
 (.seq
 (.ops [⟨some 2, .assign (Operand.const (Value.int IntKind.i64 0)), none, 0⟩])
 .ret)))))
abbrev R34 : List ResultVar := [ResultVar.tmp 2]
theorem ok34 : FnOK Tryd.prog 34 L34 R34 1 := ⟨_, _, Tryd.func34, rfl, by kernel_rfl, by kernel_rfl, by kernel_rfl, by kernel_rfl, Nat.le_of_ble_eq_true (by kernel_rfl), by kernel_rfl⟩

/-- ablaut/token.isBlank -/
def L35 : LCode :=
 (.seq
 (.ops [⟨some 2, .assign (Operand.const (Value.bool false)), none, 0⟩])
 (.seq
 (.ops [⟨some 3, .move (Operand.tmp 0), none, 0⟩,
 ⟨some 4, .binOp BinOp.eql 5 (Operand.tmp 3) (Operand.const (Value.int IntKind.u8 9)) 5, none, 0⟩,
 ⟨some 5, .move (Operand.tmp 4), none, 0⟩,
 ⟨some 6, .move (Operand.tmp 0), some (5, false), 0⟩,
 ⟨some 7, .binOp BinOp.eql 5 (Operand.tmp 6) (Operand.const (Value.int IntKind.u8 10)) 5, some (5, false), 0⟩,
 ⟨some 8, .pick (Operand.tmp 5) (Operand.const (Value.bool true)) (Operand.tmp 7), none, 0⟩,
 ⟨some 9, .move (Operand.tmp 8), none, 0⟩,
 ⟨some 10, .move (Operand.tmp 0), some (9, false), 0⟩,
 ⟨some 11, .binOp BinOp.eql 5 (Operand.tmp 10) (Operand.const (Value.int IntKind.u8 13)) 5, some (9, false), 0⟩,
 ⟨some 12, .pick (Operand.tmp 9) (Operand.const (Value.bool true)) (Operand.tmp 11), none, 0⟩,
 ⟨some 13, .move (Operand.tmp 12), none, 0⟩,
 ⟨some 14, .move (Operand.tmp 0), some (13, false), 0⟩,
 ⟨some 15, .binOp BinOp.eql 5 (Operand.tmp 14) (Operand.const (Value.int IntKind.u8 32)) 5, some (13, false), 0⟩,
 ⟨some 16, .pick (Operand.tmp 13) (Operand.const (Value.bool true)) (Operand.tmp 15), none, 0⟩,
 ⟨some 2, .assign (Operand.tmp 16), none, 0⟩])
 .ret))
abbrev R35 : List ResultVar := [ResultVar.tmp 2]
theorem ok35 : FnOK Tryd.prog 35 L35 R35 1 := ⟨_, _, Tryd.func35, rfl, by kernel_rfl, by kernel_rfl, by kernel_rfl, by kernel_rfl, Nat.le_of_ble_eq_true (by kernel_rfl), by kernel_rfl⟩

/-- ablaut/token.kindOf -/
def L36 : LCode :=
 (.seq
 (.ops [⟨some 2, .assign (Operand.const (Value.int IntKind.i64 0)), none, 0⟩])
 (.seq
 (.seq
 (.ops [⟨some 3, .move (Operand.tmp 0), none, 0⟩])
 (.block 0
 (.seq
 (.ops [⟨some 4, .typeAssert (Operand.tmp 3) 63 56 true, none, 0⟩,
 ⟨some 5, .extract (Operand.tmp 4) 1, none, 0⟩,
 ⟨some 6, .extract (Operand.tmp 4) 0, none, 0⟩])
 (.cond (Operand.tmp 5)
 (.seq
 (.ops [⟨some 2, .assign (Operand.const (Value.int IntKind.i64 3)), none, 0⟩])
 .ret)
 (.seq
 (.ops [⟨some 7, .typeAssert (Operand.tmp 3) 63 58 true, none, 0⟩,
 ⟨some 8, .extract (Operand.tmp 7) 1, none, 0⟩,
 ⟨some 9, .extract (Operand.tmp 7) 0, none, 0⟩])
 (.cond (Operand.tmp 8)
 (.seq
 (.ops [⟨some 2, .assign (Operand.const (Value.int IntKind.i64 1)), none, 0⟩])
 .ret)
 (.seq
 (.ops [⟨some 10, .typeAssert (Operand.tmp 3) 63 59 true, none, 0⟩,
 ⟨some 11, .extract (Operand.tmp 10) 1, none, 0⟩,
 ⟨some 12, .extract (Operand.tmp 10) 0, none, 0⟩])
 (.cond (Operand.tmp 11)
 (.seq
 (.ops [⟨some 2, .assign (Operand.const (Value.int IntKind.i64 0)), none, 0⟩])
 .ret)
 .skip))))))))
 (.seq
 (.ops [⟨some 2, .assign (Operand.const (Value.int IntKind.i64 2)), none, 0⟩])
 .ret)))
abbrev R36 : List ResultVar := [ResultVar.tmp 2]
theorem ok36 : FnOK Tryd.prog 36 L36 R36 1 := ⟨_, _, Tryd.func36, rfl, by kernel_rfl, by kernel_rfl, by kernel_rfl, by kernel_rfl, Nat.le_of_ble_eq_true (by kernel_rfl), by kernel_rfl⟩

/-- ablaut/token.clitics -/
def L37 : LCode :=
 (.seq
 (.ops [⟨some 3, .box 36 (Operand.tmp 0), none, 0⟩,
 ⟨some 6, .assign (Operand.const (Value.slice none 0 0)), none, 0⟩])
 (.seq
 (.ops [⟨some 7, .assign (Operand.const (Value.slice none 0 0)), none, 0⟩,
 ⟨some 8, .assign (Operand.const (Value.slice none 0 0)), none, 0⟩])
 (.seq
 (.block 0
 (.loop
 (.block 1
 (.seq
 (.draw [⟨some 12, .fieldAddr 36 (Operand.tmp 3) 2, none, 0⟩,
 ⟨some 13, .load 34 (Operand.tmp 12), none, 0⟩,
 ⟨some 14, .move (Operand.tmp 2), none, 0⟩,
 ⟨some 15, .call ⟨(Callee.value (Operand.func 10)), [(Operand.tmp 14)].toArray, #[9]⟩, none, 0⟩,
 ⟨some 16, .call ⟨(Callee.value (Operand.func 59)), [(Operand.tmp 13), (Operand.tmp 15), (Operand.func 60)].toArray, #[34, 9, 82]⟩, none, 0⟩,
 ⟨some 9, .assign (Operand.tmp 16), none, 0⟩] true [4, 5] [])
 (.seq
 (.seq
 (.ops [⟨some 17, .move (Operand.tmp 9), none, 0⟩,
 ⟨some 18, .binOp BinOp.eql 3 (Operand.tmp 17) (Operand.const (Value.int IntKind.i64 0)) 3, none, 0⟩])
 (.cond (Operand.tmp 18)
 (.exit 0)
 .skip))
 (.seq
 (.ops [⟨some 19, .move (Operand.tmp 7), none, 0⟩,
 ⟨some 20, .move (Operand.tmp 1), none, 0⟩,
 ⟨some 21, .move (Operand.tmp 1), none, 0⟩,
 ⟨some 22, .move (Operand.tmp 9), none, 0⟩,
 ⟨some 23, .binOp BinOp.add 3 (Operand.tmp 21) (Operand.tmp 22) 3, none, 0⟩,
 ⟨some 24, .move (Operand.tmp 2), none, 0⟩,
 ⟨some 25, .move (Operand.tmp 9), none, 0⟩,
 ⟨some 26, .slice 9 (Operand.tmp 24) none (some (Operand.tmp 25)) none, none, 0⟩,
 ⟨some 27, .build 44 [(0, (Operand.tmp 20)), (1, (Operand.tmp 23)), (2, (Operand.const (Value.int IntKind.i64 4))), (3, (Operand.tmp 26))].toArray, none, 0⟩,
 ⟨some 28, .buildSlice 37 1 [(0, (Operand.tmp 27))].toArray, none, 0⟩,
 ⟨some 29, .call ⟨(Callee.builtin Builtin.append), [(Operand.tmp 19), (Operand.tmp 28)].toArray, #[37, 37]⟩, none, 0⟩,
 ⟨some 7, .assign (Operand.tmp 29), none, 0⟩])
 (.draw [⟨some 30, .move (Operand.tmp 1), none, 0⟩,
 ⟨some 31, .move (Operand.tmp 9), none, 0⟩,
 ⟨some 32, .binOp BinOp.add 3 (Operand.tmp 30) (Operand.tmp 31) 3, none, 0⟩,
 ⟨some 33, .move (Operand.tmp 2), none, 0⟩,
 ⟨some 34, .move (Operand.tmp 9), none, 0⟩,
 ⟨some 35, .slice 9 (Operand.tmp 33) (some (Operand.tmp 34)) none none, none, 0⟩,
 ⟨some 1, .assign (Operand.tmp 32), none, 0⟩,
 ⟨some 2, .assign (Operand.tmp 35), none, 0⟩] true [7] [0, 1, 2, 3, 4, 6, 5, 7])))))))
 (.seq
 (.block 2
 (.loop
 (.block 3
 (.seq
 (.draw [⟨some 36, .fieldAddr 36 (Operand.tmp 3) 3, none, 0⟩,
 ⟨some 37, .load 34 (Operand.tmp 36), none, 0⟩,
 ⟨some 38, .move (Operand.tmp 2), none, 0⟩,
 ⟨some 39, .call ⟨(Callee.value (Operand.func 10)), [(Operand.tmp 38)].toArray, #[9]⟩, none, 0⟩,
 ⟨some 40, .call ⟨(Callee.value (Operand.func 59)), [(Operand.tmp 37), (Operand.tmp 39), (Operand.func 61)].toArray, #[34, 9, 82]⟩, none, 0⟩,
 ⟨some 10, .assign (Operand.tmp 40), none, 0⟩] true [4, 5] [])
 (.seq
 (.seq
 (.ops [⟨some 41, .move (Operand.tmp 10), none, 0⟩,
 ⟨some 42, .binOp BinOp.eql 3 (Operand.tmp 41) (Operand.const (Value.int IntKind.i64 0)) 3, none, 0⟩])
 (.cond (Operand.tmp 42)
 (.exit 2)
 .skip))
 (.seq
 (.ops [⟨some 43, .move (Operand.tmp 2), none, 0⟩,
 ⟨some 44, .call ⟨(Callee.builtin Builtin.len), [(Operand.tmp 43)].toArray, #[9]⟩, none, 0⟩,
 ⟨some 45, .move (Operand.tmp 10), none, 0⟩,
 ⟨some 46, .binOp BinOp.sub 3 (Operand.tmp 44) (Operand.tmp 45) 3, none, 0⟩,
 ⟨some 11, .assign (Operand.tmp 46), none, 0⟩])
 (.seq
 (.ops [⟨some 47, .move (Operand.tmp 8), none, 0⟩,
 ⟨some 48, .move (Operand.tmp 1), none, 0⟩,
 ⟨some 49, .move (Operand.tmp 11), none, 0⟩,
 ⟨some 50, .binOp BinOp.add 3 (Operand.tmp 48) (Operand.tmp 49) 3, none, 0⟩,
 ⟨some 51, .move (Operand.tmp 1), none, 0⟩,
 ⟨some 52, .move (Operand.tmp 2), none, 0⟩,
 ⟨some 53, .call ⟨(Callee.builtin Builtin.len), [(Operand.tmp 52)].toArray, #[9]⟩, none, 0⟩,
 ⟨some 54, .binOp BinOp.add 3 (Operand.tmp 51) (Operand.tmp 53) 3, none, 0⟩,
 ⟨some 55, .move (Operand.tmp 2), none, 0⟩,
 ⟨some 56, .move (Operand.tmp 11), none, 0⟩,
 ⟨some 57, .slice 9 (Operand.tmp 55) (some (Operand.tmp 56)) none none, none, 0⟩,
 ⟨some 58, .build 44 [(0, (Operand.tmp 50)), (1, (Operand.tmp 54)), (2, (Operand.const (Value.int IntKind.i64 5))), (3, (Operand.tmp 57))].toArray, none, 0⟩,
 ⟨some 59, .buildSlice 37 1 [(0, (Operand.tmp 58))].toArray, none, 0⟩,
 ⟨some 60, .call ⟨(Callee.builtin Builtin.append), [(Operand.tmp 47), (Operand.tmp 59)].toArray, #[37, 37]⟩, none, 1⟩,
 ⟨some 8, .assign (Operand.tmp 60), none, 0⟩])
 (.ops [⟨some 61, .move (Operand.tmp 2), none, 0⟩,
 ⟨some 62, .move (Operand.tmp 11), none, 0⟩,
 ⟨some 63, .slice 9 (Operand.tmp 61) none (some (Operand.tmp 62)) none, none, 0⟩,
 ⟨some 2, .assign (Operand.tmp 63), none, 0⟩]))))))))
 (.seq
 (.ops [⟨some 64, .move (Operand.tmp 7), none, 0⟩,
 ⟨some 65, .move (Operand.tmp 1), none, 0⟩,
 ⟨some 66, .move (Operand.tmp 1), none, 0⟩,
 ⟨some 67, .move (Operand.tmp 2), none, 0⟩,
 ⟨some 68, .call ⟨(Callee.builtin Builtin.len), [(Operand.tmp 67)].toArray, #[9]⟩, none, 0⟩,
 ⟨some 69, .binOp BinOp.add 3 (Operand.tmp 66) (Operand.tmp 68) 3, none, 0⟩,
 ⟨some 70, .move (Operand.tmp 2), none, 0⟩,
 ⟨some 71, .build 44 [(0, (Operand.tmp 65)), (1, (Operand.tmp 69)), (2, (Operand.const (Value.int IntKind.i64 0))), (3, (Operand.tmp 70))].toArray, none, 0⟩,
 ⟨some 72, .buildSlice 37 1 [(0, (Operand.tmp 71))].toArray, none, 0⟩,
 ⟨some 73, .call ⟨(Callee.builtin Builtin.append), [(Operand.tmp 64), (Operand.tmp 72)].toArray, #[37, 37]⟩, none, 0⟩,
 ⟨some 7, .assign (Operand.tmp 73), none, 0⟩])
 (.seq
 (.ops [⟨some 74, .move (Operand.tmp 8), none, 0⟩,
 ⟨some 75, .call ⟨(Callee.value (Operand.func 62)), [(Operand.tmp 74)].toArray, #[37]⟩, none, 0⟩])
 (.seq
 (.ops [⟨some 76, .move (Operand.tmp 7), none, 0⟩,
 ⟨some 77, .move (Operand.tmp 8), none, 0⟩,
 ⟨some 78, .call ⟨(Callee.builtin Builtin.append), [(Operand.tmp 76), (Operand.tmp 77)].toArray, #[37, 37]⟩, none, 0⟩,
 ⟨some 6, .assign (Operand.tmp 78), none, 0⟩])
 .ret)))))))
abbrev R37 : List ResultVar := [ResultVar.tmp 6]
theorem ok37 : FnOK Tryd.prog 37 L37 R37 3 := ⟨_, _, Tryd.func37, rfl, by kernel_rfl, by kernel_rfl, by kernel_rfl, by kernel_rfl, Nat.le_of_ble_eq_true (by kernel_rfl), by kernel_rfl⟩

/-- ablaut/token.begins -/
def L38 : LCode :=
 (.seq
 (.ops [⟨some 2, .assign (Operand.const (Value.slice none 0 0)), none, 0⟩])
 (.seq
 (.ops [⟨some 3, .assign (Operand.const (Value.slice none 0 0)), none, 0⟩])
 (.seq
 (.seq
 (.ops [⟨some 8, .move (Operand.tmp 0), none, 0⟩,
 ⟨some 9, .call ⟨(Callee.builtin Builtin.len), [(Operand.tmp 8)].toArray, #[37]⟩, none, 0⟩,
 ⟨some 10, .move (Operand.const (Value.int IntKind.i64 0)), none, 0⟩])
 (.block 0
 (.loop
 (.seq
 (.ops [⟨some 11, .binOp BinOp.lss 3 (Operand.tmp 10) (Operand.tmp 9) 3, none, 0⟩])
 (.seq
 (.cond (Operand.tmp 11)
 .skip
 (.exit 0))
 (.seq
 (.block 1
 (.seq
 (.ops [⟨some 12, .move (Operand.tmp 10), none, 0⟩,
 ⟨some 13, .indexAddr 37 (Operand.tmp 8) (Operand.tmp 10), none, 0⟩,
 ⟨some 14, .load 44 (Operand.tmp 13), none, 0⟩,
 ⟨some 5, .alloc 44, none, 0⟩,
 ⟨some 4, .assign (Operand.tmp 12), none, 0⟩,
 ⟨none, .store 44 (Operand.tmp 5) (Operand.tmp 14), none, 0⟩])
 (.seq
 (.seq
 (.ops [⟨some 15, .move (Operand.tmp 4), none, 0⟩,
 ⟨some 16, .binOp BinOp.eql 3 (Operand.tmp 15) (Operand.const (Value.int IntKind.i64 0)) 3, none, 0⟩])
 (.cond (Operand.tmp 16)
 (.seq
 (.ops [⟨some 17, .move (Operand.tmp 3), none, 0⟩,
 ⟨some 18, .move (Operand.tmp 4), none, 0⟩,
 ⟨some 19, .buildSlice 40 1 [(0, (Operand.tmp 18))].toArray, none, 0⟩,
 ⟨some 20, .call ⟨(Callee.builtin Builtin.append), [(Operand.tmp 17), (Operand.tmp 19)].toArray, #[40, 40]⟩, none, 0⟩,
 ⟨some 3, .assign (Operand.tmp 20), none, 0⟩])
 (.exit 1))
 .skip))
 (.seq
 (.ops [⟨some 21, .move (Operand.tmp 4), none, 0⟩,
 ⟨some 22, .binOp BinOp.sub 3 (Operand.tmp 21) (Operand.const (Value.int IntKind.i64 1)) 3, none, 0⟩,
 ⟨some 6, .assign (Operand.tmp 22), none, 0⟩])
 (.seq
 (.block 2
 (.loop
 (.seq
 (.seq
 (.draw [⟨some 23, .move (Operand.tmp 6), none, 0⟩,
 ⟨some 24, .binOp BinOp.gtr 3 (Operand.tmp 23) (Operand.const (Value.int IntKind.i64 0)) 3, none, 0⟩,
 ⟨some 25, .move (Operand.tmp 24), none, 0⟩,
 ⟨some 26, .move (Operand.tmp 0), some (25, true), 0⟩,
 ⟨some 27, .move (Operand.tmp 6), some (25, true), 0⟩,
 ⟨some 28, .indexAddr 37 (Operand.tmp 26) (Operand.tmp 27), some (25, true), 0⟩,
 ⟨some 29, .load 44 (Operand.tmp 28), some (25, true), 0⟩,
 ⟨some 30, .call ⟨(Callee.value (Operand.func 63)), [(Operand.tmp 29), (Operand.const (Value.string ⟨#[34, 41, 39]⟩))].toArray, #[44, 9]⟩, some (25, true), 0⟩,
 ⟨some 31, .pick (Operand.tmp 25) (Operand.tmp 30) (Operand.const (Value.bool false)), none, 0⟩,
 ⟨some 32, .move (Operand.tmp 31), none, 0⟩,
 ⟨some 33, .move (Operand.tmp 0), some (32, true), 0⟩,
 ⟨some 34, .move (Operand.tmp 6), some (32, true), 0⟩,
 ⟨some 35, .binOp BinOp.sub 3 (Operand.tmp 34) (Operand.const (Value.int IntKind.i64 1)) 3, some (32, true), 0⟩,
 ⟨some 36, .indexAddr 37 (Operand.tmp 33) (Operand.tmp 35), some (32, true), 0⟩,
 ⟨some 37, .fieldAddr 44 (Operand.tmp 36) 1, some (32, true), 0⟩,
 ⟨some 38, .load 3 (Operand.tmp 37), some (32, true), 0⟩,
 ⟨some 39, .move (Operand.tmp 0), some (32, true), 0⟩,
 ⟨some 40, .move (Operand.tmp 6), some (32, true), 0⟩,
 ⟨some 41, .indexAddr 37 (Operand.tmp 39) (Operand.tmp 40), some (32, true), 0⟩,
 ⟨some 42, .fieldAddr 44 (Operand.tmp 41) 0, some (32, true), 0⟩,
 ⟨some 43, .load 3 (Operand.tmp 42), some (32, true), 0⟩,
 ⟨some 44, .binOp BinOp.eql 3 (Operand.tmp 38) (Operand.tmp 43) 3, some (32, true), 0⟩,
 ⟨some 45, .pick (Operand.tmp 32) (Operand.tmp 44) (Operand.const (Value.bool false)), none, 0⟩] true [21, 22] [0, 1, 2, 3, 4, 5, 6, 7, 8, 9, 10, 11, 12, 13, 14, 15, 16, 17, 18, 19, 20, 21, 22])
 (.cond (Operand.tmp 45)
 .skip
 (.exit 2)))
 (.block 3
 (.ops [⟨some 46, .move (Operand.tmp 6), none, 0⟩,
 ⟨some 47, .binOp BinOp.sub 3 (Operand.tmp 46) (Operand.const (Value.int IntKind.i64 1)) 3, none, 0⟩,
 ⟨some 6, .assign (Operand.tmp 47), none, 0⟩])))))
 (.seq
 (.ops [⟨some 48, .load 44 (Operand.tmp 5), none, 0⟩,
 ⟨some 49, .call ⟨(Callee.value (Operand.func 64)), [(Operand.tmp 48)].toArray, #[44]⟩, none, 0⟩,
 ⟨some 50, .move (Operand.tmp 49), none, 0⟩,
 ⟨some 51, .fieldAddr 44 (Operand.tmp 5) 3, some (50, true), 0⟩,
 ⟨some 52, .load 9 (Operand.tmp 51), some (50, true), 0⟩,
 ⟨some 53, .index 9 (Operand.tmp 52) (Operand.const (Value.int IntKind.i64 0)), some (50, true), 0⟩,
 ⟨some 54, .call ⟨(Callee.value (Operand.func 42)), [(Operand.tmp 53)].toArray, #[5]⟩, some (50, true), 0⟩,
 ⟨some 55, .pick (Operand.tmp 50) (Operand.tmp 54) (Operand.const (Value.bool false)), none, 0⟩,
 ⟨some 7, .assign (Operand.tmp 55), none, 0⟩])
 (.seq
 (.draw [⟨some 56, .move (Operand.tmp 0), none, 0⟩,
 ⟨some 57, .move (Operand.tmp 6), none, 0⟩,
 ⟨some 58, .indexAddr 37 (Operand.tmp 56) (Operand.tmp 57), none, 0⟩,
 ⟨some 59, .load 44 (Operand.tmp 58), none, 0⟩,
 ⟨some 60, .call ⟨(Callee.value (Operand.func 63)), [(Operand.tmp 59), (Operand.const (Value.string ⟨#[46, 33, 63]⟩))].toArray, #[44, 9]⟩, none, 0⟩,
 ⟨some 61, .move (Operand.tmp 60), none, 0⟩,
 ⟨some 62, .move (Operand.tmp 0), some (61, true), 0⟩,
 ⟨some 63, .move (Operand.tmp 4), some (61, true), 0⟩,
 ⟨some 64, .binOp BinOp.sub 3 (Operand.tmp 63) (Operand.const (Value.int IntKind.i64 1)) 3, some (61, true), 0⟩,
 ⟨some 65, .indexAddr 37 (Operand.tmp 62) (Operand.tmp 64), some (61, true), 0⟩,
 ⟨some 66, .fieldAddr 44 (Operand.tmp 65) 1, some (61, true), 0⟩,
 ⟨some 67, .load 3 (Operand.tmp 66), some (61, true), 0⟩,
 ⟨some 68, .fieldAddr 44 (Operand.tmp 5) 0, some (61, true), 0⟩,
 ⟨some 69, .load 3 (Operand.tmp 68), some (61, true), 0⟩,
 ⟨some 70, .binOp BinOp.lss 3 (Operand.tmp 67) (Operand.tmp 69) 3, some (61, true), 0⟩,
 ⟨some 71, .pick (Operand.tmp 61) (Operand.tmp 70) (Operand.const (Value.bool false)), none, 0⟩,
 ⟨some 72, .move (Operand.tmp 71), none, 0⟩,
 ⟨some 73, .move (Operand.tmp 7), some (72, true), 0⟩,
 ⟨some 74, .unOp UnOp.not 4 (Operand.tmp 73), some (72, true), 0⟩,
 ⟨some 75, .pick (Operand.tmp 72) (Operand.tmp 74) (Operand.const (Value.bool false)), none, 0⟩] true [14, 15, 16, 17, 18, 19] [0, 1, 2, 3, 4, 5, 6, 7, 8, 9, 10, 11, 12, 13, 14, 15, 16, 17, 18, 19])
 (.cond (Operand.tmp 75)
 (.ops [⟨some 76, .move (Operand.tmp 3), none, 0⟩,
 ⟨some 77, .move (Operand.tmp 4), none, 0⟩,
 ⟨some 78, .buildSlice 40 1 [(0, (Operand.tmp 77))].toArray, none, 0⟩,
 ⟨some 79, .call ⟨(Callee.builtin Builtin.append), [(Operand.tmp 76), (Operand.tmp 78)].toArray, #[40, 40]⟩, none, 0⟩,
 ⟨some 3, .assign (Operand.tmp 79), none, 0⟩])
 .skip))))))))
 (.ops [⟨some 80, .binOp BinOp.add 3 (Operand.tmp 10) (Operand.const (Value.int IntKind.i64 1)) 3, none, 0⟩,
 ⟨some 10, .move (Operand.tmp 80), none, 0⟩])))))))
 (.seq
 (.ops [⟨some 81, .move (Operand.tmp 3), none, 0⟩,
 ⟨some 2, .assign (Operand.tmp 81), none, 0⟩])
 .ret))))
abbrev R38 : List ResultVar := [ResultVar.tmp 2]
theorem ok38 : FnOK Tryd.prog 38 L38 R38 1 := ⟨_, _, Tryd.func38, rfl, by kernel_rfl, by kernel_rfl, by kernel_rfl, by kernel_rfl, Nat.le_of_ble_eq_true (by kernel_rfl), by kernel_rfl⟩

/-- ablaut/token.digits -/
def L41 : LCode :=
 (.seq
 (.ops [⟨some 2, .assign (Operand.const (Value.int IntKind.i64 0)), none, 0⟩])
 (.seq
 (.ops [⟨some 3, .assign (Operand.const (Value.int IntKind.i64 0)), none, 0⟩])
 (.seq
 (.block 0
 (.loop
 (.seq
 (.seq
 (.ops [⟨some 4, .move (Operand.tmp 3), none, 0⟩,
 ⟨some 5, .move (Operand.tmp 0), none, 0⟩,
 ⟨some 6, .call ⟨(Callee.builtin Builtin.len), [(Operand.tmp 5)].toArray, #[9]⟩, none, 0⟩,
 ⟨some 7, .binOp BinOp.lss 3 (Operand.tmp 4) (Operand.tmp 6) 3, none, 0⟩,
 ⟨some 8, .move (Operand.tmp 7), none, 0⟩,
 ⟨some 9, .move (Operand.tmp 0), some (8, true), 0⟩,
 ⟨some 10, .move (Operand.tmp 3), some (8, true), 0⟩,
 ⟨some 11, .index 9 (Operand.tmp 9) (Operand.tmp 10), some (8, true), 0⟩,
 ⟨some 12, .call ⟨(Callee.value (Operand.func 27)), [(Operand.tmp 11)].toArray, #[5]⟩, some (8, true), 0⟩,
 ⟨some 13, .pick (Operand.tmp 8) (Operand.tmp 12) (Operand.const (Value.bool false)), none, 0⟩])
 (.cond (Operand.tmp 13)
 .skip
 (.exit 0)))
 (.block 1
 (.ops [⟨some 14, .move (Operand.tmp 3), none, 0⟩,
 ⟨some 15, .binOp BinOp.add 3 (Operand.tmp 14) (Operand.const (Value.int IntKind.i64 1)) 3, none, 0⟩,
 ⟨some 3, .assign (Operand.tmp 15), none, 0⟩])))))
 (.seq
 (.ops [⟨some 16, .move (Operand.tmp 3), none, 0⟩,
 ⟨some 2, .assign (Operand.tmp 16), none, 0⟩])
 .ret))))
abbrev R41 : List ResultVar := [ResultVar.tmp 2]
theorem ok41 : FnOK Tryd.prog 41 L41 R41 1 := ⟨_, _, Tryd.func41, rfl, by kernel_rfl, by kernel_rfl, by kernel_rfl, by kernel_rfl, Nat.le_of_ble_eq_true (by kernel_rfl), by kernel_rfl⟩

/-- ablaut/token.isSmall -/
def L42 : LCode :=
 (.seq
 (.ops [⟨some 2, .assign (Operand.const (Value.bool false)), none, 0⟩])
 (.seq
 (.ops [⟨some 3, .move (Operand.tmp 0), none, 0⟩,
 ⟨some 4, .binOp BinOp.geq 5 (Operand.tmp 3) (Operand.const (Value.int IntKind.u8 97)) 5, none, 0⟩,
 ⟨some 5, .move (Operand.tmp 4), none, 0⟩,
 ⟨some 6, .move (Operand.tmp 0), some (5, true), 0⟩,
 ⟨some 7, .binOp BinOp.leq 5 (Operand.tmp 6) (Operand.const (Value.int IntKind.u8 122)) 5, some (5, true), 0⟩,
 ⟨some 8, .pick (Operand.tmp 5) (Operand.tmp 7) (Operand.const (Value.bool false)), none, 0⟩,
 ⟨some 2, .assign (Operand.tmp 8), none, 0⟩])
 .ret))
abbrev R42 : List ResultVar := [ResultVar.tmp 2]
theorem ok42 : FnOK Tryd.prog 42 L42 R42 1 := ⟨_, _, Tryd.func42, rfl, by kernel_rfl, by kernel_rfl, by kernel_rfl, by kernel_rfl, Nat.le_of_ble_eq_true (by kernel_rfl), by kernel_rfl⟩

/-- ablaut/token.small -/
def L44 : LCode :=
 (.seq
 (.ops [⟨some 2, .assign (Operand.const (Value.string ⟨#[]⟩)), none, 0⟩])
 (.seq
 (.ops [⟨some 3, .call ⟨(Callee.value (Operand.func 69)), [(Operand.const (Value.string ⟨#[122, 101, 114, 111, 32, 111, 110, 101, 32, 116, 119, 111, 32, 116, 104, 114, 101, 101, 32, 102, 111, 117, 114, 32, 102, 105, 118, 101, 32, 115, 105, 120, 32, 115, 101, 118, 101, 110, 32, 101, 105, 103, 104, 116, 32, 110, 105, 110, 101, 32, 116, 101, 110, 32, 101, 108, 101, 118, 101, 110, 32, 116, 119, 101, 108, 118, 101, 32, 116, 104, 105, 114, 116, 101, 101, 110, 32, 102, 111, 117, 114, 116, 101, 101, 110, 32, 102, 105, 102, 116, 101, 101, 110, 32, 115, 105, 120, 116, 101, 101, 110, 32, 115, 101, 118, 101, 110, 116, 101, 101, 110, 32, 101, 105, 103, 104, 116, 101, 101, 110, 32, 110, 105, 110, 101, 116, 101, 101, 110]⟩))].toArray, #[9]⟩, none, 0⟩,
 ⟨some 4, .move (Operand.tmp 0), none, 0⟩,
 ⟨some 5, .indexAddr 34 (Operand.tmp 3) (Operand.tmp 4), none, 0⟩,
 ⟨some 6, .load 9 (Operand.tmp 5), none, 0⟩,
 ⟨some 2, .assign (Operand.tmp 6), none, 0⟩])
 .ret))
abbrev R44 : List ResultVar := [ResultVar.tmp 2]
theorem ok44 : FnOK Tryd.prog 44 L44 R44 1 := ⟨_, _, Tryd.func44, rfl, by kernel_rfl, by kernel_rfl, by kernel_rfl, by kernel_rfl, Nat.le_of_ble_eq_true (by kernel_rfl), by kernel_rfl⟩

/-- ablaut/token.tens -/
def L45 : LCode :=
 (.seq
 (.ops [⟨some 2, .assign (Operand.const (Value.string ⟨#[]⟩)), none, 0⟩])
 (.seq
 (.ops [⟨some 3, .call ⟨(Callee.value (Operand.func 69)), [(Operand.const (Value.string ⟨#[116, 119, 101, 110, 116, 121, 32, 116, 104, 105, 114, 116, 121, 32, 102, 111, 114, 116, 121, 32, 102, 105, 102, 116, 121, 32, 115, 105, 120, 116, 121, 32, 115, 101, 118, 101, 110, 116, 121, 32, 101, 105, 103, 104, 116, 121, 32, 110, 105, 110, 101, 116, 121]⟩))].toArray, #[9]⟩, none, 0⟩,
 ⟨some 4, .move (Operand.tmp 0), none, 0⟩,
 ⟨some 5, .binOp BinOp.sub 3 (Operand.tmp 4) (Operand.const (Value.int IntKind.i64 2)) 3, none, 0⟩,
 ⟨some 6, .indexAddr 34 (Operand.tmp 3) (Operand.tmp 5), none, 0⟩,
 ⟨some 7, .load 9 (Operand.tmp 6), none, 0⟩,
 ⟨some 2, .assign (Operand.tmp 7), none, 0⟩])
 .ret))
abbrev R45 : List ResultVar := [ResultVar.tmp 2]
theorem ok45 : FnOK Tryd.prog 45 L45 R45 1 := ⟨_, _, Tryd.func45, rfl, by kernel_rfl, by kernel_rfl, by kernel_rfl, by kernel_rfl, Nat.le_of_ble_eq_true (by kernel_rfl), by kernel_rfl⟩

/-- ablaut/token.behind -/
def L46 : LCode :=
 (.seq
 (.ops [⟨some 4, .assign (Operand.const (Value.string ⟨#[]⟩)), none, 0⟩])
 (.seq
 (.block 0
 (.seq
 (.ops [⟨some 6, .move (Operand.tmp 1), none, 0⟩,
 ⟨some 7, .binOp BinOp.eql 3 (Operand.tmp 6) (Operand.const (Value.int IntKind.i64 0)) 3, none, 0⟩,
 ⟨some 5, .assign (Operand.tmp 7), none, 0⟩])
 (.cond (Operand.tmp 5)
 (.seq
 (.ops [⟨some 8, .move (Operand.tmp 0), none, 0⟩,
 ⟨some 4, .assign (Operand.tmp 8), none, 0⟩])
 .ret)
 (.seq
 (.ops [⟨some 10, .move (Operand.tmp 1), none, 0⟩,
 ⟨some 11, .binOp BinOp.lss 3 (Operand.tmp 10) (Operand.const (Value.int IntKind.i64 100)) 3, none, 0⟩,
 ⟨some 9, .assign (Operand.tmp 11), none, 0⟩])
 (.cond (Operand.tmp 9)
 (.seq
 (.ops [⟨some 12, .move (Operand.tmp 0), none, 0⟩,
 ⟨some 13, .binOp BinOp.add 9 (Operand.tmp 12) (Operand.const (Value.string ⟨#[32, 97, 110, 100, 32]⟩)) 9, none, 0⟩,
 ⟨some 14, .move (Operand.tmp 1), none, 0⟩,
 ⟨some 15, .call ⟨(Callee.value (Operand.func 29)), [(Operand.tmp 14)].toArray, #[3]⟩, none, 0⟩,
 ⟨some 16, .binOp BinOp.add 9 (Operand.tmp 13) (Operand.tmp 15) 9, none, 0⟩,
 ⟨some 4, .assign (Operand.tmp 16), none, 0⟩])
 .ret)
 .skip)))))
 (.seq
 (.ops [⟨some 17, .move (Operand.tmp 0), none, 0⟩,
 ⟨some 18, .binOp BinOp.add 9 (Operand.tmp 17) (Operand.const (Value.string ⟨#[32]⟩)) 9, none, 0⟩,
 ⟨some 19, .move (Operand.tmp 1), none, 0⟩,
 ⟨some 20, .call ⟨(Callee.value (Operand.func 29)), [(Operand.tmp 19)].toArray, #[3]⟩, none, 0⟩,
 ⟨some 21, .binOp BinOp.add 9 (Operand.tmp 18) (Operand.tmp 20) 9, none, 0⟩,
 ⟨some 4, .assign (Operand.tmp 21), none, 0⟩])
 .ret)))
abbrev R46 : List ResultVar := [ResultVar.tmp 4]
theorem ok46 : FnOK Tryd.prog 46 L46 R46 2 := ⟨_, _, Tryd.func46, rfl, by kernel_rfl, by kernel_rfl, by kernel_rfl, by kernel_rfl, Nat.le_of_ble_eq_true (by kernel_rfl), by kernel_rfl⟩

/-- ablaut/ablautref17.small -/
def L47 : LCode :=
 (.seq
 (.ops [⟨some 0, .alloc 69, none, 0⟩])
 (.seq
 (.ops [⟨some 1, .build 69 [(0, (Operand.const (Value.string ⟨#[122, 101, 114, 111]⟩))), (1, (Operand.const (Value.string ⟨#[111, 110, 101]⟩))), (2, (Operand.const (Value.string ⟨#[116, 119, 111]⟩))), (3, (Operand.const (Value.string ⟨#[116, 104, 114, 101, 101]⟩))), (4, (Operand.const (Value.string ⟨#[102, 111, 117, 114]⟩))), (5, (Operand.const (Value.string ⟨#[102, 105, 118, 101]⟩))), (6, (Operand.const (Value.string ⟨#[115, 105, 120]⟩))), (7, (Operand.const (Value.string ⟨#[115, 101, 118, 101, 110]⟩))), (8, (Operand.const (Value.string ⟨#[101, 105, 103, 104, 116]⟩))), (9, (Operand.const (Value.string ⟨#[110, 105, 110, 101]⟩))), (10, (Operand.const (Value.string ⟨#[116, 101, 110]⟩))), (11, (Operand.const (Value.string ⟨#[101, 108, 101, 118, 101, 110]⟩))), (12, (Operand.const (Value.string ⟨#[116, 119, 101, 108, 118, 101]⟩))), (13, (Operand.const (Value.string ⟨#[116, 104, 105, 114, 116, 101, 101, 110]⟩))), (14, (Operand.const (Value.string ⟨#[102, 111, 117, 114, 116, 101, 101, 110]⟩))), (15, (Operand.const (Value.string ⟨#[102, 105, 102, 116, 101, 101, 110]⟩))), (16, (Operand.const (Value.string ⟨#[115, 105, 120, 116, 101, 101, 110]⟩))), (17, (Operand.const (Value.string ⟨#[115, 101, 118, 101, 110, 116, 101, 101, 110]⟩))), (18, (Operand.const (Value.string ⟨#[101, 105, 103, 104, 116, 101, 101, 110]⟩))), (19, (Operand.const (Value.string ⟨#[110, 105, 110, 101, 116, 101, 101, 110]⟩)))].toArray, none, 0⟩,
 ⟨none, .store 69 (Operand.tmp 0) (Operand.tmp 1), none, 0⟩])
 .ret))
abbrev R47 : List ResultVar := [ResultVar.cell 0 69]
theorem ok47 : FnOK Tryd.prog 47 L47 R47 0 := ⟨_, _, Tryd.func47, rfl, by kernel_rfl, by kernel_rfl, by kernel_rfl, by kernel_rfl, Nat.le_of_ble_eq_true (by kernel_rfl), by kernel_rfl⟩

/-- ablaut/ablautref17.tens -/
def L48 : LCode :=
 (.seq
 (.ops [⟨some 0, .alloc 71, none, 0⟩])
 (.seq
 (.ops [⟨some 1, .build 71 [(0, (Operand.const (Value.string ⟨#[]⟩))), (1, (Operand.const (Value.string ⟨#[]⟩))), (2, (Operand.const (Value.string ⟨#[116, 119, 101, 110, 116, 121]⟩))), (3, (Operand.const (Value.string ⟨#[116, 104, 105, 114, 116, 121]⟩))), (4, (Operand.const (Value.string ⟨#[102, 111, 114, 116, 121]⟩))), (5, (Operand.const (Value.string ⟨#[102, 105, 102, 116, 121]⟩))), (6, (Operand.const (Value.string ⟨#[115, 105, 120, 116, 121]⟩))), (7, (Operand.const (Value.string ⟨#[115, 101, 118, 101, 110, 116, 121]⟩))), (8, (Operand.const (Value.string ⟨#[101, 105, 103, 104, 116, 121]⟩))), (9, (Operand.const (Value.string ⟨#[110, 105, 110, 101, 116, 121]⟩)))].toArray, none, 0⟩,
 ⟨none, .store 71 (Operand.tmp 0) (Operand.tmp 1), none, 0⟩])
 .ret))
abbrev R48 : List ResultVar := [ResultVar.cell 0 71]
theorem ok48 : FnOK Tryd.prog 48 L48 R48 0 := ⟨_, _, Tryd.func48, rfl, by kernel_rfl, by kernel_rfl, by kernel_rfl, by kernel_rfl, Nat.le_of_ble_eq_true (by kernel_rfl), by kernel_rfl⟩

/-- ablaut/token.below -/
def L49 : LCode :=
 (.seq
 (.ops [⟨some 2, .assign (Operand.const (Value.int IntKind.i64 0)), none, 0⟩])
 (.seq
 (.ops [⟨some 8, .move (Operand.tmp 0), none, 0⟩,
 ⟨some 9, .call ⟨(Callee.value (Operand.func 20)), [(Operand.tmp 8), (Operand.const (Value.string ⟨#[45]⟩))].toArray, #[9, 9]⟩, none, 0⟩,
 ⟨some 7, .move (Operand.tmp 9), none, 0⟩,
 ⟨some 10, .extract (Operand.tmp 7) 0, none, 0⟩,
 ⟨some 11, .extract (Operand.tmp 7) 1, none, 0⟩,
 ⟨some 12, .extract (Operand.tmp 7) 2, none, 0⟩,
 ⟨some 3, .assign (Operand.tmp 10), none, 0⟩,
 ⟨some 4, .assign (Operand.tmp 11), none, 0⟩,
 ⟨some 5, .assign (Operand.tmp 12), none, 0⟩])
 (.seq
 (.seq
 (.ops [⟨some 13, .move (Operand.const (Value.int IntKind.i64 0)), none, 0⟩])
 (.block 0
 (.loop
 (.seq
 (.ops [⟨some 14, .binOp BinOp.lss 3 (Operand.tmp 13) (Operand.const (Value.int IntKind.i64 100)) 3, none, 0⟩])
 (.seq
 (.cond (Operand.tmp 14)
 .skip
 (.exit 0))
 (.seq
 (.block 1
 (.seq
 (.ops [⟨some 15, .move (Operand.tmp 13), none, 0⟩,
 ⟨some 6, .assign (Operand.tmp 15), none, 0⟩])
 (.block 2
 (.seq
 (.ops [⟨some 17, .move (Operand.tmp 5), none, 0⟩,
 ⟨some 18, .unOp UnOp.not 4 (Operand.tmp 17), none, 0⟩,
 ⟨some 19, .move (Operand.tmp 18), none, 0⟩,
 ⟨some 20, .move (Operand.tmp 6), some (19, true), 0⟩,
 ⟨some 21, .call ⟨(Callee.value (Operand.func 29)), [(Operand.tmp 20)].toArray, #[3]⟩, some (19, true), 0⟩,
 ⟨some 22, .move (Operand.tmp 0), some (19, true), 0⟩,
 ⟨some 23, .binOp BinOp.eql 9 (Operand.tmp 21) (Operand.tmp 22) 9, some (19, true), 0⟩,
 ⟨some 24, .pick (Operand.tmp 19) (Operand.tmp 23) (Operand.const (Value.bool false)), none, 0⟩,
 ⟨some 16, .assign (Operand.tmp 24), none, 0⟩])
 (.cond (Operand.tmp 16)
 (.seq
 (.ops [⟨some 25, .move (Operand.tmp 6), none, 0⟩,
 ⟨some 2, .assign (Operand.tmp 25), none, 0⟩])
 .ret)
 (.seq
 (.ops [⟨some 27, .move (Operand.tmp 5), none, 0⟩,
 ⟨some 28, .move (Operand.tmp 27), none, 0⟩,
 ⟨some 29, .move (Operand.tmp 6), some (28, true), 0⟩,
 ⟨some 30, .binOp BinOp.gtr 3 (Operand.tmp 29) (Operand.const (Value.int IntKind.i64 20)) 3, some (28, true), 0⟩,
 ⟨some 31, .pick (Operand.tmp 28) (Operand.tmp 30) (Operand.const (Value.bool false)), none, 0⟩,
 ⟨some 32, .move (Operand.tmp 31), none, 0⟩,
 ⟨some 33, .move (Operand.tmp 6), some (32, true), 0⟩,
 ⟨some 34, .binOp BinOp.rem 3 (Operand.tmp 33) (Operand.const (Value.int IntKind.i64 10)) 3, some (32, true), 0⟩,
 ⟨some 35, .binOp BinOp.gtr 3 (Operand.tmp 34) (Operand.const (Value.int IntKind.i64 0)) 3, some (32, true), 0⟩,
 ⟨some 36, .pick (Operand.tmp 32) (Operand.tmp 35) (Operand.const (Value.bool false)), none, 0⟩,
 ⟨some 37, .move (Operand.tmp 36), none, 0⟩,
 ⟨some 38, .move (Operand.tmp 6), some (37, true), 0⟩,
 ⟨some 39, .binOp BinOp.quo 3 (Operand.tmp 38) (Operand.const (Value.int IntKind.i64 10)) 3, some (37, true), 0⟩,
 ⟨some 40, .call ⟨(Callee.value (Operand.func 45)), [(Operand.tmp 39)].toArray, #[3]⟩, some (37, true), 0⟩,
 ⟨some 41, .move (Operand.tmp 3), some (37, true), 0⟩,
 ⟨some 42, .binOp BinOp.eql 9 (Operand.tmp 40) (Operand.tmp 41) 9, some (37, true), 0⟩,
 ⟨some 43, .pick (Operand.tmp 37) (Operand.tmp 42) (Operand.const (Value.bool false)), none, 0⟩,
 ⟨some 44, .move (Operand.tmp 43), none, 0⟩,
 ⟨some 45, .move (Operand.tmp 6), some (44, true), 0⟩,
 ⟨some 46, .binOp BinOp.rem 3 (Operand.tmp 45) (Operand.const (Value.int IntKind.i64 10)) 3, some (44, true), 0⟩,
 ⟨some 47, .call ⟨(Callee.value (Operand.func 44)), [(Operand.tmp 46)].toArray, #[3]⟩, some (44, true), 0⟩,
 ⟨some 48, .move (Operand.tmp 4), some (44, true), 0⟩,
 ⟨some 49, .binOp BinOp.eql 9 (Operand.tmp 47) (Operand.tmp 48) 9, some (44, true), 0⟩,
 ⟨some 50, .pick (Operand.tmp 44) (Operand.tmp 49) (Operand.const (Value.bool false)), none, 0⟩,
 ⟨some 26, .assign (Operand.tmp 50), none, 0⟩])
 (.cond (Operand.tmp 26)
 (.seq
 (.ops [⟨some 51, .move (Operand.tmp 6), none, 0⟩,
 ⟨some 2, .assign (Operand.tmp 51), none, 0⟩])
 .ret)
 .skip)))))))
 (.ops [⟨some 52, .binOp BinOp.add 3 (Operand.tmp 13) (Operand.const (Value.int IntKind.i64 1)) 3, none, 0⟩,
 ⟨some 13, .move (Operand.tmp 52), none, 0⟩])))))))
 (.seq
 (.ops [⟨some 2, .assign (Operand.const (Value.int IntKind.i64 (-1))), none, 0⟩])
 .ret))))
abbrev R49 : List ResultVar := [ResultVar.tmp 2]
theorem ok49 : FnOK Tryd.prog 49 L49 R49 1 := ⟨_, _, Tryd.func49, rfl, by kernel_rfl, by kernel_rfl, by kernel_rfl, by kernel_rfl, Nat.le_of_ble_eq_true (by kernel_rfl), by kernel_rfl⟩

/-- ablaut/token.lists -/
def L51 : LCode :=
 (.seq
 (.ops [⟨some 1, .box 36 (Operand.tmp 0), none, 0⟩,
 ⟨some 2, .assign (Operand.const (Value.slice none 0 0)), none, 0⟩])
 (.seq
 (.ops [⟨some 3, .fieldAddr 36 (Operand.tmp 1) 0, none, 0⟩,
 ⟨some 4, .load 34 (Operand.tmp 3), none, 0⟩,
 ⟨some 5, .fieldAddr 36 (Operand.tmp 1) 1, none, 0⟩,
 ⟨some 6, .load 34 (Operand.tmp 5), none, 0⟩,
 ⟨some 7, .fieldAddr 36 (Operand.tmp 1) 2, none, 0⟩,
 ⟨some 8, .load 34 (Operand.tmp 7), none, 0⟩,
 ⟨some 9, .fieldAddr 36 (Operand.tmp 1) 3, none, 0⟩,
 ⟨some 10, .load 34 (Operand.tmp 9), none, 0⟩,
 ⟨some 11, .buildSlice 73 4 [(0, (Operand.tmp 4)), (1, (Operand.tmp 6)), (2, (Operand.tmp 8)), (3, (Operand.tmp 10))].toArray, none, 0⟩,
 ⟨some 2, .assign (Operand.tmp 11), none, 0⟩])
 .ret))
abbrev R51 : List ResultVar := [ResultVar.tmp 2]
theorem ok51 : FnOK Tryd.prog 51 L51 R51 1 := ⟨_, _, Tryd.func51, rfl, by kernel_rfl, by kernel_rfl, by kernel_rfl, by kernel_rfl, Nat.le_of_ble_eq_true (by kernel_rfl), by kernel_rfl⟩

/-- slices.ContainsFunc[[]string,string] -/
def L52 : LCode :=
 (.seq
 (.ops [⟨some 4, .assign (Operand.const (Value.bool false)), none, 0⟩])
 (.seq
 (.ops [⟨some 5, .move (Operand.tmp 0), none, 0⟩,
 ⟨some 6, .move (Operand.tmp 1), none, 0⟩,
 ⟨some 7, .call ⟨(Callee.value (Operand.func 71)), [(Operand.tmp 5), (Operand.tmp 6)].toArray, #[34, 26]⟩, none, 0⟩,
 ⟨some 8, .binOp BinOp.geq 3 (Operand.tmp 7) (Operand.const (Value.int IntKind.i64 0)) 3, none, 0⟩,
 ⟨some 4, .assign (Operand.tmp 8), none, 0⟩])
 .ret))
abbrev R52 : List ResultVar := [ResultVar.tmp 4]
theorem ok52 : FnOK Tryd.prog 52 L52 R52 2 := ⟨_, _, Tryd.func52, rfl, by kernel_rfl, by kernel_rfl, by kernel_rfl, by kernel_rfl, Nat.le_of_ble_eq_true (by kernel_rfl), by kernel_rfl⟩

/-- ablaut/token.Validate$1 -/
def L53 : LCode :=
 (.seq
 (.ops [⟨some 2, .assign (Operand.const (Value.bool false)), none, 0⟩])
 (.seq
 (.ops [⟨some 3, .move (Operand.tmp 0), none, 0⟩,
 ⟨some 4, .call ⟨(Callee.builtin Builtin.len), [(Operand.tmp 3)].toArray, #[9]⟩, none, 0⟩,
 ⟨some 5, .binOp BinOp.gtr 3 (Operand.tmp 4) (Operand.const (Value.int IntKind.i64 400)) 3, none, 0⟩,
 ⟨some 2, .assign (Operand.tmp 5), none, 0⟩])
 .ret))
abbrev R53 : List ResultVar := [ResultVar.tmp 2]
theorem ok53 : FnOK Tryd.prog 53 L53 R53 1 := ⟨_, _, Tryd.func53, rfl, by kernel_rfl, by kernel_rfl, by kernel_rfl, by kernel_rfl, Nat.le_of_ble_eq_true (by kernel_rfl), by kernel_rfl⟩

/-- ablaut/token.isUnit -/
def L54 : LCode :=
 (.seq
 (.ops [⟨some 2, .assign (Operand.const (Value.bool false)), none, 0⟩])
 (.seq
 (.ops [⟨some 3, .move (Operand.tmp 0), none, 0⟩,
 ⟨some 4, .index 9 (Operand.tmp 3) (Operand.const (Value.int IntKind.i64 0)), none, 0⟩,
 ⟨some 5, .call ⟨(Callee.value (Operand.func 35)), [(Operand.tmp 4)].toArray, #[5]⟩, none, 0⟩,
 ⟨some 6, .unOp UnOp.not 4 (Operand.tmp 5), none, 0⟩,
 ⟨some 7, .move (Operand.tmp 6), none, 0⟩,
 ⟨some 8, .move (Operand.tmp 0), some (7, true), 0⟩,
 ⟨some 9, .move (Operand.tmp 0), some (7, true), 0⟩,
 ⟨some 10, .call ⟨(Callee.builtin Builtin.len), [(Operand.tmp 9)].toArray, #[9]⟩, some (7, true), 0⟩,
 ⟨some 11, .binOp BinOp.sub 3 (Operand.tmp 10) (Operand.const (Value.int IntKind.i64 1)) 3, some (7, true), 0⟩,
 ⟨some 12, .index 9 (Operand.tmp 8) (Operand.tmp 11), some (7, true), 0⟩,
 ⟨some 13, .call ⟨(Callee.value (Operand.func 35)), [(Operand.tmp 12)].toArray, #[5]⟩, some (7, true), 0⟩,
 ⟨some 14, .unOp UnOp.not 4 (Operand.tmp 13), some (7, true), 0⟩,
 ⟨some 15, .pick (Operand.tmp 7) (Operand.tmp 14) (Operand.const (Value.bool false)), none, 0⟩,
 ⟨some 2, .assign (Operand.tmp 15), none, 0⟩])
 .ret))
abbrev R54 : List ResultVar := [ResultVar.tmp 2]
theorem ok54 : FnOK Tryd.prog 54 L54 R54 1 := ⟨_, _, Tryd.func54, rfl, by kernel_rfl, by kernel_rfl, by kernel_rfl, by kernel_rfl, Nat.le_of_ble_eq_true (by kernel_rfl), by kernel_rfl⟩

/-- ablaut/token.isClitic -/
def L55 : LCode :=
 (.seq
 (.ops [⟨some 2, .assign (Operand.const (Value.bool false)), none, 0⟩])
 (.seq
 (.seq
 (.ops [⟨some 4, .move (Operand.tmp 0), none, 0⟩,
 ⟨some 5, .call ⟨(Callee.builtin Builtin.len), [(Operand.tmp 4)].toArray, #[9]⟩, none, 0⟩,
 ⟨some 6, .move (Operand.const (Value.int IntKind.i64 0)), none, 0⟩])
 (.block 0
 (.loop
 (.seq
 (.ops [⟨some 7, .binOp BinOp.lss 3 (Operand.tmp 6) (Operand.tmp 5) 3, none, 0⟩])
 (.seq
 (.cond (Operand.tmp 7)
 .skip
 (.exit 0))
 (.seq
 (.block 1
 (.seq
 (.ops [⟨some 8, .move (Operand.tmp 6), none, 0⟩,
 ⟨some 3, .assign (Operand.tmp 8), none, 0⟩])
 (.seq
 (.ops [⟨some 9, .move (Operand.tmp 0), none, 0⟩,
 ⟨some 10, .move (Operand.tmp 3), none, 0⟩,
 ⟨some 11, .index 9 (Operand.tmp 9) (Operand.tmp 10), none, 0⟩,
 ⟨some 12, .call ⟨(Callee.value (Operand.func 42)), [(Operand.tmp 11)].toArray, #[5]⟩, none, 0⟩,
 ⟨some 13, .unOp UnOp.not 4 (Operand.tmp 12), none, 0⟩,
 ⟨some 14, .move (Operand.tmp 13), none, 0⟩,
 ⟨some 15, .move (Operand.tmp 0), some (14, true), 0⟩,
 ⟨some 16, .move (Operand.tmp 3), some (14, true), 0⟩,
 ⟨some 17, .index 9 (Operand.tmp 15) (Operand.tmp 16), some (14, true), 0⟩,
 ⟨some 18, .binOp BinOp.neq 5 (Operand.tmp 17) (Operand.const (Value.int IntKind.u8 39)) 5, some (14, true), 0⟩,
 ⟨some 19, .pick (Operand.tmp 14) (Operand.tmp 18) (Operand.const (Value.bool false)), none, 0⟩,
 ⟨some 20, .move (Operand.tmp 19), none, 0⟩,
 ⟨some 21, .move (Operand.tmp 0), some (20, true), 0⟩,
 ⟨some 22, .move (Operand.tmp 3), some (20, true), 0⟩,
 ⟨some 23, .index 9 (Operand.tmp 21) (Operand.tmp 22), some (20, true), 0⟩,
 ⟨some 24, .binOp BinOp.neq 5 (Operand.tmp 23) (Operand.const (Value.int IntKind.u8 45)) 5, some (20, true), 0⟩,
 ⟨some 25, .pick (Operand.tmp 20) (Operand.tmp 24) (Operand.const (Value.bool false)), none, 0⟩])
 (.cond (Operand.tmp 25)
 (.seq
 (.ops [⟨some 2, .assign (Operand.const (Value.bool false)), none, 0⟩])
 .ret)
 .skip))))
 (.ops [⟨some 26, .binOp BinOp.add 3 (Operand.tmp 6) (Operand.const (Value.int IntKind.i64 1)) 3, none, 0⟩,
 ⟨some 6, .move (Operand.tmp 26), none, 0⟩])))))))
 (.seq
 (.ops [⟨some 2, .assign (Operand.const (Value.bool true)), none, 0⟩])
 .ret)))
abbrev R55 : List ResultVar := [ResultVar.tmp 2]
theorem ok55 : FnOK Tryd.prog 55 L55 R55 1 := ⟨_, _, Tryd.func55, rfl, by kernel_rfl, by kernel_rfl, by kernel_rfl, by kernel_rfl, Nat.le_of_ble_eq_true (by kernel_rfl), by kernel_rfl⟩

/-- slices.Sorted[string] -/
def L56 : LCode :=
 (.seq
 (.ops [⟨some 2, .assign (Operand.const (Value.slice none 0 0)), none, 0⟩])
 (.seq
 (.ops [⟨some 4, .move (Operand.tmp 0), none, 0⟩,
 ⟨some 5, .call ⟨(Callee.value (Operand.func 72)), [(Operand.tmp 4)].toArray, #[78]⟩, none, 0⟩,
 ⟨some 3, .assign (Operand.tmp 5), none, 0⟩])
 (.seq
 (.ops [⟨some 6, .move (Operand.tmp 3), none, 0⟩,
 ⟨some 7, .call ⟨(Callee.value (Operand.func 73)), [(Operand.tmp 6)].toArray, #[34]⟩, none, 0⟩])
 (.seq
 (.ops [⟨some 8, .move (Operand.tmp 3), none, 0⟩,
 ⟨some 2, .assign (Operand.tmp 8), none, 0⟩])
 .ret))))
abbrev R56 : List ResultVar := [ResultVar.tmp 2]
theorem ok56 : FnOK Tryd.prog 56 L56 R56 1 := ⟨_, _, Tryd.func56, rfl, by kernel_rfl, by kernel_rfl, by kernel_rfl, by kernel_rfl, Nat.le_of_ble_eq_true (by kernel_rfl), by kernel_rfl⟩

/-- slices.Values[[]string,string] -/
def L57 : LCode :=
 (.seq
 (.ops [⟨some 1, .box 34 (Operand.tmp 0), none, 0⟩,
 ⟨some 2, .assign (Operand.const Value.nilFunc), none, 0⟩])
 (.seq
 (.ops [⟨some 3, .makeFunc (Fn.func 74) #[] [(Operand.tmp 1)].toArray, none, 0⟩,
 ⟨some 2, .assign (Operand.tmp 3), none, 0⟩])
 .ret))
abbrev R57 : List ResultVar := [ResultVar.tmp 2]
theorem ok57 : FnOK Tryd.prog 57 L57 R57 1 := ⟨_, _, Tryd.func57, rfl, by kernel_rfl, by kernel_rfl, by kernel_rfl, by kernel_rfl, Nat.le_of_ble_eq_true (by kernel_rfl), by kernel_rfl⟩

/-- slices.Compact[[]string,string] -/
def L58 : LCode :=
 (.seq
 (.ops [⟨some 2, .assign (Operand.const (Value.slice none 0 0)), none, 0⟩])
 (.seq
 (.seq
 (.ops [⟨some 6, .move (Operand.tmp 0), none, 0⟩,
 ⟨some 7, .call ⟨(Callee.builtin Builtin.len), [(Operand.tmp 6)].toArray, #[34]⟩, none, 0⟩,
 ⟨some 8, .binOp BinOp.lss 3 (Operand.tmp 7) (Operand.const (Value.int IntKind.i64 2)) 3, none, 0⟩])
 (.cond (Operand.tmp 8)
 (.seq
 (.ops [⟨some 9, .move (Operand.tmp 0), none, 0⟩,
 ⟨some 2, .assign (Operand.tmp 9), none, 0⟩])
 .ret)
 .skip))
 (.seq
 (.seq
 (.ops [⟨some 3, .assign (Operand.const (Value.int IntKind.i64 1)), none, 0⟩])
 (.block 0
 (.loop
 (.seq
 (.seq
 (.ops [⟨some 10, .move (Operand.tmp 3), none, 0⟩,
 ⟨some 11, .move (Operand.tmp 0), none, 0⟩,
 ⟨some 12, .call ⟨(Callee.builtin Builtin.len), [(Operand.tmp 11)].toArray, #[34]⟩, none, 0⟩,
 ⟨some 13, .binOp BinOp.lss 3 (Operand.tmp 10) (Operand.tmp 12) 3, none, 0⟩])
 (.cond (Operand.tmp 13)
 .skip
 (.exit 0)))
 (.seq
 (.block 1
 (.seq
 (.draw [⟨some 16, .move (Operand.tmp 0), none, 0⟩,
 ⟨some 17, .move (Operand.tmp 3), none, 0⟩,
 ⟨some 18, .indexAddr 34 (Operand.tmp 16) (Operand.tmp 17), none, 0⟩,
 ⟨some 19, .load 9 (Operand.tmp 18), none, 0⟩,
 ⟨some 20, .move (Operand.tmp 0), none, 0⟩,
 ⟨some 21, .move (Operand.tmp 3), none, 0⟩,
 ⟨some 22, .binOp BinOp.sub 3 (Operand.tmp 21) (Operand.const (Value.int IntKind.i64 1)) 3, none, 0⟩,
 ⟨some 23, .indexAddr 34 (Operand.tmp 20) (Operand.tmp 22), none, 0⟩,
 ⟨some 24, .load 9 (Operand.tmp 23), none, 0⟩,
 ⟨some 25, .binOp BinOp.eql 9 (Operand.tmp 19) (Operand.tmp 24) 9, none, 0⟩] true [9] [0, 1, 2, 4, 5, 6, 7, 3, 8, 9])
 (.cond (Operand.tmp 25)
 (.seq
 (.ops [⟨some 26, .move (Operand.tmp 0), none, 0⟩,
 ⟨some 27, .move (Operand.tmp 3), none, 0⟩,
 ⟨some 28, .slice 34 (Operand.tmp 26) (some (Operand.tmp 27)) none none, none, 0⟩,
 ⟨some 4, .assign (Operand.tmp 28), none, 0⟩])
 (.seq
 (.seq
 (.ops [⟨some 5, .assign (Operand.const (Value.int IntKind.i64 1)), none, 0⟩])
 (.block 2
 (.loop
 (.seq
 (.seq
 (.ops [⟨some 29, .move (Operand.tmp 5), none, 0⟩,
 ⟨some 30, .move (Operand.tmp 4), none, 0⟩,
 ⟨some 31, .call ⟨(Callee.builtin Builtin.len), [(Operand.tmp 30)].toArray, #[34]⟩, none, 0⟩,
 ⟨some 32, .binOp BinOp.lss 3 (Operand.tmp 29) (Operand.tmp 31) 3, none, 0⟩])
 (.cond (Operand.tmp 32)
 .skip
 (.exit 2)))
 (.seq
 (.block 3
 (.seq
 (.draw [⟨some 35, .move (Operand.tmp 4), none, 0⟩,
 ⟨some 36, .move (Operand.tmp 5), none, 0⟩,
 ⟨some 37, .indexAddr 34 (Operand.tmp 35) (Operand.tmp 36), none, 0⟩,
 ⟨some 38, .load 9 (Operand.tmp 37), none, 0⟩,
 ⟨some 39, .move (Operand.tmp 4), none, 0⟩,
 ⟨some 40, .move (Operand.tmp 5), none, 0⟩,
 ⟨some 41, .binOp BinOp.sub 3 (Operand.tmp 40) (Operand.const (Value.int IntKind.i64 1)) 3, none, 0⟩,
 ⟨some 42, .indexAddr 34 (Operand.tmp 39) (Operand.tmp 41), none, 0⟩,
 ⟨some 43, .load 9 (Operand.tmp 42), none, 0⟩,
 ⟨some 44, .binOp BinOp.neq 9 (Operand.tmp 38) (Operand.tmp 43) 9, none, 0⟩] true [9] [0, 1, 2, 4, 5, 6, 7, 3, 8, 9])
 (.cond (Operand.tmp 44)
 (.seq
 (.ops [⟨some 45, .move (Operand.tmp 0), none, 0⟩,
 ⟨some 46, .move (Operand.tmp 3), none, 0⟩,
 ⟨some 47, .move (Operand.tmp 4), none, 0⟩,
 ⟨some 48, .move (Operand.tmp 5), none, 0⟩,
 ⟨some 49, .indexAddr 34 (Operand.tmp 47) (Operand.tmp 48), none, 0⟩,
 ⟨some 50, .load 9 (Operand.tmp 49), none, 0⟩,
 ⟨some 51, .indexAddr 34 (Operand.tmp 45) (Operand.tmp 46), none, 0⟩,
 ⟨none, .store 9 (Operand.tmp 51) (Operand.tmp 50), none, 0⟩])
 (.ops [⟨some 52, .move (Operand.tmp 3), none, 0⟩,
 ⟨some 53, .binOp BinOp.add 3 (Operand.tmp 52) (Operand.const (Value.int IntKind.i64 1)) 3, none, 0⟩,
 ⟨some 3, .assign (Operand.tmp 53), none, 0⟩]))
 .skip)))
 (.ops [⟨some 33, .move (Operand.tmp 5), none, 0⟩,
 ⟨some 34, .binOp BinOp.add 3 (Operand.tmp 33) (Operand.const (Value.int IntKind.i64 1)) 3, none, 0⟩,
 ⟨some 5, .assign (Operand.tmp 34), none, 0⟩]))))))
 (.seq
 (.ops [⟨some 54, .move (Operand.tmp 0), none, 0⟩,
 ⟨some 55, .move (Operand.tmp 3), none, 0⟩,
 ⟨some 56, .slice 34 (Operand.tmp 54) (some (Operand.tmp 55)) none none, none, 0⟩,
 ⟨none, .call ⟨(Callee.builtin Builtin.clear), [(Operand.tmp 56)].toArray, #[34]⟩, none, 0⟩])
 (.seq
 (.ops [⟨some 57, .move (Operand.tmp 0), none, 0⟩,
 ⟨some 58, .move (Operand.tmp 3), none, 0⟩,
 ⟨some 59, .slice 34 (Operand.tmp 57) none (some (Operand.tmp 58)) none, none, 0⟩,
 ⟨some 2, .assign (Operand.tmp 59), none, 0⟩])
 .ret))))
 .skip)))
 (.ops [⟨some 14, .move (Operand.tmp 3), none, 0⟩,
 ⟨some 15, .binOp BinOp.add 3 (Operand.tmp 14) (Operand.const (Value.int IntKind.i64 1)) 3, none, 0⟩,
 ⟨some 3, .assign (Operand.tmp 15), none, 0⟩]))))))
 (.seq
 (.ops [⟨some 60, .move (Operand.tmp 0), none, 0⟩,
 ⟨some 2, .assign (Operand.tmp 60), none, 0⟩])
 .ret))))
abbrev R58 : List ResultVar := [ResultVar.tmp 2]
theorem ok58 : FnOK Tryd.prog 58 L58 R58 1 := ⟨_, _, Tryd.func58, rfl, by kernel_rfl, by kernel_rfl, by kernel_rfl, by kernel_rfl, Nat.le_of_ble_eq_true (by kernel_rfl), by kernel_rfl⟩

/-- ablaut/token.edge -/
def L59 : LCode :=
 (.seq
 (.ops [⟨some 6, .assign (Operand.const (Value.int IntKind.i64 0)), none, 0⟩])
 (.seq
 (.ops [⟨some 7, .assign (Operand.const (Value.int IntKind.i64 0)), none, 0⟩])
 (.seq
 (.seq
 (.ops [⟨some 10, .move (Operand.tmp 0), none, 0⟩,
 ⟨some 11, .call ⟨(Callee.builtin Builtin.len), [(Operand.tmp 10)].toArray, #[34]⟩, none, 0⟩,
 ⟨some 12, .move (Operand.const (Value.int IntKind.i64 0)), none, 0⟩])
 (.block 0
 (.loop
 (.seq
 (.ops [⟨some 13, .binOp BinOp.lss 3 (Operand.tmp 12) (Operand.tmp 11) 3, none, 0⟩])
 (.seq
 (.cond (Operand.tmp 13)
 .skip
 (.exit 0))
 (.seq
 (.block 1
 (.seq
 (.ops [⟨some 14, .indexAddr 34 (Operand.tmp 10) (Operand.tmp 12), none, 0⟩,
 ⟨some 15, .load 9 (Operand.tmp 14), none, 0⟩,
 ⟨some 9, .assign (Operand.tmp 15), none, 0⟩])
 (.seq
 (.ops [⟨some 16, .move (Operand.tmp 9), none, 0⟩,
 ⟨some 17, .call ⟨(Callee.builtin Builtin.len), [(Operand.tmp 16)].toArray, #[9]⟩, none, 0⟩,
 ⟨some 18, .move (Operand.tmp 7), none, 0⟩,
 ⟨some 19, .binOp BinOp.gtr 3 (Operand.tmp 17) (Operand.tmp 18) 3, none, 0⟩,
 ⟨some 20, .move (Operand.tmp 19), none, 0⟩,
 ⟨some 21, .move (Operand.tmp 9), some (20, true), 0⟩,
 ⟨some 22, .call ⟨(Callee.builtin Builtin.len), [(Operand.tmp 21)].toArray, #[9]⟩, some (20, true), 0⟩,
 ⟨some 23, .move (Operand.tmp 1), some (20, true), 0⟩,
 ⟨some 24, .call ⟨(Callee.builtin Builtin.len), [(Operand.tmp 23)].toArray, #[9]⟩, some (20, true), 0⟩,
 ⟨some 25, .binOp BinOp.lss 3 (Operand.tmp 22) (Operand.tmp 24) 3, some (20, true), 0⟩,
 ⟨some 26, .pick (Operand.tmp 20) (Operand.tmp 25) (Operand.const (Value.bool false)), none, 0⟩,
 ⟨some 27, .move (Operand.tmp 26), none, 0⟩,
 ⟨some 28, .move (Operand.tmp 2), some (27, true), 0⟩,
 ⟨some 29, .move (Operand.tmp 1), some (27, true), 0⟩,
 ⟨some 30, .move (Operand.tmp 9), some (27, true), 0⟩,
 ⟨some 31, .call ⟨(Callee.value (Operand.tmp 28)), [(Operand.tmp 29), (Operand.tmp 30)].toArray, #[9, 9]⟩, some (27, true), 0⟩,
 ⟨some 32, .pick (Operand.tmp 27) (Operand.tmp 31) (Operand.const (Value.bool false)), none, 0⟩])
 (.cond (Operand.tmp 32)
 (.ops [⟨some 33, .move (Operand.tmp 9), none, 0⟩,
 ⟨some 34, .call ⟨(Callee.builtin Builtin.len), [(Operand.tmp 33)].toArray, #[9]⟩, none, 0⟩,
 ⟨some 7, .assign (Operand.tmp 34), none, 0⟩])
 .skip))))
 (.ops [⟨some 35, .binOp BinOp.add 3 (Operand.tmp 12) (Operand.const (Value.int IntKind.i64 1)) 3, none, 0⟩,
 ⟨some 12, .move (Operand.tmp 35), none, 0⟩])))))))
 (.seq
 (.ops [⟨some 36, .move (Operand.tmp 7), none, 0⟩,
 ⟨some 6, .assign (Operand.tmp 36), none, 0⟩])
 .ret))))
abbrev R59 : List ResultVar := [ResultVar.tmp 6]
theorem ok59 : FnOK Tryd.prog 59 L59 R59 3 := ⟨_, _, Tryd.func59, rfl, by kernel_rfl, by kernel_rfl, by kernel_rfl, by kernel_rfl, Nat.le_of_ble_eq_true (by kernel_rfl), by kernel_rfl⟩

/-- strings.HasPrefix -/
def L60 : LCode :=
 (.seq
 (.ops [⟨some 4, .assign (Operand.const (Value.bool false)), none, 0⟩])
 (.seq
 (.ops [⟨some 5, .move (Operand.tmp 0), none, 0⟩,
 ⟨some 6, .move (Operand.tmp 1), none, 0⟩,
 ⟨some 7, .call ⟨(Callee.value (Operand.func 70)), [(Operand.tmp 5), (Operand.tmp 6)].toArray, #[9, 9]⟩, none, 0⟩,
 ⟨some 4, .assign (Operand.tmp 7), none, 0⟩])
 .ret))
abbrev R60 : List ResultVar := [ResultVar.tmp 4]
theorem ok60 : FnOK Tryd.prog 60 L60 R60 2 := ⟨_, _, Tryd.func60, rfl, by kernel_rfl, by kernel_rfl, by kernel_rfl, by kernel_rfl, Nat.le_of_ble_eq_true (by kernel_rfl), by kernel_rfl⟩

/-- strings.HasSuffix -/
def L61 : LCode :=
 (.seq
 (.ops [⟨some 4, .assign (Operand.const (Value.bool false)), none, 0⟩])
 (.seq
 (.ops [⟨some 5, .move (Operand.tmp 0), none, 0⟩,
 ⟨some 6, .move (Operand.tmp 1), none, 0⟩,
 ⟨some 7, .call ⟨(Callee.value (Operand.func 75)), [(Operand.tmp 5), (Operand.tmp 6)].toArray, #[9, 9]⟩, none, 0⟩,
 ⟨some 4, .assign (Operand.tmp 7), none, 0⟩])
 .ret))
abbrev R61 : List ResultVar := [ResultVar.tmp 4]
theorem ok61 : FnOK Tryd.prog 61 L61 R61 2 := ⟨_, _, Tryd.func61, rfl, by kernel_rfl, by kernel_rfl, by kernel_rfl, by kernel_rfl, Nat.le_of_ble_eq_true (by kernel_rfl), by kernel_rfl⟩

/-- slices.Reverse[[]ablaut/api.Token,ablaut/api.Token] -/
def L62 : LCode :=
 (.seq
 (.ops [⟨some 4, .move (Operand.tmp 0), none, 0⟩,
 ⟨some 5, .call ⟨(Callee.builtin Builtin.len), [(Operand.tmp 4)].toArray, #[37]⟩, none, 0⟩,
 ⟨some 6, .binOp BinOp.sub 3 (Operand.tmp 5) (Operand.const (Value.int IntKind.i64 1)) 3, none, 0⟩,
 ⟨some 2, .assign (Operand.const (Value.int IntKind.i64 0)), none, 0⟩,
 ⟨some 3, .assign (Operand.tmp 6), none, 0⟩])
 (.block 0
 (.loop
 (.seq
 (.seq
 (.ops [⟨some 7, .move (Operand.tmp 2), none, 0⟩,
 ⟨some 8, .move (Operand.tmp 3), none, 0⟩,
 ⟨some 9, .binOp BinOp.lss 3 (Operand.tmp 7) (Operand.tmp 8) 3, none, 0⟩])
 (.cond (Operand.tmp 9)
 .skip
 (.exit 0)))
 (.seq
 (.block 1
 (.draw [⟨some 14, .move (Operand.tmp 0), none, 0⟩,
 ⟨some 15, .move (Operand.tmp 2), none, 0⟩,
 ⟨some 16, .move (Operand.tmp 0), none, 0⟩,
 ⟨some 17, .move (Operand.tmp 3), none, 0⟩,
 ⟨some 18, .move (Operand.tmp 0), none, 0⟩,
 ⟨some 19, .move (Operand.tmp 3), none, 0⟩,
 ⟨some 20, .indexAddr 37 (Operand.tmp 18) (Operand.tmp 19), none, 0⟩,
 ⟨some 21, .load 44 (Operand.tmp 20), none, 0⟩,
 ⟨some 22, .move (Operand.tmp 0), none, 0⟩,
 ⟨some 23, .move (Operand.tmp 2), none, 0⟩,
 ⟨some 24, .indexAddr 37 (Operand.tmp 22) (Operand.tmp 23), none, 0⟩,
 ⟨some 25, .load 44 (Operand.tmp 24), none, 0⟩,
 ⟨some 26, .indexAddr 37 (Operand.tmp 14) (Operand.tmp 15), none, 0⟩,
 ⟨none, .store 44 (Operand.tmp 26) (Operand.tmp 21), none, 0⟩,
 ⟨some 27, .indexAddr 37 (Operand.tmp 16) (Operand.tmp 17), none, 0⟩,
 ⟨none, .store 44 (Operand.tmp 27) (Operand.tmp 25), none, 0⟩] true [14, 15] [0, 1, 2, 3, 4, 5, 6, 8, 9, 10, 7, 11, 12, 13, 14, 15]))
 (.ops [⟨some 10, .move (Operand.tmp 2), none, 0⟩,
 ⟨some 11, .binOp BinOp.add 3 (Operand.tmp 10) (Operand.const (Value.int IntKind.i64 1)) 3, none, 0⟩,
 ⟨some 12, .move (Operand.tmp 3), none, 0⟩,
 ⟨some 13, .binOp BinOp.sub 3 (Operand.tmp 12) (Operand.const (Value.int IntKind.i64 1)) 3, none, 0⟩,
 ⟨some 2, .assign (Operand.tmp 11), none, 0⟩,
 ⟨some 3, .assign (Operand.tmp 13), none, 0⟩]))))))
abbrev R62 : List ResultVar := []
theorem ok62 : FnOK Tryd.prog 62 L62 R62 1 := ⟨_, _, Tryd.func62, rfl, by kernel_rfl, by kernel_rfl, by kernel_rfl, by kernel_rfl, Nat.le_of_ble_eq_true (by kernel_rfl), by kernel_rfl⟩

/-- ablaut/token.isSign -/
def L63 : LCode :=
 (.seq
 (.ops [⟨some 2, .box 44 (Operand.tmp 0), none, 0⟩,
 ⟨some 4, .assign (Operand.const (Value.bool false)), none, 0⟩])
 (.seq
 (.ops [⟨some 5, .fieldAddr 44 (Operand.tmp 2) 2, none, 0⟩,
 ⟨some 6, .load 3 (Operand.tmp 5), none, 0⟩,
 ⟨some 7, .binOp BinOp.eql 3 (Operand.tmp 6) (Operand.const (Value.int IntKind.i64 2)) 3, none, 0⟩,
 ⟨some 8, .move (Operand.tmp 7), none, 0⟩,
 ⟨some 9, .move (Operand.tmp 1), some (8, true), 0⟩,
 ⟨some 10, .fieldAddr 44 (Operand.tmp 2) 3, some (8, true), 0⟩,
 ⟨some 11, .load 9 (Operand.tmp 10), some (8, true), 0⟩,
 ⟨some 12, .call ⟨(Callee.value (Operand.func 76)), [(Operand.tmp 9), (Operand.tmp 11)].toArray, #[9, 9]⟩, some (8, true), 0⟩,
 ⟨some 13, .pick (Operand.tmp 8) (Operand.tmp 12) (Operand.const (Value.bool false)), none, 0⟩,
 ⟨some 4, .assign (Operand.tmp 13), none, 0⟩])
 .ret))
abbrev R63 : List ResultVar := [ResultVar.tmp 4]
theorem ok63 : FnOK Tryd.prog 63 L63 R63 2 := ⟨_, _, Tryd.func63, rfl, by kernel_rfl, by kernel_rfl, by kernel_rfl, by kernel_rfl, Nat.le_of_ble_eq_true (by kernel_rfl), by kernel_rfl⟩

/-- ablaut/token.isText -/
def L64 : LCode :=
 (.seq
 (.ops [⟨some 1, .box 44 (Operand.tmp 0), none, 0⟩,
 ⟨some 2, .assign (Operand.const (Value.bool false)), none, 0⟩])
 (.seq
 (.ops [⟨some 3, .fieldAddr 44 (Operand.tmp 1) 2, none, 0⟩,
 ⟨some 4, .load 3 (Operand.tmp 3), none, 0⟩,
 ⟨some 5, .binOp BinOp.eql 3 (Operand.tmp 4) (Operand.const (Value.int IntKind.i64 0)) 3, none, 0⟩,
 ⟨some 6, .move (Operand.tmp 5), none, 0⟩,
 ⟨some 7, .fieldAddr 44 (Operand.tmp 1) 2, some (6, false), 0⟩,
 ⟨some 8, .load 3 (Operand.tmp 7), some (6, false), 0⟩,
 ⟨some 9, .binOp BinOp.eql 3 (Operand.tmp 8) (Operand.const (Value.int IntKind.i64 3)) 3, some (6, false), 0⟩,
 ⟨some 10, .pick (Operand.tmp 6) (Operand.const (Value.bool true)) (Operand.tmp 9), none, 0⟩,
 ⟨some 11, .move (Operand.tmp 10), none, 0⟩,
 ⟨some 12, .fieldAddr 44 (Operand.tmp 1) 2, some (11, false), 0⟩,
 ⟨some 13, .load 3 (Operand.tmp 12), some (11, false), 0⟩,
 ⟨some 14, .binOp BinOp.eql 3 (Operand.tmp 13) (Operand.const (Value.int IntKind.i64 4)) 3, some (11, false), 0⟩,
 ⟨some 15, .pick (Operand.tmp 11) (Operand.const (Value.bool true)) (Operand.tmp 14), none, 0⟩,
 ⟨some 2, .assign (Operand.tmp 15), none, 0⟩])
 .ret))
abbrev R64 : List ResultVar := [ResultVar.tmp 2]
theorem ok64 : FnOK Tryd.prog 64 L64 R64 1 := ⟨_, _, Tryd.func64, rfl, by kernel_rfl, by kernel_rfl, by kernel_rfl, by kernel_rfl, Nat.le_of_ble_eq_true (by kernel_rfl), by kernel_rfl⟩
end Go.Proofs.YtapkbkniooleaaaDoor.Vs
