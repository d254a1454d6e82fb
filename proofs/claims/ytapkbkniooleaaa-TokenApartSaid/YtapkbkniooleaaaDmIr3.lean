/- The seat's functions as the engine Dm reads them, written by dgen.py. -/
import Derived.Test.YtapkbkniooleaaaDmFn
import Derived.Test.YtapkbkniooleaaaProg
import Derived.KernelRfl
namespace Go.Proofs.Ytapkbkniooleaaa.Vs
set_option linter.unusedVariables false
set_option maxRecDepth 100000
/-- (ablaut/token.units).length -/
def L110 : LCode :=
 (.seq
 (.ops [⟨some 4, .assign (Operand.const (Value.int IntKind.i64 0)), none, 0⟩])
 (.seq
 (.ops [⟨some 5, .assign (Operand.const (Value.int IntKind.i64 0)), none, 0⟩])
 (.seq
 (.seq
 (.ops [⟨some 9, .move (Operand.tmp 0), none, 0⟩,
 ⟨some 10, .call ⟨(Callee.builtin Builtin.len), [(Operand.tmp 9)].toArray, #[43]⟩, none, 0⟩,
 ⟨some 11, .move (Operand.const (Value.int IntKind.i64 0)), none, 0⟩])
 (.block 0
 (.loop
 (.seq
 (.ops [⟨some 12, .binOp BinOp.lss 3 (Operand.tmp 11) (Operand.tmp 10) 3, none, 0⟩])
 (.seq
 (.cond (Operand.tmp 12)
 .skip
 (.exit 0))
 (.seq
 (.block 1
 (.seq
 (.ops [⟨some 13, .indexAddr 43 (Operand.tmp 9) (Operand.tmp 11), none, 0⟩,
 ⟨some 14, .load 9 (Operand.tmp 13), none, 0⟩,
 ⟨some 7, .assign (Operand.tmp 14), none, 0⟩])
 (.seq
 (.ops [⟨some 15, .move (Operand.tmp 7), none, 0⟩,
 ⟨some 16, .call ⟨(Callee.builtin Builtin.len), [(Operand.tmp 15)].toArray, #[9]⟩, none, 0⟩,
 ⟨some 8, .assign (Operand.tmp 16), none, 0⟩])
 (.seq
 (.seq
 (.draw [⟨some 17, .move (Operand.tmp 8), none, 0⟩,
 ⟨some 18, .move (Operand.tmp 5), none, 0⟩,
 ⟨some 19, .binOp BinOp.leq 3 (Operand.tmp 17) (Operand.tmp 18) 3, none, 0⟩,
 ⟨some 20, .move (Operand.tmp 19), none, 0⟩,
 ⟨some 21, .move (Operand.tmp 1), some (20, false), 0⟩,
 ⟨some 22, .call ⟨(Callee.builtin Builtin.len), [(Operand.tmp 21)].toArray, #[9]⟩, some (20, false), 0⟩,
 ⟨some 23, .move (Operand.tmp 8), some (20, false), 0⟩,
 ⟨some 24, .binOp BinOp.lss 3 (Operand.tmp 22) (Operand.tmp 23) 3, some (20, false), 0⟩,
 ⟨some 25, .pick (Operand.tmp 20) (Operand.const (Value.bool true)) (Operand.tmp 24), none, 0⟩,
 ⟨some 26, .move (Operand.tmp 25), none, 0⟩,
 ⟨some 27, .move (Operand.tmp 1), some (26, false), 0⟩,
 ⟨some 28, .move (Operand.tmp 8), some (26, false), 0⟩,
 ⟨some 29, .slice 9 (Operand.tmp 27) (some (Operand.const (Value.int IntKind.i64 1))) (some (Operand.tmp 28)) none, some (26, false), 0⟩,
 ⟨some 30, .move (Operand.tmp 7), some (26, false), 0⟩,
 ⟨some 31, .slice 9 (Operand.tmp 30) (some (Operand.const (Value.int IntKind.i64 1))) none none, some (26, false), 0⟩,
 ⟨some 32, .binOp BinOp.neq 9 (Operand.tmp 29) (Operand.tmp 31) 9, some (26, false), 0⟩,
 ⟨some 33, .pick (Operand.tmp 26) (Operand.const (Value.bool true)) (Operand.tmp 32), none, 0⟩,
 ⟨some 34, .move (Operand.tmp 33), none, 0⟩,
 ⟨some 35, .move (Operand.tmp 1), some (34, false), 0⟩,
 ⟨some 36, .index 9 (Operand.tmp 35) (Operand.const (Value.int IntKind.i64 0)), some (34, false), 0⟩,
 ⟨some 37, .move (Operand.tmp 7), some (34, false), 0⟩,
 ⟨some 38, .index 9 (Operand.tmp 37) (Operand.const (Value.int IntKind.i64 0)), some (34, false), 0⟩,
 ⟨some 39, .binOp BinOp.neq 5 (Operand.tmp 36) (Operand.tmp 38) 5, some (34, false), 0⟩,
 ⟨some 40, .move (Operand.tmp 39), some (34, false), 0⟩,
 ⟨some 41, .move (Operand.tmp 7), some (40, true), 0⟩,
 ⟨some 42, .index 9 (Operand.tmp 41) (Operand.const (Value.int IntKind.i64 0)), some (40, true), 0⟩,
 ⟨some 43, .call ⟨(Callee.value (Operand.func 45)), [(Operand.tmp 42)].toArray, #[5]⟩, some (40, true), 0⟩,
 ⟨some 44, .move (Operand.tmp 43), some (40, true), 0⟩,
 ⟨some 45, .move (Operand.tmp 1), some (44, true), 0⟩,
 ⟨some 46, .index 9 (Operand.tmp 45) (Operand.const (Value.int IntKind.i64 0)), some (44, true), 0⟩,
 ⟨some 47, .move (Operand.tmp 7), some (44, true), 0⟩,
 ⟨some 48, .index 9 (Operand.tmp 47) (Operand.const (Value.int IntKind.i64 0)), some (44, true), 0⟩,
 ⟨some 49, .binOp BinOp.sub 5 (Operand.tmp 48) (Operand.const (Value.int IntKind.u8 32)) 5, some (44, true), 0⟩,
 ⟨some 50, .binOp BinOp.eql 5 (Operand.tmp 46) (Operand.tmp 49) 5, some (44, true), 0⟩,
 ⟨some 51, .pick (Operand.tmp 44) (Operand.tmp 50) (Operand.const (Value.bool false)), some (40, true), 0⟩,
 ⟨some 52, .unOp UnOp.not 4 (Operand.tmp 51), some (40, true), 0⟩,
 ⟨some 53, .pick (Operand.tmp 40) (Operand.tmp 52) (Operand.const (Value.bool false)), some (34, false), 0⟩,
 ⟨some 54, .pick (Operand.tmp 34) (Operand.const (Value.bool true)) (Operand.tmp 53), none, 0⟩] true [33, 34, 35, 36, 37] [])
 (.cond (Operand.tmp 54)
 (.exit 1)
 .skip))
 (.seq
 (.ops [⟨some 55, .move (Operand.tmp 8), none, 0⟩,
 ⟨some 56, .move (Operand.tmp 1), none, 0⟩,
 ⟨some 57, .call ⟨(Callee.builtin Builtin.len), [(Operand.tmp 56)].toArray, #[9]⟩, none, 0⟩,
 ⟨some 58, .binOp BinOp.eql 3 (Operand.tmp 55) (Operand.tmp 57) 3, none, 0⟩,
 ⟨some 59, .move (Operand.tmp 58), none, 0⟩,
 ⟨some 60, .move (Operand.tmp 1), some (59, false), 0⟩,
 ⟨some 61, .move (Operand.tmp 8), some (59, false), 0⟩,
 ⟨some 62, .index 9 (Operand.tmp 60) (Operand.tmp 61), some (59, false), 0⟩,
 ⟨some 63, .call ⟨(Callee.value (Operand.func 111)), [(Operand.tmp 62)].toArray, #[5]⟩, some (59, false), 0⟩,
 ⟨some 64, .unOp UnOp.not 4 (Operand.tmp 63), some (59, false), 0⟩,
 ⟨some 65, .pick (Operand.tmp 59) (Operand.const (Value.bool true)) (Operand.tmp 64), none, 0⟩,
 ⟨some 66, .move (Operand.tmp 65), none, 0⟩,
 ⟨some 67, .move (Operand.tmp 7), some (66, false), 0⟩,
 ⟨some 68, .move (Operand.tmp 8), some (66, false), 0⟩,
 ⟨some 69, .binOp BinOp.sub 3 (Operand.tmp 68) (Operand.const (Value.int IntKind.i64 1)) 3, some (66, false), 0⟩,
 ⟨some 70, .index 9 (Operand.tmp 67) (Operand.tmp 69), some (66, false), 0⟩,
 ⟨some 71, .call ⟨(Callee.value (Operand.func 111)), [(Operand.tmp 70)].toArray, #[5]⟩, some (66, false), 0⟩,
 ⟨some 72, .unOp UnOp.not 4 (Operand.tmp 71), some (66, false), 0⟩,
 ⟨some 73, .pick (Operand.tmp 66) (Operand.const (Value.bool true)) (Operand.tmp 72), none, 0⟩])
 (.cond (Operand.tmp 73)
 (.ops [⟨some 74, .move (Operand.tmp 8), none, 0⟩,
 ⟨some 5, .assign (Operand.tmp 74), none, 0⟩])
 .skip))))))
 (.ops [⟨some 75, .binOp BinOp.add 3 (Operand.tmp 11) (Operand.const (Value.int IntKind.i64 1)) 3, none, 0⟩,
 ⟨some 11, .move (Operand.tmp 75), none, 0⟩])))))))
 (.seq
 (.ops [⟨some 76, .move (Operand.tmp 5), none, 0⟩,
 ⟨some 4, .assign (Operand.tmp 76), none, 0⟩])
 .ret))))
abbrev R110 : List ResultVar := [ResultVar.tmp 4]
theorem ok110 : FnOK Try.prog 110 L110 R110 2 := ⟨_, _, Try.func110, rfl, by kernel_rfl, by kernel_rfl, by kernel_rfl, by kernel_rfl, Nat.le_of_ble_eq_true (by kernel_rfl), by kernel_rfl⟩

/-- ablaut/token.isPart -/
def L111 : LCode :=
 (.seq
 (.ops [⟨some 2, .assign (Operand.const (Value.bool false)), none, 0⟩])
 (.seq
 (.ops [⟨some 3, .move (Operand.tmp 0), none, 0⟩,
 ⟨some 4, .call ⟨(Callee.value (Operand.func 112)), [(Operand.tmp 3)].toArray, #[5]⟩, none, 0⟩,
 ⟨some 5, .move (Operand.tmp 4), none, 0⟩,
 ⟨some 6, .move (Operand.tmp 0), some (5, false), 0⟩,
 ⟨some 7, .call ⟨(Callee.value (Operand.func 113)), [(Operand.tmp 6)].toArray, #[5]⟩, some (5, false), 0⟩,
 ⟨some 8, .pick (Operand.tmp 5) (Operand.const (Value.bool true)) (Operand.tmp 7), none, 0⟩,
 ⟨some 2, .assign (Operand.tmp 8), none, 0⟩])
 .ret))
abbrev R111 : List ResultVar := [ResultVar.tmp 2]
theorem ok111 : FnOK Try.prog 111 L111 R111 1 := ⟨_, _, Try.func111, rfl, by kernel_rfl, by kernel_rfl, by kernel_rfl, by kernel_rfl, Nat.le_of_ble_eq_true (by kernel_rfl), by kernel_rfl⟩

/-- ablaut/token.isLetter -/
def L112 : LCode :=
 (.seq
 (.ops [⟨some 2, .assign (Operand.const (Value.bool false)), none, 0⟩])
 (.seq
 (.ops [⟨some 3, .move (Operand.tmp 0), none, 0⟩,
 ⟨some 4, .call ⟨(Callee.value (Operand.func 53)), [(Operand.tmp 3)].toArray, #[5]⟩, none, 0⟩,
 ⟨some 5, .move (Operand.tmp 4), none, 0⟩,
 ⟨some 6, .move (Operand.tmp 0), some (5, false), 0⟩,
 ⟨some 7, .call ⟨(Callee.value (Operand.func 45)), [(Operand.tmp 6)].toArray, #[5]⟩, some (5, false), 0⟩,
 ⟨some 8, .pick (Operand.tmp 5) (Operand.const (Value.bool true)) (Operand.tmp 7), none, 0⟩,
 ⟨some 9, .move (Operand.tmp 8), none, 0⟩,
 ⟨some 10, .move (Operand.tmp 0), some (9, false), 0⟩,
 ⟨some 11, .binOp BinOp.gtr 5 (Operand.tmp 10) (Operand.const (Value.int IntKind.u8 127)) 5, some (9, false), 0⟩,
 ⟨some 12, .pick (Operand.tmp 9) (Operand.const (Value.bool true)) (Operand.tmp 11), none, 0⟩,
 ⟨some 2, .assign (Operand.tmp 12), none, 0⟩])
 .ret))
abbrev R112 : List ResultVar := [ResultVar.tmp 2]
theorem ok112 : FnOK Try.prog 112 L112 R112 1 := ⟨_, _, Try.func112, rfl, by kernel_rfl, by kernel_rfl, by kernel_rfl, by kernel_rfl, Nat.le_of_ble_eq_true (by kernel_rfl), by kernel_rfl⟩

/-- ablaut/token.isDigit -/
def L113 : LCode :=
 (.seq
 (.ops [⟨some 2, .assign (Operand.const (Value.bool false)), none, 0⟩])
 (.seq
 (.ops [⟨some 3, .move (Operand.tmp 0), none, 0⟩,
 ⟨some 4, .binOp BinOp.geq 5 (Operand.tmp 3) (Operand.const (Value.int IntKind.u8 48)) 5, none, 0⟩,
 ⟨some 5, .move (Operand.tmp 4), none, 0⟩,
 ⟨some 6, .move (Operand.tmp 0), some (5, true), 0⟩,
 ⟨some 7, .binOp BinOp.leq 5 (Operand.tmp 6) (Operand.const (Value.int IntKind.u8 57)) 5, some (5, true), 0⟩,
 ⟨some 8, .pick (Operand.tmp 5) (Operand.tmp 7) (Operand.const (Value.bool false)), none, 0⟩,
 ⟨some 2, .assign (Operand.tmp 8), none, 0⟩])
 .ret))
abbrev R113 : List ResultVar := [ResultVar.tmp 2]
theorem ok113 : FnOK Try.prog 113 L113 R113 1 := ⟨_, _, Try.func113, rfl, by kernel_rfl, by kernel_rfl, by kernel_rfl, by kernel_rfl, Nat.le_of_ble_eq_true (by kernel_rfl), by kernel_rfl⟩

/-- (ablaut/token.numbers).length -/
def L114 : LCode :=
 (.seq
 (.ops [⟨some 2, .box 45 (Operand.tmp 0), none, 0⟩,
 ⟨some 4, .assign (Operand.const (Value.int IntKind.i64 0)), none, 0⟩])
 (.seq
 (.ops [⟨some 7, .move (Operand.tmp 1), none, 0⟩,
 ⟨some 8, .call ⟨(Callee.value (Operand.func 115)), [(Operand.tmp 7)].toArray, #[9]⟩, none, 0⟩,
 ⟨some 5, .assign (Operand.tmp 8), none, 0⟩])
 (.seq
 (.block 0
 (.loop
 (.seq
 (.seq
 (.ops [⟨some 9, .move (Operand.tmp 5), none, 0⟩,
 ⟨some 10, .binOp BinOp.gtr 3 (Operand.tmp 9) (Operand.const (Value.int IntKind.i64 0)) 3, none, 0⟩,
 ⟨some 11, .move (Operand.tmp 10), none, 0⟩,
 ⟨some 12, .move (Operand.tmp 5), some (11, true), 0⟩,
 ⟨some 13, .move (Operand.tmp 1), some (11, true), 0⟩,
 ⟨some 14, .call ⟨(Callee.builtin Builtin.len), [(Operand.tmp 13)].toArray, #[9]⟩, some (11, true), 0⟩,
 ⟨some 15, .binOp BinOp.lss 3 (Operand.tmp 12) (Operand.tmp 14) 3, some (11, true), 0⟩,
 ⟨some 16, .pick (Operand.tmp 11) (Operand.tmp 15) (Operand.const (Value.bool false)), none, 0⟩,
 ⟨some 17, .move (Operand.tmp 16), none, 0⟩,
 ⟨some 18, .move (Operand.tmp 1), some (17, true), 0⟩,
 ⟨some 19, .move (Operand.tmp 5), some (17, true), 0⟩,
 ⟨some 20, .index 9 (Operand.tmp 18) (Operand.tmp 19), some (17, true), 0⟩,
 ⟨some 21, .binOp BinOp.eql 5 (Operand.tmp 20) (Operand.const (Value.int IntKind.u8 46)) 5, some (17, true), 0⟩,
 ⟨some 22, .move (Operand.tmp 21), some (17, true), 0⟩,
 ⟨some 23, .move (Operand.tmp 1), some (22, false), 0⟩,
 ⟨some 24, .move (Operand.tmp 5), some (22, false), 0⟩,
 ⟨some 25, .index 9 (Operand.tmp 23) (Operand.tmp 24), some (22, false), 0⟩,
 ⟨some 26, .binOp BinOp.eql 5 (Operand.tmp 25) (Operand.const (Value.int IntKind.u8 44)) 5, some (22, false), 0⟩,
 ⟨some 27, .pick (Operand.tmp 22) (Operand.const (Value.bool true)) (Operand.tmp 26), some (17, true), 0⟩,
 ⟨some 28, .pick (Operand.tmp 17) (Operand.tmp 27) (Operand.const (Value.bool false)), none, 0⟩])
 (.cond (Operand.tmp 28)
 .skip
 (.exit 0)))
 (.block 1
 (.seq
 (.ops [⟨some 29, .move (Operand.tmp 1), none, 0⟩,
 ⟨some 30, .move (Operand.tmp 5), none, 0⟩,
 ⟨some 31, .binOp BinOp.add 3 (Operand.tmp 30) (Operand.const (Value.int IntKind.i64 1)) 3, none, 0⟩,
 ⟨some 32, .slice 9 (Operand.tmp 29) (some (Operand.tmp 31)) none none, none, 0⟩,
 ⟨some 33, .call ⟨(Callee.value (Operand.func 115)), [(Operand.tmp 32)].toArray, #[9]⟩, none, 0⟩,
 ⟨some 6, .assign (Operand.tmp 33), none, 0⟩])
 (.seq
 (.seq
 (.ops [⟨some 34, .move (Operand.tmp 6), none, 0⟩,
 ⟨some 35, .binOp BinOp.eql 3 (Operand.tmp 34) (Operand.const (Value.int IntKind.i64 0)) 3, none, 0⟩])
 (.cond (Operand.tmp 35)
 (.exit 0)
 .skip))
 (.ops [⟨some 36, .move (Operand.tmp 5), none, 0⟩,
 ⟨some 37, .move (Operand.tmp 6), none, 0⟩,
 ⟨some 38, .binOp BinOp.add 3 (Operand.tmp 37) (Operand.const (Value.int IntKind.i64 1)) 3, none, 0⟩,
 ⟨some 39, .binOp BinOp.add 3 (Operand.tmp 36) (Operand.tmp 38) 3, none, 0⟩,
 ⟨some 5, .assign (Operand.tmp 39), none, 0⟩])))))))
 (.seq
 (.seq
 (.ops [⟨some 40, .move (Operand.tmp 5), none, 0⟩,
 ⟨some 41, .move (Operand.tmp 1), none, 0⟩,
 ⟨some 42, .call ⟨(Callee.builtin Builtin.len), [(Operand.tmp 41)].toArray, #[9]⟩, none, 0⟩,
 ⟨some 43, .binOp BinOp.lss 3 (Operand.tmp 40) (Operand.tmp 42) 3, none, 0⟩,
 ⟨some 44, .move (Operand.tmp 43), none, 0⟩,
 ⟨some 45, .move (Operand.tmp 1), some (44, true), 0⟩,
 ⟨some 46, .move (Operand.tmp 5), some (44, true), 0⟩,
 ⟨some 47, .index 9 (Operand.tmp 45) (Operand.tmp 46), some (44, true), 0⟩,
 ⟨some 48, .call ⟨(Callee.value (Operand.func 112)), [(Operand.tmp 47)].toArray, #[5]⟩, some (44, true), 0⟩,
 ⟨some 49, .pick (Operand.tmp 44) (Operand.tmp 48) (Operand.const (Value.bool false)), none, 0⟩])
 (.cond (Operand.tmp 49)
 (.seq
 (.ops [⟨some 4, .assign (Operand.const (Value.int IntKind.i64 0)), none, 0⟩])
 .ret)
 .skip))
 (.seq
 (.ops [⟨some 50, .move (Operand.tmp 5), none, 0⟩,
 ⟨some 4, .assign (Operand.tmp 50), none, 0⟩])
 .ret)))))
abbrev R114 : List ResultVar := [ResultVar.tmp 4]
theorem ok114 : FnOK Try.prog 114 L114 R114 2 := ⟨_, _, Try.func114, rfl, by kernel_rfl, by kernel_rfl, by kernel_rfl, by kernel_rfl, Nat.le_of_ble_eq_true (by kernel_rfl), by kernel_rfl⟩

/-- ablaut/token.digits -/
def L115 : LCode :=
 (.seq
 (.ops [⟨some 2, .assign (Operand.const (Value.int IntKind.i64 0)), none, 0⟩])
 (.seq
 (.ops [⟨some 3, .assign (Operand.const (Value.int IntKind.i64 0)), none, 0⟩])
 (.seq
 (.block 0
 (.loop
 (.seq
 (.seq
 (.ops [⟨some 4, .move (Operand.tmp 3), none, 0⟩,
 ⟨some 5, .move (Operand.tmp 0), none, 0⟩,
 ⟨some 6, .call ⟨(Callee.builtin Builtin.len), [(Operand.tmp 5)].toArray, #[9]⟩, none, 0⟩,
 ⟨some 7, .binOp BinOp.lss 3 (Operand.tmp 4) (Operand.tmp 6) 3, none, 0⟩,
 ⟨some 8, .move (Operand.tmp 7), none, 0⟩,
 ⟨some 9, .move (Operand.tmp 0), some (8, true), 0⟩,
 ⟨some 10, .move (Operand.tmp 3), some (8, true), 0⟩,
 ⟨some 11, .index 9 (Operand.tmp 9) (Operand.tmp 10), some (8, true), 0⟩,
 ⟨some 12, .call ⟨(Callee.value (Operand.func 113)), [(Operand.tmp 11)].toArray, #[5]⟩, some (8, true), 0⟩,
 ⟨some 13, .pick (Operand.tmp 8) (Operand.tmp 12) (Operand.const (Value.bool false)), none, 0⟩])
 (.cond (Operand.tmp 13)
 .skip
 (.exit 0)))
 (.block 1
 (.ops [⟨some 14, .move (Operand.tmp 3), none, 0⟩,
 ⟨some 15, .binOp BinOp.add 3 (Operand.tmp 14) (Operand.const (Value.int IntKind.i64 1)) 3, none, 0⟩,
 ⟨some 3, .assign (Operand.tmp 15), none, 0⟩])))))
 (.seq
 (.ops [⟨some 16, .move (Operand.tmp 3), none, 0⟩,
 ⟨some 2, .assign (Operand.tmp 16), none, 0⟩])
 .ret))))
abbrev R115 : List ResultVar := [ResultVar.tmp 2]
theorem ok115 : FnOK Try.prog 115 L115 R115 1 := ⟨_, _, Try.func115, rfl, by kernel_rfl, by kernel_rfl, by kernel_rfl, by kernel_rfl, Nat.le_of_ble_eq_true (by kernel_rfl), by kernel_rfl⟩

/-- (ablaut/token.wordlike).length -/
def L116 : LCode :=
 (.seq
 (.ops [⟨some 2, .box 46 (Operand.tmp 0), none, 0⟩,
 ⟨some 4, .assign (Operand.const (Value.int IntKind.i64 0)), none, 0⟩])
 (.seq
 (.seq
 (.ops [⟨some 6, .move (Operand.tmp 1), none, 0⟩,
 ⟨some 7, .binOp BinOp.eql 9 (Operand.tmp 6) (Operand.const (Value.string ⟨#[]⟩)) 9, none, 0⟩,
 ⟨some 8, .move (Operand.tmp 7), none, 0⟩,
 ⟨some 9, .move (Operand.tmp 1), some (8, false), 0⟩,
 ⟨some 10, .index 9 (Operand.tmp 9) (Operand.const (Value.int IntKind.i64 0)), some (8, false), 0⟩,
 ⟨some 11, .call ⟨(Callee.value (Operand.func 112)), [(Operand.tmp 10)].toArray, #[5]⟩, some (8, false), 0⟩,
 ⟨some 12, .unOp UnOp.not 4 (Operand.tmp 11), some (8, false), 0⟩,
 ⟨some 13, .pick (Operand.tmp 8) (Operand.const (Value.bool true)) (Operand.tmp 12), none, 0⟩])
 (.cond (Operand.tmp 13)
 (.seq
 (.ops [⟨some 4, .assign (Operand.const (Value.int IntKind.i64 0)), none, 0⟩])
 .ret)
 .skip))
 (.seq
 (.ops [⟨some 5, .assign (Operand.const (Value.int IntKind.i64 1)), none, 0⟩])
 (.seq
 (.block 0
 (.loop
 (.seq
 (.seq
 (.ops [⟨some 14, .move (Operand.tmp 5), none, 0⟩,
 ⟨some 15, .move (Operand.tmp 1), none, 0⟩,
 ⟨some 16, .call ⟨(Callee.builtin Builtin.len), [(Operand.tmp 15)].toArray, #[9]⟩, none, 0⟩,
 ⟨some 17, .binOp BinOp.lss 3 (Operand.tmp 14) (Operand.tmp 16) 3, none, 0⟩])
 (.cond (Operand.tmp 17)
 .skip
 (.exit 0)))
 (.block 1
 (.block 2
 (.seq
 (.ops [⟨some 20, .move (Operand.tmp 1), none, 0⟩,
 ⟨some 21, .move (Operand.tmp 5), none, 0⟩,
 ⟨some 22, .index 9 (Operand.tmp 20) (Operand.tmp 21), none, 0⟩,
 ⟨some 23, .call ⟨(Callee.value (Operand.func 111)), [(Operand.tmp 22)].toArray, #[5]⟩, none, 0⟩,
 ⟨some 19, .assign (Operand.tmp 23), none, 0⟩])
 (.cond (Operand.tmp 19)
 (.ops [⟨some 24, .move (Operand.tmp 5), none, 0⟩,
 ⟨some 25, .binOp BinOp.add 3 (Operand.tmp 24) (Operand.const (Value.int IntKind.i64 1)) 3, none, 0⟩,
 ⟨some 5, .assign (Operand.tmp 25), none, 0⟩])
 (.seq
 (.ops [⟨some 27, .move (Operand.tmp 1), none, 0⟩,
 ⟨some 28, .move (Operand.tmp 5), none, 0⟩,
 ⟨some 29, .index 9 (Operand.tmp 27) (Operand.tmp 28), none, 0⟩,
 ⟨some 30, .binOp BinOp.eql 5 (Operand.tmp 29) (Operand.const (Value.int IntKind.u8 39)) 5, none, 0⟩,
 ⟨some 31, .move (Operand.tmp 30), none, 0⟩,
 ⟨some 32, .move (Operand.tmp 1), some (31, false), 0⟩,
 ⟨some 33, .move (Operand.tmp 5), some (31, false), 0⟩,
 ⟨some 34, .index 9 (Operand.tmp 32) (Operand.tmp 33), some (31, false), 0⟩,
 ⟨some 35, .binOp BinOp.eql 5 (Operand.tmp 34) (Operand.const (Value.int IntKind.u8 45)) 5, some (31, false), 0⟩,
 ⟨some 36, .pick (Operand.tmp 31) (Operand.const (Value.bool true)) (Operand.tmp 35), none, 0⟩,
 ⟨some 37, .move (Operand.tmp 36), none, 0⟩,
 ⟨some 38, .move (Operand.tmp 5), some (37, true), 0⟩,
 ⟨some 39, .binOp BinOp.add 3 (Operand.tmp 38) (Operand.const (Value.int IntKind.i64 1)) 3, some (37, true), 0⟩,
 ⟨some 40, .move (Operand.tmp 1), some (37, true), 0⟩,
 ⟨some 41, .call ⟨(Callee.builtin Builtin.len), [(Operand.tmp 40)].toArray, #[9]⟩, some (37, true), 0⟩,
 ⟨some 42, .binOp BinOp.lss 3 (Operand.tmp 39) (Operand.tmp 41) 3, some (37, true), 0⟩,
 ⟨some 43, .pick (Operand.tmp 37) (Operand.tmp 42) (Operand.const (Value.bool false)), none, 0⟩,
 ⟨some 44, .move (Operand.tmp 43), none, 0⟩,
 ⟨some 45, .move (Operand.tmp 1), some (44, true), 0⟩,
 ⟨some 46, .move (Operand.tmp 5), some (44, true), 0⟩,
 ⟨some 47, .binOp BinOp.add 3 (Operand.tmp 46) (Operand.const (Value.int IntKind.i64 1)) 3, some (44, true), 0⟩,
 ⟨some 48, .index 9 (Operand.tmp 45) (Operand.tmp 47), some (44, true), 0⟩,
 ⟨some 49, .call ⟨(Callee.value (Operand.func 111)), [(Operand.tmp 48)].toArray, #[5]⟩, some (44, true), 0⟩,
 ⟨some 50, .pick (Operand.tmp 44) (Operand.tmp 49) (Operand.const (Value.bool false)), none, 0⟩,
 ⟨some 26, .assign (Operand.tmp 50), none, 0⟩])
 (.cond (Operand.tmp 26)
 (.ops [⟨some 51, .move (Operand.tmp 5), none, 0⟩,
 ⟨some 52, .binOp BinOp.add 3 (Operand.tmp 51) (Operand.const (Value.int IntKind.i64 2)) 3, none, 0⟩,
 ⟨some 5, .assign (Operand.tmp 52), none, 0⟩])
 (.seq
 (.ops [⟨some 18, .move (Operand.tmp 5), none, 0⟩,
 ⟨some 4, .assign (Operand.tmp 18), none, 0⟩])
 .ret))))))))))
 (.seq
 (.ops [⟨some 53, .move (Operand.tmp 5), none, 0⟩,
 ⟨some 4, .assign (Operand.tmp 53), none, 0⟩])
 .ret)))))
abbrev R116 : List ResultVar := [ResultVar.tmp 4]
theorem ok116 : FnOK Try.prog 116 L116 R116 2 := ⟨_, _, Try.func116, rfl, by kernel_rfl, by kernel_rfl, by kernel_rfl, by kernel_rfl, Nat.le_of_ble_eq_true (by kernel_rfl), by kernel_rfl⟩

/-- (ablaut/token.sign).length -/
def L117 : LCode :=
 (.seq
 (.ops [⟨some 2, .box 47 (Operand.tmp 0), none, 0⟩,
 ⟨some 4, .assign (Operand.const (Value.int IntKind.i64 0)), none, 0⟩])
 (.seq
 (.ops [⟨some 4, .assign (Operand.const (Value.int IntKind.i64 1)), none, 0⟩])
 .ret))
abbrev R117 : List ResultVar := [ResultVar.tmp 4]
theorem ok117 : FnOK Try.prog 117 L117 R117 2 := ⟨_, _, Try.func117, rfl, by kernel_rfl, by kernel_rfl, by kernel_rfl, by kernel_rfl, Nat.le_of_ble_eq_true (by kernel_rfl), by kernel_rfl⟩
end Go.Proofs.Ytapkbkniooleaaa.Vs
