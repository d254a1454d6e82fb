/- The seat's functions as the engine Dm reads them, written by dgen.py. -/
import Derived.Test.YtapkbkniooleaaaDmFn
import Derived.Test.YtapkbkniooleaaaProg
import Derived.KernelRfl
namespace Go.Proofs.Ytapkbkniooleaaa.Vs
set_option linter.unusedVariables false
set_option maxRecDepth 100000
/-- ablaut/ablautref17.isLetter -/
def L57 : LCode :=
 (.seq
 (.ops [⟨some 2, .assign (Operand.const (Value.bool false)), none, 0⟩])
 (.seq
 (.ops [⟨some 3, .move (Operand.tmp 0), none, 0⟩,
 ⟨some 4, .call ⟨(Callee.value (Operand.func 49)), [(Operand.tmp 3)].toArray, #[5]⟩, none, 0⟩,
 ⟨some 5, .move (Operand.tmp 4), none, 0⟩,
 ⟨some 6, .move (Operand.tmp 0), some (5, false), 0⟩,
 ⟨some 7, .call ⟨(Callee.value (Operand.func 67)), [(Operand.tmp 6)].toArray, #[5]⟩, some (5, false), 0⟩,
 ⟨some 8, .pick (Operand.tmp 5) (Operand.const (Value.bool true)) (Operand.tmp 7), none, 0⟩,
 ⟨some 9, .move (Operand.tmp 8), none, 0⟩,
 ⟨some 10, .move (Operand.tmp 0), some (9, false), 0⟩,
 ⟨some 11, .binOp BinOp.gtr 5 (Operand.tmp 10) (Operand.const (Value.int IntKind.u8 127)) 5, some (9, false), 0⟩,
 ⟨some 12, .pick (Operand.tmp 9) (Operand.const (Value.bool true)) (Operand.tmp 11), none, 0⟩,
 ⟨some 2, .assign (Operand.tmp 12), none, 0⟩])
 .ret))
abbrev R57 : List ResultVar := [ResultVar.tmp 2]
theorem ok57 : FnOK Try.prog 57 L57 R57 1 := ⟨_, _, Try.func57, rfl, by kernel_rfl, by kernel_rfl, by kernel_rfl, by kernel_rfl, Nat.le_of_ble_eq_true (by kernel_rfl), by kernel_rfl⟩

/-- ablaut/ablautref17.isDigit -/
def L58 : LCode :=
 (.seq
 (.ops [⟨some 2, .assign (Operand.const (Value.bool false)), none, 0⟩])
 (.seq
 (.ops [⟨some 3, .move (Operand.tmp 0), none, 0⟩,
 ⟨some 4, .binOp BinOp.geq 5 (Operand.tmp 3) (Operand.const (Value.int IntKind.u8 48)) 5, none, 0⟩,
 ⟨some 5, .move (Operand.tmp 4), none, 0⟩,
 ⟨some 6, .move (Operand.tmp 0), some (5, true), 0⟩,
 ⟨some 7, .binOp BinOp.leq 5 (Operand.tmp 6) (Operand.const (Value.int IntKind.u8 57)) 5, some (5, true), 0⟩,
 ⟨some 8, .pick (Operand.tmp 5) (Operand.tmp 7) (Operand.const (Value.bool false)), none, 0⟩,
 ⟨some 2, .assign (Operand.tmp 8), none, 0⟩])
 .ret))
abbrev R58 : List ResultVar := [ResultVar.tmp 2]
theorem ok58 : FnOK Try.prog 58 L58 R58 1 := ⟨_, _, Try.func58, rfl, by kernel_rfl, by kernel_rfl, by kernel_rfl, by kernel_rfl, Nat.le_of_ble_eq_true (by kernel_rfl), by kernel_rfl⟩

/-- ablaut/ablautref17.digits -/
def L59 : LCode :=
 (.seq
 (.ops [⟨some 4, .assign (Operand.const (Value.int IntKind.i64 0)), none, 0⟩])
 (.seq
 (.block 0
 (.loop
 (.seq
 (.seq
 (.ops [⟨some 5, .move (Operand.tmp 1), none, 0⟩,
 ⟨some 6, .move (Operand.tmp 0), none, 0⟩,
 ⟨some 7, .call ⟨(Callee.builtin Builtin.len), [(Operand.tmp 6)].toArray, #[9]⟩, none, 0⟩,
 ⟨some 8, .binOp BinOp.lss 3 (Operand.tmp 5) (Operand.tmp 7) 3, none, 0⟩,
 ⟨some 9, .move (Operand.tmp 8), none, 0⟩,
 ⟨some 10, .move (Operand.tmp 0), some (9, true), 0⟩,
 ⟨some 11, .move (Operand.tmp 1), some (9, true), 0⟩,
 ⟨some 12, .index 9 (Operand.tmp 10) (Operand.tmp 11), some (9, true), 0⟩,
 ⟨some 13, .call ⟨(Callee.value (Operand.func 58)), [(Operand.tmp 12)].toArray, #[5]⟩, some (9, true), 0⟩,
 ⟨some 14, .pick (Operand.tmp 9) (Operand.tmp 13) (Operand.const (Value.bool false)), none, 0⟩])
 (.cond (Operand.tmp 14)
 .skip
 (.exit 0)))
 (.block 1
 (.ops [⟨some 15, .move (Operand.tmp 1), none, 0⟩,
 ⟨some 16, .binOp BinOp.add 3 (Operand.tmp 15) (Operand.const (Value.int IntKind.i64 1)) 3, none, 0⟩,
 ⟨some 1, .assign (Operand.tmp 16), none, 0⟩])))))
 (.seq
 (.ops [⟨some 17, .move (Operand.tmp 1), none, 0⟩,
 ⟨some 4, .assign (Operand.tmp 17), none, 0⟩])
 .ret)))
abbrev R59 : List ResultVar := [ResultVar.tmp 4]
theorem ok59 : FnOK Try.prog 59 L59 R59 2 := ⟨_, _, Try.func59, rfl, by kernel_rfl, by kernel_rfl, by kernel_rfl, by kernel_rfl, Nat.le_of_ble_eq_true (by kernel_rfl), by kernel_rfl⟩

/-- ablaut/ablautref17.isIn -/
def L60 : LCode :=
 (.seq
 (.ops [⟨some 4, .assign (Operand.const (Value.bool false)), none, 0⟩])
 (.seq
 (.ops [⟨some 5, .move (Operand.tmp 1), none, 0⟩,
 ⟨some 6, .move (Operand.tmp 0), none, 0⟩,
 ⟨some 7, .call ⟨(Callee.builtin Builtin.len), [(Operand.tmp 6)].toArray, #[9]⟩, none, 0⟩,
 ⟨some 8, .binOp BinOp.lss 3 (Operand.tmp 5) (Operand.tmp 7) 3, none, 0⟩,
 ⟨some 9, .move (Operand.tmp 8), none, 0⟩,
 ⟨some 10, .move (Operand.tmp 0), some (9, true), 0⟩,
 ⟨some 11, .move (Operand.tmp 1), some (9, true), 0⟩,
 ⟨some 12, .index 9 (Operand.tmp 10) (Operand.tmp 11), some (9, true), 0⟩,
 ⟨some 13, .call ⟨(Callee.value (Operand.func 57)), [(Operand.tmp 12)].toArray, #[5]⟩, some (9, true), 0⟩,
 ⟨some 14, .move (Operand.tmp 13), some (9, true), 0⟩,
 ⟨some 15, .move (Operand.tmp 0), some (14, false), 0⟩,
 ⟨some 16, .move (Operand.tmp 1), some (14, false), 0⟩,
 ⟨some 17, .index 9 (Operand.tmp 15) (Operand.tmp 16), some (14, false), 0⟩,
 ⟨some 18, .call ⟨(Callee.value (Operand.func 58)), [(Operand.tmp 17)].toArray, #[5]⟩, some (14, false), 0⟩,
 ⟨some 19, .pick (Operand.tmp 14) (Operand.const (Value.bool true)) (Operand.tmp 18), some (9, true), 0⟩,
 ⟨some 20, .pick (Operand.tmp 9) (Operand.tmp 19) (Operand.const (Value.bool false)), none, 0⟩,
 ⟨some 4, .assign (Operand.tmp 20), none, 0⟩])
 .ret))
abbrev R60 : List ResultVar := [ResultVar.tmp 4]
theorem ok60 : FnOK Try.prog 60 L60 R60 2 := ⟨_, _, Try.func60, rfl, by kernel_rfl, by kernel_rfl, by kernel_rfl, by kernel_rfl, Nat.le_of_ble_eq_true (by kernel_rfl), by kernel_rfl⟩

/-- ablaut/ablautref17.clitic -/
def L61 : LCode :=
 (.seq
 (.ops [⟨some 6, .assign (Operand.const (Value.int IntKind.i64 0)), none, 0⟩])
 (.seq
 (.ops [⟨some 10, .move (Operand.tmp 0), none, 0⟩,
 ⟨some 11, .call ⟨(Callee.value (Operand.func 68)), [(Operand.tmp 10)].toArray, #[9]⟩, none, 0⟩,
 ⟨some 0, .assign (Operand.tmp 11), none, 0⟩])
 (.seq
 (.ops [⟨some 7, .assign (Operand.const (Value.int IntKind.i64 0)), none, 0⟩])
 (.seq
 (.seq
 (.ops [⟨some 8, .assign (Operand.const (Value.int IntKind.i64 0)), none, 0⟩])
 (.block 0
 (.loop
 (.seq
 (.seq
 (.ops [⟨some 12, .move (Operand.tmp 8), none, 0⟩,
 ⟨some 13, .move (Operand.tmp 1), none, 0⟩,
 ⟨some 14, .call ⟨(Callee.builtin Builtin.len), [(Operand.tmp 13)].toArray, #[22]⟩, none, 0⟩,
 ⟨some 15, .binOp BinOp.lss 3 (Operand.tmp 12) (Operand.tmp 14) 3, none, 0⟩])
 (.cond (Operand.tmp 15)
 .skip
 (.exit 0)))
 (.seq
 (.block 1
 (.seq
 (.ops [⟨some 18, .move (Operand.tmp 1), none, 0⟩,
 ⟨some 19, .move (Operand.tmp 8), none, 0⟩,
 ⟨some 20, .indexAddr 22 (Operand.tmp 18) (Operand.tmp 19), none, 0⟩,
 ⟨some 21, .load 9 (Operand.tmp 20), none, 0⟩,
 ⟨some 22, .call ⟨(Callee.builtin Builtin.len), [(Operand.tmp 21)].toArray, #[9]⟩, none, 0⟩,
 ⟨some 9, .assign (Operand.tmp 22), none, 0⟩])
 (.seq
 (.seq
 (.ops [⟨some 23, .move (Operand.tmp 9), none, 0⟩,
 ⟨some 24, .move (Operand.tmp 0), none, 0⟩,
 ⟨some 25, .call ⟨(Callee.builtin Builtin.len), [(Operand.tmp 24)].toArray, #[9]⟩, none, 0⟩,
 ⟨some 26, .binOp BinOp.geq 3 (Operand.tmp 23) (Operand.tmp 25) 3, none, 0⟩,
 ⟨some 27, .move (Operand.tmp 26), none, 0⟩,
 ⟨some 28, .move (Operand.tmp 9), some (27, false), 0⟩,
 ⟨some 29, .move (Operand.tmp 7), some (27, false), 0⟩,
 ⟨some 30, .binOp BinOp.leq 3 (Operand.tmp 28) (Operand.tmp 29) 3, some (27, false), 0⟩,
 ⟨some 31, .pick (Operand.tmp 27) (Operand.const (Value.bool true)) (Operand.tmp 30), none, 0⟩])
 (.cond (Operand.tmp 31)
 (.exit 1)
 .skip))
 (.seq
 (.draw [⟨some 32, .move (Operand.tmp 2), none, 0⟩,
 ⟨some 33, .move (Operand.tmp 32), none, 0⟩,
 ⟨some 34, .move (Operand.tmp 0), some (33, true), 0⟩,
 ⟨some 35, .move (Operand.tmp 9), some (33, true), 0⟩,
 ⟨some 36, .slice 9 (Operand.tmp 34) none (some (Operand.tmp 35)) none, some (33, true), 0⟩,
 ⟨some 37, .move (Operand.tmp 1), some (33, true), 0⟩,
 ⟨some 38, .move (Operand.tmp 8), some (33, true), 0⟩,
 ⟨some 39, .indexAddr 22 (Operand.tmp 37) (Operand.tmp 38), some (33, true), 0⟩,
 ⟨some 40, .load 9 (Operand.tmp 39), some (33, true), 0⟩,
 ⟨some 41, .binOp BinOp.eql 9 (Operand.tmp 36) (Operand.tmp 40) 9, some (33, true), 0⟩,
 ⟨some 42, .pick (Operand.tmp 33) (Operand.tmp 41) (Operand.const (Value.bool false)), none, 0⟩,
 ⟨some 43, .move (Operand.tmp 42), none, 0⟩,
 ⟨some 44, .move (Operand.tmp 2), some (43, false), 0⟩,
 ⟨some 45, .unOp UnOp.not 4 (Operand.tmp 44), some (43, false), 0⟩,
 ⟨some 46, .move (Operand.tmp 45), some (43, false), 0⟩,
 ⟨some 47, .move (Operand.tmp 0), some (46, true), 0⟩,
 ⟨some 48, .move (Operand.tmp 0), some (46, true), 0⟩,
 ⟨some 49, .call ⟨(Callee.builtin Builtin.len), [(Operand.tmp 48)].toArray, #[9]⟩, some (46, true), 0⟩,
 ⟨some 50, .move (Operand.tmp 9), some (46, true), 0⟩,
 ⟨some 51, .binOp BinOp.sub 3 (Operand.tmp 49) (Operand.tmp 50) 3, some (46, true), 0⟩,
 ⟨some 52, .slice 9 (Operand.tmp 47) (some (Operand.tmp 51)) none none, some (46, true), 0⟩,
 ⟨some 53, .move (Operand.tmp 1), some (46, true), 0⟩,
 ⟨some 54, .move (Operand.tmp 8), some (46, true), 0⟩,
 ⟨some 55, .indexAddr 22 (Operand.tmp 53) (Operand.tmp 54), some (46, true), 0⟩,
 ⟨some 56, .load 9 (Operand.tmp 55), some (46, true), 0⟩,
 ⟨some 57, .binOp BinOp.eql 9 (Operand.tmp 52) (Operand.tmp 56) 9, some (46, true), 0⟩,
 ⟨some 58, .pick (Operand.tmp 46) (Operand.tmp 57) (Operand.const (Value.bool false)), some (43, false), 0⟩,
 ⟨some 59, .pick (Operand.tmp 43) (Operand.const (Value.bool true)) (Operand.tmp 58), none, 0⟩] true [25, 26, 27] [0, 1, 2, 3, 5, 6, 7, 4, 8, 9, 10, 11, 12, 13, 14, 15, 16, 17, 18, 19, 20, 21, 22, 23, 24, 25, 26, 27])
 (.cond (Operand.tmp 59)
 (.ops [⟨some 60, .move (Operand.tmp 9), none, 0⟩,
 ⟨some 7, .assign (Operand.tmp 60), none, 0⟩])
 .skip)))))
 (.ops [⟨some 16, .move (Operand.tmp 8), none, 0⟩,
 ⟨some 17, .binOp BinOp.add 3 (Operand.tmp 16) (Operand.const (Value.int IntKind.i64 1)) 3, none, 0⟩,
 ⟨some 8, .assign (Operand.tmp 17), none, 0⟩]))))))
 (.seq
 (.ops [⟨some 61, .move (Operand.tmp 7), none, 0⟩,
 ⟨some 6, .assign (Operand.tmp 61), none, 0⟩])
 .ret)))))
abbrev R61 : List ResultVar := [ResultVar.tmp 6]
theorem ok61 : FnOK Try.prog 61 L61 R61 3 := ⟨_, _, Try.func61, rfl, by kernel_rfl, by kernel_rfl, by kernel_rfl, by kernel_rfl, Nat.le_of_ble_eq_true (by kernel_rfl), by kernel_rfl⟩

/-- strings.Contains -/
def L66 : LCode :=
 (.seq
 (.ops [⟨some 4, .assign (Operand.const (Value.bool false)), none, 0⟩])
 (.seq
 (.ops [⟨some 5, .move (Operand.tmp 0), none, 0⟩,
 ⟨some 6, .move (Operand.tmp 1), none, 0⟩,
 ⟨some 7, .call ⟨(Callee.value (Operand.func 80)), [(Operand.tmp 5), (Operand.tmp 6)].toArray, #[9, 9]⟩, none, 0⟩,
 ⟨some 8, .binOp BinOp.geq 3 (Operand.tmp 7) (Operand.const (Value.int IntKind.i64 0)) 3, none, 0⟩,
 ⟨some 4, .assign (Operand.tmp 8), none, 0⟩])
 .ret))
abbrev R66 : List ResultVar := [ResultVar.tmp 4]
theorem ok66 : FnOK Try.prog 66 L66 R66 2 := ⟨_, _, Try.func66, rfl, by kernel_rfl, by kernel_rfl, by kernel_rfl, by kernel_rfl, Nat.le_of_ble_eq_true (by kernel_rfl), by kernel_rfl⟩

/-- ablaut/ablautref17.isCapital -/
def L67 : LCode :=
 (.seq
 (.ops [⟨some 2, .assign (Operand.const (Value.bool false)), none, 0⟩])
 (.seq
 (.ops [⟨some 3, .move (Operand.tmp 0), none, 0⟩,
 ⟨some 4, .binOp BinOp.geq 5 (Operand.tmp 3) (Operand.const (Value.int IntKind.u8 65)) 5, none, 0⟩,
 ⟨some 5, .move (Operand.tmp 4), none, 0⟩,
 ⟨some 6, .move (Operand.tmp 0), some (5, true), 0⟩,
 ⟨some 7, .binOp BinOp.leq 5 (Operand.tmp 6) (Operand.const (Value.int IntKind.u8 90)) 5, some (5, true), 0⟩,
 ⟨some 8, .pick (Operand.tmp 5) (Operand.tmp 7) (Operand.const (Value.bool false)), none, 0⟩,
 ⟨some 2, .assign (Operand.tmp 8), none, 0⟩])
 .ret))
abbrev R67 : List ResultVar := [ResultVar.tmp 2]
theorem ok67 : FnOK Try.prog 67 L67 R67 1 := ⟨_, _, Try.func67, rfl, by kernel_rfl, by kernel_rfl, by kernel_rfl, by kernel_rfl, Nat.le_of_ble_eq_true (by kernel_rfl), by kernel_rfl⟩

/-- ablaut/ablautref17.Lower -/
def L68 : LCode :=
 (.seq
 (.ops [⟨some 2, .assign (Operand.const (Value.string ⟨#[]⟩)), none, 0⟩])
 (.seq
 (.ops [⟨some 5, .move (Operand.tmp 0), none, 0⟩,
 ⟨some 6, .convert 9 67 (Operand.tmp 5), none, 0⟩,
 ⟨some 3, .assign (Operand.tmp 6), none, 0⟩])
 (.seq
 (.seq
 (.ops [⟨some 4, .assign (Operand.const (Value.int IntKind.i64 0)), none, 0⟩])
 (.block 0
 (.loop
 (.seq
 (.seq
 (.ops [⟨some 7, .move (Operand.tmp 4), none, 0⟩,
 ⟨some 8, .move (Operand.tmp 3), none, 0⟩,
 ⟨some 9, .call ⟨(Callee.builtin Builtin.len), [(Operand.tmp 8)].toArray, #[67]⟩, none, 0⟩,
 ⟨some 10, .binOp BinOp.lss 3 (Operand.tmp 7) (Operand.tmp 9) 3, none, 0⟩])
 (.cond (Operand.tmp 10)
 .skip
 (.exit 0)))
 (.seq
 (.block 1
 (.seq
 (.ops [⟨some 13, .move (Operand.tmp 3), none, 0⟩,
 ⟨some 14, .move (Operand.tmp 4), none, 0⟩,
 ⟨some 15, .indexAddr 67 (Operand.tmp 13) (Operand.tmp 14), none, 0⟩,
 ⟨some 16, .load 5 (Operand.tmp 15), none, 0⟩,
 ⟨some 17, .call ⟨(Callee.value (Operand.func 67)), [(Operand.tmp 16)].toArray, #[5]⟩, none, 0⟩])
 (.cond (Operand.tmp 17)
 (.ops [⟨some 18, .move (Operand.tmp 3), none, 0⟩,
 ⟨some 19, .move (Operand.tmp 4), none, 0⟩,
 ⟨some 20, .indexAddr 67 (Operand.tmp 18) (Operand.tmp 19), none, 0⟩,
 ⟨some 21, .load 5 (Operand.tmp 20), none, 0⟩,
 ⟨some 22, .binOp BinOp.add 5 (Operand.tmp 21) (Operand.const (Value.int IntKind.u8 32)) 5, none, 0⟩,
 ⟨some 23, .indexAddr 67 (Operand.tmp 18) (Operand.tmp 19), none, 0⟩,
 ⟨none, .store 5 (Operand.tmp 23) (Operand.tmp 22), none, 0⟩])
 .skip)))
 (.ops [⟨some 11, .move (Operand.tmp 4), none, 0⟩,
 ⟨some 12, .binOp BinOp.add 3 (Operand.tmp 11) (Operand.const (Value.int IntKind.i64 1)) 3, none, 0⟩,
 ⟨some 4, .assign (Operand.tmp 12), none, 0⟩]))))))
 (.seq
 (.ops [⟨some 24, .move (Operand.tmp 3), none, 0⟩,
 ⟨some 25, .convert 67 9 (Operand.tmp 24), none, 0⟩,
 ⟨some 2, .assign (Operand.tmp 25), none, 0⟩])
 .ret))))
abbrev R68 : List ResultVar := [ResultVar.tmp 2]
theorem ok68 : FnOK Try.prog 68 L68 R68 1 := ⟨_, _, Try.func68, rfl, by kernel_rfl, by kernel_rfl, by kernel_rfl, by kernel_rfl, Nat.le_of_ble_eq_true (by kernel_rfl), by kernel_rfl⟩

end Go.Proofs.Ytapkbkniooleaaa.Vs
