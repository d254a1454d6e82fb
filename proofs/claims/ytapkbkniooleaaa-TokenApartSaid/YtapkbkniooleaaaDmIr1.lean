/- The seat's functions as the engine Dm reads them, written by dgen.py. -/
import Derived.Test.YtapkbkniooleaaaDmFn
import Derived.Test.YtapkbkniooleaaaProg
import Derived.KernelRfl
namespace Go.Proofs.Ytapkbkniooleaaa.Vs
set_option linter.unusedVariables false
set_option maxRecDepth 100000
/-- ablaut/token.clitics -/
def L18 : LCode :=
 (.seq
 (.ops [⟨some 3, .box 24 (Operand.tmp 0), none, 0⟩,
 ⟨some 6, .assign (Operand.const (Value.slice none 0 0)), none, 0⟩])
 (.seq
 (.ops [⟨some 7, .assign (Operand.const (Value.slice none 0 0)), none, 0⟩,
 ⟨some 8, .assign (Operand.const (Value.slice none 0 0)), none, 0⟩])
 (.seq
 (.block 0
 (.loop
 (.block 1
 (.seq
 (.draw [⟨some 12, .fieldAddr 24 (Operand.tmp 3) 2, none, 0⟩,
 ⟨some 13, .load 22 (Operand.tmp 12), none, 0⟩,
 ⟨some 14, .move (Operand.tmp 2), none, 0⟩,
 ⟨some 15, .call ⟨(Callee.value (Operand.func 35)), [(Operand.tmp 14)].toArray, #[9]⟩, none, 0⟩,
 ⟨some 16, .call ⟨(Callee.value (Operand.func 34)), [(Operand.tmp 13), (Operand.tmp 15), (Operand.func 36)].toArray, #[22, 9, 78]⟩, none, 0⟩,
 ⟨some 9, .assign (Operand.tmp 16), none, 0⟩] true [4, 5] [])
 (.seq
 (.seq
 (.ops [⟨some 17, .move (Operand.tmp 9), none, 0⟩,
 ⟨some 18, .binOp BinOp.eql 3 (Operand.tmp 17) (Operand.const (Value.int IntKind.i64 0)) 3, none, 0⟩])
 (.cond (Operand.tmp 18)
 (.exit 0)
 .skip))
 (.seq
 (.ops [⟨some 19, .move (Operand.tmp 7), none, 0⟩,
 ⟨some 20, .move (Operand.tmp 1), none, 0⟩,
 ⟨some 21, .move (Operand.tmp 1), none, 0⟩,
 ⟨some 22, .move (Operand.tmp 9), none, 0⟩,
 ⟨some 23, .binOp BinOp.add 3 (Operand.tmp 21) (Operand.tmp 22) 3, none, 0⟩,
 ⟨some 24, .move (Operand.tmp 2), none, 0⟩,
 ⟨some 25, .move (Operand.tmp 9), none, 0⟩,
 ⟨some 26, .slice 9 (Operand.tmp 24) none (some (Operand.tmp 25)) none, none, 0⟩,
 ⟨some 27, .build 35 [(0, (Operand.tmp 20)), (1, (Operand.tmp 23)), (2, (Operand.const (Value.int IntKind.i64 4))), (3, (Operand.tmp 26))].toArray, none, 0⟩,
 ⟨some 28, .buildSlice 27 1 [(0, (Operand.tmp 27))].toArray, none, 0⟩,
 ⟨some 29, .call ⟨(Callee.builtin Builtin.append), [(Operand.tmp 19), (Operand.tmp 28)].toArray, #[27, 27]⟩, none, 0⟩,
 ⟨some 7, .assign (Operand.tmp 29), none, 0⟩])
 (.draw [⟨some 30, .move (Operand.tmp 1), none, 0⟩,
 ⟨some 31, .move (Operand.tmp 9), none, 0⟩,
 ⟨some 32, .binOp BinOp.add 3 (Operand.tmp 30) (Operand.tmp 31) 3, none, 0⟩,
 ⟨some 33, .move (Operand.tmp 2), none, 0⟩,
 ⟨some 34, .move (Operand.tmp 9), none, 0⟩,
 ⟨some 35, .slice 9 (Operand.tmp 33) (some (Operand.tmp 34)) none none, none, 0⟩,
 ⟨some 1, .assign (Operand.tmp 32), none, 0⟩,
 ⟨some 2, .assign (Operand.tmp 35), none, 0⟩] true [7] [0, 1, 2, 3, 4, 6, 5, 7])))))))
 (.seq
 (.block 2
 (.loop
 (.block 3
 (.seq
 (.draw [⟨some 36, .fieldAddr 24 (Operand.tmp 3) 3, none, 0⟩,
 ⟨some 37, .load 22 (Operand.tmp 36), none, 0⟩,
 ⟨some 38, .move (Operand.tmp 2), none, 0⟩,
 ⟨some 39, .call ⟨(Callee.value (Operand.func 35)), [(Operand.tmp 38)].toArray, #[9]⟩, none, 0⟩,
 ⟨some 40, .call ⟨(Callee.value (Operand.func 34)), [(Operand.tmp 37), (Operand.tmp 39), (Operand.func 37)].toArray, #[22, 9, 78]⟩, none, 0⟩,
 ⟨some 10, .assign (Operand.tmp 40), none, 0⟩] true [4, 5] [])
 (.seq
 (.seq
 (.ops [⟨some 41, .move (Operand.tmp 10), none, 0⟩,
 ⟨some 42, .binOp BinOp.eql 3 (Operand.tmp 41) (Operand.const (Value.int IntKind.i64 0)) 3, none, 0⟩])
 (.cond (Operand.tmp 42)
 (.exit 2)
 .skip))
 (.seq
 (.ops [⟨some 43, .move (Operand.tmp 2), none, 0⟩,
 ⟨some 44, .call ⟨(Callee.builtin Builtin.len), [(Operand.tmp 43)].toArray, #[9]⟩, none, 0⟩,
 ⟨some 45, .move (Operand.tmp 10), none, 0⟩,
 ⟨some 46, .binOp BinOp.sub 3 (Operand.tmp 44) (Operand.tmp 45) 3, none, 0⟩,
 ⟨some 11, .assign (Operand.tmp 46), none, 0⟩])
 (.seq
 (.ops [⟨some 47, .move (Operand.tmp 8), none, 0⟩,
 ⟨some 48, .move (Operand.tmp 1), none, 0⟩,
 ⟨some 49, .move (Operand.tmp 11), none, 0⟩,
 ⟨some 50, .binOp BinOp.add 3 (Operand.tmp 48) (Operand.tmp 49) 3, none, 0⟩,
 ⟨some 51, .move (Operand.tmp 1), none, 0⟩,
 ⟨some 52, .move (Operand.tmp 2), none, 0⟩,
 ⟨some 53, .call ⟨(Callee.builtin Builtin.len), [(Operand.tmp 52)].toArray, #[9]⟩, none, 0⟩,
 ⟨some 54, .binOp BinOp.add 3 (Operand.tmp 51) (Operand.tmp 53) 3, none, 0⟩,
 ⟨some 55, .move (Operand.tmp 2), none, 0⟩,
 ⟨some 56, .move (Operand.tmp 11), none, 0⟩,
 ⟨some 57, .slice 9 (Operand.tmp 55) (some (Operand.tmp 56)) none none, none, 0⟩,
 ⟨some 58, .build 35 [(0, (Operand.tmp 50)), (1, (Operand.tmp 54)), (2, (Operand.const (Value.int IntKind.i64 5))), (3, (Operand.tmp 57))].toArray, none, 0⟩,
 ⟨some 59, .buildSlice 27 1 [(0, (Operand.tmp 58))].toArray, none, 0⟩,
 ⟨some 60, .call ⟨(Callee.builtin Builtin.append), [(Operand.tmp 47), (Operand.tmp 59)].toArray, #[27, 27]⟩, none, 1⟩,
 ⟨some 8, .assign (Operand.tmp 60), none, 0⟩])
 (.ops [⟨some 61, .move (Operand.tmp 2), none, 0⟩,
 ⟨some 62, .move (Operand.tmp 11), none, 0⟩,
 ⟨some 63, .slice 9 (Operand.tmp 61) none (some (Operand.tmp 62)) none, none, 0⟩,
 ⟨some 2, .assign (Operand.tmp 63), none, 0⟩]))))))))
 (.seq
 (.ops [⟨some 64, .move (Operand.tmp 7), none, 0⟩,
 ⟨some 65, .move (Operand.tmp 1), none, 0⟩,
 ⟨some 66, .move (Operand.tmp 1), none, 0⟩,
 ⟨some 67, .move (Operand.tmp 2), none, 0⟩,
 ⟨some 68, .call ⟨(Callee.builtin Builtin.len), [(Operand.tmp 67)].toArray, #[9]⟩, none, 0⟩,
 ⟨some 69, .binOp BinOp.add 3 (Operand.tmp 66) (Operand.tmp 68) 3, none, 0⟩,
 ⟨some 70, .move (Operand.tmp 2), none, 0⟩,
 ⟨some 71, .build 35 [(0, (Operand.tmp 65)), (1, (Operand.tmp 69)), (2, (Operand.const (Value.int IntKind.i64 0))), (3, (Operand.tmp 70))].toArray, none, 0⟩,
 ⟨some 72, .buildSlice 27 1 [(0, (Operand.tmp 71))].toArray, none, 0⟩,
 ⟨some 73, .call ⟨(Callee.builtin Builtin.append), [(Operand.tmp 64), (Operand.tmp 72)].toArray, #[27, 27]⟩, none, 0⟩,
 ⟨some 7, .assign (Operand.tmp 73), none, 0⟩])
 (.seq
 (.ops [⟨some 74, .move (Operand.tmp 8), none, 0⟩,
 ⟨some 75, .call ⟨(Callee.value (Operand.func 38)), [(Operand.tmp 74)].toArray, #[27]⟩, none, 0⟩])
 (.seq
 (.ops [⟨some 76, .move (Operand.tmp 7), none, 0⟩,
 ⟨some 77, .move (Operand.tmp 8), none, 0⟩,
 ⟨some 78, .call ⟨(Callee.builtin Builtin.append), [(Operand.tmp 76), (Operand.tmp 77)].toArray, #[27, 27]⟩, none, 0⟩,
 ⟨some 6, .assign (Operand.tmp 78), none, 0⟩])
 .ret)))))))
abbrev R18 : List ResultVar := [ResultVar.tmp 6]
theorem ok18 : FnOK Try.prog 18 L18 R18 3 := ⟨_, _, Try.func18, rfl, by kernel_rfl, by kernel_rfl, by kernel_rfl, by kernel_rfl, Nat.le_of_ble_eq_true (by kernel_rfl), by kernel_rfl⟩

/-- ablaut/token.lists -/
def L20 : LCode :=
 (.seq
 (.ops [⟨some 1, .box 24 (Operand.tmp 0), none, 0⟩,
 ⟨some 2, .assign (Operand.const (Value.slice none 0 0)), none, 0⟩])
 (.seq
 (.ops [⟨some 3, .fieldAddr 24 (Operand.tmp 1) 0, none, 0⟩,
 ⟨some 4, .load 22 (Operand.tmp 3), none, 0⟩,
 ⟨some 5, .fieldAddr 24 (Operand.tmp 1) 1, none, 0⟩,
 ⟨some 6, .load 22 (Operand.tmp 5), none, 0⟩,
 ⟨some 7, .fieldAddr 24 (Operand.tmp 1) 2, none, 0⟩,
 ⟨some 8, .load 22 (Operand.tmp 7), none, 0⟩,
 ⟨some 9, .fieldAddr 24 (Operand.tmp 1) 3, none, 0⟩,
 ⟨some 10, .load 22 (Operand.tmp 9), none, 0⟩,
 ⟨some 11, .buildSlice 56 4 [(0, (Operand.tmp 4)), (1, (Operand.tmp 6)), (2, (Operand.tmp 8)), (3, (Operand.tmp 10))].toArray, none, 0⟩,
 ⟨some 2, .assign (Operand.tmp 11), none, 0⟩])
 .ret))
abbrev R20 : List ResultVar := [ResultVar.tmp 2]
theorem ok20 : FnOK Try.prog 20 L20 R20 1 := ⟨_, _, Try.func20, rfl, by kernel_rfl, by kernel_rfl, by kernel_rfl, by kernel_rfl, Nat.le_of_ble_eq_true (by kernel_rfl), by kernel_rfl⟩

/-- slices.ContainsFunc[[]string,string] -/
def L21 : LCode :=
 (.seq
 (.ops [⟨some 4, .assign (Operand.const (Value.bool false)), none, 0⟩])
 (.seq
 (.ops [⟨some 5, .move (Operand.tmp 0), none, 0⟩,
 ⟨some 6, .move (Operand.tmp 1), none, 0⟩,
 ⟨some 7, .call ⟨(Callee.value (Operand.func 44)), [(Operand.tmp 5), (Operand.tmp 6)].toArray, #[22, 59]⟩, none, 0⟩,
 ⟨some 8, .binOp BinOp.geq 3 (Operand.tmp 7) (Operand.const (Value.int IntKind.i64 0)) 3, none, 0⟩,
 ⟨some 4, .assign (Operand.tmp 8), none, 0⟩])
 .ret))
abbrev R21 : List ResultVar := [ResultVar.tmp 4]
theorem ok21 : FnOK Try.prog 21 L21 R21 2 := ⟨_, _, Try.func21, rfl, by kernel_rfl, by kernel_rfl, by kernel_rfl, by kernel_rfl, Nat.le_of_ble_eq_true (by kernel_rfl), by kernel_rfl⟩

/-- ablaut/token.Validate$1 -/
def L22 : LCode :=
 (.seq
 (.ops [⟨some 2, .assign (Operand.const (Value.bool false)), none, 0⟩])
 (.seq
 (.ops [⟨some 3, .move (Operand.tmp 0), none, 0⟩,
 ⟨some 4, .call ⟨(Callee.builtin Builtin.len), [(Operand.tmp 3)].toArray, #[9]⟩, none, 0⟩,
 ⟨some 5, .binOp BinOp.gtr 3 (Operand.tmp 4) (Operand.const (Value.int IntKind.i64 400)) 3, none, 0⟩,
 ⟨some 2, .assign (Operand.tmp 5), none, 0⟩])
 .ret))
abbrev R22 : List ResultVar := [ResultVar.tmp 2]
theorem ok22 : FnOK Try.prog 22 L22 R22 1 := ⟨_, _, Try.func22, rfl, by kernel_rfl, by kernel_rfl, by kernel_rfl, by kernel_rfl, Nat.le_of_ble_eq_true (by kernel_rfl), by kernel_rfl⟩

/-- ablaut/token.isUnit -/
def L23 : LCode :=
 (.seq
 (.ops [⟨some 2, .assign (Operand.const (Value.bool false)), none, 0⟩])
 (.seq
 (.ops [⟨some 3, .move (Operand.tmp 0), none, 0⟩,
 ⟨some 4, .index 9 (Operand.tmp 3) (Operand.const (Value.int IntKind.i64 0)), none, 0⟩,
 ⟨some 5, .call ⟨(Callee.value (Operand.func 16)), [(Operand.tmp 4)].toArray, #[5]⟩, none, 0⟩,
 ⟨some 6, .unOp UnOp.not 4 (Operand.tmp 5), none, 0⟩,
 ⟨some 7, .move (Operand.tmp 6), none, 0⟩,
 ⟨some 8, .move (Operand.tmp 0), some (7, true), 0⟩,
 ⟨some 9, .move (Operand.tmp 0), some (7, true), 0⟩,
 ⟨some 10, .call ⟨(Callee.builtin Builtin.len), [(Operand.tmp 9)].toArray, #[9]⟩, some (7, true), 0⟩,
 ⟨some 11, .binOp BinOp.sub 3 (Operand.tmp 10) (Operand.const (Value.int IntKind.i64 1)) 3, some (7, true), 0⟩,
 ⟨some 12, .index 9 (Operand.tmp 8) (Operand.tmp 11), some (7, true), 0⟩,
 ⟨some 13, .call ⟨(Callee.value (Operand.func 16)), [(Operand.tmp 12)].toArray, #[5]⟩, some (7, true), 0⟩,
 ⟨some 14, .unOp UnOp.not 4 (Operand.tmp 13), some (7, true), 0⟩,
 ⟨some 15, .pick (Operand.tmp 7) (Operand.tmp 14) (Operand.const (Value.bool false)), none, 0⟩,
 ⟨some 2, .assign (Operand.tmp 15), none, 0⟩])
 .ret))
abbrev R23 : List ResultVar := [ResultVar.tmp 2]
theorem ok23 : FnOK Try.prog 23 L23 R23 1 := ⟨_, _, Try.func23, rfl, by kernel_rfl, by kernel_rfl, by kernel_rfl, by kernel_rfl, Nat.le_of_ble_eq_true (by kernel_rfl), by kernel_rfl⟩

/-- ablaut/token.isClitic -/
def L24 : LCode :=
 (.seq
 (.ops [⟨some 2, .assign (Operand.const (Value.bool false)), none, 0⟩])
 (.seq
 (.seq
 (.ops [⟨some 4, .move (Operand.tmp 0), none, 0⟩,
 ⟨some 5, .call ⟨(Callee.builtin Builtin.len), [(Operand.tmp 4)].toArray, #[9]⟩, none, 0⟩,
 ⟨some 6, .move (Operand.const (Value.int IntKind.i64 0)), none, 0⟩])
 (.block 0
 (.loop
 (.seq
 (.ops [⟨some 7, .binOp BinOp.lss 3 (Operand.tmp 6) (Operand.tmp 5) 3, none, 0⟩])
 (.seq
 (.cond (Operand.tmp 7)
 .skip
 (.exit 0))
 (.seq
 (.block 1
 (.seq
 (.ops [⟨some 8, .move (Operand.tmp 6), none, 0⟩,
 ⟨some 3, .assign (Operand.tmp 8), none, 0⟩])
 (.seq
 (.ops [⟨some 9, .move (Operand.tmp 0), none, 0⟩,
 ⟨some 10, .move (Operand.tmp 3), none, 0⟩,
 ⟨some 11, .index 9 (Operand.tmp 9) (Operand.tmp 10), none, 0⟩,
 ⟨some 12, .call ⟨(Callee.value (Operand.func 45)), [(Operand.tmp 11)].toArray, #[5]⟩, none, 0⟩,
 ⟨some 13, .unOp UnOp.not 4 (Operand.tmp 12), none, 0⟩,
 ⟨some 14, .move (Operand.tmp 13), none, 0⟩,
 ⟨some 15, .move (Operand.tmp 0), some (14, true), 0⟩,
 ⟨some 16, .move (Operand.tmp 3), some (14, true), 0⟩,
 ⟨some 17, .index 9 (Operand.tmp 15) (Operand.tmp 16), some (14, true), 0⟩,
 ⟨some 18, .binOp BinOp.neq 5 (Operand.tmp 17) (Operand.const (Value.int IntKind.u8 39)) 5, some (14, true), 0⟩,
 ⟨some 19, .pick (Operand.tmp 14) (Operand.tmp 18) (Operand.const (Value.bool false)), none, 0⟩,
 ⟨some 20, .move (Operand.tmp 19), none, 0⟩,
 ⟨some 21, .move (Operand.tmp 0), some (20, true), 0⟩,
 ⟨some 22, .move (Operand.tmp 3), some (20, true), 0⟩,
 ⟨some 23, .index 9 (Operand.tmp 21) (Operand.tmp 22), some (20, true), 0⟩,
 ⟨some 24, .binOp BinOp.neq 5 (Operand.tmp 23) (Operand.const (Value.int IntKind.u8 45)) 5, some (20, true), 0⟩,
 ⟨some 25, .pick (Operand.tmp 20) (Operand.tmp 24) (Operand.const (Value.bool false)), none, 0⟩])
 (.cond (Operand.tmp 25)
 (.seq
 (.ops [⟨some 2, .assign (Operand.const (Value.bool false)), none, 0⟩])
 .ret)
 .skip))))
 (.ops [⟨some 26, .binOp BinOp.add 3 (Operand.tmp 6) (Operand.const (Value.int IntKind.i64 1)) 3, none, 0⟩,
 ⟨some 6, .move (Operand.tmp 26), none, 0⟩])))))))
 (.seq
 (.ops [⟨some 2, .assign (Operand.const (Value.bool true)), none, 0⟩])
 .ret)))
abbrev R24 : List ResultVar := [ResultVar.tmp 2]
theorem ok24 : FnOK Try.prog 24 L24 R24 1 := ⟨_, _, Try.func24, rfl, by kernel_rfl, by kernel_rfl, by kernel_rfl, by kernel_rfl, Nat.le_of_ble_eq_true (by kernel_rfl), by kernel_rfl⟩

/-- slices.Sorted[string] -/
def L25 : LCode :=
 (.seq
 (.ops [⟨some 2, .assign (Operand.const (Value.slice none 0 0)), none, 0⟩])
 (.seq
 (.ops [⟨some 4, .move (Operand.tmp 0), none, 0⟩,
 ⟨some 5, .call ⟨(Callee.value (Operand.func 46)), [(Operand.tmp 4)].toArray, #[62]⟩, none, 0⟩,
 ⟨some 3, .assign (Operand.tmp 5), none, 0⟩])
 (.seq
 (.ops [⟨some 6, .move (Operand.tmp 3), none, 0⟩,
 ⟨some 7, .call ⟨(Callee.value (Operand.func 47)), [(Operand.tmp 6)].toArray, #[22]⟩, none, 0⟩])
 (.seq
 (.ops [⟨some 8, .move (Operand.tmp 3), none, 0⟩,
 ⟨some 2, .assign (Operand.tmp 8), none, 0⟩])
 .ret))))
abbrev R25 : List ResultVar := [ResultVar.tmp 2]
theorem ok25 : FnOK Try.prog 25 L25 R25 1 := ⟨_, _, Try.func25, rfl, by kernel_rfl, by kernel_rfl, by kernel_rfl, by kernel_rfl, Nat.le_of_ble_eq_true (by kernel_rfl), by kernel_rfl⟩

/-- slices.Values[[]string,string] -/
def L26 : LCode :=
 (.seq
 (.ops [⟨some 1, .box 22 (Operand.tmp 0), none, 0⟩,
 ⟨some 2, .assign (Operand.const Value.nilFunc), none, 0⟩])
 (.seq
 (.ops [⟨some 3, .makeFunc (Fn.func 48) #[] [(Operand.tmp 1)].toArray, none, 0⟩,
 ⟨some 2, .assign (Operand.tmp 3), none, 0⟩])
 .ret))
abbrev R26 : List ResultVar := [ResultVar.tmp 2]
theorem ok26 : FnOK Try.prog 26 L26 R26 1 := ⟨_, _, Try.func26, rfl, by kernel_rfl, by kernel_rfl, by kernel_rfl, by kernel_rfl, Nat.le_of_ble_eq_true (by kernel_rfl), by kernel_rfl⟩

/-- slices.Compact[[]string,string] -/
def L27 : LCode :=
 (.seq
 (.ops [⟨some 2, .assign (Operand.const (Value.slice none 0 0)), none, 0⟩])
 (.seq
 (.seq
 (.ops [⟨some 6, .move (Operand.tmp 0), none, 0⟩,
 ⟨some 7, .call ⟨(Callee.builtin Builtin.len), [(Operand.tmp 6)].toArray, #[22]⟩, none, 0⟩,
 ⟨some 8, .binOp BinOp.lss 3 (Operand.tmp 7) (Operand.const (Value.int IntKind.i64 2)) 3, none, 0⟩])
 (.cond (Operand.tmp 8)
 (.seq
 (.ops [⟨some 9, .move (Operand.tmp 0), none, 0⟩,
 ⟨some 2, .assign (Operand.tmp 9), none, 0⟩])
 .ret)
 .skip))
 (.seq
 (.seq
 (.ops [⟨some 3, .assign (Operand.const (Value.int IntKind.i64 1)), none, 0⟩])
 (.block 0
 (.loop
 (.seq
 (.seq
 (.ops [⟨some 10, .move (Operand.tmp 3), none, 0⟩,
 ⟨some 11, .move (Operand.tmp 0), none, 0⟩,
 ⟨some 12, .call ⟨(Callee.builtin Builtin.len), [(Operand.tmp 11)].toArray, #[22]⟩, none, 0⟩,
 ⟨some 13, .binOp BinOp.lss 3 (Operand.tmp 10) (Operand.tmp 12) 3, none, 0⟩])
 (.cond (Operand.tmp 13)
 .skip
 (.exit 0)))
 (.seq
 (.block 1
 (.seq
 (.draw [⟨some 16, .move (Operand.tmp 0), none, 0⟩,
 ⟨some 17, .move (Operand.tmp 3), none, 0⟩,
 ⟨some 18, .indexAddr 22 (Operand.tmp 16) (Operand.tmp 17), none, 0⟩,
 ⟨some 19, .load 9 (Operand.tmp 18), none, 0⟩,
 ⟨some 20, .move (Operand.tmp 0), none, 0⟩,
 ⟨some 21, .move (Operand.tmp 3), none, 0⟩,
 ⟨some 22, .binOp BinOp.sub 3 (Operand.tmp 21) (Operand.const (Value.int IntKind.i64 1)) 3, none, 0⟩,
 ⟨some 23, .indexAddr 22 (Operand.tmp 20) (Operand.tmp 22), none, 0⟩,
 ⟨some 24, .load 9 (Operand.tmp 23), none, 0⟩,
 ⟨some 25, .binOp BinOp.eql 9 (Operand.tmp 19) (Operand.tmp 24) 9, none, 0⟩] true [9] [0, 1, 2, 4, 5, 6, 7, 3, 8, 9])
 (.cond (Operand.tmp 25)
 (.seq
 (.ops [⟨some 26, .move (Operand.tmp 0), none, 0⟩,
 ⟨some 27, .move (Operand.tmp 3), none, 0⟩,
 ⟨some 28, .slice 22 (Operand.tmp 26) (some (Operand.tmp 27)) none none, none, 0⟩,
 ⟨some 4, .assign (Operand.tmp 28), none, 0⟩])
 (.seq
 (.seq
 (.ops [⟨some 5, .assign (Operand.const (Value.int IntKind.i64 1)), none, 0⟩])
 (.block 2
 (.loop
 (.seq
 (.seq
 (.ops [⟨some 29, .move (Operand.tmp 5), none, 0⟩,
 ⟨some 30, .move (Operand.tmp 4), none, 0⟩,
 ⟨some 31, .call ⟨(Callee.builtin Builtin.len), [(Operand.tmp 30)].toArray, #[22]⟩, none, 0⟩,
 ⟨some 32, .binOp BinOp.lss 3 (Operand.tmp 29) (Operand.tmp 31) 3, none, 0⟩])
 (.cond (Operand.tmp 32)
 .skip
 (.exit 2)))
 (.seq
 (.block 3
 (.seq
 (.draw [⟨some 35, .move (Operand.tmp 4), none, 0⟩,
 ⟨some 36, .move (Operand.tmp 5), none, 0⟩,
 ⟨some 37, .indexAddr 22 (Operand.tmp 35) (Operand.tmp 36), none, 0⟩,
 ⟨some 38, .load 9 (Operand.tmp 37), none, 0⟩,
 ⟨some 39, .move (Operand.tmp 4), none, 0⟩,
 ⟨some 40, .move (Operand.tmp 5), none, 0⟩,
 ⟨some 41, .binOp BinOp.sub 3 (Operand.tmp 40) (Operand.const (Value.int IntKind.i64 1)) 3, none, 0⟩,
 ⟨some 42, .indexAddr 22 (Operand.tmp 39) (Operand.tmp 41), none, 0⟩,
 ⟨some 43, .load 9 (Operand.tmp 42), none, 0⟩,
 ⟨some 44, .binOp BinOp.neq 9 (Operand.tmp 38) (Operand.tmp 43) 9, none, 0⟩] true [9] [0, 1, 2, 4, 5, 6, 7, 3, 8, 9])
 (.cond (Operand.tmp 44)
 (.seq
 (.ops [⟨some 45, .move (Operand.tmp 0), none, 0⟩,
 ⟨some 46, .move (Operand.tmp 3), none, 0⟩,
 ⟨some 47, .move (Operand.tmp 4), none, 0⟩,
 ⟨some 48, .move (Operand.tmp 5), none, 0⟩,
 ⟨some 49, .indexAddr 22 (Operand.tmp 47) (Operand.tmp 48), none, 0⟩,
 ⟨some 50, .load 9 (Operand.tmp 49), none, 0⟩,
 ⟨some 51, .indexAddr 22 (Operand.tmp 45) (Operand.tmp 46), none, 0⟩,
 ⟨none, .store 9 (Operand.tmp 51) (Operand.tmp 50), none, 0⟩])
 (.ops [⟨some 52, .move (Operand.tmp 3), none, 0⟩,
 ⟨some 53, .binOp BinOp.add 3 (Operand.tmp 52) (Operand.const (Value.int IntKind.i64 1)) 3, none, 0⟩,
 ⟨some 3, .assign (Operand.tmp 53), none, 0⟩]))
 .skip)))
 (.ops [⟨some 33, .move (Operand.tmp 5), none, 0⟩,
 ⟨some 34, .binOp BinOp.add 3 (Operand.tmp 33) (Operand.const (Value.int IntKind.i64 1)) 3, none, 0⟩,
 ⟨some 5, .assign (Operand.tmp 34), none, 0⟩]))))))
 (.seq
 (.ops [⟨some 54, .move (Operand.tmp 0), none, 0⟩,
 ⟨some 55, .move (Operand.tmp 3), none, 0⟩,
 ⟨some 56, .slice 22 (Operand.tmp 54) (some (Operand.tmp 55)) none none, none, 0⟩,
 ⟨none, .call ⟨(Callee.builtin Builtin.clear), [(Operand.tmp 56)].toArray, #[22]⟩, none, 0⟩])
 (.seq
 (.ops [⟨some 57, .move (Operand.tmp 0), none, 0⟩,
 ⟨some 58, .move (Operand.tmp 3), none, 0⟩,
 ⟨some 59, .slice 22 (Operand.tmp 57) none (some (Operand.tmp 58)) none, none, 0⟩,
 ⟨some 2, .assign (Operand.tmp 59), none, 0⟩])
 .ret))))
 .skip)))
 (.ops [⟨some 14, .move (Operand.tmp 3), none, 0⟩,
 ⟨some 15, .binOp BinOp.add 3 (Operand.tmp 14) (Operand.const (Value.int IntKind.i64 1)) 3, none, 0⟩,
 ⟨some 3, .assign (Operand.tmp 15), none, 0⟩]))))))
 (.seq
 (.ops [⟨some 60, .move (Operand.tmp 0), none, 0⟩,
 ⟨some 2, .assign (Operand.tmp 60), none, 0⟩])
 .ret))))
abbrev R27 : List ResultVar := [ResultVar.tmp 2]
theorem ok27 : FnOK Try.prog 27 L27 R27 1 := ⟨_, _, Try.func27, rfl, by kernel_rfl, by kernel_rfl, by kernel_rfl, by kernel_rfl, Nat.le_of_ble_eq_true (by kernel_rfl), by kernel_rfl⟩

/-- ablaut/token.begins -/
def L33 : LCode :=
 (.seq
 (.ops [⟨some 2, .assign (Operand.const (Value.slice none 0 0)), none, 0⟩])
 (.seq
 (.ops [⟨some 3, .assign (Operand.const (Value.slice none 0 0)), none, 0⟩])
 (.seq
 (.seq
 (.ops [⟨some 8, .move (Operand.tmp 0), none, 0⟩,
 ⟨some 9, .call ⟨(Callee.builtin Builtin.len), [(Operand.tmp 8)].toArray, #[27]⟩, none, 0⟩,
 ⟨some 10, .move (Operand.const (Value.int IntKind.i64 0)), none, 0⟩])
 (.block 0
 (.loop
 (.seq
 (.ops [⟨some 11, .binOp BinOp.lss 3 (Operand.tmp 10) (Operand.tmp 9) 3, none, 0⟩])
 (.seq
 (.cond (Operand.tmp 11)
 .skip
 (.exit 0))
 (.seq
 (.block 1
 (.seq
 (.ops [⟨some 12, .move (Operand.tmp 10), none, 0⟩,
 ⟨some 13, .indexAddr 27 (Operand.tmp 8) (Operand.tmp 10), none, 0⟩,
 ⟨some 14, .load 35 (Operand.tmp 13), none, 0⟩,
 ⟨some 5, .alloc 35, none, 0⟩,
 ⟨some 4, .assign (Operand.tmp 12), none, 0⟩,
 ⟨none, .store 35 (Operand.tmp 5) (Operand.tmp 14), none, 0⟩])
 (.seq
 (.seq
 (.ops [⟨some 15, .move (Operand.tmp 4), none, 0⟩,
 ⟨some 16, .binOp BinOp.eql 3 (Operand.tmp 15) (Operand.const (Value.int IntKind.i64 0)) 3, none, 0⟩])
 (.cond (Operand.tmp 16)
 (.seq
 (.ops [⟨some 17, .move (Operand.tmp 3), none, 0⟩,
 ⟨some 18, .move (Operand.tmp 4), none, 0⟩,
 ⟨some 19, .buildSlice 40 1 [(0, (Operand.tmp 18))].toArray, none, 0⟩,
 ⟨some 20, .call ⟨(Callee.builtin Builtin.append), [(Operand.tmp 17), (Operand.tmp 19)].toArray, #[40, 40]⟩, none, 0⟩,
 ⟨some 3, .assign (Operand.tmp 20), none, 0⟩])
 (.exit 1))
 .skip))
 (.seq
 (.ops [⟨some 21, .move (Operand.tmp 4), none, 0⟩,
 ⟨some 22, .binOp BinOp.sub 3 (Operand.tmp 21) (Operand.const (Value.int IntKind.i64 1)) 3, none, 0⟩,
 ⟨some 6, .assign (Operand.tmp 22), none, 0⟩])
 (.seq
 (.block 2
 (.loop
 (.seq
 (.seq
 (.draw [⟨some 23, .move (Operand.tmp 6), none, 0⟩,
 ⟨some 24, .binOp BinOp.gtr 3 (Operand.tmp 23) (Operand.const (Value.int IntKind.i64 0)) 3, none, 0⟩,
 ⟨some 25, .move (Operand.tmp 24), none, 0⟩,
 ⟨some 26, .move (Operand.tmp 0), some (25, true), 0⟩,
 ⟨some 27, .move (Operand.tmp 6), some (25, true), 0⟩,
 ⟨some 28, .indexAddr 27 (Operand.tmp 26) (Operand.tmp 27), some (25, true), 0⟩,
 ⟨some 29, .load 35 (Operand.tmp 28), some (25, true), 0⟩,
 ⟨some 30, .call ⟨(Callee.value (Operand.func 51)), [(Operand.tmp 29), (Operand.const (Value.string ⟨#[34, 41, 39]⟩))].toArray, #[35, 9]⟩, some (25, true), 0⟩,
 ⟨some 31, .pick (Operand.tmp 25) (Operand.tmp 30) (Operand.const (Value.bool false)), none, 0⟩,
 ⟨some 32, .move (Operand.tmp 31), none, 0⟩,
 ⟨some 33, .move (Operand.tmp 0), some (32, true), 0⟩,
 ⟨some 34, .move (Operand.tmp 6), some (32, true), 0⟩,
 ⟨some 35, .binOp BinOp.sub 3 (Operand.tmp 34) (Operand.const (Value.int IntKind.i64 1)) 3, some (32, true), 0⟩,
 ⟨some 36, .indexAddr 27 (Operand.tmp 33) (Operand.tmp 35), some (32, true), 0⟩,
 ⟨some 37, .fieldAddr 35 (Operand.tmp 36) 1, some (32, true), 0⟩,
 ⟨some 38, .load 3 (Operand.tmp 37), some (32, true), 0⟩,
 ⟨some 39, .move (Operand.tmp 0), some (32, true), 0⟩,
 ⟨some 40, .move (Operand.tmp 6), some (32, true), 0⟩,
 ⟨some 41, .indexAddr 27 (Operand.tmp 39) (Operand.tmp 40), some (32, true), 0⟩,
 ⟨some 42, .fieldAddr 35 (Operand.tmp 41) 0, some (32, true), 0⟩,
 ⟨some 43, .load 3 (Operand.tmp 42), some (32, true), 0⟩,
 ⟨some 44, .binOp BinOp.eql 3 (Operand.tmp 38) (Operand.tmp 43) 3, some (32, true), 0⟩,
 ⟨some 45, .pick (Operand.tmp 32) (Operand.tmp 44) (Operand.const (Value.bool false)), none, 0⟩] true [21, 22] [0, 1, 2, 3, 4, 5, 6, 7, 8, 9, 10, 11, 12, 13, 14, 15, 16, 17, 18, 19, 20, 21, 22])
 (.cond (Operand.tmp 45)
 .skip
 (.exit 2)))
 (.block 3
 (.ops [⟨some 46, .move (Operand.tmp 6), none, 0⟩,
 ⟨some 47, .binOp BinOp.sub 3 (Operand.tmp 46) (Operand.const (Value.int IntKind.i64 1)) 3, none, 0⟩,
 ⟨some 6, .assign (Operand.tmp 47), none, 0⟩])))))
 (.seq
 (.ops [⟨some 48, .load 35 (Operand.tmp 5), none, 0⟩,
 ⟨some 49, .call ⟨(Callee.value (Operand.func 52)), [(Operand.tmp 48)].toArray, #[35]⟩, none, 0⟩,
 ⟨some 50, .move (Operand.tmp 49), none, 0⟩,
 ⟨some 51, .fieldAddr 35 (Operand.tmp 5) 3, some (50, true), 0⟩,
 ⟨some 52, .load 9 (Operand.tmp 51), some (50, true), 0⟩,
 ⟨some 53, .index 9 (Operand.tmp 52) (Operand.const (Value.int IntKind.i64 0)), some (50, true), 0⟩,
 ⟨some 54, .call ⟨(Callee.value (Operand.func 45)), [(Operand.tmp 53)].toArray, #[5]⟩, some (50, true), 0⟩,
 ⟨some 55, .pick (Operand.tmp 50) (Operand.tmp 54) (Operand.const (Value.bool false)), none, 0⟩,
 ⟨some 7, .assign (Operand.tmp 55), none, 0⟩])
 (.seq
 (.draw [⟨some 56, .move (Operand.tmp 0), none, 0⟩,
 ⟨some 57, .move (Operand.tmp 6), none, 0⟩,
 ⟨some 58, .indexAddr 27 (Operand.tmp 56) (Operand.tmp 57), none, 0⟩,
 ⟨some 59, .load 35 (Operand.tmp 58), none, 0⟩,
 ⟨some 60, .call ⟨(Callee.value (Operand.func 51)), [(Operand.tmp 59), (Operand.const (Value.string ⟨#[46, 33, 63]⟩))].toArray, #[35, 9]⟩, none, 0⟩,
 ⟨some 61, .move (Operand.tmp 60), none, 0⟩,
 ⟨some 62, .move (Operand.tmp 0), some (61, true), 0⟩,
 ⟨some 63, .move (Operand.tmp 4), some (61, true), 0⟩,
 ⟨some 64, .binOp BinOp.sub 3 (Operand.tmp 63) (Operand.const (Value.int IntKind.i64 1)) 3, some (61, true), 0⟩,
 ⟨some 65, .indexAddr 27 (Operand.tmp 62) (Operand.tmp 64), some (61, true), 0⟩,
 ⟨some 66, .fieldAddr 35 (Operand.tmp 65) 1, some (61, true), 0⟩,
 ⟨some 67, .load 3 (Operand.tmp 66), some (61, true), 0⟩,
 ⟨some 68, .fieldAddr 35 (Operand.tmp 5) 0, some (61, true), 0⟩,
 ⟨some 69, .load 3 (Operand.tmp 68), some (61, true), 0⟩,
 ⟨some 70, .binOp BinOp.lss 3 (Operand.tmp 67) (Operand.tmp 69) 3, some (61, true), 0⟩,
 ⟨some 71, .pick (Operand.tmp 61) (Operand.tmp 70) (Operand.const (Value.bool false)), none, 0⟩,
 ⟨some 72, .move (Operand.tmp 71), none, 0⟩,
 ⟨some 73, .move (Operand.tmp 7), some (72, true), 0⟩,
 ⟨some 74, .unOp UnOp.not 4 (Operand.tmp 73), some (72, true), 0⟩,
 ⟨some 75, .pick (Operand.tmp 72) (Operand.tmp 74) (Operand.const (Value.bool false)), none, 0⟩] true [14, 15, 16, 17, 18, 19] [0, 1, 2, 3, 4, 5, 6, 7, 8, 9, 10, 11, 12, 13, 14, 15, 16, 17, 18, 19])
 (.cond (Operand.tmp 75)
 (.ops [⟨some 76, .move (Operand.tmp 3), none, 0⟩,
 ⟨some 77, .move (Operand.tmp 4), none, 0⟩,
 ⟨some 78, .buildSlice 40 1 [(0, (Operand.tmp 77))].toArray, none, 0⟩,
 ⟨some 79, .call ⟨(Callee.builtin Builtin.append), [(Operand.tmp 76), (Operand.tmp 78)].toArray, #[40, 40]⟩, none, 0⟩,
 ⟨some 3, .assign (Operand.tmp 79), none, 0⟩])
 .skip))))))))
 (.ops [⟨some 80, .binOp BinOp.add 3 (Operand.tmp 10) (Operand.const (Value.int IntKind.i64 1)) 3, none, 0⟩,
 ⟨some 10, .move (Operand.tmp 80), none, 0⟩])))))))
 (.seq
 (.ops [⟨some 81, .move (Operand.tmp 3), none, 0⟩,
 ⟨some 2, .assign (Operand.tmp 81), none, 0⟩])
 .ret))))
abbrev R33 : List ResultVar := [ResultVar.tmp 2]
theorem ok33 : FnOK Try.prog 33 L33 R33 1 := ⟨_, _, Try.func33, rfl, by kernel_rfl, by kernel_rfl, by kernel_rfl, by kernel_rfl, Nat.le_of_ble_eq_true (by kernel_rfl), by kernel_rfl⟩

/-- ablaut/token.edge -/
def L34 : LCode :=
 (.seq
 (.ops [⟨some 6, .assign (Operand.const (Value.int IntKind.i64 0)), none, 0⟩])
 (.seq
 (.ops [⟨some 7, .assign (Operand.const (Value.int IntKind.i64 0)), none, 0⟩])
 (.seq
 (.seq
 (.ops [⟨some 10, .move (Operand.tmp 0), none, 0⟩,
 ⟨some 11, .call ⟨(Callee.builtin Builtin.len), [(Operand.tmp 10)].toArray, #[22]⟩, none, 0⟩,
 ⟨some 12, .move (Operand.const (Value.int IntKind.i64 0)), none, 0⟩])
 (.block 0
 (.loop
 (.seq
 (.ops [⟨some 13, .binOp BinOp.lss 3 (Operand.tmp 12) (Operand.tmp 11) 3, none, 0⟩])
 (.seq
 (.cond (Operand.tmp 13)
 .skip
 (.exit 0))
 (.seq
 (.block 1
 (.seq
 (.ops [⟨some 14, .indexAddr 22 (Operand.tmp 10) (Operand.tmp 12), none, 0⟩,
 ⟨some 15, .load 9 (Operand.tmp 14), none, 0⟩,
 ⟨some 9, .assign (Operand.tmp 15), none, 0⟩])
 (.seq
 (.ops [⟨some 16, .move (Operand.tmp 9), none, 0⟩,
 ⟨some 17, .call ⟨(Callee.builtin Builtin.len), [(Operand.tmp 16)].toArray, #[9]⟩, none, 0⟩,
 ⟨some 18, .move (Operand.tmp 7), none, 0⟩,
 ⟨some 19, .binOp BinOp.gtr 3 (Operand.tmp 17) (Operand.tmp 18) 3, none, 0⟩,
 ⟨some 20, .move (Operand.tmp 19), none, 0⟩,
 ⟨some 21, .move (Operand.tmp 9), some (20, true), 0⟩,
 ⟨some 22, .call ⟨(Callee.builtin Builtin.len), [(Operand.tmp 21)].toArray, #[9]⟩, some (20, true), 0⟩,
 ⟨some 23, .move (Operand.tmp 1), some (20, true), 0⟩,
 ⟨some 24, .call ⟨(Callee.builtin Builtin.len), [(Operand.tmp 23)].toArray, #[9]⟩, some (20, true), 0⟩,
 ⟨some 25, .binOp BinOp.lss 3 (Operand.tmp 22) (Operand.tmp 24) 3, some (20, true), 0⟩,
 ⟨some 26, .pick (Operand.tmp 20) (Operand.tmp 25) (Operand.const (Value.bool false)), none, 0⟩,
 ⟨some 27, .move (Operand.tmp 26), none, 0⟩,
 ⟨some 28, .move (Operand.tmp 2), some (27, true), 0⟩,
 ⟨some 29, .move (Operand.tmp 1), some (27, true), 0⟩,
 ⟨some 30, .move (Operand.tmp 9), some (27, true), 0⟩,
 ⟨some 31, .call ⟨(Callee.value (Operand.tmp 28)), [(Operand.tmp 29), (Operand.tmp 30)].toArray, #[9, 9]⟩, some (27, true), 0⟩,
 ⟨some 32, .pick (Operand.tmp 27) (Operand.tmp 31) (Operand.const (Value.bool false)), none, 0⟩])
 (.cond (Operand.tmp 32)
 (.ops [⟨some 33, .move (Operand.tmp 9), none, 0⟩,
 ⟨some 34, .call ⟨(Callee.builtin Builtin.len), [(Operand.tmp 33)].toArray, #[9]⟩, none, 0⟩,
 ⟨some 7, .assign (Operand.tmp 34), none, 0⟩])
 .skip))))
 (.ops [⟨some 35, .binOp BinOp.add 3 (Operand.tmp 12) (Operand.const (Value.int IntKind.i64 1)) 3, none, 0⟩,
 ⟨some 12, .move (Operand.tmp 35), none, 0⟩])))))))
 (.seq
 (.ops [⟨some 36, .move (Operand.tmp 7), none, 0⟩,
 ⟨some 6, .assign (Operand.tmp 36), none, 0⟩])
 .ret))))
abbrev R34 : List ResultVar := [ResultVar.tmp 6]
theorem ok34 : FnOK Try.prog 34 L34 R34 3 := ⟨_, _, Try.func34, rfl, by kernel_rfl, by kernel_rfl, by kernel_rfl, by kernel_rfl, Nat.le_of_ble_eq_true (by kernel_rfl), by kernel_rfl⟩

/-- ablaut/token.Lower -/
def L35 : LCode :=
 (.seq
 (.ops [⟨some 2, .assign (Operand.const (Value.string ⟨#[]⟩)), none, 0⟩])
 (.seq
 (.ops [⟨some 6, .move (Operand.tmp 0), none, 0⟩,
 ⟨some 7, .convert 9 67 (Operand.tmp 6), none, 0⟩,
 ⟨some 3, .assign (Operand.tmp 7), none, 0⟩])
 (.seq
 (.seq
 (.ops [⟨some 8, .move (Operand.tmp 3), none, 0⟩,
 ⟨some 9, .call ⟨(Callee.builtin Builtin.len), [(Operand.tmp 8)].toArray, #[67]⟩, none, 0⟩,
 ⟨some 10, .move (Operand.const (Value.int IntKind.i64 0)), none, 0⟩])
 (.block 0
 (.loop
 (.seq
 (.ops [⟨some 11, .binOp BinOp.lss 3 (Operand.tmp 10) (Operand.tmp 9) 3, none, 0⟩])
 (.seq
 (.cond (Operand.tmp 11)
 .skip
 (.exit 0))
 (.seq
 (.block 1
 (.seq
 (.ops [⟨some 12, .move (Operand.tmp 10), none, 0⟩,
 ⟨some 13, .indexAddr 67 (Operand.tmp 8) (Operand.tmp 10), none, 0⟩,
 ⟨some 14, .load 5 (Operand.tmp 13), none, 0⟩,
 ⟨some 4, .assign (Operand.tmp 12), none, 0⟩,
 ⟨some 5, .assign (Operand.tmp 14), none, 0⟩])
 (.seq
 (.ops [⟨some 15, .move (Operand.tmp 5), none, 0⟩,
 ⟨some 16, .call ⟨(Callee.value (Operand.func 53)), [(Operand.tmp 15)].toArray, #[5]⟩, none, 0⟩])
 (.cond (Operand.tmp 16)
 (.ops [⟨some 17, .move (Operand.tmp 3), none, 0⟩,
 ⟨some 18, .move (Operand.tmp 4), none, 0⟩,
 ⟨some 19, .move (Operand.tmp 5), none, 0⟩,
 ⟨some 20, .binOp BinOp.add 5 (Operand.tmp 19) (Operand.const (Value.int IntKind.u8 32)) 5, none, 0⟩,
 ⟨some 21, .indexAddr 67 (Operand.tmp 17) (Operand.tmp 18), none, 0⟩,
 ⟨none, .store 5 (Operand.tmp 21) (Operand.tmp 20), none, 0⟩])
 .skip))))
 (.ops [⟨some 22, .binOp BinOp.add 3 (Operand.tmp 10) (Operand.const (Value.int IntKind.i64 1)) 3, none, 0⟩,
 ⟨some 10, .move (Operand.tmp 22), none, 0⟩])))))))
 (.seq
 (.ops [⟨some 23, .move (Operand.tmp 3), none, 0⟩,
 ⟨some 24, .convert 67 9 (Operand.tmp 23), none, 0⟩,
 ⟨some 2, .assign (Operand.tmp 24), none, 0⟩])
 .ret))))
abbrev R35 : List ResultVar := [ResultVar.tmp 2]
theorem ok35 : FnOK Try.prog 35 L35 R35 1 := ⟨_, _, Try.func35, rfl, by kernel_rfl, by kernel_rfl, by kernel_rfl, by kernel_rfl, Nat.le_of_ble_eq_true (by kernel_rfl), by kernel_rfl⟩

/-- strings.HasPrefix -/
def L36 : LCode :=
 (.seq
 (.ops [⟨some 4, .assign (Operand.const (Value.bool false)), none, 0⟩])
 (.seq
 (.ops [⟨some 5, .move (Operand.tmp 0), none, 0⟩,
 ⟨some 6, .move (Operand.tmp 1), none, 0⟩,
 ⟨some 7, .call ⟨(Callee.value (Operand.func 54)), [(Operand.tmp 5), (Operand.tmp 6)].toArray, #[9, 9]⟩, none, 0⟩,
 ⟨some 4, .assign (Operand.tmp 7), none, 0⟩])
 .ret))
abbrev R36 : List ResultVar := [ResultVar.tmp 4]
theorem ok36 : FnOK Try.prog 36 L36 R36 2 := ⟨_, _, Try.func36, rfl, by kernel_rfl, by kernel_rfl, by kernel_rfl, by kernel_rfl, Nat.le_of_ble_eq_true (by kernel_rfl), by kernel_rfl⟩

/-- strings.HasSuffix -/
def L37 : LCode :=
 (.seq
 (.ops [⟨some 4, .assign (Operand.const (Value.bool false)), none, 0⟩])
 (.seq
 (.ops [⟨some 5, .move (Operand.tmp 0), none, 0⟩,
 ⟨some 6, .move (Operand.tmp 1), none, 0⟩,
 ⟨some 7, .call ⟨(Callee.value (Operand.func 55)), [(Operand.tmp 5), (Operand.tmp 6)].toArray, #[9, 9]⟩, none, 0⟩,
 ⟨some 4, .assign (Operand.tmp 7), none, 0⟩])
 .ret))
abbrev R37 : List ResultVar := [ResultVar.tmp 4]
theorem ok37 : FnOK Try.prog 37 L37 R37 2 := ⟨_, _, Try.func37, rfl, by kernel_rfl, by kernel_rfl, by kernel_rfl, by kernel_rfl, Nat.le_of_ble_eq_true (by kernel_rfl), by kernel_rfl⟩

/-- slices.Reverse[[]ablaut/api.Token,ablaut/api.Token] -/
def L38 : LCode :=
 (.seq
 (.ops [⟨some 4, .move (Operand.tmp 0), none, 0⟩,
 ⟨some 5, .call ⟨(Callee.builtin Builtin.len), [(Operand.tmp 4)].toArray, #[27]⟩, none, 0⟩,
 ⟨some 6, .binOp BinOp.sub 3 (Operand.tmp 5) (Operand.const (Value.int IntKind.i64 1)) 3, none, 0⟩,
 ⟨some 2, .assign (Operand.const (Value.int IntKind.i64 0)), none, 0⟩,
 ⟨some 3, .assign (Operand.tmp 6), none, 0⟩])
 (.block 0
 (.loop
 (.seq
 (.seq
 (.ops [⟨some 7, .move (Operand.tmp 2), none, 0⟩,
 ⟨some 8, .move (Operand.tmp 3), none, 0⟩,
 ⟨some 9, .binOp BinOp.lss 3 (Operand.tmp 7) (Operand.tmp 8) 3, none, 0⟩])
 (.cond (Operand.tmp 9)
 .skip
 (.exit 0)))
 (.seq
 (.block 1
 (.draw [⟨some 14, .move (Operand.tmp 0), none, 0⟩,
 ⟨some 15, .move (Operand.tmp 2), none, 0⟩,
 ⟨some 16, .move (Operand.tmp 0), none, 0⟩,
 ⟨some 17, .move (Operand.tmp 3), none, 0⟩,
 ⟨some 18, .move (Operand.tmp 0), none, 0⟩,
 ⟨some 19, .move (Operand.tmp 3), none, 0⟩,
 ⟨some 20, .indexAddr 27 (Operand.tmp 18) (Operand.tmp 19), none, 0⟩,
 ⟨some 21, .load 35 (Operand.tmp 20), none, 0⟩,
 ⟨some 22, .move (Operand.tmp 0), none, 0⟩,
 ⟨some 23, .move (Operand.tmp 2), none, 0⟩,
 ⟨some 24, .indexAddr 27 (Operand.tmp 22) (Operand.tmp 23), none, 0⟩,
 ⟨some 25, .load 35 (Operand.tmp 24), none, 0⟩,
 ⟨some 26, .indexAddr 27 (Operand.tmp 14) (Operand.tmp 15), none, 0⟩,
 ⟨none, .store 35 (Operand.tmp 26) (Operand.tmp 21), none, 0⟩,
 ⟨some 27, .indexAddr 27 (Operand.tmp 16) (Operand.tmp 17), none, 0⟩,
 ⟨none, .store 35 (Operand.tmp 27) (Operand.tmp 25), none, 0⟩] true [14, 15] [0, 1, 2, 3, 4, 5, 6, 8, 9, 10, 7, 11, 12, 13, 14, 15]))
 (.ops [⟨some 10, .move (Operand.tmp 2), none, 0⟩,
 ⟨some 11, .binOp BinOp.add 3 (Operand.tmp 10) (Operand.const (Value.int IntKind.i64 1)) 3, none, 0⟩,
 ⟨some 12, .move (Operand.tmp 3), none, 0⟩,
 ⟨some 13, .binOp BinOp.sub 3 (Operand.tmp 12) (Operand.const (Value.int IntKind.i64 1)) 3, none, 0⟩,
 ⟨some 2, .assign (Operand.tmp 11), none, 0⟩,
 ⟨some 3, .assign (Operand.tmp 13), none, 0⟩]))))))
abbrev R38 : List ResultVar := []
theorem ok38 : FnOK Try.prog 38 L38 R38 1 := ⟨_, _, Try.func38, rfl, by kernel_rfl, by kernel_rfl, by kernel_rfl, by kernel_rfl, Nat.le_of_ble_eq_true (by kernel_rfl), by kernel_rfl⟩

/-- slices.IndexFunc[[]string,string] -/
def L44 : LCode :=
 (.seq
 (.ops [⟨some 4, .assign (Operand.const (Value.int IntKind.i64 0)), none, 0⟩])
 (.seq
 (.seq
 (.ops [⟨some 6, .move (Operand.tmp 0), none, 0⟩,
 ⟨some 7, .call ⟨(Callee.builtin Builtin.len), [(Operand.tmp 6)].toArray, #[22]⟩, none, 0⟩,
 ⟨some 8, .move (Operand.const (Value.int IntKind.i64 0)), none, 0⟩])
 (.block 0
 (.loop
 (.seq
 (.ops [⟨some 9, .binOp BinOp.lss 3 (Operand.tmp 8) (Operand.tmp 7) 3, none, 0⟩])
 (.seq
 (.cond (Operand.tmp 9)
 .skip
 (.exit 0))
 (.seq
 (.block 1
 (.seq
 (.ops [⟨some 10, .move (Operand.tmp 8), none, 0⟩,
 ⟨some 5, .assign (Operand.tmp 10), none, 0⟩])
 (.seq
 (.ops [⟨some 11, .move (Operand.tmp 1), none, 0⟩,
 ⟨some 12, .move (Operand.tmp 0), none, 0⟩,
 ⟨some 13, .move (Operand.tmp 5), none, 0⟩,
 ⟨some 14, .indexAddr 22 (Operand.tmp 12) (Operand.tmp 13), none, 0⟩,
 ⟨some 15, .load 9 (Operand.tmp 14), none, 0⟩,
 ⟨some 16, .call ⟨(Callee.value (Operand.tmp 11)), [(Operand.tmp 15)].toArray, #[9]⟩, none, 0⟩])
 (.cond (Operand.tmp 16)
 (.seq
 (.ops [⟨some 17, .move (Operand.tmp 5), none, 0⟩,
 ⟨some 4, .assign (Operand.tmp 17), none, 0⟩])
 .ret)
 .skip))))
 (.ops [⟨some 18, .binOp BinOp.add 3 (Operand.tmp 8) (Operand.const (Value.int IntKind.i64 1)) 3, none, 0⟩,
 ⟨some 8, .move (Operand.tmp 18), none, 0⟩])))))))
 (.seq
 (.ops [⟨some 4, .assign (Operand.const (Value.int IntKind.i64 (-1))), none, 0⟩])
 .ret)))
abbrev R44 : List ResultVar := [ResultVar.tmp 4]
theorem ok44 : FnOK Try.prog 44 L44 R44 2 := ⟨_, _, Try.func44, rfl, by kernel_rfl, by kernel_rfl, by kernel_rfl, by kernel_rfl, Nat.le_of_ble_eq_true (by kernel_rfl), by kernel_rfl⟩

/-- ablaut/token.isSmall -/
def L45 : LCode :=
 (.seq
 (.ops [⟨some 2, .assign (Operand.const (Value.bool false)), none, 0⟩])
 (.seq
 (.ops [⟨some 3, .move (Operand.tmp 0), none, 0⟩,
 ⟨some 4, .binOp BinOp.geq 5 (Operand.tmp 3) (Operand.const (Value.int IntKind.u8 97)) 5, none, 0⟩,
 ⟨some 5, .move (Operand.tmp 4), none, 0⟩,
 ⟨some 6, .move (Operand.tmp 0), some (5, true), 0⟩,
 ⟨some 7, .binOp BinOp.leq 5 (Operand.tmp 6) (Operand.const (Value.int IntKind.u8 122)) 5, some (5, true), 0⟩,
 ⟨some 8, .pick (Operand.tmp 5) (Operand.tmp 7) (Operand.const (Value.bool false)), none, 0⟩,
 ⟨some 2, .assign (Operand.tmp 8), none, 0⟩])
 .ret))
abbrev R45 : List ResultVar := [ResultVar.tmp 2]
theorem ok45 : FnOK Try.prog 45 L45 R45 1 := ⟨_, _, Try.func45, rfl, by kernel_rfl, by kernel_rfl, by kernel_rfl, by kernel_rfl, Nat.le_of_ble_eq_true (by kernel_rfl), by kernel_rfl⟩

/-- ablaut/token.isSign -/
def L51 : LCode :=
 (.seq
 (.ops [⟨some 2, .box 35 (Operand.tmp 0), none, 0⟩,
 ⟨some 4, .assign (Operand.const (Value.bool false)), none, 0⟩])
 (.seq
 (.ops [⟨some 5, .fieldAddr 35 (Operand.tmp 2) 2, none, 0⟩,
 ⟨some 6, .load 3 (Operand.tmp 5), none, 0⟩,
 ⟨some 7, .binOp BinOp.eql 3 (Operand.tmp 6) (Operand.const (Value.int IntKind.i64 2)) 3, none, 0⟩,
 ⟨some 8, .move (Operand.tmp 7), none, 0⟩,
 ⟨some 9, .move (Operand.tmp 1), some (8, true), 0⟩,
 ⟨some 10, .fieldAddr 35 (Operand.tmp 2) 3, some (8, true), 0⟩,
 ⟨some 11, .load 9 (Operand.tmp 10), some (8, true), 0⟩,
 ⟨some 12, .call ⟨(Callee.value (Operand.func 66)), [(Operand.tmp 9), (Operand.tmp 11)].toArray, #[9, 9]⟩, some (8, true), 0⟩,
 ⟨some 13, .pick (Operand.tmp 8) (Operand.tmp 12) (Operand.const (Value.bool false)), none, 0⟩,
 ⟨some 4, .assign (Operand.tmp 13), none, 0⟩])
 .ret))
abbrev R51 : List ResultVar := [ResultVar.tmp 4]
theorem ok51 : FnOK Try.prog 51 L51 R51 2 := ⟨_, _, Try.func51, rfl, by kernel_rfl, by kernel_rfl, by kernel_rfl, by kernel_rfl, Nat.le_of_ble_eq_true (by kernel_rfl), by kernel_rfl⟩

/-- ablaut/token.isText -/
def L52 : LCode :=
 (.seq
 (.ops [⟨some 1, .box 35 (Operand.tmp 0), none, 0⟩,
 ⟨some 2, .assign (Operand.const (Value.bool false)), none, 0⟩])
 (.seq
 (.ops [⟨some 3, .fieldAddr 35 (Operand.tmp 1) 2, none, 0⟩,
 ⟨some 4, .load 3 (Operand.tmp 3), none, 0⟩,
 ⟨some 5, .binOp BinOp.eql 3 (Operand.tmp 4) (Operand.const (Value.int IntKind.i64 0)) 3, none, 0⟩,
 ⟨some 6, .move (Operand.tmp 5), none, 0⟩,
 ⟨some 7, .fieldAddr 35 (Operand.tmp 1) 2, some (6, false), 0⟩,
 ⟨some 8, .load 3 (Operand.tmp 7), some (6, false), 0⟩,
 ⟨some 9, .binOp BinOp.eql 3 (Operand.tmp 8) (Operand.const (Value.int IntKind.i64 3)) 3, some (6, false), 0⟩,
 ⟨some 10, .pick (Operand.tmp 6) (Operand.const (Value.bool true)) (Operand.tmp 9), none, 0⟩,
 ⟨some 11, .move (Operand.tmp 10), none, 0⟩,
 ⟨some 12, .fieldAddr 35 (Operand.tmp 1) 2, some (11, false), 0⟩,
 ⟨some 13, .load 3 (Operand.tmp 12), some (11, false), 0⟩,
 ⟨some 14, .binOp BinOp.eql 3 (Operand.tmp 13) (Operand.const (Value.int IntKind.i64 4)) 3, some (11, false), 0⟩,
 ⟨some 15, .pick (Operand.tmp 11) (Operand.const (Value.bool true)) (Operand.tmp 14), none, 0⟩,
 ⟨some 2, .assign (Operand.tmp 15), none, 0⟩])
 .ret))
abbrev R52 : List ResultVar := [ResultVar.tmp 2]
theorem ok52 : FnOK Try.prog 52 L52 R52 1 := ⟨_, _, Try.func52, rfl, by kernel_rfl, by kernel_rfl, by kernel_rfl, by kernel_rfl, Nat.le_of_ble_eq_true (by kernel_rfl), by kernel_rfl⟩

/-- ablaut/token.isBig -/
def L53 : LCode :=
 (.seq
 (.ops [⟨some 2, .assign (Operand.const (Value.bool false)), none, 0⟩])
 (.seq
 (.ops [⟨some 3, .move (Operand.tmp 0), none, 0⟩,
 ⟨some 4, .binOp BinOp.geq 5 (Operand.tmp 3) (Operand.const (Value.int IntKind.u8 65)) 5, none, 0⟩,
 ⟨some 5, .move (Operand.tmp 4), none, 0⟩,
 ⟨some 6, .move (Operand.tmp 0), some (5, true), 0⟩,
 ⟨some 7, .binOp BinOp.leq 5 (Operand.tmp 6) (Operand.const (Value.int IntKind.u8 90)) 5, some (5, true), 0⟩,
 ⟨some 8, .pick (Operand.tmp 5) (Operand.tmp 7) (Operand.const (Value.bool false)), none, 0⟩,
 ⟨some 2, .assign (Operand.tmp 8), none, 0⟩])
 .ret))
abbrev R53 : List ResultVar := [ResultVar.tmp 2]
theorem ok53 : FnOK Try.prog 53 L53 R53 1 := ⟨_, _, Try.func53, rfl, by kernel_rfl, by kernel_rfl, by kernel_rfl, by kernel_rfl, Nat.le_of_ble_eq_true (by kernel_rfl), by kernel_rfl⟩

/-- internal/stringslite.HasPrefix -/
def L54 : LCode :=
 (.seq
 (.ops [⟨some 4, .assign (Operand.const (Value.bool false)), none, 0⟩])
 (.seq
 (.ops [⟨some 5, .move (Operand.tmp 0), none, 0⟩,
 ⟨some 6, .call ⟨(Callee.builtin Builtin.len), [(Operand.tmp 5)].toArray, #[9]⟩, none, 0⟩,
 ⟨some 7, .move (Operand.tmp 1), none, 0⟩,
 ⟨some 8, .call ⟨(Callee.builtin Builtin.len), [(Operand.tmp 7)].toArray, #[9]⟩, none, 0⟩,
 ⟨some 9, .binOp BinOp.geq 3 (Operand.tmp 6) (Operand.tmp 8) 3, none, 0⟩,
 ⟨some 10, .move (Operand.tmp 9), none, 0⟩,
 ⟨some 11, .move (Operand.tmp 0), some (10, true), 0⟩,
 ⟨some 12, .move (Operand.tmp 1), some (10, true), 0⟩,
 ⟨some 13, .call ⟨(Callee.builtin Builtin.len), [(Operand.tmp 12)].toArray, #[9]⟩, some (10, true), 0⟩,
 ⟨some 14, .slice 9 (Operand.tmp 11) none (some (Operand.tmp 13)) none, some (10, true), 0⟩,
 ⟨some 15, .move (Operand.tmp 1), some (10, true), 0⟩,
 ⟨some 16, .binOp BinOp.eql 9 (Operand.tmp 14) (Operand.tmp 15) 9, some (10, true), 0⟩,
 ⟨some 17, .pick (Operand.tmp 10) (Operand.tmp 16) (Operand.const (Value.bool false)), none, 0⟩,
 ⟨some 4, .assign (Operand.tmp 17), none, 0⟩])
 .ret))
abbrev R54 : List ResultVar := [ResultVar.tmp 4]
theorem ok54 : FnOK Try.prog 54 L54 R54 2 := ⟨_, _, Try.func54, rfl, by kernel_rfl, by kernel_rfl, by kernel_rfl, by kernel_rfl, Nat.le_of_ble_eq_true (by kernel_rfl), by kernel_rfl⟩

/-- internal/stringslite.HasSuffix -/
def L55 : LCode :=
 (.seq
 (.ops [⟨some 4, .assign (Operand.const (Value.bool false)), none, 0⟩])
 (.seq
 (.ops [⟨some 5, .move (Operand.tmp 0), none, 0⟩,
 ⟨some 6, .call ⟨(Callee.builtin Builtin.len), [(Operand.tmp 5)].toArray, #[9]⟩, none, 0⟩,
 ⟨some 7, .move (Operand.tmp 1), none, 0⟩,
 ⟨some 8, .call ⟨(Callee.builtin Builtin.len), [(Operand.tmp 7)].toArray, #[9]⟩, none, 0⟩,
 ⟨some 9, .binOp BinOp.geq 3 (Operand.tmp 6) (Operand.tmp 8) 3, none, 0⟩,
 ⟨some 10, .move (Operand.tmp 9), none, 0⟩,
 ⟨some 11, .move (Operand.tmp 0), some (10, true), 0⟩,
 ⟨some 12, .move (Operand.tmp 0), some (10, true), 0⟩,
 ⟨some 13, .call ⟨(Callee.builtin Builtin.len), [(Operand.tmp 12)].toArray, #[9]⟩, some (10, true), 0⟩,
 ⟨some 14, .move (Operand.tmp 1), some (10, true), 0⟩,
 ⟨some 15, .call ⟨(Callee.builtin Builtin.len), [(Operand.tmp 14)].toArray, #[9]⟩, some (10, true), 0⟩,
 ⟨some 16, .binOp BinOp.sub 3 (Operand.tmp 13) (Operand.tmp 15) 3, some (10, true), 0⟩,
 ⟨some 17, .slice 9 (Operand.tmp 11) (some (Operand.tmp 16)) none none, some (10, true), 0⟩,
 ⟨some 18, .move (Operand.tmp 1), some (10, true), 0⟩,
 ⟨some 19, .binOp BinOp.eql 9 (Operand.tmp 17) (Operand.tmp 18) 9, some (10, true), 0⟩,
 ⟨some 20, .pick (Operand.tmp 10) (Operand.tmp 19) (Operand.const (Value.bool false)), none, 0⟩,
 ⟨some 4, .assign (Operand.tmp 20), none, 0⟩])
 .ret))
abbrev R55 : List ResultVar := [ResultVar.tmp 4]
theorem ok55 : FnOK Try.prog 55 L55 R55 2 := ⟨_, _, Try.func55, rfl, by kernel_rfl, by kernel_rfl, by kernel_rfl, by kernel_rfl, Nat.le_of_ble_eq_true (by kernel_rfl), by kernel_rfl⟩

end Go.Proofs.Ytapkbkniooleaaa.Vs
