/- The seat's functions as the engine Dm reads them, written by dgen.py. -/
import Derived.Test.YthchlpikcpidaaaDmFn
import Derived.Test.YthchlpikcpidaaaProg
import Derived.KernelRfl
namespace Go.Proofs.Ythchlpikcpidaaa.Vs
set_option linter.unusedVariables false
set_option maxRecDepth 100000
/-- gosem.cut.init -/
def L2 : LCode :=
 (.ops [⟨some 0, .call ⟨(Callee.value (Operand.func 1)), [].toArray, #[]⟩, none, 0⟩])
/-- ablaut/ablautlaw18.GuessBest -/
def L6 : LCode :=
 (.seq
 (.ops [⟨some 4, .assign (Operand.const (Value.bool false)), none, 0⟩])
 (.seq
 (.seq
 (.ops [⟨some 13, .move (Operand.tmp 0), none, 0⟩,
 ⟨some 14, .call ⟨(Callee.value (Operand.func 7)), [(Operand.tmp 13)].toArray, #[22]⟩, none, 0⟩,
 ⟨some 15, .move (Operand.tmp 14), none, 0⟩,
 ⟨some 16, .move (Operand.tmp 1), some (15, false), 0⟩,
 ⟨some 17, .call ⟨(Callee.value (Operand.func 8)), [(Operand.tmp 16)].toArray, #[46]⟩, some (15, false), 0⟩,
 ⟨some 18, .pick (Operand.tmp 15) (Operand.const (Value.bool true)) (Operand.tmp 17), none, 0⟩,
 ⟨some 19, .move (Operand.tmp 18), none, 0⟩,
 ⟨some 20, .move (Operand.tmp 1), some (19, false), 0⟩,
 ⟨some 21, .call ⟨(Callee.builtin Builtin.len), [(Operand.tmp 20)].toArray, #[46]⟩, some (19, false), 0⟩,
 ⟨some 22, .binOp BinOp.gtr 3 (Operand.tmp 21) (Operand.const (Value.int IntKind.i64 1000)) 3, some (19, false), 0⟩,
 ⟨some 23, .pick (Operand.tmp 19) (Operand.const (Value.bool true)) (Operand.tmp 22), none, 0⟩])
 (.cond (Operand.tmp 23)
 (.seq
 (.ops [⟨some 24, .call ⟨(Callee.value (Operand.func 9)), [].toArray, #[]⟩, none, 0⟩,
 ⟨some 4, .assign (Operand.tmp 24), none, 0⟩])
 .ret)
 .skip))
 (.seq
 (.ops [⟨some 26, .move (Operand.tmp 0), none, 0⟩,
 ⟨some 27, .call ⟨(Callee.value (Operand.func 10)), [(Operand.tmp 26)].toArray, #[22]⟩, none, 0⟩,
 ⟨some 25, .move (Operand.tmp 27), none, 0⟩,
 ⟨some 28, .extract (Operand.tmp 25) 0, none, 0⟩,
 ⟨some 29, .extract (Operand.tmp 25) 1, none, 0⟩,
 ⟨some 5, .assign (Operand.tmp 28), none, 0⟩,
 ⟨some 6, .assign (Operand.tmp 29), none, 0⟩])
 (.seq
 (.ops [⟨some 31, .move (Operand.tmp 0), none, 0⟩,
 ⟨some 32, .call ⟨(Callee.value (Operand.func 11)), [(Operand.tmp 31)].toArray, #[22]⟩, none, 0⟩,
 ⟨some 30, .move (Operand.tmp 32), none, 0⟩,
 ⟨some 33, .extract (Operand.tmp 30) 0, none, 0⟩,
 ⟨some 34, .extract (Operand.tmp 30) 1, none, 0⟩,
 ⟨some 7, .assign (Operand.tmp 33), none, 0⟩,
 ⟨some 8, .assign (Operand.tmp 34), none, 0⟩])
 (.seq
 (.ops [⟨some 36, .move (Operand.tmp 5), none, 0⟩,
 ⟨some 37, .move (Operand.tmp 1), none, 0⟩,
 ⟨some 38, .call ⟨(Callee.value (Operand.func 22)), [(Operand.tmp 36), (Operand.tmp 37)].toArray, #[27, 46]⟩, none, 0⟩,
 ⟨some 35, .move (Operand.tmp 38), none, 0⟩,
 ⟨some 39, .extract (Operand.tmp 35) 0, none, 0⟩,
 ⟨some 40, .extract (Operand.tmp 35) 1, none, 0⟩,
 ⟨some 9, .assign (Operand.tmp 39), none, 0⟩,
 ⟨some 10, .assign (Operand.tmp 40), none, 0⟩])
 (.seq
 (.ops [⟨some 42, .move (Operand.tmp 7), none, 0⟩,
 ⟨some 43, .move (Operand.tmp 1), none, 0⟩,
 ⟨some 44, .call ⟨(Callee.value (Operand.func 23)), [(Operand.tmp 42), (Operand.tmp 43)].toArray, #[31, 46]⟩, none, 0⟩,
 ⟨some 41, .move (Operand.tmp 44), none, 0⟩,
 ⟨some 45, .extract (Operand.tmp 41) 0, none, 0⟩,
 ⟨some 46, .extract (Operand.tmp 41) 1, none, 0⟩,
 ⟨some 11, .assign (Operand.tmp 45), none, 0⟩,
 ⟨some 12, .assign (Operand.tmp 46), none, 0⟩])
 (.seq
 (.ops [⟨some 47, .move (Operand.tmp 9), none, 0⟩,
 ⟨some 48, .move (Operand.tmp 11), none, 0⟩,
 ⟨some 49, .binOp BinOp.eql 3 (Operand.tmp 47) (Operand.tmp 48) 3, none, 0⟩,
 ⟨some 50, .move (Operand.tmp 49), none, 0⟩,
 ⟨some 51, .move (Operand.tmp 10), some (50, true), 0⟩,
 ⟨some 52, .move (Operand.tmp 12), some (50, true), 0⟩,
 ⟨some 53, .binOp BinOp.eql 28 (Operand.tmp 51) (Operand.tmp 52) 28, some (50, true), 0⟩,
 ⟨some 54, .pick (Operand.tmp 50) (Operand.tmp 53) (Operand.const (Value.bool false)), none, 0⟩,
 ⟨some 55, .move (Operand.tmp 54), none, 0⟩,
 ⟨some 56, .call ⟨(Callee.value (Operand.func 9)), [].toArray, #[]⟩, some (55, true), 0⟩,
 ⟨some 57, .pick (Operand.tmp 55) (Operand.tmp 56) (Operand.const (Value.bool false)), none, 0⟩,
 ⟨some 4, .assign (Operand.tmp 57), none, 0⟩])
 .ret)))))))
abbrev R6 : List ResultVar := [ResultVar.tmp 4]
theorem ok6 : FnOK Try.prog 6 L6 R6 2 := ⟨_, _, Try.func6, rfl, by kernel_rfl, by kernel_rfl, by kernel_rfl, by kernel_rfl, Nat.le_of_ble_eq_true (by kernel_rfl), by kernel_rfl⟩

/-- ablaut/ablautlaw18.over -/
def L7 : LCode :=
 (.seq
 (.ops [⟨some 2, .assign (Operand.const (Value.bool false)), none, 0⟩])
 (.seq
 (.seq
 (.ops [⟨some 5, .move (Operand.tmp 0), none, 0⟩,
 ⟨some 6, .call ⟨(Callee.builtin Builtin.len), [(Operand.tmp 5)].toArray, #[22]⟩, none, 0⟩,
 ⟨some 7, .binOp BinOp.gtr 3 (Operand.tmp 6) (Operand.const (Value.int IntKind.i64 4000)) 3, none, 0⟩])
 (.cond (Operand.tmp 7)
 (.seq
 (.ops [⟨some 2, .assign (Operand.const (Value.bool true)), none, 0⟩])
 .ret)
 .skip))
 (.seq
 (.ops [⟨some 3, .assign (Operand.const (Value.int IntKind.i64 0)), none, 0⟩])
 (.seq
 (.seq
 (.ops [⟨some 4, .assign (Operand.const (Value.int IntKind.i64 0)), none, 0⟩])
 (.block 0
 (.loop
 (.seq
 (.seq
 (.ops [⟨some 8, .move (Operand.tmp 4), none, 0⟩,
 ⟨some 9, .move (Operand.tmp 0), none, 0⟩,
 ⟨some 10, .call ⟨(Callee.builtin Builtin.len), [(Operand.tmp 9)].toArray, #[22]⟩, none, 0⟩,
 ⟨some 11, .binOp BinOp.lss 3 (Operand.tmp 8) (Operand.tmp 10) 3, none, 0⟩,
 ⟨some 12, .move (Operand.tmp 11), none, 0⟩,
 ⟨some 13, .move (Operand.tmp 3), some (12, true), 0⟩,
 ⟨some 14, .binOp BinOp.lss 3 (Operand.tmp 13) (Operand.const (Value.int IntKind.i64 16384)) 3, some (12, true), 0⟩,
 ⟨some 15, .pick (Operand.tmp 12) (Operand.tmp 14) (Operand.const (Value.bool false)), none, 0⟩])
 (.cond (Operand.tmp 15)
 .skip
 (.exit 0)))
 (.seq
 (.block 1
 (.seq
 (.seq
 (.ops [⟨some 18, .move (Operand.tmp 0), none, 0⟩,
 ⟨some 19, .move (Operand.tmp 4), none, 0⟩,
 ⟨some 20, .indexAddr 22 (Operand.tmp 18) (Operand.tmp 19), none, 0⟩,
 ⟨some 21, .fieldAddr 51 (Operand.tmp 20) 0, none, 0⟩,
 ⟨some 22, .load 23 (Operand.tmp 21), none, 0⟩,
 ⟨some 23, .buildSlice 46 1 [(0, (Operand.tmp 22))].toArray, none, 0⟩,
 ⟨some 24, .call ⟨(Callee.value (Operand.func 8)), [(Operand.tmp 23)].toArray, #[46]⟩, none, 0⟩])
 (.cond (Operand.tmp 24)
 (.seq
 (.ops [⟨some 2, .assign (Operand.const (Value.bool true)), none, 0⟩])
 .ret)
 .skip))
 (.draw [⟨some 25, .move (Operand.tmp 3), none, 0⟩,
 ⟨some 26, .move (Operand.tmp 0), none, 0⟩,
 ⟨some 27, .move (Operand.tmp 4), none, 0⟩,
 ⟨some 28, .indexAddr 22 (Operand.tmp 26) (Operand.tmp 27), none, 0⟩,
 ⟨some 29, .fieldAddr 51 (Operand.tmp 28) 0, none, 0⟩,
 ⟨some 30, .load 23 (Operand.tmp 29), none, 0⟩,
 ⟨some 31, .call ⟨(Callee.builtin Builtin.len), [(Operand.tmp 30)].toArray, #[23]⟩, none, 0⟩,
 ⟨some 32, .move (Operand.tmp 0), none, 0⟩,
 ⟨some 33, .move (Operand.tmp 4), none, 0⟩,
 ⟨some 34, .indexAddr 22 (Operand.tmp 32) (Operand.tmp 33), none, 0⟩,
 ⟨some 35, .fieldAddr 51 (Operand.tmp 34) 1, none, 0⟩,
 ⟨some 36, .load 9 (Operand.tmp 35), none, 0⟩,
 ⟨some 37, .call ⟨(Callee.builtin Builtin.len), [(Operand.tmp 36)].toArray, #[9]⟩, none, 0⟩,
 ⟨some 38, .binOp BinOp.add 3 (Operand.tmp 31) (Operand.tmp 37) 3, none, 0⟩,
 ⟨some 39, .binOp BinOp.add 3 (Operand.tmp 25) (Operand.tmp 38) 3, none, 0⟩,
 ⟨some 3, .assign (Operand.tmp 39), none, 0⟩] true [14, 15] [0, 1, 2, 3, 4, 7, 8, 9, 10, 5, 6, 11, 12, 13, 14, 15])))
 (.ops [⟨some 16, .move (Operand.tmp 4), none, 0⟩,
 ⟨some 17, .binOp BinOp.add 3 (Operand.tmp 16) (Operand.const (Value.int IntKind.i64 1)) 3, none, 0⟩,
 ⟨some 4, .assign (Operand.tmp 17), none, 0⟩]))))))
 (.seq
 (.ops [⟨some 40, .move (Operand.tmp 3), none, 0⟩,
 ⟨some 41, .binOp BinOp.geq 3 (Operand.tmp 40) (Operand.const (Value.int IntKind.i64 16384)) 3, none, 0⟩,
 ⟨some 2, .assign (Operand.tmp 41), none, 0⟩])
 .ret)))))
abbrev R7 : List ResultVar := [ResultVar.tmp 2]
theorem ok7 : FnOK Try.prog 7 L7 R7 1 := ⟨_, _, Try.func7, rfl, by kernel_rfl, by kernel_rfl, by kernel_rfl, by kernel_rfl, Nat.le_of_ble_eq_true (by kernel_rfl), by kernel_rfl⟩

/-- ablaut/ablautref02.IsLong -/
def L8 : LCode :=
 (.seq
 (.ops [⟨some 2, .assign (Operand.const (Value.bool false)), none, 0⟩])
 (.seq
 (.ops [⟨some 3, .assign (Operand.const (Value.int IntKind.i64 0)), none, 0⟩])
 (.seq
 (.seq
 (.ops [⟨some 4, .assign (Operand.const (Value.int IntKind.i64 0)), none, 0⟩])
 (.block 0
 (.loop
 (.seq
 (.seq
 (.ops [⟨some 6, .move (Operand.tmp 4), none, 0⟩,
 ⟨some 7, .move (Operand.tmp 0), none, 0⟩,
 ⟨some 8, .call ⟨(Callee.builtin Builtin.len), [(Operand.tmp 7)].toArray, #[46]⟩, none, 0⟩,
 ⟨some 9, .binOp BinOp.lss 3 (Operand.tmp 6) (Operand.tmp 8) 3, none, 0⟩,
 ⟨some 10, .move (Operand.tmp 9), none, 0⟩,
 ⟨some 11, .move (Operand.tmp 3), some (10, true), 0⟩,
 ⟨some 12, .binOp BinOp.leq 3 (Operand.tmp 11) (Operand.const (Value.int IntKind.i64 16384)) 3, some (10, true), 0⟩,
 ⟨some 13, .pick (Operand.tmp 10) (Operand.tmp 12) (Operand.const (Value.bool false)), none, 0⟩])
 (.cond (Operand.tmp 13)
 .skip
 (.exit 0)))
 (.seq
 (.block 1
 (.seq
 (.ops [⟨some 5, .assign (Operand.const (Value.int IntKind.i64 0)), none, 0⟩])
 (.block 2
 (.loop
 (.seq
 (.seq
 (.ops [⟨some 16, .move (Operand.tmp 5), none, 0⟩,
 ⟨some 17, .move (Operand.tmp 0), none, 0⟩,
 ⟨some 18, .move (Operand.tmp 4), none, 0⟩,
 ⟨some 19, .indexAddr 46 (Operand.tmp 17) (Operand.tmp 18), none, 0⟩,
 ⟨some 20, .load 23 (Operand.tmp 19), none, 0⟩,
 ⟨some 21, .call ⟨(Callee.builtin Builtin.len), [(Operand.tmp 20)].toArray, #[23]⟩, none, 0⟩,
 ⟨some 22, .binOp BinOp.lss 3 (Operand.tmp 16) (Operand.tmp 21) 3, none, 0⟩,
 ⟨some 23, .move (Operand.tmp 22), none, 0⟩,
 ⟨some 24, .move (Operand.tmp 3), some (23, true), 0⟩,
 ⟨some 25, .binOp BinOp.leq 3 (Operand.tmp 24) (Operand.const (Value.int IntKind.i64 16384)) 3, some (23, true), 0⟩,
 ⟨some 26, .pick (Operand.tmp 23) (Operand.tmp 25) (Operand.const (Value.bool false)), none, 0⟩])
 (.cond (Operand.tmp 26)
 .skip
 (.exit 2)))
 (.seq
 (.block 3
 (.ops [⟨some 29, .move (Operand.tmp 3), none, 0⟩,
 ⟨some 30, .move (Operand.tmp 0), none, 0⟩,
 ⟨some 31, .move (Operand.tmp 4), none, 0⟩,
 ⟨some 32, .indexAddr 46 (Operand.tmp 30) (Operand.tmp 31), none, 0⟩,
 ⟨some 33, .load 23 (Operand.tmp 32), none, 0⟩,
 ⟨some 34, .move (Operand.tmp 5), none, 0⟩,
 ⟨some 35, .indexAddr 23 (Operand.tmp 33) (Operand.tmp 34), none, 0⟩,
 ⟨some 36, .load 9 (Operand.tmp 35), none, 0⟩,
 ⟨some 37, .call ⟨(Callee.builtin Builtin.len), [(Operand.tmp 36)].toArray, #[9]⟩, none, 0⟩,
 ⟨some 38, .binOp BinOp.add 3 (Operand.const (Value.int IntKind.i64 1)) (Operand.tmp 37) 3, none, 0⟩,
 ⟨some 39, .binOp BinOp.add 3 (Operand.tmp 29) (Operand.tmp 38) 3, none, 0⟩,
 ⟨some 3, .assign (Operand.tmp 39), none, 0⟩]))
 (.ops [⟨some 27, .move (Operand.tmp 5), none, 0⟩,
 ⟨some 28, .binOp BinOp.add 3 (Operand.tmp 27) (Operand.const (Value.int IntKind.i64 1)) 3, none, 0⟩,
 ⟨some 5, .assign (Operand.tmp 28), none, 0⟩])))))))
 (.ops [⟨some 14, .move (Operand.tmp 4), none, 0⟩,
 ⟨some 15, .binOp BinOp.add 3 (Operand.tmp 14) (Operand.const (Value.int IntKind.i64 1)) 3, none, 0⟩,
 ⟨some 4, .assign (Operand.tmp 15), none, 0⟩]))))))
 (.seq
 (.ops [⟨some 40, .move (Operand.tmp 3), none, 0⟩,
 ⟨some 41, .binOp BinOp.gtr 3 (Operand.tmp 40) (Operand.const (Value.int IntKind.i64 16384)) 3, none, 0⟩,
 ⟨some 2, .assign (Operand.tmp 41), none, 0⟩])
 .ret))))
abbrev R8 : List ResultVar := [ResultVar.tmp 2]
theorem ok8 : FnOK Try.prog 8 L8 R8 1 := ⟨_, _, Try.func8, rfl, by kernel_rfl, by kernel_rfl, by kernel_rfl, by kernel_rfl, Nat.le_of_ble_eq_true (by kernel_rfl), by kernel_rfl⟩

/-- ablaut/ablautlaw18.known -/
def L9 : LCode :=
 (.seq
 (.ops [⟨some 0, .assign (Operand.const (Value.bool false)), none, 0⟩])
 (.seq
 (.ops [⟨some 7, .buildSlice 23 1 [(0, (Operand.const (Value.string ⟨#[97]⟩)))].toArray, none, 0⟩,
 ⟨some 8, .build 51 [(0, (Operand.tmp 7)), (1, (Operand.const (Value.string ⟨#[78]⟩))), (2, (Operand.const (Value.int IntKind.i64 1)))].toArray, none, 0⟩,
 ⟨some 9, .buildSlice 23 1 [(0, (Operand.const (Value.string ⟨#[98]⟩)))].toArray, none, 0⟩,
 ⟨some 10, .build 51 [(0, (Operand.tmp 9)), (1, (Operand.const (Value.string ⟨#[86]⟩))), (2, (Operand.const (Value.int IntKind.i64 1)))].toArray, none, 0⟩,
 ⟨some 11, .buildSlice 22 2 [(0, (Operand.tmp 8)), (1, (Operand.tmp 10))].toArray, none, 0⟩,
 ⟨some 12, .call ⟨(Callee.value (Operand.func 10)), [(Operand.tmp 11)].toArray, #[22]⟩, none, 0⟩,
 ⟨some 6, .move (Operand.tmp 12), none, 0⟩,
 ⟨some 13, .extract (Operand.tmp 6) 0, none, 0⟩,
 ⟨some 14, .extract (Operand.tmp 6) 1, none, 0⟩,
 ⟨some 1, .assign (Operand.tmp 13), none, 0⟩,
 ⟨some 2, .assign (Operand.tmp 14), none, 0⟩])
 (.seq
 (.ops [⟨some 16, .move (Operand.tmp 1), none, 0⟩,
 ⟨some 17, .buildSlice 23 1 [(0, (Operand.const (Value.string ⟨#[97]⟩)))].toArray, none, 0⟩,
 ⟨some 18, .call ⟨(Callee.value (Operand.func 12)), [(Operand.tmp 16), (Operand.tmp 17), (Operand.const (Value.string ⟨#[78]⟩))].toArray, #[27, 23, 9]⟩, none, 0⟩,
 ⟨some 15, .move (Operand.tmp 18), none, 0⟩,
 ⟨some 19, .extract (Operand.tmp 15) 0, none, 0⟩,
 ⟨some 20, .extract (Operand.tmp 15) 1, none, 0⟩,
 ⟨some 21, .extract (Operand.tmp 15) 2, none, 0⟩,
 ⟨some 3, .assign (Operand.tmp 19), none, 0⟩,
 ⟨some 4, .assign (Operand.tmp 20), none, 0⟩,
 ⟨some 5, .assign (Operand.tmp 21), none, 0⟩])
 (.seq
 (.ops [⟨some 22, .move (Operand.tmp 2), none, 0⟩,
 ⟨some 23, .binOp BinOp.eql 28 (Operand.tmp 22) (Operand.const (Value.int IntKind.i64 0)) 28, none, 0⟩,
 ⟨some 24, .move (Operand.tmp 23), none, 0⟩,
 ⟨some 25, .move (Operand.tmp 3), some (24, true), 0⟩,
 ⟨some 26, .binOp BinOp.eql 3 (Operand.tmp 25) (Operand.const (Value.int IntKind.i64 3)) 3, some (24, true), 0⟩,
 ⟨some 27, .pick (Operand.tmp 24) (Operand.tmp 26) (Operand.const (Value.bool false)), none, 0⟩,
 ⟨some 28, .move (Operand.tmp 27), none, 0⟩,
 ⟨some 29, .move (Operand.tmp 4), some (28, true), 0⟩,
 ⟨some 30, .binOp BinOp.eql 3 (Operand.tmp 29) (Operand.const (Value.int IntKind.i64 4)) 3, some (28, true), 0⟩,
 ⟨some 31, .pick (Operand.tmp 28) (Operand.tmp 30) (Operand.const (Value.bool false)), none, 0⟩,
 ⟨some 32, .move (Operand.tmp 31), none, 0⟩,
 ⟨some 33, .move (Operand.tmp 5), some (32, true), 0⟩,
 ⟨some 34, .binOp BinOp.eql 28 (Operand.tmp 33) (Operand.const (Value.int IntKind.i64 0)) 28, some (32, true), 0⟩,
 ⟨some 35, .pick (Operand.tmp 32) (Operand.tmp 34) (Operand.const (Value.bool false)), none, 0⟩,
 ⟨some 0, .assign (Operand.tmp 35), none, 0⟩])
 .ret))))
abbrev R9 : List ResultVar := [ResultVar.tmp 0]
theorem ok9 : FnOK Try.prog 9 L9 R9 0 := ⟨_, _, Try.func9, rfl, by kernel_rfl, by kernel_rfl, by kernel_rfl, by kernel_rfl, Nat.le_of_ble_eq_true (by kernel_rfl), by kernel_rfl⟩

/-- ablaut/guess.New -/
def L10 : LCode :=
 (.seq
 (.ops [⟨some 2, .assign (Operand.const (Value.pointer none)), none, 0⟩,
 ⟨some 3, .assign (Operand.const (Value.int IntKind.i64 0)), none, 0⟩])
 (.seq
 (.seq
 (.ops [⟨some 8, .move (Operand.tmp 0), none, 0⟩,
 ⟨some 9, .call ⟨(Callee.builtin Builtin.len), [(Operand.tmp 8)].toArray, #[22]⟩, none, 0⟩,
 ⟨some 10, .binOp BinOp.gtr 3 (Operand.tmp 9) (Operand.const (Value.int IntKind.i64 200)) 3, none, 0⟩])
 (.cond (Operand.tmp 10)
 (.seq
 (.ops [⟨some 2, .assign (Operand.const (Value.pointer none)), none, 0⟩,
 ⟨some 3, .assign (Operand.const (Value.int IntKind.i64 3)), none, 0⟩])
 .ret)
 .skip))
 (.seq
 (.seq
 (.ops [⟨some 11, .move (Operand.tmp 0), none, 0⟩,
 ⟨some 12, .call ⟨(Callee.value (Operand.func 24)), [(Operand.tmp 11)].toArray, #[22]⟩, none, 0⟩,
 ⟨some 4, .assign (Operand.tmp 12), none, 0⟩])
 (.seq
 (.ops [⟨some 13, .move (Operand.tmp 4), none, 0⟩,
 ⟨some 14, .binOp BinOp.neq 28 (Operand.tmp 13) (Operand.const (Value.int IntKind.i64 0)) 28, none, 0⟩])
 (.cond (Operand.tmp 14)
 (.seq
 (.ops [⟨some 15, .move (Operand.tmp 4), none, 0⟩,
 ⟨some 2, .assign (Operand.const (Value.pointer none)), none, 0⟩,
 ⟨some 3, .assign (Operand.tmp 15), none, 0⟩])
 .ret)
 .skip)))
 (.seq
 (.ops [⟨some 16, .makeMap 53 none, none, 0⟩,
 ⟨some 17, .makeMap 54 none, none, 0⟩,
 ⟨some 18, .build 56 [(0, (Operand.tmp 16)), (1, (Operand.tmp 17))].toArray, none, 0⟩,
 ⟨some 19, .box 56 (Operand.tmp 18), none, 0⟩,
 ⟨some 5, .assign (Operand.tmp 19), none, 0⟩])
 (.seq
 (.seq
 (.ops [⟨some 20, .move (Operand.tmp 0), none, 0⟩,
 ⟨some 21, .call ⟨(Callee.builtin Builtin.len), [(Operand.tmp 20)].toArray, #[22]⟩, none, 0⟩,
 ⟨some 22, .move (Operand.const (Value.int IntKind.i64 0)), none, 0⟩])
 (.block 0
 (.loop
 (.seq
 (.ops [⟨some 23, .binOp BinOp.lss 3 (Operand.tmp 22) (Operand.tmp 21) 3, none, 0⟩])
 (.seq
 (.cond (Operand.tmp 23)
 .skip
 (.exit 0))
 (.seq
 (.block 1
 (.seq
 (.ops [⟨some 24, .indexAddr 22 (Operand.tmp 20) (Operand.tmp 22), none, 0⟩,
 ⟨some 25, .load 51 (Operand.tmp 24), none, 0⟩,
 ⟨some 7, .alloc 51, none, 0⟩,
 ⟨none, .store 51 (Operand.tmp 7) (Operand.tmp 25), none, 0⟩])
 (.ops [⟨some 26, .move (Operand.tmp 5), none, 0⟩,
 ⟨some 27, .load 51 (Operand.tmp 7), none, 0⟩,
 ⟨some 28, .fieldAddr 51 (Operand.tmp 7) 2, none, 0⟩,
 ⟨some 29, .load 3 (Operand.tmp 28), none, 0⟩,
 ⟨some 30, .call ⟨(Callee.value (Operand.func 25)), [(Operand.tmp 26), (Operand.tmp 27), (Operand.tmp 29)].toArray, #[27, 51, 3]⟩, none, 0⟩])))
 (.ops [⟨some 31, .binOp BinOp.add 3 (Operand.tmp 22) (Operand.const (Value.int IntKind.i64 1)) 3, none, 0⟩,
 ⟨some 22, .move (Operand.tmp 31), none, 0⟩])))))))
 (.seq
 (.ops [⟨some 32, .move (Operand.tmp 5), none, 0⟩,
 ⟨some 2, .assign (Operand.tmp 32), none, 0⟩,
 ⟨some 3, .assign (Operand.const (Value.int IntKind.i64 0)), none, 0⟩])
 .ret))))))
abbrev R10 : List ResultVar := [ResultVar.tmp 2, ResultVar.tmp 3]
theorem ok10 : FnOK Try.prog 10 L10 R10 1 := ⟨_, _, Try.func10, rfl, by kernel_rfl, by kernel_rfl, by kernel_rfl, by kernel_rfl, Nat.le_of_ble_eq_true (by kernel_rfl), by kernel_rfl⟩

/-- ablaut/ablautref18.New -/
def L11 : LCode :=
 (.seq
 (.ops [⟨some 2, .assign (Operand.const (Value.pointer none)), none, 0⟩,
 ⟨some 3, .assign (Operand.const (Value.int IntKind.i64 0)), none, 0⟩])
 (.seq
 (.seq
 (.ops [⟨some 8, .move (Operand.tmp 0), none, 0⟩,
 ⟨some 9, .call ⟨(Callee.value (Operand.func 26)), [(Operand.tmp 8)].toArray, #[22]⟩, none, 0⟩,
 ⟨some 4, .assign (Operand.tmp 9), none, 0⟩])
 (.seq
 (.ops [⟨some 10, .move (Operand.tmp 4), none, 0⟩,
 ⟨some 11, .binOp BinOp.neq 28 (Operand.tmp 10) (Operand.const (Value.int IntKind.i64 0)) 28, none, 0⟩])
 (.cond (Operand.tmp 11)
 (.seq
 (.ops [⟨some 12, .move (Operand.tmp 4), none, 0⟩,
 ⟨some 2, .assign (Operand.const (Value.pointer none)), none, 0⟩,
 ⟨some 3, .assign (Operand.tmp 12), none, 0⟩])
 .ret)
 .skip)))
 (.seq
 (.ops [⟨some 13, .build 60 [].toArray, none, 0⟩,
 ⟨some 14, .box 60 (Operand.tmp 13), none, 0⟩,
 ⟨some 5, .assign (Operand.tmp 14), none, 0⟩])
 (.seq
 (.seq
 (.ops [⟨some 6, .assign (Operand.const (Value.int IntKind.i64 0)), none, 0⟩])
 (.block 0
 (.loop
 (.seq
 (.seq
 (.ops [⟨some 15, .move (Operand.tmp 6), none, 0⟩,
 ⟨some 16, .move (Operand.tmp 0), none, 0⟩,
 ⟨some 17, .call ⟨(Callee.builtin Builtin.len), [(Operand.tmp 16)].toArray, #[22]⟩, none, 0⟩,
 ⟨some 18, .binOp BinOp.lss 3 (Operand.tmp 15) (Operand.tmp 17) 3, none, 0⟩])
 (.cond (Operand.tmp 18)
 .skip
 (.exit 0)))
 (.seq
 (.block 1
 (.seq
 (.ops [⟨some 21, .move (Operand.tmp 5), none, 0⟩,
 ⟨some 22, .move (Operand.tmp 0), none, 0⟩,
 ⟨some 23, .move (Operand.tmp 6), none, 0⟩,
 ⟨some 24, .indexAddr 22 (Operand.tmp 22) (Operand.tmp 23), none, 0⟩,
 ⟨some 25, .load 51 (Operand.tmp 24), none, 0⟩,
 ⟨some 26, .call ⟨(Callee.value (Operand.func 27)), [(Operand.tmp 21), (Operand.tmp 25)].toArray, #[31, 51]⟩, none, 0⟩,
 ⟨some 7, .assign (Operand.tmp 26), none, 0⟩])
 (.seq
 (.ops [⟨some 27, .move (Operand.tmp 7), none, 0⟩,
 ⟨some 28, .binOp BinOp.neq 28 (Operand.tmp 27) (Operand.const (Value.int IntKind.i64 0)) 28, none, 0⟩])
 (.cond (Operand.tmp 28)
 (.seq
 (.ops [⟨some 29, .move (Operand.tmp 7), none, 0⟩,
 ⟨some 2, .assign (Operand.const (Value.pointer none)), none, 0⟩,
 ⟨some 3, .assign (Operand.tmp 29), none, 0⟩])
 .ret)
 .skip))))
 (.ops [⟨some 19, .move (Operand.tmp 6), none, 0⟩,
 ⟨some 20, .binOp BinOp.add 3 (Operand.tmp 19) (Operand.const (Value.int IntKind.i64 1)) 3, none, 0⟩,
 ⟨some 6, .assign (Operand.tmp 20), none, 0⟩]))))))
 (.seq
 (.ops [⟨some 30, .move (Operand.tmp 5), none, 0⟩,
 ⟨some 2, .assign (Operand.tmp 30), none, 0⟩,
 ⟨some 3, .assign (Operand.const (Value.int IntKind.i64 0)), none, 0⟩])
 .ret)))))
abbrev R11 : List ResultVar := [ResultVar.tmp 2, ResultVar.tmp 3]
theorem ok11 : FnOK Try.prog 11 L11 R11 1 := ⟨_, _, Try.func11, rfl, by kernel_rfl, by kernel_rfl, by kernel_rfl, by kernel_rfl, Nat.le_of_ble_eq_true (by kernel_rfl), by kernel_rfl⟩

/-- (*ablaut/guess.Guesser).Chance -/
def L12 : LCode :=
 (.seq
 (.ops [⟨some 6, .assign (Operand.const (Value.int IntKind.i64 0)), none, 0⟩,
 ⟨some 7, .assign (Operand.const (Value.int IntKind.i64 0)), none, 0⟩,
 ⟨some 8, .assign (Operand.const (Value.int IntKind.i64 0)), none, 0⟩])
 (.seq
 (.seq
 (.ops [⟨some 11, .move (Operand.tmp 1), none, 0⟩,
 ⟨some 12, .call ⟨(Callee.value (Operand.func 28)), [(Operand.tmp 11)].toArray, #[23]⟩, none, 0⟩,
 ⟨some 9, .assign (Operand.tmp 12), none, 0⟩])
 (.seq
 (.ops [⟨some 13, .move (Operand.tmp 9), none, 0⟩,
 ⟨some 14, .binOp BinOp.neq 28 (Operand.tmp 13) (Operand.const (Value.int IntKind.i64 0)) 28, none, 0⟩])
 (.cond (Operand.tmp 14)
 (.seq
 (.ops [⟨some 15, .move (Operand.tmp 9), none, 0⟩,
 ⟨some 6, .assign (Operand.const (Value.int IntKind.i64 0)), none, 0⟩,
 ⟨some 7, .assign (Operand.const (Value.int IntKind.i64 0)), none, 0⟩,
 ⟨some 8, .assign (Operand.tmp 15), none, 0⟩])
 .ret)
 .skip)))
 (.seq
 (.seq
 (.ops [⟨some 16, .move (Operand.tmp 0), none, 0⟩,
 ⟨some 17, .call ⟨(Callee.value (Operand.func 29)), [(Operand.tmp 16)].toArray, #[27]⟩, none, 0⟩])
 (.cond (Operand.tmp 17)
 (.seq
 (.ops [⟨some 6, .assign (Operand.const (Value.int IntKind.i64 0)), none, 0⟩,
 ⟨some 7, .assign (Operand.const (Value.int IntKind.i64 0)), none, 0⟩,
 ⟨some 8, .assign (Operand.const (Value.int IntKind.i64 4)), none, 0⟩])
 .ret)
 .skip))
 (.seq
 (.seq
 (.ops [⟨some 18, .move (Operand.tmp 2), none, 0⟩,
 ⟨some 19, .binOp BinOp.eql 9 (Operand.tmp 18) (Operand.const (Value.string ⟨#[]⟩)) 9, none, 0⟩,
 ⟨some 20, .move (Operand.tmp 19), none, 0⟩,
 ⟨some 21, .move (Operand.tmp 0), some (20, false), 0⟩,
 ⟨some 22, .nilCheck (Operand.tmp 21), some (20, false), 0⟩,
 ⟨some 23, .fieldAddr 56 (Operand.tmp 22) 1, some (20, false), 0⟩,
 ⟨some 24, .load 54 (Operand.tmp 23), some (20, false), 0⟩,
 ⟨some 25, .lookup 54 (Operand.tmp 24) (Operand.const (Value.string ⟨#[]⟩)) false, some (20, false), 0⟩,
 ⟨some 26, .move (Operand.tmp 2), some (20, false), 0⟩,
 ⟨some 27, .lookup 63 (Operand.tmp 25) (Operand.tmp 26) false, some (20, false), 0⟩,
 ⟨some 28, .binOp BinOp.eql 3 (Operand.tmp 27) (Operand.const (Value.int IntKind.i64 0)) 3, some (20, false), 0⟩,
 ⟨some 29, .pick (Operand.tmp 20) (Operand.const (Value.bool true)) (Operand.tmp 28), none, 0⟩])
 (.cond (Operand.tmp 29)
 (.seq
 (.ops [⟨some 6, .assign (Operand.const (Value.int IntKind.i64 0)), none, 0⟩,
 ⟨some 7, .assign (Operand.const (Value.int IntKind.i64 1)), none, 0⟩,
 ⟨some 8, .assign (Operand.const (Value.int IntKind.i64 0)), none, 0⟩])
 .ret)
 .skip))
 (.seq
 (.ops [⟨some 30, .move (Operand.tmp 0), none, 0⟩,
 ⟨some 31, .move (Operand.tmp 1), none, 0⟩,
 ⟨some 32, .move (Operand.tmp 2), none, 0⟩,
 ⟨some 33, .call ⟨(Callee.value (Operand.func 30)), [(Operand.tmp 30), (Operand.tmp 31), (Operand.tmp 32)].toArray, #[27, 23, 9]⟩, none, 0⟩,
 ⟨some 34, .call ⟨(Callee.value (Operand.func 31)), [(Operand.tmp 33)].toArray, #[65]⟩, none, 0⟩,
 ⟨some 10, .alloc 65, none, 0⟩,
 ⟨none, .store 65 (Operand.tmp 10) (Operand.tmp 34), none, 0⟩])
 (.seq
 (.draw [⟨some 35, .fieldAddr 65 (Operand.tmp 10) 0, none, 0⟩,
 ⟨some 36, .load 3 (Operand.tmp 35), none, 0⟩,
 ⟨some 37, .fieldAddr 65 (Operand.tmp 10) 1, none, 0⟩,
 ⟨some 38, .load 3 (Operand.tmp 37), none, 0⟩,
 ⟨some 6, .assign (Operand.tmp 36), none, 0⟩,
 ⟨some 7, .assign (Operand.tmp 38), none, 0⟩,
 ⟨some 8, .assign (Operand.const (Value.int IntKind.i64 0)), none, 0⟩] true [5, 6] [0, 2, 1, 3, 4, 5, 6])
 .ret))))))
abbrev R12 : List ResultVar := [ResultVar.tmp 6, ResultVar.tmp 7, ResultVar.tmp 8]
theorem ok12 : FnOK Try.prog 12 L12 R12 3 := ⟨_, _, Try.func12, rfl, by kernel_rfl, by kernel_rfl, by kernel_rfl, by kernel_rfl, Nat.le_of_ble_eq_true (by kernel_rfl), by kernel_rfl⟩

/-- (*ablaut/ablautref18.Guesser).Count -/
def L15 : LCode :=
 (.seq
 (.ops [⟨some 6, .assign (Operand.const (Value.int IntKind.i64 0)), none, 0⟩])
 (.seq
 (.ops [⟨some 7, .assign (Operand.const (Value.int IntKind.i64 0)), none, 0⟩])
 (.seq
 (.seq
 (.ops [⟨some 8, .assign (Operand.const (Value.int IntKind.i64 0)), none, 0⟩])
 (.block 0
 (.loop
 (.seq
 (.seq
 (.ops [⟨some 9, .move (Operand.tmp 0), none, 0⟩,
 ⟨some 10, .binOp BinOp.neq 31 (Operand.tmp 9) (Operand.const (Value.pointer none)) 31, none, 0⟩,
 ⟨some 11, .move (Operand.tmp 10), none, 0⟩,
 ⟨some 12, .move (Operand.tmp 1), some (11, true), 0⟩,
 ⟨some 13, .call ⟨(Callee.builtin Builtin.len), [(Operand.tmp 12)].toArray, #[23]⟩, some (11, true), 0⟩,
 ⟨some 14, .binOp BinOp.leq 3 (Operand.tmp 13) (Operand.const (Value.int IntKind.i64 4)) 3, some (11, true), 0⟩,
 ⟨some 15, .pick (Operand.tmp 11) (Operand.tmp 14) (Operand.const (Value.bool false)), none, 0⟩,
 ⟨some 16, .move (Operand.tmp 15), none, 0⟩,
 ⟨some 17, .move (Operand.tmp 8), some (16, true), 0⟩,
 ⟨some 18, .move (Operand.tmp 0), some (16, true), 0⟩,
 ⟨some 19, .nilCheck (Operand.tmp 18), some (16, true), 0⟩,
 ⟨some 20, .fieldAddr 60 (Operand.tmp 19) 0, some (16, true), 0⟩,
 ⟨some 21, .load 22 (Operand.tmp 20), some (16, true), 0⟩,
 ⟨some 22, .call ⟨(Callee.builtin Builtin.len), [(Operand.tmp 21)].toArray, #[22]⟩, some (16, true), 0⟩,
 ⟨some 23, .binOp BinOp.lss 3 (Operand.tmp 17) (Operand.tmp 22) 3, some (16, true), 0⟩,
 ⟨some 24, .pick (Operand.tmp 16) (Operand.tmp 23) (Operand.const (Value.bool false)), none, 0⟩])
 (.cond (Operand.tmp 24)
 .skip
 (.exit 0)))
 (.seq
 (.block 1
 (.seq
 (.ops [⟨some 27, .move (Operand.tmp 1), none, 0⟩,
 ⟨some 28, .move (Operand.tmp 0), none, 0⟩,
 ⟨some 29, .nilCheck (Operand.tmp 28), none, 0⟩,
 ⟨some 30, .fieldAddr 60 (Operand.tmp 29) 0, none, 0⟩,
 ⟨some 31, .load 22 (Operand.tmp 30), none, 0⟩,
 ⟨some 32, .move (Operand.tmp 8), none, 0⟩,
 ⟨some 33, .indexAddr 22 (Operand.tmp 31) (Operand.tmp 32), none, 0⟩,
 ⟨some 34, .fieldAddr 51 (Operand.tmp 33) 0, none, 0⟩,
 ⟨some 35, .load 23 (Operand.tmp 34), none, 0⟩,
 ⟨some 36, .call ⟨(Callee.value (Operand.func 35)), [(Operand.tmp 27), (Operand.tmp 35)].toArray, #[23, 23]⟩, none, 0⟩,
 ⟨some 37, .move (Operand.tmp 36), none, 0⟩,
 ⟨some 38, .move (Operand.tmp 2), some (37, true), 0⟩,
 ⟨some 39, .binOp BinOp.eql 9 (Operand.tmp 38) (Operand.const (Value.string ⟨#[]⟩)) 9, some (37, true), 0⟩,
 ⟨some 40, .move (Operand.tmp 39), some (37, true), 0⟩,
 ⟨some 41, .move (Operand.tmp 2), some (40, false), 0⟩,
 ⟨some 42, .move (Operand.tmp 0), some (40, false), 0⟩,
 ⟨some 43, .nilCheck (Operand.tmp 42), some (40, false), 0⟩,
 ⟨some 44, .fieldAddr 60 (Operand.tmp 43) 0, some (40, false), 0⟩,
 ⟨some 45, .load 22 (Operand.tmp 44), some (40, false), 0⟩,
 ⟨some 46, .move (Operand.tmp 8), some (40, false), 0⟩,
 ⟨some 47, .indexAddr 22 (Operand.tmp 45) (Operand.tmp 46), some (40, false), 0⟩,
 ⟨some 48, .fieldAddr 51 (Operand.tmp 47) 1, some (40, false), 0⟩,
 ⟨some 49, .load 9 (Operand.tmp 48), some (40, false), 0⟩,
 ⟨some 50, .binOp BinOp.eql 9 (Operand.tmp 41) (Operand.tmp 49) 9, some (40, false), 0⟩,
 ⟨some 51, .pick (Operand.tmp 40) (Operand.const (Value.bool true)) (Operand.tmp 50), some (37, true), 0⟩,
 ⟨some 52, .pick (Operand.tmp 37) (Operand.tmp 51) (Operand.const (Value.bool false)), none, 0⟩])
 (.cond (Operand.tmp 52)
 (.ops [⟨some 53, .move (Operand.tmp 7), none, 0⟩,
 ⟨some 54, .move (Operand.tmp 0), none, 0⟩,
 ⟨some 55, .nilCheck (Operand.tmp 54), none, 0⟩,
 ⟨some 56, .fieldAddr 60 (Operand.tmp 55) 0, none, 0⟩,
 ⟨some 57, .load 22 (Operand.tmp 56), none, 0⟩,
 ⟨some 58, .move (Operand.tmp 8), none, 0⟩,
 ⟨some 59, .indexAddr 22 (Operand.tmp 57) (Operand.tmp 58), none, 0⟩,
 ⟨some 60, .fieldAddr 51 (Operand.tmp 59) 2, none, 0⟩,
 ⟨some 61, .load 3 (Operand.tmp 60), none, 0⟩,
 ⟨some 62, .binOp BinOp.add 3 (Operand.tmp 53) (Operand.tmp 61) 3, none, 0⟩,
 ⟨some 7, .assign (Operand.tmp 62), none, 0⟩])
 .skip)))
 (.ops [⟨some 25, .move (Operand.tmp 8), none, 0⟩,
 ⟨some 26, .binOp BinOp.add 3 (Operand.tmp 25) (Operand.const (Value.int IntKind.i64 1)) 3, none, 0⟩,
 ⟨some 8, .assign (Operand.tmp 26), none, 0⟩]))))))
 (.seq
 (.ops [⟨some 63, .move (Operand.tmp 7), none, 0⟩,
 ⟨some 6, .assign (Operand.tmp 63), none, 0⟩])
 .ret))))
abbrev R15 : List ResultVar := [ResultVar.tmp 6]
theorem ok15 : FnOK Try.prog 15 L15 R15 3 := ⟨_, _, Try.func15, rfl, by kernel_rfl, by kernel_rfl, by kernel_rfl, by kernel_rfl, Nat.le_of_ble_eq_true (by kernel_rfl), by kernel_rfl⟩

/-- (*ablaut/guess.Guesser).Rank -/
def L16 : LCode :=
 (.seq
 (.ops [⟨some 3, .box 23 (Operand.tmp 1), none, 0⟩,
 ⟨some 4, .assign (Operand.const (Value.slice none 0 0)), none, 0⟩,
 ⟨some 5, .assign (Operand.const (Value.int IntKind.i64 0)), none, 0⟩])
 (.seq
 (.seq
 (.ops [⟨some 9, .load 23 (Operand.tmp 3), none, 0⟩,
 ⟨some 10, .call ⟨(Callee.value (Operand.func 28)), [(Operand.tmp 9)].toArray, #[23]⟩, none, 0⟩,
 ⟨some 6, .assign (Operand.tmp 10), none, 0⟩])
 (.seq
 (.ops [⟨some 11, .move (Operand.tmp 6), none, 0⟩,
 ⟨some 12, .binOp BinOp.neq 28 (Operand.tmp 11) (Operand.const (Value.int IntKind.i64 0)) 28, none, 0⟩])
 (.cond (Operand.tmp 12)
 (.seq
 (.ops [⟨some 13, .move (Operand.tmp 6), none, 0⟩,
 ⟨some 4, .assign (Operand.const (Value.slice none 0 0)), none, 0⟩,
 ⟨some 5, .assign (Operand.tmp 13), none, 0⟩])
 .ret)
 .skip)))
 (.seq
 (.seq
 (.ops [⟨some 14, .move (Operand.tmp 0), none, 0⟩,
 ⟨some 15, .call ⟨(Callee.value (Operand.func 29)), [(Operand.tmp 14)].toArray, #[27]⟩, none, 0⟩])
 (.cond (Operand.tmp 15)
 (.seq
 (.ops [⟨some 4, .assign (Operand.const (Value.slice none 0 0)), none, 0⟩,
 ⟨some 5, .assign (Operand.const (Value.int IntKind.i64 4)), none, 0⟩])
 .ret)
 .skip))
 (.seq
 (.ops [⟨some 16, .move (Operand.tmp 0), none, 0⟩,
 ⟨some 17, .call ⟨(Callee.value (Operand.func 17)), [(Operand.tmp 16)].toArray, #[27]⟩, none, 0⟩,
 ⟨some 7, .assign (Operand.tmp 17), none, 0⟩])
 (.seq
 (.ops [⟨some 18, .move (Operand.tmp 0), none, 0⟩,
 ⟨some 19, .makeFunc (Fn.func 30) #[(Operand.tmp 18)] [].toArray, none, 0⟩,
 ⟨some 8, .alloc 66, none, 0⟩,
 ⟨none, .store 66 (Operand.tmp 8) (Operand.tmp 19), none, 0⟩])
 (.seq
 (.ops [⟨some 20, .move (Operand.tmp 7), none, 0⟩,
 ⟨some 21, .makeFunc (Fn.func 37) #[] [(Operand.tmp 8), (Operand.tmp 3)].toArray, none, 0⟩,
 ⟨some 22, .call ⟨(Callee.value (Operand.func 36)), [(Operand.tmp 20), (Operand.tmp 21)].toArray, #[23, 74]⟩, none, 0⟩])
 (.seq
 (.ops [⟨some 23, .move (Operand.tmp 7), none, 0⟩,
 ⟨some 4, .assign (Operand.tmp 23), none, 0⟩,
 ⟨some 5, .assign (Operand.const (Value.int IntKind.i64 0)), none, 0⟩])
 .ret)))))))
abbrev R16 : List ResultVar := [ResultVar.tmp 4, ResultVar.tmp 5]
theorem ok16 : FnOK Try.prog 16 L16 R16 2 := ⟨_, _, Try.func16, rfl, by kernel_rfl, by kernel_rfl, by kernel_rfl, by kernel_rfl, Nat.le_of_ble_eq_true (by kernel_rfl), by kernel_rfl⟩

/-- (*ablaut/guess.Guesser).Tags -/
def L17 : LCode :=
 (.seq
 (.ops [⟨some 2, .assign (Operand.const (Value.slice none 0 0)), none, 0⟩])
 (.seq
 (.seq
 (.ops [⟨some 5, .move (Operand.tmp 0), none, 0⟩,
 ⟨some 6, .call ⟨(Callee.value (Operand.func 29)), [(Operand.tmp 5)].toArray, #[27]⟩, none, 0⟩])
 (.cond (Operand.tmp 6)
 (.seq
 (.ops [⟨some 2, .assign (Operand.const (Value.slice none 0 0)), none, 0⟩])
 .ret)
 .skip))
 (.seq
 (.ops [⟨some 3, .assign (Operand.const (Value.slice none 0 0)), none, 0⟩])
 (.seq
 (.seq
 (.ops [⟨some 7, .move (Operand.tmp 0), none, 0⟩,
 ⟨some 8, .nilCheck (Operand.tmp 7), none, 0⟩,
 ⟨some 9, .fieldAddr 56 (Operand.tmp 8) 1, none, 0⟩,
 ⟨some 10, .load 54 (Operand.tmp 9), none, 0⟩,
 ⟨some 11, .lookup 54 (Operand.tmp 10) (Operand.const (Value.string ⟨#[]⟩)) false, none, 0⟩,
 ⟨some 12, .range 63 (Operand.tmp 11), none, 0⟩])
 (.block 0
 (.loop
 (.seq
 (.ops [⟨some 13, .next (Operand.tmp 12) false, none, 0⟩,
 ⟨some 14, .extract (Operand.tmp 13) 0, none, 0⟩])
 (.seq
 (.cond (Operand.tmp 14)
 .skip
 (.exit 0))
 (.block 1
 (.seq
 (.ops [⟨some 15, .entry (Operand.tmp 12), none, 0⟩,
 ⟨some 16, .extract (Operand.tmp 15) 0, none, 0⟩,
 ⟨some 4, .assign (Operand.tmp 16), none, 0⟩])
 (.seq
 (.ops [⟨some 17, .move (Operand.tmp 4), none, 0⟩,
 ⟨some 18, .binOp BinOp.neq 9 (Operand.tmp 17) (Operand.const (Value.string ⟨#[]⟩)) 9, none, 0⟩])
 (.cond (Operand.tmp 18)
 (.ops [⟨some 19, .move (Operand.tmp 3), none, 0⟩,
 ⟨some 20, .move (Operand.tmp 4), none, 0⟩,
 ⟨some 21, .buildSlice 23 1 [(0, (Operand.tmp 20))].toArray, none, 0⟩,
 ⟨some 22, .call ⟨(Callee.builtin Builtin.append), [(Operand.tmp 19), (Operand.tmp 21)].toArray, #[23, 23]⟩, none, 1⟩,
 ⟨some 3, .assign (Operand.tmp 22), none, 0⟩])
 .skip)))))))))
 (.seq
 (.ops [⟨some 23, .move (Operand.tmp 3), none, 0⟩,
 ⟨some 24, .call ⟨(Callee.value (Operand.func 39)), [(Operand.tmp 23)].toArray, #[23]⟩, none, 0⟩])
 (.seq
 (.ops [⟨some 25, .move (Operand.tmp 3), none, 0⟩,
 ⟨some 2, .assign (Operand.tmp 25), none, 0⟩])
 .ret))))))
abbrev R17 : List ResultVar := [ResultVar.tmp 2]
theorem ok17 : FnOK Try.prog 17 L17 R17 1 := ⟨_, _, Try.func17, rfl, by kernel_rfl, by kernel_rfl, by kernel_rfl, by kernel_rfl, Nat.le_of_ble_eq_true (by kernel_rfl), by kernel_rfl⟩

/-- (*ablaut/ablautref18.Guesser).Rank -/
def L18 : LCode :=
 (.seq
 (.ops [⟨some 4, .assign (Operand.const (Value.slice none 0 0)), none, 0⟩,
 ⟨some 5, .assign (Operand.const (Value.int IntKind.i64 0)), none, 0⟩])
 (.seq
 (.seq
 (.ops [⟨some 13, .move (Operand.tmp 0), none, 0⟩,
 ⟨some 14, .move (Operand.tmp 1), none, 0⟩,
 ⟨some 15, .buildSlice 46 1 [(0, (Operand.tmp 14))].toArray, none, 0⟩,
 ⟨some 16, .call ⟨(Callee.value (Operand.func 32)), [(Operand.tmp 13), (Operand.tmp 15)].toArray, #[31, 46]⟩, none, 0⟩,
 ⟨some 6, .assign (Operand.tmp 16), none, 0⟩])
 (.seq
 (.ops [⟨some 17, .move (Operand.tmp 6), none, 0⟩,
 ⟨some 18, .binOp BinOp.neq 28 (Operand.tmp 17) (Operand.const (Value.int IntKind.i64 0)) 28, none, 0⟩])
 (.cond (Operand.tmp 18)
 (.seq
 (.ops [⟨some 19, .move (Operand.tmp 6), none, 0⟩,
 ⟨some 4, .assign (Operand.const (Value.slice none 0 0)), none, 0⟩,
 ⟨some 5, .assign (Operand.tmp 19), none, 0⟩])
 .ret)
 .skip)))
 (.seq
 (.ops [⟨some 20, .move (Operand.tmp 0), none, 0⟩,
 ⟨some 21, .call ⟨(Callee.value (Operand.func 40)), [(Operand.tmp 20)].toArray, #[31]⟩, none, 0⟩,
 ⟨some 7, .assign (Operand.tmp 21), none, 0⟩])
 (.seq
 (.ops [⟨some 22, .move (Operand.tmp 7), none, 0⟩,
 ⟨some 23, .call ⟨(Callee.builtin Builtin.len), [(Operand.tmp 22)].toArray, #[23]⟩, none, 0⟩,
 ⟨some 24, .makeSlice 40 (Operand.tmp 23) (Operand.tmp 23), none, 0⟩,
 ⟨some 8, .assign (Operand.tmp 24), none, 0⟩])
 (.seq
 (.seq
 (.ops [⟨some 9, .assign (Operand.const (Value.int IntKind.i64 0)), none, 0⟩])
 (.block 0
 (.loop
 (.seq
 (.seq
 (.ops [⟨some 25, .move (Operand.tmp 9), none, 0⟩,
 ⟨some 26, .move (Operand.tmp 7), none, 0⟩,
 ⟨some 27, .call ⟨(Callee.builtin Builtin.len), [(Operand.tmp 26)].toArray, #[23]⟩, none, 0⟩,
 ⟨some 28, .binOp BinOp.lss 3 (Operand.tmp 25) (Operand.tmp 27) 3, none, 0⟩])
 (.cond (Operand.tmp 28)
 .skip
 (.exit 0)))
 (.seq
 (.block 1
 (.ops [⟨some 32, .move (Operand.tmp 8), none, 0⟩,
 ⟨some 33, .move (Operand.tmp 9), none, 0⟩,
 ⟨some 34, .move (Operand.tmp 0), none, 0⟩,
 ⟨some 35, .move (Operand.tmp 1), none, 0⟩,
 ⟨some 36, .move (Operand.tmp 7), none, 0⟩,
 ⟨some 37, .move (Operand.tmp 9), none, 0⟩,
 ⟨some 38, .indexAddr 23 (Operand.tmp 36) (Operand.tmp 37), none, 0⟩,
 ⟨some 39, .load 9 (Operand.tmp 38), none, 0⟩,
 ⟨some 40, .call ⟨(Callee.value (Operand.func 33)), [(Operand.tmp 34), (Operand.tmp 35), (Operand.tmp 39)].toArray, #[31, 23, 9]⟩, none, 0⟩,
 ⟨some 31, .move (Operand.tmp 40), none, 0⟩,
 ⟨some 41, .extract (Operand.tmp 31) 0, none, 0⟩,
 ⟨some 42, .extract (Operand.tmp 31) 1, none, 0⟩,
 ⟨some 43, .indexAddr 40 (Operand.tmp 32) (Operand.tmp 33), none, 0⟩,
 ⟨none, .store 3 (Operand.tmp 43) (Operand.tmp 41), none, 0⟩]))
 (.ops [⟨some 29, .move (Operand.tmp 9), none, 0⟩,
 ⟨some 30, .binOp BinOp.add 3 (Operand.tmp 29) (Operand.const (Value.int IntKind.i64 1)) 3, none, 0⟩,
 ⟨some 9, .assign (Operand.tmp 30), none, 0⟩]))))))
 (.seq
 (.ops [⟨some 10, .assign (Operand.const (Value.slice none 0 0)), none, 0⟩])
 (.seq
 (.block 2
 (.loop
 (.seq
 (.seq
 (.ops [⟨some 44, .move (Operand.tmp 10), none, 0⟩,
 ⟨some 45, .call ⟨(Callee.builtin Builtin.len), [(Operand.tmp 44)].toArray, #[23]⟩, none, 0⟩,
 ⟨some 46, .move (Operand.tmp 7), none, 0⟩,
 ⟨some 47, .call ⟨(Callee.builtin Builtin.len), [(Operand.tmp 46)].toArray, #[23]⟩, none, 0⟩,
 ⟨some 48, .binOp BinOp.lss 3 (Operand.tmp 45) (Operand.tmp 47) 3, none, 0⟩])
 (.cond (Operand.tmp 48)
 .skip
 (.exit 2)))
 (.block 3
 (.seq
 (.ops [⟨some 11, .assign (Operand.const (Value.int IntKind.i64 0)), none, 0⟩])
 (.seq
 (.seq
 (.ops [⟨some 12, .assign (Operand.const (Value.int IntKind.i64 1)), none, 0⟩])
 (.block 4
 (.loop
 (.seq
 (.seq
 (.ops [⟨some 49, .move (Operand.tmp 12), none, 0⟩,
 ⟨some 50, .move (Operand.tmp 7), none, 0⟩,
 ⟨some 51, .call ⟨(Callee.builtin Builtin.len), [(Operand.tmp 50)].toArray, #[23]⟩, none, 0⟩,
 ⟨some 52, .binOp BinOp.lss 3 (Operand.tmp 49) (Operand.tmp 51) 3, none, 0⟩])
 (.cond (Operand.tmp 52)
 .skip
 (.exit 4)))
 (.seq
 (.block 5
 (.seq
 (.draw [⟨some 55, .move (Operand.tmp 8), none, 0⟩,
 ⟨some 56, .move (Operand.tmp 12), none, 0⟩,
 ⟨some 57, .indexAddr 40 (Operand.tmp 55) (Operand.tmp 56), none, 0⟩,
 ⟨some 58, .load 3 (Operand.tmp 57), none, 0⟩,
 ⟨some 59, .move (Operand.tmp 8), none, 0⟩,
 ⟨some 60, .move (Operand.tmp 11), none, 0⟩,
 ⟨some 61, .indexAddr 40 (Operand.tmp 59) (Operand.tmp 60), none, 0⟩,
 ⟨some 62, .load 3 (Operand.tmp 61), none, 0⟩,
 ⟨some 63, .binOp BinOp.gtr 3 (Operand.tmp 58) (Operand.tmp 62) 3, none, 0⟩] true [8] [0, 1, 2, 4, 5, 6, 3, 7, 8])
 (.cond (Operand.tmp 63)
 (.ops [⟨some 64, .move (Operand.tmp 12), none, 0⟩,
 ⟨some 11, .assign (Operand.tmp 64), none, 0⟩])
 .skip)))
 (.ops [⟨some 53, .move (Operand.tmp 12), none, 0⟩,
 ⟨some 54, .binOp BinOp.add 3 (Operand.tmp 53) (Operand.const (Value.int IntKind.i64 1)) 3, none, 0⟩,
 ⟨some 12, .assign (Operand.tmp 54), none, 0⟩]))))))
 (.seq
 (.ops [⟨some 65, .move (Operand.tmp 10), none, 0⟩,
 ⟨some 66, .move (Operand.tmp 7), none, 0⟩,
 ⟨some 67, .move (Operand.tmp 11), none, 0⟩,
 ⟨some 68, .indexAddr 23 (Operand.tmp 66) (Operand.tmp 67), none, 0⟩,
 ⟨some 69, .load 9 (Operand.tmp 68), none, 0⟩,
 ⟨some 70, .buildSlice 23 1 [(0, (Operand.tmp 69))].toArray, none, 0⟩,
 ⟨some 71, .call ⟨(Callee.builtin Builtin.append), [(Operand.tmp 65), (Operand.tmp 70)].toArray, #[23, 23]⟩, none, 0⟩,
 ⟨some 10, .assign (Operand.tmp 71), none, 0⟩])
 (.ops [⟨some 72, .move (Operand.tmp 8), none, 0⟩,
 ⟨some 73, .move (Operand.tmp 11), none, 0⟩,
 ⟨some 74, .indexAddr 40 (Operand.tmp 72) (Operand.tmp 73), none, 0⟩,
 ⟨none, .store 3 (Operand.tmp 74) (Operand.const (Value.int IntKind.i64 (-1))), none, 0⟩]))))))))
 (.seq
 (.ops [⟨some 75, .move (Operand.tmp 10), none, 0⟩,
 ⟨some 4, .assign (Operand.tmp 75), none, 0⟩,
 ⟨some 5, .assign (Operand.const (Value.int IntKind.i64 0)), none, 0⟩])
 .ret))))))))
abbrev R18 : List ResultVar := [ResultVar.tmp 4, ResultVar.tmp 5]
theorem ok18 : FnOK Try.prog 18 L18 R18 2 := ⟨_, _, Try.func18, rfl, by kernel_rfl, by kernel_rfl, by kernel_rfl, by kernel_rfl, Nat.le_of_ble_eq_true (by kernel_rfl), by kernel_rfl⟩

/-- (*ablaut/guess.Guesser).Sure -/
def L19 : LCode :=
 (.seq
 (.ops [⟨some 4, .assign (Operand.const (Value.string ⟨#[]⟩)), none, 0⟩,
 ⟨some 5, .assign (Operand.const (Value.bool false)), none, 0⟩,
 ⟨some 6, .assign (Operand.const (Value.int IntKind.i64 0)), none, 0⟩])
 (.seq
 (.ops [⟨some 11, .move (Operand.tmp 0), none, 0⟩,
 ⟨some 12, .move (Operand.tmp 1), none, 0⟩,
 ⟨some 13, .call ⟨(Callee.value (Operand.func 16)), [(Operand.tmp 11), (Operand.tmp 12)].toArray, #[27, 23]⟩, none, 0⟩,
 ⟨some 10, .move (Operand.tmp 13), none, 0⟩,
 ⟨some 14, .extract (Operand.tmp 10) 0, none, 0⟩,
 ⟨some 15, .extract (Operand.tmp 10) 1, none, 0⟩,
 ⟨some 7, .assign (Operand.tmp 14), none, 0⟩,
 ⟨some 8, .assign (Operand.tmp 15), none, 0⟩])
 (.seq
 (.seq
 (.ops [⟨some 16, .move (Operand.tmp 8), none, 0⟩,
 ⟨some 17, .binOp BinOp.neq 28 (Operand.tmp 16) (Operand.const (Value.int IntKind.i64 0)) 28, none, 0⟩])
 (.cond (Operand.tmp 17)
 (.seq
 (.ops [⟨some 18, .move (Operand.tmp 8), none, 0⟩,
 ⟨some 4, .assign (Operand.const (Value.string ⟨#[]⟩)), none, 0⟩,
 ⟨some 5, .assign (Operand.const (Value.bool false)), none, 0⟩,
 ⟨some 6, .assign (Operand.tmp 18), none, 0⟩])
 .ret)
 .skip))
 (.seq
 (.ops [⟨some 19, .move (Operand.tmp 0), none, 0⟩,
 ⟨some 20, .move (Operand.tmp 1), none, 0⟩,
 ⟨some 21, .move (Operand.tmp 7), none, 0⟩,
 ⟨some 22, .indexAddr 23 (Operand.tmp 21) (Operand.const (Value.int IntKind.i64 0)), none, 0⟩,
 ⟨some 23, .load 9 (Operand.tmp 22), none, 0⟩,
 ⟨some 24, .call ⟨(Callee.value (Operand.func 30)), [(Operand.tmp 19), (Operand.tmp 20), (Operand.tmp 23)].toArray, #[27, 23, 9]⟩, none, 0⟩,
 ⟨some 9, .alloc 65, none, 0⟩,
 ⟨none, .store 65 (Operand.tmp 9) (Operand.tmp 24), none, 0⟩])
 (.seq
 (.draw [⟨some 25, .move (Operand.tmp 7), none, 0⟩,
 ⟨some 26, .indexAddr 23 (Operand.tmp 25) (Operand.const (Value.int IntKind.i64 0)), none, 0⟩,
 ⟨some 27, .load 9 (Operand.tmp 26), none, 0⟩,
 ⟨some 28, .fieldAddr 65 (Operand.tmp 9) 0, none, 0⟩,
 ⟨some 29, .load 3 (Operand.tmp 28), none, 0⟩,
 ⟨some 30, .binOp BinOp.mul 3 (Operand.const (Value.int IntKind.i64 2)) (Operand.tmp 29) 3, none, 0⟩,
 ⟨some 31, .fieldAddr 65 (Operand.tmp 9) 1, none, 0⟩,
 ⟨some 32, .load 3 (Operand.tmp 31), none, 0⟩,
 ⟨some 33, .binOp BinOp.gtr 3 (Operand.tmp 30) (Operand.tmp 32) 3, none, 0⟩,
 ⟨some 4, .assign (Operand.tmp 27), none, 0⟩,
 ⟨some 5, .assign (Operand.tmp 33), none, 0⟩,
 ⟨some 6, .assign (Operand.const (Value.int IntKind.i64 0)), none, 0⟩] true [10, 11] [0, 1, 3, 6, 2, 4, 5, 7, 8, 9, 10, 11])
 .ret)))))
abbrev R19 : List ResultVar := [ResultVar.tmp 4, ResultVar.tmp 5, ResultVar.tmp 6]
theorem ok19 : FnOK Try.prog 19 L19 R19 2 := ⟨_, _, Try.func19, rfl, by kernel_rfl, by kernel_rfl, by kernel_rfl, by kernel_rfl, Nat.le_of_ble_eq_true (by kernel_rfl), by kernel_rfl⟩

/-- (*ablaut/ablautref18.Guesser).Sure -/
def L20 : LCode :=
 (.seq
 (.ops [⟨some 4, .assign (Operand.const (Value.string ⟨#[]⟩)), none, 0⟩,
 ⟨some 5, .assign (Operand.const (Value.bool false)), none, 0⟩,
 ⟨some 6, .assign (Operand.const (Value.int IntKind.i64 0)), none, 0⟩])
 (.seq
 (.ops [⟨some 12, .move (Operand.tmp 0), none, 0⟩,
 ⟨some 13, .move (Operand.tmp 1), none, 0⟩,
 ⟨some 14, .call ⟨(Callee.value (Operand.func 18)), [(Operand.tmp 12), (Operand.tmp 13)].toArray, #[31, 23]⟩, none, 0⟩,
 ⟨some 11, .move (Operand.tmp 14), none, 0⟩,
 ⟨some 15, .extract (Operand.tmp 11) 0, none, 0⟩,
 ⟨some 16, .extract (Operand.tmp 11) 1, none, 0⟩,
 ⟨some 7, .assign (Operand.tmp 15), none, 0⟩,
 ⟨some 8, .assign (Operand.tmp 16), none, 0⟩])
 (.seq
 (.seq
 (.ops [⟨some 17, .move (Operand.tmp 8), none, 0⟩,
 ⟨some 18, .binOp BinOp.neq 28 (Operand.tmp 17) (Operand.const (Value.int IntKind.i64 0)) 28, none, 0⟩])
 (.cond (Operand.tmp 18)
 (.seq
 (.ops [⟨some 19, .move (Operand.tmp 8), none, 0⟩,
 ⟨some 4, .assign (Operand.const (Value.string ⟨#[]⟩)), none, 0⟩,
 ⟨some 5, .assign (Operand.const (Value.bool false)), none, 0⟩,
 ⟨some 6, .assign (Operand.tmp 19), none, 0⟩])
 .ret)
 .skip))
 (.seq
 (.ops [⟨some 21, .move (Operand.tmp 0), none, 0⟩,
 ⟨some 22, .move (Operand.tmp 1), none, 0⟩,
 ⟨some 23, .move (Operand.tmp 7), none, 0⟩,
 ⟨some 24, .indexAddr 23 (Operand.tmp 23) (Operand.const (Value.int IntKind.i64 0)), none, 0⟩,
 ⟨some 25, .load 9 (Operand.tmp 24), none, 0⟩,
 ⟨some 26, .call ⟨(Callee.value (Operand.func 33)), [(Operand.tmp 21), (Operand.tmp 22), (Operand.tmp 25)].toArray, #[31, 23, 9]⟩, none, 0⟩,
 ⟨some 20, .move (Operand.tmp 26), none, 0⟩,
 ⟨some 27, .extract (Operand.tmp 20) 0, none, 0⟩,
 ⟨some 28, .extract (Operand.tmp 20) 1, none, 0⟩,
 ⟨some 9, .assign (Operand.tmp 27), none, 0⟩,
 ⟨some 10, .assign (Operand.tmp 28), none, 0⟩])
 (.seq
 (.ops [⟨some 29, .move (Operand.tmp 7), none, 0⟩,
 ⟨some 30, .indexAddr 23 (Operand.tmp 29) (Operand.const (Value.int IntKind.i64 0)), none, 0⟩,
 ⟨some 31, .load 9 (Operand.tmp 30), none, 0⟩,
 ⟨some 32, .move (Operand.tmp 9), none, 0⟩,
 ⟨some 33, .binOp BinOp.mul 3 (Operand.const (Value.int IntKind.i64 2)) (Operand.tmp 32) 3, none, 0⟩,
 ⟨some 34, .move (Operand.tmp 10), none, 0⟩,
 ⟨some 35, .binOp BinOp.gtr 3 (Operand.tmp 33) (Operand.tmp 34) 3, none, 0⟩,
 ⟨some 4, .assign (Operand.tmp 31), none, 0⟩,
 ⟨some 5, .assign (Operand.tmp 35), none, 0⟩,
 ⟨some 6, .assign (Operand.const (Value.int IntKind.i64 0)), none, 0⟩])
 .ret)))))
abbrev R20 : List ResultVar := [ResultVar.tmp 4, ResultVar.tmp 5, ResultVar.tmp 6]
theorem ok20 : FnOK Try.prog 20 L20 R20 2 := ⟨_, _, Try.func20, rfl, by kernel_rfl, by kernel_rfl, by kernel_rfl, by kernel_rfl, Nat.le_of_ble_eq_true (by kernel_rfl), by kernel_rfl⟩

/-- (*ablaut/guess.Guesser).Best -/
def L22 : LCode :=
 (.seq
 (.ops [⟨some 4, .assign (Operand.const (Value.int IntKind.i64 0)), none, 0⟩,
 ⟨some 5, .assign (Operand.const (Value.int IntKind.i64 0)), none, 0⟩])
 (.seq
 (.seq
 (.ops [⟨some 15, .move (Operand.tmp 1), none, 0⟩,
 ⟨some 16, .call ⟨(Callee.builtin Builtin.len), [(Operand.tmp 15)].toArray, #[46]⟩, none, 0⟩,
 ⟨some 17, .binOp BinOp.gtr 3 (Operand.tmp 16) (Operand.const (Value.int IntKind.i64 200)) 3, none, 0⟩])
 (.cond (Operand.tmp 17)
 (.seq
 (.ops [⟨some 4, .assign (Operand.const (Value.int IntKind.i64 0)), none, 0⟩,
 ⟨some 5, .assign (Operand.const (Value.int IntKind.i64 3)), none, 0⟩])
 .ret)
 .skip))
 (.seq
 (.seq
 (.ops [⟨some 18, .move (Operand.tmp 1), none, 0⟩,
 ⟨some 19, .call ⟨(Callee.builtin Builtin.len), [(Operand.tmp 18)].toArray, #[46]⟩, none, 0⟩,
 ⟨some 20, .move (Operand.const (Value.int IntKind.i64 0)), none, 0⟩])
 (.block 0
 (.loop
 (.seq
 (.ops [⟨some 21, .binOp BinOp.lss 3 (Operand.tmp 20) (Operand.tmp 19) 3, none, 0⟩])
 (.seq
 (.cond (Operand.tmp 21)
 .skip
 (.exit 0))
 (.seq
 (.block 1
 (.seq
 (.ops [⟨some 22, .indexAddr 46 (Operand.tmp 18) (Operand.tmp 20), none, 0⟩,
 ⟨some 23, .load 23 (Operand.tmp 22), none, 0⟩,
 ⟨some 7, .assign (Operand.tmp 23), none, 0⟩])
 (.seq
 (.ops [⟨some 24, .move (Operand.tmp 7), none, 0⟩,
 ⟨some 25, .call ⟨(Callee.value (Operand.func 28)), [(Operand.tmp 24)].toArray, #[23]⟩, none, 0⟩,
 ⟨some 8, .assign (Operand.tmp 25), none, 0⟩])
 (.seq
 (.ops [⟨some 26, .move (Operand.tmp 8), none, 0⟩,
 ⟨some 27, .binOp BinOp.neq 28 (Operand.tmp 26) (Operand.const (Value.int IntKind.i64 0)) 28, none, 0⟩])
 (.cond (Operand.tmp 27)
 (.seq
 (.ops [⟨some 28, .move (Operand.tmp 8), none, 0⟩,
 ⟨some 4, .assign (Operand.const (Value.int IntKind.i64 0)), none, 0⟩,
 ⟨some 5, .assign (Operand.tmp 28), none, 0⟩])
 .ret)
 .skip)))))
 (.ops [⟨some 29, .binOp BinOp.add 3 (Operand.tmp 20) (Operand.const (Value.int IntKind.i64 1)) 3, none, 0⟩,
 ⟨some 20, .move (Operand.tmp 29), none, 0⟩])))))))
 (.seq
 (.seq
 (.ops [⟨some 30, .move (Operand.tmp 0), none, 0⟩,
 ⟨some 31, .call ⟨(Callee.value (Operand.func 29)), [(Operand.tmp 30)].toArray, #[27]⟩, none, 0⟩])
 (.cond (Operand.tmp 31)
 (.seq
 (.ops [⟨some 4, .assign (Operand.const (Value.int IntKind.i64 0)), none, 0⟩,
 ⟨some 5, .assign (Operand.const (Value.int IntKind.i64 4)), none, 0⟩])
 .ret)
 .skip))
 (.seq
 (.ops [⟨some 9, .assign (Operand.const (Value.int IntKind.i64 0)), none, 0⟩])
 (.seq
 (.seq
 (.ops [⟨some 32, .move (Operand.tmp 1), none, 0⟩,
 ⟨some 33, .call ⟨(Callee.builtin Builtin.len), [(Operand.tmp 32)].toArray, #[46]⟩, none, 0⟩,
 ⟨some 34, .move (Operand.const (Value.int IntKind.i64 0)), none, 0⟩])
 (.block 2
 (.loop
 (.seq
 (.ops [⟨some 35, .binOp BinOp.lss 3 (Operand.tmp 34) (Operand.tmp 33) 3, none, 0⟩])
 (.seq
 (.cond (Operand.tmp 35)
 .skip
 (.exit 2))
 (.seq
 (.block 3
 (.seq
 (.ops [⟨some 36, .indexAddr 46 (Operand.tmp 32) (Operand.tmp 34), none, 0⟩,
 ⟨some 37, .load 23 (Operand.tmp 36), none, 0⟩,
 ⟨some 11, .assign (Operand.tmp 37), none, 0⟩])
 (.seq
 (.ops [⟨some 39, .move (Operand.tmp 0), none, 0⟩,
 ⟨some 40, .move (Operand.tmp 11), none, 0⟩,
 ⟨some 41, .call ⟨(Callee.value (Operand.func 19)), [(Operand.tmp 39), (Operand.tmp 40)].toArray, #[27, 23]⟩, none, 0⟩,
 ⟨some 38, .move (Operand.tmp 41), none, 0⟩,
 ⟨some 42, .extract (Operand.tmp 38) 0, none, 0⟩,
 ⟨some 43, .extract (Operand.tmp 38) 1, none, 0⟩,
 ⟨some 44, .extract (Operand.tmp 38) 2, none, 0⟩,
 ⟨some 12, .assign (Operand.tmp 42), none, 0⟩,
 ⟨some 13, .assign (Operand.tmp 43), none, 0⟩,
 ⟨some 14, .assign (Operand.tmp 44), none, 0⟩])
 (.seq
 (.ops [⟨some 45, .move (Operand.tmp 13), none, 0⟩])
 (.cond (Operand.tmp 45)
 (.ops [⟨some 46, .move (Operand.tmp 9), none, 0⟩,
 ⟨some 47, .binOp BinOp.add 3 (Operand.tmp 46) (Operand.const (Value.int IntKind.i64 1)) 3, none, 0⟩,
 ⟨some 9, .assign (Operand.tmp 47), none, 0⟩])
 .skip)))))
 (.ops [⟨some 48, .binOp BinOp.add 3 (Operand.tmp 34) (Operand.const (Value.int IntKind.i64 1)) 3, none, 0⟩,
 ⟨some 34, .move (Operand.tmp 48), none, 0⟩])))))))
 (.seq
 (.ops [⟨some 49, .move (Operand.tmp 9), none, 0⟩,
 ⟨some 4, .assign (Operand.tmp 49), none, 0⟩,
 ⟨some 5, .assign (Operand.const (Value.int IntKind.i64 0)), none, 0⟩])
 .ret)))))))
abbrev R22 : List ResultVar := [ResultVar.tmp 4, ResultVar.tmp 5]
theorem ok22 : FnOK Try.prog 22 L22 R22 2 := ⟨_, _, Try.func22, rfl, by kernel_rfl, by kernel_rfl, by kernel_rfl, by kernel_rfl, Nat.le_of_ble_eq_true (by kernel_rfl), by kernel_rfl⟩

/-- (*ablaut/ablautref18.Guesser).Best -/
def L23 : LCode :=
 (.seq
 (.ops [⟨some 4, .assign (Operand.const (Value.int IntKind.i64 0)), none, 0⟩,
 ⟨some 5, .assign (Operand.const (Value.int IntKind.i64 0)), none, 0⟩])
 (.seq
 (.seq
 (.ops [⟨some 12, .move (Operand.tmp 1), none, 0⟩,
 ⟨some 13, .call ⟨(Callee.builtin Builtin.len), [(Operand.tmp 12)].toArray, #[46]⟩, none, 0⟩,
 ⟨some 14, .binOp BinOp.gtr 3 (Operand.tmp 13) (Operand.const (Value.int IntKind.i64 200)) 3, none, 0⟩])
 (.cond (Operand.tmp 14)
 (.seq
 (.ops [⟨some 4, .assign (Operand.const (Value.int IntKind.i64 0)), none, 0⟩,
 ⟨some 5, .assign (Operand.const (Value.int IntKind.i64 3)), none, 0⟩])
 .ret)
 .skip))
 (.seq
 (.seq
 (.ops [⟨some 15, .move (Operand.tmp 0), none, 0⟩,
 ⟨some 16, .move (Operand.tmp 1), none, 0⟩,
 ⟨some 17, .call ⟨(Callee.value (Operand.func 32)), [(Operand.tmp 15), (Operand.tmp 16)].toArray, #[31, 46]⟩, none, 0⟩,
 ⟨some 6, .assign (Operand.tmp 17), none, 0⟩])
 (.seq
 (.ops [⟨some 18, .move (Operand.tmp 6), none, 0⟩,
 ⟨some 19, .binOp BinOp.neq 28 (Operand.tmp 18) (Operand.const (Value.int IntKind.i64 0)) 28, none, 0⟩])
 (.cond (Operand.tmp 19)
 (.seq
 (.ops [⟨some 20, .move (Operand.tmp 6), none, 0⟩,
 ⟨some 4, .assign (Operand.const (Value.int IntKind.i64 0)), none, 0⟩,
 ⟨some 5, .assign (Operand.tmp 20), none, 0⟩])
 .ret)
 .skip)))
 (.seq
 (.ops [⟨some 7, .assign (Operand.const (Value.int IntKind.i64 0)), none, 0⟩])
 (.seq
 (.seq
 (.ops [⟨some 8, .assign (Operand.const (Value.int IntKind.i64 0)), none, 0⟩])
 (.block 0
 (.loop
 (.seq
 (.seq
 (.ops [⟨some 21, .move (Operand.tmp 8), none, 0⟩,
 ⟨some 22, .move (Operand.tmp 1), none, 0⟩,
 ⟨some 23, .call ⟨(Callee.builtin Builtin.len), [(Operand.tmp 22)].toArray, #[46]⟩, none, 0⟩,
 ⟨some 24, .binOp BinOp.lss 3 (Operand.tmp 21) (Operand.tmp 23) 3, none, 0⟩])
 (.cond (Operand.tmp 24)
 .skip
 (.exit 0)))
 (.seq
 (.block 1
 (.seq
 (.ops [⟨some 28, .move (Operand.tmp 0), none, 0⟩,
 ⟨some 29, .move (Operand.tmp 1), none, 0⟩,
 ⟨some 30, .move (Operand.tmp 8), none, 0⟩,
 ⟨some 31, .indexAddr 46 (Operand.tmp 29) (Operand.tmp 30), none, 0⟩,
 ⟨some 32, .load 23 (Operand.tmp 31), none, 0⟩,
 ⟨some 33, .call ⟨(Callee.value (Operand.func 20)), [(Operand.tmp 28), (Operand.tmp 32)].toArray, #[31, 23]⟩, none, 0⟩,
 ⟨some 27, .move (Operand.tmp 33), none, 0⟩,
 ⟨some 34, .extract (Operand.tmp 27) 0, none, 0⟩,
 ⟨some 35, .extract (Operand.tmp 27) 1, none, 0⟩,
 ⟨some 36, .extract (Operand.tmp 27) 2, none, 0⟩,
 ⟨some 9, .assign (Operand.tmp 34), none, 0⟩,
 ⟨some 10, .assign (Operand.tmp 35), none, 0⟩,
 ⟨some 11, .assign (Operand.tmp 36), none, 0⟩])
 (.seq
 (.ops [⟨some 37, .move (Operand.tmp 10), none, 0⟩])
 (.cond (Operand.tmp 37)
 (.ops [⟨some 38, .move (Operand.tmp 7), none, 0⟩,
 ⟨some 39, .binOp BinOp.add 3 (Operand.tmp 38) (Operand.const (Value.int IntKind.i64 1)) 3, none, 0⟩,
 ⟨some 7, .assign (Operand.tmp 39), none, 0⟩])
 .skip))))
 (.ops [⟨some 25, .move (Operand.tmp 8), none, 0⟩,
 ⟨some 26, .binOp BinOp.add 3 (Operand.tmp 25) (Operand.const (Value.int IntKind.i64 1)) 3, none, 0⟩,
 ⟨some 8, .assign (Operand.tmp 26), none, 0⟩]))))))
 (.seq
 (.ops [⟨some 40, .move (Operand.tmp 7), none, 0⟩,
 ⟨some 4, .assign (Operand.tmp 40), none, 0⟩,
 ⟨some 5, .assign (Operand.const (Value.int IntKind.i64 0)), none, 0⟩])
 .ret))))))
abbrev R23 : List ResultVar := [ResultVar.tmp 4, ResultVar.tmp 5]
theorem ok23 : FnOK Try.prog 23 L23 R23 2 := ⟨_, _, Try.func23, rfl, by kernel_rfl, by kernel_rfl, by kernel_rfl, by kernel_rfl, Nat.le_of_ble_eq_true (by kernel_rfl), by kernel_rfl⟩
end Go.Proofs.Ythchlpikcpidaaa.Vs
