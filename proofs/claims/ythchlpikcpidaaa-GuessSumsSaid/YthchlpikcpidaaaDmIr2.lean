/- The seat's functions as the engine Dm reads them, written by dgen.py. -/
import Derived.Test.YthchlpikcpidaaaDmFn
import Derived.Test.YthchlpikcpidaaaProg
import Derived.KernelRfl
namespace Go.Proofs.Ythchlpikcpidaaa.Vs
set_option linter.unusedVariables false
set_option maxRecDepth 100000
/-- slices.stableCmpFunc[string] -/
def L54 : LCode :=
 (.seq
 (.ops [⟨some 6, .assign (Operand.const (Value.int IntKind.i64 20)), none, 0⟩])
 (.seq
 (.ops [⟨some 10, .move (Operand.tmp 6), none, 0⟩,
 ⟨some 7, .assign (Operand.const (Value.int IntKind.i64 0)), none, 0⟩,
 ⟨some 8, .assign (Operand.tmp 10), none, 0⟩])
 (.seq
 (.block 0
 (.loop
 (.seq
 (.seq
 (.ops [⟨some 11, .move (Operand.tmp 8), none, 0⟩,
 ⟨some 12, .move (Operand.tmp 1), none, 0⟩,
 ⟨some 13, .binOp BinOp.leq 3 (Operand.tmp 11) (Operand.tmp 12) 3, none, 0⟩])
 (.cond (Operand.tmp 13)
 .skip
 (.exit 0)))
 (.block 1
 (.seq
 (.ops [⟨some 14, .move (Operand.tmp 0), none, 0⟩,
 ⟨some 15, .move (Operand.tmp 7), none, 0⟩,
 ⟨some 16, .move (Operand.tmp 8), none, 0⟩,
 ⟨some 17, .move (Operand.tmp 2), none, 0⟩,
 ⟨some 18, .call ⟨(Callee.value (Operand.func 66)), [(Operand.tmp 14), (Operand.tmp 15), (Operand.tmp 16), (Operand.tmp 17)].toArray, #[23, 3, 3, 74]⟩, none, 0⟩])
 (.seq
 (.ops [⟨some 19, .move (Operand.tmp 8), none, 0⟩,
 ⟨some 7, .assign (Operand.tmp 19), none, 0⟩])
 (.ops [⟨some 20, .move (Operand.tmp 8), none, 0⟩,
 ⟨some 21, .move (Operand.tmp 6), none, 0⟩,
 ⟨some 22, .binOp BinOp.add 3 (Operand.tmp 20) (Operand.tmp 21) 3, none, 0⟩,
 ⟨some 8, .assign (Operand.tmp 22), none, 0⟩])))))))
 (.seq
 (.ops [⟨some 23, .move (Operand.tmp 0), none, 0⟩,
 ⟨some 24, .move (Operand.tmp 7), none, 0⟩,
 ⟨some 25, .move (Operand.tmp 1), none, 0⟩,
 ⟨some 26, .move (Operand.tmp 2), none, 0⟩,
 ⟨some 27, .call ⟨(Callee.value (Operand.func 66)), [(Operand.tmp 23), (Operand.tmp 24), (Operand.tmp 25), (Operand.tmp 26)].toArray, #[23, 3, 3, 74]⟩, none, 0⟩])
 (.block 2
 (.loop
 (.seq
 (.seq
 (.ops [⟨some 28, .move (Operand.tmp 6), none, 0⟩,
 ⟨some 29, .move (Operand.tmp 1), none, 0⟩,
 ⟨some 30, .binOp BinOp.lss 3 (Operand.tmp 28) (Operand.tmp 29) 3, none, 0⟩])
 (.cond (Operand.tmp 30)
 .skip
 (.exit 2)))
 (.block 3
 (.seq
 (.ops [⟨some 31, .move (Operand.tmp 6), none, 0⟩,
 ⟨some 32, .binOp BinOp.mul 3 (Operand.const (Value.int IntKind.i64 2)) (Operand.tmp 31) 3, none, 0⟩,
 ⟨some 7, .assign (Operand.const (Value.int IntKind.i64 0)), none, 0⟩,
 ⟨some 8, .assign (Operand.tmp 32), none, 0⟩])
 (.seq
 (.block 4
 (.loop
 (.seq
 (.seq
 (.ops [⟨some 33, .move (Operand.tmp 8), none, 0⟩,
 ⟨some 34, .move (Operand.tmp 1), none, 0⟩,
 ⟨some 35, .binOp BinOp.leq 3 (Operand.tmp 33) (Operand.tmp 34) 3, none, 0⟩])
 (.cond (Operand.tmp 35)
 .skip
 (.exit 4)))
 (.block 5
 (.seq
 (.ops [⟨some 36, .move (Operand.tmp 0), none, 0⟩,
 ⟨some 37, .move (Operand.tmp 7), none, 0⟩,
 ⟨some 38, .move (Operand.tmp 7), none, 0⟩,
 ⟨some 39, .move (Operand.tmp 6), none, 0⟩,
 ⟨some 40, .binOp BinOp.add 3 (Operand.tmp 38) (Operand.tmp 39) 3, none, 0⟩,
 ⟨some 41, .move (Operand.tmp 8), none, 0⟩,
 ⟨some 42, .move (Operand.tmp 2), none, 0⟩,
 ⟨some 43, .call ⟨(Callee.value (Operand.func 67)), [(Operand.tmp 36), (Operand.tmp 37), (Operand.tmp 40), (Operand.tmp 41), (Operand.tmp 42)].toArray, #[23, 3, 3, 3, 74]⟩, none, 0⟩])
 (.seq
 (.ops [⟨some 44, .move (Operand.tmp 8), none, 0⟩,
 ⟨some 7, .assign (Operand.tmp 44), none, 0⟩])
 (.ops [⟨some 45, .move (Operand.tmp 8), none, 0⟩,
 ⟨some 46, .move (Operand.tmp 6), none, 0⟩,
 ⟨some 47, .binOp BinOp.mul 3 (Operand.const (Value.int IntKind.i64 2)) (Operand.tmp 46) 3, none, 0⟩,
 ⟨some 48, .binOp BinOp.add 3 (Operand.tmp 45) (Operand.tmp 47) 3, none, 0⟩,
 ⟨some 8, .assign (Operand.tmp 48), none, 0⟩])))))))
 (.seq
 (.seq
 (.ops [⟨some 49, .move (Operand.tmp 7), none, 0⟩,
 ⟨some 50, .move (Operand.tmp 6), none, 0⟩,
 ⟨some 51, .binOp BinOp.add 3 (Operand.tmp 49) (Operand.tmp 50) 3, none, 0⟩,
 ⟨some 9, .assign (Operand.tmp 51), none, 0⟩])
 (.seq
 (.ops [⟨some 52, .move (Operand.tmp 9), none, 0⟩,
 ⟨some 53, .move (Operand.tmp 1), none, 0⟩,
 ⟨some 54, .binOp BinOp.lss 3 (Operand.tmp 52) (Operand.tmp 53) 3, none, 0⟩])
 (.cond (Operand.tmp 54)
 (.ops [⟨some 55, .move (Operand.tmp 0), none, 0⟩,
 ⟨some 56, .move (Operand.tmp 7), none, 0⟩,
 ⟨some 57, .move (Operand.tmp 9), none, 0⟩,
 ⟨some 58, .move (Operand.tmp 1), none, 0⟩,
 ⟨some 59, .move (Operand.tmp 2), none, 0⟩,
 ⟨some 60, .call ⟨(Callee.value (Operand.func 67)), [(Operand.tmp 55), (Operand.tmp 56), (Operand.tmp 57), (Operand.tmp 58), (Operand.tmp 59)].toArray, #[23, 3, 3, 3, 74]⟩, none, 0⟩])
 .skip)))
 (.ops [⟨some 61, .move (Operand.tmp 6), none, 0⟩,
 ⟨some 62, .binOp BinOp.mul 3 (Operand.tmp 61) (Operand.const (Value.int IntKind.i64 2)) 3, none, 0⟩,
 ⟨some 6, .assign (Operand.tmp 62), none, 0⟩]))))))))))))
abbrev R54 : List ResultVar := []
theorem ok54 : FnOK Try.prog 54 L54 R54 3 := ⟨_, _, Try.func54, rfl, by kernel_rfl, by kernel_rfl, by kernel_rfl, by kernel_rfl, Nat.le_of_ble_eq_true (by kernel_rfl), by kernel_rfl⟩

/-- cmp.Compare[int] -/
def L55 : LCode :=
 (.seq
 (.ops [⟨some 4, .assign (Operand.const (Value.int IntKind.i64 0)), none, 0⟩])
 (.seq
 (.ops [⟨some 7, .move (Operand.tmp 0), none, 0⟩,
 ⟨some 8, .call ⟨(Callee.value (Operand.func 68)), [(Operand.tmp 7)].toArray, #[3]⟩, none, 0⟩,
 ⟨some 5, .assign (Operand.tmp 8), none, 0⟩])
 (.seq
 (.ops [⟨some 9, .move (Operand.tmp 1), none, 0⟩,
 ⟨some 10, .call ⟨(Callee.value (Operand.func 68)), [(Operand.tmp 9)].toArray, #[3]⟩, none, 0⟩,
 ⟨some 6, .assign (Operand.tmp 10), none, 0⟩])
 (.seq
 (.seq
 (.ops [⟨some 11, .move (Operand.tmp 5), none, 0⟩])
 (.cond (Operand.tmp 11)
 (.seq
 (.seq
 (.ops [⟨some 12, .move (Operand.tmp 6), none, 0⟩])
 (.cond (Operand.tmp 12)
 (.seq
 (.ops [⟨some 4, .assign (Operand.const (Value.int IntKind.i64 0)), none, 0⟩])
 .ret)
 .skip))
 (.seq
 (.ops [⟨some 4, .assign (Operand.const (Value.int IntKind.i64 (-1))), none, 0⟩])
 .ret))
 .skip))
 (.seq
 (.seq
 (.ops [⟨some 13, .move (Operand.tmp 6), none, 0⟩])
 (.cond (Operand.tmp 13)
 (.seq
 (.ops [⟨some 4, .assign (Operand.const (Value.int IntKind.i64 1)), none, 0⟩])
 .ret)
 .skip))
 (.seq
 (.seq
 (.ops [⟨some 14, .move (Operand.tmp 0), none, 0⟩,
 ⟨some 15, .move (Operand.tmp 1), none, 0⟩,
 ⟨some 16, .binOp BinOp.lss 3 (Operand.tmp 14) (Operand.tmp 15) 3, none, 0⟩])
 (.cond (Operand.tmp 16)
 (.seq
 (.ops [⟨some 4, .assign (Operand.const (Value.int IntKind.i64 (-1))), none, 0⟩])
 .ret)
 .skip))
 (.seq
 (.seq
 (.ops [⟨some 17, .move (Operand.tmp 0), none, 0⟩,
 ⟨some 18, .move (Operand.tmp 1), none, 0⟩,
 ⟨some 19, .binOp BinOp.gtr 3 (Operand.tmp 17) (Operand.tmp 18) 3, none, 0⟩])
 (.cond (Operand.tmp 19)
 (.seq
 (.ops [⟨some 4, .assign (Operand.const (Value.int IntKind.i64 1)), none, 0⟩])
 .ret)
 .skip))
 (.seq
 (.ops [⟨some 4, .assign (Operand.const (Value.int IntKind.i64 0)), none, 0⟩])
 .ret))))))))
abbrev R55 : List ResultVar := [ResultVar.tmp 4]
theorem ok55 : FnOK Try.prog 55 L55 R55 2 := ⟨_, _, Try.func55, rfl, by kernel_rfl, by kernel_rfl, by kernel_rfl, by kernel_rfl, Nat.le_of_ble_eq_true (by kernel_rfl), by kernel_rfl⟩

/-- slices.IndexFunc[[]string,string] -/
def L62 : LCode :=
 (.seq
 (.ops [⟨some 4, .assign (Operand.const (Value.int IntKind.i64 0)), none, 0⟩])
 (.seq
 (.seq
 (.ops [⟨some 6, .move (Operand.tmp 0), none, 0⟩,
 ⟨some 7, .call ⟨(Callee.builtin Builtin.len), [(Operand.tmp 6)].toArray, #[23]⟩, none, 0⟩,
 ⟨some 8, .move (Operand.const (Value.int IntKind.i64 0)), none, 0⟩])
 (.block 0
 (.loop
 (.seq
 (.ops [⟨some 9, .binOp BinOp.lss 3 (Operand.tmp 8) (Operand.tmp 7) 3, none, 0⟩])
 (.seq
 (.cond (Operand.tmp 9)
 .skip
 (.exit 0))
 (.seq
 (.block 1
 (.seq
 (.ops [⟨some 10, .move (Operand.tmp 8), none, 0⟩,
 ⟨some 5, .assign (Operand.tmp 10), none, 0⟩])
 (.seq
 (.ops [⟨some 11, .move (Operand.tmp 1), none, 0⟩,
 ⟨some 12, .move (Operand.tmp 0), none, 0⟩,
 ⟨some 13, .move (Operand.tmp 5), none, 0⟩,
 ⟨some 14, .indexAddr 23 (Operand.tmp 12) (Operand.tmp 13), none, 0⟩,
 ⟨some 15, .load 9 (Operand.tmp 14), none, 0⟩,
 ⟨some 16, .call ⟨(Callee.value (Operand.tmp 11)), [(Operand.tmp 15)].toArray, #[9]⟩, none, 0⟩])
 (.cond (Operand.tmp 16)
 (.seq
 (.ops [⟨some 17, .move (Operand.tmp 5), none, 0⟩,
 ⟨some 4, .assign (Operand.tmp 17), none, 0⟩])
 .ret)
 .skip))))
 (.ops [⟨some 18, .binOp BinOp.add 3 (Operand.tmp 8) (Operand.const (Value.int IntKind.i64 1)) 3, none, 0⟩,
 ⟨some 8, .move (Operand.tmp 18), none, 0⟩])))))))
 (.seq
 (.ops [⟨some 4, .assign (Operand.const (Value.int IntKind.i64 (-1))), none, 0⟩])
 .ret)))
abbrev R62 : List ResultVar := [ResultVar.tmp 4]
theorem ok62 : FnOK Try.prog 62 L62 R62 2 := ⟨_, _, Try.func62, rfl, by kernel_rfl, by kernel_rfl, by kernel_rfl, by kernel_rfl, Nat.le_of_ble_eq_true (by kernel_rfl), by kernel_rfl⟩

/-- slices.insertionSortCmpFunc[string] -/
def L66 : LCode :=
 (.seq
 (.ops [⟨some 10, .move (Operand.tmp 1), none, 0⟩,
 ⟨some 11, .binOp BinOp.add 3 (Operand.tmp 10) (Operand.const (Value.int IntKind.i64 1)) 3, none, 0⟩,
 ⟨some 8, .assign (Operand.tmp 11), none, 0⟩])
 (.block 0
 (.loop
 (.seq
 (.seq
 (.ops [⟨some 12, .move (Operand.tmp 8), none, 0⟩,
 ⟨some 13, .move (Operand.tmp 2), none, 0⟩,
 ⟨some 14, .binOp BinOp.lss 3 (Operand.tmp 12) (Operand.tmp 13) 3, none, 0⟩])
 (.cond (Operand.tmp 14)
 .skip
 (.exit 0)))
 (.seq
 (.block 1
 (.seq
 (.ops [⟨some 17, .move (Operand.tmp 8), none, 0⟩,
 ⟨some 9, .assign (Operand.tmp 17), none, 0⟩])
 (.block 2
 (.loop
 (.seq
 (.seq
 (.draw [⟨some 18, .move (Operand.tmp 9), none, 0⟩,
 ⟨some 19, .move (Operand.tmp 1), none, 0⟩,
 ⟨some 20, .binOp BinOp.gtr 3 (Operand.tmp 18) (Operand.tmp 19) 3, none, 0⟩,
 ⟨some 21, .move (Operand.tmp 20), none, 0⟩,
 ⟨some 22, .move (Operand.tmp 3), some (21, true), 0⟩,
 ⟨some 23, .move (Operand.tmp 0), some (21, true), 0⟩,
 ⟨some 24, .move (Operand.tmp 9), some (21, true), 0⟩,
 ⟨some 25, .indexAddr 23 (Operand.tmp 23) (Operand.tmp 24), some (21, true), 0⟩,
 ⟨some 26, .load 9 (Operand.tmp 25), some (21, true), 0⟩,
 ⟨some 27, .move (Operand.tmp 0), some (21, true), 0⟩,
 ⟨some 28, .move (Operand.tmp 9), some (21, true), 0⟩,
 ⟨some 29, .binOp BinOp.sub 3 (Operand.tmp 28) (Operand.const (Value.int IntKind.i64 1)) 3, some (21, true), 0⟩,
 ⟨some 30, .indexAddr 23 (Operand.tmp 27) (Operand.tmp 29), some (21, true), 0⟩,
 ⟨some 31, .load 9 (Operand.tmp 30), some (21, true), 0⟩,
 ⟨some 32, .call ⟨(Callee.value (Operand.tmp 22)), [(Operand.tmp 26), (Operand.tmp 31)].toArray, #[9, 9]⟩, some (21, true), 0⟩,
 ⟨some 33, .binOp BinOp.lss 3 (Operand.tmp 32) (Operand.const (Value.int IntKind.i64 0)) 3, some (21, true), 0⟩,
 ⟨some 34, .pick (Operand.tmp 21) (Operand.tmp 33) (Operand.const (Value.bool false)), none, 0⟩] true [14, 15, 16] [0, 1, 2, 3, 4, 5, 6, 7, 9, 10, 11, 12, 8, 13, 14, 15, 16])
 (.cond (Operand.tmp 34)
 .skip
 (.exit 2)))
 (.seq
 (.block 3
 (.draw [⟨some 37, .move (Operand.tmp 0), none, 0⟩,
 ⟨some 38, .move (Operand.tmp 9), none, 0⟩,
 ⟨some 39, .move (Operand.tmp 0), none, 0⟩,
 ⟨some 40, .move (Operand.tmp 9), none, 0⟩,
 ⟨some 41, .binOp BinOp.sub 3 (Operand.tmp 40) (Operand.const (Value.int IntKind.i64 1)) 3, none, 0⟩,
 ⟨some 42, .move (Operand.tmp 0), none, 0⟩,
 ⟨some 43, .move (Operand.tmp 9), none, 0⟩,
 ⟨some 44, .binOp BinOp.sub 3 (Operand.tmp 43) (Operand.const (Value.int IntKind.i64 1)) 3, none, 0⟩,
 ⟨some 45, .indexAddr 23 (Operand.tmp 42) (Operand.tmp 44), none, 0⟩,
 ⟨some 46, .load 9 (Operand.tmp 45), none, 0⟩,
 ⟨some 47, .move (Operand.tmp 0), none, 0⟩,
 ⟨some 48, .move (Operand.tmp 9), none, 0⟩,
 ⟨some 49, .indexAddr 23 (Operand.tmp 47) (Operand.tmp 48), none, 0⟩,
 ⟨some 50, .load 9 (Operand.tmp 49), none, 0⟩,
 ⟨some 51, .indexAddr 23 (Operand.tmp 37) (Operand.tmp 38), none, 0⟩,
 ⟨none, .store 9 (Operand.tmp 51) (Operand.tmp 46), none, 0⟩,
 ⟨some 52, .indexAddr 23 (Operand.tmp 39) (Operand.tmp 41), none, 0⟩,
 ⟨none, .store 9 (Operand.tmp 52) (Operand.tmp 50), none, 0⟩] true [16, 17] [0, 1, 2, 3, 4, 5, 6, 7, 8, 10, 11, 12, 9, 13, 14, 15, 16, 17]))
 (.ops [⟨some 35, .move (Operand.tmp 9), none, 0⟩,
 ⟨some 36, .binOp BinOp.sub 3 (Operand.tmp 35) (Operand.const (Value.int IntKind.i64 1)) 3, none, 0⟩,
 ⟨some 9, .assign (Operand.tmp 36), none, 0⟩])))))))
 (.ops [⟨some 15, .move (Operand.tmp 8), none, 0⟩,
 ⟨some 16, .binOp BinOp.add 3 (Operand.tmp 15) (Operand.const (Value.int IntKind.i64 1)) 3, none, 0⟩,
 ⟨some 8, .assign (Operand.tmp 16), none, 0⟩]))))))
abbrev R66 : List ResultVar := []
theorem ok66 : FnOK Try.prog 66 L66 R66 4 := ⟨_, _, Try.func66, rfl, by kernel_rfl, by kernel_rfl, by kernel_rfl, by kernel_rfl, Nat.le_of_ble_eq_true (by kernel_rfl), by kernel_rfl⟩

/-- slices.symMergeCmpFunc[string] -/
def L67 : LCode :=
 (.seq
 (.seq
 (.ops [⟨some 25, .move (Operand.tmp 2), none, 0⟩,
 ⟨some 26, .move (Operand.tmp 1), none, 0⟩,
 ⟨some 27, .binOp BinOp.sub 3 (Operand.tmp 25) (Operand.tmp 26) 3, none, 0⟩,
 ⟨some 28, .binOp BinOp.eql 3 (Operand.tmp 27) (Operand.const (Value.int IntKind.i64 1)) 3, none, 0⟩])
 (.cond (Operand.tmp 28)
 (.seq
 (.ops [⟨some 29, .move (Operand.tmp 2), none, 0⟩,
 ⟨some 10, .assign (Operand.tmp 29), none, 0⟩])
 (.seq
 (.ops [⟨some 30, .move (Operand.tmp 3), none, 0⟩,
 ⟨some 11, .assign (Operand.tmp 30), none, 0⟩])
 (.seq
 (.block 0
 (.loop
 (.seq
 (.seq
 (.ops [⟨some 31, .move (Operand.tmp 10), none, 0⟩,
 ⟨some 32, .move (Operand.tmp 11), none, 0⟩,
 ⟨some 33, .binOp BinOp.lss 3 (Operand.tmp 31) (Operand.tmp 32) 3, none, 0⟩])
 (.cond (Operand.tmp 33)
 .skip
 (.exit 0)))
 (.block 1
 (.seq
 (.ops [⟨some 34, .move (Operand.tmp 10), none, 0⟩,
 ⟨some 35, .move (Operand.tmp 11), none, 0⟩,
 ⟨some 36, .binOp BinOp.add 3 (Operand.tmp 34) (Operand.tmp 35) 3, none, 0⟩,
 ⟨some 37, .convert 3 89 (Operand.tmp 36), none, 0⟩,
 ⟨some 38, .binOp BinOp.shr 89 (Operand.tmp 37) (Operand.const (Value.int IntKind.u64 1)) 89, none, 0⟩,
 ⟨some 39, .convert 89 3 (Operand.tmp 38), none, 0⟩,
 ⟨some 12, .assign (Operand.tmp 39), none, 0⟩])
 (.seq
 (.draw [⟨some 40, .move (Operand.tmp 4), none, 0⟩,
 ⟨some 41, .move (Operand.tmp 0), none, 0⟩,
 ⟨some 42, .move (Operand.tmp 12), none, 0⟩,
 ⟨some 43, .indexAddr 23 (Operand.tmp 41) (Operand.tmp 42), none, 0⟩,
 ⟨some 44, .load 9 (Operand.tmp 43), none, 0⟩,
 ⟨some 45, .move (Operand.tmp 0), none, 0⟩,
 ⟨some 46, .move (Operand.tmp 1), none, 0⟩,
 ⟨some 47, .indexAddr 23 (Operand.tmp 45) (Operand.tmp 46), none, 0⟩,
 ⟨some 48, .load 9 (Operand.tmp 47), none, 0⟩,
 ⟨some 49, .call ⟨(Callee.value (Operand.tmp 40)), [(Operand.tmp 44), (Operand.tmp 48)].toArray, #[9, 9]⟩, none, 0⟩,
 ⟨some 50, .binOp BinOp.lss 3 (Operand.tmp 49) (Operand.const (Value.int IntKind.i64 0)) 3, none, 0⟩] true [9, 10] [0, 1, 2, 3, 5, 6, 7, 4, 8, 9, 10])
 (.cond (Operand.tmp 50)
 (.ops [⟨some 51, .move (Operand.tmp 12), none, 0⟩,
 ⟨some 52, .binOp BinOp.add 3 (Operand.tmp 51) (Operand.const (Value.int IntKind.i64 1)) 3, none, 0⟩,
 ⟨some 10, .assign (Operand.tmp 52), none, 0⟩])
 (.ops [⟨some 53, .move (Operand.tmp 12), none, 0⟩,
 ⟨some 11, .assign (Operand.tmp 53), none, 0⟩]))))))))
 (.seq
 (.seq
 (.ops [⟨some 54, .move (Operand.tmp 1), none, 0⟩,
 ⟨some 13, .assign (Operand.tmp 54), none, 0⟩])
 (.block 2
 (.loop
 (.seq
 (.seq
 (.ops [⟨some 55, .move (Operand.tmp 13), none, 0⟩,
 ⟨some 56, .move (Operand.tmp 10), none, 0⟩,
 ⟨some 57, .binOp BinOp.sub 3 (Operand.tmp 56) (Operand.const (Value.int IntKind.i64 1)) 3, none, 0⟩,
 ⟨some 58, .binOp BinOp.lss 3 (Operand.tmp 55) (Operand.tmp 57) 3, none, 0⟩])
 (.cond (Operand.tmp 58)
 .skip
 (.exit 2)))
 (.seq
 (.block 3
 (.draw [⟨some 61, .move (Operand.tmp 0), none, 0⟩,
 ⟨some 62, .move (Operand.tmp 13), none, 0⟩,
 ⟨some 63, .move (Operand.tmp 0), none, 0⟩,
 ⟨some 64, .move (Operand.tmp 13), none, 0⟩,
 ⟨some 65, .binOp BinOp.add 3 (Operand.tmp 64) (Operand.const (Value.int IntKind.i64 1)) 3, none, 0⟩,
 ⟨some 66, .move (Operand.tmp 0), none, 0⟩,
 ⟨some 67, .move (Operand.tmp 13), none, 0⟩,
 ⟨some 68, .binOp BinOp.add 3 (Operand.tmp 67) (Operand.const (Value.int IntKind.i64 1)) 3, none, 0⟩,
 ⟨some 69, .indexAddr 23 (Operand.tmp 66) (Operand.tmp 68), none, 0⟩,
 ⟨some 70, .load 9 (Operand.tmp 69), none, 0⟩,
 ⟨some 71, .move (Operand.tmp 0), none, 0⟩,
 ⟨some 72, .move (Operand.tmp 13), none, 0⟩,
 ⟨some 73, .indexAddr 23 (Operand.tmp 71) (Operand.tmp 72), none, 0⟩,
 ⟨some 74, .load 9 (Operand.tmp 73), none, 0⟩,
 ⟨some 75, .indexAddr 23 (Operand.tmp 61) (Operand.tmp 62), none, 0⟩,
 ⟨none, .store 9 (Operand.tmp 75) (Operand.tmp 70), none, 0⟩,
 ⟨some 76, .indexAddr 23 (Operand.tmp 63) (Operand.tmp 65), none, 0⟩,
 ⟨none, .store 9 (Operand.tmp 76) (Operand.tmp 74), none, 0⟩] true [16, 17] [0, 1, 2, 3, 4, 5, 6, 7, 8, 10, 11, 12, 9, 13, 14, 15, 16, 17]))
 (.ops [⟨some 59, .move (Operand.tmp 13), none, 0⟩,
 ⟨some 60, .binOp BinOp.add 3 (Operand.tmp 59) (Operand.const (Value.int IntKind.i64 1)) 3, none, 0⟩,
 ⟨some 13, .assign (Operand.tmp 60), none, 0⟩]))))))
 .ret))))
 .skip))
 (.seq
 (.seq
 (.ops [⟨some 77, .move (Operand.tmp 3), none, 0⟩,
 ⟨some 78, .move (Operand.tmp 2), none, 0⟩,
 ⟨some 79, .binOp BinOp.sub 3 (Operand.tmp 77) (Operand.tmp 78) 3, none, 0⟩,
 ⟨some 80, .binOp BinOp.eql 3 (Operand.tmp 79) (Operand.const (Value.int IntKind.i64 1)) 3, none, 0⟩])
 (.cond (Operand.tmp 80)
 (.seq
 (.ops [⟨some 81, .move (Operand.tmp 1), none, 0⟩,
 ⟨some 14, .assign (Operand.tmp 81), none, 0⟩])
 (.seq
 (.ops [⟨some 82, .move (Operand.tmp 2), none, 0⟩,
 ⟨some 15, .assign (Operand.tmp 82), none, 0⟩])
 (.seq
 (.block 4
 (.loop
 (.seq
 (.seq
 (.ops [⟨some 83, .move (Operand.tmp 14), none, 0⟩,
 ⟨some 84, .move (Operand.tmp 15), none, 0⟩,
 ⟨some 85, .binOp BinOp.lss 3 (Operand.tmp 83) (Operand.tmp 84) 3, none, 0⟩])
 (.cond (Operand.tmp 85)
 .skip
 (.exit 4)))
 (.block 5
 (.seq
 (.ops [⟨some 86, .move (Operand.tmp 14), none, 0⟩,
 ⟨some 87, .move (Operand.tmp 15), none, 0⟩,
 ⟨some 88, .binOp BinOp.add 3 (Operand.tmp 86) (Operand.tmp 87) 3, none, 0⟩,
 ⟨some 89, .convert 3 89 (Operand.tmp 88), none, 0⟩,
 ⟨some 90, .binOp BinOp.shr 89 (Operand.tmp 89) (Operand.const (Value.int IntKind.u64 1)) 89, none, 0⟩,
 ⟨some 91, .convert 89 3 (Operand.tmp 90), none, 0⟩,
 ⟨some 16, .assign (Operand.tmp 91), none, 0⟩])
 (.seq
 (.draw [⟨some 92, .move (Operand.tmp 4), none, 0⟩,
 ⟨some 93, .move (Operand.tmp 0), none, 0⟩,
 ⟨some 94, .move (Operand.tmp 2), none, 0⟩,
 ⟨some 95, .indexAddr 23 (Operand.tmp 93) (Operand.tmp 94), none, 0⟩,
 ⟨some 96, .load 9 (Operand.tmp 95), none, 0⟩,
 ⟨some 97, .move (Operand.tmp 0), none, 0⟩,
 ⟨some 98, .move (Operand.tmp 16), none, 0⟩,
 ⟨some 99, .indexAddr 23 (Operand.tmp 97) (Operand.tmp 98), none, 0⟩,
 ⟨some 100, .load 9 (Operand.tmp 99), none, 0⟩,
 ⟨some 101, .call ⟨(Callee.value (Operand.tmp 92)), [(Operand.tmp 96), (Operand.tmp 100)].toArray, #[9, 9]⟩, none, 0⟩,
 ⟨some 102, .binOp BinOp.lss 3 (Operand.tmp 101) (Operand.const (Value.int IntKind.i64 0)) 3, none, 0⟩,
 ⟨some 103, .unOp UnOp.not 4 (Operand.tmp 102), none, 0⟩] true [9, 10, 11] [0, 1, 2, 3, 5, 6, 7, 4, 8, 9, 10, 11])
 (.cond (Operand.tmp 103)
 (.ops [⟨some 104, .move (Operand.tmp 16), none, 0⟩,
 ⟨some 105, .binOp BinOp.add 3 (Operand.tmp 104) (Operand.const (Value.int IntKind.i64 1)) 3, none, 0⟩,
 ⟨some 14, .assign (Operand.tmp 105), none, 0⟩])
 (.ops [⟨some 106, .move (Operand.tmp 16), none, 0⟩,
 ⟨some 15, .assign (Operand.tmp 106), none, 0⟩]))))))))
 (.seq
 (.seq
 (.ops [⟨some 107, .move (Operand.tmp 2), none, 0⟩,
 ⟨some 17, .assign (Operand.tmp 107), none, 0⟩])
 (.block 6
 (.loop
 (.seq
 (.seq
 (.ops [⟨some 108, .move (Operand.tmp 17), none, 0⟩,
 ⟨some 109, .move (Operand.tmp 14), none, 0⟩,
 ⟨some 110, .binOp BinOp.gtr 3 (Operand.tmp 108) (Operand.tmp 109) 3, none, 0⟩])
 (.cond (Operand.tmp 110)
 .skip
 (.exit 6)))
 (.seq
 (.block 7
 (.draw [⟨some 113, .move (Operand.tmp 0), none, 0⟩,
 ⟨some 114, .move (Operand.tmp 17), none, 0⟩,
 ⟨some 115, .move (Operand.tmp 0), none, 0⟩,
 ⟨some 116, .move (Operand.tmp 17), none, 0⟩,
 ⟨some 117, .binOp BinOp.sub 3 (Operand.tmp 116) (Operand.const (Value.int IntKind.i64 1)) 3, none, 0⟩,
 ⟨some 118, .move (Operand.tmp 0), none, 0⟩,
 ⟨some 119, .move (Operand.tmp 17), none, 0⟩,
 ⟨some 120, .binOp BinOp.sub 3 (Operand.tmp 119) (Operand.const (Value.int IntKind.i64 1)) 3, none, 0⟩,
 ⟨some 121, .indexAddr 23 (Operand.tmp 118) (Operand.tmp 120), none, 0⟩,
 ⟨some 122, .load 9 (Operand.tmp 121), none, 0⟩,
 ⟨some 123, .move (Operand.tmp 0), none, 0⟩,
 ⟨some 124, .move (Operand.tmp 17), none, 0⟩,
 ⟨some 125, .indexAddr 23 (Operand.tmp 123) (Operand.tmp 124), none, 0⟩,
 ⟨some 126, .load 9 (Operand.tmp 125), none, 0⟩,
 ⟨some 127, .indexAddr 23 (Operand.tmp 113) (Operand.tmp 114), none, 0⟩,
 ⟨none, .store 9 (Operand.tmp 127) (Operand.tmp 122), none, 0⟩,
 ⟨some 128, .indexAddr 23 (Operand.tmp 115) (Operand.tmp 117), none, 0⟩,
 ⟨none, .store 9 (Operand.tmp 128) (Operand.tmp 126), none, 0⟩] true [16, 17] [0, 1, 2, 3, 4, 5, 6, 7, 8, 10, 11, 12, 9, 13, 14, 15, 16, 17]))
 (.ops [⟨some 111, .move (Operand.tmp 17), none, 0⟩,
 ⟨some 112, .binOp BinOp.sub 3 (Operand.tmp 111) (Operand.const (Value.int IntKind.i64 1)) 3, none, 0⟩,
 ⟨some 17, .assign (Operand.tmp 112), none, 0⟩]))))))
 .ret))))
 .skip))
 (.seq
 (.ops [⟨some 129, .move (Operand.tmp 1), none, 0⟩,
 ⟨some 130, .move (Operand.tmp 3), none, 0⟩,
 ⟨some 131, .binOp BinOp.add 3 (Operand.tmp 129) (Operand.tmp 130) 3, none, 0⟩,
 ⟨some 132, .convert 3 89 (Operand.tmp 131), none, 0⟩,
 ⟨some 133, .binOp BinOp.shr 89 (Operand.tmp 132) (Operand.const (Value.int IntKind.u64 1)) 89, none, 0⟩,
 ⟨some 134, .convert 89 3 (Operand.tmp 133), none, 0⟩,
 ⟨some 18, .assign (Operand.tmp 134), none, 0⟩])
 (.seq
 (.ops [⟨some 135, .move (Operand.tmp 18), none, 0⟩,
 ⟨some 136, .move (Operand.tmp 2), none, 0⟩,
 ⟨some 137, .binOp BinOp.add 3 (Operand.tmp 135) (Operand.tmp 136) 3, none, 0⟩,
 ⟨some 19, .assign (Operand.tmp 137), none, 0⟩])
 (.seq
 (.ops [⟨some 20, .assign (Operand.const (Value.int IntKind.i64 0)), none, 0⟩,
 ⟨some 21, .assign (Operand.const (Value.int IntKind.i64 0)), none, 0⟩])
 (.seq
 (.seq
 (.ops [⟨some 138, .move (Operand.tmp 2), none, 0⟩,
 ⟨some 139, .move (Operand.tmp 18), none, 0⟩,
 ⟨some 140, .binOp BinOp.gtr 3 (Operand.tmp 138) (Operand.tmp 139) 3, none, 0⟩])
 (.cond (Operand.tmp 140)
 (.seq
 (.ops [⟨some 141, .move (Operand.tmp 19), none, 0⟩,
 ⟨some 142, .move (Operand.tmp 3), none, 0⟩,
 ⟨some 143, .binOp BinOp.sub 3 (Operand.tmp 141) (Operand.tmp 142) 3, none, 0⟩,
 ⟨some 20, .assign (Operand.tmp 143), none, 0⟩])
 (.ops [⟨some 144, .move (Operand.tmp 18), none, 0⟩,
 ⟨some 21, .assign (Operand.tmp 144), none, 0⟩]))
 (.seq
 (.ops [⟨some 145, .move (Operand.tmp 1), none, 0⟩,
 ⟨some 20, .assign (Operand.tmp 145), none, 0⟩])
 (.ops [⟨some 146, .move (Operand.tmp 2), none, 0⟩,
 ⟨some 21, .assign (Operand.tmp 146), none, 0⟩]))))
 (.seq
 (.ops [⟨some 147, .move (Operand.tmp 19), none, 0⟩,
 ⟨some 148, .binOp BinOp.sub 3 (Operand.tmp 147) (Operand.const (Value.int IntKind.i64 1)) 3, none, 0⟩,
 ⟨some 22, .assign (Operand.tmp 148), none, 0⟩])
 (.seq
 (.block 8
 (.loop
 (.seq
 (.seq
 (.ops [⟨some 149, .move (Operand.tmp 20), none, 0⟩,
 ⟨some 150, .move (Operand.tmp 21), none, 0⟩,
 ⟨some 151, .binOp BinOp.lss 3 (Operand.tmp 149) (Operand.tmp 150) 3, none, 0⟩])
 (.cond (Operand.tmp 151)
 .skip
 (.exit 8)))
 (.block 9
 (.seq
 (.ops [⟨some 152, .move (Operand.tmp 20), none, 0⟩,
 ⟨some 153, .move (Operand.tmp 21), none, 0⟩,
 ⟨some 154, .binOp BinOp.add 3 (Operand.tmp 152) (Operand.tmp 153) 3, none, 0⟩,
 ⟨some 155, .convert 3 89 (Operand.tmp 154), none, 0⟩,
 ⟨some 156, .binOp BinOp.shr 89 (Operand.tmp 155) (Operand.const (Value.int IntKind.u64 1)) 89, none, 0⟩,
 ⟨some 157, .convert 89 3 (Operand.tmp 156), none, 0⟩,
 ⟨some 23, .assign (Operand.tmp 157), none, 0⟩])
 (.seq
 (.draw [⟨some 158, .move (Operand.tmp 4), none, 0⟩,
 ⟨some 159, .move (Operand.tmp 0), none, 0⟩,
 ⟨some 160, .move (Operand.tmp 22), none, 0⟩,
 ⟨some 161, .move (Operand.tmp 23), none, 0⟩,
 ⟨some 162, .binOp BinOp.sub 3 (Operand.tmp 160) (Operand.tmp 161) 3, none, 0⟩,
 ⟨some 163, .indexAddr 23 (Operand.tmp 159) (Operand.tmp 162), none, 0⟩,
 ⟨some 164, .load 9 (Operand.tmp 163), none, 0⟩,
 ⟨some 165, .move (Operand.tmp 0), none, 0⟩,
 ⟨some 166, .move (Operand.tmp 23), none, 0⟩,
 ⟨some 167, .indexAddr 23 (Operand.tmp 165) (Operand.tmp 166), none, 0⟩,
 ⟨some 168, .load 9 (Operand.tmp 167), none, 0⟩,
 ⟨some 169, .call ⟨(Callee.value (Operand.tmp 158)), [(Operand.tmp 164), (Operand.tmp 168)].toArray, #[9, 9]⟩, none, 0⟩,
 ⟨some 170, .binOp BinOp.lss 3 (Operand.tmp 169) (Operand.const (Value.int IntKind.i64 0)) 3, none, 0⟩,
 ⟨some 171, .unOp UnOp.not 4 (Operand.tmp 170), none, 0⟩] true [11, 12, 13] [0, 1, 2, 3, 4, 5, 7, 8, 9, 6, 10, 11, 12, 13])
 (.cond (Operand.tmp 171)
 (.ops [⟨some 172, .move (Operand.tmp 23), none, 0⟩,
 ⟨some 173, .binOp BinOp.add 3 (Operand.tmp 172) (Operand.const (Value.int IntKind.i64 1)) 3, none, 0⟩,
 ⟨some 20, .assign (Operand.tmp 173), none, 0⟩])
 (.ops [⟨some 174, .move (Operand.tmp 23), none, 0⟩,
 ⟨some 21, .assign (Operand.tmp 174), none, 0⟩]))))))))
 (.seq
 (.ops [⟨some 175, .move (Operand.tmp 19), none, 0⟩,
 ⟨some 176, .move (Operand.tmp 20), none, 0⟩,
 ⟨some 177, .binOp BinOp.sub 3 (Operand.tmp 175) (Operand.tmp 176) 3, none, 0⟩,
 ⟨some 24, .assign (Operand.tmp 177), none, 0⟩])
 (.seq
 (.seq
 (.ops [⟨some 178, .move (Operand.tmp 20), none, 0⟩,
 ⟨some 179, .move (Operand.tmp 2), none, 0⟩,
 ⟨some 180, .binOp BinOp.lss 3 (Operand.tmp 178) (Operand.tmp 179) 3, none, 0⟩,
 ⟨some 181, .move (Operand.tmp 180), none, 0⟩,
 ⟨some 182, .move (Operand.tmp 2), some (181, true), 0⟩,
 ⟨some 183, .move (Operand.tmp 24), some (181, true), 0⟩,
 ⟨some 184, .binOp BinOp.lss 3 (Operand.tmp 182) (Operand.tmp 183) 3, some (181, true), 0⟩,
 ⟨some 185, .pick (Operand.tmp 181) (Operand.tmp 184) (Operand.const (Value.bool false)), none, 0⟩])
 (.cond (Operand.tmp 185)
 (.ops [⟨some 186, .move (Operand.tmp 0), none, 0⟩,
 ⟨some 187, .move (Operand.tmp 20), none, 0⟩,
 ⟨some 188, .move (Operand.tmp 2), none, 0⟩,
 ⟨some 189, .move (Operand.tmp 24), none, 0⟩,
 ⟨some 190, .move (Operand.tmp 4), none, 0⟩,
 ⟨some 191, .call ⟨(Callee.value (Operand.func 83)), [(Operand.tmp 186), (Operand.tmp 187), (Operand.tmp 188), (Operand.tmp 189), (Operand.tmp 190)].toArray, #[23, 3, 3, 3, 74]⟩, none, 0⟩])
 .skip))
 (.seq
 (.seq
 (.ops [⟨some 192, .move (Operand.tmp 1), none, 0⟩,
 ⟨some 193, .move (Operand.tmp 20), none, 0⟩,
 ⟨some 194, .binOp BinOp.lss 3 (Operand.tmp 192) (Operand.tmp 193) 3, none, 0⟩,
 ⟨some 195, .move (Operand.tmp 194), none, 0⟩,
 ⟨some 196, .move (Operand.tmp 20), some (195, true), 0⟩,
 ⟨some 197, .move (Operand.tmp 18), some (195, true), 0⟩,
 ⟨some 198, .binOp BinOp.lss 3 (Operand.tmp 196) (Operand.tmp 197) 3, some (195, true), 0⟩,
 ⟨some 199, .pick (Operand.tmp 195) (Operand.tmp 198) (Operand.const (Value.bool false)), none, 0⟩])
 (.cond (Operand.tmp 199)
 (.ops [⟨some 200, .move (Operand.tmp 0), none, 0⟩,
 ⟨some 201, .move (Operand.tmp 1), none, 0⟩,
 ⟨some 202, .move (Operand.tmp 20), none, 0⟩,
 ⟨some 203, .move (Operand.tmp 18), none, 0⟩,
 ⟨some 204, .move (Operand.tmp 4), none, 0⟩,
 ⟨some 205, .call ⟨(Callee.value (Operand.func 67)), [(Operand.tmp 200), (Operand.tmp 201), (Operand.tmp 202), (Operand.tmp 203), (Operand.tmp 204)].toArray, #[23, 3, 3, 3, 74]⟩, none, 0⟩])
 .skip))
 (.seq
 (.ops [⟨some 206, .move (Operand.tmp 18), none, 0⟩,
 ⟨some 207, .move (Operand.tmp 24), none, 0⟩,
 ⟨some 208, .binOp BinOp.lss 3 (Operand.tmp 206) (Operand.tmp 207) 3, none, 0⟩,
 ⟨some 209, .move (Operand.tmp 208), none, 0⟩,
 ⟨some 210, .move (Operand.tmp 24), some (209, true), 0⟩,
 ⟨some 211, .move (Operand.tmp 3), some (209, true), 0⟩,
 ⟨some 212, .binOp BinOp.lss 3 (Operand.tmp 210) (Operand.tmp 211) 3, some (209, true), 0⟩,
 ⟨some 213, .pick (Operand.tmp 209) (Operand.tmp 212) (Operand.const (Value.bool false)), none, 0⟩])
 (.cond (Operand.tmp 213)
 (.ops [⟨some 214, .move (Operand.tmp 0), none, 0⟩,
 ⟨some 215, .move (Operand.tmp 18), none, 0⟩,
 ⟨some 216, .move (Operand.tmp 24), none, 0⟩,
 ⟨some 217, .move (Operand.tmp 3), none, 0⟩,
 ⟨some 218, .move (Operand.tmp 4), none, 0⟩,
 ⟨some 219, .call ⟨(Callee.value (Operand.func 67)), [(Operand.tmp 214), (Operand.tmp 215), (Operand.tmp 216), (Operand.tmp 217), (Operand.tmp 218)].toArray, #[23, 3, 3, 3, 74]⟩, none, 0⟩])
 .skip)))))))))))))
abbrev R67 : List ResultVar := []
theorem ok67 : FnOK Try.prog 67 L67 R67 5 := ⟨_, _, Try.func67, rfl, by kernel_rfl, by kernel_rfl, by kernel_rfl, by kernel_rfl, Nat.le_of_ble_eq_true (by kernel_rfl), by kernel_rfl⟩

/-- cmp.isNaN[int] -/
def L68 : LCode :=
 (.seq
 (.ops [⟨some 2, .assign (Operand.const (Value.bool false)), none, 0⟩])
 (.seq
 (.ops [⟨some 3, .move (Operand.tmp 0), none, 0⟩,
 ⟨some 4, .move (Operand.tmp 0), none, 0⟩,
 ⟨some 5, .binOp BinOp.neq 3 (Operand.tmp 3) (Operand.tmp 4) 3, none, 0⟩,
 ⟨some 2, .assign (Operand.tmp 5), none, 0⟩])
 .ret))
abbrev R68 : List ResultVar := [ResultVar.tmp 2]
theorem ok68 : FnOK Try.prog 68 L68 R68 1 := ⟨_, _, Try.func68, rfl, by kernel_rfl, by kernel_rfl, by kernel_rfl, by kernel_rfl, Nat.le_of_ble_eq_true (by kernel_rfl), by kernel_rfl⟩

end Go.Proofs.Ythchlpikcpidaaa.Vs
