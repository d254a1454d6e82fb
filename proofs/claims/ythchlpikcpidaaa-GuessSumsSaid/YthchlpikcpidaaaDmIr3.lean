/- The seat's functions as the engine Dm reads them, written by dgen.py. -/
import Derived.Test.YthchlpikcpidaaaDmFn
import Derived.Test.YthchlpikcpidaaaProg
import Derived.KernelRfl
namespace Go.Proofs.Ythchlpikcpidaaa.Vs
set_option linter.unusedVariables false
set_option maxRecDepth 100000
/-- slices.rotateCmpFunc[string] -/
def L83 : LCode :=
 (.seq
 (.ops [⟨some 12, .move (Operand.tmp 2), none, 0⟩,
 ⟨some 13, .move (Operand.tmp 1), none, 0⟩,
 ⟨some 14, .binOp BinOp.sub 3 (Operand.tmp 12) (Operand.tmp 13) 3, none, 0⟩,
 ⟨some 10, .assign (Operand.tmp 14), none, 0⟩])
 (.seq
 (.ops [⟨some 15, .move (Operand.tmp 3), none, 0⟩,
 ⟨some 16, .move (Operand.tmp 2), none, 0⟩,
 ⟨some 17, .binOp BinOp.sub 3 (Operand.tmp 15) (Operand.tmp 16) 3, none, 0⟩,
 ⟨some 11, .assign (Operand.tmp 17), none, 0⟩])
 (.seq
 (.block 0
 (.loop
 (.seq
 (.seq
 (.ops [⟨some 18, .move (Operand.tmp 10), none, 0⟩,
 ⟨some 19, .move (Operand.tmp 11), none, 0⟩,
 ⟨some 20, .binOp BinOp.neq 3 (Operand.tmp 18) (Operand.tmp 19) 3, none, 0⟩])
 (.cond (Operand.tmp 20)
 .skip
 (.exit 0)))
 (.block 1
 (.seq
 (.ops [⟨some 21, .move (Operand.tmp 10), none, 0⟩,
 ⟨some 22, .move (Operand.tmp 11), none, 0⟩,
 ⟨some 23, .binOp BinOp.gtr 3 (Operand.tmp 21) (Operand.tmp 22) 3, none, 0⟩])
 (.cond (Operand.tmp 23)
 (.seq
 (.ops [⟨some 24, .move (Operand.tmp 0), none, 0⟩,
 ⟨some 25, .move (Operand.tmp 2), none, 0⟩,
 ⟨some 26, .move (Operand.tmp 10), none, 0⟩,
 ⟨some 27, .binOp BinOp.sub 3 (Operand.tmp 25) (Operand.tmp 26) 3, none, 0⟩,
 ⟨some 28, .move (Operand.tmp 2), none, 0⟩,
 ⟨some 29, .move (Operand.tmp 11), none, 0⟩,
 ⟨some 30, .move (Operand.tmp 4), none, 0⟩,
 ⟨some 31, .call ⟨(Callee.value (Operand.func 92)), [(Operand.tmp 24), (Operand.tmp 27), (Operand.tmp 28), (Operand.tmp 29), (Operand.tmp 30)].toArray, #[23, 3, 3, 3, 74]⟩, none, 0⟩])
 (.ops [⟨some 32, .move (Operand.tmp 10), none, 0⟩,
 ⟨some 33, .move (Operand.tmp 11), none, 0⟩,
 ⟨some 34, .binOp BinOp.sub 3 (Operand.tmp 32) (Operand.tmp 33) 3, none, 0⟩,
 ⟨some 10, .assign (Operand.tmp 34), none, 0⟩]))
 (.seq
 (.ops [⟨some 35, .move (Operand.tmp 0), none, 0⟩,
 ⟨some 36, .move (Operand.tmp 2), none, 0⟩,
 ⟨some 37, .move (Operand.tmp 10), none, 0⟩,
 ⟨some 38, .binOp BinOp.sub 3 (Operand.tmp 36) (Operand.tmp 37) 3, none, 0⟩,
 ⟨some 39, .move (Operand.tmp 2), none, 0⟩,
 ⟨some 40, .move (Operand.tmp 11), none, 0⟩,
 ⟨some 41, .binOp BinOp.add 3 (Operand.tmp 39) (Operand.tmp 40) 3, none, 0⟩,
 ⟨some 42, .move (Operand.tmp 10), none, 0⟩,
 ⟨some 43, .binOp BinOp.sub 3 (Operand.tmp 41) (Operand.tmp 42) 3, none, 0⟩,
 ⟨some 44, .move (Operand.tmp 10), none, 0⟩,
 ⟨some 45, .move (Operand.tmp 4), none, 0⟩,
 ⟨some 46, .call ⟨(Callee.value (Operand.func 92)), [(Operand.tmp 35), (Operand.tmp 38), (Operand.tmp 43), (Operand.tmp 44), (Operand.tmp 45)].toArray, #[23, 3, 3, 3, 74]⟩, none, 0⟩])
 (.ops [⟨some 47, .move (Operand.tmp 11), none, 0⟩,
 ⟨some 48, .move (Operand.tmp 10), none, 0⟩,
 ⟨some 49, .binOp BinOp.sub 3 (Operand.tmp 47) (Operand.tmp 48) 3, none, 0⟩,
 ⟨some 11, .assign (Operand.tmp 49), none, 0⟩]))))))))
 (.ops [⟨some 50, .move (Operand.tmp 0), none, 0⟩,
 ⟨some 51, .move (Operand.tmp 2), none, 0⟩,
 ⟨some 52, .move (Operand.tmp 10), none, 0⟩,
 ⟨some 53, .binOp BinOp.sub 3 (Operand.tmp 51) (Operand.tmp 52) 3, none, 0⟩,
 ⟨some 54, .move (Operand.tmp 2), none, 0⟩,
 ⟨some 55, .move (Operand.tmp 10), none, 0⟩,
 ⟨some 56, .move (Operand.tmp 4), none, 0⟩,
 ⟨some 57, .call ⟨(Callee.value (Operand.func 92)), [(Operand.tmp 50), (Operand.tmp 53), (Operand.tmp 54), (Operand.tmp 55), (Operand.tmp 56)].toArray, #[23, 3, 3, 3, 74]⟩, none, 0⟩]))))
abbrev R83 : List ResultVar := []
theorem ok83 : FnOK Try.prog 83 L83 R83 5 := ⟨_, _, Try.func83, rfl, by kernel_rfl, by kernel_rfl, by kernel_rfl, by kernel_rfl, Nat.le_of_ble_eq_true (by kernel_rfl), by kernel_rfl⟩

/-- slices.swapRangeCmpFunc[string] -/
def L92 : LCode :=
 (.seq
 (.ops [⟨some 10, .assign (Operand.const (Value.int IntKind.i64 0)), none, 0⟩])
 (.block 0
 (.loop
 (.seq
 (.seq
 (.ops [⟨some 11, .move (Operand.tmp 10), none, 0⟩,
 ⟨some 12, .move (Operand.tmp 3), none, 0⟩,
 ⟨some 13, .binOp BinOp.lss 3 (Operand.tmp 11) (Operand.tmp 12) 3, none, 0⟩])
 (.cond (Operand.tmp 13)
 .skip
 (.exit 0)))
 (.seq
 (.block 1
 (.draw [⟨some 16, .move (Operand.tmp 0), none, 0⟩,
 ⟨some 17, .move (Operand.tmp 1), none, 0⟩,
 ⟨some 18, .move (Operand.tmp 10), none, 0⟩,
 ⟨some 19, .binOp BinOp.add 3 (Operand.tmp 17) (Operand.tmp 18) 3, none, 0⟩,
 ⟨some 20, .move (Operand.tmp 0), none, 0⟩,
 ⟨some 21, .move (Operand.tmp 2), none, 0⟩,
 ⟨some 22, .move (Operand.tmp 10), none, 0⟩,
 ⟨some 23, .binOp BinOp.add 3 (Operand.tmp 21) (Operand.tmp 22) 3, none, 0⟩,
 ⟨some 24, .move (Operand.tmp 0), none, 0⟩,
 ⟨some 25, .move (Operand.tmp 2), none, 0⟩,
 ⟨some 26, .move (Operand.tmp 10), none, 0⟩,
 ⟨some 27, .binOp BinOp.add 3 (Operand.tmp 25) (Operand.tmp 26) 3, none, 0⟩,
 ⟨some 28, .indexAddr 23 (Operand.tmp 24) (Operand.tmp 27), none, 0⟩,
 ⟨some 29, .load 9 (Operand.tmp 28), none, 0⟩,
 ⟨some 30, .move (Operand.tmp 0), none, 0⟩,
 ⟨some 31, .move (Operand.tmp 1), none, 0⟩,
 ⟨some 32, .move (Operand.tmp 10), none, 0⟩,
 ⟨some 33, .binOp BinOp.add 3 (Operand.tmp 31) (Operand.tmp 32) 3, none, 0⟩,
 ⟨some 34, .indexAddr 23 (Operand.tmp 30) (Operand.tmp 33), none, 0⟩,
 ⟨some 35, .load 9 (Operand.tmp 34), none, 0⟩,
 ⟨some 36, .indexAddr 23 (Operand.tmp 16) (Operand.tmp 19), none, 0⟩,
 ⟨none, .store 9 (Operand.tmp 36) (Operand.tmp 29), none, 0⟩,
 ⟨some 37, .indexAddr 23 (Operand.tmp 20) (Operand.tmp 23), none, 0⟩,
 ⟨none, .store 9 (Operand.tmp 37) (Operand.tmp 35), none, 0⟩] true [22, 23] [0, 1, 2, 3, 4, 5, 6, 7, 8, 9, 10, 11, 12, 14, 15, 16, 17, 18, 13, 19, 20, 21, 22, 23]))
 (.ops [⟨some 14, .move (Operand.tmp 10), none, 0⟩,
 ⟨some 15, .binOp BinOp.add 3 (Operand.tmp 14) (Operand.const (Value.int IntKind.i64 1)) 3, none, 0⟩,
 ⟨some 10, .assign (Operand.tmp 15), none, 0⟩]))))))
abbrev R92 : List ResultVar := []
theorem ok92 : FnOK Try.prog 92 L92 R92 5 := ⟨_, _, Try.func92, rfl, by kernel_rfl, by kernel_rfl, by kernel_rfl, by kernel_rfl, Nat.le_of_ble_eq_true (by kernel_rfl), by kernel_rfl⟩

end Go.Proofs.Ythchlpikcpidaaa.Vs
