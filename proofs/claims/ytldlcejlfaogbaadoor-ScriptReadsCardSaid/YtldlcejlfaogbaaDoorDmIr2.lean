/- The seat's functions as the engine Dm reads them, written by dgen.py. -/
import Derived.Test.YtldlcejlfaogbaaDoorDmFn
import Derived.Test.YtldlcejlfaogbaaDoorProg
import Derived.KernelRfl
namespace Go.Proofs.YtldlcejlfaogbaaDoor.Vs
set_option linter.unusedVariables false
set_option maxRecDepth 100000
/-- ablaut/script.fed -/
def L54 : LCode :=
 (.seq
 (.ops [⟨some 4, .assign (Operand.const (Value.slice none 0 0)), none, 0⟩,
 ⟨some 5, .assign (Operand.const (Value.slice none 0 0)), none, 0⟩,
 ⟨some 6, .assign (Operand.const (Value.bool false)), none, 0⟩])
 (.seq
 (.ops [⟨some 6, .assign (Operand.const (Value.bool true)), none, 0⟩])
 (.seq
 (.block 0
 (.loop
 (.seq
 (.seq
 (.ops [⟨some 10, .move (Operand.tmp 1), none, 0⟩,
 ⟨some 11, .call ⟨(Callee.builtin Builtin.len), [(Operand.tmp 10)].toArray, #[29]⟩, none, 0⟩,
 ⟨some 12, .binOp BinOp.gtr 3 (Operand.tmp 11) (Operand.const (Value.int IntKind.i64 0)) 3, none, 0⟩,
 ⟨some 13, .move (Operand.tmp 12), none, 0⟩,
 ⟨some 14, .move (Operand.tmp 0), some (13, true), 0⟩,
 ⟨some 15, .move (Operand.tmp 1), some (13, true), 0⟩,
 ⟨some 16, .call ⟨(Callee.value (Operand.func 79)), [(Operand.tmp 14), (Operand.tmp 15)].toArray, #[22, 29]⟩, some (13, true), 0⟩,
 ⟨some 17, .unOp UnOp.not 4 (Operand.tmp 16), some (13, true), 0⟩,
 ⟨some 18, .pick (Operand.tmp 13) (Operand.tmp 17) (Operand.const (Value.bool false)), none, 0⟩])
 (.cond (Operand.tmp 18)
 .skip
 (.exit 0)))
 (.block 1
 (.seq
 (.ops [⟨some 20, .move (Operand.tmp 0), none, 0⟩,
 ⟨some 21, .move (Operand.tmp 1), none, 0⟩,
 ⟨some 22, .call ⟨(Callee.value (Operand.func 52)), [(Operand.tmp 20), (Operand.tmp 21)].toArray, #[22, 29]⟩, none, 0⟩,
 ⟨some 19, .move (Operand.tmp 22), none, 0⟩,
 ⟨some 23, .extract (Operand.tmp 19) 0, none, 0⟩,
 ⟨some 24, .extract (Operand.tmp 19) 1, none, 0⟩,
 ⟨some 25, .extract (Operand.tmp 19) 2, none, 0⟩,
 ⟨some 7, .assign (Operand.tmp 23), none, 0⟩,
 ⟨some 8, .assign (Operand.tmp 24), none, 0⟩,
 ⟨some 9, .assign (Operand.tmp 25), none, 0⟩])
 (.seq
 (.ops [⟨some 26, .move (Operand.tmp 4), none, 0⟩,
 ⟨some 27, .move (Operand.tmp 7), none, 0⟩,
 ⟨some 28, .call ⟨(Callee.builtin Builtin.append), [(Operand.tmp 26), (Operand.tmp 27)].toArray, #[29, 29]⟩, none, 0⟩,
 ⟨some 4, .assign (Operand.tmp 28), none, 0⟩])
 (.seq
 (.ops [⟨some 29, .move (Operand.tmp 6), none, 0⟩,
 ⟨some 30, .move (Operand.tmp 29), none, 0⟩,
 ⟨some 31, .move (Operand.tmp 9), some (30, true), 0⟩,
 ⟨some 32, .binOp BinOp.geq 3 (Operand.tmp 31) (Operand.const (Value.int IntKind.i64 0)) 3, some (30, true), 0⟩,
 ⟨some 33, .pick (Operand.tmp 30) (Operand.tmp 32) (Operand.const (Value.bool false)), none, 0⟩,
 ⟨some 6, .assign (Operand.tmp 33), none, 0⟩])
 (.ops [⟨some 34, .move (Operand.tmp 1), none, 0⟩,
 ⟨some 35, .move (Operand.tmp 8), none, 0⟩,
 ⟨some 36, .slice 29 (Operand.tmp 34) (some (Operand.tmp 35)) none none, none, 0⟩,
 ⟨some 1, .assign (Operand.tmp 36), none, 0⟩]))))))))
 (.seq
 (.ops [⟨some 37, .move (Operand.tmp 4), none, 0⟩,
 ⟨some 38, .move (Operand.tmp 1), none, 0⟩,
 ⟨some 39, .move (Operand.tmp 6), none, 0⟩,
 ⟨some 4, .assign (Operand.tmp 37), none, 0⟩,
 ⟨some 5, .assign (Operand.tmp 38), none, 0⟩,
 ⟨some 6, .assign (Operand.tmp 39), none, 0⟩])
 .ret))))
abbrev R54 : List ResultVar := [ResultVar.tmp 4, ResultVar.tmp 5, ResultVar.tmp 6]
theorem ok54 : FnOK Tryd.prog 54 L54 R54 2 := ⟨_, _, Tryd.func54, rfl, by kernel_rfl, by kernel_rfl, by kernel_rfl, by kernel_rfl, Nat.le_of_ble_eq_true (by kernel_rfl), by kernel_rfl⟩

/-- slices.Concat[[]string,string] -/
def L55 : LCode :=
 (.seq
 (.ops [⟨some 2, .assign (Operand.const (Value.slice none 0 0)), none, 0⟩])
 (.seq
 (.ops [⟨some 3, .assign (Operand.const (Value.int IntKind.i64 0)), none, 0⟩])
 (.seq
 (.seq
 (.ops [⟨some 9, .move (Operand.tmp 0), none, 0⟩,
 ⟨some 10, .call ⟨(Callee.builtin Builtin.len), [(Operand.tmp 9)].toArray, #[49]⟩, none, 0⟩,
 ⟨some 11, .move (Operand.const (Value.int IntKind.i64 0)), none, 0⟩])
 (.block 0
 (.loop
 (.seq
 (.ops [⟨some 12, .binOp BinOp.lss 3 (Operand.tmp 11) (Operand.tmp 10) 3, none, 0⟩])
 (.seq
 (.cond (Operand.tmp 12)
 .skip
 (.exit 0))
 (.seq
 (.block 1
 (.seq
 (.ops [⟨some 13, .indexAddr 49 (Operand.tmp 9) (Operand.tmp 11), none, 0⟩,
 ⟨some 14, .load 29 (Operand.tmp 13), none, 0⟩,
 ⟨some 5, .assign (Operand.tmp 14), none, 0⟩])
 (.seq
 (.ops [⟨some 15, .move (Operand.tmp 3), none, 0⟩,
 ⟨some 16, .move (Operand.tmp 5), none, 0⟩,
 ⟨some 17, .call ⟨(Callee.builtin Builtin.len), [(Operand.tmp 16)].toArray, #[29]⟩, none, 0⟩,
 ⟨some 18, .binOp BinOp.add 3 (Operand.tmp 15) (Operand.tmp 17) 3, none, 0⟩,
 ⟨some 3, .assign (Operand.tmp 18), none, 0⟩])
 (.seq
 (.ops [⟨some 19, .move (Operand.tmp 3), none, 0⟩,
 ⟨some 20, .binOp BinOp.lss 3 (Operand.tmp 19) (Operand.const (Value.int IntKind.i64 0)) 3, none, 0⟩])
 (.cond (Operand.tmp 20)
 (.ops [⟨some 21, .makeInterface 9 (Operand.const (Value.string ⟨#[108, 101, 110, 32, 111, 117, 116, 32, 111, 102, 32, 114, 97, 110, 103, 101]⟩)), none, 0⟩,
 ⟨none, .panic (Operand.tmp 21), none, 0⟩])
 .skip)))))
 (.ops [⟨some 22, .binOp BinOp.add 3 (Operand.tmp 11) (Operand.const (Value.int IntKind.i64 1)) 3, none, 0⟩,
 ⟨some 11, .move (Operand.tmp 22), none, 0⟩])))))))
 (.seq
 (.ops [⟨some 23, .move (Operand.tmp 3), none, 0⟩,
 ⟨some 24, .call ⟨(Callee.value (Operand.func 80)), [(Operand.const (Value.slice none 0 0)), (Operand.tmp 23)].toArray, #[29, 3]⟩, none, 0⟩,
 ⟨some 6, .assign (Operand.tmp 24), none, 0⟩])
 (.seq
 (.seq
 (.ops [⟨some 25, .move (Operand.tmp 0), none, 0⟩,
 ⟨some 26, .call ⟨(Callee.builtin Builtin.len), [(Operand.tmp 25)].toArray, #[49]⟩, none, 0⟩,
 ⟨some 27, .move (Operand.const (Value.int IntKind.i64 0)), none, 0⟩])
 (.block 2
 (.loop
 (.seq
 (.ops [⟨some 28, .binOp BinOp.lss 3 (Operand.tmp 27) (Operand.tmp 26) 3, none, 0⟩])
 (.seq
 (.cond (Operand.tmp 28)
 .skip
 (.exit 2))
 (.seq
 (.block 3
 (.seq
 (.ops [⟨some 29, .indexAddr 49 (Operand.tmp 25) (Operand.tmp 27), none, 0⟩,
 ⟨some 30, .load 29 (Operand.tmp 29), none, 0⟩,
 ⟨some 8, .assign (Operand.tmp 30), none, 0⟩])
 (.ops [⟨some 31, .move (Operand.tmp 6), none, 0⟩,
 ⟨some 32, .move (Operand.tmp 8), none, 0⟩,
 ⟨some 33, .call ⟨(Callee.builtin Builtin.append), [(Operand.tmp 31), (Operand.tmp 32)].toArray, #[29, 29]⟩, none, 0⟩,
 ⟨some 6, .assign (Operand.tmp 33), none, 0⟩])))
 (.ops [⟨some 34, .binOp BinOp.add 3 (Operand.tmp 27) (Operand.const (Value.int IntKind.i64 1)) 3, none, 0⟩,
 ⟨some 27, .move (Operand.tmp 34), none, 0⟩])))))))
 (.seq
 (.ops [⟨some 35, .move (Operand.tmp 6), none, 0⟩,
 ⟨some 2, .assign (Operand.tmp 35), none, 0⟩])
 .ret))))))
abbrev R55 : List ResultVar := [ResultVar.tmp 2]
theorem ok55 : FnOK Tryd.prog 55 L55 R55 1 := ⟨_, _, Tryd.func55, rfl, by kernel_rfl, by kernel_rfl, by kernel_rfl, by kernel_rfl, Nat.le_of_ble_eq_true (by kernel_rfl), by kernel_rfl⟩

/-- ablaut/script.key -/
def L56 : LCode :=
 (.seq
 (.ops [⟨some 2, .assign (Operand.const (Value.string ⟨#[]⟩)), none, 0⟩])
 (.seq
 (.ops [⟨some 3, .move (Operand.tmp 0), none, 0⟩,
 ⟨some 4, .call ⟨(Callee.value (Operand.func 81)), [(Operand.tmp 3), (Operand.const (Value.string ⟨#[32]⟩))].toArray, #[29, 9]⟩, none, 0⟩,
 ⟨some 2, .assign (Operand.tmp 4), none, 0⟩])
 .ret))
abbrev R56 : List ResultVar := [ResultVar.tmp 2]
theorem ok56 : FnOK Tryd.prog 56 L56 R56 1 := ⟨_, _, Tryd.func56, rfl, by kernel_rfl, by kernel_rfl, by kernel_rfl, by kernel_rfl, Nat.le_of_ble_eq_true (by kernel_rfl), by kernel_rfl⟩

/-- ablaut/ablautref01.Words -/
def L57 : LCode :=
 (.seq
 (.ops [⟨some 2, .assign (Operand.const (Value.int IntKind.i64 0)), none, 0⟩])
 (.seq
 (.seq
 (.ops [⟨some 3, .assign (Operand.const (Value.int IntKind.i64 0)), none, 0⟩])
 (.block 0
 (.loop
 (.seq
 (.seq
 (.ops [⟨some 5, .move (Operand.tmp 3), none, 0⟩,
 ⟨some 6, .move (Operand.tmp 0), none, 0⟩,
 ⟨some 7, .call ⟨(Callee.builtin Builtin.len), [(Operand.tmp 6)].toArray, #[49]⟩, none, 0⟩,
 ⟨some 8, .binOp BinOp.lss 3 (Operand.tmp 5) (Operand.tmp 7) 3, none, 0⟩])
 (.cond (Operand.tmp 8)
 .skip
 (.exit 0)))
 (.seq
 (.block 1
 (.seq
 (.ops [⟨some 11, .move (Operand.tmp 0), none, 0⟩,
 ⟨some 12, .move (Operand.tmp 3), none, 0⟩,
 ⟨some 13, .indexAddr 49 (Operand.tmp 11) (Operand.tmp 12), none, 0⟩,
 ⟨some 14, .load 29 (Operand.tmp 13), none, 0⟩,
 ⟨some 15, .call ⟨(Callee.value (Operand.func 82)), [(Operand.tmp 14)].toArray, #[29]⟩, none, 0⟩,
 ⟨some 4, .assign (Operand.tmp 15), none, 0⟩])
 (.seq
 (.ops [⟨some 16, .move (Operand.tmp 4), none, 0⟩,
 ⟨some 17, .binOp BinOp.neq 25 (Operand.tmp 16) (Operand.const (Value.int IntKind.i64 0)) 25, none, 0⟩])
 (.cond (Operand.tmp 17)
 (.seq
 (.ops [⟨some 18, .move (Operand.tmp 4), none, 0⟩,
 ⟨some 2, .assign (Operand.tmp 18), none, 0⟩])
 .ret)
 .skip))))
 (.ops [⟨some 9, .move (Operand.tmp 3), none, 0⟩,
 ⟨some 10, .binOp BinOp.add 3 (Operand.tmp 9) (Operand.const (Value.int IntKind.i64 1)) 3, none, 0⟩,
 ⟨some 3, .assign (Operand.tmp 10), none, 0⟩]))))))
 (.seq
 (.ops [⟨some 2, .assign (Operand.const (Value.int IntKind.i64 0)), none, 0⟩])
 .ret)))
abbrev R57 : List ResultVar := [ResultVar.tmp 2]
theorem ok57 : FnOK Tryd.prog 57 L57 R57 1 := ⟨_, _, Tryd.func57, rfl, by kernel_rfl, by kernel_rfl, by kernel_rfl, by kernel_rfl, Nat.le_of_ble_eq_true (by kernel_rfl), by kernel_rfl⟩

/-- ablaut/ablautref25.row -/
def L58 : LCode :=
 (.seq
 (.ops [⟨some 4, .assign (Operand.const (Value.int IntKind.i64 0)), none, 0⟩])
 (.seq
 (.ops [⟨some 5, .assign (Operand.const (Value.int IntKind.i64 (-1))), none, 0⟩])
 (.seq
 (.seq
 (.ops [⟨some 6, .assign (Operand.const (Value.int IntKind.i64 0)), none, 0⟩])
 (.block 0
 (.loop
 (.seq
 (.seq
 (.ops [⟨some 7, .move (Operand.tmp 6), none, 0⟩,
 ⟨some 8, .move (Operand.tmp 0), none, 0⟩,
 ⟨some 9, .call ⟨(Callee.builtin Builtin.len), [(Operand.tmp 8)].toArray, #[22]⟩, none, 0⟩,
 ⟨some 10, .binOp BinOp.lss 3 (Operand.tmp 7) (Operand.tmp 9) 3, none, 0⟩])
 (.cond (Operand.tmp 10)
 .skip
 (.exit 0)))
 (.seq
 (.block 1
 (.seq
 (.draw [⟨some 13, .move (Operand.tmp 1), none, 0⟩,
 ⟨some 14, .move (Operand.tmp 0), none, 0⟩,
 ⟨some 15, .move (Operand.tmp 6), none, 0⟩,
 ⟨some 16, .indexAddr 22 (Operand.tmp 14) (Operand.tmp 15), none, 0⟩,
 ⟨some 17, .fieldAddr 46 (Operand.tmp 16) 0, none, 0⟩,
 ⟨some 18, .load 29 (Operand.tmp 17), none, 0⟩,
 ⟨some 19, .call ⟨(Callee.value (Operand.func 83)), [(Operand.tmp 13), (Operand.tmp 18)].toArray, #[29, 29]⟩, none, 0⟩,
 ⟨some 20, .move (Operand.tmp 19), none, 0⟩,
 ⟨some 21, .move (Operand.tmp 5), some (20, true), 0⟩,
 ⟨some 22, .binOp BinOp.lss 3 (Operand.tmp 21) (Operand.const (Value.int IntKind.i64 0)) 3, some (20, true), 0⟩,
 ⟨some 23, .move (Operand.tmp 22), some (20, true), 0⟩,
 ⟨some 24, .move (Operand.tmp 0), some (23, false), 0⟩,
 ⟨some 25, .move (Operand.tmp 6), some (23, false), 0⟩,
 ⟨some 26, .indexAddr 22 (Operand.tmp 24) (Operand.tmp 25), some (23, false), 0⟩,
 ⟨some 27, .fieldAddr 46 (Operand.tmp 26) 0, some (23, false), 0⟩,
 ⟨some 28, .load 29 (Operand.tmp 27), some (23, false), 0⟩,
 ⟨some 29, .call ⟨(Callee.builtin Builtin.len), [(Operand.tmp 28)].toArray, #[29]⟩, some (23, false), 0⟩,
 ⟨some 30, .move (Operand.tmp 0), some (23, false), 0⟩,
 ⟨some 31, .move (Operand.tmp 5), some (23, false), 0⟩,
 ⟨some 32, .indexAddr 22 (Operand.tmp 30) (Operand.tmp 31), some (23, false), 0⟩,
 ⟨some 33, .fieldAddr 46 (Operand.tmp 32) 0, some (23, false), 0⟩,
 ⟨some 34, .load 29 (Operand.tmp 33), some (23, false), 0⟩,
 ⟨some 35, .call ⟨(Callee.builtin Builtin.len), [(Operand.tmp 34)].toArray, #[29]⟩, some (23, false), 0⟩,
 ⟨some 36, .binOp BinOp.gtr 3 (Operand.tmp 29) (Operand.tmp 35) 3, some (23, false), 0⟩,
 ⟨some 37, .pick (Operand.tmp 23) (Operand.const (Value.bool true)) (Operand.tmp 36), some (20, true), 0⟩,
 ⟨some 38, .pick (Operand.tmp 20) (Operand.tmp 37) (Operand.const (Value.bool false)), none, 0⟩] true [23, 24, 25] [0, 1, 2, 3, 4, 5, 6, 7, 8, 9, 10, 11, 12, 13, 14, 15, 16, 17, 18, 19, 20, 21, 22, 23, 24, 25])
 (.cond (Operand.tmp 38)
 (.ops [⟨some 39, .move (Operand.tmp 6), none, 0⟩,
 ⟨some 5, .assign (Operand.tmp 39), none, 0⟩])
 .skip)))
 (.ops [⟨some 11, .move (Operand.tmp 6), none, 0⟩,
 ⟨some 12, .binOp BinOp.add 3 (Operand.tmp 11) (Operand.const (Value.int IntKind.i64 1)) 3, none, 0⟩,
 ⟨some 6, .assign (Operand.tmp 12), none, 0⟩]))))))
 (.seq
 (.ops [⟨some 40, .move (Operand.tmp 5), none, 0⟩,
 ⟨some 4, .assign (Operand.tmp 40), none, 0⟩])
 .ret))))
abbrev R58 : List ResultVar := [ResultVar.tmp 4]
theorem ok58 : FnOK Tryd.prog 58 L58 R58 2 := ⟨_, _, Tryd.func58, rfl, by kernel_rfl, by kernel_rfl, by kernel_rfl, by kernel_rfl, Nat.le_of_ble_eq_true (by kernel_rfl), by kernel_rfl⟩

/-- ablaut/ablautref25.isLonger -/
def L59 : LCode :=
 (.seq
 (.ops [⟨some 4, .assign (Operand.const (Value.bool false)), none, 0⟩])
 (.seq
 (.seq
 (.ops [⟨some 5, .assign (Operand.const (Value.int IntKind.i64 0)), none, 0⟩])
 (.block 0
 (.loop
 (.seq
 (.seq
 (.ops [⟨some 6, .move (Operand.tmp 5), none, 0⟩,
 ⟨some 7, .move (Operand.tmp 0), none, 0⟩,
 ⟨some 8, .call ⟨(Callee.builtin Builtin.len), [(Operand.tmp 7)].toArray, #[22]⟩, none, 0⟩,
 ⟨some 9, .binOp BinOp.lss 3 (Operand.tmp 6) (Operand.tmp 8) 3, none, 0⟩])
 (.cond (Operand.tmp 9)
 .skip
 (.exit 0)))
 (.seq
 (.block 1
 (.seq
 (.ops [⟨some 12, .move (Operand.tmp 0), none, 0⟩,
 ⟨some 13, .move (Operand.tmp 5), none, 0⟩,
 ⟨some 14, .indexAddr 22 (Operand.tmp 12) (Operand.tmp 13), none, 0⟩,
 ⟨some 15, .fieldAddr 46 (Operand.tmp 14) 0, none, 0⟩,
 ⟨some 16, .load 29 (Operand.tmp 15), none, 0⟩,
 ⟨some 17, .call ⟨(Callee.builtin Builtin.len), [(Operand.tmp 16)].toArray, #[29]⟩, none, 0⟩,
 ⟨some 18, .move (Operand.tmp 1), none, 0⟩,
 ⟨some 19, .call ⟨(Callee.builtin Builtin.len), [(Operand.tmp 18)].toArray, #[29]⟩, none, 0⟩,
 ⟨some 20, .binOp BinOp.gtr 3 (Operand.tmp 17) (Operand.tmp 19) 3, none, 0⟩,
 ⟨some 21, .move (Operand.tmp 20), none, 0⟩,
 ⟨some 22, .move (Operand.tmp 0), some (21, true), 0⟩,
 ⟨some 23, .move (Operand.tmp 5), some (21, true), 0⟩,
 ⟨some 24, .indexAddr 22 (Operand.tmp 22) (Operand.tmp 23), some (21, true), 0⟩,
 ⟨some 25, .fieldAddr 46 (Operand.tmp 24) 0, some (21, true), 0⟩,
 ⟨some 26, .load 29 (Operand.tmp 25), some (21, true), 0⟩,
 ⟨some 27, .move (Operand.tmp 1), some (21, true), 0⟩,
 ⟨some 28, .call ⟨(Callee.value (Operand.func 83)), [(Operand.tmp 26), (Operand.tmp 27)].toArray, #[29, 29]⟩, some (21, true), 0⟩,
 ⟨some 29, .pick (Operand.tmp 21) (Operand.tmp 28) (Operand.const (Value.bool false)), none, 0⟩])
 (.cond (Operand.tmp 29)
 (.seq
 (.ops [⟨some 4, .assign (Operand.const (Value.bool true)), none, 0⟩])
 .ret)
 .skip)))
 (.ops [⟨some 10, .move (Operand.tmp 5), none, 0⟩,
 ⟨some 11, .binOp BinOp.add 3 (Operand.tmp 10) (Operand.const (Value.int IntKind.i64 1)) 3, none, 0⟩,
 ⟨some 5, .assign (Operand.tmp 11), none, 0⟩]))))))
 (.seq
 (.ops [⟨some 4, .assign (Operand.const (Value.bool false)), none, 0⟩])
 .ret)))
abbrev R59 : List ResultVar := [ResultVar.tmp 4]
theorem ok59 : FnOK Tryd.prog 59 L59 R59 2 := ⟨_, _, Tryd.func59, rfl, by kernel_rfl, by kernel_rfl, by kernel_rfl, by kernel_rfl, Nat.le_of_ble_eq_true (by kernel_rfl), by kernel_rfl⟩

/-- internal/stringslite.Cut -/
def L60 : LCode :=
 (.seq
 (.ops [⟨some 4, .assign (Operand.const (Value.string ⟨#[]⟩)), none, 0⟩,
 ⟨some 5, .assign (Operand.const (Value.string ⟨#[]⟩)), none, 0⟩,
 ⟨some 6, .assign (Operand.const (Value.bool false)), none, 0⟩])
 (.seq
 (.seq
 (.ops [⟨some 8, .move (Operand.tmp 0), none, 0⟩,
 ⟨some 9, .move (Operand.tmp 1), none, 0⟩,
 ⟨some 10, .call ⟨(Callee.value (Operand.func 84)), [(Operand.tmp 8), (Operand.tmp 9)].toArray, #[9, 9]⟩, none, 0⟩,
 ⟨some 7, .assign (Operand.tmp 10), none, 0⟩])
 (.seq
 (.ops [⟨some 11, .move (Operand.tmp 7), none, 0⟩,
 ⟨some 12, .binOp BinOp.geq 3 (Operand.tmp 11) (Operand.const (Value.int IntKind.i64 0)) 3, none, 0⟩])
 (.cond (Operand.tmp 12)
 (.seq
 (.draw [⟨some 13, .move (Operand.tmp 0), none, 0⟩,
 ⟨some 14, .move (Operand.tmp 7), none, 0⟩,
 ⟨some 15, .slice 9 (Operand.tmp 13) none (some (Operand.tmp 14)) none, none, 0⟩,
 ⟨some 16, .move (Operand.tmp 0), none, 0⟩,
 ⟨some 17, .move (Operand.tmp 7), none, 0⟩,
 ⟨some 18, .move (Operand.tmp 1), none, 0⟩,
 ⟨some 19, .call ⟨(Callee.builtin Builtin.len), [(Operand.tmp 18)].toArray, #[9]⟩, none, 0⟩,
 ⟨some 20, .binOp BinOp.add 3 (Operand.tmp 17) (Operand.tmp 19) 3, none, 0⟩,
 ⟨some 21, .slice 9 (Operand.tmp 16) (some (Operand.tmp 20)) none none, none, 0⟩,
 ⟨some 4, .assign (Operand.tmp 15), none, 0⟩,
 ⟨some 5, .assign (Operand.tmp 21), none, 0⟩,
 ⟨some 6, .assign (Operand.const (Value.bool true)), none, 0⟩] true [10, 11] [0, 1, 3, 4, 5, 2, 6, 7, 8, 9, 10, 11])
 .ret)
 .skip)))
 (.seq
 (.ops [⟨some 22, .move (Operand.tmp 0), none, 0⟩,
 ⟨some 4, .assign (Operand.tmp 22), none, 0⟩,
 ⟨some 5, .assign (Operand.const (Value.string ⟨#[]⟩)), none, 0⟩,
 ⟨some 6, .assign (Operand.const (Value.bool false)), none, 0⟩])
 .ret)))
abbrev R60 : List ResultVar := [ResultVar.tmp 4, ResultVar.tmp 5, ResultVar.tmp 6]
theorem ok60 : FnOK Tryd.prog 60 L60 R60 2 := ⟨_, _, Tryd.func60, rfl, by kernel_rfl, by kernel_rfl, by kernel_rfl, by kernel_rfl, Nat.le_of_ble_eq_true (by kernel_rfl), by kernel_rfl⟩

/-- strings.genSplit -/
def L61 : LCode :=
 (.seq
 (.ops [⟨some 8, .assign (Operand.const (Value.slice none 0 0)), none, 0⟩])
 (.seq
 (.seq
 (.ops [⟨some 12, .move (Operand.tmp 3), none, 0⟩,
 ⟨some 13, .binOp BinOp.eql 3 (Operand.tmp 12) (Operand.const (Value.int IntKind.i64 0)) 3, none, 0⟩])
 (.cond (Operand.tmp 13)
 (.seq
 (.ops [⟨some 8, .assign (Operand.const (Value.slice none 0 0)), none, 0⟩])
 .ret)
 .skip))
 (.seq
 (.seq
 (.ops [⟨some 14, .move (Operand.tmp 1), none, 0⟩,
 ⟨some 15, .binOp BinOp.eql 9 (Operand.tmp 14) (Operand.const (Value.string ⟨#[]⟩)) 9, none, 0⟩])
 (.cond (Operand.tmp 15)
 (.seq
 (.ops [⟨some 16, .move (Operand.tmp 0), none, 0⟩,
 ⟨some 17, .move (Operand.tmp 3), none, 0⟩,
 ⟨some 18, .call ⟨(Callee.value (Operand.func 85)), [(Operand.tmp 16), (Operand.tmp 17)].toArray, #[9, 3]⟩, none, 0⟩,
 ⟨some 8, .assign (Operand.tmp 18), none, 0⟩])
 .ret)
 .skip))
 (.seq
 (.seq
 (.ops [⟨some 19, .move (Operand.tmp 3), none, 0⟩,
 ⟨some 20, .binOp BinOp.lss 3 (Operand.tmp 19) (Operand.const (Value.int IntKind.i64 0)) 3, none, 0⟩])
 (.cond (Operand.tmp 20)
 (.ops [⟨some 21, .move (Operand.tmp 0), none, 0⟩,
 ⟨some 22, .move (Operand.tmp 1), none, 0⟩,
 ⟨some 23, .call ⟨(Callee.value (Operand.func 86)), [(Operand.tmp 21), (Operand.tmp 22)].toArray, #[9, 9]⟩, none, 0⟩,
 ⟨some 24, .binOp BinOp.add 3 (Operand.tmp 23) (Operand.const (Value.int IntKind.i64 1)) 3, none, 0⟩,
 ⟨some 3, .assign (Operand.tmp 24), none, 0⟩])
 .skip))
 (.seq
 (.ops [⟨some 25, .move (Operand.tmp 3), none, 0⟩,
 ⟨some 26, .move (Operand.tmp 0), none, 0⟩,
 ⟨some 27, .call ⟨(Callee.builtin Builtin.len), [(Operand.tmp 26)].toArray, #[9]⟩, none, 0⟩,
 ⟨some 28, .binOp BinOp.add 3 (Operand.tmp 27) (Operand.const (Value.int IntKind.i64 1)) 3, none, 0⟩,
 ⟨some 29, .call ⟨(Callee.builtin Builtin.min), [(Operand.tmp 25), (Operand.tmp 28)].toArray, #[3, 3]⟩, none, 0⟩,
 ⟨some 3, .assign (Operand.tmp 29), none, 0⟩])
 (.seq
 (.ops [⟨some 30, .move (Operand.tmp 3), none, 0⟩,
 ⟨some 31, .makeSlice 29 (Operand.tmp 30) (Operand.tmp 30), none, 0⟩,
 ⟨some 9, .assign (Operand.tmp 31), none, 0⟩])
 (.seq
 (.ops [⟨some 32, .move (Operand.tmp 3), none, 0⟩,
 ⟨some 33, .binOp BinOp.sub 3 (Operand.tmp 32) (Operand.const (Value.int IntKind.i64 1)) 3, none, 0⟩,
 ⟨some 3, .assign (Operand.tmp 33), none, 0⟩])
 (.seq
 (.ops [⟨some 10, .assign (Operand.const (Value.int IntKind.i64 0)), none, 0⟩])
 (.seq
 (.block 0
 (.loop
 (.seq
 (.seq
 (.ops [⟨some 34, .move (Operand.tmp 10), none, 0⟩,
 ⟨some 35, .move (Operand.tmp 3), none, 0⟩,
 ⟨some 36, .binOp BinOp.lss 3 (Operand.tmp 34) (Operand.tmp 35) 3, none, 0⟩])
 (.cond (Operand.tmp 36)
 .skip
 (.exit 0)))
 (.block 1
 (.seq
 (.ops [⟨some 37, .move (Operand.tmp 0), none, 0⟩,
 ⟨some 38, .move (Operand.tmp 1), none, 0⟩,
 ⟨some 39, .call ⟨(Callee.value (Operand.func 87)), [(Operand.tmp 37), (Operand.tmp 38)].toArray, #[9, 9]⟩, none, 0⟩,
 ⟨some 11, .assign (Operand.tmp 39), none, 0⟩])
 (.seq
 (.seq
 (.ops [⟨some 40, .move (Operand.tmp 11), none, 0⟩,
 ⟨some 41, .binOp BinOp.lss 3 (Operand.tmp 40) (Operand.const (Value.int IntKind.i64 0)) 3, none, 0⟩])
 (.cond (Operand.tmp 41)
 (.exit 0)
 .skip))
 (.seq
 (.ops [⟨some 42, .move (Operand.tmp 9), none, 0⟩,
 ⟨some 43, .move (Operand.tmp 10), none, 0⟩,
 ⟨some 44, .move (Operand.tmp 0), none, 0⟩,
 ⟨some 45, .move (Operand.tmp 11), none, 0⟩,
 ⟨some 46, .move (Operand.tmp 2), none, 0⟩,
 ⟨some 47, .binOp BinOp.add 3 (Operand.tmp 45) (Operand.tmp 46) 3, none, 0⟩,
 ⟨some 48, .slice 9 (Operand.tmp 44) none (some (Operand.tmp 47)) none, none, 0⟩,
 ⟨some 49, .indexAddr 29 (Operand.tmp 42) (Operand.tmp 43), none, 0⟩,
 ⟨none, .store 9 (Operand.tmp 49) (Operand.tmp 48), none, 0⟩])
 (.seq
 (.ops [⟨some 50, .move (Operand.tmp 0), none, 0⟩,
 ⟨some 51, .move (Operand.tmp 11), none, 0⟩,
 ⟨some 52, .move (Operand.tmp 1), none, 0⟩,
 ⟨some 53, .call ⟨(Callee.builtin Builtin.len), [(Operand.tmp 52)].toArray, #[9]⟩, none, 0⟩,
 ⟨some 54, .binOp BinOp.add 3 (Operand.tmp 51) (Operand.tmp 53) 3, none, 0⟩,
 ⟨some 55, .slice 9 (Operand.tmp 50) (some (Operand.tmp 54)) none none, none, 0⟩,
 ⟨some 0, .assign (Operand.tmp 55), none, 0⟩])
 (.ops [⟨some 56, .move (Operand.tmp 10), none, 0⟩,
 ⟨some 57, .binOp BinOp.add 3 (Operand.tmp 56) (Operand.const (Value.int IntKind.i64 1)) 3, none, 0⟩,
 ⟨some 10, .assign (Operand.tmp 57), none, 0⟩])))))))))
 (.seq
 (.ops [⟨some 58, .move (Operand.tmp 9), none, 0⟩,
 ⟨some 59, .move (Operand.tmp 10), none, 0⟩,
 ⟨some 60, .move (Operand.tmp 0), none, 0⟩,
 ⟨some 61, .indexAddr 29 (Operand.tmp 58) (Operand.tmp 59), none, 0⟩,
 ⟨none, .store 9 (Operand.tmp 61) (Operand.tmp 60), none, 0⟩])
 (.seq
 (.ops [⟨some 62, .move (Operand.tmp 9), none, 0⟩,
 ⟨some 63, .move (Operand.tmp 10), none, 0⟩,
 ⟨some 64, .binOp BinOp.add 3 (Operand.tmp 63) (Operand.const (Value.int IntKind.i64 1)) 3, none, 0⟩,
 ⟨some 65, .slice 29 (Operand.tmp 62) none (some (Operand.tmp 64)) none, none, 0⟩,
 ⟨some 8, .assign (Operand.tmp 65), none, 0⟩])
 .ret)))))))))))
abbrev R61 : List ResultVar := [ResultVar.tmp 8]
theorem ok61 : FnOK Tryd.prog 61 L61 R61 4 := ⟨_, _, Tryd.func61, rfl, by kernel_rfl, by kernel_rfl, by kernel_rfl, by kernel_rfl, Nat.le_of_ble_eq_true (by kernel_rfl), by kernel_rfl⟩

/-- strings.IndexByte -/
def L62 : LCode :=
 (.seq
 (.ops [⟨some 4, .assign (Operand.const (Value.int IntKind.i64 0)), none, 0⟩])
 (.seq
 (.ops [⟨some 5, .move (Operand.tmp 0), none, 0⟩,
 ⟨some 6, .move (Operand.tmp 1), none, 0⟩,
 ⟨some 7, .call ⟨(Callee.value (Operand.func 88)), [(Operand.tmp 5), (Operand.tmp 6)].toArray, #[9, 5]⟩, none, 0⟩,
 ⟨some 4, .assign (Operand.tmp 7), none, 0⟩])
 .ret))
abbrev R62 : List ResultVar := [ResultVar.tmp 4]
theorem ok62 : FnOK Tryd.prog 62 L62 R62 2 := ⟨_, _, Tryd.func62, rfl, by kernel_rfl, by kernel_rfl, by kernel_rfl, by kernel_rfl, Nat.le_of_ble_eq_true (by kernel_rfl), by kernel_rfl⟩

/-- slices.IndexFunc[[]ablaut/api.Shift,ablaut/api.Shift] -/
def L63 : LCode :=
 (.seq
 (.ops [⟨some 4, .assign (Operand.const (Value.int IntKind.i64 0)), none, 0⟩])
 (.seq
 (.seq
 (.ops [⟨some 6, .move (Operand.tmp 0), none, 0⟩,
 ⟨some 7, .call ⟨(Callee.builtin Builtin.len), [(Operand.tmp 6)].toArray, #[22]⟩, none, 0⟩,
 ⟨some 8, .move (Operand.const (Value.int IntKind.i64 0)), none, 0⟩])
 (.block 0
 (.loop
 (.seq
 (.ops [⟨some 9, .binOp BinOp.lss 3 (Operand.tmp 8) (Operand.tmp 7) 3, none, 0⟩])
 (.seq
 (.cond (Operand.tmp 9)
 .skip
 (.exit 0))
 (.seq
 (.block 1
 (.seq
 (.ops [⟨some 10, .move (Operand.tmp 8), none, 0⟩,
 ⟨some 5, .assign (Operand.tmp 10), none, 0⟩])
 (.seq
 (.ops [⟨some 11, .move (Operand.tmp 1), none, 0⟩,
 ⟨some 12, .move (Operand.tmp 0), none, 0⟩,
 ⟨some 13, .move (Operand.tmp 5), none, 0⟩,
 ⟨some 14, .indexAddr 22 (Operand.tmp 12) (Operand.tmp 13), none, 0⟩,
 ⟨some 15, .load 46 (Operand.tmp 14), none, 0⟩,
 ⟨some 16, .call ⟨(Callee.value (Operand.tmp 11)), [(Operand.tmp 15)].toArray, #[46]⟩, none, 0⟩])
 (.cond (Operand.tmp 16)
 (.seq
 (.ops [⟨some 17, .move (Operand.tmp 5), none, 0⟩,
 ⟨some 4, .assign (Operand.tmp 17), none, 0⟩])
 .ret)
 .skip))))
 (.ops [⟨some 18, .binOp BinOp.add 3 (Operand.tmp 8) (Operand.const (Value.int IntKind.i64 1)) 3, none, 0⟩,
 ⟨some 8, .move (Operand.tmp 18), none, 0⟩])))))))
 (.seq
 (.ops [⟨some 4, .assign (Operand.const (Value.int IntKind.i64 (-1))), none, 0⟩])
 .ret)))
abbrev R63 : List ResultVar := [ResultVar.tmp 4]
theorem ok63 : FnOK Tryd.prog 63 L63 R63 2 := ⟨_, _, Tryd.func63, rfl, by kernel_rfl, by kernel_rfl, by kernel_rfl, by kernel_rfl, Nat.le_of_ble_eq_true (by kernel_rfl), by kernel_rfl⟩

/-- slices.pdqsortCmpFunc[ablaut/api.Shift] -/
def L64 : LCode :=
 (.seq
 (.ops [⟨some 10, .assign (Operand.const (Value.bool true)), none, 0⟩])
 (.seq
 (.ops [⟨some 11, .assign (Operand.const (Value.bool true)), none, 0⟩])
 (.block 0
 (.loop
 (.block 1
 (.seq
 (.ops [⟨some 21, .move (Operand.tmp 2), none, 0⟩,
 ⟨some 22, .move (Operand.tmp 1), none, 0⟩,
 ⟨some 23, .binOp BinOp.sub 3 (Operand.tmp 21) (Operand.tmp 22) 3, none, 0⟩,
 ⟨some 12, .assign (Operand.tmp 23), none, 0⟩])
 (.seq
 (.seq
 (.ops [⟨some 24, .move (Operand.tmp 12), none, 0⟩,
 ⟨some 25, .binOp BinOp.leq 3 (Operand.tmp 24) (Operand.const (Value.int IntKind.i64 12)) 3, none, 0⟩])
 (.cond (Operand.tmp 25)
 (.seq
 (.ops [⟨some 26, .move (Operand.tmp 0), none, 0⟩,
 ⟨some 27, .move (Operand.tmp 1), none, 0⟩,
 ⟨some 28, .move (Operand.tmp 2), none, 0⟩,
 ⟨some 29, .move (Operand.tmp 4), none, 0⟩,
 ⟨some 30, .call ⟨(Callee.value (Operand.func 89)), [(Operand.tmp 26), (Operand.tmp 27), (Operand.tmp 28), (Operand.tmp 29)].toArray, #[22, 3, 3, 73]⟩, none, 0⟩])
 .ret)
 .skip))
 (.seq
 (.seq
 (.ops [⟨some 31, .move (Operand.tmp 3), none, 0⟩,
 ⟨some 32, .binOp BinOp.eql 3 (Operand.tmp 31) (Operand.const (Value.int IntKind.i64 0)) 3, none, 0⟩])
 (.cond (Operand.tmp 32)
 (.seq
 (.ops [⟨some 33, .move (Operand.tmp 0), none, 0⟩,
 ⟨some 34, .move (Operand.tmp 1), none, 0⟩,
 ⟨some 35, .move (Operand.tmp 2), none, 0⟩,
 ⟨some 36, .move (Operand.tmp 4), none, 0⟩,
 ⟨some 37, .call ⟨(Callee.value (Operand.func 90)), [(Operand.tmp 33), (Operand.tmp 34), (Operand.tmp 35), (Operand.tmp 36)].toArray, #[22, 3, 3, 73]⟩, none, 0⟩])
 .ret)
 .skip))
 (.seq
 (.seq
 (.ops [⟨some 38, .move (Operand.tmp 10), none, 0⟩,
 ⟨some 39, .unOp UnOp.not 4 (Operand.tmp 38), none, 0⟩])
 (.cond (Operand.tmp 39)
 (.seq
 (.ops [⟨some 40, .move (Operand.tmp 0), none, 0⟩,
 ⟨some 41, .move (Operand.tmp 1), none, 0⟩,
 ⟨some 42, .move (Operand.tmp 2), none, 0⟩,
 ⟨some 43, .move (Operand.tmp 4), none, 0⟩,
 ⟨some 44, .call ⟨(Callee.value (Operand.func 91)), [(Operand.tmp 40), (Operand.tmp 41), (Operand.tmp 42), (Operand.tmp 43)].toArray, #[22, 3, 3, 73]⟩, none, 0⟩])
 (.ops [⟨some 45, .move (Operand.tmp 3), none, 0⟩,
 ⟨some 46, .binOp BinOp.sub 3 (Operand.tmp 45) (Operand.const (Value.int IntKind.i64 1)) 3, none, 0⟩,
 ⟨some 3, .assign (Operand.tmp 46), none, 0⟩]))
 .skip))
 (.seq
 (.ops [⟨some 48, .move (Operand.tmp 0), none, 0⟩,
 ⟨some 49, .move (Operand.tmp 1), none, 0⟩,
 ⟨some 50, .move (Operand.tmp 2), none, 0⟩,
 ⟨some 51, .move (Operand.tmp 4), none, 0⟩,
 ⟨some 52, .call ⟨(Callee.value (Operand.func 92)), [(Operand.tmp 48), (Operand.tmp 49), (Operand.tmp 50), (Operand.tmp 51)].toArray, #[22, 3, 3, 73]⟩, none, 0⟩,
 ⟨some 47, .move (Operand.tmp 52), none, 0⟩,
 ⟨some 53, .extract (Operand.tmp 47) 0, none, 0⟩,
 ⟨some 54, .extract (Operand.tmp 47) 1, none, 0⟩,
 ⟨some 13, .assign (Operand.tmp 53), none, 0⟩,
 ⟨some 14, .assign (Operand.tmp 54), none, 0⟩])
 (.seq
 (.seq
 (.ops [⟨some 55, .move (Operand.tmp 14), none, 0⟩,
 ⟨some 56, .binOp BinOp.eql 106 (Operand.tmp 55) (Operand.const (Value.int IntKind.i64 2)) 106, none, 0⟩])
 (.cond (Operand.tmp 56)
 (.seq
 (.ops [⟨some 57, .move (Operand.tmp 0), none, 0⟩,
 ⟨some 58, .move (Operand.tmp 1), none, 0⟩,
 ⟨some 59, .move (Operand.tmp 2), none, 0⟩,
 ⟨some 60, .move (Operand.tmp 4), none, 0⟩,
 ⟨some 61, .call ⟨(Callee.value (Operand.func 93)), [(Operand.tmp 57), (Operand.tmp 58), (Operand.tmp 59), (Operand.tmp 60)].toArray, #[22, 3, 3, 73]⟩, none, 0⟩])
 (.seq
 (.ops [⟨some 62, .move (Operand.tmp 2), none, 0⟩,
 ⟨some 63, .binOp BinOp.sub 3 (Operand.tmp 62) (Operand.const (Value.int IntKind.i64 1)) 3, none, 0⟩,
 ⟨some 64, .move (Operand.tmp 13), none, 0⟩,
 ⟨some 65, .move (Operand.tmp 1), none, 0⟩,
 ⟨some 66, .binOp BinOp.sub 3 (Operand.tmp 64) (Operand.tmp 65) 3, none, 0⟩,
 ⟨some 67, .binOp BinOp.sub 3 (Operand.tmp 63) (Operand.tmp 66) 3, none, 0⟩,
 ⟨some 13, .assign (Operand.tmp 67), none, 0⟩])
 (.ops [⟨some 14, .assign (Operand.const (Value.int IntKind.i64 1)), none, 0⟩])))
 .skip))
 (.seq
 (.seq
 (.ops [⟨some 68, .move (Operand.tmp 10), none, 0⟩,
 ⟨some 69, .move (Operand.tmp 68), none, 0⟩,
 ⟨some 70, .move (Operand.tmp 11), some (69, true), 0⟩,
 ⟨some 71, .pick (Operand.tmp 69) (Operand.tmp 70) (Operand.const (Value.bool false)), none, 0⟩,
 ⟨some 72, .move (Operand.tmp 71), none, 0⟩,
 ⟨some 73, .move (Operand.tmp 14), some (72, true), 0⟩,
 ⟨some 74, .binOp BinOp.eql 106 (Operand.tmp 73) (Operand.const (Value.int IntKind.i64 1)) 106, some (72, true), 0⟩,
 ⟨some 75, .pick (Operand.tmp 72) (Operand.tmp 74) (Operand.const (Value.bool false)), none, 0⟩])
 (.cond (Operand.tmp 75)
 (.seq
 (.ops [⟨some 76, .move (Operand.tmp 0), none, 0⟩,
 ⟨some 77, .move (Operand.tmp 1), none, 0⟩,
 ⟨some 78, .move (Operand.tmp 2), none, 0⟩,
 ⟨some 79, .move (Operand.tmp 4), none, 0⟩,
 ⟨some 80, .call ⟨(Callee.value (Operand.func 94)), [(Operand.tmp 76), (Operand.tmp 77), (Operand.tmp 78), (Operand.tmp 79)].toArray, #[22, 3, 3, 73]⟩, none, 0⟩])
 (.cond (Operand.tmp 80)
 .ret
 .skip))
 .skip))
 (.seq
 (.seq
 (.draw [⟨some 81, .move (Operand.tmp 1), none, 0⟩,
 ⟨some 82, .binOp BinOp.gtr 3 (Operand.tmp 81) (Operand.const (Value.int IntKind.i64 0)) 3, none, 0⟩,
 ⟨some 83, .move (Operand.tmp 82), none, 0⟩,
 ⟨some 84, .move (Operand.tmp 4), some (83, true), 0⟩,
 ⟨some 85, .move (Operand.tmp 0), some (83, true), 0⟩,
 ⟨some 86, .move (Operand.tmp 1), some (83, true), 0⟩,
 ⟨some 87, .binOp BinOp.sub 3 (Operand.tmp 86) (Operand.const (Value.int IntKind.i64 1)) 3, some (83, true), 0⟩,
 ⟨some 88, .indexAddr 22 (Operand.tmp 85) (Operand.tmp 87), some (83, true), 0⟩,
 ⟨some 89, .load 46 (Operand.tmp 88), some (83, true), 0⟩,
 ⟨some 90, .move (Operand.tmp 0), some (83, true), 0⟩,
 ⟨some 91, .move (Operand.tmp 13), some (83, true), 0⟩,
 ⟨some 92, .indexAddr 22 (Operand.tmp 90) (Operand.tmp 91), some (83, true), 0⟩,
 ⟨some 93, .load 46 (Operand.tmp 92), some (83, true), 0⟩,
 ⟨some 94, .call ⟨(Callee.value (Operand.tmp 84)), [(Operand.tmp 89), (Operand.tmp 93)].toArray, #[46, 46]⟩, some (83, true), 0⟩,
 ⟨some 95, .binOp BinOp.lss 3 (Operand.tmp 94) (Operand.const (Value.int IntKind.i64 0)) 3, some (83, true), 0⟩,
 ⟨some 96, .unOp UnOp.not 4 (Operand.tmp 95), some (83, true), 0⟩,
 ⟨some 97, .pick (Operand.tmp 83) (Operand.tmp 96) (Operand.const (Value.bool false)), none, 0⟩] true [13, 14, 15, 16] [0, 1, 2, 3, 4, 5, 6, 7, 9, 10, 11, 8, 12, 13, 14, 15, 16])
 (.cond (Operand.tmp 97)
 (.seq
 (.ops [⟨some 98, .move (Operand.tmp 0), none, 0⟩,
 ⟨some 99, .move (Operand.tmp 1), none, 0⟩,
 ⟨some 100, .move (Operand.tmp 2), none, 0⟩,
 ⟨some 101, .move (Operand.tmp 13), none, 0⟩,
 ⟨some 102, .move (Operand.tmp 4), none, 0⟩,
 ⟨some 103, .call ⟨(Callee.value (Operand.func 95)), [(Operand.tmp 98), (Operand.tmp 99), (Operand.tmp 100), (Operand.tmp 101), (Operand.tmp 102)].toArray, #[22, 3, 3, 3, 73]⟩, none, 0⟩,
 ⟨some 15, .assign (Operand.tmp 103), none, 0⟩])
 (.seq
 (.ops [⟨some 104, .move (Operand.tmp 15), none, 0⟩,
 ⟨some 1, .assign (Operand.tmp 104), none, 0⟩])
 (.exit 1)))
 .skip))
 (.seq
 (.ops [⟨some 106, .move (Operand.tmp 0), none, 0⟩,
 ⟨some 107, .move (Operand.tmp 1), none, 0⟩,
 ⟨some 108, .move (Operand.tmp 2), none, 0⟩,
 ⟨some 109, .move (Operand.tmp 13), none, 0⟩,
 ⟨some 110, .move (Operand.tmp 4), none, 0⟩,
 ⟨some 111, .call ⟨(Callee.value (Operand.func 96)), [(Operand.tmp 106), (Operand.tmp 107), (Operand.tmp 108), (Operand.tmp 109), (Operand.tmp 110)].toArray, #[22, 3, 3, 3, 73]⟩, none, 0⟩,
 ⟨some 105, .move (Operand.tmp 111), none, 0⟩,
 ⟨some 112, .extract (Operand.tmp 105) 0, none, 0⟩,
 ⟨some 113, .extract (Operand.tmp 105) 1, none, 0⟩,
 ⟨some 16, .assign (Operand.tmp 112), none, 0⟩,
 ⟨some 17, .assign (Operand.tmp 113), none, 0⟩])
 (.seq
 (.ops [⟨some 114, .move (Operand.tmp 17), none, 0⟩,
 ⟨some 11, .assign (Operand.tmp 114), none, 0⟩])
 (.seq
 (.ops [⟨some 115, .move (Operand.tmp 16), none, 0⟩,
 ⟨some 116, .move (Operand.tmp 1), none, 0⟩,
 ⟨some 117, .binOp BinOp.sub 3 (Operand.tmp 115) (Operand.tmp 116) 3, none, 0⟩,
 ⟨some 118, .move (Operand.tmp 2), none, 0⟩,
 ⟨some 119, .move (Operand.tmp 16), none, 0⟩,
 ⟨some 120, .binOp BinOp.sub 3 (Operand.tmp 118) (Operand.tmp 119) 3, none, 0⟩,
 ⟨some 18, .assign (Operand.tmp 117), none, 0⟩,
 ⟨some 19, .assign (Operand.tmp 120), none, 0⟩])
 (.seq
 (.ops [⟨some 121, .move (Operand.tmp 12), none, 0⟩,
 ⟨some 122, .binOp BinOp.quo 3 (Operand.tmp 121) (Operand.const (Value.int IntKind.i64 8)) 3, none, 0⟩,
 ⟨some 20, .assign (Operand.tmp 122), none, 0⟩])
 (.seq
 (.ops [⟨some 123, .move (Operand.tmp 18), none, 0⟩,
 ⟨some 124, .move (Operand.tmp 19), none, 0⟩,
 ⟨some 125, .binOp BinOp.lss 3 (Operand.tmp 123) (Operand.tmp 124) 3, none, 0⟩])
 (.cond (Operand.tmp 125)
 (.seq
 (.ops [⟨some 126, .move (Operand.tmp 18), none, 0⟩,
 ⟨some 127, .move (Operand.tmp 20), none, 0⟩,
 ⟨some 128, .binOp BinOp.geq 3 (Operand.tmp 126) (Operand.tmp 127) 3, none, 0⟩,
 ⟨some 10, .assign (Operand.tmp 128), none, 0⟩])
 (.seq
 (.ops [⟨some 129, .move (Operand.tmp 0), none, 0⟩,
 ⟨some 130, .move (Operand.tmp 1), none, 0⟩,
 ⟨some 131, .move (Operand.tmp 16), none, 0⟩,
 ⟨some 132, .move (Operand.tmp 3), none, 0⟩,
 ⟨some 133, .move (Operand.tmp 4), none, 0⟩,
 ⟨some 134, .call ⟨(Callee.value (Operand.func 64)), [(Operand.tmp 129), (Operand.tmp 130), (Operand.tmp 131), (Operand.tmp 132), (Operand.tmp 133)].toArray, #[22, 3, 3, 3, 73]⟩, none, 0⟩])
 (.ops [⟨some 135, .move (Operand.tmp 16), none, 0⟩,
 ⟨some 136, .binOp BinOp.add 3 (Operand.tmp 135) (Operand.const (Value.int IntKind.i64 1)) 3, none, 0⟩,
 ⟨some 1, .assign (Operand.tmp 136), none, 0⟩])))
 (.seq
 (.ops [⟨some 137, .move (Operand.tmp 19), none, 0⟩,
 ⟨some 138, .move (Operand.tmp 20), none, 0⟩,
 ⟨some 139, .binOp BinOp.geq 3 (Operand.tmp 137) (Operand.tmp 138) 3, none, 0⟩,
 ⟨some 10, .assign (Operand.tmp 139), none, 0⟩])
 (.seq
 (.ops [⟨some 140, .move (Operand.tmp 0), none, 0⟩,
 ⟨some 141, .move (Operand.tmp 16), none, 0⟩,
 ⟨some 142, .binOp BinOp.add 3 (Operand.tmp 141) (Operand.const (Value.int IntKind.i64 1)) 3, none, 0⟩,
 ⟨some 143, .move (Operand.tmp 2), none, 0⟩,
 ⟨some 144, .move (Operand.tmp 3), none, 0⟩,
 ⟨some 145, .move (Operand.tmp 4), none, 0⟩,
 ⟨some 146, .call ⟨(Callee.value (Operand.func 64)), [(Operand.tmp 140), (Operand.tmp 142), (Operand.tmp 143), (Operand.tmp 144), (Operand.tmp 145)].toArray, #[22, 3, 3, 3, 73]⟩, none, 0⟩])
 (.ops [⟨some 147, .move (Operand.tmp 16), none, 0⟩,
 ⟨some 2, .assign (Operand.tmp 147), none, 0⟩]))))))))))))))))))))))
abbrev R64 : List ResultVar := []
theorem ok64 : FnOK Tryd.prog 64 L64 R64 5 := ⟨_, _, Tryd.func64, rfl, by kernel_rfl, by kernel_rfl, by kernel_rfl, by kernel_rfl, Nat.le_of_ble_eq_true (by kernel_rfl), by kernel_rfl⟩

/-- math/bits.Len -/
def L65 : LCode :=
 (.seq
 (.ops [⟨some 2, .assign (Operand.const (Value.int IntKind.i64 0)), none, 0⟩])
 (.seq
 (.cond (Operand.const (Value.bool false))
 (.seq
 (.ops [⟨some 3, .move (Operand.tmp 0), none, 0⟩,
 ⟨some 4, .convert 92 114 (Operand.tmp 3), none, 0⟩,
 ⟨some 5, .call ⟨(Callee.value (Operand.func 97)), [(Operand.tmp 4)].toArray, #[114]⟩, none, 0⟩,
 ⟨some 2, .assign (Operand.tmp 5), none, 0⟩])
 .ret)
 .skip)
 (.seq
 (.ops [⟨some 6, .move (Operand.tmp 0), none, 0⟩,
 ⟨some 7, .call ⟨(Callee.value (Operand.func 98)), [(Operand.tmp 6)].toArray, #[116]⟩, none, 0⟩,
 ⟨some 2, .assign (Operand.tmp 7), none, 0⟩])
 .ret)))
abbrev R65 : List ResultVar := [ResultVar.tmp 2]
theorem ok65 : FnOK Tryd.prog 65 L65 R65 1 := ⟨_, _, Tryd.func65, rfl, by kernel_rfl, by kernel_rfl, by kernel_rfl, by kernel_rfl, Nat.le_of_ble_eq_true (by kernel_rfl), by kernel_rfl⟩

/-- cmp.Compare[string] -/
def L66 : LCode :=
 (.seq
 (.ops [⟨some 4, .assign (Operand.const (Value.int IntKind.i64 0)), none, 0⟩])
 (.seq
 (.ops [⟨some 7, .move (Operand.tmp 0), none, 0⟩,
 ⟨some 8, .call ⟨(Callee.value (Operand.func 99)), [(Operand.tmp 7)].toArray, #[9]⟩, none, 0⟩,
 ⟨some 5, .assign (Operand.tmp 8), none, 0⟩])
 (.seq
 (.ops [⟨some 9, .move (Operand.tmp 1), none, 0⟩,
 ⟨some 10, .call ⟨(Callee.value (Operand.func 99)), [(Operand.tmp 9)].toArray, #[9]⟩, none, 0⟩,
 ⟨some 6, .assign (Operand.tmp 10), none, 0⟩])
 (.seq
 (.seq
 (.ops [⟨some 11, .move (Operand.tmp 5), none, 0⟩])
 (.cond (Operand.tmp 11)
 (.seq
 (.seq
 (.ops [⟨some 12, .move (Operand.tmp 6), none, 0⟩])
 (.cond (Operand.tmp 12)
 (.seq
 (.ops [⟨some 4, .assign (Operand.const (Value.int IntKind.i64 0)), none, 0⟩])
 .ret)
 .skip))
 (.seq
 (.ops [⟨some 4, .assign (Operand.const (Value.int IntKind.i64 (-1))), none, 0⟩])
 .ret))
 .skip))
 (.seq
 (.seq
 (.ops [⟨some 13, .move (Operand.tmp 6), none, 0⟩])
 (.cond (Operand.tmp 13)
 (.seq
 (.ops [⟨some 4, .assign (Operand.const (Value.int IntKind.i64 1)), none, 0⟩])
 .ret)
 .skip))
 (.seq
 (.seq
 (.ops [⟨some 14, .move (Operand.tmp 0), none, 0⟩,
 ⟨some 15, .move (Operand.tmp 1), none, 0⟩,
 ⟨some 16, .binOp BinOp.lss 9 (Operand.tmp 14) (Operand.tmp 15) 9, none, 0⟩])
 (.cond (Operand.tmp 16)
 (.seq
 (.ops [⟨some 4, .assign (Operand.const (Value.int IntKind.i64 (-1))), none, 0⟩])
 .ret)
 .skip))
 (.seq
 (.seq
 (.ops [⟨some 17, .move (Operand.tmp 0), none, 0⟩,
 ⟨some 18, .move (Operand.tmp 1), none, 0⟩,
 ⟨some 19, .binOp BinOp.gtr 9 (Operand.tmp 17) (Operand.tmp 18) 9, none, 0⟩])
 (.cond (Operand.tmp 19)
 (.seq
 (.ops [⟨some 4, .assign (Operand.const (Value.int IntKind.i64 1)), none, 0⟩])
 .ret)
 .skip))
 (.seq
 (.ops [⟨some 4, .assign (Operand.const (Value.int IntKind.i64 0)), none, 0⟩])
 .ret))))))))
abbrev R66 : List ResultVar := [ResultVar.tmp 4]
theorem ok66 : FnOK Tryd.prog 66 L66 R66 2 := ⟨_, _, Tryd.func66, rfl, by kernel_rfl, by kernel_rfl, by kernel_rfl, by kernel_rfl, Nat.le_of_ble_eq_true (by kernel_rfl), by kernel_rfl⟩

/-- ablaut/ablautref01.Cut -/
def L67 : LCode :=
 (.seq
 (.ops [⟨some 2, .assign (Operand.const (Value.slice none 0 0)), none, 0⟩,
 ⟨some 3, .assign (Operand.const (Value.bool false)), none, 0⟩])
 (.seq
 (.ops [⟨some 4, .assign (Operand.const (Value.slice none 0 0)), none, 0⟩])
 (.seq
 (.seq
 (.ops [⟨some 5, .assign (Operand.const (Value.int IntKind.i64 0)), none, 0⟩])
 (.block 0
 (.loop
 (.seq
 (.seq
 (.ops [⟨some 7, .move (Operand.tmp 5), none, 0⟩,
 ⟨some 8, .move (Operand.tmp 0), none, 0⟩,
 ⟨some 9, .call ⟨(Callee.builtin Builtin.len), [(Operand.tmp 8)].toArray, #[9]⟩, none, 0⟩,
 ⟨some 10, .binOp BinOp.lss 3 (Operand.tmp 7) (Operand.tmp 9) 3, none, 0⟩])
 (.cond (Operand.tmp 10)
 .skip
 (.exit 0)))
 (.block 1
 (.seq
 (.seq
 (.ops [⟨some 11, .move (Operand.tmp 0), none, 0⟩,
 ⟨some 12, .move (Operand.tmp 5), none, 0⟩,
 ⟨some 13, .index 9 (Operand.tmp 11) (Operand.tmp 12), none, 0⟩,
 ⟨some 14, .binOp BinOp.lss 5 (Operand.tmp 13) (Operand.const (Value.int IntKind.u8 33)) 5, none, 0⟩,
 ⟨some 15, .move (Operand.tmp 14), none, 0⟩,
 ⟨some 16, .move (Operand.tmp 0), some (15, false), 0⟩,
 ⟨some 17, .move (Operand.tmp 5), some (15, false), 0⟩,
 ⟨some 18, .index 9 (Operand.tmp 16) (Operand.tmp 17), some (15, false), 0⟩,
 ⟨some 19, .binOp BinOp.gtr 5 (Operand.tmp 18) (Operand.const (Value.int IntKind.u8 126)) 5, some (15, false), 0⟩,
 ⟨some 20, .pick (Operand.tmp 15) (Operand.const (Value.bool true)) (Operand.tmp 19), none, 0⟩,
 ⟨some 21, .move (Operand.tmp 20), none, 0⟩,
 ⟨some 22, .move (Operand.tmp 0), some (21, false), 0⟩,
 ⟨some 23, .move (Operand.tmp 5), some (21, false), 0⟩,
 ⟨some 24, .index 9 (Operand.tmp 22) (Operand.tmp 23), some (21, false), 0⟩,
 ⟨some 25, .binOp BinOp.eql 5 (Operand.tmp 24) (Operand.const (Value.int IntKind.u8 62)) 5, some (21, false), 0⟩,
 ⟨some 26, .pick (Operand.tmp 21) (Operand.const (Value.bool true)) (Operand.tmp 25), none, 0⟩])
 (.cond (Operand.tmp 26)
 (.seq
 (.ops [⟨some 2, .assign (Operand.const (Value.slice none 0 0)), none, 0⟩,
 ⟨some 3, .assign (Operand.const (Value.bool false)), none, 0⟩])
 .ret)
 .skip))
 (.seq
 (.seq
 (.ops [⟨some 27, .move (Operand.tmp 0), none, 0⟩,
 ⟨some 28, .move (Operand.tmp 5), none, 0⟩,
 ⟨some 29, .index 9 (Operand.tmp 27) (Operand.tmp 28), none, 0⟩,
 ⟨some 30, .binOp BinOp.neq 5 (Operand.tmp 29) (Operand.const (Value.int IntKind.u8 60)) 5, none, 0⟩])
 (.cond (Operand.tmp 30)
 (.seq
 (.ops [⟨some 31, .move (Operand.tmp 4), none, 0⟩,
 ⟨some 32, .move (Operand.tmp 0), none, 0⟩,
 ⟨some 33, .move (Operand.tmp 5), none, 0⟩,
 ⟨some 34, .move (Operand.tmp 5), none, 0⟩,
 ⟨some 35, .binOp BinOp.add 3 (Operand.tmp 34) (Operand.const (Value.int IntKind.i64 1)) 3, none, 0⟩,
 ⟨some 36, .slice 9 (Operand.tmp 32) (some (Operand.tmp 33)) (some (Operand.tmp 35)) none, none, 0⟩,
 ⟨some 37, .buildSlice 29 1 [(0, (Operand.tmp 36))].toArray, none, 0⟩,
 ⟨some 38, .call ⟨(Callee.builtin Builtin.append), [(Operand.tmp 31), (Operand.tmp 37)].toArray, #[29, 29]⟩, none, 0⟩,
 ⟨some 4, .assign (Operand.tmp 38), none, 0⟩])
 (.seq
 (.ops [⟨some 39, .move (Operand.tmp 5), none, 0⟩,
 ⟨some 40, .binOp BinOp.add 3 (Operand.tmp 39) (Operand.const (Value.int IntKind.i64 1)) 3, none, 0⟩,
 ⟨some 5, .assign (Operand.tmp 40), none, 0⟩])
 (.exit 1)))
 .skip))
 (.seq
 (.ops [⟨some 41, .move (Operand.tmp 5), none, 0⟩,
 ⟨some 42, .binOp BinOp.add 3 (Operand.tmp 41) (Operand.const (Value.int IntKind.i64 1)) 3, none, 0⟩,
 ⟨some 6, .assign (Operand.tmp 42), none, 0⟩])
 (.seq
 (.block 2
 (.loop
 (.seq
 (.seq
 (.ops [⟨some 43, .move (Operand.tmp 6), none, 0⟩,
 ⟨some 44, .move (Operand.tmp 0), none, 0⟩,
 ⟨some 45, .call ⟨(Callee.builtin Builtin.len), [(Operand.tmp 44)].toArray, #[9]⟩, none, 0⟩,
 ⟨some 46, .binOp BinOp.lss 3 (Operand.tmp 43) (Operand.tmp 45) 3, none, 0⟩,
 ⟨some 47, .move (Operand.tmp 46), none, 0⟩,
 ⟨some 48, .move (Operand.tmp 0), some (47, true), 0⟩,
 ⟨some 49, .move (Operand.tmp 6), some (47, true), 0⟩,
 ⟨some 50, .index 9 (Operand.tmp 48) (Operand.tmp 49), some (47, true), 0⟩,
 ⟨some 51, .binOp BinOp.neq 5 (Operand.tmp 50) (Operand.const (Value.int IntKind.u8 62)) 5, some (47, true), 0⟩,
 ⟨some 52, .pick (Operand.tmp 47) (Operand.tmp 51) (Operand.const (Value.bool false)), none, 0⟩])
 (.cond (Operand.tmp 52)
 .skip
 (.exit 2)))
 (.block 3
 (.ops [⟨some 53, .move (Operand.tmp 6), none, 0⟩,
 ⟨some 54, .binOp BinOp.add 3 (Operand.tmp 53) (Operand.const (Value.int IntKind.i64 1)) 3, none, 0⟩,
 ⟨some 6, .assign (Operand.tmp 54), none, 0⟩])))))
 (.seq
 (.seq
 (.ops [⟨some 55, .move (Operand.tmp 6), none, 0⟩,
 ⟨some 56, .move (Operand.tmp 0), none, 0⟩,
 ⟨some 57, .call ⟨(Callee.builtin Builtin.len), [(Operand.tmp 56)].toArray, #[9]⟩, none, 0⟩,
 ⟨some 58, .binOp BinOp.eql 3 (Operand.tmp 55) (Operand.tmp 57) 3, none, 0⟩,
 ⟨some 59, .move (Operand.tmp 58), none, 0⟩,
 ⟨some 60, .move (Operand.tmp 6), some (59, false), 0⟩,
 ⟨some 61, .move (Operand.tmp 5), some (59, false), 0⟩,
 ⟨some 62, .binOp BinOp.sub 3 (Operand.tmp 60) (Operand.tmp 61) 3, some (59, false), 0⟩,
 ⟨some 63, .binOp BinOp.lss 3 (Operand.tmp 62) (Operand.const (Value.int IntKind.i64 3)) 3, some (59, false), 0⟩,
 ⟨some 64, .pick (Operand.tmp 59) (Operand.const (Value.bool true)) (Operand.tmp 63), none, 0⟩,
 ⟨some 65, .move (Operand.tmp 64), none, 0⟩,
 ⟨some 66, .move (Operand.tmp 0), some (65, false), 0⟩,
 ⟨some 67, .move (Operand.tmp 5), some (65, false), 0⟩,
 ⟨some 68, .binOp BinOp.add 3 (Operand.tmp 67) (Operand.const (Value.int IntKind.i64 1)) 3, some (65, false), 0⟩,
 ⟨some 69, .move (Operand.tmp 6), some (65, false), 0⟩,
 ⟨some 70, .slice 9 (Operand.tmp 66) (some (Operand.tmp 68)) (some (Operand.tmp 69)) none, some (65, false), 0⟩,
 ⟨some 71, .call ⟨(Callee.value (Operand.func 100)), [(Operand.tmp 70)].toArray, #[9]⟩, some (65, false), 0⟩,
 ⟨some 72, .unOp UnOp.not 4 (Operand.tmp 71), some (65, false), 0⟩,
 ⟨some 73, .pick (Operand.tmp 65) (Operand.const (Value.bool true)) (Operand.tmp 72), none, 0⟩])
 (.cond (Operand.tmp 73)
 (.seq
 (.ops [⟨some 2, .assign (Operand.const (Value.slice none 0 0)), none, 0⟩,
 ⟨some 3, .assign (Operand.const (Value.bool false)), none, 0⟩])
 .ret)
 .skip))
 (.seq
 (.ops [⟨some 74, .move (Operand.tmp 4), none, 0⟩,
 ⟨some 75, .move (Operand.tmp 0), none, 0⟩,
 ⟨some 76, .move (Operand.tmp 5), none, 0⟩,
 ⟨some 77, .binOp BinOp.add 3 (Operand.tmp 76) (Operand.const (Value.int IntKind.i64 1)) 3, none, 0⟩,
 ⟨some 78, .move (Operand.tmp 6), none, 0⟩,
 ⟨some 79, .slice 9 (Operand.tmp 75) (some (Operand.tmp 77)) (some (Operand.tmp 78)) none, none, 0⟩,
 ⟨some 80, .buildSlice 29 1 [(0, (Operand.tmp 79))].toArray, none, 0⟩,
 ⟨some 81, .call ⟨(Callee.builtin Builtin.append), [(Operand.tmp 74), (Operand.tmp 80)].toArray, #[29, 29]⟩, none, 0⟩,
 ⟨some 4, .assign (Operand.tmp 81), none, 0⟩])
 (.ops [⟨some 82, .move (Operand.tmp 6), none, 0⟩,
 ⟨some 83, .binOp BinOp.add 3 (Operand.tmp 82) (Operand.const (Value.int IntKind.i64 1)) 3, none, 0⟩,
 ⟨some 5, .assign (Operand.tmp 83), none, 0⟩]))))))))))))
 (.seq
 (.ops [⟨some 84, .move (Operand.tmp 4), none, 0⟩,
 ⟨some 2, .assign (Operand.tmp 84), none, 0⟩,
 ⟨some 3, .assign (Operand.const (Value.bool true)), none, 0⟩])
 .ret))))
abbrev R67 : List ResultVar := [ResultVar.tmp 2, ResultVar.tmp 3]
theorem ok67 : FnOK Tryd.prog 67 L67 R67 1 := ⟨_, _, Tryd.func67, rfl, by kernel_rfl, by kernel_rfl, by kernel_rfl, by kernel_rfl, Nat.le_of_ble_eq_true (by kernel_rfl), by kernel_rfl⟩

/-- slices.IndexFunc[[][]string,[]string] -/
def L68 : LCode :=
 (.seq
 (.ops [⟨some 4, .assign (Operand.const (Value.int IntKind.i64 0)), none, 0⟩])
 (.seq
 (.seq
 (.ops [⟨some 6, .move (Operand.tmp 0), none, 0⟩,
 ⟨some 7, .call ⟨(Callee.builtin Builtin.len), [(Operand.tmp 6)].toArray, #[49]⟩, none, 0⟩,
 ⟨some 8, .move (Operand.const (Value.int IntKind.i64 0)), none, 0⟩])
 (.block 0
 (.loop
 (.seq
 (.ops [⟨some 9, .binOp BinOp.lss 3 (Operand.tmp 8) (Operand.tmp 7) 3, none, 0⟩])
 (.seq
 (.cond (Operand.tmp 9)
 .skip
 (.exit 0))
 (.seq
 (.block 1
 (.seq
 (.ops [⟨some 10, .move (Operand.tmp 8), none, 0⟩,
 ⟨some 5, .assign (Operand.tmp 10), none, 0⟩])
 (.seq
 (.ops [⟨some 11, .move (Operand.tmp 1), none, 0⟩,
 ⟨some 12, .move (Operand.tmp 0), none, 0⟩,
 ⟨some 13, .move (Operand.tmp 5), none, 0⟩,
 ⟨some 14, .indexAddr 49 (Operand.tmp 12) (Operand.tmp 13), none, 0⟩,
 ⟨some 15, .load 29 (Operand.tmp 14), none, 0⟩,
 ⟨some 16, .call ⟨(Callee.value (Operand.tmp 11)), [(Operand.tmp 15)].toArray, #[29]⟩, none, 0⟩])
 (.cond (Operand.tmp 16)
 (.seq
 (.ops [⟨some 17, .move (Operand.tmp 5), none, 0⟩,
 ⟨some 4, .assign (Operand.tmp 17), none, 0⟩])
 .ret)
 .skip))))
 (.ops [⟨some 18, .binOp BinOp.add 3 (Operand.tmp 8) (Operand.const (Value.int IntKind.i64 1)) 3, none, 0⟩,
 ⟨some 8, .move (Operand.tmp 18), none, 0⟩])))))))
 (.seq
 (.ops [⟨some 4, .assign (Operand.const (Value.int IntKind.i64 (-1))), none, 0⟩])
 .ret)))
abbrev R68 : List ResultVar := [ResultVar.tmp 4]
theorem ok68 : FnOK Tryd.prog 68 L68 R68 2 := ⟨_, _, Tryd.func68, rfl, by kernel_rfl, by kernel_rfl, by kernel_rfl, by kernel_rfl, Nat.le_of_ble_eq_true (by kernel_rfl), by kernel_rfl⟩

/-- ablaut/script.clash$1 -/
def L69 : LCode :=
 (.seq
 (.ops [⟨some 2, .assign (Operand.const (Value.bool false)), none, 0⟩])
 (.seq
 (.ops [⟨some 3, .move (Operand.tmp 0), none, 0⟩,
 ⟨some 4, .call ⟨(Callee.builtin Builtin.len), [(Operand.tmp 3)].toArray, #[29]⟩, none, 0⟩,
 ⟨some 5, .binOp BinOp.eql 3 (Operand.tmp 4) (Operand.const (Value.int IntKind.i64 0)) 3, none, 0⟩,
 ⟨some 2, .assign (Operand.tmp 5), none, 0⟩])
 .ret))
abbrev R69 : List ResultVar := [ResultVar.tmp 2]
theorem ok69 : FnOK Tryd.prog 69 L69 R69 1 := ⟨_, _, Tryd.func69, rfl, by kernel_rfl, by kernel_rfl, by kernel_rfl, by kernel_rfl, Nat.le_of_ble_eq_true (by kernel_rfl), by kernel_rfl⟩

/-- ablaut/script.begins -/
def L70 : LCode :=
 (.seq
 (.ops [⟨some 4, .assign (Operand.const (Value.bool false)), none, 0⟩])
 (.seq
 (.ops [⟨some 5, .move (Operand.tmp 0), none, 0⟩,
 ⟨some 6, .call ⟨(Callee.builtin Builtin.len), [(Operand.tmp 5)].toArray, #[29]⟩, none, 0⟩,
 ⟨some 7, .move (Operand.tmp 1), none, 0⟩,
 ⟨some 8, .call ⟨(Callee.builtin Builtin.len), [(Operand.tmp 7)].toArray, #[29]⟩, none, 0⟩,
 ⟨some 9, .binOp BinOp.geq 3 (Operand.tmp 6) (Operand.tmp 8) 3, none, 0⟩,
 ⟨some 10, .move (Operand.tmp 9), none, 0⟩,
 ⟨some 11, .move (Operand.tmp 0), some (10, true), 0⟩,
 ⟨some 12, .move (Operand.tmp 1), some (10, true), 0⟩,
 ⟨some 13, .call ⟨(Callee.builtin Builtin.len), [(Operand.tmp 12)].toArray, #[29]⟩, some (10, true), 0⟩,
 ⟨some 14, .slice 29 (Operand.tmp 11) none (some (Operand.tmp 13)) none, some (10, true), 0⟩,
 ⟨some 15, .move (Operand.tmp 1), some (10, true), 0⟩,
 ⟨some 16, .call ⟨(Callee.value (Operand.func 40)), [(Operand.tmp 14), (Operand.tmp 15)].toArray, #[29, 29]⟩, some (10, true), 0⟩,
 ⟨some 17, .pick (Operand.tmp 10) (Operand.tmp 16) (Operand.const (Value.bool false)), none, 0⟩,
 ⟨some 4, .assign (Operand.tmp 17), none, 0⟩])
 .ret))
abbrev R70 : List ResultVar := [ResultVar.tmp 4]
theorem ok70 : FnOK Tryd.prog 70 L70 R70 2 := ⟨_, _, Tryd.func70, rfl, by kernel_rfl, by kernel_rfl, by kernel_rfl, by kernel_rfl, Nat.le_of_ble_eq_true (by kernel_rfl), by kernel_rfl⟩

/-- slices.Delete[[]ablaut/script.race,ablaut/script.race] -/
def L71 : LCode :=
 (.seq
 (.ops [⟨some 6, .assign (Operand.const (Value.slice none 0 0)), none, 0⟩])
 (.seq
 (.ops [⟨some 8, .move (Operand.tmp 0), none, 0⟩,
 ⟨some 9, .move (Operand.tmp 1), none, 0⟩,
 ⟨some 10, .move (Operand.tmp 2), none, 0⟩,
 ⟨some 11, .move (Operand.tmp 0), none, 0⟩,
 ⟨some 12, .call ⟨(Callee.builtin Builtin.len), [(Operand.tmp 11)].toArray, #[96]⟩, none, 0⟩,
 ⟨some 13, .slice 96 (Operand.tmp 8) (some (Operand.tmp 9)) (some (Operand.tmp 10)) (some (Operand.tmp 12)), none, 0⟩])
 (.seq
 (.seq
 (.ops [⟨some 14, .move (Operand.tmp 1), none, 0⟩,
 ⟨some 15, .move (Operand.tmp 2), none, 0⟩,
 ⟨some 16, .binOp BinOp.eql 3 (Operand.tmp 14) (Operand.tmp 15) 3, none, 0⟩])
 (.cond (Operand.tmp 16)
 (.seq
 (.ops [⟨some 17, .move (Operand.tmp 0), none, 0⟩,
 ⟨some 6, .assign (Operand.tmp 17), none, 0⟩])
 .ret)
 .skip))
 (.seq
 (.ops [⟨some 18, .move (Operand.tmp 0), none, 0⟩,
 ⟨some 19, .call ⟨(Callee.builtin Builtin.len), [(Operand.tmp 18)].toArray, #[96]⟩, none, 0⟩,
 ⟨some 7, .assign (Operand.tmp 19), none, 0⟩])
 (.seq
 (.draw [⟨some 20, .move (Operand.tmp 0), none, 0⟩,
 ⟨some 21, .move (Operand.tmp 1), none, 0⟩,
 ⟨some 22, .slice 96 (Operand.tmp 20) none (some (Operand.tmp 21)) none, none, 0⟩,
 ⟨some 23, .move (Operand.tmp 0), none, 0⟩,
 ⟨some 24, .move (Operand.tmp 2), none, 0⟩,
 ⟨some 25, .slice 96 (Operand.tmp 23) (some (Operand.tmp 24)) none none, none, 0⟩,
 ⟨some 26, .call ⟨(Callee.builtin Builtin.append), [(Operand.tmp 22), (Operand.tmp 25)].toArray, #[96, 96]⟩, none, 0⟩,
 ⟨some 0, .assign (Operand.tmp 26), none, 0⟩] true [6, 7] [0, 1, 3, 4, 2, 5, 6, 7])
 (.seq
 (.ops [⟨some 27, .move (Operand.tmp 0), none, 0⟩,
 ⟨some 28, .move (Operand.tmp 0), none, 0⟩,
 ⟨some 29, .call ⟨(Callee.builtin Builtin.len), [(Operand.tmp 28)].toArray, #[96]⟩, none, 0⟩,
 ⟨some 30, .move (Operand.tmp 7), none, 0⟩,
 ⟨some 31, .slice 96 (Operand.tmp 27) (some (Operand.tmp 29)) (some (Operand.tmp 30)) none, none, 0⟩,
 ⟨none, .call ⟨(Callee.builtin Builtin.clear), [(Operand.tmp 31)].toArray, #[96]⟩, none, 0⟩])
 (.seq
 (.ops [⟨some 32, .move (Operand.tmp 0), none, 0⟩,
 ⟨some 6, .assign (Operand.tmp 32), none, 0⟩])
 .ret)))))))
abbrev R71 : List ResultVar := [ResultVar.tmp 6]
theorem ok71 : FnOK Tryd.prog 71 L71 R71 3 := ⟨_, _, Tryd.func71, rfl, by kernel_rfl, by kernel_rfl, by kernel_rfl, by kernel_rfl, Nat.le_of_ble_eq_true (by kernel_rfl), by kernel_rfl⟩

/-- slices.Clone[[]int,int] -/
def L72 : LCode :=
 (.seq
 (.ops [⟨some 2, .assign (Operand.const (Value.slice none 0 0)), none, 0⟩])
 (.seq
 (.seq
 (.ops [⟨some 3, .move (Operand.tmp 0), none, 0⟩,
 ⟨some 4, .binOp BinOp.eql 56 (Operand.tmp 3) (Operand.const (Value.slice none 0 0)) 56, none, 0⟩])
 (.cond (Operand.tmp 4)
 (.seq
 (.ops [⟨some 2, .assign (Operand.const (Value.slice none 0 0)), none, 0⟩])
 .ret)
 .skip))
 (.seq
 (.ops [⟨some 5, .buildSlice 56 0 [].toArray, none, 0⟩,
 ⟨some 6, .move (Operand.tmp 0), none, 0⟩,
 ⟨some 7, .call ⟨(Callee.builtin Builtin.append), [(Operand.tmp 5), (Operand.tmp 6)].toArray, #[56, 56]⟩, none, 0⟩,
 ⟨some 2, .assign (Operand.tmp 7), none, 0⟩])
 .ret)))
abbrev R72 : List ResultVar := [ResultVar.tmp 2]
theorem ok72 : FnOK Tryd.prog 72 L72 R72 1 := ⟨_, _, Tryd.func72, rfl, by kernel_rfl, by kernel_rfl, by kernel_rfl, by kernel_rfl, Nat.le_of_ble_eq_true (by kernel_rfl), by kernel_rfl⟩

/-- slices.ContainsFunc[[]string,string] -/
def L73 : LCode :=
 (.seq
 (.ops [⟨some 4, .assign (Operand.const (Value.bool false)), none, 0⟩])
 (.seq
 (.ops [⟨some 5, .move (Operand.tmp 0), none, 0⟩,
 ⟨some 6, .move (Operand.tmp 1), none, 0⟩,
 ⟨some 7, .call ⟨(Callee.value (Operand.func 101)), [(Operand.tmp 5), (Operand.tmp 6)].toArray, #[29, 39]⟩, none, 0⟩,
 ⟨some 8, .binOp BinOp.geq 3 (Operand.tmp 7) (Operand.const (Value.int IntKind.i64 0)) 3, none, 0⟩,
 ⟨some 4, .assign (Operand.tmp 8), none, 0⟩])
 .ret))
abbrev R73 : List ResultVar := [ResultVar.tmp 4]
theorem ok73 : FnOK Tryd.prog 73 L73 R73 2 := ⟨_, _, Tryd.func73, rfl, by kernel_rfl, by kernel_rfl, by kernel_rfl, by kernel_rfl, Nat.le_of_ble_eq_true (by kernel_rfl), by kernel_rfl⟩

/-- ablaut/syms.isLong -/
def L74 : LCode :=
 (.seq
 (.ops [⟨some 2, .assign (Operand.const (Value.bool false)), none, 0⟩])
 (.seq
 (.ops [⟨some 3, .move (Operand.tmp 0), none, 0⟩,
 ⟨some 4, .call ⟨(Callee.builtin Builtin.len), [(Operand.tmp 3)].toArray, #[9]⟩, none, 0⟩,
 ⟨some 5, .binOp BinOp.gtr 3 (Operand.tmp 4) (Operand.const (Value.int IntKind.i64 16)) 3, none, 0⟩,
 ⟨some 2, .assign (Operand.tmp 5), none, 0⟩])
 .ret))
abbrev R74 : List ResultVar := [ResultVar.tmp 2]
theorem ok74 : FnOK Tryd.prog 74 L74 R74 1 := ⟨_, _, Tryd.func74, rfl, by kernel_rfl, by kernel_rfl, by kernel_rfl, by kernel_rfl, Nat.le_of_ble_eq_true (by kernel_rfl), by kernel_rfl⟩

/-- ablaut/syms.ValidateWord$1 -/
def L75 : LCode :=
 (.seq
 (.ops [⟨some 2, .assign (Operand.const (Value.bool false)), none, 0⟩])
 (.seq
 (.ops [⟨some 3, .move (Operand.tmp 0), none, 0⟩,
 ⟨some 4, .call ⟨(Callee.value (Operand.func 76)), [(Operand.tmp 3)].toArray, #[9]⟩, none, 0⟩,
 ⟨some 5, .unOp UnOp.not 4 (Operand.tmp 4), none, 0⟩,
 ⟨some 2, .assign (Operand.tmp 5), none, 0⟩])
 .ret))
abbrev R75 : List ResultVar := [ResultVar.tmp 2]
theorem ok75 : FnOK Tryd.prog 75 L75 R75 1 := ⟨_, _, Tryd.func75, rfl, by kernel_rfl, by kernel_rfl, by kernel_rfl, by kernel_rfl, Nat.le_of_ble_eq_true (by kernel_rfl), by kernel_rfl⟩

/-- ablaut/syms.isSymbol -/
def L76 : LCode :=
 (.seq
 (.ops [⟨some 2, .assign (Operand.const (Value.bool false)), none, 0⟩])
 (.seq
 (.seq
 (.ops [⟨some 4, .move (Operand.tmp 0), none, 0⟩,
 ⟨some 5, .call ⟨(Callee.builtin Builtin.len), [(Operand.tmp 4)].toArray, #[9]⟩, none, 0⟩,
 ⟨some 6, .move (Operand.const (Value.int IntKind.i64 0)), none, 0⟩])
 (.block 0
 (.loop
 (.seq
 (.ops [⟨some 7, .binOp BinOp.lss 3 (Operand.tmp 6) (Operand.tmp 5) 3, none, 0⟩])
 (.seq
 (.cond (Operand.tmp 7)
 .skip
 (.exit 0))
 (.seq
 (.block 1
 (.seq
 (.ops [⟨some 8, .move (Operand.tmp 6), none, 0⟩,
 ⟨some 3, .assign (Operand.tmp 8), none, 0⟩])
 (.seq
 (.ops [⟨some 9, .move (Operand.tmp 0), none, 0⟩,
 ⟨some 10, .move (Operand.tmp 3), none, 0⟩,
 ⟨some 11, .index 9 (Operand.tmp 9) (Operand.tmp 10), none, 0⟩,
 ⟨some 12, .binOp BinOp.lss 5 (Operand.tmp 11) (Operand.const (Value.int IntKind.u8 33)) 5, none, 0⟩,
 ⟨some 13, .move (Operand.tmp 12), none, 0⟩,
 ⟨some 14, .move (Operand.tmp 0), some (13, false), 0⟩,
 ⟨some 15, .move (Operand.tmp 3), some (13, false), 0⟩,
 ⟨some 16, .index 9 (Operand.tmp 14) (Operand.tmp 15), some (13, false), 0⟩,
 ⟨some 17, .binOp BinOp.gtr 5 (Operand.tmp 16) (Operand.const (Value.int IntKind.u8 126)) 5, some (13, false), 0⟩,
 ⟨some 18, .pick (Operand.tmp 13) (Operand.const (Value.bool true)) (Operand.tmp 17), none, 0⟩,
 ⟨some 19, .move (Operand.tmp 18), none, 0⟩,
 ⟨some 20, .move (Operand.tmp 0), some (19, false), 0⟩,
 ⟨some 21, .move (Operand.tmp 3), some (19, false), 0⟩,
 ⟨some 22, .index 9 (Operand.tmp 20) (Operand.tmp 21), some (19, false), 0⟩,
 ⟨some 23, .binOp BinOp.eql 5 (Operand.tmp 22) (Operand.const (Value.int IntKind.u8 60)) 5, some (19, false), 0⟩,
 ⟨some 24, .pick (Operand.tmp 19) (Operand.const (Value.bool true)) (Operand.tmp 23), none, 0⟩,
 ⟨some 25, .move (Operand.tmp 24), none, 0⟩,
 ⟨some 26, .move (Operand.tmp 0), some (25, false), 0⟩,
 ⟨some 27, .move (Operand.tmp 3), some (25, false), 0⟩,
 ⟨some 28, .index 9 (Operand.tmp 26) (Operand.tmp 27), some (25, false), 0⟩,
 ⟨some 29, .binOp BinOp.eql 5 (Operand.tmp 28) (Operand.const (Value.int IntKind.u8 62)) 5, some (25, false), 0⟩,
 ⟨some 30, .pick (Operand.tmp 25) (Operand.const (Value.bool true)) (Operand.tmp 29), none, 0⟩])
 (.cond (Operand.tmp 30)
 (.seq
 (.ops [⟨some 2, .assign (Operand.const (Value.bool false)), none, 0⟩])
 .ret)
 .skip))))
 (.ops [⟨some 31, .binOp BinOp.add 3 (Operand.tmp 6) (Operand.const (Value.int IntKind.i64 1)) 3, none, 0⟩,
 ⟨some 6, .move (Operand.tmp 31), none, 0⟩])))))))
 (.seq
 (.ops [⟨some 32, .move (Operand.tmp 0), none, 0⟩,
 ⟨some 33, .binOp BinOp.neq 9 (Operand.tmp 32) (Operand.const (Value.string ⟨#[]⟩)) 9, none, 0⟩,
 ⟨some 2, .assign (Operand.tmp 33), none, 0⟩])
 .ret)))
abbrev R76 : List ResultVar := [ResultVar.tmp 2]
theorem ok76 : FnOK Tryd.prog 76 L76 R76 1 := ⟨_, _, Tryd.func76, rfl, by kernel_rfl, by kernel_rfl, by kernel_rfl, by kernel_rfl, Nat.le_of_ble_eq_true (by kernel_rfl), by kernel_rfl⟩

/-- ablaut/script.plain$1 -/
def L77 : LCode :=
 (.seq
 (.ops [⟨some 1, .box 46 (Operand.tmp 0), none, 0⟩,
 ⟨some 2, .assign (Operand.const (Value.bool false)), none, 0⟩])
 (.seq
 (.ops [⟨some 3, .fieldAddr 46 (Operand.tmp 1) 0, none, 0⟩,
 ⟨some 4, .load 29 (Operand.tmp 3), none, 0⟩,
 ⟨some 5, .call ⟨(Callee.builtin Builtin.len), [(Operand.tmp 4)].toArray, #[29]⟩, none, 0⟩,
 ⟨some 6, .binOp BinOp.neq 3 (Operand.tmp 5) (Operand.const (Value.int IntKind.i64 1)) 3, none, 0⟩,
 ⟨some 2, .assign (Operand.tmp 6), none, 0⟩])
 .ret))
abbrev R77 : List ResultVar := [ResultVar.tmp 2]
theorem ok77 : FnOK Tryd.prog 77 L77 R77 1 := ⟨_, _, Tryd.func77, rfl, by kernel_rfl, by kernel_rfl, by kernel_rfl, by kernel_rfl, Nat.le_of_ble_eq_true (by kernel_rfl), by kernel_rfl⟩

/-- ablaut/script.fit -/
def L78 : LCode :=
 (.seq
 (.ops [⟨some 4, .assign (Operand.const (Value.int IntKind.i64 0)), none, 0⟩])
 (.seq
 (.ops [⟨some 5, .assign (Operand.const (Value.int IntKind.i64 (-1))), none, 0⟩])
 (.seq
 (.seq
 (.ops [⟨some 8, .move (Operand.tmp 0), none, 0⟩,
 ⟨some 9, .call ⟨(Callee.builtin Builtin.len), [(Operand.tmp 8)].toArray, #[22]⟩, none, 0⟩,
 ⟨some 10, .move (Operand.const (Value.int IntKind.i64 0)), none, 0⟩])
 (.block 0
 (.loop
 (.seq
 (.ops [⟨some 11, .binOp BinOp.lss 3 (Operand.tmp 10) (Operand.tmp 9) 3, none, 0⟩])
 (.seq
 (.cond (Operand.tmp 11)
 .skip
 (.exit 0))
 (.seq
 (.block 1
 (.seq
 (.ops [⟨some 12, .move (Operand.tmp 10), none, 0⟩,
 ⟨some 13, .indexAddr 22 (Operand.tmp 8) (Operand.tmp 10), none, 0⟩,
 ⟨some 14, .load 46 (Operand.tmp 13), none, 0⟩,
 ⟨some 7, .alloc 46, none, 0⟩,
 ⟨some 6, .assign (Operand.tmp 12), none, 0⟩,
 ⟨none, .store 46 (Operand.tmp 7) (Operand.tmp 14), none, 0⟩])
 (.seq
 (.draw [⟨some 15, .move (Operand.tmp 1), none, 0⟩,
 ⟨some 16, .fieldAddr 46 (Operand.tmp 7) 0, none, 0⟩,
 ⟨some 17, .load 29 (Operand.tmp 16), none, 0⟩,
 ⟨some 18, .call ⟨(Callee.value (Operand.func 70)), [(Operand.tmp 15), (Operand.tmp 17)].toArray, #[29, 29]⟩, none, 0⟩,
 ⟨some 19, .move (Operand.tmp 18), none, 0⟩,
 ⟨some 20, .move (Operand.tmp 5), some (19, true), 0⟩,
 ⟨some 21, .binOp BinOp.lss 3 (Operand.tmp 20) (Operand.const (Value.int IntKind.i64 0)) 3, some (19, true), 0⟩,
 ⟨some 22, .move (Operand.tmp 21), some (19, true), 0⟩,
 ⟨some 23, .fieldAddr 46 (Operand.tmp 7) 0, some (22, false), 0⟩,
 ⟨some 24, .load 29 (Operand.tmp 23), some (22, false), 0⟩,
 ⟨some 25, .call ⟨(Callee.builtin Builtin.len), [(Operand.tmp 24)].toArray, #[29]⟩, some (22, false), 0⟩,
 ⟨some 26, .move (Operand.tmp 0), some (22, false), 0⟩,
 ⟨some 27, .move (Operand.tmp 5), some (22, false), 0⟩,
 ⟨some 28, .indexAddr 22 (Operand.tmp 26) (Operand.tmp 27), some (22, false), 0⟩,
 ⟨some 29, .fieldAddr 46 (Operand.tmp 28) 0, some (22, false), 0⟩,
 ⟨some 30, .load 29 (Operand.tmp 29), some (22, false), 0⟩,
 ⟨some 31, .call ⟨(Callee.builtin Builtin.len), [(Operand.tmp 30)].toArray, #[29]⟩, some (22, false), 0⟩,
 ⟨some 32, .binOp BinOp.gtr 3 (Operand.tmp 25) (Operand.tmp 31) 3, some (22, false), 0⟩,
 ⟨some 33, .pick (Operand.tmp 22) (Operand.const (Value.bool true)) (Operand.tmp 32), some (19, true), 0⟩,
 ⟨some 34, .pick (Operand.tmp 19) (Operand.tmp 33) (Operand.const (Value.bool false)), none, 0⟩] true [17, 18, 19] [0, 1, 2, 3, 4, 5, 6, 7, 8, 9, 10, 11, 12, 13, 14, 15, 16, 17, 18, 19])
 (.cond (Operand.tmp 34)
 (.ops [⟨some 35, .move (Operand.tmp 6), none, 0⟩,
 ⟨some 5, .assign (Operand.tmp 35), none, 0⟩])
 .skip))))
 (.ops [⟨some 36, .binOp BinOp.add 3 (Operand.tmp 10) (Operand.const (Value.int IntKind.i64 1)) 3, none, 0⟩,
 ⟨some 10, .move (Operand.tmp 36), none, 0⟩])))))))
 (.seq
 (.ops [⟨some 37, .move (Operand.tmp 5), none, 0⟩,
 ⟨some 4, .assign (Operand.tmp 37), none, 0⟩])
 .ret))))
abbrev R78 : List ResultVar := [ResultVar.tmp 4]
theorem ok78 : FnOK Tryd.prog 78 L78 R78 2 := ⟨_, _, Tryd.func78, rfl, by kernel_rfl, by kernel_rfl, by kernel_rfl, by kernel_rfl, Nat.le_of_ble_eq_true (by kernel_rfl), by kernel_rfl⟩

/-- ablaut/script.waits -/
def L79 : LCode :=
 (.seq
 (.ops [⟨some 3, .box 29 (Operand.tmp 1), none, 0⟩,
 ⟨some 4, .assign (Operand.const (Value.bool false)), none, 0⟩])
 (.seq
 (.ops [⟨some 5, .move (Operand.tmp 0), none, 0⟩,
 ⟨some 6, .makeFunc (Fn.func 102) #[] [(Operand.tmp 3)].toArray, none, 0⟩,
 ⟨some 7, .call ⟨(Callee.value (Operand.func 38)), [(Operand.tmp 5), (Operand.tmp 6)].toArray, #[22, 71]⟩, none, 0⟩,
 ⟨some 4, .assign (Operand.tmp 7), none, 0⟩])
 .ret))
abbrev R79 : List ResultVar := [ResultVar.tmp 4]
theorem ok79 : FnOK Tryd.prog 79 L79 R79 2 := ⟨_, _, Tryd.func79, rfl, by kernel_rfl, by kernel_rfl, by kernel_rfl, by kernel_rfl, Nat.le_of_ble_eq_true (by kernel_rfl), by kernel_rfl⟩

/-- slices.Grow[[]string,string] -/
def L80 : LCode :=
 (.seq
 (.ops [⟨some 4, .assign (Operand.const (Value.slice none 0 0)), none, 0⟩])
 (.seq
 (.seq
 (.ops [⟨some 5, .move (Operand.tmp 1), none, 0⟩,
 ⟨some 6, .binOp BinOp.lss 3 (Operand.tmp 5) (Operand.const (Value.int IntKind.i64 0)) 3, none, 0⟩])
 (.cond (Operand.tmp 6)
 (.ops [⟨some 7, .makeInterface 9 (Operand.const (Value.string ⟨#[99, 97, 110, 110, 111, 116, 32, 98, 101, 32, 110, 101, 103, 97, 116, 105, 118, 101]⟩)), none, 0⟩,
 ⟨none, .panic (Operand.tmp 7), none, 0⟩])
 .skip))
 (.seq
 (.seq
 (.ops [⟨some 8, .move (Operand.tmp 1), none, 0⟩,
 ⟨some 9, .move (Operand.tmp 0), none, 0⟩,
 ⟨some 10, .call ⟨(Callee.builtin Builtin.cap), [(Operand.tmp 9)].toArray, #[29]⟩, none, 0⟩,
 ⟨some 11, .move (Operand.tmp 0), none, 0⟩,
 ⟨some 12, .call ⟨(Callee.builtin Builtin.len), [(Operand.tmp 11)].toArray, #[29]⟩, none, 0⟩,
 ⟨some 13, .binOp BinOp.sub 3 (Operand.tmp 10) (Operand.tmp 12) 3, none, 0⟩,
 ⟨some 14, .binOp BinOp.sub 3 (Operand.tmp 8) (Operand.tmp 13) 3, none, 0⟩,
 ⟨some 1, .assign (Operand.tmp 14), none, 0⟩])
 (.seq
 (.ops [⟨some 15, .move (Operand.tmp 1), none, 0⟩,
 ⟨some 16, .binOp BinOp.gtr 3 (Operand.tmp 15) (Operand.const (Value.int IntKind.i64 0)) 3, none, 0⟩])
 (.cond (Operand.tmp 16)
 (.ops [⟨some 17, .move (Operand.tmp 0), none, 0⟩,
 ⟨some 18, .move (Operand.tmp 0), none, 0⟩,
 ⟨some 19, .call ⟨(Callee.builtin Builtin.cap), [(Operand.tmp 18)].toArray, #[29]⟩, none, 0⟩,
 ⟨some 20, .slice 29 (Operand.tmp 17) none (some (Operand.tmp 19)) none, none, 0⟩,
 ⟨some 21, .move (Operand.tmp 1), none, 0⟩,
 ⟨some 22, .call ⟨(Callee.builtin Builtin.append), [(Operand.tmp 20), (Operand.tmp 21)].toArray, #[29, 3]⟩, none, 5⟩,
 ⟨some 23, .move (Operand.tmp 0), none, 0⟩,
 ⟨some 24, .call ⟨(Callee.builtin Builtin.len), [(Operand.tmp 23)].toArray, #[29]⟩, none, 0⟩,
 ⟨some 25, .slice 29 (Operand.tmp 22) none (some (Operand.tmp 24)) none, none, 0⟩,
 ⟨some 0, .assign (Operand.tmp 25), none, 0⟩])
 .skip)))
 (.seq
 (.ops [⟨some 26, .move (Operand.tmp 0), none, 0⟩,
 ⟨some 4, .assign (Operand.tmp 26), none, 0⟩])
 .ret))))
abbrev R80 : List ResultVar := [ResultVar.tmp 4]
theorem ok80 : FnOK Tryd.prog 80 L80 R80 2 := ⟨_, _, Tryd.func80, rfl, by kernel_rfl, by kernel_rfl, by kernel_rfl, by kernel_rfl, Nat.le_of_ble_eq_true (by kernel_rfl), by kernel_rfl⟩

/-- strings.Join -/
def L81 : LCode :=
 (.seq
 (.ops [⟨some 4, .assign (Operand.const (Value.string ⟨#[]⟩)), none, 0⟩])
 (.seq
 (.seq
 (.ops [⟨some 11, .move (Operand.tmp 0), none, 0⟩,
 ⟨some 12, .call ⟨(Callee.builtin Builtin.len), [(Operand.tmp 11)].toArray, #[29]⟩, none, 0⟩])
 (.block 0
 (.seq
 (.ops [⟨some 14, .binOp BinOp.eql 3 (Operand.tmp 12) (Operand.const (Value.int IntKind.i64 0)) 3, none, 0⟩,
 ⟨some 13, .assign (Operand.tmp 14), none, 0⟩])
 (.cond (Operand.tmp 13)
 (.seq
 (.ops [⟨some 4, .assign (Operand.const (Value.string ⟨#[]⟩)), none, 0⟩])
 .ret)
 (.seq
 (.ops [⟨some 16, .binOp BinOp.eql 3 (Operand.tmp 12) (Operand.const (Value.int IntKind.i64 1)) 3, none, 0⟩,
 ⟨some 15, .assign (Operand.tmp 16), none, 0⟩])
 (.cond (Operand.tmp 15)
 (.seq
 (.ops [⟨some 17, .move (Operand.tmp 0), none, 0⟩,
 ⟨some 18, .indexAddr 29 (Operand.tmp 17) (Operand.const (Value.int IntKind.i64 0)), none, 0⟩,
 ⟨some 19, .load 9 (Operand.tmp 18), none, 0⟩,
 ⟨some 4, .assign (Operand.tmp 19), none, 0⟩])
 .ret)
 .skip))))))
 (.seq
 (.ops [⟨some 5, .assign (Operand.const (Value.int IntKind.i64 0)), none, 0⟩])
 (.seq
 (.seq
 (.ops [⟨some 20, .move (Operand.tmp 1), none, 0⟩,
 ⟨some 21, .call ⟨(Callee.builtin Builtin.len), [(Operand.tmp 20)].toArray, #[9]⟩, none, 0⟩,
 ⟨some 22, .binOp BinOp.gtr 3 (Operand.tmp 21) (Operand.const (Value.int IntKind.i64 0)) 3, none, 0⟩])
 (.cond (Operand.tmp 22)
 (.seq
 (.seq
 (.ops [⟨some 23, .move (Operand.tmp 1), none, 0⟩,
 ⟨some 24, .call ⟨(Callee.builtin Builtin.len), [(Operand.tmp 23)].toArray, #[9]⟩, none, 0⟩,
 ⟨some 25, .move (Operand.tmp 0), none, 0⟩,
 ⟨some 26, .call ⟨(Callee.builtin Builtin.len), [(Operand.tmp 25)].toArray, #[29]⟩, none, 0⟩,
 ⟨some 27, .binOp BinOp.sub 3 (Operand.tmp 26) (Operand.const (Value.int IntKind.i64 1)) 3, none, 0⟩,
 ⟨some 28, .binOp BinOp.quo 3 (Operand.const (Value.int IntKind.i64 9223372036854775807)) (Operand.tmp 27) 3, none, 0⟩,
 ⟨some 29, .binOp BinOp.geq 3 (Operand.tmp 24) (Operand.tmp 28) 3, none, 0⟩])
 (.cond (Operand.tmp 29)
 (.ops [⟨some 30, .makeInterface 9 (Operand.const (Value.string ⟨#[115, 116, 114, 105, 110, 103, 115, 58, 32, 74, 111, 105, 110, 32, 111, 117, 116, 112, 117, 116, 32, 108, 101, 110, 103, 116, 104, 32, 111, 118, 101, 114, 102, 108, 111, 119]⟩)), none, 0⟩,
 ⟨none, .panic (Operand.tmp 30), none, 0⟩])
 .skip))
 (.ops [⟨some 31, .move (Operand.tmp 5), none, 0⟩,
 ⟨some 32, .move (Operand.tmp 1), none, 0⟩,
 ⟨some 33, .call ⟨(Callee.builtin Builtin.len), [(Operand.tmp 32)].toArray, #[9]⟩, none, 0⟩,
 ⟨some 34, .move (Operand.tmp 0), none, 0⟩,
 ⟨some 35, .call ⟨(Callee.builtin Builtin.len), [(Operand.tmp 34)].toArray, #[29]⟩, none, 0⟩,
 ⟨some 36, .binOp BinOp.sub 3 (Operand.tmp 35) (Operand.const (Value.int IntKind.i64 1)) 3, none, 0⟩,
 ⟨some 37, .binOp BinOp.mul 3 (Operand.tmp 33) (Operand.tmp 36) 3, none, 0⟩,
 ⟨some 38, .binOp BinOp.add 3 (Operand.tmp 31) (Operand.tmp 37) 3, none, 0⟩,
 ⟨some 5, .assign (Operand.tmp 38), none, 0⟩]))
 .skip))
 (.seq
 (.seq
 (.ops [⟨some 39, .move (Operand.tmp 0), none, 0⟩,
 ⟨some 40, .call ⟨(Callee.builtin Builtin.len), [(Operand.tmp 39)].toArray, #[29]⟩, none, 0⟩,
 ⟨some 41, .move (Operand.const (Value.int IntKind.i64 0)), none, 0⟩])
 (.block 1
 (.loop
 (.seq
 (.ops [⟨some 42, .binOp BinOp.lss 3 (Operand.tmp 41) (Operand.tmp 40) 3, none, 0⟩])
 (.seq
 (.cond (Operand.tmp 42)
 .skip
 (.exit 1))
 (.seq
 (.block 2
 (.seq
 (.ops [⟨some 43, .indexAddr 29 (Operand.tmp 39) (Operand.tmp 41), none, 0⟩,
 ⟨some 44, .load 9 (Operand.tmp 43), none, 0⟩,
 ⟨some 7, .assign (Operand.tmp 44), none, 0⟩])
 (.seq
 (.seq
 (.ops [⟨some 45, .move (Operand.tmp 7), none, 0⟩,
 ⟨some 46, .call ⟨(Callee.builtin Builtin.len), [(Operand.tmp 45)].toArray, #[9]⟩, none, 0⟩,
 ⟨some 47, .move (Operand.tmp 5), none, 0⟩,
 ⟨some 48, .binOp BinOp.sub 3 (Operand.const (Value.int IntKind.i64 9223372036854775807)) (Operand.tmp 47) 3, none, 0⟩,
 ⟨some 49, .binOp BinOp.gtr 3 (Operand.tmp 46) (Operand.tmp 48) 3, none, 0⟩])
 (.cond (Operand.tmp 49)
 (.ops [⟨some 50, .makeInterface 9 (Operand.const (Value.string ⟨#[115, 116, 114, 105, 110, 103, 115, 58, 32, 74, 111, 105, 110, 32, 111, 117, 116, 112, 117, 116, 32, 108, 101, 110, 103, 116, 104, 32, 111, 118, 101, 114, 102, 108, 111, 119]⟩)), none, 0⟩,
 ⟨none, .panic (Operand.tmp 50), none, 0⟩])
 .skip))
 (.ops [⟨some 51, .move (Operand.tmp 5), none, 0⟩,
 ⟨some 52, .move (Operand.tmp 7), none, 0⟩,
 ⟨some 53, .call ⟨(Callee.builtin Builtin.len), [(Operand.tmp 52)].toArray, #[9]⟩, none, 0⟩,
 ⟨some 54, .binOp BinOp.add 3 (Operand.tmp 51) (Operand.tmp 53) 3, none, 0⟩,
 ⟨some 5, .assign (Operand.tmp 54), none, 0⟩]))))
 (.ops [⟨some 55, .binOp BinOp.add 3 (Operand.tmp 41) (Operand.const (Value.int IntKind.i64 1)) 3, none, 0⟩,
 ⟨some 41, .move (Operand.tmp 55), none, 0⟩])))))))
 (.seq
 (.ops [⟨some 8, .alloc 121, none, 0⟩])
 (.seq
 (.ops [⟨some 56, .move (Operand.tmp 5), none, 0⟩,
 ⟨some 57, .call ⟨(Callee.value (Operand.func 103)), [(Operand.tmp 8), (Operand.tmp 56)].toArray, #[121, 3]⟩, none, 0⟩])
 (.seq
 (.ops [⟨some 58, .move (Operand.tmp 0), none, 0⟩,
 ⟨some 59, .indexAddr 29 (Operand.tmp 58) (Operand.const (Value.int IntKind.i64 0)), none, 0⟩,
 ⟨some 60, .load 9 (Operand.tmp 59), none, 0⟩,
 ⟨some 61, .call ⟨(Callee.value (Operand.func 104)), [(Operand.tmp 8), (Operand.tmp 60)].toArray, #[121, 9]⟩, none, 0⟩])
 (.seq
 (.seq
 (.ops [⟨some 62, .move (Operand.tmp 0), none, 0⟩,
 ⟨some 63, .slice 29 (Operand.tmp 62) (some (Operand.const (Value.int IntKind.i64 1))) none none, none, 0⟩,
 ⟨some 64, .call ⟨(Callee.builtin Builtin.len), [(Operand.tmp 63)].toArray, #[29]⟩, none, 0⟩,
 ⟨some 65, .move (Operand.const (Value.int IntKind.i64 0)), none, 0⟩])
 (.block 3
 (.loop
 (.seq
 (.ops [⟨some 66, .binOp BinOp.lss 3 (Operand.tmp 65) (Operand.tmp 64) 3, none, 0⟩])
 (.seq
 (.cond (Operand.tmp 66)
 .skip
 (.exit 3))
 (.seq
 (.block 4
 (.seq
 (.ops [⟨some 67, .indexAddr 29 (Operand.tmp 63) (Operand.tmp 65), none, 0⟩,
 ⟨some 68, .load 9 (Operand.tmp 67), none, 0⟩,
 ⟨some 10, .assign (Operand.tmp 68), none, 0⟩])
 (.seq
 (.ops [⟨some 69, .move (Operand.tmp 1), none, 0⟩,
 ⟨some 70, .call ⟨(Callee.value (Operand.func 104)), [(Operand.tmp 8), (Operand.tmp 69)].toArray, #[121, 9]⟩, none, 0⟩])
 (.ops [⟨some 71, .move (Operand.tmp 10), none, 0⟩,
 ⟨some 72, .call ⟨(Callee.value (Operand.func 104)), [(Operand.tmp 8), (Operand.tmp 71)].toArray, #[121, 9]⟩, none, 0⟩]))))
 (.ops [⟨some 73, .binOp BinOp.add 3 (Operand.tmp 65) (Operand.const (Value.int IntKind.i64 1)) 3, none, 0⟩,
 ⟨some 65, .move (Operand.tmp 73), none, 0⟩])))))))
 (.seq
 (.ops [⟨some 74, .call ⟨(Callee.value (Operand.func 105)), [(Operand.tmp 8)].toArray, #[121]⟩, none, 0⟩,
 ⟨some 4, .assign (Operand.tmp 74), none, 0⟩])
 .ret))))))))))
abbrev R81 : List ResultVar := [ResultVar.tmp 4]
theorem ok81 : FnOK Tryd.prog 81 L81 R81 2 := ⟨_, _, Tryd.func81, rfl, by kernel_rfl, by kernel_rfl, by kernel_rfl, by kernel_rfl, Nat.le_of_ble_eq_true (by kernel_rfl), by kernel_rfl⟩

/-- ablaut/ablautref01.ValidateWord -/
def L82 : LCode :=
 (.seq
 (.ops [⟨some 2, .assign (Operand.const (Value.int IntKind.i64 0)), none, 0⟩])
 (.seq
 (.seq
 (.ops [⟨some 3, .move (Operand.tmp 0), none, 0⟩,
 ⟨some 4, .call ⟨(Callee.builtin Builtin.len), [(Operand.tmp 3)].toArray, #[29]⟩, none, 0⟩,
 ⟨some 5, .binOp BinOp.gtr 3 (Operand.tmp 4) (Operand.const (Value.int IntKind.i64 60)) 3, none, 0⟩,
 ⟨some 6, .move (Operand.tmp 5), none, 0⟩,
 ⟨some 7, .move (Operand.tmp 0), some (6, false), 0⟩,
 ⟨some 8, .call ⟨(Callee.value (Operand.func 106)), [(Operand.tmp 7)].toArray, #[29]⟩, some (6, false), 0⟩,
 ⟨some 9, .pick (Operand.tmp 6) (Operand.const (Value.bool true)) (Operand.tmp 8), none, 0⟩])
 (.cond (Operand.tmp 9)
 (.seq
 (.ops [⟨some 2, .assign (Operand.const (Value.int IntKind.i64 3)), none, 0⟩])
 .ret)
 .skip))
 (.seq
 (.seq
 (.ops [⟨some 10, .move (Operand.tmp 0), none, 0⟩,
 ⟨some 11, .call ⟨(Callee.value (Operand.func 107)), [(Operand.tmp 10)].toArray, #[29]⟩, none, 0⟩,
 ⟨some 12, .unOp UnOp.not 4 (Operand.tmp 11), none, 0⟩])
 (.cond (Operand.tmp 12)
 (.seq
 (.ops [⟨some 2, .assign (Operand.const (Value.int IntKind.i64 1)), none, 0⟩])
 .ret)
 .skip))
 (.seq
 (.ops [⟨some 2, .assign (Operand.const (Value.int IntKind.i64 0)), none, 0⟩])
 .ret))))
abbrev R82 : List ResultVar := [ResultVar.tmp 2]
theorem ok82 : FnOK Tryd.prog 82 L82 R82 1 := ⟨_, _, Tryd.func82, rfl, by kernel_rfl, by kernel_rfl, by kernel_rfl, by kernel_rfl, Nat.le_of_ble_eq_true (by kernel_rfl), by kernel_rfl⟩

/-- ablaut/ablautref25.begins -/
def L83 : LCode :=
 (.seq
 (.ops [⟨some 4, .assign (Operand.const (Value.bool false)), none, 0⟩])
 (.seq
 (.ops [⟨some 5, .move (Operand.tmp 1), none, 0⟩,
 ⟨some 6, .call ⟨(Callee.builtin Builtin.len), [(Operand.tmp 5)].toArray, #[29]⟩, none, 0⟩,
 ⟨some 7, .move (Operand.tmp 0), none, 0⟩,
 ⟨some 8, .call ⟨(Callee.builtin Builtin.len), [(Operand.tmp 7)].toArray, #[29]⟩, none, 0⟩,
 ⟨some 9, .binOp BinOp.leq 3 (Operand.tmp 6) (Operand.tmp 8) 3, none, 0⟩,
 ⟨some 10, .move (Operand.tmp 9), none, 0⟩,
 ⟨some 11, .move (Operand.tmp 0), some (10, true), 0⟩,
 ⟨some 12, .move (Operand.tmp 1), some (10, true), 0⟩,
 ⟨some 13, .call ⟨(Callee.builtin Builtin.len), [(Operand.tmp 12)].toArray, #[29]⟩, some (10, true), 0⟩,
 ⟨some 14, .slice 29 (Operand.tmp 11) none (some (Operand.tmp 13)) none, some (10, true), 0⟩,
 ⟨some 15, .move (Operand.tmp 1), some (10, true), 0⟩,
 ⟨some 16, .call ⟨(Callee.value (Operand.func 15)), [(Operand.tmp 14), (Operand.tmp 15)].toArray, #[29, 29]⟩, some (10, true), 0⟩,
 ⟨some 17, .pick (Operand.tmp 10) (Operand.tmp 16) (Operand.const (Value.bool false)), none, 0⟩,
 ⟨some 4, .assign (Operand.tmp 17), none, 0⟩])
 .ret))
abbrev R83 : List ResultVar := [ResultVar.tmp 4]
theorem ok83 : FnOK Tryd.prog 83 L83 R83 2 := ⟨_, _, Tryd.func83, rfl, by kernel_rfl, by kernel_rfl, by kernel_rfl, by kernel_rfl, Nat.le_of_ble_eq_true (by kernel_rfl), by kernel_rfl⟩
end Go.Proofs.YtldlcejlfaogbaaDoor.Vs
