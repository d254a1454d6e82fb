/- The seat's functions as the engine Dm reads them, written by dgen.py. -/
import Derived.Test.YtapkbkniooleaaaGreatDmFn
import Derived.Test.YtapkbkniooleaaaGreatProg
import Derived.KernelRfl
namespace Go.Proofs.YtapkbkniooleaaaGreat.Vs
set_option linter.unusedVariables false
set_option maxRecDepth 100000
/-- ablaut/ablautref17.cut -/
def L57 : LCode :=
 (.seq
 (.ops [⟨some 4, .box 24 (Operand.tmp 0), none, 0⟩,
 ⟨some 8, .assign (Operand.const (Value.slice none 0 0)), none, 0⟩])
 (.seq
 (.ops [⟨some 9, .assign (Operand.const (Value.slice none 0 0)), none, 0⟩,
 ⟨some 10, .assign (Operand.const (Value.slice none 0 0)), none, 0⟩])
 (.seq
 (.seq
 (.draw [⟨some 13, .move (Operand.tmp 1), none, 0⟩,
 ⟨some 14, .move (Operand.tmp 2), none, 0⟩,
 ⟨some 15, .move (Operand.tmp 3), none, 0⟩,
 ⟨some 16, .slice 9 (Operand.tmp 13) (some (Operand.tmp 14)) (some (Operand.tmp 15)) none, none, 0⟩,
 ⟨some 17, .fieldAddr 24 (Operand.tmp 4) 2, none, 0⟩,
 ⟨some 18, .load 22 (Operand.tmp 17), none, 0⟩,
 ⟨some 19, .call ⟨(Callee.value (Operand.func 70)), [(Operand.tmp 16), (Operand.tmp 18), (Operand.const (Value.bool true))].toArray, #[9, 22, 4]⟩, none, 0⟩,
 ⟨some 11, .assign (Operand.tmp 19), none, 0⟩] true [6, 7] [0, 1, 2, 4, 3, 5, 6, 7])
 (.block 0
 (.loop
 (.seq
 (.seq
 (.ops [⟨some 20, .move (Operand.tmp 11), none, 0⟩,
 ⟨some 21, .binOp BinOp.gtr 3 (Operand.tmp 20) (Operand.const (Value.int IntKind.i64 0)) 3, none, 0⟩])
 (.cond (Operand.tmp 21)
 .skip
 (.exit 0)))
 (.seq
 (.block 1
 (.seq
 (.ops [⟨some 29, .move (Operand.tmp 9), none, 0⟩,
 ⟨some 30, .move (Operand.tmp 1), none, 0⟩,
 ⟨some 31, .move (Operand.tmp 2), none, 0⟩,
 ⟨some 32, .move (Operand.tmp 2), none, 0⟩,
 ⟨some 33, .move (Operand.tmp 11), none, 0⟩,
 ⟨some 34, .binOp BinOp.add 3 (Operand.tmp 32) (Operand.tmp 33) 3, none, 0⟩,
 ⟨some 35, .call ⟨(Callee.value (Operand.func 56)), [(Operand.tmp 30), (Operand.tmp 31), (Operand.tmp 34), (Operand.const (Value.int IntKind.i64 4))].toArray, #[9, 3, 3, 3]⟩, none, 0⟩,
 ⟨some 36, .buildSlice 39 1 [(0, (Operand.tmp 35))].toArray, none, 0⟩,
 ⟨some 37, .call ⟨(Callee.builtin Builtin.append), [(Operand.tmp 29), (Operand.tmp 36)].toArray, #[39, 39]⟩, none, 0⟩,
 ⟨some 9, .assign (Operand.tmp 37), none, 0⟩])
 (.ops [⟨some 38, .move (Operand.tmp 2), none, 0⟩,
 ⟨some 39, .move (Operand.tmp 11), none, 0⟩,
 ⟨some 40, .binOp BinOp.add 3 (Operand.tmp 38) (Operand.tmp 39) 3, none, 0⟩,
 ⟨some 2, .assign (Operand.tmp 40), none, 0⟩])))
 (.draw [⟨some 22, .move (Operand.tmp 1), none, 0⟩,
 ⟨some 23, .move (Operand.tmp 2), none, 0⟩,
 ⟨some 24, .move (Operand.tmp 3), none, 0⟩,
 ⟨some 25, .slice 9 (Operand.tmp 22) (some (Operand.tmp 23)) (some (Operand.tmp 24)) none, none, 0⟩,
 ⟨some 26, .fieldAddr 24 (Operand.tmp 4) 2, none, 0⟩,
 ⟨some 27, .load 22 (Operand.tmp 26), none, 0⟩,
 ⟨some 28, .call ⟨(Callee.value (Operand.func 70)), [(Operand.tmp 25), (Operand.tmp 27), (Operand.const (Value.bool true))].toArray, #[9, 22, 4]⟩, none, 0⟩,
 ⟨some 11, .assign (Operand.tmp 28), none, 0⟩] true [6, 7] [0, 1, 2, 4, 3, 5, 6, 7]))))))
 (.seq
 (.seq
 (.draw [⟨some 41, .move (Operand.tmp 1), none, 0⟩,
 ⟨some 42, .move (Operand.tmp 2), none, 0⟩,
 ⟨some 43, .move (Operand.tmp 3), none, 0⟩,
 ⟨some 44, .slice 9 (Operand.tmp 41) (some (Operand.tmp 42)) (some (Operand.tmp 43)) none, none, 0⟩,
 ⟨some 45, .fieldAddr 24 (Operand.tmp 4) 3, none, 0⟩,
 ⟨some 46, .load 22 (Operand.tmp 45), none, 0⟩,
 ⟨some 47, .call ⟨(Callee.value (Operand.func 70)), [(Operand.tmp 44), (Operand.tmp 46), (Operand.const (Value.bool false))].toArray, #[9, 22, 4]⟩, none, 0⟩,
 ⟨some 12, .assign (Operand.tmp 47), none, 0⟩] true [6, 7] [0, 1, 2, 4, 3, 5, 6, 7])
 (.block 2
 (.loop
 (.seq
 (.seq
 (.ops [⟨some 48, .move (Operand.tmp 12), none, 0⟩,
 ⟨some 49, .binOp BinOp.gtr 3 (Operand.tmp 48) (Operand.const (Value.int IntKind.i64 0)) 3, none, 0⟩])
 (.cond (Operand.tmp 49)
 .skip
 (.exit 2)))
 (.seq
 (.block 3
 (.seq
 (.ops [⟨some 57, .move (Operand.tmp 1), none, 0⟩,
 ⟨some 58, .move (Operand.tmp 3), none, 0⟩,
 ⟨some 59, .move (Operand.tmp 12), none, 0⟩,
 ⟨some 60, .binOp BinOp.sub 3 (Operand.tmp 58) (Operand.tmp 59) 3, none, 0⟩,
 ⟨some 61, .move (Operand.tmp 3), none, 0⟩,
 ⟨some 62, .call ⟨(Callee.value (Operand.func 56)), [(Operand.tmp 57), (Operand.tmp 60), (Operand.tmp 61), (Operand.const (Value.int IntKind.i64 5))].toArray, #[9, 3, 3, 3]⟩, none, 0⟩,
 ⟨some 63, .buildSlice 39 1 [(0, (Operand.tmp 62))].toArray, none, 0⟩,
 ⟨some 64, .move (Operand.tmp 10), none, 0⟩,
 ⟨some 65, .call ⟨(Callee.builtin Builtin.append), [(Operand.tmp 63), (Operand.tmp 64)].toArray, #[39, 39]⟩, none, 0⟩,
 ⟨some 10, .assign (Operand.tmp 65), none, 0⟩])
 (.ops [⟨some 66, .move (Operand.tmp 3), none, 0⟩,
 ⟨some 67, .move (Operand.tmp 12), none, 0⟩,
 ⟨some 68, .binOp BinOp.sub 3 (Operand.tmp 66) (Operand.tmp 67) 3, none, 0⟩,
 ⟨some 3, .assign (Operand.tmp 68), none, 0⟩])))
 (.draw [⟨some 50, .move (Operand.tmp 1), none, 0⟩,
 ⟨some 51, .move (Operand.tmp 2), none, 0⟩,
 ⟨some 52, .move (Operand.tmp 3), none, 0⟩,
 ⟨some 53, .slice 9 (Operand.tmp 50) (some (Operand.tmp 51)) (some (Operand.tmp 52)) none, none, 0⟩,
 ⟨some 54, .fieldAddr 24 (Operand.tmp 4) 3, none, 0⟩,
 ⟨some 55, .load 22 (Operand.tmp 54), none, 0⟩,
 ⟨some 56, .call ⟨(Callee.value (Operand.func 70)), [(Operand.tmp 53), (Operand.tmp 55), (Operand.const (Value.bool false))].toArray, #[9, 22, 4]⟩, none, 0⟩,
 ⟨some 12, .assign (Operand.tmp 56), none, 0⟩] true [6, 7] [0, 1, 2, 4, 3, 5, 6, 7]))))))
 (.seq
 (.ops [⟨some 69, .move (Operand.tmp 9), none, 0⟩,
 ⟨some 70, .move (Operand.tmp 1), none, 0⟩,
 ⟨some 71, .move (Operand.tmp 2), none, 0⟩,
 ⟨some 72, .move (Operand.tmp 3), none, 0⟩,
 ⟨some 73, .call ⟨(Callee.value (Operand.func 56)), [(Operand.tmp 70), (Operand.tmp 71), (Operand.tmp 72), (Operand.const (Value.int IntKind.i64 0))].toArray, #[9, 3, 3, 3]⟩, none, 0⟩,
 ⟨some 74, .buildSlice 39 1 [(0, (Operand.tmp 73))].toArray, none, 0⟩,
 ⟨some 75, .call ⟨(Callee.builtin Builtin.append), [(Operand.tmp 69), (Operand.tmp 74)].toArray, #[39, 39]⟩, none, 0⟩,
 ⟨some 9, .assign (Operand.tmp 75), none, 0⟩])
 (.seq
 (.ops [⟨some 76, .move (Operand.tmp 9), none, 0⟩,
 ⟨some 77, .move (Operand.tmp 10), none, 0⟩,
 ⟨some 78, .call ⟨(Callee.builtin Builtin.append), [(Operand.tmp 76), (Operand.tmp 77)].toArray, #[39, 39]⟩, none, 0⟩,
 ⟨some 8, .assign (Operand.tmp 78), none, 0⟩])
 .ret))))))
abbrev R57 : List ResultVar := [ResultVar.tmp 8]
theorem ok57 : FnOK Tryz.prog 57 L57 R57 4 := ⟨_, _, Tryz.func57, rfl, by kernel_rfl, by kernel_rfl, by kernel_rfl, by kernel_rfl, Nat.le_of_ble_eq_true (by kernel_rfl), by kernel_rfl⟩

/-- slices.IndexFunc[[]string,string] -/
def L58 : LCode :=
 (.seq
 (.ops [⟨some 4, .assign (Operand.const (Value.int IntKind.i64 0)), none, 0⟩])
 (.seq
 (.seq
 (.ops [⟨some 6, .move (Operand.tmp 0), none, 0⟩,
 ⟨some 7, .call ⟨(Callee.builtin Builtin.len), [(Operand.tmp 6)].toArray, #[22]⟩, none, 0⟩,
 ⟨some 8, .move (Operand.const (Value.int IntKind.i64 0)), none, 0⟩])
 (.block 0
 (.loop
 (.seq
 (.ops [⟨some 9, .binOp BinOp.lss 3 (Operand.tmp 8) (Operand.tmp 7) 3, none, 0⟩])
 (.seq
 (.cond (Operand.tmp 9)
 .skip
 (.exit 0))
 (.seq
 (.block 1
 (.seq
 (.ops [⟨some 10, .move (Operand.tmp 8), none, 0⟩,
 ⟨some 5, .assign (Operand.tmp 10), none, 0⟩])
 (.seq
 (.ops [⟨some 11, .move (Operand.tmp 1), none, 0⟩,
 ⟨some 12, .move (Operand.tmp 0), none, 0⟩,
 ⟨some 13, .move (Operand.tmp 5), none, 0⟩,
 ⟨some 14, .indexAddr 22 (Operand.tmp 12) (Operand.tmp 13), none, 0⟩,
 ⟨some 15, .load 9 (Operand.tmp 14), none, 0⟩,
 ⟨some 16, .call ⟨(Callee.value (Operand.tmp 11)), [(Operand.tmp 15)].toArray, #[9]⟩, none, 0⟩])
 (.cond (Operand.tmp 16)
 (.seq
 (.ops [⟨some 17, .move (Operand.tmp 5), none, 0⟩,
 ⟨some 4, .assign (Operand.tmp 17), none, 0⟩])
 .ret)
 .skip))))
 (.ops [⟨some 18, .binOp BinOp.add 3 (Operand.tmp 8) (Operand.const (Value.int IntKind.i64 1)) 3, none, 0⟩,
 ⟨some 8, .move (Operand.tmp 18), none, 0⟩])))))))
 (.seq
 (.ops [⟨some 4, .assign (Operand.const (Value.int IntKind.i64 (-1))), none, 0⟩])
 .ret)))
abbrev R58 : List ResultVar := [ResultVar.tmp 4]
theorem ok58 : FnOK Tryz.prog 58 L58 R58 2 := ⟨_, _, Tryz.func58, rfl, by kernel_rfl, by kernel_rfl, by kernel_rfl, by kernel_rfl, Nat.le_of_ble_eq_true (by kernel_rfl), by kernel_rfl⟩

/-- internal/stringslite.HasPrefix -/
def L62 : LCode :=
 (.seq
 (.ops [⟨some 4, .assign (Operand.const (Value.bool false)), none, 0⟩])
 (.seq
 (.ops [⟨some 5, .move (Operand.tmp 0), none, 0⟩,
 ⟨some 6, .call ⟨(Callee.builtin Builtin.len), [(Operand.tmp 5)].toArray, #[9]⟩, none, 0⟩,
 ⟨some 7, .move (Operand.tmp 1), none, 0⟩,
 ⟨some 8, .call ⟨(Callee.builtin Builtin.len), [(Operand.tmp 7)].toArray, #[9]⟩, none, 0⟩,
 ⟨some 9, .binOp BinOp.geq 3 (Operand.tmp 6) (Operand.tmp 8) 3, none, 0⟩,
 ⟨some 10, .move (Operand.tmp 9), none, 0⟩,
 ⟨some 11, .move (Operand.tmp 0), some (10, true), 0⟩,
 ⟨some 12, .move (Operand.tmp 1), some (10, true), 0⟩,
 ⟨some 13, .call ⟨(Callee.builtin Builtin.len), [(Operand.tmp 12)].toArray, #[9]⟩, some (10, true), 0⟩,
 ⟨some 14, .slice 9 (Operand.tmp 11) none (some (Operand.tmp 13)) none, some (10, true), 0⟩,
 ⟨some 15, .move (Operand.tmp 1), some (10, true), 0⟩,
 ⟨some 16, .binOp BinOp.eql 9 (Operand.tmp 14) (Operand.tmp 15) 9, some (10, true), 0⟩,
 ⟨some 17, .pick (Operand.tmp 10) (Operand.tmp 16) (Operand.const (Value.bool false)), none, 0⟩,
 ⟨some 4, .assign (Operand.tmp 17), none, 0⟩])
 .ret))
abbrev R62 : List ResultVar := [ResultVar.tmp 4]
theorem ok62 : FnOK Tryz.prog 62 L62 R62 2 := ⟨_, _, Tryz.func62, rfl, by kernel_rfl, by kernel_rfl, by kernel_rfl, by kernel_rfl, Nat.le_of_ble_eq_true (by kernel_rfl), by kernel_rfl⟩

/-- internal/stringslite.HasSuffix -/
def L63 : LCode :=
 (.seq
 (.ops [⟨some 4, .assign (Operand.const (Value.bool false)), none, 0⟩])
 (.seq
 (.ops [⟨some 5, .move (Operand.tmp 0), none, 0⟩,
 ⟨some 6, .call ⟨(Callee.builtin Builtin.len), [(Operand.tmp 5)].toArray, #[9]⟩, none, 0⟩,
 ⟨some 7, .move (Operand.tmp 1), none, 0⟩,
 ⟨some 8, .call ⟨(Callee.builtin Builtin.len), [(Operand.tmp 7)].toArray, #[9]⟩, none, 0⟩,
 ⟨some 9, .binOp BinOp.geq 3 (Operand.tmp 6) (Operand.tmp 8) 3, none, 0⟩,
 ⟨some 10, .move (Operand.tmp 9), none, 0⟩,
 ⟨some 11, .move (Operand.tmp 0), some (10, true), 0⟩,
 ⟨some 12, .move (Operand.tmp 0), some (10, true), 0⟩,
 ⟨some 13, .call ⟨(Callee.builtin Builtin.len), [(Operand.tmp 12)].toArray, #[9]⟩, some (10, true), 0⟩,
 ⟨some 14, .move (Operand.tmp 1), some (10, true), 0⟩,
 ⟨some 15, .call ⟨(Callee.builtin Builtin.len), [(Operand.tmp 14)].toArray, #[9]⟩, some (10, true), 0⟩,
 ⟨some 16, .binOp BinOp.sub 3 (Operand.tmp 13) (Operand.tmp 15) 3, some (10, true), 0⟩,
 ⟨some 17, .slice 9 (Operand.tmp 11) (some (Operand.tmp 16)) none none, some (10, true), 0⟩,
 ⟨some 18, .move (Operand.tmp 1), some (10, true), 0⟩,
 ⟨some 19, .binOp BinOp.eql 9 (Operand.tmp 17) (Operand.tmp 18) 9, some (10, true), 0⟩,
 ⟨some 20, .pick (Operand.tmp 10) (Operand.tmp 19) (Operand.const (Value.bool false)), none, 0⟩,
 ⟨some 4, .assign (Operand.tmp 20), none, 0⟩])
 .ret))
abbrev R63 : List ResultVar := [ResultVar.tmp 4]
theorem ok63 : FnOK Tryz.prog 63 L63 R63 2 := ⟨_, _, Tryz.func63, rfl, by kernel_rfl, by kernel_rfl, by kernel_rfl, by kernel_rfl, Nat.le_of_ble_eq_true (by kernel_rfl), by kernel_rfl⟩

/-- ablaut/ablautref17.begins -/
def L65 : LCode :=
 (.seq
 (.ops [⟨some 6, .assign (Operand.const (Value.bool false)), none, 0⟩])
 (.seq
 (.seq
 (.ops [⟨some 8, .move (Operand.tmp 2), none, 0⟩,
 ⟨some 9, .call ⟨(Callee.builtin Builtin.len), [(Operand.tmp 8)].toArray, #[9]⟩, none, 0⟩,
 ⟨some 10, .move (Operand.tmp 0), none, 0⟩,
 ⟨some 11, .call ⟨(Callee.builtin Builtin.len), [(Operand.tmp 10)].toArray, #[9]⟩, none, 0⟩,
 ⟨some 12, .move (Operand.tmp 1), none, 0⟩,
 ⟨some 13, .binOp BinOp.sub 3 (Operand.tmp 11) (Operand.tmp 12) 3, none, 0⟩,
 ⟨some 14, .binOp BinOp.gtr 3 (Operand.tmp 9) (Operand.tmp 13) 3, none, 0⟩])
 (.cond (Operand.tmp 14)
 (.seq
 (.ops [⟨some 6, .assign (Operand.const (Value.bool false)), none, 0⟩])
 .ret)
 .skip))
 (.seq
 (.ops [⟨some 15, .move (Operand.tmp 0), none, 0⟩,
 ⟨some 16, .move (Operand.tmp 1), none, 0⟩,
 ⟨some 17, .move (Operand.tmp 1), none, 0⟩,
 ⟨some 18, .move (Operand.tmp 2), none, 0⟩,
 ⟨some 19, .call ⟨(Callee.builtin Builtin.len), [(Operand.tmp 18)].toArray, #[9]⟩, none, 0⟩,
 ⟨some 20, .binOp BinOp.add 3 (Operand.tmp 17) (Operand.tmp 19) 3, none, 0⟩,
 ⟨some 21, .slice 9 (Operand.tmp 15) (some (Operand.tmp 16)) (some (Operand.tmp 20)) none, none, 0⟩,
 ⟨some 7, .assign (Operand.tmp 21), none, 0⟩])
 (.seq
 (.draw [⟨some 22, .move (Operand.tmp 7), none, 0⟩,
 ⟨some 23, .move (Operand.tmp 2), none, 0⟩,
 ⟨some 24, .binOp BinOp.eql 9 (Operand.tmp 22) (Operand.tmp 23) 9, none, 0⟩,
 ⟨some 25, .move (Operand.tmp 24), none, 0⟩,
 ⟨some 26, .move (Operand.tmp 2), some (25, false), 0⟩,
 ⟨some 27, .index 9 (Operand.tmp 26) (Operand.const (Value.int IntKind.i64 0)), some (25, false), 0⟩,
 ⟨some 28, .call ⟨(Callee.value (Operand.func 34)), [(Operand.tmp 27)].toArray, #[5]⟩, some (25, false), 0⟩,
 ⟨some 29, .move (Operand.tmp 28), some (25, false), 0⟩,
 ⟨some 30, .move (Operand.tmp 7), some (29, true), 0⟩,
 ⟨some 31, .index 9 (Operand.tmp 30) (Operand.const (Value.int IntKind.i64 0)), some (29, true), 0⟩,
 ⟨some 32, .call ⟨(Callee.value (Operand.func 22)), [(Operand.tmp 31)].toArray, #[5]⟩, some (29, true), 0⟩,
 ⟨some 33, .pick (Operand.tmp 29) (Operand.tmp 32) (Operand.const (Value.bool false)), some (25, false), 0⟩,
 ⟨some 34, .move (Operand.tmp 33), some (25, false), 0⟩,
 ⟨some 35, .move (Operand.tmp 7), some (34, true), 0⟩,
 ⟨some 36, .slice 9 (Operand.tmp 35) none (some (Operand.const (Value.int IntKind.i64 1))) none, some (34, true), 0⟩,
 ⟨some 37, .call ⟨(Callee.value (Operand.func 24)), [(Operand.tmp 36)].toArray, #[9]⟩, some (34, true), 0⟩,
 ⟨some 38, .move (Operand.tmp 7), some (34, true), 0⟩,
 ⟨some 39, .slice 9 (Operand.tmp 38) (some (Operand.const (Value.int IntKind.i64 1))) none none, some (34, true), 0⟩,
 ⟨some 40, .binOp BinOp.add 9 (Operand.tmp 37) (Operand.tmp 39) 9, some (34, true), 0⟩,
 ⟨some 41, .move (Operand.tmp 2), some (34, true), 0⟩,
 ⟨some 42, .binOp BinOp.eql 9 (Operand.tmp 40) (Operand.tmp 41) 9, some (34, true), 0⟩,
 ⟨some 43, .pick (Operand.tmp 34) (Operand.tmp 42) (Operand.const (Value.bool false)), some (25, false), 0⟩,
 ⟨some 44, .pick (Operand.tmp 25) (Operand.const (Value.bool true)) (Operand.tmp 43), none, 0⟩,
 ⟨some 6, .assign (Operand.tmp 44), none, 0⟩] true [20, 21, 22, 23] [])
 .ret))))
abbrev R65 : List ResultVar := [ResultVar.tmp 6]
theorem ok65 : FnOK Tryz.prog 65 L65 R65 3 := ⟨_, _, Tryz.func65, rfl, by kernel_rfl, by kernel_rfl, by kernel_rfl, by kernel_rfl, Nat.le_of_ble_eq_true (by kernel_rfl), by kernel_rfl⟩

/-- ablaut/ablautref17.isLetter -/
def L66 : LCode :=
 (.seq
 (.ops [⟨some 2, .assign (Operand.const (Value.bool false)), none, 0⟩])
 (.seq
 (.ops [⟨some 3, .move (Operand.tmp 0), none, 0⟩,
 ⟨some 4, .call ⟨(Callee.value (Operand.func 34)), [(Operand.tmp 3)].toArray, #[5]⟩, none, 0⟩,
 ⟨some 5, .move (Operand.tmp 4), none, 0⟩,
 ⟨some 6, .move (Operand.tmp 0), some (5, false), 0⟩,
 ⟨some 7, .call ⟨(Callee.value (Operand.func 22)), [(Operand.tmp 6)].toArray, #[5]⟩, some (5, false), 0⟩,
 ⟨some 8, .pick (Operand.tmp 5) (Operand.const (Value.bool true)) (Operand.tmp 7), none, 0⟩,
 ⟨some 9, .move (Operand.tmp 8), none, 0⟩,
 ⟨some 10, .move (Operand.tmp 0), some (9, false), 0⟩,
 ⟨some 11, .binOp BinOp.gtr 5 (Operand.tmp 10) (Operand.const (Value.int IntKind.u8 127)) 5, some (9, false), 0⟩,
 ⟨some 12, .pick (Operand.tmp 9) (Operand.const (Value.bool true)) (Operand.tmp 11), none, 0⟩,
 ⟨some 2, .assign (Operand.tmp 12), none, 0⟩])
 .ret))
abbrev R66 : List ResultVar := [ResultVar.tmp 2]
theorem ok66 : FnOK Tryz.prog 66 L66 R66 1 := ⟨_, _, Tryz.func66, rfl, by kernel_rfl, by kernel_rfl, by kernel_rfl, by kernel_rfl, Nat.le_of_ble_eq_true (by kernel_rfl), by kernel_rfl⟩

/-- ablaut/ablautref17.isDigit -/
def L67 : LCode :=
 (.seq
 (.ops [⟨some 2, .assign (Operand.const (Value.bool false)), none, 0⟩])
 (.seq
 (.ops [⟨some 3, .move (Operand.tmp 0), none, 0⟩,
 ⟨some 4, .binOp BinOp.geq 5 (Operand.tmp 3) (Operand.const (Value.int IntKind.u8 48)) 5, none, 0⟩,
 ⟨some 5, .move (Operand.tmp 4), none, 0⟩,
 ⟨some 6, .move (Operand.tmp 0), some (5, true), 0⟩,
 ⟨some 7, .binOp BinOp.leq 5 (Operand.tmp 6) (Operand.const (Value.int IntKind.u8 57)) 5, some (5, true), 0⟩,
 ⟨some 8, .pick (Operand.tmp 5) (Operand.tmp 7) (Operand.const (Value.bool false)), none, 0⟩,
 ⟨some 2, .assign (Operand.tmp 8), none, 0⟩])
 .ret))
abbrev R67 : List ResultVar := [ResultVar.tmp 2]
theorem ok67 : FnOK Tryz.prog 67 L67 R67 1 := ⟨_, _, Tryz.func67, rfl, by kernel_rfl, by kernel_rfl, by kernel_rfl, by kernel_rfl, Nat.le_of_ble_eq_true (by kernel_rfl), by kernel_rfl⟩

/-- ablaut/ablautref17.digits -/
def L68 : LCode :=
 (.seq
 (.ops [⟨some 4, .assign (Operand.const (Value.int IntKind.i64 0)), none, 0⟩])
 (.seq
 (.block 0
 (.loop
 (.seq
 (.seq
 (.ops [⟨some 5, .move (Operand.tmp 1), none, 0⟩,
 ⟨some 6, .move (Operand.tmp 0), none, 0⟩,
 ⟨some 7, .call ⟨(Callee.builtin Builtin.len), [(Operand.tmp 6)].toArray, #[9]⟩, none, 0⟩,
 ⟨some 8, .binOp BinOp.lss 3 (Operand.tmp 5) (Operand.tmp 7) 3, none, 0⟩,
 ⟨some 9, .move (Operand.tmp 8), none, 0⟩,
 ⟨some 10, .move (Operand.tmp 0), some (9, true), 0⟩,
 ⟨some 11, .move (Operand.tmp 1), some (9, true), 0⟩,
 ⟨some 12, .index 9 (Operand.tmp 10) (Operand.tmp 11), some (9, true), 0⟩,
 ⟨some 13, .call ⟨(Callee.value (Operand.func 67)), [(Operand.tmp 12)].toArray, #[5]⟩, some (9, true), 0⟩,
 ⟨some 14, .pick (Operand.tmp 9) (Operand.tmp 13) (Operand.const (Value.bool false)), none, 0⟩])
 (.cond (Operand.tmp 14)
 .skip
 (.exit 0)))
 (.block 1
 (.ops [⟨some 15, .move (Operand.tmp 1), none, 0⟩,
 ⟨some 16, .binOp BinOp.add 3 (Operand.tmp 15) (Operand.const (Value.int IntKind.i64 1)) 3, none, 0⟩,
 ⟨some 1, .assign (Operand.tmp 16), none, 0⟩])))))
 (.seq
 (.ops [⟨some 17, .move (Operand.tmp 1), none, 0⟩,
 ⟨some 4, .assign (Operand.tmp 17), none, 0⟩])
 .ret)))
abbrev R68 : List ResultVar := [ResultVar.tmp 4]
theorem ok68 : FnOK Tryz.prog 68 L68 R68 2 := ⟨_, _, Tryz.func68, rfl, by kernel_rfl, by kernel_rfl, by kernel_rfl, by kernel_rfl, Nat.le_of_ble_eq_true (by kernel_rfl), by kernel_rfl⟩

/-- ablaut/ablautref17.isIn -/
def L69 : LCode :=
 (.seq
 (.ops [⟨some 4, .assign (Operand.const (Value.bool false)), none, 0⟩])
 (.seq
 (.ops [⟨some 5, .move (Operand.tmp 1), none, 0⟩,
 ⟨some 6, .move (Operand.tmp 0), none, 0⟩,
 ⟨some 7, .call ⟨(Callee.builtin Builtin.len), [(Operand.tmp 6)].toArray, #[9]⟩, none, 0⟩,
 ⟨some 8, .binOp BinOp.lss 3 (Operand.tmp 5) (Operand.tmp 7) 3, none, 0⟩,
 ⟨some 9, .move (Operand.tmp 8), none, 0⟩,
 ⟨some 10, .move (Operand.tmp 0), some (9, true), 0⟩,
 ⟨some 11, .move (Operand.tmp 1), some (9, true), 0⟩,
 ⟨some 12, .index 9 (Operand.tmp 10) (Operand.tmp 11), some (9, true), 0⟩,
 ⟨some 13, .call ⟨(Callee.value (Operand.func 66)), [(Operand.tmp 12)].toArray, #[5]⟩, some (9, true), 0⟩,
 ⟨some 14, .move (Operand.tmp 13), some (9, true), 0⟩,
 ⟨some 15, .move (Operand.tmp 0), some (14, false), 0⟩,
 ⟨some 16, .move (Operand.tmp 1), some (14, false), 0⟩,
 ⟨some 17, .index 9 (Operand.tmp 15) (Operand.tmp 16), some (14, false), 0⟩,
 ⟨some 18, .call ⟨(Callee.value (Operand.func 67)), [(Operand.tmp 17)].toArray, #[5]⟩, some (14, false), 0⟩,
 ⟨some 19, .pick (Operand.tmp 14) (Operand.const (Value.bool true)) (Operand.tmp 18), some (9, true), 0⟩,
 ⟨some 20, .pick (Operand.tmp 9) (Operand.tmp 19) (Operand.const (Value.bool false)), none, 0⟩,
 ⟨some 4, .assign (Operand.tmp 20), none, 0⟩])
 .ret))
abbrev R69 : List ResultVar := [ResultVar.tmp 4]
theorem ok69 : FnOK Tryz.prog 69 L69 R69 2 := ⟨_, _, Tryz.func69, rfl, by kernel_rfl, by kernel_rfl, by kernel_rfl, by kernel_rfl, Nat.le_of_ble_eq_true (by kernel_rfl), by kernel_rfl⟩

/-- ablaut/ablautref17.clitic -/
def L70 : LCode :=
 (.seq
 (.ops [⟨some 6, .assign (Operand.const (Value.int IntKind.i64 0)), none, 0⟩])
 (.seq
 (.ops [⟨some 10, .move (Operand.tmp 0), none, 0⟩,
 ⟨some 11, .call ⟨(Callee.value (Operand.func 24)), [(Operand.tmp 10)].toArray, #[9]⟩, none, 0⟩,
 ⟨some 0, .assign (Operand.tmp 11), none, 0⟩])
 (.seq
 (.ops [⟨some 7, .assign (Operand.const (Value.int IntKind.i64 0)), none, 0⟩])
 (.seq
 (.seq
 (.ops [⟨some 8, .assign (Operand.const (Value.int IntKind.i64 0)), none, 0⟩])
 (.block 0
 (.loop
 (.seq
 (.seq
 (.ops [⟨some 12, .move (Operand.tmp 8), none, 0⟩,
 ⟨some 13, .move (Operand.tmp 1), none, 0⟩,
 ⟨some 14, .call ⟨(Callee.builtin Builtin.len), [(Operand.tmp 13)].toArray, #[22]⟩, none, 0⟩,
 ⟨some 15, .binOp BinOp.lss 3 (Operand.tmp 12) (Operand.tmp 14) 3, none, 0⟩])
 (.cond (Operand.tmp 15)
 .skip
 (.exit 0)))
 (.seq
 (.block 1
 (.seq
 (.ops [⟨some 18, .move (Operand.tmp 1), none, 0⟩,
 ⟨some 19, .move (Operand.tmp 8), none, 0⟩,
 ⟨some 20, .indexAddr 22 (Operand.tmp 18) (Operand.tmp 19), none, 0⟩,
 ⟨some 21, .load 9 (Operand.tmp 20), none, 0⟩,
 ⟨some 22, .call ⟨(Callee.builtin Builtin.len), [(Operand.tmp 21)].toArray, #[9]⟩, none, 0⟩,
 ⟨some 9, .assign (Operand.tmp 22), none, 0⟩])
 (.seq
 (.seq
 (.ops [⟨some 23, .move (Operand.tmp 9), none, 0⟩,
 ⟨some 24, .move (Operand.tmp 0), none, 0⟩,
 ⟨some 25, .call ⟨(Callee.builtin Builtin.len), [(Operand.tmp 24)].toArray, #[9]⟩, none, 0⟩,
 ⟨some 26, .binOp BinOp.geq 3 (Operand.tmp 23) (Operand.tmp 25) 3, none, 0⟩,
 ⟨some 27, .move (Operand.tmp 26), none, 0⟩,
 ⟨some 28, .move (Operand.tmp 9), some (27, false), 0⟩,
 ⟨some 29, .move (Operand.tmp 7), some (27, false), 0⟩,
 ⟨some 30, .binOp BinOp.leq 3 (Operand.tmp 28) (Operand.tmp 29) 3, some (27, false), 0⟩,
 ⟨some 31, .pick (Operand.tmp 27) (Operand.const (Value.bool true)) (Operand.tmp 30), none, 0⟩])
 (.cond (Operand.tmp 31)
 (.exit 1)
 .skip))
 (.seq
 (.draw [⟨some 32, .move (Operand.tmp 2), none, 0⟩,
 ⟨some 33, .move (Operand.tmp 32), none, 0⟩,
 ⟨some 34, .move (Operand.tmp 0), some (33, true), 0⟩,
 ⟨some 35, .move (Operand.tmp 9), some (33, true), 0⟩,
 ⟨some 36, .slice 9 (Operand.tmp 34) none (some (Operand.tmp 35)) none, some (33, true), 0⟩,
 ⟨some 37, .move (Operand.tmp 1), some (33, true), 0⟩,
 ⟨some 38, .move (Operand.tmp 8), some (33, true), 0⟩,
 ⟨some 39, .indexAddr 22 (Operand.tmp 37) (Operand.tmp 38), some (33, true), 0⟩,
 ⟨some 40, .load 9 (Operand.tmp 39), some (33, true), 0⟩,
 ⟨some 41, .binOp BinOp.eql 9 (Operand.tmp 36) (Operand.tmp 40) 9, some (33, true), 0⟩,
 ⟨some 42, .pick (Operand.tmp 33) (Operand.tmp 41) (Operand.const (Value.bool false)), none, 0⟩,
 ⟨some 43, .move (Operand.tmp 42), none, 0⟩,
 ⟨some 44, .move (Operand.tmp 2), some (43, false), 0⟩,
 ⟨some 45, .unOp UnOp.not 4 (Operand.tmp 44), some (43, false), 0⟩,
 ⟨some 46, .move (Operand.tmp 45), some (43, false), 0⟩,
 ⟨some 47, .move (Operand.tmp 0), some (46, true), 0⟩,
 ⟨some 48, .move (Operand.tmp 0), some (46, true), 0⟩,
 ⟨some 49, .call ⟨(Callee.builtin Builtin.len), [(Operand.tmp 48)].toArray, #[9]⟩, some (46, true), 0⟩,
 ⟨some 50, .move (Operand.tmp 9), some (46, true), 0⟩,
 ⟨some 51, .binOp BinOp.sub 3 (Operand.tmp 49) (Operand.tmp 50) 3, some (46, true), 0⟩,
 ⟨some 52, .slice 9 (Operand.tmp 47) (some (Operand.tmp 51)) none none, some (46, true), 0⟩,
 ⟨some 53, .move (Operand.tmp 1), some (46, true), 0⟩,
 ⟨some 54, .move (Operand.tmp 8), some (46, true), 0⟩,
 ⟨some 55, .indexAddr 22 (Operand.tmp 53) (Operand.tmp 54), some (46, true), 0⟩,
 ⟨some 56, .load 9 (Operand.tmp 55), some (46, true), 0⟩,
 ⟨some 57, .binOp BinOp.eql 9 (Operand.tmp 52) (Operand.tmp 56) 9, some (46, true), 0⟩,
 ⟨some 58, .pick (Operand.tmp 46) (Operand.tmp 57) (Operand.const (Value.bool false)), some (43, false), 0⟩,
 ⟨some 59, .pick (Operand.tmp 43) (Operand.const (Value.bool true)) (Operand.tmp 58), none, 0⟩] true [25, 26, 27] [0, 1, 2, 3, 5, 6, 7, 4, 8, 9, 10, 11, 12, 13, 14, 15, 16, 17, 18, 19, 20, 21, 22, 23, 24, 25, 26, 27])
 (.cond (Operand.tmp 59)
 (.ops [⟨some 60, .move (Operand.tmp 9), none, 0⟩,
 ⟨some 7, .assign (Operand.tmp 60), none, 0⟩])
 .skip)))))
 (.ops [⟨some 16, .move (Operand.tmp 8), none, 0⟩,
 ⟨some 17, .binOp BinOp.add 3 (Operand.tmp 16) (Operand.const (Value.int IntKind.i64 1)) 3, none, 0⟩,
 ⟨some 8, .assign (Operand.tmp 17), none, 0⟩]))))))
 (.seq
 (.ops [⟨some 61, .move (Operand.tmp 7), none, 0⟩,
 ⟨some 6, .assign (Operand.tmp 61), none, 0⟩])
 .ret)))))
abbrev R70 : List ResultVar := [ResultVar.tmp 6]
theorem ok70 : FnOK Tryz.prog 70 L70 R70 3 := ⟨_, _, Tryz.func70, rfl, by kernel_rfl, by kernel_rfl, by kernel_rfl, by kernel_rfl, Nat.le_of_ble_eq_true (by kernel_rfl), by kernel_rfl⟩

end Go.Proofs.YtapkbkniooleaaaGreat.Vs
