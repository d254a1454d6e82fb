/- The seat's functions as the engine Dm reads them, written by dgen.py. -/
import Derived.Test.YtldlcejlfaogbaaDoorDmFn
import Derived.Test.YtldlcejlfaogbaaDoorProg
import Derived.KernelRfl
namespace Go.Proofs.YtldlcejlfaogbaaDoor.Vs
set_option linter.unusedVariables false
set_option maxRecDepth 100000
/-- ablaut/script.fit -/
def L78 : LCode :=
 (.seq
 (.ops [⟨some 4, .assign (Operand.const (Value.int IntKind.i64 0)), none, 0⟩])
 (.seq
 (.ops [⟨some 5, .assign (Operand.const (Value.int IntKind.i64 (-1))), none, 0⟩])
 (.seq
 (.seq
 (.ops [⟨some 8, .move (Operand.tmp 0), none, 0⟩,
 ⟨some 9, .call ⟨(Callee.builtin Builtin.len), [(Operand.tmp 8)].toArray, #[22]⟩, none, 0⟩,
 ⟨some 10, .move (Operand.const (Value.int IntKind.i64 0)), none, 0⟩])
 (.block 0
 (.loop
 (.seq
 (.ops [⟨some 11, .binOp BinOp.lss 3 (Operand.tmp 10) (Operand.tmp 9) 3, none, 0⟩])
 (.seq
 (.cond (Operand.tmp 11)
 .skip
 (.exit 0))
 (.seq
 (.block 1
 (.seq
 (.ops [⟨some 12, .move (Operand.tmp 10), none, 0⟩,
 ⟨some 13, .indexAddr 22 (Operand.tmp 8) (Operand.tmp 10), none, 0⟩,
 ⟨some 14, .load 46 (Operand.tmp 13), none, 0⟩,
 ⟨some 7, .alloc 46, none, 0⟩,
 ⟨some 6, .assign (Operand.tmp 12), none, 0⟩,
 ⟨none, .store 46 (Operand.tmp 7) (Operand.tmp 14), none, 0⟩])
 (.seq
 (.draw [⟨some 15, .move (Operand.tmp 1), none, 0⟩,
 ⟨some 16, .fieldAddr 46 (Operand.tmp 7) 0, none, 0⟩,
 ⟨some 17, .load 29 (Operand.tmp 16), none, 0⟩,
 ⟨some 18, .call ⟨(Callee.value (Operand.func 70)), [(Operand.tmp 15), (Operand.tmp 17)].toArray, #[29, 29]⟩, none, 0⟩,
 ⟨some 19, .move (Operand.tmp 18), none, 0⟩,
 ⟨some 20, .move (Operand.tmp 5), some (19, true), 0⟩,
 ⟨some 21, .binOp BinOp.lss 3 (Operand.tmp 20) (Operand.const (Value.int IntKind.i64 0)) 3, some (19, true), 0⟩,
 ⟨some 22, .move (Operand.tmp 21), some (19, true), 0⟩,
 ⟨some 23, .fieldAddr 46 (Operand.tmp 7) 0, some (22, false), 0⟩,
 ⟨some 24, .load 29 (Operand.tmp 23), some (22, false), 0⟩,
 ⟨some 25, .call ⟨(Callee.builtin Builtin.len), [(Operand.tmp 24)].toArray, #[29]⟩, some (22, false), 0⟩,
 ⟨some 26, .move (Operand.tmp 0), some (22, false), 0⟩,
 ⟨some 27, .move (Operand.tmp 5), some (22, false), 0⟩,
 ⟨some 28, .indexAddr 22 (Operand.tmp 26) (Operand.tmp 27), some (22, false), 0⟩,
 ⟨some 29, .fieldAddr 46 (Operand.tmp 28) 0, some (22, false), 0⟩,
 ⟨some 30, .load 29 (Operand.tmp 29), some (22, false), 0⟩,
 ⟨some 31, .call ⟨(Callee.builtin Builtin.len), [(Operand.tmp 30)].toArray, #[29]⟩, some (22, false), 0⟩,
 ⟨some 32, .binOp BinOp.gtr 3 (Operand.tmp 25) (Operand.tmp 31) 3, some (22, false), 0⟩,
 ⟨some 33, .pick (Operand.tmp 22) (Operand.const (Value.bool true)) (Operand.tmp 32), some (19, true), 0⟩,
 ⟨some 34, .pick (Operand.tmp 19) (Operand.tmp 33) (Operand.const (Value.bool false)), none, 0⟩] true [17, 18, 19] [0, 1, 2, 3, 4, 5, 6, 7, 8, 9, 10, 11, 12, 13, 14, 15, 16, 17, 18, 19])
 (.cond (Operand.tmp 34)
 (.ops [⟨some 35, .move (Operand.tmp 6), none, 0⟩,
 ⟨some 5, .assign (Operand.tmp 35), none, 0⟩])
 .skip))))
 (.ops [⟨some 36, .binOp BinOp.add 3 (Operand.tmp 10) (Operand.const (Value.int IntKind.i64 1)) 3, none, 0⟩,
 ⟨some 10, .move (Operand.tmp 36), none, 0⟩])))))))
 (.seq
 (.ops [⟨some 37, .move (Operand.tmp 5), none, 0⟩,
 ⟨some 4, .assign (Operand.tmp 37), none, 0⟩])
 .ret))))
abbrev R78 : List ResultVar := [ResultVar.tmp 4]
theorem ok78 : FnOK Tryd.prog 78 L78 R78 2 := ⟨_, _, Tryd.func78, rfl, by kernel_rfl, by kernel_rfl, by kernel_rfl, by kernel_rfl, Nat.le_of_ble_eq_true (by kernel_rfl), by kernel_rfl⟩

/-- ablaut/script.waits -/
def L79 : LCode :=
 (.seq
 (.ops [⟨some 3, .box 29 (Operand.tmp 1), none, 0⟩,
 ⟨some 4, .assign (Operand.const (Value.bool false)), none, 0⟩])
 (.seq
 (.ops [⟨some 5, .move (Operand.tmp 0), none, 0⟩,
 ⟨some 6, .makeFunc (Fn.func 102) #[] [(Operand.tmp 3)].toArray, none, 0⟩,
 ⟨some 7, .call ⟨(Callee.value (Operand.func 38)), [(Operand.tmp 5), (Operand.tmp 6)].toArray, #[22, 71]⟩, none, 0⟩,
 ⟨some 4, .assign (Operand.tmp 7), none, 0⟩])
 .ret))
abbrev R79 : List ResultVar := [ResultVar.tmp 4]
theorem ok79 : FnOK Tryd.prog 79 L79 R79 2 := ⟨_, _, Tryd.func79, rfl, by kernel_rfl, by kernel_rfl, by kernel_rfl, by kernel_rfl, Nat.le_of_ble_eq_true (by kernel_rfl), by kernel_rfl⟩

/-- slices.Grow[[]string,string] -/
def L80 : LCode :=
 (.seq
 (.ops [⟨some 4, .assign (Operand.const (Value.slice none 0 0)), none, 0⟩])
 (.seq
 (.seq
 (.ops [⟨some 5, .move (Operand.tmp 1), none, 0⟩,
 ⟨some 6, .binOp BinOp.lss 3 (Operand.tmp 5) (Operand.const (Value.int IntKind.i64 0)) 3, none, 0⟩])
 (.cond (Operand.tmp 6)
 (.ops [⟨some 7, .makeInterface 9 (Operand.const (Value.string ⟨#[99, 97, 110, 110, 111, 116, 32, 98, 101, 32, 110, 101, 103, 97, 116, 105, 118, 101]⟩)), none, 0⟩,
 ⟨none, .panic (Operand.tmp 7), none, 0⟩])
 .skip))
 (.seq
 (.seq
 (.ops [⟨some 8, .move (Operand.tmp 1), none, 0⟩,
 ⟨some 9, .move (Operand.tmp 0), none, 0⟩,
 ⟨some 10, .call ⟨(Callee.builtin Builtin.cap), [(Operand.tmp 9)].toArray, #[29]⟩, none, 0⟩,
 ⟨some 11, .move (Operand.tmp 0), none, 0⟩,
 ⟨some 12, .call ⟨(Callee.builtin Builtin.len), [(Operand.tmp 11)].toArray, #[29]⟩, none, 0⟩,
 ⟨some 13, .binOp BinOp.sub 3 (Operand.tmp 10) (Operand.tmp 12) 3, none, 0⟩,
 ⟨some 14, .binOp BinOp.sub 3 (Operand.tmp 8) (Operand.tmp 13) 3, none, 0⟩,
 ⟨some 1, .assign (Operand.tmp 14), none, 0⟩])
 (.seq
 (.ops [⟨some 15, .move (Operand.tmp 1), none, 0⟩,
 ⟨some 16, .binOp BinOp.gtr 3 (Operand.tmp 15) (Operand.const (Value.int IntKind.i64 0)) 3, none, 0⟩])
 (.cond (Operand.tmp 16)
 (.ops [⟨some 17, .move (Operand.tmp 0), none, 0⟩,
 ⟨some 18, .move (Operand.tmp 0), none, 0⟩,
 ⟨some 19, .call ⟨(Callee.builtin Builtin.cap), [(Operand.tmp 18)].toArray, #[29]⟩, none, 0⟩,
 ⟨some 20, .slice 29 (Operand.tmp 17) none (some (Operand.tmp 19)) none, none, 0⟩,
 ⟨some 21, .move (Operand.tmp 1), none, 0⟩,
 ⟨some 22, .call ⟨(Callee.builtin Builtin.append), [(Operand.tmp 20), (Operand.tmp 21)].toArray, #[29, 3]⟩, none, 5⟩,
 ⟨some 23, .move (Operand.tmp 0), none, 0⟩,
 ⟨some 24, .call ⟨(Callee.builtin Builtin.len), [(Operand.tmp 23)].toArray, #[29]⟩, none, 0⟩,
 ⟨some 25, .slice 29 (Operand.tmp 22) none (some (Operand.tmp 24)) none, none, 0⟩,
 ⟨some 0, .assign (Operand.tmp 25), none, 0⟩])
 .skip)))
 (.seq
 (.ops [⟨some 26, .move (Operand.tmp 0), none, 0⟩,
 ⟨some 4, .assign (Operand.tmp 26), none, 0⟩])
 .ret))))
abbrev R80 : List ResultVar := [ResultVar.tmp 4]
theorem ok80 : FnOK Tryd.prog 80 L80 R80 2 := ⟨_, _, Tryd.func80, rfl, by kernel_rfl, by kernel_rfl, by kernel_rfl, by kernel_rfl, Nat.le_of_ble_eq_true (by kernel_rfl), by kernel_rfl⟩

/-- strings.Join -/
def L81 : LCode :=
 (.seq
 (.ops [⟨some 4, .assign (Operand.const (Value.string ⟨#[]⟩)), none, 0⟩])
 (.seq
 (.seq
 (.ops [⟨some 11, .move (Operand.tmp 0), none, 0⟩,
 ⟨some 12, .call ⟨(Callee.builtin Builtin.len), [(Operand.tmp 11)].toArray, #[29]⟩, none, 0⟩])
 (.block 0
 (.seq
 (.ops [⟨some 14, .binOp BinOp.eql 3 (Operand.tmp 12) (Operand.const (Value.int IntKind.i64 0)) 3, none, 0⟩,
 ⟨some 13, .assign (Operand.tmp 14), none, 0⟩])
 (.cond (Operand.tmp 13)
 (.seq
 (.ops [⟨some 4, .assign (Operand.const (Value.string ⟨#[]⟩)), none, 0⟩])
 .ret)
 (.seq
 (.ops [⟨some 16, .binOp BinOp.eql 3 (Operand.tmp 12) (Operand.const (Value.int IntKind.i64 1)) 3, none, 0⟩,
 ⟨some 15, .assign (Operand.tmp 16), none, 0⟩])
 (.cond (Operand.tmp 15)
 (.seq
 (.ops [⟨some 17, .move (Operand.tmp 0), none, 0⟩,
 ⟨some 18, .indexAddr 29 (Operand.tmp 17) (Operand.const (Value.int IntKind.i64 0)), none, 0⟩,
 ⟨some 19, .load 9 (Operand.tmp 18), none, 0⟩,
 ⟨some 4, .assign (Operand.tmp 19), none, 0⟩])
 .ret)
 .skip))))))
 (.seq
 (.ops [⟨some 5, .assign (Operand.const (Value.int IntKind.i64 0)), none, 0⟩])
 (.seq
 (.seq
 (.ops [⟨some 20, .move (Operand.tmp 1), none, 0⟩,
 ⟨some 21, .call ⟨(Callee.builtin Builtin.len), [(Operand.tmp 20)].toArray, #[9]⟩, none, 0⟩,
 ⟨some 22, .binOp BinOp.gtr 3 (Operand.tmp 21) (Operand.const (Value.int IntKind.i64 0)) 3, none, 0⟩])
 (.cond (Operand.tmp 22)
 (.seq
 (.seq
 (.ops [⟨some 23, .move (Operand.tmp 1), none, 0⟩,
 ⟨some 24, .call ⟨(Callee.builtin Builtin.len), [(Operand.tmp 23)].toArray, #[9]⟩, none, 0⟩,
 ⟨some 25, .move (Operand.tmp 0), none, 0⟩,
 ⟨some 26, .call ⟨(Callee.builtin Builtin.len), [(Operand.tmp 25)].toArray, #[29]⟩, none, 0⟩,
 ⟨some 27, .binOp BinOp.sub 3 (Operand.tmp 26) (Operand.const (Value.int IntKind.i64 1)) 3, none, 0⟩,
 ⟨some 28, .binOp BinOp.quo 3 (Operand.const (Value.int IntKind.i64 9223372036854775807)) (Operand.tmp 27) 3, none, 0⟩,
 ⟨some 29, .binOp BinOp.geq 3 (Operand.tmp 24) (Operand.tmp 28) 3, none, 0⟩])
 (.cond (Operand.tmp 29)
 (.ops [⟨some 30, .makeInterface 9 (Operand.const (Value.string ⟨#[115, 116, 114, 105, 110, 103, 115, 58, 32, 74, 111, 105, 110, 32, 111, 117, 116, 112, 117, 116, 32, 108, 101, 110, 103, 116, 104, 32, 111, 118, 101, 114, 102, 108, 111, 119]⟩)), none, 0⟩,
 ⟨none, .panic (Operand.tmp 30), none, 0⟩])
 .skip))
 (.ops [⟨some 31, .move (Operand.tmp 5), none, 0⟩,
 ⟨some 32, .move (Operand.tmp 1), none, 0⟩,
 ⟨some 33, .call ⟨(Callee.builtin Builtin.len), [(Operand.tmp 32)].toArray, #[9]⟩, none, 0⟩,
 ⟨some 34, .move (Operand.tmp 0), none, 0⟩,
 ⟨some 35, .call ⟨(Callee.builtin Builtin.len), [(Operand.tmp 34)].toArray, #[29]⟩, none, 0⟩,
 ⟨some 36, .binOp BinOp.sub 3 (Operand.tmp 35) (Operand.const (Value.int IntKind.i64 1)) 3, none, 0⟩,
 ⟨some 37, .binOp BinOp.mul 3 (Operand.tmp 33) (Operand.tmp 36) 3, none, 0⟩,
 ⟨some 38, .binOp BinOp.add 3 (Operand.tmp 31) (Operand.tmp 37) 3, none, 0⟩,
 ⟨some 5, .assign (Operand.tmp 38), none, 0⟩]))
 .skip))
 (.seq
 (.seq
 (.ops [⟨some 39, .move (Operand.tmp 0), none, 0⟩,
 ⟨some 40, .call ⟨(Callee.builtin Builtin.len), [(Operand.tmp 39)].toArray, #[29]⟩, none, 0⟩,
 ⟨some 41, .move (Operand.const (Value.int IntKind.i64 0)), none, 0⟩])
 (.block 1
 (.loop
 (.seq
 (.ops [⟨some 42, .binOp BinOp.lss 3 (Operand.tmp 41) (Operand.tmp 40) 3, none, 0⟩])
 (.seq
 (.cond (Operand.tmp 42)
 .skip
 (.exit 1))
 (.seq
 (.block 2
 (.seq
 (.ops [⟨some 43, .indexAddr 29 (Operand.tmp 39) (Operand.tmp 41), none, 0⟩,
 ⟨some 44, .load 9 (Operand.tmp 43), none, 0⟩,
 ⟨some 7, .assign (Operand.tmp 44), none, 0⟩])
 (.seq
 (.seq
 (.ops [⟨some 45, .move (Operand.tmp 7), none, 0⟩,
 ⟨some 46, .call ⟨(Callee.builtin Builtin.len), [(Operand.tmp 45)].toArray, #[9]⟩, none, 0⟩,
 ⟨some 47, .move (Operand.tmp 5), none, 0⟩,
 ⟨some 48, .binOp BinOp.sub 3 (Operand.const (Value.int IntKind.i64 9223372036854775807)) (Operand.tmp 47) 3, none, 0⟩,
 ⟨some 49, .binOp BinOp.gtr 3 (Operand.tmp 46) (Operand.tmp 48) 3, none, 0⟩])
 (.cond (Operand.tmp 49)
 (.ops [⟨some 50, .makeInterface 9 (Operand.const (Value.string ⟨#[115, 116, 114, 105, 110, 103, 115, 58, 32, 74, 111, 105, 110, 32, 111, 117, 116, 112, 117, 116, 32, 108, 101, 110, 103, 116, 104, 32, 111, 118, 101, 114, 102, 108, 111, 119]⟩)), none, 0⟩,
 ⟨none, .panic (Operand.tmp 50), none, 0⟩])
 .skip))
 (.ops [⟨some 51, .move (Operand.tmp 5), none, 0⟩,
 ⟨some 52, .move (Operand.tmp 7), none, 0⟩,
 ⟨some 53, .call ⟨(Callee.builtin Builtin.len), [(Operand.tmp 52)].toArray, #[9]⟩, none, 0⟩,
 ⟨some 54, .binOp BinOp.add 3 (Operand.tmp 51) (Operand.tmp 53) 3, none, 0⟩,
 ⟨some 5, .assign (Operand.tmp 54), none, 0⟩]))))
 (.ops [⟨some 55, .binOp BinOp.add 3 (Operand.tmp 41) (Operand.const (Value.int IntKind.i64 1)) 3, none, 0⟩,
 ⟨some 41, .move (Operand.tmp 55), none, 0⟩])))))))
 (.seq
 (.ops [⟨some 8, .alloc 121, none, 0⟩])
 (.seq
 (.ops [⟨some 56, .move (Operand.tmp 5), none, 0⟩,
 ⟨some 57, .call ⟨(Callee.value (Operand.func 103)), [(Operand.tmp 8), (Operand.tmp 56)].toArray, #[121, 3]⟩, none, 0⟩])
 (.seq
 (.ops [⟨some 58, .move (Operand.tmp 0), none, 0⟩,
 ⟨some 59, .indexAddr 29 (Operand.tmp 58) (Operand.const (Value.int IntKind.i64 0)), none, 0⟩,
 ⟨some 60, .load 9 (Operand.tmp 59), none, 0⟩,
 ⟨some 61, .call ⟨(Callee.value (Operand.func 104)), [(Operand.tmp 8), (Operand.tmp 60)].toArray, #[121, 9]⟩, none, 0⟩])
 (.seq
 (.seq
 (.ops [⟨some 62, .move (Operand.tmp 0), none, 0⟩,
 ⟨some 63, .slice 29 (Operand.tmp 62) (some (Operand.const (Value.int IntKind.i64 1))) none none, none, 0⟩,
 ⟨some 64, .call ⟨(Callee.builtin Builtin.len), [(Operand.tmp 63)].toArray, #[29]⟩, none, 0⟩,
 ⟨some 65, .move (Operand.const (Value.int IntKind.i64 0)), none, 0⟩])
 (.block 3
 (.loop
 (.seq
 (.ops [⟨some 66, .binOp BinOp.lss 3 (Operand.tmp 65) (Operand.tmp 64) 3, none, 0⟩])
 (.seq
 (.cond (Operand.tmp 66)
 .skip
 (.exit 3))
 (.seq
 (.block 4
 (.seq
 (.ops [⟨some 67, .indexAddr 29 (Operand.tmp 63) (Operand.tmp 65), none, 0⟩,
 ⟨some 68, .load 9 (Operand.tmp 67), none, 0⟩,
 ⟨some 10, .assign (Operand.tmp 68), none, 0⟩])
 (.seq
 (.ops [⟨some 69, .move (Operand.tmp 1), none, 0⟩,
 ⟨some 70, .call ⟨(Callee.value (Operand.func 104)), [(Operand.tmp 8), (Operand.tmp 69)].toArray, #[121, 9]⟩, none, 0⟩])
 (.ops [⟨some 71, .move (Operand.tmp 10), none, 0⟩,
 ⟨some 72, .call ⟨(Callee.value (Operand.func 104)), [(Operand.tmp 8), (Operand.tmp 71)].toArray, #[121, 9]⟩, none, 0⟩]))))
 (.ops [⟨some 73, .binOp BinOp.add 3 (Operand.tmp 65) (Operand.const (Value.int IntKind.i64 1)) 3, none, 0⟩,
 ⟨some 65, .move (Operand.tmp 73), none, 0⟩])))))))
 (.seq
 (.ops [⟨some 74, .call ⟨(Callee.value (Operand.func 105)), [(Operand.tmp 8)].toArray, #[121]⟩, none, 0⟩,
 ⟨some 4, .assign (Operand.tmp 74), none, 0⟩])
 .ret))))))))))
abbrev R81 : List ResultVar := [ResultVar.tmp 4]
theorem ok81 : FnOK Tryd.prog 81 L81 R81 2 := ⟨_, _, Tryd.func81, rfl, by kernel_rfl, by kernel_rfl, by kernel_rfl, by kernel_rfl, Nat.le_of_ble_eq_true (by kernel_rfl), by kernel_rfl⟩

/-- ablaut/ablautref01.ValidateWord -/
def L82 : LCode :=
 (.seq
 (.ops [⟨some 2, .assign (Operand.const (Value.int IntKind.i64 0)), none, 0⟩])
 (.seq
 (.seq
 (.ops [⟨some 3, .move (Operand.tmp 0), none, 0⟩,
 ⟨some 4, .call ⟨(Callee.builtin Builtin.len), [(Operand.tmp 3)].toArray, #[29]⟩, none, 0⟩,
 ⟨some 5, .binOp BinOp.gtr 3 (Operand.tmp 4) (Operand.const (Value.int IntKind.i64 60)) 3, none, 0⟩,
 ⟨some 6, .move (Operand.tmp 5), none, 0⟩,
 ⟨some 7, .move (Operand.tmp 0), some (6, false), 0⟩,
 ⟨some 8, .call ⟨(Callee.value (Operand.func 106)), [(Operand.tmp 7)].toArray, #[29]⟩, some (6, false), 0⟩,
 ⟨some 9, .pick (Operand.tmp 6) (Operand.const (Value.bool true)) (Operand.tmp 8), none, 0⟩])
 (.cond (Operand.tmp 9)
 (.seq
 (.ops [⟨some 2, .assign (Operand.const (Value.int IntKind.i64 3)), none, 0⟩])
 .ret)
 .skip))
 (.seq
 (.seq
 (.ops [⟨some 10, .move (Operand.tmp 0), none, 0⟩,
 ⟨some 11, .call ⟨(Callee.value (Operand.func 107)), [(Operand.tmp 10)].toArray, #[29]⟩, none, 0⟩,
 ⟨some 12, .unOp UnOp.not 4 (Operand.tmp 11), none, 0⟩])
 (.cond (Operand.tmp 12)
 (.seq
 (.ops [⟨some 2, .assign (Operand.const (Value.int IntKind.i64 1)), none, 0⟩])
 .ret)
 .skip))
 (.seq
 (.ops [⟨some 2, .assign (Operand.const (Value.int IntKind.i64 0)), none, 0⟩])
 .ret))))
abbrev R82 : List ResultVar := [ResultVar.tmp 2]
theorem ok82 : FnOK Tryd.prog 82 L82 R82 1 := ⟨_, _, Tryd.func82, rfl, by kernel_rfl, by kernel_rfl, by kernel_rfl, by kernel_rfl, Nat.le_of_ble_eq_true (by kernel_rfl), by kernel_rfl⟩

/-- ablaut/ablautref25.begins -/
def L83 : LCode :=
 (.seq
 (.ops [⟨some 4, .assign (Operand.const (Value.bool false)), none, 0⟩])
 (.seq
 (.ops [⟨some 5, .move (Operand.tmp 1), none, 0⟩,
 ⟨some 6, .call ⟨(Callee.builtin Builtin.len), [(Operand.tmp 5)].toArray, #[29]⟩, none, 0⟩,
 ⟨some 7, .move (Operand.tmp 0), none, 0⟩,
 ⟨some 8, .call ⟨(Callee.builtin Builtin.len), [(Operand.tmp 7)].toArray, #[29]⟩, none, 0⟩,
 ⟨some 9, .binOp BinOp.leq 3 (Operand.tmp 6) (Operand.tmp 8) 3, none, 0⟩,
 ⟨some 10, .move (Operand.tmp 9), none, 0⟩,
 ⟨some 11, .move (Operand.tmp 0), some (10, true), 0⟩,
 ⟨some 12, .move (Operand.tmp 1), some (10, true), 0⟩,
 ⟨some 13, .call ⟨(Callee.builtin Builtin.len), [(Operand.tmp 12)].toArray, #[29]⟩, some (10, true), 0⟩,
 ⟨some 14, .slice 29 (Operand.tmp 11) none (some (Operand.tmp 13)) none, some (10, true), 0⟩,
 ⟨some 15, .move (Operand.tmp 1), some (10, true), 0⟩,
 ⟨some 16, .call ⟨(Callee.value (Operand.func 15)), [(Operand.tmp 14), (Operand.tmp 15)].toArray, #[29, 29]⟩, some (10, true), 0⟩,
 ⟨some 17, .pick (Operand.tmp 10) (Operand.tmp 16) (Operand.const (Value.bool false)), none, 0⟩,
 ⟨some 4, .assign (Operand.tmp 17), none, 0⟩])
 .ret))
abbrev R83 : List ResultVar := [ResultVar.tmp 4]
theorem ok83 : FnOK Tryd.prog 83 L83 R83 2 := ⟨_, _, Tryd.func83, rfl, by kernel_rfl, by kernel_rfl, by kernel_rfl, by kernel_rfl, Nat.le_of_ble_eq_true (by kernel_rfl), by kernel_rfl⟩

/-- internal/stringslite.Index -/
def L84 : LCode :=
 (.seq
 (.ops [⟨some 4, .assign (Operand.const (Value.int IntKind.i64 0)), none, 0⟩])
 (.seq
 (.ops [⟨some 14, .move (Operand.tmp 1), none, 0⟩,
 ⟨some 15, .call ⟨(Callee.builtin Builtin.len), [(Operand.tmp 14)].toArray, #[9]⟩, none, 0⟩,
 ⟨some 5, .assign (Operand.tmp 15), none, 0⟩])
 (.seq
 (.block 0
 (.seq
 (.ops [⟨some 17, .move (Operand.tmp 5), none, 0⟩,
 ⟨some 18, .binOp BinOp.eql 3 (Operand.tmp 17) (Operand.const (Value.int IntKind.i64 0)) 3, none, 0⟩,
 ⟨some 19, .move (Operand.tmp 18), none, 0⟩,
 ⟨some 20, .move (Operand.tmp 1), some (19, false), 0⟩,
 ⟨some 21, .move (Operand.tmp 0), some (19, false), 0⟩,
 ⟨some 22, .binOp BinOp.eql 9 (Operand.tmp 20) (Operand.tmp 21) 9, some (19, false), 0⟩,
 ⟨some 23, .pick (Operand.tmp 19) (Operand.const (Value.bool true)) (Operand.tmp 22), none, 0⟩,
 ⟨some 16, .assign (Operand.tmp 23), none, 0⟩])
 (.cond (Operand.tmp 16)
 (.seq
 (.ops [⟨some 4, .assign (Operand.const (Value.int IntKind.i64 0)), none, 0⟩])
 .ret)
 (.seq
 (.ops [⟨some 25, .move (Operand.tmp 5), none, 0⟩,
 ⟨some 26, .binOp BinOp.eql 3 (Operand.tmp 25) (Operand.const (Value.int IntKind.i64 1)) 3, none, 0⟩,
 ⟨some 24, .assign (Operand.tmp 26), none, 0⟩])
 (.cond (Operand.tmp 24)
 (.seq
 (.ops [⟨some 27, .move (Operand.tmp 0), none, 0⟩,
 ⟨some 28, .move (Operand.tmp 1), none, 0⟩,
 ⟨some 29, .index 9 (Operand.tmp 28) (Operand.const (Value.int IntKind.i64 0)), none, 0⟩,
 ⟨some 30, .call ⟨(Callee.value (Operand.func 88)), [(Operand.tmp 27), (Operand.tmp 29)].toArray, #[9, 5]⟩, none, 0⟩,
 ⟨some 4, .assign (Operand.tmp 30), none, 0⟩])
 .ret)
 (.seq
 (.ops [⟨some 32, .move (Operand.tmp 5), none, 0⟩,
 ⟨some 33, .move (Operand.tmp 0), none, 0⟩,
 ⟨some 34, .call ⟨(Callee.builtin Builtin.len), [(Operand.tmp 33)].toArray, #[9]⟩, none, 0⟩,
 ⟨some 35, .binOp BinOp.geq 3 (Operand.tmp 32) (Operand.tmp 34) 3, none, 0⟩,
 ⟨some 31, .assign (Operand.tmp 35), none, 0⟩])
 (.cond (Operand.tmp 31)
 (.seq
 (.ops [⟨some 4, .assign (Operand.const (Value.int IntKind.i64 (-1))), none, 0⟩])
 .ret)
 (.seq
 (.ops [⟨some 37, .move (Operand.tmp 5), none, 0⟩,
 ⟨some 38, .load 3 (Operand.global 0), none, 0⟩,
 ⟨some 39, .binOp BinOp.leq 3 (Operand.tmp 37) (Operand.tmp 38) 3, none, 0⟩,
 ⟨some 40, .move (Operand.tmp 39), none, 0⟩,
 ⟨some 41, .move (Operand.tmp 0), some (40, true), 0⟩,
 ⟨some 42, .call ⟨(Callee.builtin Builtin.len), [(Operand.tmp 41)].toArray, #[9]⟩, some (40, true), 0⟩,
 ⟨some 43, .binOp BinOp.leq 3 (Operand.tmp 42) (Operand.const (Value.int IntKind.i64 64)) 3, some (40, true), 0⟩,
 ⟨some 44, .pick (Operand.tmp 40) (Operand.tmp 43) (Operand.const (Value.bool false)), none, 0⟩,
 ⟨some 36, .assign (Operand.tmp 44), none, 0⟩])
 (.cond (Operand.tmp 36)
 (.seq
 (.ops [⟨some 45, .move (Operand.tmp 0), none, 0⟩,
 ⟨some 46, .move (Operand.tmp 1), none, 0⟩,
 ⟨some 47, .call ⟨(Callee.value (Operand.func 108)), [(Operand.tmp 45), (Operand.tmp 46)].toArray, #[9, 9]⟩, none, 0⟩,
 ⟨some 4, .assign (Operand.tmp 47), none, 0⟩])
 .ret)
 .skip)))))))))
 (.seq
 (.ops [⟨some 48, .move (Operand.tmp 1), none, 0⟩,
 ⟨some 49, .index 9 (Operand.tmp 48) (Operand.const (Value.int IntKind.i64 0)), none, 0⟩,
 ⟨some 6, .assign (Operand.tmp 49), none, 0⟩])
 (.seq
 (.ops [⟨some 50, .move (Operand.tmp 1), none, 0⟩,
 ⟨some 51, .index 9 (Operand.tmp 50) (Operand.const (Value.int IntKind.i64 1)), none, 0⟩,
 ⟨some 7, .assign (Operand.tmp 51), none, 0⟩])
 (.seq
 (.ops [⟨some 8, .assign (Operand.const (Value.int IntKind.i64 0)), none, 0⟩])
 (.seq
 (.ops [⟨some 52, .move (Operand.tmp 0), none, 0⟩,
 ⟨some 53, .call ⟨(Callee.builtin Builtin.len), [(Operand.tmp 52)].toArray, #[9]⟩, none, 0⟩,
 ⟨some 54, .move (Operand.tmp 5), none, 0⟩,
 ⟨some 55, .binOp BinOp.sub 3 (Operand.tmp 53) (Operand.tmp 54) 3, none, 0⟩,
 ⟨some 56, .binOp BinOp.add 3 (Operand.tmp 55) (Operand.const (Value.int IntKind.i64 1)) 3, none, 0⟩,
 ⟨some 9, .assign (Operand.tmp 56), none, 0⟩])
 (.seq
 (.ops [⟨some 10, .assign (Operand.const (Value.int IntKind.i64 0)), none, 0⟩])
 (.seq
 (.block 1
 (.loop
 (.seq
 (.seq
 (.ops [⟨some 57, .move (Operand.tmp 8), none, 0⟩,
 ⟨some 58, .move (Operand.tmp 9), none, 0⟩,
 ⟨some 59, .binOp BinOp.lss 3 (Operand.tmp 57) (Operand.tmp 58) 3, none, 0⟩])
 (.cond (Operand.tmp 59)
 .skip
 (.exit 1)))
 (.block 2
 (.seq
 (.seq
 (.ops [⟨some 60, .move (Operand.tmp 0), none, 0⟩,
 ⟨some 61, .move (Operand.tmp 8), none, 0⟩,
 ⟨some 62, .index 9 (Operand.tmp 60) (Operand.tmp 61), none, 0⟩,
 ⟨some 63, .move (Operand.tmp 6), none, 0⟩,
 ⟨some 64, .binOp BinOp.neq 5 (Operand.tmp 62) (Operand.tmp 63) 5, none, 0⟩])
 (.cond (Operand.tmp 64)
 (.seq
 (.ops [⟨some 65, .move (Operand.tmp 0), none, 0⟩,
 ⟨some 66, .move (Operand.tmp 8), none, 0⟩,
 ⟨some 67, .binOp BinOp.add 3 (Operand.tmp 66) (Operand.const (Value.int IntKind.i64 1)) 3, none, 0⟩,
 ⟨some 68, .move (Operand.tmp 9), none, 0⟩,
 ⟨some 69, .slice 9 (Operand.tmp 65) (some (Operand.tmp 67)) (some (Operand.tmp 68)) none, none, 0⟩,
 ⟨some 70, .move (Operand.tmp 6), none, 0⟩,
 ⟨some 71, .call ⟨(Callee.value (Operand.func 88)), [(Operand.tmp 69), (Operand.tmp 70)].toArray, #[9, 5]⟩, none, 0⟩,
 ⟨some 11, .assign (Operand.tmp 71), none, 0⟩])
 (.seq
 (.seq
 (.ops [⟨some 72, .move (Operand.tmp 11), none, 0⟩,
 ⟨some 73, .binOp BinOp.lss 3 (Operand.tmp 72) (Operand.const (Value.int IntKind.i64 0)) 3, none, 0⟩])
 (.cond (Operand.tmp 73)
 (.seq
 (.ops [⟨some 4, .assign (Operand.const (Value.int IntKind.i64 (-1))), none, 0⟩])
 .ret)
 .skip))
 (.ops [⟨some 74, .move (Operand.tmp 8), none, 0⟩,
 ⟨some 75, .move (Operand.tmp 11), none, 0⟩,
 ⟨some 76, .binOp BinOp.add 3 (Operand.tmp 75) (Operand.const (Value.int IntKind.i64 1)) 3, none, 0⟩,
 ⟨some 77, .binOp BinOp.add 3 (Operand.tmp 74) (Operand.tmp 76) 3, none, 0⟩,
 ⟨some 8, .assign (Operand.tmp 77), none, 0⟩])))
 .skip))
 (.seq
 (.seq
 (.ops [⟨some 78, .move (Operand.tmp 0), none, 0⟩,
 ⟨some 79, .move (Operand.tmp 8), none, 0⟩,
 ⟨some 80, .binOp BinOp.add 3 (Operand.tmp 79) (Operand.const (Value.int IntKind.i64 1)) 3, none, 0⟩,
 ⟨some 81, .index 9 (Operand.tmp 78) (Operand.tmp 80), none, 0⟩,
 ⟨some 82, .move (Operand.tmp 7), none, 0⟩,
 ⟨some 83, .binOp BinOp.eql 5 (Operand.tmp 81) (Operand.tmp 82) 5, none, 0⟩,
 ⟨some 84, .move (Operand.tmp 83), none, 0⟩,
 ⟨some 85, .move (Operand.tmp 0), some (84, true), 0⟩,
 ⟨some 86, .move (Operand.tmp 8), some (84, true), 0⟩,
 ⟨some 87, .move (Operand.tmp 8), some (84, true), 0⟩,
 ⟨some 88, .move (Operand.tmp 5), some (84, true), 0⟩,
 ⟨some 89, .binOp BinOp.add 3 (Operand.tmp 87) (Operand.tmp 88) 3, some (84, true), 0⟩,
 ⟨some 90, .slice 9 (Operand.tmp 85) (some (Operand.tmp 86)) (some (Operand.tmp 89)) none, some (84, true), 0⟩,
 ⟨some 91, .move (Operand.tmp 1), some (84, true), 0⟩,
 ⟨some 92, .binOp BinOp.eql 9 (Operand.tmp 90) (Operand.tmp 91) 9, some (84, true), 0⟩,
 ⟨some 93, .pick (Operand.tmp 84) (Operand.tmp 92) (Operand.const (Value.bool false)), none, 0⟩])
 (.cond (Operand.tmp 93)
 (.seq
 (.ops [⟨some 94, .move (Operand.tmp 8), none, 0⟩,
 ⟨some 4, .assign (Operand.tmp 94), none, 0⟩])
 .ret)
 .skip))
 (.seq
 (.ops [⟨some 95, .move (Operand.tmp 8), none, 0⟩,
 ⟨some 96, .binOp BinOp.add 3 (Operand.tmp 95) (Operand.const (Value.int IntKind.i64 1)) 3, none, 0⟩,
 ⟨some 8, .assign (Operand.tmp 96), none, 0⟩])
 (.seq
 (.ops [⟨some 97, .move (Operand.tmp 10), none, 0⟩,
 ⟨some 98, .binOp BinOp.add 3 (Operand.tmp 97) (Operand.const (Value.int IntKind.i64 1)) 3, none, 0⟩,
 ⟨some 10, .assign (Operand.tmp 98), none, 0⟩])
 (.seq
 (.ops [⟨some 99, .move (Operand.tmp 5), none, 0⟩,
 ⟨some 100, .load 3 (Operand.global 0), none, 0⟩,
 ⟨some 101, .binOp BinOp.leq 3 (Operand.tmp 99) (Operand.tmp 100) 3, none, 0⟩,
 ⟨some 102, .move (Operand.tmp 101), none, 0⟩,
 ⟨some 103, .move (Operand.tmp 10), some (102, true), 0⟩,
 ⟨some 104, .move (Operand.tmp 8), some (102, true), 0⟩,
 ⟨some 105, .call ⟨(Callee.value (Operand.func 109)), [(Operand.tmp 104)].toArray, #[3]⟩, some (102, true), 0⟩,
 ⟨some 106, .binOp BinOp.gtr 3 (Operand.tmp 103) (Operand.tmp 105) 3, some (102, true), 0⟩,
 ⟨some 107, .pick (Operand.tmp 102) (Operand.tmp 106) (Operand.const (Value.bool false)), none, 0⟩])
 (.cond (Operand.tmp 107)
 (.seq
 (.ops [⟨some 108, .move (Operand.tmp 0), none, 0⟩,
 ⟨some 109, .move (Operand.tmp 8), none, 0⟩,
 ⟨some 110, .slice 9 (Operand.tmp 108) (some (Operand.tmp 109)) none none, none, 0⟩,
 ⟨some 111, .move (Operand.tmp 1), none, 0⟩,
 ⟨some 112, .call ⟨(Callee.value (Operand.func 108)), [(Operand.tmp 110), (Operand.tmp 111)].toArray, #[9, 9]⟩, none, 0⟩,
 ⟨some 12, .assign (Operand.tmp 112), none, 0⟩])
 (.seq
 (.seq
 (.ops [⟨some 113, .move (Operand.tmp 12), none, 0⟩,
 ⟨some 114, .binOp BinOp.geq 3 (Operand.tmp 113) (Operand.const (Value.int IntKind.i64 0)) 3, none, 0⟩])
 (.cond (Operand.tmp 114)
 (.seq
 (.ops [⟨some 115, .move (Operand.tmp 12), none, 0⟩,
 ⟨some 116, .move (Operand.tmp 8), none, 0⟩,
 ⟨some 117, .binOp BinOp.add 3 (Operand.tmp 115) (Operand.tmp 116) 3, none, 0⟩,
 ⟨some 4, .assign (Operand.tmp 117), none, 0⟩])
 .ret)
 .skip))
 (.seq
 (.ops [⟨some 4, .assign (Operand.const (Value.int IntKind.i64 (-1))), none, 0⟩])
 .ret)))
 (.seq
 (.ops [⟨some 118, .move (Operand.tmp 5), none, 0⟩,
 ⟨some 119, .load 3 (Operand.global 0), none, 0⟩,
 ⟨some 120, .binOp BinOp.gtr 3 (Operand.tmp 118) (Operand.tmp 119) 3, none, 0⟩,
 ⟨some 121, .move (Operand.tmp 120), none, 0⟩,
 ⟨some 122, .move (Operand.tmp 10), some (121, true), 0⟩,
 ⟨some 123, .move (Operand.tmp 8), some (121, true), 0⟩,
 ⟨some 124, .binOp BinOp.shr 3 (Operand.tmp 123) (Operand.const (Value.int IntKind.u64 4)) 92, some (121, true), 0⟩,
 ⟨some 125, .binOp BinOp.add 3 (Operand.const (Value.int IntKind.i64 4)) (Operand.tmp 124) 3, some (121, true), 0⟩,
 ⟨some 126, .binOp BinOp.geq 3 (Operand.tmp 122) (Operand.tmp 125) 3, some (121, true), 0⟩,
 ⟨some 127, .pick (Operand.tmp 121) (Operand.tmp 126) (Operand.const (Value.bool false)), none, 0⟩,
 ⟨some 128, .move (Operand.tmp 127), none, 0⟩,
 ⟨some 129, .move (Operand.tmp 8), some (128, true), 0⟩,
 ⟨some 130, .move (Operand.tmp 9), some (128, true), 0⟩,
 ⟨some 131, .binOp BinOp.lss 3 (Operand.tmp 129) (Operand.tmp 130) 3, some (128, true), 0⟩,
 ⟨some 132, .pick (Operand.tmp 128) (Operand.tmp 131) (Operand.const (Value.bool false)), none, 0⟩])
 (.cond (Operand.tmp 132)
 (.seq
 (.ops [⟨some 133, .move (Operand.tmp 0), none, 0⟩,
 ⟨some 134, .move (Operand.tmp 8), none, 0⟩,
 ⟨some 135, .slice 9 (Operand.tmp 133) (some (Operand.tmp 134)) none none, none, 0⟩,
 ⟨some 136, .move (Operand.tmp 1), none, 0⟩,
 ⟨some 137, .call ⟨(Callee.value (Operand.func 110)), [(Operand.tmp 135), (Operand.tmp 136)].toArray, #[9, 9]⟩, none, 0⟩,
 ⟨some 13, .assign (Operand.tmp 137), none, 0⟩])
 (.seq
 (.seq
 (.ops [⟨some 138, .move (Operand.tmp 13), none, 0⟩,
 ⟨some 139, .binOp BinOp.lss 3 (Operand.tmp 138) (Operand.const (Value.int IntKind.i64 0)) 3, none, 0⟩])
 (.cond (Operand.tmp 139)
 (.seq
 (.ops [⟨some 4, .assign (Operand.const (Value.int IntKind.i64 (-1))), none, 0⟩])
 .ret)
 .skip))
 (.seq
 (.ops [⟨some 140, .move (Operand.tmp 8), none, 0⟩,
 ⟨some 141, .move (Operand.tmp 13), none, 0⟩,
 ⟨some 142, .binOp BinOp.add 3 (Operand.tmp 140) (Operand.tmp 141) 3, none, 0⟩,
 ⟨some 4, .assign (Operand.tmp 142), none, 0⟩])
 .ret)))
 .skip))))))))))))
 (.seq
 (.ops [⟨some 4, .assign (Operand.const (Value.int IntKind.i64 (-1))), none, 0⟩])
 .ret))))))))))
abbrev R84 : List ResultVar := [ResultVar.tmp 4]
theorem ok84 : FnOK Tryd.prog 84 L84 R84 2 := ⟨_, _, Tryd.func84, rfl, by kernel_rfl, by kernel_rfl, by kernel_rfl, by kernel_rfl, Nat.le_of_ble_eq_true (by kernel_rfl), by kernel_rfl⟩

/-- strings.explode -/
def L85 : LCode :=
 (.seq
 (.ops [⟨some 4, .assign (Operand.const (Value.slice none 0 0)), none, 0⟩])
 (.seq
 (.ops [⟨some 10, .move (Operand.tmp 0), none, 0⟩,
 ⟨some 11, .call ⟨(Callee.value (Operand.func 111)), [(Operand.tmp 10)].toArray, #[9]⟩, none, 0⟩,
 ⟨some 5, .assign (Operand.tmp 11), none, 0⟩])
 (.seq
 (.seq
 (.ops [⟨some 12, .move (Operand.tmp 1), none, 0⟩,
 ⟨some 13, .binOp BinOp.lss 3 (Operand.tmp 12) (Operand.const (Value.int IntKind.i64 0)) 3, none, 0⟩,
 ⟨some 14, .move (Operand.tmp 13), none, 0⟩,
 ⟨some 15, .move (Operand.tmp 1), some (14, false), 0⟩,
 ⟨some 16, .move (Operand.tmp 5), some (14, false), 0⟩,
 ⟨some 17, .binOp BinOp.gtr 3 (Operand.tmp 15) (Operand.tmp 16) 3, some (14, false), 0⟩,
 ⟨some 18, .pick (Operand.tmp 14) (Operand.const (Value.bool true)) (Operand.tmp 17), none, 0⟩])
 (.cond (Operand.tmp 18)
 (.ops [⟨some 19, .move (Operand.tmp 5), none, 0⟩,
 ⟨some 1, .assign (Operand.tmp 19), none, 0⟩])
 .skip))
 (.seq
 (.ops [⟨some 20, .move (Operand.tmp 1), none, 0⟩,
 ⟨some 21, .makeSlice 29 (Operand.tmp 20) (Operand.tmp 20), none, 0⟩,
 ⟨some 6, .assign (Operand.tmp 21), none, 0⟩])
 (.seq
 (.seq
 (.ops [⟨some 7, .assign (Operand.const (Value.int IntKind.i64 0)), none, 0⟩])
 (.block 0
 (.loop
 (.seq
 (.seq
 (.ops [⟨some 22, .move (Operand.tmp 7), none, 0⟩,
 ⟨some 23, .move (Operand.tmp 1), none, 0⟩,
 ⟨some 24, .binOp BinOp.sub 3 (Operand.tmp 23) (Operand.const (Value.int IntKind.i64 1)) 3, none, 0⟩,
 ⟨some 25, .binOp BinOp.lss 3 (Operand.tmp 22) (Operand.tmp 24) 3, none, 0⟩])
 (.cond (Operand.tmp 25)
 .skip
 (.exit 0)))
 (.seq
 (.block 1
 (.seq
 (.ops [⟨some 29, .move (Operand.tmp 0), none, 0⟩,
 ⟨some 30, .call ⟨(Callee.value (Operand.func 112)), [(Operand.tmp 29)].toArray, #[9]⟩, none, 0⟩,
 ⟨some 28, .move (Operand.tmp 30), none, 0⟩,
 ⟨some 31, .extract (Operand.tmp 28) 0, none, 0⟩,
 ⟨some 32, .extract (Operand.tmp 28) 1, none, 0⟩,
 ⟨some 8, .assign (Operand.tmp 31), none, 0⟩,
 ⟨some 9, .assign (Operand.tmp 32), none, 0⟩])
 (.seq
 (.ops [⟨some 33, .move (Operand.tmp 6), none, 0⟩,
 ⟨some 34, .move (Operand.tmp 7), none, 0⟩,
 ⟨some 35, .move (Operand.tmp 0), none, 0⟩,
 ⟨some 36, .move (Operand.tmp 9), none, 0⟩,
 ⟨some 37, .slice 9 (Operand.tmp 35) none (some (Operand.tmp 36)) none, none, 0⟩,
 ⟨some 38, .indexAddr 29 (Operand.tmp 33) (Operand.tmp 34), none, 0⟩,
 ⟨none, .store 9 (Operand.tmp 38) (Operand.tmp 37), none, 0⟩])
 (.ops [⟨some 39, .move (Operand.tmp 0), none, 0⟩,
 ⟨some 40, .move (Operand.tmp 9), none, 0⟩,
 ⟨some 41, .slice 9 (Operand.tmp 39) (some (Operand.tmp 40)) none none, none, 0⟩,
 ⟨some 0, .assign (Operand.tmp 41), none, 0⟩]))))
 (.ops [⟨some 26, .move (Operand.tmp 7), none, 0⟩,
 ⟨some 27, .binOp BinOp.add 3 (Operand.tmp 26) (Operand.const (Value.int IntKind.i64 1)) 3, none, 0⟩,
 ⟨some 7, .assign (Operand.tmp 27), none, 0⟩]))))))
 (.seq
 (.seq
 (.ops [⟨some 42, .move (Operand.tmp 1), none, 0⟩,
 ⟨some 43, .binOp BinOp.gtr 3 (Operand.tmp 42) (Operand.const (Value.int IntKind.i64 0)) 3, none, 0⟩])
 (.cond (Operand.tmp 43)
 (.ops [⟨some 44, .move (Operand.tmp 6), none, 0⟩,
 ⟨some 45, .move (Operand.tmp 1), none, 0⟩,
 ⟨some 46, .binOp BinOp.sub 3 (Operand.tmp 45) (Operand.const (Value.int IntKind.i64 1)) 3, none, 0⟩,
 ⟨some 47, .move (Operand.tmp 0), none, 0⟩,
 ⟨some 48, .indexAddr 29 (Operand.tmp 44) (Operand.tmp 46), none, 0⟩,
 ⟨none, .store 9 (Operand.tmp 48) (Operand.tmp 47), none, 0⟩])
 .skip))
 (.seq
 (.ops [⟨some 49, .move (Operand.tmp 6), none, 0⟩,
 ⟨some 4, .assign (Operand.tmp 49), none, 0⟩])
 .ret)))))))
abbrev R85 : List ResultVar := [ResultVar.tmp 4]
theorem ok85 : FnOK Tryd.prog 85 L85 R85 2 := ⟨_, _, Tryd.func85, rfl, by kernel_rfl, by kernel_rfl, by kernel_rfl, by kernel_rfl, Nat.le_of_ble_eq_true (by kernel_rfl), by kernel_rfl⟩

/-- strings.Count -/
def L86 : LCode :=
 (.seq
 (.ops [⟨some 4, .assign (Operand.const (Value.int IntKind.i64 0)), none, 0⟩])
 (.seq
 (.seq
 (.ops [⟨some 7, .move (Operand.tmp 1), none, 0⟩,
 ⟨some 8, .call ⟨(Callee.builtin Builtin.len), [(Operand.tmp 7)].toArray, #[9]⟩, none, 0⟩,
 ⟨some 9, .binOp BinOp.eql 3 (Operand.tmp 8) (Operand.const (Value.int IntKind.i64 0)) 3, none, 0⟩])
 (.cond (Operand.tmp 9)
 (.seq
 (.ops [⟨some 10, .move (Operand.tmp 0), none, 0⟩,
 ⟨some 11, .call ⟨(Callee.value (Operand.func 111)), [(Operand.tmp 10)].toArray, #[9]⟩, none, 0⟩,
 ⟨some 12, .binOp BinOp.add 3 (Operand.tmp 11) (Operand.const (Value.int IntKind.i64 1)) 3, none, 0⟩,
 ⟨some 4, .assign (Operand.tmp 12), none, 0⟩])
 .ret)
 .skip))
 (.seq
 (.seq
 (.ops [⟨some 13, .move (Operand.tmp 1), none, 0⟩,
 ⟨some 14, .call ⟨(Callee.builtin Builtin.len), [(Operand.tmp 13)].toArray, #[9]⟩, none, 0⟩,
 ⟨some 15, .binOp BinOp.eql 3 (Operand.tmp 14) (Operand.const (Value.int IntKind.i64 1)) 3, none, 0⟩])
 (.cond (Operand.tmp 15)
 (.seq
 (.ops [⟨some 16, .move (Operand.tmp 0), none, 0⟩,
 ⟨some 17, .move (Operand.tmp 1), none, 0⟩,
 ⟨some 18, .index 9 (Operand.tmp 17) (Operand.const (Value.int IntKind.i64 0)), none, 0⟩,
 ⟨some 19, .call ⟨(Callee.value (Operand.func 113)), [(Operand.tmp 16), (Operand.tmp 18)].toArray, #[9, 5]⟩, none, 0⟩,
 ⟨some 4, .assign (Operand.tmp 19), none, 0⟩])
 .ret)
 .skip))
 (.seq
 (.ops [⟨some 5, .assign (Operand.const (Value.int IntKind.i64 0)), none, 0⟩])
 (.block 0
 (.loop
 (.block 1
 (.seq
 (.ops [⟨some 20, .move (Operand.tmp 0), none, 0⟩,
 ⟨some 21, .move (Operand.tmp 1), none, 0⟩,
 ⟨some 22, .call ⟨(Callee.value (Operand.func 87)), [(Operand.tmp 20), (Operand.tmp 21)].toArray, #[9, 9]⟩, none, 0⟩,
 ⟨some 6, .assign (Operand.tmp 22), none, 0⟩])
 (.seq
 (.seq
 (.ops [⟨some 23, .move (Operand.tmp 6), none, 0⟩,
 ⟨some 24, .binOp BinOp.eql 3 (Operand.tmp 23) (Operand.const (Value.int IntKind.i64 (-1))) 3, none, 0⟩])
 (.cond (Operand.tmp 24)
 (.seq
 (.ops [⟨some 25, .move (Operand.tmp 5), none, 0⟩,
 ⟨some 4, .assign (Operand.tmp 25), none, 0⟩])
 .ret)
 .skip))
 (.seq
 (.ops [⟨some 26, .move (Operand.tmp 5), none, 0⟩,
 ⟨some 27, .binOp BinOp.add 3 (Operand.tmp 26) (Operand.const (Value.int IntKind.i64 1)) 3, none, 0⟩,
 ⟨some 5, .assign (Operand.tmp 27), none, 0⟩])
 (.ops [⟨some 28, .move (Operand.tmp 0), none, 0⟩,
 ⟨some 29, .move (Operand.tmp 6), none, 0⟩,
 ⟨some 30, .move (Operand.tmp 1), none, 0⟩,
 ⟨some 31, .call ⟨(Callee.builtin Builtin.len), [(Operand.tmp 30)].toArray, #[9]⟩, none, 0⟩,
 ⟨some 32, .binOp BinOp.add 3 (Operand.tmp 29) (Operand.tmp 31) 3, none, 0⟩,
 ⟨some 33, .slice 9 (Operand.tmp 28) (some (Operand.tmp 32)) none none, none, 0⟩,
 ⟨some 0, .assign (Operand.tmp 33), none, 0⟩])))))))))))
abbrev R86 : List ResultVar := [ResultVar.tmp 4]
theorem ok86 : FnOK Tryd.prog 86 L86 R86 2 := ⟨_, _, Tryd.func86, rfl, by kernel_rfl, by kernel_rfl, by kernel_rfl, by kernel_rfl, Nat.le_of_ble_eq_true (by kernel_rfl), by kernel_rfl⟩

/-- strings.Index -/
def L87 : LCode :=
 (.seq
 (.ops [⟨some 4, .assign (Operand.const (Value.int IntKind.i64 0)), none, 0⟩])
 (.seq
 (.ops [⟨some 5, .move (Operand.tmp 0), none, 0⟩,
 ⟨some 6, .move (Operand.tmp 1), none, 0⟩,
 ⟨some 7, .call ⟨(Callee.value (Operand.func 84)), [(Operand.tmp 5), (Operand.tmp 6)].toArray, #[9, 9]⟩, none, 0⟩,
 ⟨some 4, .assign (Operand.tmp 7), none, 0⟩])
 .ret))
abbrev R87 : List ResultVar := [ResultVar.tmp 4]
theorem ok87 : FnOK Tryd.prog 87 L87 R87 2 := ⟨_, _, Tryd.func87, rfl, by kernel_rfl, by kernel_rfl, by kernel_rfl, by kernel_rfl, Nat.le_of_ble_eq_true (by kernel_rfl), by kernel_rfl⟩

/-- internal/stringslite.IndexByte -/
def L88 : LCode :=
 (.seq
 (.ops [⟨some 4, .assign (Operand.const (Value.int IntKind.i64 0)), none, 0⟩])
 (.seq
 (.ops [⟨some 5, .move (Operand.tmp 0), none, 0⟩,
 ⟨some 6, .move (Operand.tmp 1), none, 0⟩,
 ⟨some 7, .call ⟨(Callee.value (Operand.func 114)), [(Operand.tmp 5), (Operand.tmp 6)].toArray, #[9, 5]⟩, none, 0⟩,
 ⟨some 4, .assign (Operand.tmp 7), none, 0⟩])
 .ret))
abbrev R88 : List ResultVar := [ResultVar.tmp 4]
theorem ok88 : FnOK Tryd.prog 88 L88 R88 2 := ⟨_, _, Tryd.func88, rfl, by kernel_rfl, by kernel_rfl, by kernel_rfl, by kernel_rfl, Nat.le_of_ble_eq_true (by kernel_rfl), by kernel_rfl⟩

/-- slices.insertionSortCmpFunc[ablaut/api.Shift] -/
def L89 : LCode :=
 (.seq
 (.ops [⟨some 10, .move (Operand.tmp 1), none, 0⟩,
 ⟨some 11, .binOp BinOp.add 3 (Operand.tmp 10) (Operand.const (Value.int IntKind.i64 1)) 3, none, 0⟩,
 ⟨some 8, .assign (Operand.tmp 11), none, 0⟩])
 (.block 0
 (.loop
 (.seq
 (.seq
 (.ops [⟨some 12, .move (Operand.tmp 8), none, 0⟩,
 ⟨some 13, .move (Operand.tmp 2), none, 0⟩,
 ⟨some 14, .binOp BinOp.lss 3 (Operand.tmp 12) (Operand.tmp 13) 3, none, 0⟩])
 (.cond (Operand.tmp 14)
 .skip
 (.exit 0)))
 (.seq
 (.block 1
 (.seq
 (.ops [⟨some 17, .move (Operand.tmp 8), none, 0⟩,
 ⟨some 9, .assign (Operand.tmp 17), none, 0⟩])
 (.block 2
 (.loop
 (.seq
 (.seq
 (.draw [⟨some 18, .move (Operand.tmp 9), none, 0⟩,
 ⟨some 19, .move (Operand.tmp 1), none, 0⟩,
 ⟨some 20, .binOp BinOp.gtr 3 (Operand.tmp 18) (Operand.tmp 19) 3, none, 0⟩,
 ⟨some 21, .move (Operand.tmp 20), none, 0⟩,
 ⟨some 22, .move (Operand.tmp 3), some (21, true), 0⟩,
 ⟨some 23, .move (Operand.tmp 0), some (21, true), 0⟩,
 ⟨some 24, .move (Operand.tmp 9), some (21, true), 0⟩,
 ⟨some 25, .indexAddr 22 (Operand.tmp 23) (Operand.tmp 24), some (21, true), 0⟩,
 ⟨some 26, .load 46 (Operand.tmp 25), some (21, true), 0⟩,
 ⟨some 27, .move (Operand.tmp 0), some (21, true), 0⟩,
 ⟨some 28, .move (Operand.tmp 9), some (21, true), 0⟩,
 ⟨some 29, .binOp BinOp.sub 3 (Operand.tmp 28) (Operand.const (Value.int IntKind.i64 1)) 3, some (21, true), 0⟩,
 ⟨some 30, .indexAddr 22 (Operand.tmp 27) (Operand.tmp 29), some (21, true), 0⟩,
 ⟨some 31, .load 46 (Operand.tmp 30), some (21, true), 0⟩,
 ⟨some 32, .call ⟨(Callee.value (Operand.tmp 22)), [(Operand.tmp 26), (Operand.tmp 31)].toArray, #[46, 46]⟩, some (21, true), 0⟩,
 ⟨some 33, .binOp BinOp.lss 3 (Operand.tmp 32) (Operand.const (Value.int IntKind.i64 0)) 3, some (21, true), 0⟩,
 ⟨some 34, .pick (Operand.tmp 21) (Operand.tmp 33) (Operand.const (Value.bool false)), none, 0⟩] true [14, 15, 16] [0, 1, 2, 3, 4, 5, 6, 7, 9, 10, 11, 12, 8, 13, 14, 15, 16])
 (.cond (Operand.tmp 34)
 .skip
 (.exit 2)))
 (.seq
 (.block 3
 (.draw [⟨some 37, .move (Operand.tmp 0), none, 0⟩,
 ⟨some 38, .move (Operand.tmp 9), none, 0⟩,
 ⟨some 39, .move (Operand.tmp 0), none, 0⟩,
 ⟨some 40, .move (Operand.tmp 9), none, 0⟩,
 ⟨some 41, .binOp BinOp.sub 3 (Operand.tmp 40) (Operand.const (Value.int IntKind.i64 1)) 3, none, 0⟩,
 ⟨some 42, .move (Operand.tmp 0), none, 0⟩,
 ⟨some 43, .move (Operand.tmp 9), none, 0⟩,
 ⟨some 44, .binOp BinOp.sub 3 (Operand.tmp 43) (Operand.const (Value.int IntKind.i64 1)) 3, none, 0⟩,
 ⟨some 45, .indexAddr 22 (Operand.tmp 42) (Operand.tmp 44), none, 0⟩,
 ⟨some 46, .load 46 (Operand.tmp 45), none, 0⟩,
 ⟨some 47, .move (Operand.tmp 0), none, 0⟩,
 ⟨some 48, .move (Operand.tmp 9), none, 0⟩,
 ⟨some 49, .indexAddr 22 (Operand.tmp 47) (Operand.tmp 48), none, 0⟩,
 ⟨some 50, .load 46 (Operand.tmp 49), none, 0⟩,
 ⟨some 51, .indexAddr 22 (Operand.tmp 37) (Operand.tmp 38), none, 0⟩,
 ⟨none, .store 46 (Operand.tmp 51) (Operand.tmp 46), none, 0⟩,
 ⟨some 52, .indexAddr 22 (Operand.tmp 39) (Operand.tmp 41), none, 0⟩,
 ⟨none, .store 46 (Operand.tmp 52) (Operand.tmp 50), none, 0⟩] true [16, 17] [0, 1, 2, 3, 4, 5, 6, 7, 8, 10, 11, 12, 9, 13, 14, 15, 16, 17]))
 (.ops [⟨some 35, .move (Operand.tmp 9), none, 0⟩,
 ⟨some 36, .binOp BinOp.sub 3 (Operand.tmp 35) (Operand.const (Value.int IntKind.i64 1)) 3, none, 0⟩,
 ⟨some 9, .assign (Operand.tmp 36), none, 0⟩])))))))
 (.ops [⟨some 15, .move (Operand.tmp 8), none, 0⟩,
 ⟨some 16, .binOp BinOp.add 3 (Operand.tmp 15) (Operand.const (Value.int IntKind.i64 1)) 3, none, 0⟩,
 ⟨some 8, .assign (Operand.tmp 16), none, 0⟩]))))))
abbrev R89 : List ResultVar := []
theorem ok89 : FnOK Tryd.prog 89 L89 R89 4 := ⟨_, _, Tryd.func89, rfl, by kernel_rfl, by kernel_rfl, by kernel_rfl, by kernel_rfl, Nat.le_of_ble_eq_true (by kernel_rfl), by kernel_rfl⟩

/-- slices.heapSortCmpFunc[ablaut/api.Shift] -/
def L90 : LCode :=
 (.seq
 (.ops [⟨some 13, .move (Operand.tmp 1), none, 0⟩,
 ⟨some 8, .assign (Operand.tmp 13), none, 0⟩])
 (.seq
 (.ops [⟨some 9, .assign (Operand.const (Value.int IntKind.i64 0)), none, 0⟩])
 (.seq
 (.ops [⟨some 14, .move (Operand.tmp 2), none, 0⟩,
 ⟨some 15, .move (Operand.tmp 1), none, 0⟩,
 ⟨some 16, .binOp BinOp.sub 3 (Operand.tmp 14) (Operand.tmp 15) 3, none, 0⟩,
 ⟨some 10, .assign (Operand.tmp 16), none, 0⟩])
 (.seq
 (.seq
 (.ops [⟨some 17, .move (Operand.tmp 10), none, 0⟩,
 ⟨some 18, .binOp BinOp.sub 3 (Operand.tmp 17) (Operand.const (Value.int IntKind.i64 1)) 3, none, 0⟩,
 ⟨some 19, .binOp BinOp.quo 3 (Operand.tmp 18) (Operand.const (Value.int IntKind.i64 2)) 3, none, 0⟩,
 ⟨some 11, .assign (Operand.tmp 19), none, 0⟩])
 (.block 0
 (.loop
 (.seq
 (.seq
 (.ops [⟨some 20, .move (Operand.tmp 11), none, 0⟩,
 ⟨some 21, .binOp BinOp.geq 3 (Operand.tmp 20) (Operand.const (Value.int IntKind.i64 0)) 3, none, 0⟩])
 (.cond (Operand.tmp 21)
 .skip
 (.exit 0)))
 (.seq
 (.block 1
 (.ops [⟨some 24, .move (Operand.tmp 0), none, 0⟩,
 ⟨some 25, .move (Operand.tmp 11), none, 0⟩,
 ⟨some 26, .move (Operand.tmp 10), none, 0⟩,
 ⟨some 27, .move (Operand.tmp 8), none, 0⟩,
 ⟨some 28, .move (Operand.tmp 3), none, 0⟩,
 ⟨some 29, .call ⟨(Callee.value (Operand.func 115)), [(Operand.tmp 24), (Operand.tmp 25), (Operand.tmp 26), (Operand.tmp 27), (Operand.tmp 28)].toArray, #[22, 3, 3, 3, 73]⟩, none, 0⟩]))
 (.ops [⟨some 22, .move (Operand.tmp 11), none, 0⟩,
 ⟨some 23, .binOp BinOp.sub 3 (Operand.tmp 22) (Operand.const (Value.int IntKind.i64 1)) 3, none, 0⟩,
 ⟨some 11, .assign (Operand.tmp 23), none, 0⟩]))))))
 (.seq
 (.ops [⟨some 30, .move (Operand.tmp 10), none, 0⟩,
 ⟨some 31, .binOp BinOp.sub 3 (Operand.tmp 30) (Operand.const (Value.int IntKind.i64 1)) 3, none, 0⟩,
 ⟨some 12, .assign (Operand.tmp 31), none, 0⟩])
 (.block 2
 (.loop
 (.seq
 (.seq
 (.ops [⟨some 32, .move (Operand.tmp 12), none, 0⟩,
 ⟨some 33, .binOp BinOp.geq 3 (Operand.tmp 32) (Operand.const (Value.int IntKind.i64 0)) 3, none, 0⟩])
 (.cond (Operand.tmp 33)
 .skip
 (.exit 2)))
 (.seq
 (.block 3
 (.seq
 (.draw [⟨some 36, .move (Operand.tmp 0), none, 0⟩,
 ⟨some 37, .move (Operand.tmp 8), none, 0⟩,
 ⟨some 38, .move (Operand.tmp 0), none, 0⟩,
 ⟨some 39, .move (Operand.tmp 8), none, 0⟩,
 ⟨some 40, .move (Operand.tmp 12), none, 0⟩,
 ⟨some 41, .binOp BinOp.add 3 (Operand.tmp 39) (Operand.tmp 40) 3, none, 0⟩,
 ⟨some 42, .move (Operand.tmp 0), none, 0⟩,
 ⟨some 43, .move (Operand.tmp 8), none, 0⟩,
 ⟨some 44, .move (Operand.tmp 12), none, 0⟩,
 ⟨some 45, .binOp BinOp.add 3 (Operand.tmp 43) (Operand.tmp 44) 3, none, 0⟩,
 ⟨some 46, .indexAddr 22 (Operand.tmp 42) (Operand.tmp 45), none, 0⟩,
 ⟨some 47, .load 46 (Operand.tmp 46), none, 0⟩,
 ⟨some 48, .move (Operand.tmp 0), none, 0⟩,
 ⟨some 49, .move (Operand.tmp 8), none, 0⟩,
 ⟨some 50, .indexAddr 22 (Operand.tmp 48) (Operand.tmp 49), none, 0⟩,
 ⟨some 51, .load 46 (Operand.tmp 50), none, 0⟩,
 ⟨some 52, .indexAddr 22 (Operand.tmp 36) (Operand.tmp 37), none, 0⟩,
 ⟨none, .store 46 (Operand.tmp 52) (Operand.tmp 47), none, 0⟩,
 ⟨some 53, .indexAddr 22 (Operand.tmp 38) (Operand.tmp 41), none, 0⟩,
 ⟨none, .store 46 (Operand.tmp 53) (Operand.tmp 51), none, 0⟩] true [18, 19] [0, 1, 2, 3, 4, 5, 6, 7, 8, 9, 10, 12, 13, 14, 11, 15, 16, 17, 18, 19])
 (.ops [⟨some 54, .move (Operand.tmp 0), none, 0⟩,
 ⟨some 55, .move (Operand.tmp 9), none, 0⟩,
 ⟨some 56, .move (Operand.tmp 12), none, 0⟩,
 ⟨some 57, .move (Operand.tmp 8), none, 0⟩,
 ⟨some 58, .move (Operand.tmp 3), none, 0⟩,
 ⟨some 59, .call ⟨(Callee.value (Operand.func 115)), [(Operand.tmp 54), (Operand.tmp 55), (Operand.tmp 56), (Operand.tmp 57), (Operand.tmp 58)].toArray, #[22, 3, 3, 3, 73]⟩, none, 0⟩])))
 (.ops [⟨some 34, .move (Operand.tmp 12), none, 0⟩,
 ⟨some 35, .binOp BinOp.sub 3 (Operand.tmp 34) (Operand.const (Value.int IntKind.i64 1)) 3, none, 0⟩,
 ⟨some 12, .assign (Operand.tmp 35), none, 0⟩]))))))))))
abbrev R90 : List ResultVar := []
theorem ok90 : FnOK Tryd.prog 90 L90 R90 4 := ⟨_, _, Tryd.func90, rfl, by kernel_rfl, by kernel_rfl, by kernel_rfl, by kernel_rfl, Nat.le_of_ble_eq_true (by kernel_rfl), by kernel_rfl⟩

/-- slices.breakPatternsCmpFunc[ablaut/api.Shift] -/
def L91 : LCode :=
 (.seq
 (.ops [⟨some 13, .move (Operand.tmp 2), none, 0⟩,
 ⟨some 14, .move (Operand.tmp 1), none, 0⟩,
 ⟨some 15, .binOp BinOp.sub 3 (Operand.tmp 13) (Operand.tmp 14) 3, none, 0⟩,
 ⟨some 8, .assign (Operand.tmp 15), none, 0⟩])
 (.seq
 (.ops [⟨some 16, .move (Operand.tmp 8), none, 0⟩,
 ⟨some 17, .binOp BinOp.geq 3 (Operand.tmp 16) (Operand.const (Value.int IntKind.i64 8)) 3, none, 0⟩])
 (.cond (Operand.tmp 17)
 (.seq
 (.ops [⟨some 18, .move (Operand.tmp 8), none, 0⟩,
 ⟨some 19, .convert 3 132 (Operand.tmp 18), none, 0⟩,
 ⟨some 9, .alloc 132, none, 0⟩,
 ⟨none, .store 132 (Operand.tmp 9) (Operand.tmp 19), none, 0⟩])
 (.seq
 (.ops [⟨some 20, .move (Operand.tmp 8), none, 0⟩,
 ⟨some 21, .call ⟨(Callee.value (Operand.func 116)), [(Operand.tmp 20)].toArray, #[3]⟩, none, 0⟩,
 ⟨some 10, .assign (Operand.tmp 21), none, 0⟩])
 (.seq
 (.ops [⟨some 22, .move (Operand.tmp 1), none, 0⟩,
 ⟨some 23, .move (Operand.tmp 8), none, 0⟩,
 ⟨some 24, .binOp BinOp.quo 3 (Operand.tmp 23) (Operand.const (Value.int IntKind.i64 4)) 3, none, 0⟩,
 ⟨some 25, .binOp BinOp.mul 3 (Operand.tmp 24) (Operand.const (Value.int IntKind.i64 2)) 3, none, 0⟩,
 ⟨some 26, .binOp BinOp.add 3 (Operand.tmp 22) (Operand.tmp 25) 3, none, 0⟩,
 ⟨some 27, .binOp BinOp.sub 3 (Operand.tmp 26) (Operand.const (Value.int IntKind.i64 1)) 3, none, 0⟩,
 ⟨some 11, .assign (Operand.tmp 27), none, 0⟩])
 (.block 0
 (.loop
 (.seq
 (.seq
 (.ops [⟨some 28, .move (Operand.tmp 11), none, 0⟩,
 ⟨some 29, .move (Operand.tmp 1), none, 0⟩,
 ⟨some 30, .move (Operand.tmp 8), none, 0⟩,
 ⟨some 31, .binOp BinOp.quo 3 (Operand.tmp 30) (Operand.const (Value.int IntKind.i64 4)) 3, none, 0⟩,
 ⟨some 32, .binOp BinOp.mul 3 (Operand.tmp 31) (Operand.const (Value.int IntKind.i64 2)) 3, none, 0⟩,
 ⟨some 33, .binOp BinOp.add 3 (Operand.tmp 29) (Operand.tmp 32) 3, none, 0⟩,
 ⟨some 34, .binOp BinOp.add 3 (Operand.tmp 33) (Operand.const (Value.int IntKind.i64 1)) 3, none, 0⟩,
 ⟨some 35, .binOp BinOp.leq 3 (Operand.tmp 28) (Operand.tmp 34) 3, none, 0⟩])
 (.cond (Operand.tmp 35)
 .skip
 (.exit 0)))
 (.seq
 (.block 1
 (.seq
 (.ops [⟨some 38, .call ⟨(Callee.value (Operand.func 117)), [(Operand.tmp 9)].toArray, #[132]⟩, none, 0⟩,
 ⟨some 39, .move (Operand.tmp 10), none, 0⟩,
 ⟨some 40, .binOp BinOp.sub 92 (Operand.tmp 39) (Operand.const (Value.int IntKind.u64 1)) 92, none, 0⟩,
 ⟨some 41, .binOp BinOp.and 92 (Operand.tmp 38) (Operand.tmp 40) 92, none, 0⟩,
 ⟨some 42, .convert 92 3 (Operand.tmp 41), none, 0⟩,
 ⟨some 12, .assign (Operand.tmp 42), none, 0⟩])
 (.seq
 (.seq
 (.ops [⟨some 43, .move (Operand.tmp 12), none, 0⟩,
 ⟨some 44, .move (Operand.tmp 8), none, 0⟩,
 ⟨some 45, .binOp BinOp.geq 3 (Operand.tmp 43) (Operand.tmp 44) 3, none, 0⟩])
 (.cond (Operand.tmp 45)
 (.ops [⟨some 46, .move (Operand.tmp 12), none, 0⟩,
 ⟨some 47, .move (Operand.tmp 8), none, 0⟩,
 ⟨some 48, .binOp BinOp.sub 3 (Operand.tmp 46) (Operand.tmp 47) 3, none, 0⟩,
 ⟨some 12, .assign (Operand.tmp 48), none, 0⟩])
 .skip))
 (.draw [⟨some 49, .move (Operand.tmp 0), none, 0⟩,
 ⟨some 50, .move (Operand.tmp 11), none, 0⟩,
 ⟨some 51, .move (Operand.tmp 0), none, 0⟩,
 ⟨some 52, .move (Operand.tmp 1), none, 0⟩,
 ⟨some 53, .move (Operand.tmp 12), none, 0⟩,
 ⟨some 54, .binOp BinOp.add 3 (Operand.tmp 52) (Operand.tmp 53) 3, none, 0⟩,
 ⟨some 55, .move (Operand.tmp 0), none, 0⟩,
 ⟨some 56, .move (Operand.tmp 1), none, 0⟩,
 ⟨some 57, .move (Operand.tmp 12), none, 0⟩,
 ⟨some 58, .binOp BinOp.add 3 (Operand.tmp 56) (Operand.tmp 57) 3, none, 0⟩,
 ⟨some 59, .indexAddr 22 (Operand.tmp 55) (Operand.tmp 58), none, 0⟩,
 ⟨some 60, .load 46 (Operand.tmp 59), none, 0⟩,
 ⟨some 61, .move (Operand.tmp 0), none, 0⟩,
 ⟨some 62, .move (Operand.tmp 11), none, 0⟩,
 ⟨some 63, .indexAddr 22 (Operand.tmp 61) (Operand.tmp 62), none, 0⟩,
 ⟨some 64, .load 46 (Operand.tmp 63), none, 0⟩,
 ⟨some 65, .indexAddr 22 (Operand.tmp 49) (Operand.tmp 50), none, 0⟩,
 ⟨none, .store 46 (Operand.tmp 65) (Operand.tmp 60), none, 0⟩,
 ⟨some 66, .indexAddr 22 (Operand.tmp 51) (Operand.tmp 54), none, 0⟩,
 ⟨none, .store 46 (Operand.tmp 66) (Operand.tmp 64), none, 0⟩] true [18, 19] [0, 1, 2, 3, 4, 5, 6, 7, 8, 9, 10, 12, 13, 14, 11, 15, 16, 17, 18, 19]))))
 (.ops [⟨some 36, .move (Operand.tmp 11), none, 0⟩,
 ⟨some 37, .binOp BinOp.add 3 (Operand.tmp 36) (Operand.const (Value.int IntKind.i64 1)) 3, none, 0⟩,
 ⟨some 11, .assign (Operand.tmp 37), none, 0⟩]))))))))
 .skip)))
abbrev R91 : List ResultVar := []
theorem ok91 : FnOK Tryd.prog 91 L91 R91 4 := ⟨_, _, Tryd.func91, rfl, by kernel_rfl, by kernel_rfl, by kernel_rfl, by kernel_rfl, Nat.le_of_ble_eq_true (by kernel_rfl), by kernel_rfl⟩

/-- slices.choosePivotCmpFunc[ablaut/api.Shift] -/
def L92 : LCode :=
 (.seq
 (.ops [⟨some 8, .assign (Operand.const (Value.int IntKind.i64 0)), none, 0⟩,
 ⟨some 9, .assign (Operand.const (Value.int IntKind.i64 0)), none, 0⟩])
 (.seq
 (.ops [⟨some 15, .move (Operand.tmp 2), none, 0⟩,
 ⟨some 16, .move (Operand.tmp 1), none, 0⟩,
 ⟨some 17, .binOp BinOp.sub 3 (Operand.tmp 15) (Operand.tmp 16) 3, none, 0⟩,
 ⟨some 10, .assign (Operand.tmp 17), none, 0⟩])
 (.seq
 (.ops [⟨some 11, .alloc 3, none, 0⟩])
 (.seq
 (.ops [⟨some 18, .move (Operand.tmp 1), none, 0⟩,
 ⟨some 19, .move (Operand.tmp 10), none, 0⟩,
 ⟨some 20, .binOp BinOp.quo 3 (Operand.tmp 19) (Operand.const (Value.int IntKind.i64 4)) 3, none, 0⟩,
 ⟨some 21, .binOp BinOp.mul 3 (Operand.tmp 20) (Operand.const (Value.int IntKind.i64 1)) 3, none, 0⟩,
 ⟨some 22, .binOp BinOp.add 3 (Operand.tmp 18) (Operand.tmp 21) 3, none, 0⟩,
 ⟨some 12, .assign (Operand.tmp 22), none, 0⟩])
 (.seq
 (.ops [⟨some 23, .move (Operand.tmp 1), none, 0⟩,
 ⟨some 24, .move (Operand.tmp 10), none, 0⟩,
 ⟨some 25, .binOp BinOp.quo 3 (Operand.tmp 24) (Operand.const (Value.int IntKind.i64 4)) 3, none, 0⟩,
 ⟨some 26, .binOp BinOp.mul 3 (Operand.tmp 25) (Operand.const (Value.int IntKind.i64 2)) 3, none, 0⟩,
 ⟨some 27, .binOp BinOp.add 3 (Operand.tmp 23) (Operand.tmp 26) 3, none, 0⟩,
 ⟨some 13, .assign (Operand.tmp 27), none, 0⟩])
 (.seq
 (.ops [⟨some 28, .move (Operand.tmp 1), none, 0⟩,
 ⟨some 29, .move (Operand.tmp 10), none, 0⟩,
 ⟨some 30, .binOp BinOp.quo 3 (Operand.tmp 29) (Operand.const (Value.int IntKind.i64 4)) 3, none, 0⟩,
 ⟨some 31, .binOp BinOp.mul 3 (Operand.tmp 30) (Operand.const (Value.int IntKind.i64 3)) 3, none, 0⟩,
 ⟨some 32, .binOp BinOp.add 3 (Operand.tmp 28) (Operand.tmp 31) 3, none, 0⟩,
 ⟨some 14, .assign (Operand.tmp 32), none, 0⟩])
 (.seq
 (.seq
 (.ops [⟨some 33, .move (Operand.tmp 10), none, 0⟩,
 ⟨some 34, .binOp BinOp.geq 3 (Operand.tmp 33) (Operand.const (Value.int IntKind.i64 8)) 3, none, 0⟩])
 (.cond (Operand.tmp 34)
 (.seq
 (.seq
 (.ops [⟨some 35, .move (Operand.tmp 10), none, 0⟩,
 ⟨some 36, .binOp BinOp.geq 3 (Operand.tmp 35) (Operand.const (Value.int IntKind.i64 50)) 3, none, 0⟩])
 (.cond (Operand.tmp 36)
 (.seq
 (.ops [⟨some 37, .move (Operand.tmp 0), none, 0⟩,
 ⟨some 38, .move (Operand.tmp 12), none, 0⟩,
 ⟨some 39, .move (Operand.tmp 3), none, 0⟩,
 ⟨some 40, .call ⟨(Callee.value (Operand.func 118)), [(Operand.tmp 37), (Operand.tmp 38), (Operand.tmp 11), (Operand.tmp 39)].toArray, #[22, 3, 136, 73]⟩, none, 0⟩,
 ⟨some 12, .assign (Operand.tmp 40), none, 0⟩])
 (.seq
 (.ops [⟨some 41, .move (Operand.tmp 0), none, 0⟩,
 ⟨some 42, .move (Operand.tmp 13), none, 0⟩,
 ⟨some 43, .move (Operand.tmp 3), none, 0⟩,
 ⟨some 44, .call ⟨(Callee.value (Operand.func 118)), [(Operand.tmp 41), (Operand.tmp 42), (Operand.tmp 11), (Operand.tmp 43)].toArray, #[22, 3, 136, 73]⟩, none, 0⟩,
 ⟨some 13, .assign (Operand.tmp 44), none, 0⟩])
 (.ops [⟨some 45, .move (Operand.tmp 0), none, 0⟩,
 ⟨some 46, .move (Operand.tmp 14), none, 0⟩,
 ⟨some 47, .move (Operand.tmp 3), none, 0⟩,
 ⟨some 48, .call ⟨(Callee.value (Operand.func 118)), [(Operand.tmp 45), (Operand.tmp 46), (Operand.tmp 11), (Operand.tmp 47)].toArray, #[22, 3, 136, 73]⟩, none, 0⟩,
 ⟨some 14, .assign (Operand.tmp 48), none, 0⟩])))
 .skip))
 (.ops [⟨some 49, .move (Operand.tmp 0), none, 0⟩,
 ⟨some 50, .move (Operand.tmp 12), none, 0⟩,
 ⟨some 51, .move (Operand.tmp 13), none, 0⟩,
 ⟨some 52, .move (Operand.tmp 14), none, 0⟩,
 ⟨some 53, .move (Operand.tmp 3), none, 0⟩,
 ⟨some 54, .call ⟨(Callee.value (Operand.func 119)), [(Operand.tmp 49), (Operand.tmp 50), (Operand.tmp 51), (Operand.tmp 52), (Operand.tmp 11), (Operand.tmp 53)].toArray, #[22, 3, 3, 3, 136, 73]⟩, none, 0⟩,
 ⟨some 13, .assign (Operand.tmp 54), none, 0⟩]))
 .skip))
 (.seq
 (.ops [⟨some 55, .load 3 (Operand.tmp 11), none, 0⟩])
 (.block 0
 (.seq
 (.ops [⟨some 58, .binOp BinOp.eql 3 (Operand.tmp 55) (Operand.const (Value.int IntKind.i64 0)) 3, none, 0⟩,
 ⟨some 57, .assign (Operand.tmp 58), none, 0⟩])
 (.cond (Operand.tmp 57)
 (.seq
 (.ops [⟨some 59, .move (Operand.tmp 13), none, 0⟩,
 ⟨some 8, .assign (Operand.tmp 59), none, 0⟩,
 ⟨some 9, .assign (Operand.const (Value.int IntKind.i64 1)), none, 0⟩])
 .ret)
 (.seq
 (.ops [⟨some 61, .binOp BinOp.eql 3 (Operand.tmp 55) (Operand.const (Value.int IntKind.i64 12)) 3, none, 0⟩,
 ⟨some 60, .assign (Operand.tmp 61), none, 0⟩])
 (.cond (Operand.tmp 60)
 (.seq
 (.ops [⟨some 62, .move (Operand.tmp 13), none, 0⟩,
 ⟨some 8, .assign (Operand.tmp 62), none, 0⟩,
 ⟨some 9, .assign (Operand.const (Value.int IntKind.i64 2)), none, 0⟩])
 .ret)
 (.seq
 (.ops [⟨some 56, .move (Operand.tmp 13), none, 0⟩,
 ⟨some 8, .assign (Operand.tmp 56), none, 0⟩,
 ⟨some 9, .assign (Operand.const (Value.int IntKind.i64 0)), none, 0⟩])
 .ret))))))))))))))
abbrev R92 : List ResultVar := [ResultVar.tmp 8, ResultVar.tmp 9]
theorem ok92 : FnOK Tryd.prog 92 L92 R92 4 := ⟨_, _, Tryd.func92, rfl, by kernel_rfl, by kernel_rfl, by kernel_rfl, by kernel_rfl, Nat.le_of_ble_eq_true (by kernel_rfl), by kernel_rfl⟩

/-- slices.reverseRangeCmpFunc[ablaut/api.Shift] -/
def L93 : LCode :=
 (.seq
 (.ops [⟨some 10, .move (Operand.tmp 1), none, 0⟩,
 ⟨some 8, .assign (Operand.tmp 10), none, 0⟩])
 (.seq
 (.ops [⟨some 11, .move (Operand.tmp 2), none, 0⟩,
 ⟨some 12, .binOp BinOp.sub 3 (Operand.tmp 11) (Operand.const (Value.int IntKind.i64 1)) 3, none, 0⟩,
 ⟨some 9, .assign (Operand.tmp 12), none, 0⟩])
 (.block 0
 (.loop
 (.seq
 (.seq
 (.ops [⟨some 13, .move (Operand.tmp 8), none, 0⟩,
 ⟨some 14, .move (Operand.tmp 9), none, 0⟩,
 ⟨some 15, .binOp BinOp.lss 3 (Operand.tmp 13) (Operand.tmp 14) 3, none, 0⟩])
 (.cond (Operand.tmp 15)
 .skip
 (.exit 0)))
 (.block 1
 (.seq
 (.draw [⟨some 16, .move (Operand.tmp 0), none, 0⟩,
 ⟨some 17, .move (Operand.tmp 8), none, 0⟩,
 ⟨some 18, .move (Operand.tmp 0), none, 0⟩,
 ⟨some 19, .move (Operand.tmp 9), none, 0⟩,
 ⟨some 20, .move (Operand.tmp 0), none, 0⟩,
 ⟨some 21, .move (Operand.tmp 9), none, 0⟩,
 ⟨some 22, .indexAddr 22 (Operand.tmp 20) (Operand.tmp 21), none, 0⟩,
 ⟨some 23, .load 46 (Operand.tmp 22), none, 0⟩,
 ⟨some 24, .move (Operand.tmp 0), none, 0⟩,
 ⟨some 25, .move (Operand.tmp 8), none, 0⟩,
 ⟨some 26, .indexAddr 22 (Operand.tmp 24) (Operand.tmp 25), none, 0⟩,
 ⟨some 27, .load 46 (Operand.tmp 26), none, 0⟩,
 ⟨some 28, .indexAddr 22 (Operand.tmp 16) (Operand.tmp 17), none, 0⟩,
 ⟨none, .store 46 (Operand.tmp 28) (Operand.tmp 23), none, 0⟩,
 ⟨some 29, .indexAddr 22 (Operand.tmp 18) (Operand.tmp 19), none, 0⟩,
 ⟨none, .store 46 (Operand.tmp 29) (Operand.tmp 27), none, 0⟩] true [14, 15] [0, 1, 2, 3, 4, 5, 6, 8, 9, 10, 7, 11, 12, 13, 14, 15])
 (.seq
 (.ops [⟨some 30, .move (Operand.tmp 8), none, 0⟩,
 ⟨some 31, .binOp BinOp.add 3 (Operand.tmp 30) (Operand.const (Value.int IntKind.i64 1)) 3, none, 0⟩,
 ⟨some 8, .assign (Operand.tmp 31), none, 0⟩])
 (.ops [⟨some 32, .move (Operand.tmp 9), none, 0⟩,
 ⟨some 33, .binOp BinOp.sub 3 (Operand.tmp 32) (Operand.const (Value.int IntKind.i64 1)) 3, none, 0⟩,
 ⟨some 9, .assign (Operand.tmp 33), none, 0⟩])))))))))
abbrev R93 : List ResultVar := []
theorem ok93 : FnOK Tryd.prog 93 L93 R93 4 := ⟨_, _, Tryd.func93, rfl, by kernel_rfl, by kernel_rfl, by kernel_rfl, by kernel_rfl, Nat.le_of_ble_eq_true (by kernel_rfl), by kernel_rfl⟩

/-- slices.partialInsertionSortCmpFunc[ablaut/api.Shift] -/
def L94 : LCode :=
 (.seq
 (.ops [⟨some 8, .assign (Operand.const (Value.bool false)), none, 0⟩])
 (.seq
 (.ops [⟨some 13, .move (Operand.tmp 1), none, 0⟩,
 ⟨some 14, .binOp BinOp.add 3 (Operand.tmp 13) (Operand.const (Value.int IntKind.i64 1)) 3, none, 0⟩,
 ⟨some 9, .assign (Operand.tmp 14), none, 0⟩])
 (.seq
 (.seq
 (.ops [⟨some 10, .assign (Operand.const (Value.int IntKind.i64 0)), none, 0⟩])
 (.block 0
 (.loop
 (.seq
 (.seq
 (.ops [⟨some 15, .move (Operand.tmp 10), none, 0⟩,
 ⟨some 16, .binOp BinOp.lss 3 (Operand.tmp 15) (Operand.const (Value.int IntKind.i64 5)) 3, none, 0⟩])
 (.cond (Operand.tmp 16)
 .skip
 (.exit 0)))
 (.seq
 (.block 1
 (.seq
 (.block 2
 (.loop
 (.seq
 (.seq
 (.draw [⟨some 19, .move (Operand.tmp 9), none, 0⟩,
 ⟨some 20, .move (Operand.tmp 2), none, 0⟩,
 ⟨some 21, .binOp BinOp.lss 3 (Operand.tmp 19) (Operand.tmp 20) 3, none, 0⟩,
 ⟨some 22, .move (Operand.tmp 21), none, 0⟩,
 ⟨some 23, .move (Operand.tmp 3), some (22, true), 0⟩,
 ⟨some 24, .move (Operand.tmp 0), some (22, true), 0⟩,
 ⟨some 25, .move (Operand.tmp 9), some (22, true), 0⟩,
 ⟨some 26, .indexAddr 22 (Operand.tmp 24) (Operand.tmp 25), some (22, true), 0⟩,
 ⟨some 27, .load 46 (Operand.tmp 26), some (22, true), 0⟩,
 ⟨some 28, .move (Operand.tmp 0), some (22, true), 0⟩,
 ⟨some 29, .move (Operand.tmp 9), some (22, true), 0⟩,
 ⟨some 30, .binOp BinOp.sub 3 (Operand.tmp 29) (Operand.const (Value.int IntKind.i64 1)) 3, some (22, true), 0⟩,
 ⟨some 31, .indexAddr 22 (Operand.tmp 28) (Operand.tmp 30), some (22, true), 0⟩,
 ⟨some 32, .load 46 (Operand.tmp 31), some (22, true), 0⟩,
 ⟨some 33, .call ⟨(Callee.value (Operand.tmp 23)), [(Operand.tmp 27), (Operand.tmp 32)].toArray, #[46, 46]⟩, some (22, true), 0⟩,
 ⟨some 34, .binOp BinOp.lss 3 (Operand.tmp 33) (Operand.const (Value.int IntKind.i64 0)) 3, some (22, true), 0⟩,
 ⟨some 35, .unOp UnOp.not 4 (Operand.tmp 34), some (22, true), 0⟩,
 ⟨some 36, .pick (Operand.tmp 22) (Operand.tmp 35) (Operand.const (Value.bool false)), none, 0⟩] true [14, 15, 16, 17] [0, 1, 2, 3, 4, 5, 6, 7, 9, 10, 11, 12, 8, 13, 14, 15, 16, 17])
 (.cond (Operand.tmp 36)
 .skip
 (.exit 2)))
 (.block 3
 (.ops [⟨some 37, .move (Operand.tmp 9), none, 0⟩,
 ⟨some 38, .binOp BinOp.add 3 (Operand.tmp 37) (Operand.const (Value.int IntKind.i64 1)) 3, none, 0⟩,
 ⟨some 9, .assign (Operand.tmp 38), none, 0⟩])))))
 (.seq
 (.seq
 (.ops [⟨some 39, .move (Operand.tmp 9), none, 0⟩,
 ⟨some 40, .move (Operand.tmp 2), none, 0⟩,
 ⟨some 41, .binOp BinOp.eql 3 (Operand.tmp 39) (Operand.tmp 40) 3, none, 0⟩])
 (.cond (Operand.tmp 41)
 (.seq
 (.ops [⟨some 8, .assign (Operand.const (Value.bool true)), none, 0⟩])
 .ret)
 .skip))
 (.seq
 (.seq
 (.ops [⟨some 42, .move (Operand.tmp 2), none, 0⟩,
 ⟨some 43, .move (Operand.tmp 1), none, 0⟩,
 ⟨some 44, .binOp BinOp.sub 3 (Operand.tmp 42) (Operand.tmp 43) 3, none, 0⟩,
 ⟨some 45, .binOp BinOp.lss 3 (Operand.tmp 44) (Operand.const (Value.int IntKind.i64 50)) 3, none, 0⟩])
 (.cond (Operand.tmp 45)
 (.seq
 (.ops [⟨some 8, .assign (Operand.const (Value.bool false)), none, 0⟩])
 .ret)
 .skip))
 (.seq
 (.draw [⟨some 46, .move (Operand.tmp 0), none, 0⟩,
 ⟨some 47, .move (Operand.tmp 9), none, 0⟩,
 ⟨some 48, .move (Operand.tmp 0), none, 0⟩,
 ⟨some 49, .move (Operand.tmp 9), none, 0⟩,
 ⟨some 50, .binOp BinOp.sub 3 (Operand.tmp 49) (Operand.const (Value.int IntKind.i64 1)) 3, none, 0⟩,
 ⟨some 51, .move (Operand.tmp 0), none, 0⟩,
 ⟨some 52, .move (Operand.tmp 9), none, 0⟩,
 ⟨some 53, .binOp BinOp.sub 3 (Operand.tmp 52) (Operand.const (Value.int IntKind.i64 1)) 3, none, 0⟩,
 ⟨some 54, .indexAddr 22 (Operand.tmp 51) (Operand.tmp 53), none, 0⟩,
 ⟨some 55, .load 46 (Operand.tmp 54), none, 0⟩,
 ⟨some 56, .move (Operand.tmp 0), none, 0⟩,
 ⟨some 57, .move (Operand.tmp 9), none, 0⟩,
 ⟨some 58, .indexAddr 22 (Operand.tmp 56) (Operand.tmp 57), none, 0⟩,
 ⟨some 59, .load 46 (Operand.tmp 58), none, 0⟩,
 ⟨some 60, .indexAddr 22 (Operand.tmp 46) (Operand.tmp 47), none, 0⟩,
 ⟨none, .store 46 (Operand.tmp 60) (Operand.tmp 55), none, 0⟩,
 ⟨some 61, .indexAddr 22 (Operand.tmp 48) (Operand.tmp 50), none, 0⟩,
 ⟨none, .store 46 (Operand.tmp 61) (Operand.tmp 59), none, 0⟩] true [16, 17] [0, 1, 2, 3, 4, 5, 6, 7, 8, 10, 11, 12, 9, 13, 14, 15, 16, 17])
 (.seq
 (.seq
 (.ops [⟨some 62, .move (Operand.tmp 9), none, 0⟩,
 ⟨some 63, .move (Operand.tmp 1), none, 0⟩,
 ⟨some 64, .binOp BinOp.sub 3 (Operand.tmp 62) (Operand.tmp 63) 3, none, 0⟩,
 ⟨some 65, .binOp BinOp.geq 3 (Operand.tmp 64) (Operand.const (Value.int IntKind.i64 2)) 3, none, 0⟩])
 (.cond (Operand.tmp 65)
 (.seq
 (.ops [⟨some 66, .move (Operand.tmp 9), none, 0⟩,
 ⟨some 67, .binOp BinOp.sub 3 (Operand.tmp 66) (Operand.const (Value.int IntKind.i64 1)) 3, none, 0⟩,
 ⟨some 11, .assign (Operand.tmp 67), none, 0⟩])
 (.block 4
 (.loop
 (.seq
 (.seq
 (.ops [⟨some 68, .move (Operand.tmp 11), none, 0⟩,
 ⟨some 69, .binOp BinOp.geq 3 (Operand.tmp 68) (Operand.const (Value.int IntKind.i64 1)) 3, none, 0⟩])
 (.cond (Operand.tmp 69)
 .skip
 (.exit 4)))
 (.seq
 (.block 5
 (.seq
 (.seq
 (.draw [⟨some 72, .move (Operand.tmp 3), none, 0⟩,
 ⟨some 73, .move (Operand.tmp 0), none, 0⟩,
 ⟨some 74, .move (Operand.tmp 11), none, 0⟩,
 ⟨some 75, .indexAddr 22 (Operand.tmp 73) (Operand.tmp 74), none, 0⟩,
 ⟨some 76, .load 46 (Operand.tmp 75), none, 0⟩,
 ⟨some 77, .move (Operand.tmp 0), none, 0⟩,
 ⟨some 78, .move (Operand.tmp 11), none, 0⟩,
 ⟨some 79, .binOp BinOp.sub 3 (Operand.tmp 78) (Operand.const (Value.int IntKind.i64 1)) 3, none, 0⟩,
 ⟨some 80, .indexAddr 22 (Operand.tmp 77) (Operand.tmp 79), none, 0⟩,
 ⟨some 81, .load 46 (Operand.tmp 80), none, 0⟩,
 ⟨some 82, .call ⟨(Callee.value (Operand.tmp 72)), [(Operand.tmp 76), (Operand.tmp 81)].toArray, #[46, 46]⟩, none, 0⟩,
 ⟨some 83, .binOp BinOp.lss 3 (Operand.tmp 82) (Operand.const (Value.int IntKind.i64 0)) 3, none, 0⟩,
 ⟨some 84, .unOp UnOp.not 4 (Operand.tmp 83), none, 0⟩] true [10, 11, 12] [0, 1, 2, 3, 5, 6, 7, 8, 4, 9, 10, 11, 12])
 (.cond (Operand.tmp 84)
 (.exit 4)
 .skip))
 (.draw [⟨some 85, .move (Operand.tmp 0), none, 0⟩,
 ⟨some 86, .move (Operand.tmp 11), none, 0⟩,
 ⟨some 87, .move (Operand.tmp 0), none, 0⟩,
 ⟨some 88, .move (Operand.tmp 11), none, 0⟩,
 ⟨some 89, .binOp BinOp.sub 3 (Operand.tmp 88) (Operand.const (Value.int IntKind.i64 1)) 3, none, 0⟩,
 ⟨some 90, .move (Operand.tmp 0), none, 0⟩,
 ⟨some 91, .move (Operand.tmp 11), none, 0⟩,
 ⟨some 92, .binOp BinOp.sub 3 (Operand.tmp 91) (Operand.const (Value.int IntKind.i64 1)) 3, none, 0⟩,
 ⟨some 93, .indexAddr 22 (Operand.tmp 90) (Operand.tmp 92), none, 0⟩,
 ⟨some 94, .load 46 (Operand.tmp 93), none, 0⟩,
 ⟨some 95, .move (Operand.tmp 0), none, 0⟩,
 ⟨some 96, .move (Operand.tmp 11), none, 0⟩,
 ⟨some 97, .indexAddr 22 (Operand.tmp 95) (Operand.tmp 96), none, 0⟩,
 ⟨some 98, .load 46 (Operand.tmp 97), none, 0⟩,
 ⟨some 99, .indexAddr 22 (Operand.tmp 85) (Operand.tmp 86), none, 0⟩,
 ⟨none, .store 46 (Operand.tmp 99) (Operand.tmp 94), none, 0⟩,
 ⟨some 100, .indexAddr 22 (Operand.tmp 87) (Operand.tmp 89), none, 0⟩,
 ⟨none, .store 46 (Operand.tmp 100) (Operand.tmp 98), none, 0⟩] true [16, 17] [0, 1, 2, 3, 4, 5, 6, 7, 8, 10, 11, 12, 9, 13, 14, 15, 16, 17])))
 (.ops [⟨some 70, .move (Operand.tmp 11), none, 0⟩,
 ⟨some 71, .binOp BinOp.sub 3 (Operand.tmp 70) (Operand.const (Value.int IntKind.i64 1)) 3, none, 0⟩,
 ⟨some 11, .assign (Operand.tmp 71), none, 0⟩]))))))
 .skip))
 (.seq
 (.ops [⟨some 101, .move (Operand.tmp 2), none, 0⟩,
 ⟨some 102, .move (Operand.tmp 9), none, 0⟩,
 ⟨some 103, .binOp BinOp.sub 3 (Operand.tmp 101) (Operand.tmp 102) 3, none, 0⟩,
 ⟨some 104, .binOp BinOp.geq 3 (Operand.tmp 103) (Operand.const (Value.int IntKind.i64 2)) 3, none, 0⟩])
 (.cond (Operand.tmp 104)
 (.seq
 (.ops [⟨some 105, .move (Operand.tmp 9), none, 0⟩,
 ⟨some 106, .binOp BinOp.add 3 (Operand.tmp 105) (Operand.const (Value.int IntKind.i64 1)) 3, none, 0⟩,
 ⟨some 12, .assign (Operand.tmp 106), none, 0⟩])
 (.block 6
 (.loop
 (.seq
 (.seq
 (.ops [⟨some 107, .move (Operand.tmp 12), none, 0⟩,
 ⟨some 108, .move (Operand.tmp 2), none, 0⟩,
 ⟨some 109, .binOp BinOp.lss 3 (Operand.tmp 107) (Operand.tmp 108) 3, none, 0⟩])
 (.cond (Operand.tmp 109)
 .skip
 (.exit 6)))
 (.seq
 (.block 7
 (.seq
 (.seq
 (.draw [⟨some 112, .move (Operand.tmp 3), none, 0⟩,
 ⟨some 113, .move (Operand.tmp 0), none, 0⟩,
 ⟨some 114, .move (Operand.tmp 12), none, 0⟩,
 ⟨some 115, .indexAddr 22 (Operand.tmp 113) (Operand.tmp 114), none, 0⟩,
 ⟨some 116, .load 46 (Operand.tmp 115), none, 0⟩,
 ⟨some 117, .move (Operand.tmp 0), none, 0⟩,
 ⟨some 118, .move (Operand.tmp 12), none, 0⟩,
 ⟨some 119, .binOp BinOp.sub 3 (Operand.tmp 118) (Operand.const (Value.int IntKind.i64 1)) 3, none, 0⟩,
 ⟨some 120, .indexAddr 22 (Operand.tmp 117) (Operand.tmp 119), none, 0⟩,
 ⟨some 121, .load 46 (Operand.tmp 120), none, 0⟩,
 ⟨some 122, .call ⟨(Callee.value (Operand.tmp 112)), [(Operand.tmp 116), (Operand.tmp 121)].toArray, #[46, 46]⟩, none, 0⟩,
 ⟨some 123, .binOp BinOp.lss 3 (Operand.tmp 122) (Operand.const (Value.int IntKind.i64 0)) 3, none, 0⟩,
 ⟨some 124, .unOp UnOp.not 4 (Operand.tmp 123), none, 0⟩] true [10, 11, 12] [0, 1, 2, 3, 5, 6, 7, 8, 4, 9, 10, 11, 12])
 (.cond (Operand.tmp 124)
 (.exit 6)
 .skip))
 (.draw [⟨some 125, .move (Operand.tmp 0), none, 0⟩,
 ⟨some 126, .move (Operand.tmp 12), none, 0⟩,
 ⟨some 127, .move (Operand.tmp 0), none, 0⟩,
 ⟨some 128, .move (Operand.tmp 12), none, 0⟩,
 ⟨some 129, .binOp BinOp.sub 3 (Operand.tmp 128) (Operand.const (Value.int IntKind.i64 1)) 3, none, 0⟩,
 ⟨some 130, .move (Operand.tmp 0), none, 0⟩,
 ⟨some 131, .move (Operand.tmp 12), none, 0⟩,
 ⟨some 132, .binOp BinOp.sub 3 (Operand.tmp 131) (Operand.const (Value.int IntKind.i64 1)) 3, none, 0⟩,
 ⟨some 133, .indexAddr 22 (Operand.tmp 130) (Operand.tmp 132), none, 0⟩,
 ⟨some 134, .load 46 (Operand.tmp 133), none, 0⟩,
 ⟨some 135, .move (Operand.tmp 0), none, 0⟩,
 ⟨some 136, .move (Operand.tmp 12), none, 0⟩,
 ⟨some 137, .indexAddr 22 (Operand.tmp 135) (Operand.tmp 136), none, 0⟩,
 ⟨some 138, .load 46 (Operand.tmp 137), none, 0⟩,
 ⟨some 139, .indexAddr 22 (Operand.tmp 125) (Operand.tmp 126), none, 0⟩,
 ⟨none, .store 46 (Operand.tmp 139) (Operand.tmp 134), none, 0⟩,
 ⟨some 140, .indexAddr 22 (Operand.tmp 127) (Operand.tmp 129), none, 0⟩,
 ⟨none, .store 46 (Operand.tmp 140) (Operand.tmp 138), none, 0⟩] true [16, 17] [0, 1, 2, 3, 4, 5, 6, 7, 8, 10, 11, 12, 9, 13, 14, 15, 16, 17])))
 (.ops [⟨some 110, .move (Operand.tmp 12), none, 0⟩,
 ⟨some 111, .binOp BinOp.add 3 (Operand.tmp 110) (Operand.const (Value.int IntKind.i64 1)) 3, none, 0⟩,
 ⟨some 12, .assign (Operand.tmp 111), none, 0⟩]))))))
 .skip))))))))
 (.ops [⟨some 17, .move (Operand.tmp 10), none, 0⟩,
 ⟨some 18, .binOp BinOp.add 3 (Operand.tmp 17) (Operand.const (Value.int IntKind.i64 1)) 3, none, 0⟩,
 ⟨some 10, .assign (Operand.tmp 18), none, 0⟩]))))))
 (.seq
 (.ops [⟨some 8, .assign (Operand.const (Value.bool false)), none, 0⟩])
 .ret))))
abbrev R94 : List ResultVar := [ResultVar.tmp 8]
theorem ok94 : FnOK Tryd.prog 94 L94 R94 4 := ⟨_, _, Tryd.func94, rfl, by kernel_rfl, by kernel_rfl, by kernel_rfl, by kernel_rfl, Nat.le_of_ble_eq_true (by kernel_rfl), by kernel_rfl⟩

/-- slices.partitionEqualCmpFunc[ablaut/api.Shift] -/
def L95 : LCode :=
 (.seq
 (.ops [⟨some 10, .assign (Operand.const (Value.int IntKind.i64 0)), none, 0⟩])
 (.seq
 (.draw [⟨some 13, .move (Operand.tmp 0), none, 0⟩,
 ⟨some 14, .move (Operand.tmp 1), none, 0⟩,
 ⟨some 15, .move (Operand.tmp 0), none, 0⟩,
 ⟨some 16, .move (Operand.tmp 3), none, 0⟩,
 ⟨some 17, .move (Operand.tmp 0), none, 0⟩,
 ⟨some 18, .move (Operand.tmp 3), none, 0⟩,
 ⟨some 19, .indexAddr 22 (Operand.tmp 17) (Operand.tmp 18), none, 0⟩,
 ⟨some 20, .load 46 (Operand.tmp 19), none, 0⟩,
 ⟨some 21, .move (Operand.tmp 0), none, 0⟩,
 ⟨some 22, .move (Operand.tmp 1), none, 0⟩,
 ⟨some 23, .indexAddr 22 (Operand.tmp 21) (Operand.tmp 22), none, 0⟩,
 ⟨some 24, .load 46 (Operand.tmp 23), none, 0⟩,
 ⟨some 25, .indexAddr 22 (Operand.tmp 13) (Operand.tmp 14), none, 0⟩,
 ⟨none, .store 46 (Operand.tmp 25) (Operand.tmp 20), none, 0⟩,
 ⟨some 26, .indexAddr 22 (Operand.tmp 15) (Operand.tmp 16), none, 0⟩,
 ⟨none, .store 46 (Operand.tmp 26) (Operand.tmp 24), none, 0⟩] true [14, 15] [0, 1, 2, 3, 4, 5, 6, 8, 9, 10, 7, 11, 12, 13, 14, 15])
 (.seq
 (.ops [⟨some 27, .move (Operand.tmp 1), none, 0⟩,
 ⟨some 28, .binOp BinOp.add 3 (Operand.tmp 27) (Operand.const (Value.int IntKind.i64 1)) 3, none, 0⟩,
 ⟨some 29, .move (Operand.tmp 2), none, 0⟩,
 ⟨some 30, .binOp BinOp.sub 3 (Operand.tmp 29) (Operand.const (Value.int IntKind.i64 1)) 3, none, 0⟩,
 ⟨some 11, .assign (Operand.tmp 28), none, 0⟩,
 ⟨some 12, .assign (Operand.tmp 30), none, 0⟩])
 (.seq
 (.block 0
 (.loop
 (.block 1
 (.seq
 (.block 2
 (.loop
 (.seq
 (.seq
 (.draw [⟨some 31, .move (Operand.tmp 11), none, 0⟩,
 ⟨some 32, .move (Operand.tmp 12), none, 0⟩,
 ⟨some 33, .binOp BinOp.leq 3 (Operand.tmp 31) (Operand.tmp 32) 3, none, 0⟩,
 ⟨some 34, .move (Operand.tmp 33), none, 0⟩,
 ⟨some 35, .move (Operand.tmp 4), some (34, true), 0⟩,
 ⟨some 36, .move (Operand.tmp 0), some (34, true), 0⟩,
 ⟨some 37, .move (Operand.tmp 1), some (34, true), 0⟩,
 ⟨some 38, .indexAddr 22 (Operand.tmp 36) (Operand.tmp 37), some (34, true), 0⟩,
 ⟨some 39, .load 46 (Operand.tmp 38), some (34, true), 0⟩,
 ⟨some 40, .move (Operand.tmp 0), some (34, true), 0⟩,
 ⟨some 41, .move (Operand.tmp 11), some (34, true), 0⟩,
 ⟨some 42, .indexAddr 22 (Operand.tmp 40) (Operand.tmp 41), some (34, true), 0⟩,
 ⟨some 43, .load 46 (Operand.tmp 42), some (34, true), 0⟩,
 ⟨some 44, .call ⟨(Callee.value (Operand.tmp 35)), [(Operand.tmp 39), (Operand.tmp 43)].toArray, #[46, 46]⟩, some (34, true), 0⟩,
 ⟨some 45, .binOp BinOp.lss 3 (Operand.tmp 44) (Operand.const (Value.int IntKind.i64 0)) 3, some (34, true), 0⟩,
 ⟨some 46, .unOp UnOp.not 4 (Operand.tmp 45), some (34, true), 0⟩,
 ⟨some 47, .pick (Operand.tmp 34) (Operand.tmp 46) (Operand.const (Value.bool false)), none, 0⟩] true [13, 14, 15, 16] [0, 1, 2, 3, 4, 5, 6, 7, 9, 10, 11, 8, 12, 13, 14, 15, 16])
 (.cond (Operand.tmp 47)
 .skip
 (.exit 2)))
 (.block 3
 (.ops [⟨some 48, .move (Operand.tmp 11), none, 0⟩,
 ⟨some 49, .binOp BinOp.add 3 (Operand.tmp 48) (Operand.const (Value.int IntKind.i64 1)) 3, none, 0⟩,
 ⟨some 11, .assign (Operand.tmp 49), none, 0⟩])))))
 (.seq
 (.block 4
 (.loop
 (.seq
 (.seq
 (.draw [⟨some 50, .move (Operand.tmp 11), none, 0⟩,
 ⟨some 51, .move (Operand.tmp 12), none, 0⟩,
 ⟨some 52, .binOp BinOp.leq 3 (Operand.tmp 50) (Operand.tmp 51) 3, none, 0⟩,
 ⟨some 53, .move (Operand.tmp 52), none, 0⟩,
 ⟨some 54, .move (Operand.tmp 4), some (53, true), 0⟩,
 ⟨some 55, .move (Operand.tmp 0), some (53, true), 0⟩,
 ⟨some 56, .move (Operand.tmp 1), some (53, true), 0⟩,
 ⟨some 57, .indexAddr 22 (Operand.tmp 55) (Operand.tmp 56), some (53, true), 0⟩,
 ⟨some 58, .load 46 (Operand.tmp 57), some (53, true), 0⟩,
 ⟨some 59, .move (Operand.tmp 0), some (53, true), 0⟩,
 ⟨some 60, .move (Operand.tmp 12), some (53, true), 0⟩,
 ⟨some 61, .indexAddr 22 (Operand.tmp 59) (Operand.tmp 60), some (53, true), 0⟩,
 ⟨some 62, .load 46 (Operand.tmp 61), some (53, true), 0⟩,
 ⟨some 63, .call ⟨(Callee.value (Operand.tmp 54)), [(Operand.tmp 58), (Operand.tmp 62)].toArray, #[46, 46]⟩, some (53, true), 0⟩,
 ⟨some 64, .binOp BinOp.lss 3 (Operand.tmp 63) (Operand.const (Value.int IntKind.i64 0)) 3, some (53, true), 0⟩,
 ⟨some 65, .pick (Operand.tmp 53) (Operand.tmp 64) (Operand.const (Value.bool false)), none, 0⟩] true [13, 14, 15] [0, 1, 2, 3, 4, 5, 6, 7, 9, 10, 11, 8, 12, 13, 14, 15])
 (.cond (Operand.tmp 65)
 .skip
 (.exit 4)))
 (.block 5
 (.ops [⟨some 66, .move (Operand.tmp 12), none, 0⟩,
 ⟨some 67, .binOp BinOp.sub 3 (Operand.tmp 66) (Operand.const (Value.int IntKind.i64 1)) 3, none, 0⟩,
 ⟨some 12, .assign (Operand.tmp 67), none, 0⟩])))))
 (.seq
 (.seq
 (.ops [⟨some 68, .move (Operand.tmp 11), none, 0⟩,
 ⟨some 69, .move (Operand.tmp 12), none, 0⟩,
 ⟨some 70, .binOp BinOp.gtr 3 (Operand.tmp 68) (Operand.tmp 69) 3, none, 0⟩])
 (.cond (Operand.tmp 70)
 (.exit 0)
 .skip))
 (.seq
 (.draw [⟨some 71, .move (Operand.tmp 0), none, 0⟩,
 ⟨some 72, .move (Operand.tmp 11), none, 0⟩,
 ⟨some 73, .move (Operand.tmp 0), none, 0⟩,
 ⟨some 74, .move (Operand.tmp 12), none, 0⟩,
 ⟨some 75, .move (Operand.tmp 0), none, 0⟩,
 ⟨some 76, .move (Operand.tmp 12), none, 0⟩,
 ⟨some 77, .indexAddr 22 (Operand.tmp 75) (Operand.tmp 76), none, 0⟩,
 ⟨some 78, .load 46 (Operand.tmp 77), none, 0⟩,
 ⟨some 79, .move (Operand.tmp 0), none, 0⟩,
 ⟨some 80, .move (Operand.tmp 11), none, 0⟩,
 ⟨some 81, .indexAddr 22 (Operand.tmp 79) (Operand.tmp 80), none, 0⟩,
 ⟨some 82, .load 46 (Operand.tmp 81), none, 0⟩,
 ⟨some 83, .indexAddr 22 (Operand.tmp 71) (Operand.tmp 72), none, 0⟩,
 ⟨none, .store 46 (Operand.tmp 83) (Operand.tmp 78), none, 0⟩,
 ⟨some 84, .indexAddr 22 (Operand.tmp 73) (Operand.tmp 74), none, 0⟩,
 ⟨none, .store 46 (Operand.tmp 84) (Operand.tmp 82), none, 0⟩] true [14, 15] [0, 1, 2, 3, 4, 5, 6, 8, 9, 10, 7, 11, 12, 13, 14, 15])
 (.seq
 (.ops [⟨some 85, .move (Operand.tmp 11), none, 0⟩,
 ⟨some 86, .binOp BinOp.add 3 (Operand.tmp 85) (Operand.const (Value.int IntKind.i64 1)) 3, none, 0⟩,
 ⟨some 11, .assign (Operand.tmp 86), none, 0⟩])
 (.ops [⟨some 87, .move (Operand.tmp 12), none, 0⟩,
 ⟨some 88, .binOp BinOp.sub 3 (Operand.tmp 87) (Operand.const (Value.int IntKind.i64 1)) 3, none, 0⟩,
 ⟨some 12, .assign (Operand.tmp 88), none, 0⟩])))))))))
 (.seq
 (.ops [⟨some 89, .move (Operand.tmp 11), none, 0⟩,
 ⟨some 10, .assign (Operand.tmp 89), none, 0⟩])
 .ret)))))
abbrev R95 : List ResultVar := [ResultVar.tmp 10]
theorem ok95 : FnOK Tryd.prog 95 L95 R95 5 := ⟨_, _, Tryd.func95, rfl, by kernel_rfl, by kernel_rfl, by kernel_rfl, by kernel_rfl, Nat.le_of_ble_eq_true (by kernel_rfl), by kernel_rfl⟩
end Go.Proofs.YtldlcejlfaogbaaDoor.Vs
