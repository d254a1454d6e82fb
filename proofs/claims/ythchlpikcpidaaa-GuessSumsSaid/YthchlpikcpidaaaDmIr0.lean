/- The seat's functions as the engine Dm reads them, written by dgen.py. -/
import Derived.Test.YthchlpikcpidaaaDmFn
import Derived.Test.YthchlpikcpidaaaProg
import Derived.KernelRfl
namespace Go.Proofs.Ythchlpikcpidaaa.Vs
set_option linter.unusedVariables false
set_option maxRecDepth 100000
/-- gosem.cut.init -/
def L2 : LCode :=
 (.ops [⟨some 0, .call ⟨(Callee.value (Operand.func 1)), [].toArray, #[]⟩, none, 0⟩])
/-- ablaut/ablautlaw18.GuessSums -/
def L4 : LCode :=
 (.seq
 (.ops [⟨some 4, .assign (Operand.const (Value.bool false)), none, 0⟩])
 (.seq
 (.seq
 (.ops [⟨some 20, .move (Operand.tmp 0), none, 0⟩,
 ⟨some 21, .call ⟨(Callee.value (Operand.func 7)), [(Operand.tmp 20)].toArray, #[22]⟩, none, 0⟩,
 ⟨some 22, .move (Operand.tmp 21), none, 0⟩,
 ⟨some 23, .move (Operand.tmp 1), some (22, false), 0⟩,
 ⟨some 24, .buildSlice 46 1 [(0, (Operand.tmp 23))].toArray, some (22, false), 0⟩,
 ⟨some 25, .call ⟨(Callee.value (Operand.func 8)), [(Operand.tmp 24)].toArray, #[46]⟩, some (22, false), 0⟩,
 ⟨some 26, .pick (Operand.tmp 22) (Operand.const (Value.bool true)) (Operand.tmp 25), none, 0⟩])
 (.cond (Operand.tmp 26)
 (.seq
 (.ops [⟨some 27, .call ⟨(Callee.value (Operand.func 9)), [].toArray, #[]⟩, none, 0⟩,
 ⟨some 4, .assign (Operand.tmp 27), none, 0⟩])
 .ret)
 .skip))
 (.seq
 (.ops [⟨some 29, .move (Operand.tmp 0), none, 0⟩,
 ⟨some 30, .call ⟨(Callee.value (Operand.func 10)), [(Operand.tmp 29)].toArray, #[22]⟩, none, 0⟩,
 ⟨some 28, .move (Operand.tmp 30), none, 0⟩,
 ⟨some 31, .extract (Operand.tmp 28) 0, none, 0⟩,
 ⟨some 32, .extract (Operand.tmp 28) 1, none, 0⟩,
 ⟨some 5, .assign (Operand.tmp 31), none, 0⟩,
 ⟨some 6, .assign (Operand.tmp 32), none, 0⟩])
 (.seq
 (.ops [⟨some 34, .move (Operand.tmp 5), none, 0⟩,
 ⟨some 35, .move (Operand.tmp 1), none, 0⟩,
 ⟨some 36, .call ⟨(Callee.value (Operand.func 16)), [(Operand.tmp 34), (Operand.tmp 35)].toArray, #[27, 23]⟩, none, 0⟩,
 ⟨some 33, .move (Operand.tmp 36), none, 0⟩,
 ⟨some 37, .extract (Operand.tmp 33) 0, none, 0⟩,
 ⟨some 38, .extract (Operand.tmp 33) 1, none, 0⟩,
 ⟨some 7, .assign (Operand.tmp 37), none, 0⟩,
 ⟨some 8, .assign (Operand.tmp 38), none, 0⟩])
 (.seq
 (.seq
 (.ops [⟨some 39, .move (Operand.tmp 8), none, 0⟩,
 ⟨some 40, .binOp BinOp.neq 28 (Operand.tmp 39) (Operand.const (Value.int IntKind.i64 0)) 28, none, 0⟩])
 (.cond (Operand.tmp 40)
 (.seq
 (.ops [⟨some 41, .call ⟨(Callee.value (Operand.func 9)), [].toArray, #[]⟩, none, 0⟩,
 ⟨some 4, .assign (Operand.tmp 41), none, 0⟩])
 .ret)
 .skip))
 (.seq
 (.ops [⟨some 9, .assign (Operand.const (Value.int IntKind.i64 1)), none, 0⟩])
 (.seq
 (.ops [⟨some 10, .assign (Operand.const (Value.slice none 0 0)), none, 0⟩,
 ⟨some 11, .assign (Operand.const (Value.slice none 0 0)), none, 0⟩])
 (.seq
 (.seq
 (.ops [⟨some 12, .assign (Operand.const (Value.int IntKind.i64 0)), none, 0⟩])
 (.block 0
 (.loop
 (.seq
 (.seq
 (.ops [⟨some 42, .move (Operand.tmp 12), none, 0⟩,
 ⟨some 43, .move (Operand.tmp 7), none, 0⟩,
 ⟨some 44, .call ⟨(Callee.builtin Builtin.len), [(Operand.tmp 43)].toArray, #[23]⟩, none, 0⟩,
 ⟨some 45, .binOp BinOp.lss 3 (Operand.tmp 42) (Operand.tmp 44) 3, none, 0⟩])
 (.cond (Operand.tmp 45)
 .skip
 (.exit 0)))
 (.seq
 (.block 1
 (.seq
 (.ops [⟨some 49, .move (Operand.tmp 5), none, 0⟩,
 ⟨some 50, .move (Operand.tmp 1), none, 0⟩,
 ⟨some 51, .move (Operand.tmp 7), none, 0⟩,
 ⟨some 52, .move (Operand.tmp 12), none, 0⟩,
 ⟨some 53, .indexAddr 23 (Operand.tmp 51) (Operand.tmp 52), none, 0⟩,
 ⟨some 54, .load 9 (Operand.tmp 53), none, 0⟩,
 ⟨some 55, .call ⟨(Callee.value (Operand.func 12)), [(Operand.tmp 49), (Operand.tmp 50), (Operand.tmp 54)].toArray, #[27, 23, 9]⟩, none, 0⟩,
 ⟨some 48, .move (Operand.tmp 55), none, 0⟩,
 ⟨some 56, .extract (Operand.tmp 48) 0, none, 0⟩,
 ⟨some 57, .extract (Operand.tmp 48) 1, none, 0⟩,
 ⟨some 58, .extract (Operand.tmp 48) 2, none, 0⟩,
 ⟨some 13, .assign (Operand.tmp 56), none, 0⟩,
 ⟨some 14, .assign (Operand.tmp 57), none, 0⟩,
 ⟨some 15, .assign (Operand.tmp 58), none, 0⟩])
 (.seq
 (.seq
 (.ops [⟨some 59, .move (Operand.tmp 15), none, 0⟩,
 ⟨some 60, .binOp BinOp.neq 28 (Operand.tmp 59) (Operand.const (Value.int IntKind.i64 0)) 28, none, 0⟩,
 ⟨some 61, .move (Operand.tmp 60), none, 0⟩,
 ⟨some 62, .move (Operand.tmp 14), some (61, false), 0⟩,
 ⟨some 63, .binOp BinOp.lss 3 (Operand.tmp 62) (Operand.const (Value.int IntKind.i64 1)) 3, some (61, false), 0⟩,
 ⟨some 64, .pick (Operand.tmp 61) (Operand.const (Value.bool true)) (Operand.tmp 63), none, 0⟩,
 ⟨some 65, .move (Operand.tmp 64), none, 0⟩,
 ⟨some 66, .move (Operand.tmp 13), some (65, false), 0⟩,
 ⟨some 67, .binOp BinOp.lss 3 (Operand.tmp 66) (Operand.const (Value.int IntKind.i64 0)) 3, some (65, false), 0⟩,
 ⟨some 68, .pick (Operand.tmp 65) (Operand.const (Value.bool true)) (Operand.tmp 67), none, 0⟩,
 ⟨some 69, .move (Operand.tmp 68), none, 0⟩,
 ⟨some 70, .move (Operand.tmp 13), some (69, false), 0⟩,
 ⟨some 71, .move (Operand.tmp 14), some (69, false), 0⟩,
 ⟨some 72, .binOp BinOp.gtr 3 (Operand.tmp 70) (Operand.tmp 71) 3, some (69, false), 0⟩,
 ⟨some 73, .pick (Operand.tmp 69) (Operand.const (Value.bool true)) (Operand.tmp 72), none, 0⟩])
 (.cond (Operand.tmp 73)
 (.seq
 (.ops [⟨some 4, .assign (Operand.const (Value.bool false)), none, 0⟩])
 .ret)
 .skip))
 (.seq
 (.ops [⟨some 74, .move (Operand.tmp 10), none, 0⟩,
 ⟨some 75, .move (Operand.tmp 13), none, 0⟩,
 ⟨some 76, .buildSlice 40 1 [(0, (Operand.tmp 75))].toArray, none, 0⟩,
 ⟨some 77, .call ⟨(Callee.builtin Builtin.append), [(Operand.tmp 74), (Operand.tmp 76)].toArray, #[40, 40]⟩, none, 0⟩,
 ⟨some 78, .move (Operand.tmp 11), none, 0⟩,
 ⟨some 79, .move (Operand.tmp 14), none, 0⟩,
 ⟨some 80, .buildSlice 40 1 [(0, (Operand.tmp 79))].toArray, none, 0⟩,
 ⟨some 81, .call ⟨(Callee.builtin Builtin.append), [(Operand.tmp 78), (Operand.tmp 80)].toArray, #[40, 40]⟩, none, 0⟩,
 ⟨some 10, .assign (Operand.tmp 77), none, 0⟩,
 ⟨some 11, .assign (Operand.tmp 81), none, 0⟩])
 (.seq
 (.ops [⟨some 82, .move (Operand.tmp 9), none, 0⟩,
 ⟨some 83, .move (Operand.tmp 14), none, 0⟩,
 ⟨some 16, .assign (Operand.tmp 82), none, 0⟩,
 ⟨some 17, .assign (Operand.tmp 83), none, 0⟩])
 (.seq
 (.block 2
 (.loop
 (.seq
 (.seq
 (.ops [⟨some 84, .move (Operand.tmp 17), none, 0⟩,
 ⟨some 85, .binOp BinOp.neq 3 (Operand.tmp 84) (Operand.const (Value.int IntKind.i64 0)) 3, none, 0⟩])
 (.cond (Operand.tmp 85)
 .skip
 (.exit 2)))
 (.block 3
 (.draw [⟨some 86, .move (Operand.tmp 17), none, 0⟩,
 ⟨some 87, .move (Operand.tmp 16), none, 0⟩,
 ⟨some 88, .move (Operand.tmp 17), none, 0⟩,
 ⟨some 89, .binOp BinOp.rem 3 (Operand.tmp 87) (Operand.tmp 88) 3, none, 0⟩,
 ⟨some 16, .assign (Operand.tmp 86), none, 0⟩,
 ⟨some 17, .assign (Operand.tmp 89), none, 0⟩] true [5] [0, 1, 2, 3, 4, 5])))))
 (.seq
 (.seq
 (.draw [⟨some 90, .move (Operand.tmp 9), none, 0⟩,
 ⟨some 91, .move (Operand.tmp 16), none, 0⟩,
 ⟨some 92, .binOp BinOp.quo 3 (Operand.tmp 90) (Operand.tmp 91) 3, none, 0⟩,
 ⟨some 93, .move (Operand.tmp 14), none, 0⟩,
 ⟨some 94, .binOp BinOp.quo 3 (Operand.const (Value.int IntKind.i64 4611686018427387904)) (Operand.tmp 93) 3, none, 0⟩,
 ⟨some 95, .binOp BinOp.gtr 3 (Operand.tmp 92) (Operand.tmp 94) 3, none, 0⟩] true [5] [0, 1, 2, 3, 4, 5])
 (.cond (Operand.tmp 95)
 (.seq
 (.ops [⟨some 96, .call ⟨(Callee.value (Operand.func 9)), [].toArray, #[]⟩, none, 0⟩,
 ⟨some 4, .assign (Operand.tmp 96), none, 0⟩])
 .ret)
 .skip))
 (.ops [⟨some 97, .move (Operand.tmp 9), none, 0⟩,
 ⟨some 98, .move (Operand.tmp 16), none, 0⟩,
 ⟨some 99, .binOp BinOp.quo 3 (Operand.tmp 97) (Operand.tmp 98) 3, none, 0⟩,
 ⟨some 100, .move (Operand.tmp 14), none, 0⟩,
 ⟨some 101, .binOp BinOp.mul 3 (Operand.tmp 99) (Operand.tmp 100) 3, none, 0⟩,
 ⟨some 9, .assign (Operand.tmp 101), none, 0⟩]))))))))
 (.ops [⟨some 46, .move (Operand.tmp 12), none, 0⟩,
 ⟨some 47, .binOp BinOp.add 3 (Operand.tmp 46) (Operand.const (Value.int IntKind.i64 1)) 3, none, 0⟩,
 ⟨some 12, .assign (Operand.tmp 47), none, 0⟩]))))))
 (.seq
 (.ops [⟨some 18, .assign (Operand.const (Value.int IntKind.i64 0)), none, 0⟩])
 (.seq
 (.seq
 (.ops [⟨some 19, .assign (Operand.const (Value.int IntKind.i64 0)), none, 0⟩])
 (.block 4
 (.loop
 (.seq
 (.seq
 (.ops [⟨some 102, .move (Operand.tmp 19), none, 0⟩,
 ⟨some 103, .move (Operand.tmp 7), none, 0⟩,
 ⟨some 104, .call ⟨(Callee.builtin Builtin.len), [(Operand.tmp 103)].toArray, #[23]⟩, none, 0⟩,
 ⟨some 105, .binOp BinOp.lss 3 (Operand.tmp 102) (Operand.tmp 104) 3, none, 0⟩])
 (.cond (Operand.tmp 105)
 .skip
 (.exit 4)))
 (.seq
 (.block 5
 (.seq
 (.draw [⟨some 108, .move (Operand.tmp 18), none, 0⟩,
 ⟨some 109, .move (Operand.tmp 10), none, 0⟩,
 ⟨some 110, .move (Operand.tmp 19), none, 0⟩,
 ⟨some 111, .indexAddr 40 (Operand.tmp 109) (Operand.tmp 110), none, 0⟩,
 ⟨some 112, .load 3 (Operand.tmp 111), none, 0⟩,
 ⟨some 113, .move (Operand.tmp 9), none, 0⟩,
 ⟨some 114, .move (Operand.tmp 11), none, 0⟩,
 ⟨some 115, .move (Operand.tmp 19), none, 0⟩,
 ⟨some 116, .indexAddr 40 (Operand.tmp 114) (Operand.tmp 115), none, 0⟩,
 ⟨some 117, .load 3 (Operand.tmp 116), none, 0⟩,
 ⟨some 118, .binOp BinOp.quo 3 (Operand.tmp 113) (Operand.tmp 117) 3, none, 0⟩,
 ⟨some 119, .binOp BinOp.mul 3 (Operand.tmp 112) (Operand.tmp 118) 3, none, 0⟩,
 ⟨some 120, .binOp BinOp.add 3 (Operand.tmp 108) (Operand.tmp 119) 3, none, 0⟩,
 ⟨some 18, .assign (Operand.tmp 120), none, 0⟩] true [12, 13] [0, 1, 2, 3, 5, 6, 7, 8, 4, 9, 10, 11, 12, 13])
 (.seq
 (.draw [⟨some 121, .move (Operand.tmp 19), none, 0⟩,
 ⟨some 122, .binOp BinOp.gtr 3 (Operand.tmp 121) (Operand.const (Value.int IntKind.i64 0)) 3, none, 0⟩,
 ⟨some 123, .move (Operand.tmp 122), none, 0⟩,
 ⟨some 124, .move (Operand.tmp 10), some (123, true), 0⟩,
 ⟨some 125, .move (Operand.tmp 19), some (123, true), 0⟩,
 ⟨some 126, .binOp BinOp.sub 3 (Operand.tmp 125) (Operand.const (Value.int IntKind.i64 1)) 3, some (123, true), 0⟩,
 ⟨some 127, .indexAddr 40 (Operand.tmp 124) (Operand.tmp 126), some (123, true), 0⟩,
 ⟨some 128, .load 3 (Operand.tmp 127), some (123, true), 0⟩,
 ⟨some 129, .move (Operand.tmp 9), some (123, true), 0⟩,
 ⟨some 130, .move (Operand.tmp 11), some (123, true), 0⟩,
 ⟨some 131, .move (Operand.tmp 19), some (123, true), 0⟩,
 ⟨some 132, .binOp BinOp.sub 3 (Operand.tmp 131) (Operand.const (Value.int IntKind.i64 1)) 3, some (123, true), 0⟩,
 ⟨some 133, .indexAddr 40 (Operand.tmp 130) (Operand.tmp 132), some (123, true), 0⟩,
 ⟨some 134, .load 3 (Operand.tmp 133), some (123, true), 0⟩,
 ⟨some 135, .binOp BinOp.quo 3 (Operand.tmp 129) (Operand.tmp 134) 3, some (123, true), 0⟩,
 ⟨some 136, .binOp BinOp.mul 3 (Operand.tmp 128) (Operand.tmp 135) 3, some (123, true), 0⟩,
 ⟨some 137, .move (Operand.tmp 10), some (123, true), 0⟩,
 ⟨some 138, .move (Operand.tmp 19), some (123, true), 0⟩,
 ⟨some 139, .indexAddr 40 (Operand.tmp 137) (Operand.tmp 138), some (123, true), 0⟩,
 ⟨some 140, .load 3 (Operand.tmp 139), some (123, true), 0⟩,
 ⟨some 141, .move (Operand.tmp 9), some (123, true), 0⟩,
 ⟨some 142, .move (Operand.tmp 11), some (123, true), 0⟩,
 ⟨some 143, .move (Operand.tmp 19), some (123, true), 0⟩,
 ⟨some 144, .indexAddr 40 (Operand.tmp 142) (Operand.tmp 143), some (123, true), 0⟩,
 ⟨some 145, .load 3 (Operand.tmp 144), some (123, true), 0⟩,
 ⟨some 146, .binOp BinOp.quo 3 (Operand.tmp 141) (Operand.tmp 145) 3, some (123, true), 0⟩,
 ⟨some 147, .binOp BinOp.mul 3 (Operand.tmp 140) (Operand.tmp 146) 3, some (123, true), 0⟩,
 ⟨some 148, .binOp BinOp.lss 3 (Operand.tmp 136) (Operand.tmp 147) 3, some (123, true), 0⟩,
 ⟨some 149, .pick (Operand.tmp 123) (Operand.tmp 148) (Operand.const (Value.bool false)), none, 0⟩] true [27, 28] [0, 1, 2, 3, 4, 5, 6, 8, 9, 10, 11, 12, 16, 17, 18, 20, 21, 22, 23, 7, 13, 14, 15, 19, 24, 25, 26, 27, 28])
 (.cond (Operand.tmp 149)
 (.seq
 (.ops [⟨some 4, .assign (Operand.const (Value.bool false)), none, 0⟩])
 .ret)
 .skip))))
 (.ops [⟨some 106, .move (Operand.tmp 19), none, 0⟩,
 ⟨some 107, .binOp BinOp.add 3 (Operand.tmp 106) (Operand.const (Value.int IntKind.i64 1)) 3, none, 0⟩,
 ⟨some 19, .assign (Operand.tmp 107), none, 0⟩]))))))
 (.seq
 (.ops [⟨some 150, .move (Operand.tmp 18), none, 0⟩,
 ⟨some 151, .move (Operand.tmp 9), none, 0⟩,
 ⟨some 152, .binOp BinOp.eql 3 (Operand.tmp 150) (Operand.tmp 151) 3, none, 0⟩,
 ⟨some 153, .move (Operand.tmp 152), none, 0⟩,
 ⟨some 154, .move (Operand.tmp 7), some (153, true), 0⟩,
 ⟨some 155, .call ⟨(Callee.builtin Builtin.len), [(Operand.tmp 154)].toArray, #[23]⟩, some (153, true), 0⟩,
 ⟨some 156, .move (Operand.tmp 5), some (153, true), 0⟩,
 ⟨some 157, .call ⟨(Callee.value (Operand.func 17)), [(Operand.tmp 156)].toArray, #[27]⟩, some (153, true), 0⟩,
 ⟨some 158, .call ⟨(Callee.builtin Builtin.len), [(Operand.tmp 157)].toArray, #[23]⟩, some (153, true), 0⟩,
 ⟨some 159, .binOp BinOp.eql 3 (Operand.tmp 155) (Operand.tmp 158) 3, some (153, true), 0⟩,
 ⟨some 160, .pick (Operand.tmp 153) (Operand.tmp 159) (Operand.const (Value.bool false)), none, 0⟩,
 ⟨some 161, .move (Operand.tmp 160), none, 0⟩,
 ⟨some 162, .call ⟨(Callee.value (Operand.func 9)), [].toArray, #[]⟩, some (161, true), 0⟩,
 ⟨some 163, .pick (Operand.tmp 161) (Operand.tmp 162) (Operand.const (Value.bool false)), none, 0⟩,
 ⟨some 4, .assign (Operand.tmp 163), none, 0⟩])
 .ret)))))))))))
abbrev R4 : List ResultVar := [ResultVar.tmp 4]
theorem ok4 : FnOK Try.prog 4 L4 R4 2 := ⟨_, _, Try.func4, rfl, by kernel_rfl, by kernel_rfl, by kernel_rfl, by kernel_rfl, Nat.le_of_ble_eq_true (by kernel_rfl), by kernel_rfl⟩

/-- ablaut/ablautlaw18.over -/
def L7 : LCode :=
 (.seq
 (.ops [⟨some 2, .assign (Operand.const (Value.bool false)), none, 0⟩])
 (.seq
 (.seq
 (.ops [⟨some 5, .move (Operand.tmp 0), none, 0⟩,
 ⟨some 6, .call ⟨(Callee.builtin Builtin.len), [(Operand.tmp 5)].toArray, #[22]⟩, none, 0⟩,
 ⟨some 7, .binOp BinOp.gtr 3 (Operand.tmp 6) (Operand.const (Value.int IntKind.i64 4000)) 3, none, 0⟩])
 (.cond (Operand.tmp 7)
 (.seq
 (.ops [⟨some 2, .assign (Operand.const (Value.bool true)), none, 0⟩])
 .ret)
 .skip))
 (.seq
 (.ops [⟨some 3, .assign (Operand.const (Value.int IntKind.i64 0)), none, 0⟩])
 (.seq
 (.seq
 (.ops [⟨some 4, .assign (Operand.const (Value.int IntKind.i64 0)), none, 0⟩])
 (.block 0
 (.loop
 (.seq
 (.seq
 (.ops [⟨some 8, .move (Operand.tmp 4), none, 0⟩,
 ⟨some 9, .move (Operand.tmp 0), none, 0⟩,
 ⟨some 10, .call ⟨(Callee.builtin Builtin.len), [(Operand.tmp 9)].toArray, #[22]⟩, none, 0⟩,
 ⟨some 11, .binOp BinOp.lss 3 (Operand.tmp 8) (Operand.tmp 10) 3, none, 0⟩,
 ⟨some 12, .move (Operand.tmp 11), none, 0⟩,
 ⟨some 13, .move (Operand.tmp 3), some (12, true), 0⟩,
 ⟨some 14, .binOp BinOp.lss 3 (Operand.tmp 13) (Operand.const (Value.int IntKind.i64 16384)) 3, some (12, true), 0⟩,
 ⟨some 15, .pick (Operand.tmp 12) (Operand.tmp 14) (Operand.const (Value.bool false)), none, 0⟩])
 (.cond (Operand.tmp 15)
 .skip
 (.exit 0)))
 (.seq
 (.block 1
 (.seq
 (.seq
 (.ops [⟨some 18, .move (Operand.tmp 0), none, 0⟩,
 ⟨some 19, .move (Operand.tmp 4), none, 0⟩,
 ⟨some 20, .indexAddr 22 (Operand.tmp 18) (Operand.tmp 19), none, 0⟩,
 ⟨some 21, .fieldAddr 51 (Operand.tmp 20) 0, none, 0⟩,
 ⟨some 22, .load 23 (Operand.tmp 21), none, 0⟩,
 ⟨some 23, .buildSlice 46 1 [(0, (Operand.tmp 22))].toArray, none, 0⟩,
 ⟨some 24, .call ⟨(Callee.value (Operand.func 8)), [(Operand.tmp 23)].toArray, #[46]⟩, none, 0⟩])
 (.cond (Operand.tmp 24)
 (.seq
 (.ops [⟨some 2, .assign (Operand.const (Value.bool true)), none, 0⟩])
 .ret)
 .skip))
 (.draw [⟨some 25, .move (Operand.tmp 3), none, 0⟩,
 ⟨some 26, .move (Operand.tmp 0), none, 0⟩,
 ⟨some 27, .move (Operand.tmp 4), none, 0⟩,
 ⟨some 28, .indexAddr 22 (Operand.tmp 26) (Operand.tmp 27), none, 0⟩,
 ⟨some 29, .fieldAddr 51 (Operand.tmp 28) 0, none, 0⟩,
 ⟨some 30, .load 23 (Operand.tmp 29), none, 0⟩,
 ⟨some 31, .call ⟨(Callee.builtin Builtin.len), [(Operand.tmp 30)].toArray, #[23]⟩, none, 0⟩,
 ⟨some 32, .move (Operand.tmp 0), none, 0⟩,
 ⟨some 33, .move (Operand.tmp 4), none, 0⟩,
 ⟨some 34, .indexAddr 22 (Operand.tmp 32) (Operand.tmp 33), none, 0⟩,
 ⟨some 35, .fieldAddr 51 (Operand.tmp 34) 1, none, 0⟩,
 ⟨some 36, .load 9 (Operand.tmp 35), none, 0⟩,
 ⟨some 37, .call ⟨(Callee.builtin Builtin.len), [(Operand.tmp 36)].toArray, #[9]⟩, none, 0⟩,
 ⟨some 38, .binOp BinOp.add 3 (Operand.tmp 31) (Operand.tmp 37) 3, none, 0⟩,
 ⟨some 39, .binOp BinOp.add 3 (Operand.tmp 25) (Operand.tmp 38) 3, none, 0⟩,
 ⟨some 3, .assign (Operand.tmp 39), none, 0⟩] true [14, 15] [0, 1, 2, 3, 4, 7, 8, 9, 10, 5, 6, 11, 12, 13, 14, 15])))
 (.ops [⟨some 16, .move (Operand.tmp 4), none, 0⟩,
 ⟨some 17, .binOp BinOp.add 3 (Operand.tmp 16) (Operand.const (Value.int IntKind.i64 1)) 3, none, 0⟩,
 ⟨some 4, .assign (Operand.tmp 17), none, 0⟩]))))))
 (.seq
 (.ops [⟨some 40, .move (Operand.tmp 3), none, 0⟩,
 ⟨some 41, .binOp BinOp.geq 3 (Operand.tmp 40) (Operand.const (Value.int IntKind.i64 16384)) 3, none, 0⟩,
 ⟨some 2, .assign (Operand.tmp 41), none, 0⟩])
 .ret)))))
abbrev R7 : List ResultVar := [ResultVar.tmp 2]
theorem ok7 : FnOK Try.prog 7 L7 R7 1 := ⟨_, _, Try.func7, rfl, by kernel_rfl, by kernel_rfl, by kernel_rfl, by kernel_rfl, Nat.le_of_ble_eq_true (by kernel_rfl), by kernel_rfl⟩

/-- ablaut/ablautref02.IsLong -/
def L8 : LCode :=
 (.seq
 (.ops [⟨some 2, .assign (Operand.const (Value.bool false)), none, 0⟩])
 (.seq
 (.ops [⟨some 3, .assign (Operand.const (Value.int IntKind.i64 0)), none, 0⟩])
 (.seq
 (.seq
 (.ops [⟨some 4, .assign (Operand.const (Value.int IntKind.i64 0)), none, 0⟩])
 (.block 0
 (.loop
 (.seq
 (.seq
 (.ops [⟨some 6, .move (Operand.tmp 4), none, 0⟩,
 ⟨some 7, .move (Operand.tmp 0), none, 0⟩,
 ⟨some 8, .call ⟨(Callee.builtin Builtin.len), [(Operand.tmp 7)].toArray, #[46]⟩, none, 0⟩,
 ⟨some 9, .binOp BinOp.lss 3 (Operand.tmp 6) (Operand.tmp 8) 3, none, 0⟩,
 ⟨some 10, .move (Operand.tmp 9), none, 0⟩,
 ⟨some 11, .move (Operand.tmp 3), some (10, true), 0⟩,
 ⟨some 12, .binOp BinOp.leq 3 (Operand.tmp 11) (Operand.const (Value.int IntKind.i64 16384)) 3, some (10, true), 0⟩,
 ⟨some 13, .pick (Operand.tmp 10) (Operand.tmp 12) (Operand.const (Value.bool false)), none, 0⟩])
 (.cond (Operand.tmp 13)
 .skip
 (.exit 0)))
 (.seq
 (.block 1
 (.seq
 (.ops [⟨some 5, .assign (Operand.const (Value.int IntKind.i64 0)), none, 0⟩])
 (.block 2
 (.loop
 (.seq
 (.seq
 (.ops [⟨some 16, .move (Operand.tmp 5), none, 0⟩,
 ⟨some 17, .move (Operand.tmp 0), none, 0⟩,
 ⟨some 18, .move (Operand.tmp 4), none, 0⟩,
 ⟨some 19, .indexAddr 46 (Operand.tmp 17) (Operand.tmp 18), none, 0⟩,
 ⟨some 20, .load 23 (Operand.tmp 19), none, 0⟩,
 ⟨some 21, .call ⟨(Callee.builtin Builtin.len), [(Operand.tmp 20)].toArray, #[23]⟩, none, 0⟩,
 ⟨some 22, .binOp BinOp.lss 3 (Operand.tmp 16) (Operand.tmp 21) 3, none, 0⟩,
 ⟨some 23, .move (Operand.tmp 22), none, 0⟩,
 ⟨some 24, .move (Operand.tmp 3), some (23, true), 0⟩,
 ⟨some 25, .binOp BinOp.leq 3 (Operand.tmp 24) (Operand.const (Value.int IntKind.i64 16384)) 3, some (23, true), 0⟩,
 ⟨some 26, .pick (Operand.tmp 23) (Operand.tmp 25) (Operand.const (Value.bool false)), none, 0⟩])
 (.cond (Operand.tmp 26)
 .skip
 (.exit 2)))
 (.seq
 (.block 3
 (.ops [⟨some 29, .move (Operand.tmp 3), none, 0⟩,
 ⟨some 30, .move (Operand.tmp 0), none, 0⟩,
 ⟨some 31, .move (Operand.tmp 4), none, 0⟩,
 ⟨some 32, .indexAddr 46 (Operand.tmp 30) (Operand.tmp 31), none, 0⟩,
 ⟨some 33, .load 23 (Operand.tmp 32), none, 0⟩,
 ⟨some 34, .move (Operand.tmp 5), none, 0⟩,
 ⟨some 35, .indexAddr 23 (Operand.tmp 33) (Operand.tmp 34), none, 0⟩,
 ⟨some 36, .load 9 (Operand.tmp 35), none, 0⟩,
 ⟨some 37, .call ⟨(Callee.builtin Builtin.len), [(Operand.tmp 36)].toArray, #[9]⟩, none, 0⟩,
 ⟨some 38, .binOp BinOp.add 3 (Operand.const (Value.int IntKind.i64 1)) (Operand.tmp 37) 3, none, 0⟩,
 ⟨some 39, .binOp BinOp.add 3 (Operand.tmp 29) (Operand.tmp 38) 3, none, 0⟩,
 ⟨some 3, .assign (Operand.tmp 39), none, 0⟩]))
 (.ops [⟨some 27, .move (Operand.tmp 5), none, 0⟩,
 ⟨some 28, .binOp BinOp.add 3 (Operand.tmp 27) (Operand.const (Value.int IntKind.i64 1)) 3, none, 0⟩,
 ⟨some 5, .assign (Operand.tmp 28), none, 0⟩])))))))
 (.ops [⟨some 14, .move (Operand.tmp 4), none, 0⟩,
 ⟨some 15, .binOp BinOp.add 3 (Operand.tmp 14) (Operand.const (Value.int IntKind.i64 1)) 3, none, 0⟩,
 ⟨some 4, .assign (Operand.tmp 15), none, 0⟩]))))))
 (.seq
 (.ops [⟨some 40, .move (Operand.tmp 3), none, 0⟩,
 ⟨some 41, .binOp BinOp.gtr 3 (Operand.tmp 40) (Operand.const (Value.int IntKind.i64 16384)) 3, none, 0⟩,
 ⟨some 2, .assign (Operand.tmp 41), none, 0⟩])
 .ret))))
abbrev R8 : List ResultVar := [ResultVar.tmp 2]
theorem ok8 : FnOK Try.prog 8 L8 R8 1 := ⟨_, _, Try.func8, rfl, by kernel_rfl, by kernel_rfl, by kernel_rfl, by kernel_rfl, Nat.le_of_ble_eq_true (by kernel_rfl), by kernel_rfl⟩

/-- ablaut/ablautlaw18.known -/
def L9 : LCode :=
 (.seq
 (.ops [⟨some 0, .assign (Operand.const (Value.bool false)), none, 0⟩])
 (.seq
 (.ops [⟨some 7, .buildSlice 23 1 [(0, (Operand.const (Value.string ⟨#[97]⟩)))].toArray, none, 0⟩,
 ⟨some 8, .build 51 [(0, (Operand.tmp 7)), (1, (Operand.const (Value.string ⟨#[78]⟩))), (2, (Operand.const (Value.int IntKind.i64 1)))].toArray, none, 0⟩,
 ⟨some 9, .buildSlice 23 1 [(0, (Operand.const (Value.string ⟨#[98]⟩)))].toArray, none, 0⟩,
 ⟨some 10, .build 51 [(0, (Operand.tmp 9)), (1, (Operand.const (Value.string ⟨#[86]⟩))), (2, (Operand.const (Value.int IntKind.i64 1)))].toArray, none, 0⟩,
 ⟨some 11, .buildSlice 22 2 [(0, (Operand.tmp 8)), (1, (Operand.tmp 10))].toArray, none, 0⟩,
 ⟨some 12, .call ⟨(Callee.value (Operand.func 10)), [(Operand.tmp 11)].toArray, #[22]⟩, none, 0⟩,
 ⟨some 6, .move (Operand.tmp 12), none, 0⟩,
 ⟨some 13, .extract (Operand.tmp 6) 0, none, 0⟩,
 ⟨some 14, .extract (Operand.tmp 6) 1, none, 0⟩,
 ⟨some 1, .assign (Operand.tmp 13), none, 0⟩,
 ⟨some 2, .assign (Operand.tmp 14), none, 0⟩])
 (.seq
 (.ops [⟨some 16, .move (Operand.tmp 1), none, 0⟩,
 ⟨some 17, .buildSlice 23 1 [(0, (Operand.const (Value.string ⟨#[97]⟩)))].toArray, none, 0⟩,
 ⟨some 18, .call ⟨(Callee.value (Operand.func 12)), [(Operand.tmp 16), (Operand.tmp 17), (Operand.const (Value.string ⟨#[78]⟩))].toArray, #[27, 23, 9]⟩, none, 0⟩,
 ⟨some 15, .move (Operand.tmp 18), none, 0⟩,
 ⟨some 19, .extract (Operand.tmp 15) 0, none, 0⟩,
 ⟨some 20, .extract (Operand.tmp 15) 1, none, 0⟩,
 ⟨some 21, .extract (Operand.tmp 15) 2, none, 0⟩,
 ⟨some 3, .assign (Operand.tmp 19), none, 0⟩,
 ⟨some 4, .assign (Operand.tmp 20), none, 0⟩,
 ⟨some 5, .assign (Operand.tmp 21), none, 0⟩])
 (.seq
 (.ops [⟨some 22, .move (Operand.tmp 2), none, 0⟩,
 ⟨some 23, .binOp BinOp.eql 28 (Operand.tmp 22) (Operand.const (Value.int IntKind.i64 0)) 28, none, 0⟩,
 ⟨some 24, .move (Operand.tmp 23), none, 0⟩,
 ⟨some 25, .move (Operand.tmp 3), some (24, true), 0⟩,
 ⟨some 26, .binOp BinOp.eql 3 (Operand.tmp 25) (Operand.const (Value.int IntKind.i64 3)) 3, some (24, true), 0⟩,
 ⟨some 27, .pick (Operand.tmp 24) (Operand.tmp 26) (Operand.const (Value.bool false)), none, 0⟩,
 ⟨some 28, .move (Operand.tmp 27), none, 0⟩,
 ⟨some 29, .move (Operand.tmp 4), some (28, true), 0⟩,
 ⟨some 30, .binOp BinOp.eql 3 (Operand.tmp 29) (Operand.const (Value.int IntKind.i64 4)) 3, some (28, true), 0⟩,
 ⟨some 31, .pick (Operand.tmp 28) (Operand.tmp 30) (Operand.const (Value.bool false)), none, 0⟩,
 ⟨some 32, .move (Operand.tmp 31), none, 0⟩,
 ⟨some 33, .move (Operand.tmp 5), some (32, true), 0⟩,
 ⟨some 34, .binOp BinOp.eql 28 (Operand.tmp 33) (Operand.const (Value.int IntKind.i64 0)) 28, some (32, true), 0⟩,
 ⟨some 35, .pick (Operand.tmp 32) (Operand.tmp 34) (Operand.const (Value.bool false)), none, 0⟩,
 ⟨some 0, .assign (Operand.tmp 35), none, 0⟩])
 .ret))))
abbrev R9 : List ResultVar := [ResultVar.tmp 0]
theorem ok9 : FnOK Try.prog 9 L9 R9 0 := ⟨_, _, Try.func9, rfl, by kernel_rfl, by kernel_rfl, by kernel_rfl, by kernel_rfl, Nat.le_of_ble_eq_true (by kernel_rfl), by kernel_rfl⟩

/-- ablaut/guess.New -/
def L10 : LCode :=
 (.seq
 (.ops [⟨some 2, .assign (Operand.const (Value.pointer none)), none, 0⟩,
 ⟨some 3, .assign (Operand.const (Value.int IntKind.i64 0)), none, 0⟩])
 (.seq
 (.seq
 (.ops [⟨some 8, .move (Operand.tmp 0), none, 0⟩,
 ⟨some 9, .call ⟨(Callee.builtin Builtin.len), [(Operand.tmp 8)].toArray, #[22]⟩, none, 0⟩,
 ⟨some 10, .binOp BinOp.gtr 3 (Operand.tmp 9) (Operand.const (Value.int IntKind.i64 200)) 3, none, 0⟩])
 (.cond (Operand.tmp 10)
 (.seq
 (.ops [⟨some 2, .assign (Operand.const (Value.pointer none)), none, 0⟩,
 ⟨some 3, .assign (Operand.const (Value.int IntKind.i64 3)), none, 0⟩])
 .ret)
 .skip))
 (.seq
 (.seq
 (.ops [⟨some 11, .move (Operand.tmp 0), none, 0⟩,
 ⟨some 12, .call ⟨(Callee.value (Operand.func 24)), [(Operand.tmp 11)].toArray, #[22]⟩, none, 0⟩,
 ⟨some 4, .assign (Operand.tmp 12), none, 0⟩])
 (.seq
 (.ops [⟨some 13, .move (Operand.tmp 4), none, 0⟩,
 ⟨some 14, .binOp BinOp.neq 28 (Operand.tmp 13) (Operand.const (Value.int IntKind.i64 0)) 28, none, 0⟩])
 (.cond (Operand.tmp 14)
 (.seq
 (.ops [⟨some 15, .move (Operand.tmp 4), none, 0⟩,
 ⟨some 2, .assign (Operand.const (Value.pointer none)), none, 0⟩,
 ⟨some 3, .assign (Operand.tmp 15), none, 0⟩])
 .ret)
 .skip)))
 (.seq
 (.ops [⟨some 16, .makeMap 53 none, none, 0⟩,
 ⟨some 17, .makeMap 54 none, none, 0⟩,
 ⟨some 18, .build 56 [(0, (Operand.tmp 16)), (1, (Operand.tmp 17))].toArray, none, 0⟩,
 ⟨some 19, .box 56 (Operand.tmp 18), none, 0⟩,
 ⟨some 5, .assign (Operand.tmp 19), none, 0⟩])
 (.seq
 (.seq
 (.ops [⟨some 20, .move (Operand.tmp 0), none, 0⟩,
 ⟨some 21, .call ⟨(Callee.builtin Builtin.len), [(Operand.tmp 20)].toArray, #[22]⟩, none, 0⟩,
 ⟨some 22, .move (Operand.const (Value.int IntKind.i64 0)), none, 0⟩])
 (.block 0
 (.loop
 (.seq
 (.ops [⟨some 23, .binOp BinOp.lss 3 (Operand.tmp 22) (Operand.tmp 21) 3, none, 0⟩])
 (.seq
 (.cond (Operand.tmp 23)
 .skip
 (.exit 0))
 (.seq
 (.block 1
 (.seq
 (.ops [⟨some 24, .indexAddr 22 (Operand.tmp 20) (Operand.tmp 22), none, 0⟩,
 ⟨some 25, .load 51 (Operand.tmp 24), none, 0⟩,
 ⟨some 7, .alloc 51, none, 0⟩,
 ⟨none, .store 51 (Operand.tmp 7) (Operand.tmp 25), none, 0⟩])
 (.ops [⟨some 26, .move (Operand.tmp 5), none, 0⟩,
 ⟨some 27, .load 51 (Operand.tmp 7), none, 0⟩,
 ⟨some 28, .fieldAddr 51 (Operand.tmp 7) 2, none, 0⟩,
 ⟨some 29, .load 3 (Operand.tmp 28), none, 0⟩,
 ⟨some 30, .call ⟨(Callee.value (Operand.func 25)), [(Operand.tmp 26), (Operand.tmp 27), (Operand.tmp 29)].toArray, #[27, 51, 3]⟩, none, 0⟩])))
 (.ops [⟨some 31, .binOp BinOp.add 3 (Operand.tmp 22) (Operand.const (Value.int IntKind.i64 1)) 3, none, 0⟩,
 ⟨some 22, .move (Operand.tmp 31), none, 0⟩])))))))
 (.seq
 (.ops [⟨some 32, .move (Operand.tmp 5), none, 0⟩,
 ⟨some 2, .assign (Operand.tmp 32), none, 0⟩,
 ⟨some 3, .assign (Operand.const (Value.int IntKind.i64 0)), none, 0⟩])
 .ret))))))
abbrev R10 : List ResultVar := [ResultVar.tmp 2, ResultVar.tmp 3]
theorem ok10 : FnOK Try.prog 10 L10 R10 1 := ⟨_, _, Try.func10, rfl, by kernel_rfl, by kernel_rfl, by kernel_rfl, by kernel_rfl, Nat.le_of_ble_eq_true (by kernel_rfl), by kernel_rfl⟩

/-- (*ablaut/guess.Guesser).Chance -/
def L12 : LCode :=
 (.seq
 (.ops [⟨some 6, .assign (Operand.const (Value.int IntKind.i64 0)), none, 0⟩,
 ⟨some 7, .assign (Operand.const (Value.int IntKind.i64 0)), none, 0⟩,
 ⟨some 8, .assign (Operand.const (Value.int IntKind.i64 0)), none, 0⟩])
 (.seq
 (.seq
 (.ops [⟨some 11, .move (Operand.tmp 1), none, 0⟩,
 ⟨some 12, .call ⟨(Callee.value (Operand.func 28)), [(Operand.tmp 11)].toArray, #[23]⟩, none, 0⟩,
 ⟨some 9, .assign (Operand.tmp 12), none, 0⟩])
 (.seq
 (.ops [⟨some 13, .move (Operand.tmp 9), none, 0⟩,
 ⟨some 14, .binOp BinOp.neq 28 (Operand.tmp 13) (Operand.const (Value.int IntKind.i64 0)) 28, none, 0⟩])
 (.cond (Operand.tmp 14)
 (.seq
 (.ops [⟨some 15, .move (Operand.tmp 9), none, 0⟩,
 ⟨some 6, .assign (Operand.const (Value.int IntKind.i64 0)), none, 0⟩,
 ⟨some 7, .assign (Operand.const (Value.int IntKind.i64 0)), none, 0⟩,
 ⟨some 8, .assign (Operand.tmp 15), none, 0⟩])
 .ret)
 .skip)))
 (.seq
 (.seq
 (.ops [⟨some 16, .move (Operand.tmp 0), none, 0⟩,
 ⟨some 17, .call ⟨(Callee.value (Operand.func 29)), [(Operand.tmp 16)].toArray, #[27]⟩, none, 0⟩])
 (.cond (Operand.tmp 17)
 (.seq
 (.ops [⟨some 6, .assign (Operand.const (Value.int IntKind.i64 0)), none, 0⟩,
 ⟨some 7, .assign (Operand.const (Value.int IntKind.i64 0)), none, 0⟩,
 ⟨some 8, .assign (Operand.const (Value.int IntKind.i64 4)), none, 0⟩])
 .ret)
 .skip))
 (.seq
 (.seq
 (.ops [⟨some 18, .move (Operand.tmp 2), none, 0⟩,
 ⟨some 19, .binOp BinOp.eql 9 (Operand.tmp 18) (Operand.const (Value.string ⟨#[]⟩)) 9, none, 0⟩,
 ⟨some 20, .move (Operand.tmp 19), none, 0⟩,
 ⟨some 21, .move (Operand.tmp 0), some (20, false), 0⟩,
 ⟨some 22, .nilCheck (Operand.tmp 21), some (20, false), 0⟩,
 ⟨some 23, .fieldAddr 56 (Operand.tmp 22) 1, some (20, false), 0⟩,
 ⟨some 24, .load 54 (Operand.tmp 23), some (20, false), 0⟩,
 ⟨some 25, .lookup 54 (Operand.tmp 24) (Operand.const (Value.string ⟨#[]⟩)) false, some (20, false), 0⟩,
 ⟨some 26, .move (Operand.tmp 2), some (20, false), 0⟩,
 ⟨some 27, .lookup 63 (Operand.tmp 25) (Operand.tmp 26) false, some (20, false), 0⟩,
 ⟨some 28, .binOp BinOp.eql 3 (Operand.tmp 27) (Operand.const (Value.int IntKind.i64 0)) 3, some (20, false), 0⟩,
 ⟨some 29, .pick (Operand.tmp 20) (Operand.const (Value.bool true)) (Operand.tmp 28), none, 0⟩])
 (.cond (Operand.tmp 29)
 (.seq
 (.ops [⟨some 6, .assign (Operand.const (Value.int IntKind.i64 0)), none, 0⟩,
 ⟨some 7, .assign (Operand.const (Value.int IntKind.i64 1)), none, 0⟩,
 ⟨some 8, .assign (Operand.const (Value.int IntKind.i64 0)), none, 0⟩])
 .ret)
 .skip))
 (.seq
 (.ops [⟨some 30, .move (Operand.tmp 0), none, 0⟩,
 ⟨some 31, .move (Operand.tmp 1), none, 0⟩,
 ⟨some 32, .move (Operand.tmp 2), none, 0⟩,
 ⟨some 33, .call ⟨(Callee.value (Operand.func 30)), [(Operand.tmp 30), (Operand.tmp 31), (Operand.tmp 32)].toArray, #[27, 23, 9]⟩, none, 0⟩,
 ⟨some 34, .call ⟨(Callee.value (Operand.func 31)), [(Operand.tmp 33)].toArray, #[65]⟩, none, 0⟩,
 ⟨some 10, .alloc 65, none, 0⟩,
 ⟨none, .store 65 (Operand.tmp 10) (Operand.tmp 34), none, 0⟩])
 (.seq
 (.draw [⟨some 35, .fieldAddr 65 (Operand.tmp 10) 0, none, 0⟩,
 ⟨some 36, .load 3 (Operand.tmp 35), none, 0⟩,
 ⟨some 37, .fieldAddr 65 (Operand.tmp 10) 1, none, 0⟩,
 ⟨some 38, .load 3 (Operand.tmp 37), none, 0⟩,
 ⟨some 6, .assign (Operand.tmp 36), none, 0⟩,
 ⟨some 7, .assign (Operand.tmp 38), none, 0⟩,
 ⟨some 8, .assign (Operand.const (Value.int IntKind.i64 0)), none, 0⟩] true [5, 6] [0, 2, 1, 3, 4, 5, 6])
 .ret))))))
abbrev R12 : List ResultVar := [ResultVar.tmp 6, ResultVar.tmp 7, ResultVar.tmp 8]
theorem ok12 : FnOK Try.prog 12 L12 R12 3 := ⟨_, _, Try.func12, rfl, by kernel_rfl, by kernel_rfl, by kernel_rfl, by kernel_rfl, Nat.le_of_ble_eq_true (by kernel_rfl), by kernel_rfl⟩

/-- (*ablaut/guess.Guesser).Rank -/
def L16 : LCode :=
 (.seq
 (.ops [⟨some 3, .box 23 (Operand.tmp 1), none, 0⟩,
 ⟨some 4, .assign (Operand.const (Value.slice none 0 0)), none, 0⟩,
 ⟨some 5, .assign (Operand.const (Value.int IntKind.i64 0)), none, 0⟩])
 (.seq
 (.seq
 (.ops [⟨some 9, .load 23 (Operand.tmp 3), none, 0⟩,
 ⟨some 10, .call ⟨(Callee.value (Operand.func 28)), [(Operand.tmp 9)].toArray, #[23]⟩, none, 0⟩,
 ⟨some 6, .assign (Operand.tmp 10), none, 0⟩])
 (.seq
 (.ops [⟨some 11, .move (Operand.tmp 6), none, 0⟩,
 ⟨some 12, .binOp BinOp.neq 28 (Operand.tmp 11) (Operand.const (Value.int IntKind.i64 0)) 28, none, 0⟩])
 (.cond (Operand.tmp 12)
 (.seq
 (.ops [⟨some 13, .move (Operand.tmp 6), none, 0⟩,
 ⟨some 4, .assign (Operand.const (Value.slice none 0 0)), none, 0⟩,
 ⟨some 5, .assign (Operand.tmp 13), none, 0⟩])
 .ret)
 .skip)))
 (.seq
 (.seq
 (.ops [⟨some 14, .move (Operand.tmp 0), none, 0⟩,
 ⟨some 15, .call ⟨(Callee.value (Operand.func 29)), [(Operand.tmp 14)].toArray, #[27]⟩, none, 0⟩])
 (.cond (Operand.tmp 15)
 (.seq
 (.ops [⟨some 4, .assign (Operand.const (Value.slice none 0 0)), none, 0⟩,
 ⟨some 5, .assign (Operand.const (Value.int IntKind.i64 4)), none, 0⟩])
 .ret)
 .skip))
 (.seq
 (.ops [⟨some 16, .move (Operand.tmp 0), none, 0⟩,
 ⟨some 17, .call ⟨(Callee.value (Operand.func 17)), [(Operand.tmp 16)].toArray, #[27]⟩, none, 0⟩,
 ⟨some 7, .assign (Operand.tmp 17), none, 0⟩])
 (.seq
 (.ops [⟨some 18, .move (Operand.tmp 0), none, 0⟩,
 ⟨some 19, .makeFunc (Fn.func 30) #[(Operand.tmp 18)] [].toArray, none, 0⟩,
 ⟨some 8, .alloc 66, none, 0⟩,
 ⟨none, .store 66 (Operand.tmp 8) (Operand.tmp 19), none, 0⟩])
 (.seq
 (.ops [⟨some 20, .move (Operand.tmp 7), none, 0⟩,
 ⟨some 21, .makeFunc (Fn.func 37) #[] [(Operand.tmp 8), (Operand.tmp 3)].toArray, none, 0⟩,
 ⟨some 22, .call ⟨(Callee.value (Operand.func 36)), [(Operand.tmp 20), (Operand.tmp 21)].toArray, #[23, 74]⟩, none, 0⟩])
 (.seq
 (.ops [⟨some 23, .move (Operand.tmp 7), none, 0⟩,
 ⟨some 4, .assign (Operand.tmp 23), none, 0⟩,
 ⟨some 5, .assign (Operand.const (Value.int IntKind.i64 0)), none, 0⟩])
 .ret)))))))
abbrev R16 : List ResultVar := [ResultVar.tmp 4, ResultVar.tmp 5]
theorem ok16 : FnOK Try.prog 16 L16 R16 2 := ⟨_, _, Try.func16, rfl, by kernel_rfl, by kernel_rfl, by kernel_rfl, by kernel_rfl, Nat.le_of_ble_eq_true (by kernel_rfl), by kernel_rfl⟩

/-- (*ablaut/guess.Guesser).Tags -/
def L17 : LCode :=
 (.seq
 (.ops [⟨some 2, .assign (Operand.const (Value.slice none 0 0)), none, 0⟩])
 (.seq
 (.seq
 (.ops [⟨some 5, .move (Operand.tmp 0), none, 0⟩,
 ⟨some 6, .call ⟨(Callee.value (Operand.func 29)), [(Operand.tmp 5)].toArray, #[27]⟩, none, 0⟩])
 (.cond (Operand.tmp 6)
 (.seq
 (.ops [⟨some 2, .assign (Operand.const (Value.slice none 0 0)), none, 0⟩])
 .ret)
 .skip))
 (.seq
 (.ops [⟨some 3, .assign (Operand.const (Value.slice none 0 0)), none, 0⟩])
 (.seq
 (.seq
 (.ops [⟨some 7, .move (Operand.tmp 0), none, 0⟩,
 ⟨some 8, .nilCheck (Operand.tmp 7), none, 0⟩,
 ⟨some 9, .fieldAddr 56 (Operand.tmp 8) 1, none, 0⟩,
 ⟨some 10, .load 54 (Operand.tmp 9), none, 0⟩,
 ⟨some 11, .lookup 54 (Operand.tmp 10) (Operand.const (Value.string ⟨#[]⟩)) false, none, 0⟩,
 ⟨some 12, .range 63 (Operand.tmp 11), none, 0⟩])
 (.block 0
 (.loop
 (.seq
 (.ops [⟨some 13, .next (Operand.tmp 12) false, none, 0⟩,
 ⟨some 14, .extract (Operand.tmp 13) 0, none, 0⟩])
 (.seq
 (.cond (Operand.tmp 14)
 .skip
 (.exit 0))
 (.block 1
 (.seq
 (.ops [⟨some 15, .entry (Operand.tmp 12), none, 0⟩,
 ⟨some 16, .extract (Operand.tmp 15) 0, none, 0⟩,
 ⟨some 4, .assign (Operand.tmp 16), none, 0⟩])
 (.seq
 (.ops [⟨some 17, .move (Operand.tmp 4), none, 0⟩,
 ⟨some 18, .binOp BinOp.neq 9 (Operand.tmp 17) (Operand.const (Value.string ⟨#[]⟩)) 9, none, 0⟩])
 (.cond (Operand.tmp 18)
 (.ops [⟨some 19, .move (Operand.tmp 3), none, 0⟩,
 ⟨some 20, .move (Operand.tmp 4), none, 0⟩,
 ⟨some 21, .buildSlice 23 1 [(0, (Operand.tmp 20))].toArray, none, 0⟩,
 ⟨some 22, .call ⟨(Callee.builtin Builtin.append), [(Operand.tmp 19), (Operand.tmp 21)].toArray, #[23, 23]⟩, none, 1⟩,
 ⟨some 3, .assign (Operand.tmp 22), none, 0⟩])
 .skip)))))))))
 (.seq
 (.ops [⟨some 23, .move (Operand.tmp 3), none, 0⟩,
 ⟨some 24, .call ⟨(Callee.value (Operand.func 39)), [(Operand.tmp 23)].toArray, #[23]⟩, none, 0⟩])
 (.seq
 (.ops [⟨some 25, .move (Operand.tmp 3), none, 0⟩,
 ⟨some 2, .assign (Operand.tmp 25), none, 0⟩])
 .ret))))))
abbrev R17 : List ResultVar := [ResultVar.tmp 2]
theorem ok17 : FnOK Try.prog 17 L17 R17 1 := ⟨_, _, Try.func17, rfl, by kernel_rfl, by kernel_rfl, by kernel_rfl, by kernel_rfl, Nat.le_of_ble_eq_true (by kernel_rfl), by kernel_rfl⟩

end Go.Proofs.Ythchlpikcpidaaa.Vs
