/- The seat's functions as the engine Dm reads them, written by dgen.py. -/
import Derived.Test.YthchlpikcpidaaaDmFn
import Derived.Test.YthchlpikcpidaaaProg
import Derived.KernelRfl
namespace Go.Proofs.Ythchlpikcpidaaa.Vs
set_option linter.unusedVariables false
set_option maxRecDepth 100000
/-- ablaut/guess.checked -/
def L24 : LCode :=
 (.seq
 (.ops [⟨some 2, .assign (Operand.const (Value.int IntKind.i64 0)), none, 0⟩])
 (.seq
 (.seq
 (.ops [⟨some 11, .move (Operand.tmp 0), none, 0⟩,
 ⟨some 12, .call ⟨(Callee.builtin Builtin.len), [(Operand.tmp 11)].toArray, #[22]⟩, none, 0⟩,
 ⟨some 13, .move (Operand.const (Value.int IntKind.i64 0)), none, 0⟩])
 (.block 0
 (.loop
 (.seq
 (.ops [⟨some 14, .binOp BinOp.lss 3 (Operand.tmp 13) (Operand.tmp 12) 3, none, 0⟩])
 (.seq
 (.cond (Operand.tmp 14)
 .skip
 (.exit 0))
 (.seq
 (.block 1
 (.seq
 (.ops [⟨some 15, .indexAddr 22 (Operand.tmp 11) (Operand.tmp 13), none, 0⟩,
 ⟨some 16, .load 51 (Operand.tmp 15), none, 0⟩,
 ⟨some 4, .alloc 51, none, 0⟩,
 ⟨none, .store 51 (Operand.tmp 4) (Operand.tmp 16), none, 0⟩])
 (.seq
 (.ops [⟨some 17, .fieldAddr 51 (Operand.tmp 4) 0, none, 0⟩,
 ⟨some 18, .load 23 (Operand.tmp 17), none, 0⟩,
 ⟨some 19, .call ⟨(Callee.value (Operand.func 28)), [(Operand.tmp 18)].toArray, #[23]⟩, none, 0⟩,
 ⟨some 5, .assign (Operand.tmp 19), none, 0⟩])
 (.seq
 (.ops [⟨some 20, .move (Operand.tmp 5), none, 0⟩,
 ⟨some 21, .binOp BinOp.neq 28 (Operand.tmp 20) (Operand.const (Value.int IntKind.i64 0)) 28, none, 0⟩])
 (.cond (Operand.tmp 21)
 (.seq
 (.ops [⟨some 22, .move (Operand.tmp 5), none, 0⟩,
 ⟨some 2, .assign (Operand.tmp 22), none, 0⟩])
 .ret)
 .skip)))))
 (.ops [⟨some 23, .binOp BinOp.add 3 (Operand.tmp 13) (Operand.const (Value.int IntKind.i64 1)) 3, none, 0⟩,
 ⟨some 13, .move (Operand.tmp 23), none, 0⟩])))))))
 (.seq
 (.ops [⟨some 6, .assign (Operand.const (Value.int IntKind.i64 0)), none, 0⟩])
 (.seq
 (.seq
 (.ops [⟨some 24, .move (Operand.tmp 0), none, 0⟩,
 ⟨some 25, .call ⟨(Callee.builtin Builtin.len), [(Operand.tmp 24)].toArray, #[22]⟩, none, 0⟩,
 ⟨some 26, .move (Operand.const (Value.int IntKind.i64 0)), none, 0⟩])
 (.block 2
 (.loop
 (.seq
 (.ops [⟨some 27, .binOp BinOp.lss 3 (Operand.tmp 26) (Operand.tmp 25) 3, none, 0⟩])
 (.seq
 (.cond (Operand.tmp 27)
 .skip
 (.exit 2))
 (.seq
 (.block 3
 (.seq
 (.ops [⟨some 28, .indexAddr 22 (Operand.tmp 24) (Operand.tmp 26), none, 0⟩,
 ⟨some 29, .load 51 (Operand.tmp 28), none, 0⟩,
 ⟨some 8, .alloc 51, none, 0⟩,
 ⟨none, .store 51 (Operand.tmp 8) (Operand.tmp 29), none, 0⟩])
 (.seq
 (.ops [⟨some 30, .fieldAddr 51 (Operand.tmp 8) 1, none, 0⟩,
 ⟨some 31, .load 9 (Operand.tmp 30), none, 0⟩,
 ⟨some 32, .call ⟨(Callee.value (Operand.func 42)), [(Operand.tmp 31)].toArray, #[9]⟩, none, 0⟩,
 ⟨some 33, .unOp UnOp.not 4 (Operand.tmp 32), none, 0⟩,
 ⟨some 34, .move (Operand.tmp 33), none, 0⟩,
 ⟨some 35, .fieldAddr 51 (Operand.tmp 8) 2, some (34, false), 0⟩,
 ⟨some 36, .load 3 (Operand.tmp 35), some (34, false), 0⟩,
 ⟨some 37, .binOp BinOp.lss 3 (Operand.tmp 36) (Operand.const (Value.int IntKind.i64 1)) 3, some (34, false), 0⟩,
 ⟨some 38, .pick (Operand.tmp 34) (Operand.const (Value.bool true)) (Operand.tmp 37), none, 0⟩])
 (.cond (Operand.tmp 38)
 (.seq
 (.ops [⟨some 2, .assign (Operand.const (Value.int IntKind.i64 1)), none, 0⟩])
 .ret)
 .skip))))
 (.ops [⟨some 39, .binOp BinOp.add 3 (Operand.tmp 26) (Operand.const (Value.int IntKind.i64 1)) 3, none, 0⟩,
 ⟨some 26, .move (Operand.tmp 39), none, 0⟩])))))))
 (.seq
 (.seq
 (.ops [⟨some 40, .move (Operand.tmp 0), none, 0⟩,
 ⟨some 41, .call ⟨(Callee.builtin Builtin.len), [(Operand.tmp 40)].toArray, #[22]⟩, none, 0⟩,
 ⟨some 42, .move (Operand.const (Value.int IntKind.i64 0)), none, 0⟩])
 (.block 4
 (.loop
 (.seq
 (.ops [⟨some 43, .binOp BinOp.lss 3 (Operand.tmp 42) (Operand.tmp 41) 3, none, 0⟩])
 (.seq
 (.cond (Operand.tmp 43)
 .skip
 (.exit 4))
 (.seq
 (.block 5
 (.seq
 (.ops [⟨some 44, .indexAddr 22 (Operand.tmp 40) (Operand.tmp 42), none, 0⟩,
 ⟨some 45, .load 51 (Operand.tmp 44), none, 0⟩,
 ⟨some 10, .alloc 51, none, 0⟩,
 ⟨none, .store 51 (Operand.tmp 10) (Operand.tmp 45), none, 0⟩])
 (.seq
 (.seq
 (.ops [⟨some 46, .fieldAddr 51 (Operand.tmp 10) 2, none, 0⟩,
 ⟨some 47, .load 3 (Operand.tmp 46), none, 0⟩,
 ⟨some 48, .binOp BinOp.gtr 3 (Operand.tmp 47) (Operand.const (Value.int IntKind.i64 1000)) 3, none, 0⟩])
 (.cond (Operand.tmp 48)
 (.seq
 (.ops [⟨some 2, .assign (Operand.const (Value.int IntKind.i64 3)), none, 0⟩])
 .ret)
 .skip))
 (.seq
 (.ops [⟨some 49, .move (Operand.tmp 6), none, 0⟩,
 ⟨some 50, .fieldAddr 51 (Operand.tmp 10) 2, none, 0⟩,
 ⟨some 51, .load 3 (Operand.tmp 50), none, 0⟩,
 ⟨some 52, .binOp BinOp.add 3 (Operand.tmp 49) (Operand.tmp 51) 3, none, 0⟩,
 ⟨some 6, .assign (Operand.tmp 52), none, 0⟩])
 (.seq
 (.ops [⟨some 53, .move (Operand.tmp 6), none, 0⟩,
 ⟨some 54, .binOp BinOp.gtr 3 (Operand.tmp 53) (Operand.const (Value.int IntKind.i64 1000)) 3, none, 0⟩])
 (.cond (Operand.tmp 54)
 (.seq
 (.ops [⟨some 2, .assign (Operand.const (Value.int IntKind.i64 3)), none, 0⟩])
 .ret)
 .skip))))))
 (.ops [⟨some 55, .binOp BinOp.add 3 (Operand.tmp 42) (Operand.const (Value.int IntKind.i64 1)) 3, none, 0⟩,
 ⟨some 42, .move (Operand.tmp 55), none, 0⟩])))))))
 (.seq
 (.ops [⟨some 2, .assign (Operand.const (Value.int IntKind.i64 0)), none, 0⟩])
 .ret))))))
abbrev R24 : List ResultVar := [ResultVar.tmp 2]
theorem ok24 : FnOK Try.prog 24 L24 R24 1 := ⟨_, _, Try.func24, rfl, by kernel_rfl, by kernel_rfl, by kernel_rfl, by kernel_rfl, Nat.le_of_ble_eq_true (by kernel_rfl), by kernel_rfl⟩

/-- (*ablaut/guess.Guesser).put -/
def L25 : LCode :=
 (.seq
 (.ops [⟨some 4, .box 51 (Operand.tmp 1), none, 0⟩])
 (.seq
 (.draw [⟨some 11, .fieldAddr 51 (Operand.tmp 4) 0, none, 0⟩,
 ⟨some 12, .load 23 (Operand.tmp 11), none, 0⟩,
 ⟨some 13, .call ⟨(Callee.value (Operand.func 34)), [(Operand.tmp 12)].toArray, #[23]⟩, none, 0⟩,
 ⟨some 14, .fieldAddr 51 (Operand.tmp 4) 1, none, 0⟩,
 ⟨some 15, .load 9 (Operand.tmp 14), none, 0⟩,
 ⟨some 16, .build 79 [(0, (Operand.tmp 13)), (1, (Operand.tmp 15))].toArray, none, 0⟩,
 ⟨some 6, .alloc 79, none, 0⟩,
 ⟨none, .store 79 (Operand.tmp 6) (Operand.tmp 16), none, 0⟩] true [7] [])
 (.seq
 (.seq
 (.draw [⟨some 17, .move (Operand.tmp 0), none, 0⟩,
 ⟨some 18, .nilCheck (Operand.tmp 17), none, 0⟩,
 ⟨some 19, .fieldAddr 56 (Operand.tmp 18) 0, none, 0⟩,
 ⟨some 20, .load 53 (Operand.tmp 19), none, 0⟩,
 ⟨some 21, .load 79 (Operand.tmp 6), none, 0⟩,
 ⟨some 22, .lookup 53 (Operand.tmp 20) (Operand.tmp 21) false, none, 0⟩,
 ⟨some 23, .move (Operand.tmp 2), none, 0⟩,
 ⟨some 24, .binOp BinOp.add 3 (Operand.tmp 22) (Operand.tmp 23) 3, none, 0⟩,
 ⟨some 25, .mapEntry 53 (Operand.tmp 20) (Operand.tmp 21), none, 0⟩,
 ⟨some 26, .extract (Operand.tmp 25) 1, none, 0⟩,
 ⟨none, .entryStore 53 (Operand.tmp 20) (Operand.tmp 26) (Operand.tmp 24), none, 0⟩] true [10] [])
 (.seq
 (.draw [⟨some 27, .move (Operand.tmp 0), none, 0⟩,
 ⟨some 28, .nilCheck (Operand.tmp 27), none, 0⟩,
 ⟨some 29, .fieldAddr 56 (Operand.tmp 28) 0, none, 0⟩,
 ⟨some 30, .load 53 (Operand.tmp 29), none, 0⟩,
 ⟨some 31, .load 79 (Operand.tmp 6), none, 0⟩,
 ⟨some 32, .lookup 53 (Operand.tmp 30) (Operand.tmp 31) false, none, 0⟩,
 ⟨some 33, .binOp BinOp.eql 3 (Operand.tmp 32) (Operand.const (Value.int IntKind.i64 0)) 3, none, 0⟩] true [5, 6] [0, 1, 2, 3, 4, 5, 6])
 (.cond (Operand.tmp 33)
 (.draw [⟨some 34, .move (Operand.tmp 0), none, 0⟩,
 ⟨some 35, .nilCheck (Operand.tmp 34), none, 0⟩,
 ⟨some 36, .fieldAddr 56 (Operand.tmp 35) 0, none, 0⟩,
 ⟨some 37, .load 53 (Operand.tmp 36), none, 0⟩,
 ⟨some 38, .load 79 (Operand.tmp 6), none, 0⟩,
 ⟨none, .call ⟨(Callee.builtin Builtin.delete), [(Operand.tmp 37), (Operand.tmp 38)].toArray, #[53, 79]⟩, none, 0⟩] true [5] [0, 1, 2, 3, 4, 5])
 .skip)))
 (.seq
 (.ops [⟨some 7, .assign (Operand.const (Value.int IntKind.i64 0)), none, 0⟩])
 (.block 0
 (.loop
 (.seq
 (.seq
 (.ops [⟨some 39, .move (Operand.tmp 7), none, 0⟩,
 ⟨some 40, .fieldAddr 51 (Operand.tmp 4) 0, none, 0⟩,
 ⟨some 41, .load 23 (Operand.tmp 40), none, 0⟩,
 ⟨some 42, .call ⟨(Callee.builtin Builtin.len), [(Operand.tmp 41)].toArray, #[23]⟩, none, 0⟩,
 ⟨some 43, .call ⟨(Callee.builtin Builtin.min), [(Operand.tmp 42), (Operand.const (Value.int IntKind.i64 4))].toArray, #[3, 3]⟩, none, 0⟩,
 ⟨some 44, .binOp BinOp.leq 3 (Operand.tmp 39) (Operand.tmp 43) 3, none, 0⟩])
 (.cond (Operand.tmp 44)
 .skip
 (.exit 0)))
 (.seq
 (.block 1
 (.seq
 (.ops [⟨some 47, .fieldAddr 51 (Operand.tmp 4) 0, none, 0⟩,
 ⟨some 48, .load 23 (Operand.tmp 47), none, 0⟩,
 ⟨some 49, .fieldAddr 51 (Operand.tmp 4) 0, none, 0⟩,
 ⟨some 50, .load 23 (Operand.tmp 49), none, 0⟩,
 ⟨some 51, .call ⟨(Callee.builtin Builtin.len), [(Operand.tmp 50)].toArray, #[23]⟩, none, 0⟩,
 ⟨some 52, .move (Operand.tmp 7), none, 0⟩,
 ⟨some 53, .binOp BinOp.sub 3 (Operand.tmp 51) (Operand.tmp 52) 3, none, 0⟩,
 ⟨some 54, .slice 23 (Operand.tmp 48) (some (Operand.tmp 53)) none none, none, 0⟩,
 ⟨some 55, .call ⟨(Callee.value (Operand.func 34)), [(Operand.tmp 54)].toArray, #[23]⟩, none, 0⟩,
 ⟨some 8, .assign (Operand.tmp 55), none, 0⟩])
 (.seq
 (.seq
 (.ops [⟨some 56, .move (Operand.tmp 0), none, 0⟩,
 ⟨some 57, .nilCheck (Operand.tmp 56), none, 0⟩,
 ⟨some 58, .fieldAddr 56 (Operand.tmp 57) 1, none, 0⟩,
 ⟨some 59, .load 54 (Operand.tmp 58), none, 0⟩,
 ⟨some 60, .move (Operand.tmp 8), none, 0⟩,
 ⟨some 61, .lookup 54 (Operand.tmp 59) (Operand.tmp 60) false, none, 0⟩,
 ⟨some 62, .binOp BinOp.eql 63 (Operand.tmp 61) (Operand.const (Value.map none)) 63, none, 0⟩])
 (.cond (Operand.tmp 62)
 (.ops [⟨some 63, .move (Operand.tmp 0), none, 0⟩,
 ⟨some 64, .nilCheck (Operand.tmp 63), none, 0⟩,
 ⟨some 65, .fieldAddr 56 (Operand.tmp 64) 1, none, 0⟩,
 ⟨some 66, .load 54 (Operand.tmp 65), none, 0⟩,
 ⟨some 67, .move (Operand.tmp 8), none, 0⟩,
 ⟨some 68, .makeMap 63 none, none, 0⟩,
 ⟨none, .mapUpdate 54 (Operand.tmp 66) (Operand.tmp 67) (Operand.tmp 68), none, 0⟩])
 .skip))
 (.seq
 (.seq
 (.ops [⟨some 69, .fieldAddr 51 (Operand.tmp 4) 1, none, 0⟩,
 ⟨some 70, .load 9 (Operand.tmp 69), none, 0⟩,
 ⟨some 71, .buildSlice 23 2 [(0, (Operand.tmp 70)), (1, (Operand.const (Value.string ⟨#[]⟩)))].toArray, none, 0⟩,
 ⟨some 72, .call ⟨(Callee.builtin Builtin.len), [(Operand.tmp 71)].toArray, #[23]⟩, none, 0⟩,
 ⟨some 73, .move (Operand.const (Value.int IntKind.i64 0)), none, 0⟩])
 (.block 2
 (.loop
 (.seq
 (.ops [⟨some 74, .binOp BinOp.lss 3 (Operand.tmp 73) (Operand.tmp 72) 3, none, 0⟩])
 (.seq
 (.cond (Operand.tmp 74)
 .skip
 (.exit 2))
 (.seq
 (.block 3
 (.seq
 (.ops [⟨some 75, .indexAddr 23 (Operand.tmp 71) (Operand.tmp 73), none, 0⟩,
 ⟨some 76, .load 9 (Operand.tmp 75), none, 0⟩,
 ⟨some 10, .assign (Operand.tmp 76), none, 0⟩])
 (.seq
 (.ops [⟨some 77, .move (Operand.tmp 0), none, 0⟩,
 ⟨some 78, .nilCheck (Operand.tmp 77), none, 0⟩,
 ⟨some 79, .fieldAddr 56 (Operand.tmp 78) 1, none, 0⟩,
 ⟨some 80, .load 54 (Operand.tmp 79), none, 0⟩,
 ⟨some 81, .move (Operand.tmp 8), none, 0⟩,
 ⟨some 82, .lookup 54 (Operand.tmp 80) (Operand.tmp 81) false, none, 0⟩,
 ⟨some 83, .move (Operand.tmp 10), none, 0⟩,
 ⟨some 84, .lookup 63 (Operand.tmp 82) (Operand.tmp 83) false, none, 0⟩,
 ⟨some 85, .move (Operand.tmp 2), none, 0⟩,
 ⟨some 86, .binOp BinOp.add 3 (Operand.tmp 84) (Operand.tmp 85) 3, none, 0⟩,
 ⟨none, .mapUpdate 63 (Operand.tmp 82) (Operand.tmp 83) (Operand.tmp 86), none, 0⟩])
 (.seq
 (.ops [⟨some 87, .move (Operand.tmp 0), none, 0⟩,
 ⟨some 88, .nilCheck (Operand.tmp 87), none, 0⟩,
 ⟨some 89, .fieldAddr 56 (Operand.tmp 88) 1, none, 0⟩,
 ⟨some 90, .load 54 (Operand.tmp 89), none, 0⟩,
 ⟨some 91, .move (Operand.tmp 8), none, 0⟩,
 ⟨some 92, .lookup 54 (Operand.tmp 90) (Operand.tmp 91) false, none, 0⟩,
 ⟨some 93, .move (Operand.tmp 10), none, 0⟩,
 ⟨some 94, .lookup 63 (Operand.tmp 92) (Operand.tmp 93) false, none, 0⟩,
 ⟨some 95, .binOp BinOp.eql 3 (Operand.tmp 94) (Operand.const (Value.int IntKind.i64 0)) 3, none, 0⟩])
 (.cond (Operand.tmp 95)
 (.ops [⟨some 96, .move (Operand.tmp 0), none, 0⟩,
 ⟨some 97, .nilCheck (Operand.tmp 96), none, 0⟩,
 ⟨some 98, .fieldAddr 56 (Operand.tmp 97) 1, none, 0⟩,
 ⟨some 99, .load 54 (Operand.tmp 98), none, 0⟩,
 ⟨some 100, .move (Operand.tmp 8), none, 0⟩,
 ⟨some 101, .lookup 54 (Operand.tmp 99) (Operand.tmp 100) false, none, 0⟩,
 ⟨some 102, .move (Operand.tmp 10), none, 0⟩,
 ⟨none, .call ⟨(Callee.builtin Builtin.delete), [(Operand.tmp 101), (Operand.tmp 102)].toArray, #[63, 9]⟩, none, 0⟩])
 .skip)))))
 (.ops [⟨some 103, .binOp BinOp.add 3 (Operand.tmp 73) (Operand.const (Value.int IntKind.i64 1)) 3, none, 0⟩,
 ⟨some 73, .move (Operand.tmp 103), none, 0⟩])))))))
 (.seq
 (.ops [⟨some 104, .move (Operand.tmp 0), none, 0⟩,
 ⟨some 105, .nilCheck (Operand.tmp 104), none, 0⟩,
 ⟨some 106, .fieldAddr 56 (Operand.tmp 105) 1, none, 0⟩,
 ⟨some 107, .load 54 (Operand.tmp 106), none, 0⟩,
 ⟨some 108, .move (Operand.tmp 8), none, 0⟩,
 ⟨some 109, .lookup 54 (Operand.tmp 107) (Operand.tmp 108) false, none, 0⟩,
 ⟨some 110, .call ⟨(Callee.builtin Builtin.len), [(Operand.tmp 109)].toArray, #[63]⟩, none, 0⟩,
 ⟨some 111, .binOp BinOp.eql 3 (Operand.tmp 110) (Operand.const (Value.int IntKind.i64 0)) 3, none, 0⟩])
 (.cond (Operand.tmp 111)
 (.ops [⟨some 112, .move (Operand.tmp 0), none, 0⟩,
 ⟨some 113, .nilCheck (Operand.tmp 112), none, 0⟩,
 ⟨some 114, .fieldAddr 56 (Operand.tmp 113) 1, none, 0⟩,
 ⟨some 115, .load 54 (Operand.tmp 114), none, 0⟩,
 ⟨some 116, .move (Operand.tmp 8), none, 0⟩,
 ⟨none, .call ⟨(Callee.builtin Builtin.delete), [(Operand.tmp 115), (Operand.tmp 116)].toArray, #[54, 9]⟩, none, 0⟩])
 .skip))))))
 (.ops [⟨some 45, .move (Operand.tmp 7), none, 0⟩,
 ⟨some 46, .binOp BinOp.add 3 (Operand.tmp 45) (Operand.const (Value.int IntKind.i64 1)) 3, none, 0⟩,
 ⟨some 7, .assign (Operand.tmp 46), none, 0⟩])))))))))
abbrev R25 : List ResultVar := []
theorem ok25 : FnOK Try.prog 25 L25 R25 3 := ⟨_, _, Try.func25, rfl, by kernel_rfl, by kernel_rfl, by kernel_rfl, by kernel_rfl, Nat.le_of_ble_eq_true (by kernel_rfl), by kernel_rfl⟩

/-- ablaut/syms.ValidateWord -/
def L28 : LCode :=
 (.seq
 (.ops [⟨some 2, .assign (Operand.const (Value.int IntKind.i64 0)), none, 0⟩])
 (.seq
 (.block 0
 (.seq
 (.ops [⟨some 4, .move (Operand.tmp 0), none, 0⟩,
 ⟨some 5, .call ⟨(Callee.builtin Builtin.len), [(Operand.tmp 4)].toArray, #[23]⟩, none, 0⟩,
 ⟨some 6, .binOp BinOp.gtr 3 (Operand.tmp 5) (Operand.const (Value.int IntKind.i64 60)) 3, none, 0⟩,
 ⟨some 7, .move (Operand.tmp 6), none, 0⟩,
 ⟨some 8, .move (Operand.tmp 0), some (7, false), 0⟩,
 ⟨some 9, .call ⟨(Callee.value (Operand.func 47)), [(Operand.tmp 8), (Operand.func 48)].toArray, #[23, 77]⟩, some (7, false), 0⟩,
 ⟨some 10, .pick (Operand.tmp 7) (Operand.const (Value.bool true)) (Operand.tmp 9), none, 0⟩,
 ⟨some 3, .assign (Operand.tmp 10), none, 0⟩])
 (.cond (Operand.tmp 3)
 (.seq
 (.ops [⟨some 2, .assign (Operand.const (Value.int IntKind.i64 3)), none, 0⟩])
 .ret)
 (.seq
 (.ops [⟨some 12, .move (Operand.tmp 0), none, 0⟩,
 ⟨some 13, .call ⟨(Callee.value (Operand.func 47)), [(Operand.tmp 12), (Operand.func 49)].toArray, #[23, 77]⟩, none, 0⟩,
 ⟨some 11, .assign (Operand.tmp 13), none, 0⟩])
 (.cond (Operand.tmp 11)
 (.seq
 (.ops [⟨some 2, .assign (Operand.const (Value.int IntKind.i64 1)), none, 0⟩])
 .ret)
 .skip)))))
 (.seq
 (.ops [⟨some 2, .assign (Operand.const (Value.int IntKind.i64 0)), none, 0⟩])
 .ret)))
abbrev R28 : List ResultVar := [ResultVar.tmp 2]
theorem ok28 : FnOK Try.prog 28 L28 R28 1 := ⟨_, _, Try.func28, rfl, by kernel_rfl, by kernel_rfl, by kernel_rfl, by kernel_rfl, Nat.le_of_ble_eq_true (by kernel_rfl), by kernel_rfl⟩

/-- (*ablaut/guess.Guesser).none -/
def L29 : LCode :=
 (.seq
 (.ops [⟨some 2, .assign (Operand.const (Value.bool false)), none, 0⟩])
 (.seq
 (.ops [⟨some 3, .move (Operand.tmp 0), none, 0⟩,
 ⟨some 4, .binOp BinOp.eql 27 (Operand.tmp 3) (Operand.const (Value.pointer none)) 27, none, 0⟩,
 ⟨some 5, .move (Operand.tmp 4), none, 0⟩,
 ⟨some 6, .move (Operand.tmp 0), some (5, false), 0⟩,
 ⟨some 7, .call ⟨(Callee.value (Operand.func 51)), [(Operand.tmp 6)].toArray, #[27]⟩, some (5, false), 0⟩,
 ⟨some 8, .binOp BinOp.eql 3 (Operand.tmp 7) (Operand.const (Value.int IntKind.i64 0)) 3, some (5, false), 0⟩,
 ⟨some 9, .pick (Operand.tmp 5) (Operand.const (Value.bool true)) (Operand.tmp 8), none, 0⟩,
 ⟨some 2, .assign (Operand.tmp 9), none, 0⟩])
 .ret))
abbrev R29 : List ResultVar := [ResultVar.tmp 2]
theorem ok29 : FnOK Try.prog 29 L29 R29 1 := ⟨_, _, Try.func29, rfl, by kernel_rfl, by kernel_rfl, by kernel_rfl, by kernel_rfl, Nat.le_of_ble_eq_true (by kernel_rfl), by kernel_rfl⟩

/-- (*ablaut/guess.Guesser).chance -/
def L30 : LCode :=
 (.seq
 (.ops [⟨some 6, .alloc 65, none, 0⟩])
 (.seq
 (.draw [⟨some 10, .move (Operand.tmp 0), none, 0⟩,
 ⟨some 11, .nilCheck (Operand.tmp 10), none, 0⟩,
 ⟨some 12, .fieldAddr 56 (Operand.tmp 11) 1, none, 0⟩,
 ⟨some 13, .load 54 (Operand.tmp 12), none, 0⟩,
 ⟨some 14, .lookup 54 (Operand.tmp 13) (Operand.const (Value.string ⟨#[]⟩)) false, none, 0⟩,
 ⟨some 15, .move (Operand.tmp 2), none, 0⟩,
 ⟨some 16, .lookup 63 (Operand.tmp 14) (Operand.tmp 15) false, none, 0⟩,
 ⟨some 17, .move (Operand.tmp 0), none, 0⟩,
 ⟨some 18, .call ⟨(Callee.value (Operand.func 51)), [(Operand.tmp 17)].toArray, #[27]⟩, none, 0⟩,
 ⟨some 19, .build 65 [(0, (Operand.tmp 16)), (1, (Operand.tmp 18))].toArray, none, 0⟩,
 ⟨some 7, .alloc 65, none, 0⟩,
 ⟨none, .store 65 (Operand.tmp 7) (Operand.tmp 19), none, 0⟩] true [11] [])
 (.seq
 (.seq
 (.ops [⟨some 8, .assign (Operand.const (Value.int IntKind.i64 1)), none, 0⟩])
 (.block 0
 (.loop
 (.seq
 (.seq
 (.ops [⟨some 20, .move (Operand.tmp 8), none, 0⟩,
 ⟨some 21, .move (Operand.tmp 1), none, 0⟩,
 ⟨some 22, .call ⟨(Callee.builtin Builtin.len), [(Operand.tmp 21)].toArray, #[23]⟩, none, 0⟩,
 ⟨some 23, .call ⟨(Callee.builtin Builtin.min), [(Operand.tmp 22), (Operand.const (Value.int IntKind.i64 4))].toArray, #[3, 3]⟩, none, 0⟩,
 ⟨some 24, .binOp BinOp.leq 3 (Operand.tmp 20) (Operand.tmp 23) 3, none, 0⟩])
 (.cond (Operand.tmp 24)
 .skip
 (.exit 0)))
 (.seq
 (.block 1
 (.seq
 (.draw [⟨some 27, .move (Operand.tmp 0), none, 0⟩,
 ⟨some 28, .nilCheck (Operand.tmp 27), none, 0⟩,
 ⟨some 29, .fieldAddr 56 (Operand.tmp 28) 1, none, 0⟩,
 ⟨some 30, .load 54 (Operand.tmp 29), none, 0⟩,
 ⟨some 31, .move (Operand.tmp 1), none, 0⟩,
 ⟨some 32, .move (Operand.tmp 1), none, 0⟩,
 ⟨some 33, .call ⟨(Callee.builtin Builtin.len), [(Operand.tmp 32)].toArray, #[23]⟩, none, 0⟩,
 ⟨some 34, .move (Operand.tmp 8), none, 0⟩,
 ⟨some 35, .binOp BinOp.sub 3 (Operand.tmp 33) (Operand.tmp 34) 3, none, 0⟩,
 ⟨some 36, .slice 23 (Operand.tmp 31) (some (Operand.tmp 35)) none none, none, 0⟩,
 ⟨some 37, .call ⟨(Callee.value (Operand.func 34)), [(Operand.tmp 36)].toArray, #[23]⟩, none, 0⟩,
 ⟨some 38, .lookup 54 (Operand.tmp 30) (Operand.tmp 37) false, none, 0⟩,
 ⟨some 9, .assign (Operand.tmp 38), none, 0⟩] true [11, 12] [])
 (.seq
 (.seq
 (.ops [⟨some 39, .move (Operand.tmp 9), none, 0⟩,
 ⟨some 40, .binOp BinOp.eql 63 (Operand.tmp 39) (Operand.const (Value.map none)) 63, none, 0⟩])
 (.cond (Operand.tmp 40)
 (.exit 0)
 .skip))
 (.ops [⟨some 41, .move (Operand.tmp 9), none, 0⟩,
 ⟨some 42, .move (Operand.tmp 2), none, 0⟩,
 ⟨some 43, .lookup 63 (Operand.tmp 41) (Operand.tmp 42) false, none, 0⟩,
 ⟨some 44, .fieldAddr 65 (Operand.tmp 7) 1, none, 0⟩,
 ⟨some 45, .load 3 (Operand.tmp 44), none, 0⟩,
 ⟨some 46, .binOp BinOp.mul 3 (Operand.tmp 43) (Operand.tmp 45) 3, none, 0⟩,
 ⟨some 47, .fieldAddr 65 (Operand.tmp 7) 0, none, 0⟩,
 ⟨some 48, .load 3 (Operand.tmp 47), none, 0⟩,
 ⟨some 49, .binOp BinOp.add 3 (Operand.tmp 46) (Operand.tmp 48) 3, none, 0⟩,
 ⟨some 50, .fieldAddr 65 (Operand.tmp 7) 1, none, 0⟩,
 ⟨some 51, .load 3 (Operand.tmp 50), none, 0⟩,
 ⟨some 52, .move (Operand.tmp 9), none, 0⟩,
 ⟨some 53, .lookup 63 (Operand.tmp 52) (Operand.const (Value.string ⟨#[]⟩)) false, none, 0⟩,
 ⟨some 54, .binOp BinOp.add 3 (Operand.tmp 53) (Operand.const (Value.int IntKind.i64 1)) 3, none, 0⟩,
 ⟨some 55, .binOp BinOp.mul 3 (Operand.tmp 51) (Operand.tmp 54) 3, none, 0⟩,
 ⟨some 56, .build 65 [(0, (Operand.tmp 49)), (1, (Operand.tmp 55))].toArray, none, 0⟩,
 ⟨none, .store 65 (Operand.tmp 7) (Operand.tmp 56), none, 0⟩]))))
 (.ops [⟨some 25, .move (Operand.tmp 8), none, 0⟩,
 ⟨some 26, .binOp BinOp.add 3 (Operand.tmp 25) (Operand.const (Value.int IntKind.i64 1)) 3, none, 0⟩,
 ⟨some 8, .assign (Operand.tmp 26), none, 0⟩]))))))
 (.seq
 (.ops [⟨some 57, .load 65 (Operand.tmp 7), none, 0⟩,
 ⟨none, .store 65 (Operand.tmp 6) (Operand.tmp 57), none, 0⟩])
 .ret))))
abbrev R30 : List ResultVar := [ResultVar.cell 6 65]
theorem ok30 : FnOK Try.prog 30 L30 R30 3 := ⟨_, _, Try.func30, rfl, by kernel_rfl, by kernel_rfl, by kernel_rfl, by kernel_rfl, Nat.le_of_ble_eq_true (by kernel_rfl), by kernel_rfl⟩

/-- (ablaut/guess.fraction).least -/
def L31 : LCode :=
 (.seq
 (.ops [⟨some 1, .box 65 (Operand.tmp 0), none, 0⟩,
 ⟨some 2, .alloc 65, none, 0⟩])
 (.seq
 (.draw [⟨some 5, .fieldAddr 65 (Operand.tmp 1) 0, none, 0⟩,
 ⟨some 6, .load 3 (Operand.tmp 5), none, 0⟩,
 ⟨some 7, .fieldAddr 65 (Operand.tmp 1) 1, none, 0⟩,
 ⟨some 8, .load 3 (Operand.tmp 7), none, 0⟩,
 ⟨some 3, .assign (Operand.tmp 6), none, 0⟩,
 ⟨some 4, .assign (Operand.tmp 8), none, 0⟩] true [5] [0, 2, 1, 3, 4, 5])
 (.seq
 (.block 0
 (.loop
 (.seq
 (.seq
 (.ops [⟨some 9, .move (Operand.tmp 4), none, 0⟩,
 ⟨some 10, .binOp BinOp.neq 3 (Operand.tmp 9) (Operand.const (Value.int IntKind.i64 0)) 3, none, 0⟩])
 (.cond (Operand.tmp 10)
 .skip
 (.exit 0)))
 (.block 1
 (.draw [⟨some 11, .move (Operand.tmp 4), none, 0⟩,
 ⟨some 12, .move (Operand.tmp 3), none, 0⟩,
 ⟨some 13, .move (Operand.tmp 4), none, 0⟩,
 ⟨some 14, .binOp BinOp.rem 3 (Operand.tmp 12) (Operand.tmp 13) 3, none, 0⟩,
 ⟨some 3, .assign (Operand.tmp 11), none, 0⟩,
 ⟨some 4, .assign (Operand.tmp 14), none, 0⟩] true [5] [0, 1, 2, 3, 4, 5])))))
 (.seq
 (.draw [⟨some 15, .fieldAddr 65 (Operand.tmp 1) 0, none, 0⟩,
 ⟨some 16, .load 3 (Operand.tmp 15), none, 0⟩,
 ⟨some 17, .move (Operand.tmp 3), none, 0⟩,
 ⟨some 18, .binOp BinOp.quo 3 (Operand.tmp 16) (Operand.tmp 17) 3, none, 0⟩,
 ⟨some 19, .fieldAddr 65 (Operand.tmp 1) 1, none, 0⟩,
 ⟨some 20, .load 3 (Operand.tmp 19), none, 0⟩,
 ⟨some 21, .move (Operand.tmp 3), none, 0⟩,
 ⟨some 22, .binOp BinOp.quo 3 (Operand.tmp 20) (Operand.tmp 21) 3, none, 0⟩,
 ⟨some 23, .build 65 [(0, (Operand.tmp 18)), (1, (Operand.tmp 22))].toArray, none, 0⟩,
 ⟨none, .store 65 (Operand.tmp 2) (Operand.tmp 23), none, 0⟩] true [8, 9] [0, 2, 4, 6, 1, 3, 5, 7, 8, 9])
 .ret))))
abbrev R31 : List ResultVar := [ResultVar.cell 2 65]
theorem ok31 : FnOK Try.prog 31 L31 R31 1 := ⟨_, _, Try.func31, rfl, by kernel_rfl, by kernel_rfl, by kernel_rfl, by kernel_rfl, Nat.le_of_ble_eq_true (by kernel_rfl), by kernel_rfl⟩

/-- ablaut/guess.key -/
def L34 : LCode :=
 (.seq
 (.ops [⟨some 2, .assign (Operand.const (Value.string ⟨#[]⟩)), none, 0⟩])
 (.seq
 (.ops [⟨some 3, .move (Operand.tmp 0), none, 0⟩,
 ⟨some 4, .call ⟨(Callee.value (Operand.func 53)), [(Operand.tmp 3), (Operand.const (Value.string ⟨#[32]⟩))].toArray, #[23, 9]⟩, none, 0⟩,
 ⟨some 2, .assign (Operand.tmp 4), none, 0⟩])
 .ret))
abbrev R34 : List ResultVar := [ResultVar.tmp 2]
theorem ok34 : FnOK Try.prog 34 L34 R34 1 := ⟨_, _, Try.func34, rfl, by kernel_rfl, by kernel_rfl, by kernel_rfl, by kernel_rfl, Nat.le_of_ble_eq_true (by kernel_rfl), by kernel_rfl⟩

/-- slices.SortStableFunc[[]string,string] -/
def L36 : LCode :=
 (.ops [⟨some 4, .move (Operand.tmp 0), none, 0⟩,
 ⟨some 5, .move (Operand.tmp 0), none, 0⟩,
 ⟨some 6, .call ⟨(Callee.builtin Builtin.len), [(Operand.tmp 5)].toArray, #[23]⟩, none, 0⟩,
 ⟨some 7, .move (Operand.tmp 1), none, 0⟩,
 ⟨some 8, .call ⟨(Callee.value (Operand.func 54)), [(Operand.tmp 4), (Operand.tmp 6), (Operand.tmp 7)].toArray, #[23, 3, 74]⟩, none, 0⟩])
abbrev R36 : List ResultVar := []
theorem ok36 : FnOK Try.prog 36 L36 R36 2 := ⟨_, _, Try.func36, rfl, by kernel_rfl, by kernel_rfl, by kernel_rfl, by kernel_rfl, Nat.le_of_ble_eq_true (by kernel_rfl), by kernel_rfl⟩

/-- (*ablaut/guess.Guesser).Rank$1 -/
def L37 : LCode :=
 (.seq
 (.ops [⟨some 6, .assign (Operand.const (Value.int IntKind.i64 0)), none, 0⟩])
 (.seq
 (.draw [⟨some 7, .load 66 (Operand.tmp 2), none, 0⟩,
 ⟨some 8, .load 23 (Operand.tmp 3), none, 0⟩,
 ⟨some 9, .move (Operand.tmp 1), none, 0⟩,
 ⟨some 10, .call ⟨(Callee.value (Operand.tmp 7)), [(Operand.tmp 8), (Operand.tmp 9)].toArray, #[23, 9]⟩, none, 0⟩,
 ⟨some 11, .load 66 (Operand.tmp 2), none, 0⟩,
 ⟨some 12, .load 23 (Operand.tmp 3), none, 0⟩,
 ⟨some 13, .move (Operand.tmp 0), none, 0⟩,
 ⟨some 14, .call ⟨(Callee.value (Operand.tmp 11)), [(Operand.tmp 12), (Operand.tmp 13)].toArray, #[23, 9]⟩, none, 0⟩,
 ⟨some 15, .call ⟨(Callee.value (Operand.func 38)), [(Operand.tmp 10), (Operand.tmp 14)].toArray, #[65, 65]⟩, none, 0⟩,
 ⟨some 6, .assign (Operand.tmp 15), none, 0⟩] true [7, 8, 9] [])
 .ret))
abbrev R37 : List ResultVar := [ResultVar.tmp 6]
theorem ok37 : FnOK Try.prog 37 L37 R37 4 := ⟨_, _, Try.func37, rfl, by kernel_rfl, by kernel_rfl, by kernel_rfl, by kernel_rfl, Nat.le_of_ble_eq_true (by kernel_rfl), by kernel_rfl⟩

/-- (ablaut/guess.fraction).compare -/
def L38 : LCode :=
 (.seq
 (.ops [⟨some 2, .box 65 (Operand.tmp 0), none, 0⟩,
 ⟨some 3, .box 65 (Operand.tmp 1), none, 0⟩,
 ⟨some 4, .assign (Operand.const (Value.int IntKind.i64 0)), none, 0⟩])
 (.seq
 (.ops [⟨some 5, .fieldAddr 65 (Operand.tmp 2) 0, none, 0⟩,
 ⟨some 6, .load 3 (Operand.tmp 5), none, 0⟩,
 ⟨some 7, .fieldAddr 65 (Operand.tmp 3) 0, none, 0⟩,
 ⟨some 8, .load 3 (Operand.tmp 7), none, 0⟩,
 ⟨some 9, .call ⟨(Callee.value (Operand.func 55)), [(Operand.tmp 6), (Operand.tmp 8)].toArray, #[3, 3]⟩, none, 0⟩,
 ⟨some 4, .assign (Operand.tmp 9), none, 0⟩])
 .ret))
abbrev R38 : List ResultVar := [ResultVar.tmp 4]
theorem ok38 : FnOK Try.prog 38 L38 R38 2 := ⟨_, _, Try.func38, rfl, by kernel_rfl, by kernel_rfl, by kernel_rfl, by kernel_rfl, Nat.le_of_ble_eq_true (by kernel_rfl), by kernel_rfl⟩

/-- slices.Sort[[]string,string] -/
def L39 : LCode :=
 (.seq
 (.ops [⟨some 3, .move (Operand.tmp 0), none, 0⟩,
 ⟨some 4, .call ⟨(Callee.builtin Builtin.len), [(Operand.tmp 3)].toArray, #[23]⟩, none, 0⟩,
 ⟨some 2, .assign (Operand.tmp 4), none, 0⟩])
 (.ops [⟨some 5, .move (Operand.tmp 0), none, 0⟩,
 ⟨some 6, .move (Operand.tmp 2), none, 0⟩,
 ⟨some 7, .move (Operand.tmp 2), none, 0⟩,
 ⟨some 8, .convert 3 89 (Operand.tmp 7), none, 0⟩,
 ⟨some 9, .call ⟨(Callee.value (Operand.func 57)), [(Operand.tmp 8)].toArray, #[89]⟩, none, 0⟩,
 ⟨some 10, .call ⟨(Callee.value (Operand.func 56)), [(Operand.tmp 5), (Operand.const (Value.int IntKind.i64 0)), (Operand.tmp 6), (Operand.tmp 9)].toArray, #[23, 3, 3, 3]⟩, none, 0⟩]))
abbrev R39 : List ResultVar := []
theorem ok39 : FnOK Try.prog 39 L39 R39 1 := ⟨_, _, Try.func39, rfl, by kernel_rfl, by kernel_rfl, by kernel_rfl, by kernel_rfl, Nat.le_of_ble_eq_true (by kernel_rfl), by kernel_rfl⟩

/-- ablaut/guess.isName -/
def L42 : LCode :=
 (.seq
 (.ops [⟨some 2, .assign (Operand.const (Value.bool false)), none, 0⟩])
 (.seq
 (.seq
 (.ops [⟨some 5, .move (Operand.tmp 0), none, 0⟩,
 ⟨some 6, .call ⟨(Callee.builtin Builtin.len), [(Operand.tmp 5)].toArray, #[9]⟩, none, 0⟩,
 ⟨some 7, .move (Operand.const (Value.int IntKind.i64 0)), none, 0⟩])
 (.block 0
 (.loop
 (.seq
 (.ops [⟨some 8, .binOp BinOp.lss 3 (Operand.tmp 7) (Operand.tmp 6) 3, none, 0⟩])
 (.seq
 (.cond (Operand.tmp 8)
 .skip
 (.exit 0))
 (.seq
 (.block 1
 (.seq
 (.ops [⟨some 9, .move (Operand.tmp 7), none, 0⟩,
 ⟨some 3, .assign (Operand.tmp 9), none, 0⟩])
 (.seq
 (.ops [⟨some 10, .move (Operand.tmp 0), none, 0⟩,
 ⟨some 11, .move (Operand.tmp 3), none, 0⟩,
 ⟨some 12, .index 9 (Operand.tmp 10) (Operand.tmp 11), none, 0⟩,
 ⟨some 13, .binOp BinOp.or 5 (Operand.tmp 12) (Operand.const (Value.int IntKind.u8 32)) 5, none, 0⟩,
 ⟨some 4, .assign (Operand.tmp 13), none, 0⟩])
 (.seq
 (.ops [⟨some 14, .move (Operand.tmp 4), none, 0⟩,
 ⟨some 15, .binOp BinOp.lss 5 (Operand.tmp 14) (Operand.const (Value.int IntKind.u8 97)) 5, none, 0⟩,
 ⟨some 16, .move (Operand.tmp 15), none, 0⟩,
 ⟨some 17, .move (Operand.tmp 4), some (16, false), 0⟩,
 ⟨some 18, .binOp BinOp.gtr 5 (Operand.tmp 17) (Operand.const (Value.int IntKind.u8 122)) 5, some (16, false), 0⟩,
 ⟨some 19, .pick (Operand.tmp 16) (Operand.const (Value.bool true)) (Operand.tmp 18), none, 0⟩,
 ⟨some 20, .move (Operand.tmp 19), none, 0⟩,
 ⟨some 21, .move (Operand.tmp 3), some (20, true), 0⟩,
 ⟨some 22, .binOp BinOp.eql 3 (Operand.tmp 21) (Operand.const (Value.int IntKind.i64 0)) 3, some (20, true), 0⟩,
 ⟨some 23, .move (Operand.tmp 22), some (20, true), 0⟩,
 ⟨some 24, .move (Operand.tmp 0), some (23, false), 0⟩,
 ⟨some 25, .move (Operand.tmp 3), some (23, false), 0⟩,
 ⟨some 26, .index 9 (Operand.tmp 24) (Operand.tmp 25), some (23, false), 0⟩,
 ⟨some 27, .binOp BinOp.lss 5 (Operand.tmp 26) (Operand.const (Value.int IntKind.u8 48)) 5, some (23, false), 0⟩,
 ⟨some 28, .pick (Operand.tmp 23) (Operand.const (Value.bool true)) (Operand.tmp 27), some (20, true), 0⟩,
 ⟨some 29, .move (Operand.tmp 28), some (20, true), 0⟩,
 ⟨some 30, .move (Operand.tmp 0), some (29, false), 0⟩,
 ⟨some 31, .move (Operand.tmp 3), some (29, false), 0⟩,
 ⟨some 32, .index 9 (Operand.tmp 30) (Operand.tmp 31), some (29, false), 0⟩,
 ⟨some 33, .binOp BinOp.gtr 5 (Operand.tmp 32) (Operand.const (Value.int IntKind.u8 57)) 5, some (29, false), 0⟩,
 ⟨some 34, .pick (Operand.tmp 29) (Operand.const (Value.bool true)) (Operand.tmp 33), some (20, true), 0⟩,
 ⟨some 35, .pick (Operand.tmp 20) (Operand.tmp 34) (Operand.const (Value.bool false)), none, 0⟩])
 (.cond (Operand.tmp 35)
 (.seq
 (.ops [⟨some 2, .assign (Operand.const (Value.bool false)), none, 0⟩])
 .ret)
 .skip)))))
 (.ops [⟨some 36, .binOp BinOp.add 3 (Operand.tmp 7) (Operand.const (Value.int IntKind.i64 1)) 3, none, 0⟩,
 ⟨some 7, .move (Operand.tmp 36), none, 0⟩])))))))
 (.seq
 (.ops [⟨some 37, .move (Operand.tmp 0), none, 0⟩,
 ⟨some 38, .binOp BinOp.neq 9 (Operand.tmp 37) (Operand.const (Value.string ⟨#[]⟩)) 9, none, 0⟩,
 ⟨some 39, .move (Operand.tmp 38), none, 0⟩,
 ⟨some 40, .move (Operand.tmp 0), some (39, true), 0⟩,
 ⟨some 41, .call ⟨(Callee.builtin Builtin.len), [(Operand.tmp 40)].toArray, #[9]⟩, some (39, true), 0⟩,
 ⟨some 42, .binOp BinOp.leq 3 (Operand.tmp 41) (Operand.const (Value.int IntKind.i64 12)) 3, some (39, true), 0⟩,
 ⟨some 43, .pick (Operand.tmp 39) (Operand.tmp 42) (Operand.const (Value.bool false)), none, 0⟩,
 ⟨some 2, .assign (Operand.tmp 43), none, 0⟩])
 .ret)))
abbrev R42 : List ResultVar := [ResultVar.tmp 2]
theorem ok42 : FnOK Try.prog 42 L42 R42 1 := ⟨_, _, Try.func42, rfl, by kernel_rfl, by kernel_rfl, by kernel_rfl, by kernel_rfl, Nat.le_of_ble_eq_true (by kernel_rfl), by kernel_rfl⟩

/-- slices.ContainsFunc[[]string,string] -/
def L47 : LCode :=
 (.seq
 (.ops [⟨some 4, .assign (Operand.const (Value.bool false)), none, 0⟩])
 (.seq
 (.ops [⟨some 5, .move (Operand.tmp 0), none, 0⟩,
 ⟨some 6, .move (Operand.tmp 1), none, 0⟩,
 ⟨some 7, .call ⟨(Callee.value (Operand.func 62)), [(Operand.tmp 5), (Operand.tmp 6)].toArray, #[23, 77]⟩, none, 0⟩,
 ⟨some 8, .binOp BinOp.geq 3 (Operand.tmp 7) (Operand.const (Value.int IntKind.i64 0)) 3, none, 0⟩,
 ⟨some 4, .assign (Operand.tmp 8), none, 0⟩])
 .ret))
abbrev R47 : List ResultVar := [ResultVar.tmp 4]
theorem ok47 : FnOK Try.prog 47 L47 R47 2 := ⟨_, _, Try.func47, rfl, by kernel_rfl, by kernel_rfl, by kernel_rfl, by kernel_rfl, Nat.le_of_ble_eq_true (by kernel_rfl), by kernel_rfl⟩

/-- ablaut/syms.isLong -/
def L48 : LCode :=
 (.seq
 (.ops [⟨some 2, .assign (Operand.const (Value.bool false)), none, 0⟩])
 (.seq
 (.ops [⟨some 3, .move (Operand.tmp 0), none, 0⟩,
 ⟨some 4, .call ⟨(Callee.builtin Builtin.len), [(Operand.tmp 3)].toArray, #[9]⟩, none, 0⟩,
 ⟨some 5, .binOp BinOp.gtr 3 (Operand.tmp 4) (Operand.const (Value.int IntKind.i64 16)) 3, none, 0⟩,
 ⟨some 2, .assign (Operand.tmp 5), none, 0⟩])
 .ret))
abbrev R48 : List ResultVar := [ResultVar.tmp 2]
theorem ok48 : FnOK Try.prog 48 L48 R48 1 := ⟨_, _, Try.func48, rfl, by kernel_rfl, by kernel_rfl, by kernel_rfl, by kernel_rfl, Nat.le_of_ble_eq_true (by kernel_rfl), by kernel_rfl⟩

/-- ablaut/syms.ValidateWord$1 -/
def L49 : LCode :=
 (.seq
 (.ops [⟨some 2, .assign (Operand.const (Value.bool false)), none, 0⟩])
 (.seq
 (.ops [⟨some 3, .move (Operand.tmp 0), none, 0⟩,
 ⟨some 4, .call ⟨(Callee.value (Operand.func 50)), [(Operand.tmp 3)].toArray, #[9]⟩, none, 0⟩,
 ⟨some 5, .unOp UnOp.not 4 (Operand.tmp 4), none, 0⟩,
 ⟨some 2, .assign (Operand.tmp 5), none, 0⟩])
 .ret))
abbrev R49 : List ResultVar := [ResultVar.tmp 2]
theorem ok49 : FnOK Try.prog 49 L49 R49 1 := ⟨_, _, Try.func49, rfl, by kernel_rfl, by kernel_rfl, by kernel_rfl, by kernel_rfl, Nat.le_of_ble_eq_true (by kernel_rfl), by kernel_rfl⟩

/-- ablaut/syms.isSymbol -/
def L50 : LCode :=
 (.seq
 (.ops [⟨some 2, .assign (Operand.const (Value.bool false)), none, 0⟩])
 (.seq
 (.seq
 (.ops [⟨some 4, .move (Operand.tmp 0), none, 0⟩,
 ⟨some 5, .call ⟨(Callee.builtin Builtin.len), [(Operand.tmp 4)].toArray, #[9]⟩, none, 0⟩,
 ⟨some 6, .move (Operand.const (Value.int IntKind.i64 0)), none, 0⟩])
 (.block 0
 (.loop
 (.seq
 (.ops [⟨some 7, .binOp BinOp.lss 3 (Operand.tmp 6) (Operand.tmp 5) 3, none, 0⟩])
 (.seq
 (.cond (Operand.tmp 7)
 .skip
 (.exit 0))
 (.seq
 (.block 1
 (.seq
 (.ops [⟨some 8, .move (Operand.tmp 6), none, 0⟩,
 ⟨some 3, .assign (Operand.tmp 8), none, 0⟩])
 (.seq
 (.ops [⟨some 9, .move (Operand.tmp 0), none, 0⟩,
 ⟨some 10, .move (Operand.tmp 3), none, 0⟩,
 ⟨some 11, .index 9 (Operand.tmp 9) (Operand.tmp 10), none, 0⟩,
 ⟨some 12, .binOp BinOp.lss 5 (Operand.tmp 11) (Operand.const (Value.int IntKind.u8 33)) 5, none, 0⟩,
 ⟨some 13, .move (Operand.tmp 12), none, 0⟩,
 ⟨some 14, .move (Operand.tmp 0), some (13, false), 0⟩,
 ⟨some 15, .move (Operand.tmp 3), some (13, false), 0⟩,
 ⟨some 16, .index 9 (Operand.tmp 14) (Operand.tmp 15), some (13, false), 0⟩,
 ⟨some 17, .binOp BinOp.gtr 5 (Operand.tmp 16) (Operand.const (Value.int IntKind.u8 126)) 5, some (13, false), 0⟩,
 ⟨some 18, .pick (Operand.tmp 13) (Operand.const (Value.bool true)) (Operand.tmp 17), none, 0⟩,
 ⟨some 19, .move (Operand.tmp 18), none, 0⟩,
 ⟨some 20, .move (Operand.tmp 0), some (19, false), 0⟩,
 ⟨some 21, .move (Operand.tmp 3), some (19, false), 0⟩,
 ⟨some 22, .index 9 (Operand.tmp 20) (Operand.tmp 21), some (19, false), 0⟩,
 ⟨some 23, .binOp BinOp.eql 5 (Operand.tmp 22) (Operand.const (Value.int IntKind.u8 60)) 5, some (19, false), 0⟩,
 ⟨some 24, .pick (Operand.tmp 19) (Operand.const (Value.bool true)) (Operand.tmp 23), none, 0⟩,
 ⟨some 25, .move (Operand.tmp 24), none, 0⟩,
 ⟨some 26, .move (Operand.tmp 0), some (25, false), 0⟩,
 ⟨some 27, .move (Operand.tmp 3), some (25, false), 0⟩,
 ⟨some 28, .index 9 (Operand.tmp 26) (Operand.tmp 27), some (25, false), 0⟩,
 ⟨some 29, .binOp BinOp.eql 5 (Operand.tmp 28) (Operand.const (Value.int IntKind.u8 62)) 5, some (25, false), 0⟩,
 ⟨some 30, .pick (Operand.tmp 25) (Operand.const (Value.bool true)) (Operand.tmp 29), none, 0⟩])
 (.cond (Operand.tmp 30)
 (.seq
 (.ops [⟨some 2, .assign (Operand.const (Value.bool false)), none, 0⟩])
 .ret)
 .skip))))
 (.ops [⟨some 31, .binOp BinOp.add 3 (Operand.tmp 6) (Operand.const (Value.int IntKind.i64 1)) 3, none, 0⟩,
 ⟨some 6, .move (Operand.tmp 31), none, 0⟩])))))))
 (.seq
 (.ops [⟨some 32, .move (Operand.tmp 0), none, 0⟩,
 ⟨some 33, .binOp BinOp.neq 9 (Operand.tmp 32) (Operand.const (Value.string ⟨#[]⟩)) 9, none, 0⟩,
 ⟨some 2, .assign (Operand.tmp 33), none, 0⟩])
 .ret)))
abbrev R50 : List ResultVar := [ResultVar.tmp 2]
theorem ok50 : FnOK Try.prog 50 L50 R50 1 := ⟨_, _, Try.func50, rfl, by kernel_rfl, by kernel_rfl, by kernel_rfl, by kernel_rfl, Nat.le_of_ble_eq_true (by kernel_rfl), by kernel_rfl⟩

/-- (*ablaut/guess.Guesser).all -/
def L51 : LCode :=
 (.seq
 (.ops [⟨some 2, .assign (Operand.const (Value.int IntKind.i64 0)), none, 0⟩])
 (.seq
 (.ops [⟨some 3, .move (Operand.tmp 0), none, 0⟩,
 ⟨some 4, .nilCheck (Operand.tmp 3), none, 0⟩,
 ⟨some 5, .fieldAddr 56 (Operand.tmp 4) 1, none, 0⟩,
 ⟨some 6, .load 54 (Operand.tmp 5), none, 0⟩,
 ⟨some 7, .lookup 54 (Operand.tmp 6) (Operand.const (Value.string ⟨#[]⟩)) false, none, 0⟩,
 ⟨some 8, .lookup 63 (Operand.tmp 7) (Operand.const (Value.string ⟨#[]⟩)) false, none, 0⟩,
 ⟨some 2, .assign (Operand.tmp 8), none, 0⟩])
 .ret))
abbrev R51 : List ResultVar := [ResultVar.tmp 2]
theorem ok51 : FnOK Try.prog 51 L51 R51 1 := ⟨_, _, Try.func51, rfl, by kernel_rfl, by kernel_rfl, by kernel_rfl, by kernel_rfl, Nat.le_of_ble_eq_true (by kernel_rfl), by kernel_rfl⟩

/-- strings.Join -/
def L53 : LCode :=
 (.seq
 (.ops [⟨some 4, .assign (Operand.const (Value.string ⟨#[]⟩)), none, 0⟩])
 (.seq
 (.seq
 (.ops [⟨some 11, .move (Operand.tmp 0), none, 0⟩,
 ⟨some 12, .call ⟨(Callee.builtin Builtin.len), [(Operand.tmp 11)].toArray, #[23]⟩, none, 0⟩])
 (.block 0
 (.seq
 (.ops [⟨some 14, .binOp BinOp.eql 3 (Operand.tmp 12) (Operand.const (Value.int IntKind.i64 0)) 3, none, 0⟩,
 ⟨some 13, .assign (Operand.tmp 14), none, 0⟩])
 (.cond (Operand.tmp 13)
 (.seq
 (.ops [⟨some 4, .assign (Operand.const (Value.string ⟨#[]⟩)), none, 0⟩])
 .ret)
 (.seq
 (.ops [⟨some 16, .binOp BinOp.eql 3 (Operand.tmp 12) (Operand.const (Value.int IntKind.i64 1)) 3, none, 0⟩,
 ⟨some 15, .assign (Operand.tmp 16), none, 0⟩])
 (.cond (Operand.tmp 15)
 (.seq
 (.ops [⟨some 17, .move (Operand.tmp 0), none, 0⟩,
 ⟨some 18, .indexAddr 23 (Operand.tmp 17) (Operand.const (Value.int IntKind.i64 0)), none, 0⟩,
 ⟨some 19, .load 9 (Operand.tmp 18), none, 0⟩,
 ⟨some 4, .assign (Operand.tmp 19), none, 0⟩])
 .ret)
 .skip))))))
 (.seq
 (.ops [⟨some 5, .assign (Operand.const (Value.int IntKind.i64 0)), none, 0⟩])
 (.seq
 (.seq
 (.ops [⟨some 20, .move (Operand.tmp 1), none, 0⟩,
 ⟨some 21, .call ⟨(Callee.builtin Builtin.len), [(Operand.tmp 20)].toArray, #[9]⟩, none, 0⟩,
 ⟨some 22, .binOp BinOp.gtr 3 (Operand.tmp 21) (Operand.const (Value.int IntKind.i64 0)) 3, none, 0⟩])
 (.cond (Operand.tmp 22)
 (.seq
 (.seq
 (.ops [⟨some 23, .move (Operand.tmp 1), none, 0⟩,
 ⟨some 24, .call ⟨(Callee.builtin Builtin.len), [(Operand.tmp 23)].toArray, #[9]⟩, none, 0⟩,
 ⟨some 25, .move (Operand.tmp 0), none, 0⟩,
 ⟨some 26, .call ⟨(Callee.builtin Builtin.len), [(Operand.tmp 25)].toArray, #[23]⟩, none, 0⟩,
 ⟨some 27, .binOp BinOp.sub 3 (Operand.tmp 26) (Operand.const (Value.int IntKind.i64 1)) 3, none, 0⟩,
 ⟨some 28, .binOp BinOp.quo 3 (Operand.const (Value.int IntKind.i64 9223372036854775807)) (Operand.tmp 27) 3, none, 0⟩,
 ⟨some 29, .binOp BinOp.geq 3 (Operand.tmp 24) (Operand.tmp 28) 3, none, 0⟩])
 (.cond (Operand.tmp 29)
 (.ops [⟨some 30, .makeInterface 9 (Operand.const (Value.string ⟨#[115, 116, 114, 105, 110, 103, 115, 58, 32, 74, 111, 105, 110, 32, 111, 117, 116, 112, 117, 116, 32, 108, 101, 110, 103, 116, 104, 32, 111, 118, 101, 114, 102, 108, 111, 119]⟩)), none, 0⟩,
 ⟨none, .panic (Operand.tmp 30), none, 0⟩])
 .skip))
 (.ops [⟨some 31, .move (Operand.tmp 5), none, 0⟩,
 ⟨some 32, .move (Operand.tmp 1), none, 0⟩,
 ⟨some 33, .call ⟨(Callee.builtin Builtin.len), [(Operand.tmp 32)].toArray, #[9]⟩, none, 0⟩,
 ⟨some 34, .move (Operand.tmp 0), none, 0⟩,
 ⟨some 35, .call ⟨(Callee.builtin Builtin.len), [(Operand.tmp 34)].toArray, #[23]⟩, none, 0⟩,
 ⟨some 36, .binOp BinOp.sub 3 (Operand.tmp 35) (Operand.const (Value.int IntKind.i64 1)) 3, none, 0⟩,
 ⟨some 37, .binOp BinOp.mul 3 (Operand.tmp 33) (Operand.tmp 36) 3, none, 0⟩,
 ⟨some 38, .binOp BinOp.add 3 (Operand.tmp 31) (Operand.tmp 37) 3, none, 0⟩,
 ⟨some 5, .assign (Operand.tmp 38), none, 0⟩]))
 .skip))
 (.seq
 (.seq
 (.ops [⟨some 39, .move (Operand.tmp 0), none, 0⟩,
 ⟨some 40, .call ⟨(Callee.builtin Builtin.len), [(Operand.tmp 39)].toArray, #[23]⟩, none, 0⟩,
 ⟨some 41, .move (Operand.const (Value.int IntKind.i64 0)), none, 0⟩])
 (.block 1
 (.loop
 (.seq
 (.ops [⟨some 42, .binOp BinOp.lss 3 (Operand.tmp 41) (Operand.tmp 40) 3, none, 0⟩])
 (.seq
 (.cond (Operand.tmp 42)
 .skip
 (.exit 1))
 (.seq
 (.block 2
 (.seq
 (.ops [⟨some 43, .indexAddr 23 (Operand.tmp 39) (Operand.tmp 41), none, 0⟩,
 ⟨some 44, .load 9 (Operand.tmp 43), none, 0⟩,
 ⟨some 7, .assign (Operand.tmp 44), none, 0⟩])
 (.seq
 (.seq
 (.ops [⟨some 45, .move (Operand.tmp 7), none, 0⟩,
 ⟨some 46, .call ⟨(Callee.builtin Builtin.len), [(Operand.tmp 45)].toArray, #[9]⟩, none, 0⟩,
 ⟨some 47, .move (Operand.tmp 5), none, 0⟩,
 ⟨some 48, .binOp BinOp.sub 3 (Operand.const (Value.int IntKind.i64 9223372036854775807)) (Operand.tmp 47) 3, none, 0⟩,
 ⟨some 49, .binOp BinOp.gtr 3 (Operand.tmp 46) (Operand.tmp 48) 3, none, 0⟩])
 (.cond (Operand.tmp 49)
 (.ops [⟨some 50, .makeInterface 9 (Operand.const (Value.string ⟨#[115, 116, 114, 105, 110, 103, 115, 58, 32, 74, 111, 105, 110, 32, 111, 117, 116, 112, 117, 116, 32, 108, 101, 110, 103, 116, 104, 32, 111, 118, 101, 114, 102, 108, 111, 119]⟩)), none, 0⟩,
 ⟨none, .panic (Operand.tmp 50), none, 0⟩])
 .skip))
 (.ops [⟨some 51, .move (Operand.tmp 5), none, 0⟩,
 ⟨some 52, .move (Operand.tmp 7), none, 0⟩,
 ⟨some 53, .call ⟨(Callee.builtin Builtin.len), [(Operand.tmp 52)].toArray, #[9]⟩, none, 0⟩,
 ⟨some 54, .binOp BinOp.add 3 (Operand.tmp 51) (Operand.tmp 53) 3, none, 0⟩,
 ⟨some 5, .assign (Operand.tmp 54), none, 0⟩]))))
 (.ops [⟨some 55, .binOp BinOp.add 3 (Operand.tmp 41) (Operand.const (Value.int IntKind.i64 1)) 3, none, 0⟩,
 ⟨some 41, .move (Operand.tmp 55), none, 0⟩])))))))
 (.seq
 (.ops [⟨some 8, .alloc 95, none, 0⟩])
 (.seq
 (.ops [⟨some 56, .move (Operand.tmp 5), none, 0⟩,
 ⟨some 57, .call ⟨(Callee.value (Operand.func 63)), [(Operand.tmp 8), (Operand.tmp 56)].toArray, #[95, 3]⟩, none, 0⟩])
 (.seq
 (.ops [⟨some 58, .move (Operand.tmp 0), none, 0⟩,
 ⟨some 59, .indexAddr 23 (Operand.tmp 58) (Operand.const (Value.int IntKind.i64 0)), none, 0⟩,
 ⟨some 60, .load 9 (Operand.tmp 59), none, 0⟩,
 ⟨some 61, .call ⟨(Callee.value (Operand.func 64)), [(Operand.tmp 8), (Operand.tmp 60)].toArray, #[95, 9]⟩, none, 0⟩])
 (.seq
 (.seq
 (.ops [⟨some 62, .move (Operand.tmp 0), none, 0⟩,
 ⟨some 63, .slice 23 (Operand.tmp 62) (some (Operand.const (Value.int IntKind.i64 1))) none none, none, 0⟩,
 ⟨some 64, .call ⟨(Callee.builtin Builtin.len), [(Operand.tmp 63)].toArray, #[23]⟩, none, 0⟩,
 ⟨some 65, .move (Operand.const (Value.int IntKind.i64 0)), none, 0⟩])
 (.block 3
 (.loop
 (.seq
 (.ops [⟨some 66, .binOp BinOp.lss 3 (Operand.tmp 65) (Operand.tmp 64) 3, none, 0⟩])
 (.seq
 (.cond (Operand.tmp 66)
 .skip
 (.exit 3))
 (.seq
 (.block 4
 (.seq
 (.ops [⟨some 67, .indexAddr 23 (Operand.tmp 63) (Operand.tmp 65), none, 0⟩,
 ⟨some 68, .load 9 (Operand.tmp 67), none, 0⟩,
 ⟨some 10, .assign (Operand.tmp 68), none, 0⟩])
 (.seq
 (.ops [⟨some 69, .move (Operand.tmp 1), none, 0⟩,
 ⟨some 70, .call ⟨(Callee.value (Operand.func 64)), [(Operand.tmp 8), (Operand.tmp 69)].toArray, #[95, 9]⟩, none, 0⟩])
 (.ops [⟨some 71, .move (Operand.tmp 10), none, 0⟩,
 ⟨some 72, .call ⟨(Callee.value (Operand.func 64)), [(Operand.tmp 8), (Operand.tmp 71)].toArray, #[95, 9]⟩, none, 0⟩]))))
 (.ops [⟨some 73, .binOp BinOp.add 3 (Operand.tmp 65) (Operand.const (Value.int IntKind.i64 1)) 3, none, 0⟩,
 ⟨some 65, .move (Operand.tmp 73), none, 0⟩])))))))
 (.seq
 (.ops [⟨some 74, .call ⟨(Callee.value (Operand.func 65)), [(Operand.tmp 8)].toArray, #[95]⟩, none, 0⟩,
 ⟨some 4, .assign (Operand.tmp 74), none, 0⟩])
 .ret))))))))))
abbrev R53 : List ResultVar := [ResultVar.tmp 4]
theorem ok53 : FnOK Try.prog 53 L53 R53 2 := ⟨_, _, Try.func53, rfl, by kernel_rfl, by kernel_rfl, by kernel_rfl, by kernel_rfl, Nat.le_of_ble_eq_true (by kernel_rfl), by kernel_rfl⟩
end Go.Proofs.Ythchlpikcpidaaa.Vs
