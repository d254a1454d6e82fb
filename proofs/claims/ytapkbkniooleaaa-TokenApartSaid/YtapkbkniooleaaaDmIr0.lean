/- The seat's functions as the engine Dm reads them, written by dgen.py. -/
import Derived.Test.YtapkbkniooleaaaDmFn
import Derived.Test.YtapkbkniooleaaaProg
import Derived.KernelRfl
namespace Go.Proofs.Ytapkbkniooleaaa.Vs
set_option linter.unusedVariables false
set_option maxRecDepth 100000
/-- ablaut/ablautlaw17.TokenApart -/
def L4 : LCode :=
 (.seq
 (.ops [⟨some 2, .box 24 (Operand.tmp 0), none, 0⟩,
 ⟨some 4, .assign (Operand.const (Value.bool false)), none, 0⟩])
 (.seq
 (.seq
 (.ops [⟨some 12, .load 24 (Operand.tmp 2), none, 0⟩,
 ⟨some 13, .call ⟨(Callee.value (Operand.func 6)), [(Operand.tmp 12)].toArray, #[24]⟩, none, 0⟩,
 ⟨some 14, .move (Operand.tmp 13), none, 0⟩,
 ⟨some 15, .move (Operand.tmp 1), some (14, false), 0⟩,
 ⟨some 16, .call ⟨(Callee.builtin Builtin.len), [(Operand.tmp 15)].toArray, #[9]⟩, some (14, false), 0⟩,
 ⟨some 17, .binOp BinOp.gtr 3 (Operand.tmp 16) (Operand.const (Value.int IntKind.i64 24000)) 3, some (14, false), 0⟩,
 ⟨some 18, .pick (Operand.tmp 14) (Operand.const (Value.bool true)) (Operand.tmp 17), none, 0⟩])
 (.cond (Operand.tmp 18)
 (.seq
 (.ops [⟨some 19, .call ⟨(Callee.value (Operand.func 7)), [].toArray, #[]⟩, none, 0⟩,
 ⟨some 4, .assign (Operand.tmp 19), none, 0⟩])
 .ret)
 .skip))
 (.seq
 (.ops [⟨some 21, .load 24 (Operand.tmp 2), none, 0⟩,
 ⟨some 22, .move (Operand.tmp 1), none, 0⟩,
 ⟨some 23, .call ⟨(Callee.value (Operand.func 8)), [(Operand.tmp 21), (Operand.tmp 22)].toArray, #[24, 9]⟩, none, 0⟩,
 ⟨some 20, .move (Operand.tmp 23), none, 0⟩,
 ⟨some 24, .extract (Operand.tmp 20) 0, none, 0⟩,
 ⟨some 25, .extract (Operand.tmp 20) 1, none, 0⟩,
 ⟨some 5, .assign (Operand.tmp 24), none, 0⟩,
 ⟨some 6, .assign (Operand.tmp 25), none, 0⟩])
 (.seq
 (.seq
 (.ops [⟨some 26, .move (Operand.tmp 6), none, 0⟩,
 ⟨some 27, .binOp BinOp.neq 28 (Operand.tmp 26) (Operand.const (Value.int IntKind.i64 0)) 28, none, 0⟩])
 (.cond (Operand.tmp 27)
 (.seq
 (.ops [⟨some 28, .call ⟨(Callee.value (Operand.func 7)), [].toArray, #[]⟩, none, 0⟩,
 ⟨some 4, .assign (Operand.tmp 28), none, 0⟩])
 .ret)
 .skip))
 (.seq
 (.ops [⟨some 7, .assign (Operand.const (Value.int IntKind.i64 0)), none, 0⟩])
 (.seq
 (.seq
 (.ops [⟨some 8, .assign (Operand.const (Value.int IntKind.i64 0)), none, 0⟩])
 (.block 0
 (.loop
 (.seq
 (.seq
 (.ops [⟨some 29, .move (Operand.tmp 8), none, 0⟩,
 ⟨some 30, .move (Operand.tmp 5), none, 0⟩,
 ⟨some 31, .call ⟨(Callee.builtin Builtin.len), [(Operand.tmp 30)].toArray, #[27]⟩, none, 0⟩,
 ⟨some 32, .binOp BinOp.leq 3 (Operand.tmp 29) (Operand.tmp 31) 3, none, 0⟩])
 (.cond (Operand.tmp 32)
 .skip
 (.exit 0)))
 (.seq
 (.block 1
 (.seq
 (.ops [⟨some 35, .move (Operand.tmp 1), none, 0⟩,
 ⟨some 36, .call ⟨(Callee.builtin Builtin.len), [(Operand.tmp 35)].toArray, #[9]⟩, none, 0⟩,
 ⟨some 9, .assign (Operand.tmp 36), none, 0⟩])
 (.seq
 (.seq
 (.ops [⟨some 37, .move (Operand.tmp 8), none, 0⟩,
 ⟨some 38, .move (Operand.tmp 5), none, 0⟩,
 ⟨some 39, .call ⟨(Callee.builtin Builtin.len), [(Operand.tmp 38)].toArray, #[27]⟩, none, 0⟩,
 ⟨some 40, .binOp BinOp.lss 3 (Operand.tmp 37) (Operand.tmp 39) 3, none, 0⟩])
 (.cond (Operand.tmp 40)
 (.ops [⟨some 41, .move (Operand.tmp 5), none, 0⟩,
 ⟨some 42, .move (Operand.tmp 8), none, 0⟩,
 ⟨some 43, .indexAddr 27 (Operand.tmp 41) (Operand.tmp 42), none, 0⟩,
 ⟨some 44, .fieldAddr 35 (Operand.tmp 43) 0, none, 0⟩,
 ⟨some 45, .load 3 (Operand.tmp 44), none, 0⟩,
 ⟨some 9, .assign (Operand.tmp 45), none, 0⟩])
 .skip))
 (.seq
 (.seq
 (.ops [⟨some 46, .move (Operand.tmp 9), none, 0⟩,
 ⟨some 47, .move (Operand.tmp 7), none, 0⟩,
 ⟨some 48, .binOp BinOp.lss 3 (Operand.tmp 46) (Operand.tmp 47) 3, none, 0⟩,
 ⟨some 49, .move (Operand.tmp 48), none, 0⟩,
 ⟨some 50, .move (Operand.tmp 9), some (49, false), 0⟩,
 ⟨some 51, .move (Operand.tmp 1), some (49, false), 0⟩,
 ⟨some 52, .call ⟨(Callee.builtin Builtin.len), [(Operand.tmp 51)].toArray, #[9]⟩, some (49, false), 0⟩,
 ⟨some 53, .binOp BinOp.gtr 3 (Operand.tmp 50) (Operand.tmp 52) 3, some (49, false), 0⟩,
 ⟨some 54, .pick (Operand.tmp 49) (Operand.const (Value.bool true)) (Operand.tmp 53), none, 0⟩])
 (.cond (Operand.tmp 54)
 (.seq
 (.ops [⟨some 4, .assign (Operand.const (Value.bool false)), none, 0⟩])
 .ret)
 .skip))
 (.seq
 (.block 2
 (.loop
 (.seq
 (.seq
 (.ops [⟨some 55, .move (Operand.tmp 7), none, 0⟩,
 ⟨some 56, .move (Operand.tmp 9), none, 0⟩,
 ⟨some 57, .binOp BinOp.lss 3 (Operand.tmp 55) (Operand.tmp 56) 3, none, 0⟩])
 (.cond (Operand.tmp 57)
 .skip
 (.exit 2)))
 (.seq
 (.block 3
 (.seq
 (.ops [⟨some 60, .move (Operand.tmp 1), none, 0⟩,
 ⟨some 61, .move (Operand.tmp 7), none, 0⟩,
 ⟨some 62, .index 9 (Operand.tmp 60) (Operand.tmp 61), none, 0⟩,
 ⟨some 63, .binOp BinOp.neq 5 (Operand.tmp 62) (Operand.const (Value.int IntKind.u8 9)) 5, none, 0⟩,
 ⟨some 64, .move (Operand.tmp 63), none, 0⟩,
 ⟨some 65, .move (Operand.tmp 1), some (64, true), 0⟩,
 ⟨some 66, .move (Operand.tmp 7), some (64, true), 0⟩,
 ⟨some 67, .index 9 (Operand.tmp 65) (Operand.tmp 66), some (64, true), 0⟩,
 ⟨some 68, .binOp BinOp.neq 5 (Operand.tmp 67) (Operand.const (Value.int IntKind.u8 10)) 5, some (64, true), 0⟩,
 ⟨some 69, .pick (Operand.tmp 64) (Operand.tmp 68) (Operand.const (Value.bool false)), none, 0⟩,
 ⟨some 70, .move (Operand.tmp 69), none, 0⟩,
 ⟨some 71, .move (Operand.tmp 1), some (70, true), 0⟩,
 ⟨some 72, .move (Operand.tmp 7), some (70, true), 0⟩,
 ⟨some 73, .index 9 (Operand.tmp 71) (Operand.tmp 72), some (70, true), 0⟩,
 ⟨some 74, .binOp BinOp.neq 5 (Operand.tmp 73) (Operand.const (Value.int IntKind.u8 13)) 5, some (70, true), 0⟩,
 ⟨some 75, .pick (Operand.tmp 70) (Operand.tmp 74) (Operand.const (Value.bool false)), none, 0⟩,
 ⟨some 76, .move (Operand.tmp 75), none, 0⟩,
 ⟨some 77, .move (Operand.tmp 1), some (76, true), 0⟩,
 ⟨some 78, .move (Operand.tmp 7), some (76, true), 0⟩,
 ⟨some 79, .index 9 (Operand.tmp 77) (Operand.tmp 78), some (76, true), 0⟩,
 ⟨some 80, .binOp BinOp.neq 5 (Operand.tmp 79) (Operand.const (Value.int IntKind.u8 32)) 5, some (76, true), 0⟩,
 ⟨some 81, .pick (Operand.tmp 76) (Operand.tmp 80) (Operand.const (Value.bool false)), none, 0⟩])
 (.cond (Operand.tmp 81)
 (.seq
 (.ops [⟨some 4, .assign (Operand.const (Value.bool false)), none, 0⟩])
 .ret)
 .skip)))
 (.ops [⟨some 58, .move (Operand.tmp 7), none, 0⟩,
 ⟨some 59, .binOp BinOp.add 3 (Operand.tmp 58) (Operand.const (Value.int IntKind.i64 1)) 3, none, 0⟩,
 ⟨some 7, .assign (Operand.tmp 59), none, 0⟩])))))
 (.seq
 (.ops [⟨some 82, .move (Operand.tmp 8), none, 0⟩,
 ⟨some 83, .move (Operand.tmp 5), none, 0⟩,
 ⟨some 84, .call ⟨(Callee.builtin Builtin.len), [(Operand.tmp 83)].toArray, #[27]⟩, none, 0⟩,
 ⟨some 85, .binOp BinOp.lss 3 (Operand.tmp 82) (Operand.tmp 84) 3, none, 0⟩])
 (.cond (Operand.tmp 85)
 (.seq
 (.seq
 (.draw [⟨some 86, .move (Operand.tmp 5), none, 0⟩,
 ⟨some 87, .move (Operand.tmp 8), none, 0⟩,
 ⟨some 88, .indexAddr 27 (Operand.tmp 86) (Operand.tmp 87), none, 0⟩,
 ⟨some 89, .fieldAddr 35 (Operand.tmp 88) 1, none, 0⟩,
 ⟨some 90, .load 3 (Operand.tmp 89), none, 0⟩,
 ⟨some 91, .move (Operand.tmp 5), none, 0⟩,
 ⟨some 92, .move (Operand.tmp 8), none, 0⟩,
 ⟨some 93, .indexAddr 27 (Operand.tmp 91) (Operand.tmp 92), none, 0⟩,
 ⟨some 94, .fieldAddr 35 (Operand.tmp 93) 0, none, 0⟩,
 ⟨some 95, .load 3 (Operand.tmp 94), none, 0⟩,
 ⟨some 96, .binOp BinOp.leq 3 (Operand.tmp 90) (Operand.tmp 95) 3, none, 0⟩,
 ⟨some 97, .move (Operand.tmp 96), none, 0⟩,
 ⟨some 98, .move (Operand.tmp 5), some (97, false), 0⟩,
 ⟨some 99, .move (Operand.tmp 8), some (97, false), 0⟩,
 ⟨some 100, .indexAddr 27 (Operand.tmp 98) (Operand.tmp 99), some (97, false), 0⟩,
 ⟨some 101, .fieldAddr 35 (Operand.tmp 100) 1, some (97, false), 0⟩,
 ⟨some 102, .load 3 (Operand.tmp 101), some (97, false), 0⟩,
 ⟨some 103, .move (Operand.tmp 1), some (97, false), 0⟩,
 ⟨some 104, .call ⟨(Callee.builtin Builtin.len), [(Operand.tmp 103)].toArray, #[9]⟩, some (97, false), 0⟩,
 ⟨some 105, .binOp BinOp.gtr 3 (Operand.tmp 102) (Operand.tmp 104) 3, some (97, false), 0⟩,
 ⟨some 106, .pick (Operand.tmp 97) (Operand.const (Value.bool true)) (Operand.tmp 105), none, 0⟩,
 ⟨some 107, .move (Operand.tmp 106), none, 0⟩,
 ⟨some 108, .move (Operand.tmp 5), some (107, false), 0⟩,
 ⟨some 109, .move (Operand.tmp 8), some (107, false), 0⟩,
 ⟨some 110, .indexAddr 27 (Operand.tmp 108) (Operand.tmp 109), some (107, false), 0⟩,
 ⟨some 111, .fieldAddr 35 (Operand.tmp 110) 3, some (107, false), 0⟩,
 ⟨some 112, .load 9 (Operand.tmp 111), some (107, false), 0⟩,
 ⟨some 113, .move (Operand.tmp 1), some (107, false), 0⟩,
 ⟨some 114, .move (Operand.tmp 5), some (107, false), 0⟩,
 ⟨some 115, .move (Operand.tmp 8), some (107, false), 0⟩,
 ⟨some 116, .indexAddr 27 (Operand.tmp 114) (Operand.tmp 115), some (107, false), 0⟩,
 ⟨some 117, .fieldAddr 35 (Operand.tmp 116) 0, some (107, false), 0⟩,
 ⟨some 118, .load 3 (Operand.tmp 117), some (107, false), 0⟩,
 ⟨some 119, .move (Operand.tmp 5), some (107, false), 0⟩,
 ⟨some 120, .move (Operand.tmp 8), some (107, false), 0⟩,
 ⟨some 121, .indexAddr 27 (Operand.tmp 119) (Operand.tmp 120), some (107, false), 0⟩,
 ⟨some 122, .fieldAddr 35 (Operand.tmp 121) 1, some (107, false), 0⟩,
 ⟨some 123, .load 3 (Operand.tmp 122), some (107, false), 0⟩,
 ⟨some 124, .slice 9 (Operand.tmp 113) (some (Operand.tmp 118)) (some (Operand.tmp 123)) none, some (107, false), 0⟩,
 ⟨some 125, .binOp BinOp.neq 9 (Operand.tmp 112) (Operand.tmp 124) 9, some (107, false), 0⟩,
 ⟨some 126, .pick (Operand.tmp 107) (Operand.const (Value.bool true)) (Operand.tmp 125), none, 0⟩] true [39, 40] [0, 1, 2, 3, 5, 6, 7, 8, 4, 9, 10, 11, 12, 13, 14, 15, 16, 17, 18, 19, 20, 21, 22, 23, 24, 25, 26, 27, 28, 29, 30, 31, 32, 33, 34, 35, 36, 37, 38, 39, 40])
 (.cond (Operand.tmp 126)
 (.seq
 (.ops [⟨some 4, .assign (Operand.const (Value.bool false)), none, 0⟩])
 .ret)
 .skip))
 (.ops [⟨some 127, .move (Operand.tmp 5), none, 0⟩,
 ⟨some 128, .move (Operand.tmp 8), none, 0⟩,
 ⟨some 129, .indexAddr 27 (Operand.tmp 127) (Operand.tmp 128), none, 0⟩,
 ⟨some 130, .fieldAddr 35 (Operand.tmp 129) 1, none, 0⟩,
 ⟨some 131, .load 3 (Operand.tmp 130), none, 0⟩,
 ⟨some 7, .assign (Operand.tmp 131), none, 0⟩]))
 .skip)))))))
 (.ops [⟨some 33, .move (Operand.tmp 8), none, 0⟩,
 ⟨some 34, .binOp BinOp.add 3 (Operand.tmp 33) (Operand.const (Value.int IntKind.i64 1)) 3, none, 0⟩,
 ⟨some 8, .assign (Operand.tmp 34), none, 0⟩]))))))
 (.seq
 (.ops [⟨some 133, .move (Operand.tmp 1), none, 0⟩,
 ⟨some 134, .move (Operand.tmp 5), none, 0⟩,
 ⟨some 135, .call ⟨(Callee.value (Operand.func 13)), [(Operand.tmp 133), (Operand.tmp 134)].toArray, #[9, 27]⟩, none, 0⟩,
 ⟨some 132, .move (Operand.tmp 135), none, 0⟩,
 ⟨some 136, .extract (Operand.tmp 132) 0, none, 0⟩,
 ⟨some 137, .extract (Operand.tmp 132) 1, none, 0⟩,
 ⟨some 10, .assign (Operand.tmp 136), none, 0⟩,
 ⟨some 11, .assign (Operand.tmp 137), none, 0⟩])
 (.seq
 (.ops [⟨some 138, .move (Operand.tmp 11), none, 0⟩,
 ⟨some 139, .binOp BinOp.eql 28 (Operand.tmp 138) (Operand.const (Value.int IntKind.i64 0)) 28, none, 0⟩,
 ⟨some 140, .move (Operand.tmp 139), none, 0⟩,
 ⟨some 141, .move (Operand.tmp 10), some (140, true), 0⟩,
 ⟨some 142, .move (Operand.tmp 1), some (140, true), 0⟩,
 ⟨some 143, .binOp BinOp.eql 9 (Operand.tmp 141) (Operand.tmp 142) 9, some (140, true), 0⟩,
 ⟨some 144, .pick (Operand.tmp 140) (Operand.tmp 143) (Operand.const (Value.bool false)), none, 0⟩,
 ⟨some 145, .move (Operand.tmp 144), none, 0⟩,
 ⟨some 146, .call ⟨(Callee.value (Operand.func 7)), [].toArray, #[]⟩, some (145, true), 0⟩,
 ⟨some 147, .pick (Operand.tmp 145) (Operand.tmp 146) (Operand.const (Value.bool false)), none, 0⟩,
 ⟨some 4, .assign (Operand.tmp 147), none, 0⟩])
 .ret))))))))
abbrev R4 : List ResultVar := [ResultVar.tmp 4]
theorem ok4 : FnOK Try.prog 4 L4 R4 2 := ⟨_, _, Try.func4, rfl, by kernel_rfl, by kernel_rfl, by kernel_rfl, by kernel_rfl, Nat.le_of_ble_eq_true (by kernel_rfl), by kernel_rfl⟩

/-- ablaut/ablautlaw17.over -/
def L6 : LCode :=
 (.seq
 (.ops [⟨some 1, .box 24 (Operand.tmp 0), none, 0⟩,
 ⟨some 2, .assign (Operand.const (Value.bool false)), none, 0⟩])
 (.seq
 (.ops [⟨some 3, .assign (Operand.const (Value.int IntKind.i64 0)), none, 0⟩])
 (.seq
 (.ops [⟨some 7, .fieldAddr 24 (Operand.tmp 1) 0, none, 0⟩,
 ⟨some 8, .load 22 (Operand.tmp 7), none, 0⟩,
 ⟨some 9, .fieldAddr 24 (Operand.tmp 1) 1, none, 0⟩,
 ⟨some 10, .load 22 (Operand.tmp 9), none, 0⟩,
 ⟨some 11, .fieldAddr 24 (Operand.tmp 1) 2, none, 0⟩,
 ⟨some 12, .load 22 (Operand.tmp 11), none, 0⟩,
 ⟨some 13, .fieldAddr 24 (Operand.tmp 1) 3, none, 0⟩,
 ⟨some 14, .load 22 (Operand.tmp 13), none, 0⟩,
 ⟨some 15, .build 39 [(0, (Operand.tmp 8)), (1, (Operand.tmp 10)), (2, (Operand.tmp 12)), (3, (Operand.tmp 14))].toArray, none, 0⟩,
 ⟨some 4, .alloc 39, none, 0⟩,
 ⟨none, .store 39 (Operand.tmp 4) (Operand.tmp 15), none, 0⟩])
 (.seq
 (.seq
 (.ops [⟨some 5, .assign (Operand.const (Value.int IntKind.i64 0)), none, 0⟩])
 (.block 0
 (.loop
 (.seq
 (.seq
 (.ops [⟨some 16, .move (Operand.tmp 5), none, 0⟩,
 ⟨some 17, .binOp BinOp.lss 3 (Operand.tmp 16) (Operand.const (Value.int IntKind.i64 4)) 3, none, 0⟩])
 (.cond (Operand.tmp 17)
 .skip
 (.exit 0)))
 (.seq
 (.block 1
 (.seq
 (.seq
 (.ops [⟨some 20, .move (Operand.tmp 5), none, 0⟩,
 ⟨some 21, .indexAddr 39 (Operand.tmp 4) (Operand.tmp 20), none, 0⟩,
 ⟨some 22, .load 22 (Operand.tmp 21), none, 0⟩,
 ⟨some 23, .call ⟨(Callee.builtin Builtin.len), [(Operand.tmp 22)].toArray, #[22]⟩, none, 0⟩,
 ⟨some 24, .binOp BinOp.gtr 3 (Operand.tmp 23) (Operand.const (Value.int IntKind.i64 1200)) 3, none, 0⟩])
 (.cond (Operand.tmp 24)
 (.seq
 (.ops [⟨some 2, .assign (Operand.const (Value.bool true)), none, 0⟩])
 .ret)
 .skip))
 (.seq
 (.ops [⟨some 6, .assign (Operand.const (Value.int IntKind.i64 0)), none, 0⟩])
 (.block 2
 (.loop
 (.seq
 (.seq
 (.ops [⟨some 25, .move (Operand.tmp 6), none, 0⟩,
 ⟨some 26, .move (Operand.tmp 5), none, 0⟩,
 ⟨some 27, .indexAddr 39 (Operand.tmp 4) (Operand.tmp 26), none, 0⟩,
 ⟨some 28, .load 22 (Operand.tmp 27), none, 0⟩,
 ⟨some 29, .call ⟨(Callee.builtin Builtin.len), [(Operand.tmp 28)].toArray, #[22]⟩, none, 0⟩,
 ⟨some 30, .binOp BinOp.lss 3 (Operand.tmp 25) (Operand.tmp 29) 3, none, 0⟩,
 ⟨some 31, .move (Operand.tmp 30), none, 0⟩,
 ⟨some 32, .move (Operand.tmp 3), some (31, true), 0⟩,
 ⟨some 33, .binOp BinOp.leq 3 (Operand.tmp 32) (Operand.const (Value.int IntKind.i64 768000)) 3, some (31, true), 0⟩,
 ⟨some 34, .pick (Operand.tmp 31) (Operand.tmp 33) (Operand.const (Value.bool false)), none, 0⟩])
 (.cond (Operand.tmp 34)
 .skip
 (.exit 2)))
 (.seq
 (.block 3
 (.ops [⟨some 37, .move (Operand.tmp 3), none, 0⟩,
 ⟨some 38, .move (Operand.tmp 5), none, 0⟩,
 ⟨some 39, .indexAddr 39 (Operand.tmp 4) (Operand.tmp 38), none, 0⟩,
 ⟨some 40, .load 22 (Operand.tmp 39), none, 0⟩,
 ⟨some 41, .move (Operand.tmp 6), none, 0⟩,
 ⟨some 42, .indexAddr 22 (Operand.tmp 40) (Operand.tmp 41), none, 0⟩,
 ⟨some 43, .load 9 (Operand.tmp 42), none, 0⟩,
 ⟨some 44, .call ⟨(Callee.builtin Builtin.len), [(Operand.tmp 43)].toArray, #[9]⟩, none, 0⟩,
 ⟨some 45, .binOp BinOp.add 3 (Operand.tmp 37) (Operand.tmp 44) 3, none, 0⟩,
 ⟨some 3, .assign (Operand.tmp 45), none, 0⟩]))
 (.ops [⟨some 35, .move (Operand.tmp 6), none, 0⟩,
 ⟨some 36, .binOp BinOp.add 3 (Operand.tmp 35) (Operand.const (Value.int IntKind.i64 1)) 3, none, 0⟩,
 ⟨some 6, .assign (Operand.tmp 36), none, 0⟩]))))))))
 (.ops [⟨some 18, .move (Operand.tmp 5), none, 0⟩,
 ⟨some 19, .binOp BinOp.add 3 (Operand.tmp 18) (Operand.const (Value.int IntKind.i64 1)) 3, none, 0⟩,
 ⟨some 5, .assign (Operand.tmp 19), none, 0⟩]))))))
 (.seq
 (.ops [⟨some 46, .move (Operand.tmp 3), none, 0⟩,
 ⟨some 47, .binOp BinOp.gtr 3 (Operand.tmp 46) (Operand.const (Value.int IntKind.i64 768000)) 3, none, 0⟩,
 ⟨some 2, .assign (Operand.tmp 47), none, 0⟩])
 .ret)))))
abbrev R6 : List ResultVar := [ResultVar.tmp 2]
theorem ok6 : FnOK Try.prog 6 L6 R6 1 := ⟨_, _, Try.func6, rfl, by kernel_rfl, by kernel_rfl, by kernel_rfl, by kernel_rfl, Nat.le_of_ble_eq_true (by kernel_rfl), by kernel_rfl⟩

/-- ablaut/ablautlaw17.known -/
def L7 : LCode :=
 (.seq
 (.ops [⟨some 0, .assign (Operand.const (Value.bool false)), none, 0⟩])
 (.seq
 (.ops [⟨some 6, .buildSlice 22 1 [(0, (Operand.const (Value.string ⟨#[68, 114, 46]⟩)))].toArray, none, 0⟩,
 ⟨some 7, .buildSlice 22 1 [(0, (Operand.const (Value.string ⟨#[39, 115]⟩)))].toArray, none, 0⟩,
 ⟨some 8, .build 24 [(1, (Operand.tmp 6)), (3, (Operand.tmp 7))].toArray, none, 0⟩,
 ⟨some 1, .alloc 24, none, 0⟩,
 ⟨none, .store 24 (Operand.tmp 1) (Operand.tmp 8), none, 0⟩])
 (.seq
 (.ops [⟨some 10, .load 24 (Operand.tmp 1), none, 0⟩,
 ⟨some 11, .call ⟨(Callee.value (Operand.func 8)), [(Operand.tmp 10), (Operand.const (Value.string ⟨#[68, 114, 46, 32, 76, 101, 101, 39, 115, 32, 99, 97, 116, 46, 32, 73, 116, 32, 114, 97, 110, 46]⟩))].toArray, #[24, 9]⟩, none, 0⟩,
 ⟨some 9, .move (Operand.tmp 11), none, 0⟩,
 ⟨some 12, .extract (Operand.tmp 9) 0, none, 0⟩,
 ⟨some 13, .extract (Operand.tmp 9) 1, none, 0⟩,
 ⟨some 2, .assign (Operand.tmp 12), none, 0⟩,
 ⟨some 3, .assign (Operand.tmp 13), none, 0⟩])
 (.seq
 (.ops [⟨some 15, .load 24 (Operand.tmp 1), none, 0⟩,
 ⟨some 16, .call ⟨(Callee.value (Operand.func 15)), [(Operand.tmp 15), (Operand.const (Value.string ⟨#[68, 114, 46, 32, 76, 101, 101, 39, 115, 32, 99, 97, 116, 46, 32, 73, 116, 32, 114, 97, 110, 46]⟩))].toArray, #[24, 9]⟩, none, 0⟩,
 ⟨some 14, .move (Operand.tmp 16), none, 0⟩,
 ⟨some 17, .extract (Operand.tmp 14) 0, none, 0⟩,
 ⟨some 18, .extract (Operand.tmp 14) 1, none, 0⟩,
 ⟨some 4, .assign (Operand.tmp 17), none, 0⟩,
 ⟨some 5, .assign (Operand.tmp 18), none, 0⟩])
 (.seq
 (.ops [⟨some 19, .move (Operand.tmp 3), none, 0⟩,
 ⟨some 20, .binOp BinOp.eql 28 (Operand.tmp 19) (Operand.const (Value.int IntKind.i64 0)) 28, none, 0⟩,
 ⟨some 21, .move (Operand.tmp 20), none, 0⟩,
 ⟨some 22, .move (Operand.tmp 5), some (21, true), 0⟩,
 ⟨some 23, .binOp BinOp.eql 28 (Operand.tmp 22) (Operand.const (Value.int IntKind.i64 0)) 28, some (21, true), 0⟩,
 ⟨some 24, .pick (Operand.tmp 21) (Operand.tmp 23) (Operand.const (Value.bool false)), none, 0⟩,
 ⟨some 25, .move (Operand.tmp 24), none, 0⟩,
 ⟨some 26, .move (Operand.tmp 2), some (25, true), 0⟩,
 ⟨some 27, .call ⟨(Callee.builtin Builtin.len), [(Operand.tmp 26)].toArray, #[27]⟩, some (25, true), 0⟩,
 ⟨some 28, .binOp BinOp.eql 3 (Operand.tmp 27) (Operand.const (Value.int IntKind.i64 8)) 3, some (25, true), 0⟩,
 ⟨some 29, .pick (Operand.tmp 25) (Operand.tmp 28) (Operand.const (Value.bool false)), none, 0⟩,
 ⟨some 30, .move (Operand.tmp 29), none, 0⟩,
 ⟨some 31, .move (Operand.tmp 2), some (30, true), 0⟩,
 ⟨some 32, .indexAddr 27 (Operand.tmp 31) (Operand.const (Value.int IntKind.i64 2)), some (30, true), 0⟩,
 ⟨some 33, .fieldAddr 35 (Operand.tmp 32) 3, some (30, true), 0⟩,
 ⟨some 34, .load 9 (Operand.tmp 33), some (30, true), 0⟩,
 ⟨some 35, .binOp BinOp.eql 9 (Operand.tmp 34) (Operand.const (Value.string ⟨#[39, 115]⟩)) 9, some (30, true), 0⟩,
 ⟨some 36, .pick (Operand.tmp 30) (Operand.tmp 35) (Operand.const (Value.bool false)), none, 0⟩,
 ⟨some 37, .move (Operand.tmp 36), none, 0⟩,
 ⟨some 38, .move (Operand.tmp 2), some (37, true), 0⟩,
 ⟨some 39, .indexAddr 27 (Operand.tmp 38) (Operand.const (Value.int IntKind.i64 2)), some (37, true), 0⟩,
 ⟨some 40, .fieldAddr 35 (Operand.tmp 39) 2, some (37, true), 0⟩,
 ⟨some 41, .load 3 (Operand.tmp 40), some (37, true), 0⟩,
 ⟨some 42, .binOp BinOp.eql 3 (Operand.tmp 41) (Operand.const (Value.int IntKind.i64 5)) 3, some (37, true), 0⟩,
 ⟨some 43, .pick (Operand.tmp 37) (Operand.tmp 42) (Operand.const (Value.bool false)), none, 0⟩,
 ⟨some 44, .move (Operand.tmp 43), none, 0⟩,
 ⟨some 45, .move (Operand.tmp 4), some (44, true), 0⟩,
 ⟨some 46, .call ⟨(Callee.builtin Builtin.len), [(Operand.tmp 45)].toArray, #[40]⟩, some (44, true), 0⟩,
 ⟨some 47, .binOp BinOp.eql 3 (Operand.tmp 46) (Operand.const (Value.int IntKind.i64 2)) 3, some (44, true), 0⟩,
 ⟨some 48, .pick (Operand.tmp 44) (Operand.tmp 47) (Operand.const (Value.bool false)), none, 0⟩,
 ⟨some 49, .move (Operand.tmp 48), none, 0⟩,
 ⟨some 50, .move (Operand.tmp 4), some (49, true), 0⟩,
 ⟨some 51, .indexAddr 40 (Operand.tmp 50) (Operand.const (Value.int IntKind.i64 1)), some (49, true), 0⟩,
 ⟨some 52, .load 3 (Operand.tmp 51), some (49, true), 0⟩,
 ⟨some 53, .binOp BinOp.eql 3 (Operand.tmp 52) (Operand.const (Value.int IntKind.i64 5)) 3, some (49, true), 0⟩,
 ⟨some 54, .pick (Operand.tmp 49) (Operand.tmp 53) (Operand.const (Value.bool false)), none, 0⟩,
 ⟨some 0, .assign (Operand.tmp 54), none, 0⟩])
 .ret)))))
abbrev R7 : List ResultVar := [ResultVar.tmp 0]
theorem ok7 : FnOK Try.prog 7 L7 R7 0 := ⟨_, _, Try.func7, rfl, by kernel_rfl, by kernel_rfl, by kernel_rfl, by kernel_rfl, Nat.le_of_ble_eq_true (by kernel_rfl), by kernel_rfl⟩

/-- ablaut/token.Tokens -/
def L8 : LCode :=
 (.seq
 (.ops [⟨some 2, .box 24 (Operand.tmp 0), none, 0⟩,
 ⟨some 4, .assign (Operand.const (Value.slice none 0 0)), none, 0⟩,
 ⟨some 5, .assign (Operand.const (Value.int IntKind.i64 0)), none, 0⟩])
 (.seq
 (.seq
 (.ops [⟨some 16, .load 24 (Operand.tmp 2), none, 0⟩,
 ⟨some 17, .call ⟨(Callee.value (Operand.func 10)), [(Operand.tmp 16)].toArray, #[24]⟩, none, 0⟩,
 ⟨some 6, .assign (Operand.tmp 17), none, 0⟩])
 (.seq
 (.ops [⟨some 18, .move (Operand.tmp 6), none, 0⟩,
 ⟨some 19, .binOp BinOp.neq 28 (Operand.tmp 18) (Operand.const (Value.int IntKind.i64 0)) 28, none, 0⟩])
 (.cond (Operand.tmp 19)
 (.seq
 (.ops [⟨some 20, .move (Operand.tmp 6), none, 0⟩,
 ⟨some 4, .assign (Operand.const (Value.slice none 0 0)), none, 0⟩,
 ⟨some 5, .assign (Operand.tmp 20), none, 0⟩])
 .ret)
 .skip)))
 (.seq
 (.seq
 (.ops [⟨some 21, .move (Operand.tmp 1), none, 0⟩,
 ⟨some 22, .call ⟨(Callee.builtin Builtin.len), [(Operand.tmp 21)].toArray, #[9]⟩, none, 0⟩,
 ⟨some 23, .binOp BinOp.gtr 3 (Operand.tmp 22) (Operand.const (Value.int IntKind.i64 6000)) 3, none, 0⟩])
 (.cond (Operand.tmp 23)
 (.seq
 (.ops [⟨some 4, .assign (Operand.const (Value.slice none 0 0)), none, 0⟩,
 ⟨some 5, .assign (Operand.const (Value.int IntKind.i64 3)), none, 0⟩])
 .ret)
 .skip))
 (.seq
 (.ops [⟨some 24, .fieldAddr 24 (Operand.tmp 2) 0, none, 0⟩,
 ⟨some 25, .load 22 (Operand.tmp 24), none, 0⟩,
 ⟨some 26, .makeInterface 43 (Operand.tmp 25), none, 0⟩,
 ⟨some 27, .fieldAddr 24 (Operand.tmp 2) 1, none, 0⟩,
 ⟨some 28, .load 22 (Operand.tmp 27), none, 0⟩,
 ⟨some 29, .makeInterface 43 (Operand.tmp 28), none, 0⟩,
 ⟨some 30, .build 45 [].toArray, none, 0⟩,
 ⟨some 31, .makeInterface 45 (Operand.tmp 30), none, 0⟩,
 ⟨some 32, .build 46 [].toArray, none, 0⟩,
 ⟨some 33, .makeInterface 46 (Operand.tmp 32), none, 0⟩,
 ⟨some 34, .build 47 [].toArray, none, 0⟩,
 ⟨some 35, .makeInterface 47 (Operand.tmp 34), none, 0⟩,
 ⟨some 36, .buildSlice 48 5 [(0, (Operand.tmp 26)), (1, (Operand.tmp 29)), (2, (Operand.tmp 31)), (3, (Operand.tmp 33)), (4, (Operand.tmp 35))].toArray, none, 0⟩,
 ⟨some 7, .assign (Operand.tmp 36), none, 0⟩])
 (.seq
 (.ops [⟨some 8, .assign (Operand.const (Value.slice none 0 0)), none, 0⟩])
 (.seq
 .skip
 (.seq
 (.seq
 (.ops [⟨some 9, .assign (Operand.const (Value.int IntKind.i64 0)), none, 0⟩])
 (.block 0
 (.loop
 (.seq
 (.seq
 (.ops [⟨some 37, .move (Operand.tmp 9), none, 0⟩,
 ⟨some 38, .move (Operand.tmp 1), none, 0⟩,
 ⟨some 39, .call ⟨(Callee.builtin Builtin.len), [(Operand.tmp 38)].toArray, #[9]⟩, none, 0⟩,
 ⟨some 40, .binOp BinOp.lss 3 (Operand.tmp 37) (Operand.tmp 39) 3, none, 0⟩])
 (.cond (Operand.tmp 40)
 .skip
 (.exit 0)))
 (.block 1
 (.seq
 (.seq
 (.ops [⟨some 41, .move (Operand.tmp 1), none, 0⟩,
 ⟨some 42, .move (Operand.tmp 9), none, 0⟩,
 ⟨some 43, .index 9 (Operand.tmp 41) (Operand.tmp 42), none, 0⟩,
 ⟨some 44, .call ⟨(Callee.value (Operand.func 16)), [(Operand.tmp 43)].toArray, #[5]⟩, none, 0⟩])
 (.cond (Operand.tmp 44)
 (.seq
 (.ops [⟨some 45, .move (Operand.tmp 9), none, 0⟩,
 ⟨some 46, .binOp BinOp.add 3 (Operand.tmp 45) (Operand.const (Value.int IntKind.i64 1)) 3, none, 0⟩,
 ⟨some 9, .assign (Operand.tmp 46), none, 0⟩])
 (.exit 1))
 .skip))
 (.seq
 (.ops [⟨some 47, .build 47 [].toArray, none, 0⟩,
 ⟨some 48, .makeInterface 47 (Operand.tmp 47), none, 0⟩,
 ⟨some 10, .assign (Operand.tmp 48), none, 0⟩,
 ⟨some 11, .assign (Operand.const (Value.int IntKind.i64 0)), none, 0⟩])
 (.seq
 (.seq
 (.ops [⟨some 49, .move (Operand.tmp 7), none, 0⟩,
 ⟨some 50, .call ⟨(Callee.builtin Builtin.len), [(Operand.tmp 49)].toArray, #[48]⟩, none, 0⟩,
 ⟨some 51, .move (Operand.const (Value.int IntKind.i64 0)), none, 0⟩])
 (.block 2
 (.loop
 (.seq
 (.ops [⟨some 52, .binOp BinOp.lss 3 (Operand.tmp 51) (Operand.tmp 50) 3, none, 0⟩])
 (.seq
 (.cond (Operand.tmp 52)
 .skip
 (.exit 2))
 (.seq
 (.block 3
 (.seq
 (.ops [⟨some 53, .indexAddr 48 (Operand.tmp 49) (Operand.tmp 51), none, 0⟩,
 ⟨some 54, .load 51 (Operand.tmp 53), none, 0⟩,
 ⟨some 13, .assign (Operand.tmp 54), none, 0⟩])
 (.seq
 (.draw [⟨some 55, .move (Operand.tmp 13), none, 0⟩,
 ⟨some 56, .move (Operand.tmp 1), none, 0⟩,
 ⟨some 57, .move (Operand.tmp 9), none, 0⟩,
 ⟨some 58, .slice 9 (Operand.tmp 56) (some (Operand.tmp 57)) none none, none, 0⟩,
 ⟨some 59, .makeFunc (Fn.method "ablaut/token.length") #[(Operand.tmp 55)] [].toArray, none, 0⟩,
 ⟨some 60, .nilCheck (Operand.tmp 59), none, 0⟩,
 ⟨some 61, .move (Operand.tmp 55), none, 0⟩,
 ⟨some 62, .call ⟨(Callee.invoke (Operand.tmp 61) "ablaut/token.length"), [(Operand.tmp 58)].toArray, #[9]⟩, none, 0⟩,
 ⟨some 14, .assign (Operand.tmp 62), none, 0⟩] true [7, 8] [0, 1, 2, 4, 5, 6, 3, 7, 8])
 (.seq
 (.ops [⟨some 63, .move (Operand.tmp 14), none, 0⟩,
 ⟨some 64, .move (Operand.tmp 11), none, 0⟩,
 ⟨some 65, .binOp BinOp.gtr 3 (Operand.tmp 63) (Operand.tmp 64) 3, none, 0⟩])
 (.cond (Operand.tmp 65)
 (.ops [⟨some 66, .move (Operand.tmp 13), none, 0⟩,
 ⟨some 67, .move (Operand.tmp 14), none, 0⟩,
 ⟨some 10, .assign (Operand.tmp 66), none, 0⟩,
 ⟨some 11, .assign (Operand.tmp 67), none, 0⟩])
 .skip)))))
 (.ops [⟨some 68, .binOp BinOp.add 3 (Operand.tmp 51) (Operand.const (Value.int IntKind.i64 1)) 3, none, 0⟩,
 ⟨some 51, .move (Operand.tmp 68), none, 0⟩])))))))
 (.seq
 (.seq
 (.ops [⟨some 69, .move (Operand.tmp 10), none, 0⟩,
 ⟨some 70, .call ⟨(Callee.value (Operand.func 17)), [(Operand.tmp 69)].toArray, #[51]⟩, none, 0⟩,
 ⟨some 15, .assign (Operand.tmp 70), none, 0⟩])
 (.seq
 (.ops [⟨some 71, .move (Operand.tmp 15), none, 0⟩,
 ⟨some 72, .binOp BinOp.eql 3 (Operand.tmp 71) (Operand.const (Value.int IntKind.i64 0)) 3, none, 0⟩])
 (.cond (Operand.tmp 72)
 (.draw [⟨some 73, .move (Operand.tmp 8), none, 0⟩,
 ⟨some 74, .load 24 (Operand.tmp 2), none, 0⟩,
 ⟨some 75, .move (Operand.tmp 9), none, 0⟩,
 ⟨some 76, .move (Operand.tmp 1), none, 0⟩,
 ⟨some 77, .move (Operand.tmp 9), none, 0⟩,
 ⟨some 78, .move (Operand.tmp 9), none, 0⟩,
 ⟨some 79, .move (Operand.tmp 11), none, 0⟩,
 ⟨some 80, .binOp BinOp.add 3 (Operand.tmp 78) (Operand.tmp 79) 3, none, 0⟩,
 ⟨some 81, .slice 9 (Operand.tmp 76) (some (Operand.tmp 77)) (some (Operand.tmp 80)) none, none, 0⟩,
 ⟨some 82, .call ⟨(Callee.value (Operand.func 18)), [(Operand.tmp 74), (Operand.tmp 75), (Operand.tmp 81)].toArray, #[24, 3, 9]⟩, none, 0⟩,
 ⟨some 83, .call ⟨(Callee.builtin Builtin.append), [(Operand.tmp 73), (Operand.tmp 82)].toArray, #[27, 27]⟩, none, 0⟩,
 ⟨some 8, .assign (Operand.tmp 83), none, 0⟩] true [10, 11] [])
 (.ops [⟨some 84, .move (Operand.tmp 8), none, 0⟩,
 ⟨some 85, .move (Operand.tmp 9), none, 0⟩,
 ⟨some 86, .move (Operand.tmp 9), none, 0⟩,
 ⟨some 87, .move (Operand.tmp 11), none, 0⟩,
 ⟨some 88, .binOp BinOp.add 3 (Operand.tmp 86) (Operand.tmp 87) 3, none, 0⟩,
 ⟨some 89, .move (Operand.tmp 15), none, 0⟩,
 ⟨some 90, .move (Operand.tmp 1), none, 0⟩,
 ⟨some 91, .move (Operand.tmp 9), none, 0⟩,
 ⟨some 92, .move (Operand.tmp 9), none, 0⟩,
 ⟨some 93, .move (Operand.tmp 11), none, 0⟩,
 ⟨some 94, .binOp BinOp.add 3 (Operand.tmp 92) (Operand.tmp 93) 3, none, 0⟩,
 ⟨some 95, .slice 9 (Operand.tmp 90) (some (Operand.tmp 91)) (some (Operand.tmp 94)) none, none, 0⟩,
 ⟨some 96, .build 35 [(0, (Operand.tmp 85)), (1, (Operand.tmp 88)), (2, (Operand.tmp 89)), (3, (Operand.tmp 95))].toArray, none, 0⟩,
 ⟨some 97, .buildSlice 27 1 [(0, (Operand.tmp 96))].toArray, none, 0⟩,
 ⟨some 98, .call ⟨(Callee.builtin Builtin.append), [(Operand.tmp 84), (Operand.tmp 97)].toArray, #[27, 27]⟩, none, 0⟩,
 ⟨some 8, .assign (Operand.tmp 98), none, 0⟩]))))
 (.seq
 (.ops [⟨some 99, .move (Operand.tmp 9), none, 0⟩,
 ⟨some 100, .move (Operand.tmp 11), none, 0⟩,
 ⟨some 101, .binOp BinOp.add 3 (Operand.tmp 99) (Operand.tmp 100) 3, none, 0⟩,
 ⟨some 9, .assign (Operand.tmp 101), none, 0⟩])
 (.seq
 (.ops [⟨some 102, .move (Operand.tmp 8), none, 0⟩,
 ⟨some 103, .call ⟨(Callee.builtin Builtin.len), [(Operand.tmp 102)].toArray, #[27]⟩, none, 0⟩,
 ⟨some 104, .binOp BinOp.gtr 3 (Operand.tmp 103) (Operand.const (Value.int IntKind.i64 200)) 3, none, 0⟩])
 (.cond (Operand.tmp 104)
 (.seq
 (.ops [⟨some 4, .assign (Operand.const (Value.slice none 0 0)), none, 0⟩,
 ⟨some 5, .assign (Operand.const (Value.int IntKind.i64 3)), none, 0⟩])
 .ret)
 .skip))))))))))))
 (.seq
 (.ops [⟨some 105, .move (Operand.tmp 8), none, 0⟩,
 ⟨some 4, .assign (Operand.tmp 105), none, 0⟩,
 ⟨some 5, .assign (Operand.const (Value.int IntKind.i64 0)), none, 0⟩])
 .ret))))))))
abbrev R8 : List ResultVar := [ResultVar.tmp 4, ResultVar.tmp 5]
theorem ok8 : FnOK Try.prog 8 L8 R8 2 := ⟨_, _, Try.func8, rfl, by kernel_rfl, by kernel_rfl, by kernel_rfl, by kernel_rfl, Nat.le_of_ble_eq_true (by kernel_rfl), by kernel_rfl⟩

/-- ablaut/token.Validate -/
def L10 : LCode :=
 (.seq
 (.ops [⟨some 1, .box 24 (Operand.tmp 0), none, 0⟩,
 ⟨some 2, .assign (Operand.const (Value.int IntKind.i64 0)), none, 0⟩])
 (.seq
 (.seq
 (.ops [⟨some 12, .load 24 (Operand.tmp 1), none, 0⟩,
 ⟨some 13, .call ⟨(Callee.value (Operand.func 20)), [(Operand.tmp 12)].toArray, #[24]⟩, none, 0⟩,
 ⟨some 14, .call ⟨(Callee.builtin Builtin.len), [(Operand.tmp 13)].toArray, #[56]⟩, none, 0⟩,
 ⟨some 15, .move (Operand.const (Value.int IntKind.i64 0)), none, 0⟩])
 (.block 0
 (.loop
 (.seq
 (.ops [⟨some 16, .binOp BinOp.lss 3 (Operand.tmp 15) (Operand.tmp 14) 3, none, 0⟩])
 (.seq
 (.cond (Operand.tmp 16)
 .skip
 (.exit 0))
 (.seq
 (.block 1
 (.seq
 (.ops [⟨some 17, .indexAddr 56 (Operand.tmp 13) (Operand.tmp 15), none, 0⟩,
 ⟨some 18, .load 22 (Operand.tmp 17), none, 0⟩,
 ⟨some 4, .assign (Operand.tmp 18), none, 0⟩])
 (.seq
 (.ops [⟨some 19, .move (Operand.tmp 4), none, 0⟩,
 ⟨some 20, .call ⟨(Callee.builtin Builtin.len), [(Operand.tmp 19)].toArray, #[22]⟩, none, 0⟩,
 ⟨some 21, .binOp BinOp.gtr 3 (Operand.tmp 20) (Operand.const (Value.int IntKind.i64 300)) 3, none, 0⟩,
 ⟨some 22, .move (Operand.tmp 21), none, 0⟩,
 ⟨some 23, .move (Operand.tmp 4), some (22, false), 0⟩,
 ⟨some 24, .call ⟨(Callee.value (Operand.func 21)), [(Operand.tmp 23), (Operand.func 22)].toArray, #[22, 59]⟩, some (22, false), 0⟩,
 ⟨some 25, .pick (Operand.tmp 22) (Operand.const (Value.bool true)) (Operand.tmp 24), none, 0⟩])
 (.cond (Operand.tmp 25)
 (.seq
 (.ops [⟨some 2, .assign (Operand.const (Value.int IntKind.i64 3)), none, 0⟩])
 .ret)
 .skip))))
 (.ops [⟨some 26, .binOp BinOp.add 3 (Operand.tmp 15) (Operand.const (Value.int IntKind.i64 1)) 3, none, 0⟩,
 ⟨some 15, .move (Operand.tmp 26), none, 0⟩])))))))
 (.seq
 (.seq
 (.ops [⟨some 27, .load 24 (Operand.tmp 1), none, 0⟩,
 ⟨some 28, .call ⟨(Callee.value (Operand.func 20)), [(Operand.tmp 27)].toArray, #[24]⟩, none, 0⟩,
 ⟨some 29, .call ⟨(Callee.builtin Builtin.len), [(Operand.tmp 28)].toArray, #[56]⟩, none, 0⟩,
 ⟨some 30, .move (Operand.const (Value.int IntKind.i64 0)), none, 0⟩])
 (.block 2
 (.loop
 (.seq
 (.ops [⟨some 31, .binOp BinOp.lss 3 (Operand.tmp 30) (Operand.tmp 29) 3, none, 0⟩])
 (.seq
 (.cond (Operand.tmp 31)
 .skip
 (.exit 2))
 (.seq
 (.block 3
 (.seq
 (.ops [⟨some 32, .move (Operand.tmp 30), none, 0⟩,
 ⟨some 33, .indexAddr 56 (Operand.tmp 28) (Operand.tmp 30), none, 0⟩,
 ⟨some 34, .load 22 (Operand.tmp 33), none, 0⟩,
 ⟨some 5, .assign (Operand.tmp 32), none, 0⟩,
 ⟨some 6, .assign (Operand.tmp 34), none, 0⟩])
 (.seq
 (.ops [⟨some 35, .move (Operand.tmp 6), none, 0⟩,
 ⟨some 36, .call ⟨(Callee.builtin Builtin.len), [(Operand.tmp 35)].toArray, #[22]⟩, none, 0⟩,
 ⟨some 37, .move (Operand.const (Value.int IntKind.i64 0)), none, 0⟩])
 (.block 4
 (.loop
 (.seq
 (.ops [⟨some 38, .binOp BinOp.lss 3 (Operand.tmp 37) (Operand.tmp 36) 3, none, 0⟩])
 (.seq
 (.cond (Operand.tmp 38)
 .skip
 (.exit 4))
 (.seq
 (.block 5
 (.seq
 (.ops [⟨some 39, .indexAddr 22 (Operand.tmp 35) (Operand.tmp 37), none, 0⟩,
 ⟨some 40, .load 9 (Operand.tmp 39), none, 0⟩,
 ⟨some 8, .assign (Operand.tmp 40), none, 0⟩])
 (.seq
 (.ops [⟨some 41, .move (Operand.tmp 8), none, 0⟩,
 ⟨some 42, .binOp BinOp.eql 9 (Operand.tmp 41) (Operand.const (Value.string ⟨#[]⟩)) 9, none, 0⟩,
 ⟨some 43, .move (Operand.tmp 42), none, 0⟩,
 ⟨some 44, .move (Operand.tmp 5), some (43, false), 0⟩,
 ⟨some 45, .binOp BinOp.lss 3 (Operand.tmp 44) (Operand.const (Value.int IntKind.i64 2)) 3, some (43, false), 0⟩,
 ⟨some 46, .move (Operand.tmp 45), some (43, false), 0⟩,
 ⟨some 47, .move (Operand.tmp 8), some (46, true), 0⟩,
 ⟨some 48, .call ⟨(Callee.value (Operand.func 23)), [(Operand.tmp 47)].toArray, #[9]⟩, some (46, true), 0⟩,
 ⟨some 49, .unOp UnOp.not 4 (Operand.tmp 48), some (46, true), 0⟩,
 ⟨some 50, .pick (Operand.tmp 46) (Operand.tmp 49) (Operand.const (Value.bool false)), some (43, false), 0⟩,
 ⟨some 51, .pick (Operand.tmp 43) (Operand.const (Value.bool true)) (Operand.tmp 50), none, 0⟩,
 ⟨some 52, .move (Operand.tmp 51), none, 0⟩,
 ⟨some 53, .move (Operand.tmp 5), some (52, false), 0⟩,
 ⟨some 54, .binOp BinOp.eql 3 (Operand.tmp 53) (Operand.const (Value.int IntKind.i64 1)) 3, some (52, false), 0⟩,
 ⟨some 55, .move (Operand.tmp 54), some (52, false), 0⟩,
 ⟨some 56, .move (Operand.tmp 8), some (55, true), 0⟩,
 ⟨some 57, .move (Operand.tmp 8), some (55, true), 0⟩,
 ⟨some 58, .call ⟨(Callee.builtin Builtin.len), [(Operand.tmp 57)].toArray, #[9]⟩, some (55, true), 0⟩,
 ⟨some 59, .binOp BinOp.sub 3 (Operand.tmp 58) (Operand.const (Value.int IntKind.i64 1)) 3, some (55, true), 0⟩,
 ⟨some 60, .index 9 (Operand.tmp 56) (Operand.tmp 59), some (55, true), 0⟩,
 ⟨some 61, .binOp BinOp.neq 5 (Operand.tmp 60) (Operand.const (Value.int IntKind.u8 46)) 5, some (55, true), 0⟩,
 ⟨some 62, .pick (Operand.tmp 55) (Operand.tmp 61) (Operand.const (Value.bool false)), some (52, false), 0⟩,
 ⟨some 63, .pick (Operand.tmp 52) (Operand.const (Value.bool true)) (Operand.tmp 62), none, 0⟩,
 ⟨some 64, .move (Operand.tmp 63), none, 0⟩,
 ⟨some 65, .move (Operand.tmp 5), some (64, false), 0⟩,
 ⟨some 66, .binOp BinOp.gtr 3 (Operand.tmp 65) (Operand.const (Value.int IntKind.i64 1)) 3, some (64, false), 0⟩,
 ⟨some 67, .move (Operand.tmp 66), some (64, false), 0⟩,
 ⟨some 68, .move (Operand.tmp 8), some (67, true), 0⟩,
 ⟨some 69, .call ⟨(Callee.value (Operand.func 24)), [(Operand.tmp 68)].toArray, #[9]⟩, some (67, true), 0⟩,
 ⟨some 70, .unOp UnOp.not 4 (Operand.tmp 69), some (67, true), 0⟩,
 ⟨some 71, .pick (Operand.tmp 67) (Operand.tmp 70) (Operand.const (Value.bool false)), some (64, false), 0⟩,
 ⟨some 72, .pick (Operand.tmp 64) (Operand.const (Value.bool true)) (Operand.tmp 71), none, 0⟩])
 (.cond (Operand.tmp 72)
 (.seq
 (.ops [⟨some 2, .assign (Operand.const (Value.int IntKind.i64 1)), none, 0⟩])
 .ret)
 .skip))))
 (.ops [⟨some 73, .binOp BinOp.add 3 (Operand.tmp 37) (Operand.const (Value.int IntKind.i64 1)) 3, none, 0⟩,
 ⟨some 37, .move (Operand.tmp 73), none, 0⟩])))))))))
 (.ops [⟨some 74, .binOp BinOp.add 3 (Operand.tmp 30) (Operand.const (Value.int IntKind.i64 1)) 3, none, 0⟩,
 ⟨some 30, .move (Operand.tmp 74), none, 0⟩])))))))
 (.seq
 (.seq
 (.ops [⟨some 75, .load 24 (Operand.tmp 1), none, 0⟩,
 ⟨some 76, .call ⟨(Callee.value (Operand.func 20)), [(Operand.tmp 75)].toArray, #[24]⟩, none, 0⟩,
 ⟨some 77, .call ⟨(Callee.builtin Builtin.len), [(Operand.tmp 76)].toArray, #[56]⟩, none, 0⟩,
 ⟨some 78, .move (Operand.const (Value.int IntKind.i64 0)), none, 0⟩])
 (.block 6
 (.loop
 (.seq
 (.ops [⟨some 79, .binOp BinOp.lss 3 (Operand.tmp 78) (Operand.tmp 77) 3, none, 0⟩])
 (.seq
 (.cond (Operand.tmp 79)
 .skip
 (.exit 6))
 (.seq
 (.block 7
 (.seq
 (.ops [⟨some 80, .indexAddr 56 (Operand.tmp 76) (Operand.tmp 78), none, 0⟩,
 ⟨some 81, .load 22 (Operand.tmp 80), none, 0⟩,
 ⟨some 10, .assign (Operand.tmp 81), none, 0⟩])
 (.seq
 (.ops [⟨some 82, .move (Operand.tmp 10), none, 0⟩,
 ⟨some 83, .call ⟨(Callee.value (Operand.func 26)), [(Operand.tmp 82)].toArray, #[22]⟩, none, 0⟩,
 ⟨some 84, .call ⟨(Callee.value (Operand.func 25)), [(Operand.tmp 83)].toArray, #[62]⟩, none, 0⟩,
 ⟨some 11, .assign (Operand.tmp 84), none, 0⟩])
 (.seq
 (.ops [⟨some 85, .move (Operand.tmp 11), none, 0⟩,
 ⟨some 86, .call ⟨(Callee.value (Operand.func 27)), [(Operand.tmp 85)].toArray, #[22]⟩, none, 0⟩,
 ⟨some 87, .call ⟨(Callee.builtin Builtin.len), [(Operand.tmp 86)].toArray, #[22]⟩, none, 0⟩,
 ⟨some 88, .move (Operand.tmp 10), none, 0⟩,
 ⟨some 89, .call ⟨(Callee.builtin Builtin.len), [(Operand.tmp 88)].toArray, #[22]⟩, none, 0⟩,
 ⟨some 90, .binOp BinOp.lss 3 (Operand.tmp 87) (Operand.tmp 89) 3, none, 0⟩])
 (.cond (Operand.tmp 90)
 (.seq
 (.ops [⟨some 2, .assign (Operand.const (Value.int IntKind.i64 5)), none, 0⟩])
 .ret)
 .skip)))))
 (.ops [⟨some 91, .binOp BinOp.add 3 (Operand.tmp 78) (Operand.const (Value.int IntKind.i64 1)) 3, none, 0⟩,
 ⟨some 78, .move (Operand.tmp 91), none, 0⟩])))))))
 (.seq
 (.ops [⟨some 2, .assign (Operand.const (Value.int IntKind.i64 0)), none, 0⟩])
 .ret)))))
abbrev R10 : List ResultVar := [ResultVar.tmp 2]
theorem ok10 : FnOK Try.prog 10 L10 R10 1 := ⟨_, _, Try.func10, rfl, by kernel_rfl, by kernel_rfl, by kernel_rfl, by kernel_rfl, Nat.le_of_ble_eq_true (by kernel_rfl), by kernel_rfl⟩

/-- ablaut/token.Join -/
def L13 : LCode :=
 (.seq
 (.ops [⟨some 4, .assign (Operand.const (Value.string ⟨#[]⟩)), none, 0⟩,
 ⟨some 5, .assign (Operand.const (Value.int IntKind.i64 0)), none, 0⟩])
 (.seq
 (.ops [⟨some 6, .assign (Operand.const (Value.int IntKind.i64 0)), none, 0⟩])
 (.seq
 (.seq
 (.ops [⟨some 12, .move (Operand.tmp 1), none, 0⟩,
 ⟨some 13, .call ⟨(Callee.builtin Builtin.len), [(Operand.tmp 12)].toArray, #[27]⟩, none, 0⟩,
 ⟨some 14, .move (Operand.const (Value.int IntKind.i64 0)), none, 0⟩])
 (.block 0
 (.loop
 (.seq
 (.ops [⟨some 15, .binOp BinOp.lss 3 (Operand.tmp 14) (Operand.tmp 13) 3, none, 0⟩])
 (.seq
 (.cond (Operand.tmp 15)
 .skip
 (.exit 0))
 (.seq
 (.block 1
 (.seq
 (.ops [⟨some 16, .indexAddr 27 (Operand.tmp 12) (Operand.tmp 14), none, 0⟩,
 ⟨some 17, .load 35 (Operand.tmp 16), none, 0⟩,
 ⟨some 8, .alloc 35, none, 0⟩,
 ⟨none, .store 35 (Operand.tmp 8) (Operand.tmp 17), none, 0⟩])
 (.seq
 (.seq
 (.ops [⟨some 18, .fieldAddr 35 (Operand.tmp 8) 0, none, 0⟩,
 ⟨some 19, .load 3 (Operand.tmp 18), none, 0⟩,
 ⟨some 20, .move (Operand.tmp 6), none, 0⟩,
 ⟨some 21, .binOp BinOp.lss 3 (Operand.tmp 19) (Operand.tmp 20) 3, none, 0⟩,
 ⟨some 22, .move (Operand.tmp 21), none, 0⟩,
 ⟨some 23, .fieldAddr 35 (Operand.tmp 8) 1, some (22, false), 0⟩,
 ⟨some 24, .load 3 (Operand.tmp 23), some (22, false), 0⟩,
 ⟨some 25, .fieldAddr 35 (Operand.tmp 8) 0, some (22, false), 0⟩,
 ⟨some 26, .load 3 (Operand.tmp 25), some (22, false), 0⟩,
 ⟨some 27, .binOp BinOp.lss 3 (Operand.tmp 24) (Operand.tmp 26) 3, some (22, false), 0⟩,
 ⟨some 28, .pick (Operand.tmp 22) (Operand.const (Value.bool true)) (Operand.tmp 27), none, 0⟩,
 ⟨some 29, .move (Operand.tmp 28), none, 0⟩,
 ⟨some 30, .fieldAddr 35 (Operand.tmp 8) 1, some (29, false), 0⟩,
 ⟨some 31, .load 3 (Operand.tmp 30), some (29, false), 0⟩,
 ⟨some 32, .move (Operand.tmp 0), some (29, false), 0⟩,
 ⟨some 33, .call ⟨(Callee.builtin Builtin.len), [(Operand.tmp 32)].toArray, #[9]⟩, some (29, false), 0⟩,
 ⟨some 34, .binOp BinOp.gtr 3 (Operand.tmp 31) (Operand.tmp 33) 3, some (29, false), 0⟩,
 ⟨some 35, .pick (Operand.tmp 29) (Operand.const (Value.bool true)) (Operand.tmp 34), none, 0⟩,
 ⟨some 36, .move (Operand.tmp 35), none, 0⟩,
 ⟨some 37, .fieldAddr 35 (Operand.tmp 8) 2, some (36, false), 0⟩,
 ⟨some 38, .load 3 (Operand.tmp 37), some (36, false), 0⟩,
 ⟨some 39, .binOp BinOp.lss 3 (Operand.tmp 38) (Operand.const (Value.int IntKind.i64 0)) 3, some (36, false), 0⟩,
 ⟨some 40, .pick (Operand.tmp 36) (Operand.const (Value.bool true)) (Operand.tmp 39), none, 0⟩,
 ⟨some 41, .move (Operand.tmp 40), none, 0⟩,
 ⟨some 42, .fieldAddr 35 (Operand.tmp 8) 2, some (41, false), 0⟩,
 ⟨some 43, .load 3 (Operand.tmp 42), some (41, false), 0⟩,
 ⟨some 44, .binOp BinOp.gtr 3 (Operand.tmp 43) (Operand.const (Value.int IntKind.i64 5)) 3, some (41, false), 0⟩,
 ⟨some 45, .pick (Operand.tmp 41) (Operand.const (Value.bool true)) (Operand.tmp 44), none, 0⟩])
 (.cond (Operand.tmp 45)
 (.seq
 (.ops [⟨some 4, .assign (Operand.const (Value.string ⟨#[]⟩)), none, 0⟩,
 ⟨some 5, .assign (Operand.const (Value.int IntKind.i64 1)), none, 0⟩])
 .ret)
 .skip))
 (.ops [⟨some 46, .fieldAddr 35 (Operand.tmp 8) 1, none, 0⟩,
 ⟨some 47, .load 3 (Operand.tmp 46), none, 0⟩,
 ⟨some 6, .assign (Operand.tmp 47), none, 0⟩]))))
 (.ops [⟨some 48, .binOp BinOp.add 3 (Operand.tmp 14) (Operand.const (Value.int IntKind.i64 1)) 3, none, 0⟩,
 ⟨some 14, .move (Operand.tmp 48), none, 0⟩])))))))
 (.seq
 (.ops [⟨some 9, .alloc 69, none, 0⟩])
 (.seq
 (.ops [⟨some 6, .assign (Operand.const (Value.int IntKind.i64 0)), none, 0⟩])
 (.seq
 (.seq
 (.ops [⟨some 49, .move (Operand.tmp 1), none, 0⟩,
 ⟨some 50, .call ⟨(Callee.builtin Builtin.len), [(Operand.tmp 49)].toArray, #[27]⟩, none, 0⟩,
 ⟨some 51, .move (Operand.const (Value.int IntKind.i64 0)), none, 0⟩])
 (.block 2
 (.loop
 (.seq
 (.ops [⟨some 52, .binOp BinOp.lss 3 (Operand.tmp 51) (Operand.tmp 50) 3, none, 0⟩])
 (.seq
 (.cond (Operand.tmp 52)
 .skip
 (.exit 2))
 (.seq
 (.block 3
 (.seq
 (.ops [⟨some 53, .indexAddr 27 (Operand.tmp 49) (Operand.tmp 51), none, 0⟩,
 ⟨some 54, .load 35 (Operand.tmp 53), none, 0⟩,
 ⟨some 11, .alloc 35, none, 0⟩,
 ⟨none, .store 35 (Operand.tmp 11) (Operand.tmp 54), none, 0⟩])
 (.seq
 (.draw [⟨some 55, .move (Operand.tmp 0), none, 0⟩,
 ⟨some 56, .move (Operand.tmp 6), none, 0⟩,
 ⟨some 57, .fieldAddr 35 (Operand.tmp 11) 0, none, 0⟩,
 ⟨some 58, .load 3 (Operand.tmp 57), none, 0⟩,
 ⟨some 59, .slice 9 (Operand.tmp 55) (some (Operand.tmp 56)) (some (Operand.tmp 58)) none, none, 0⟩,
 ⟨some 60, .fieldAddr 35 (Operand.tmp 11) 3, none, 0⟩,
 ⟨some 61, .load 9 (Operand.tmp 60), none, 0⟩,
 ⟨some 62, .binOp BinOp.add 9 (Operand.tmp 59) (Operand.tmp 61) 9, none, 0⟩,
 ⟨some 63, .call ⟨(Callee.value (Operand.func 31)), [(Operand.tmp 9), (Operand.tmp 62)].toArray, #[69, 9]⟩, none, 0⟩] true [7, 8] [])
 (.ops [⟨some 64, .fieldAddr 35 (Operand.tmp 11) 1, none, 0⟩,
 ⟨some 65, .load 3 (Operand.tmp 64), none, 0⟩,
 ⟨some 6, .assign (Operand.tmp 65), none, 0⟩]))))
 (.ops [⟨some 66, .binOp BinOp.add 3 (Operand.tmp 51) (Operand.const (Value.int IntKind.i64 1)) 3, none, 0⟩,
 ⟨some 51, .move (Operand.tmp 66), none, 0⟩])))))))
 (.seq
 (.draw [⟨some 67, .call ⟨(Callee.value (Operand.func 32)), [(Operand.tmp 9)].toArray, #[69]⟩, none, 0⟩,
 ⟨some 68, .move (Operand.tmp 0), none, 0⟩,
 ⟨some 69, .move (Operand.tmp 6), none, 0⟩,
 ⟨some 70, .slice 9 (Operand.tmp 68) (some (Operand.tmp 69)) none none, none, 0⟩,
 ⟨some 71, .binOp BinOp.add 9 (Operand.tmp 67) (Operand.tmp 70) 9, none, 0⟩,
 ⟨some 4, .assign (Operand.tmp 71), none, 0⟩,
 ⟨some 5, .assign (Operand.const (Value.int IntKind.i64 0)), none, 0⟩] true [4, 5, 6] [])
 .ret)))))))
abbrev R13 : List ResultVar := [ResultVar.tmp 4, ResultVar.tmp 5]
theorem ok13 : FnOK Try.prog 13 L13 R13 2 := ⟨_, _, Try.func13, rfl, by kernel_rfl, by kernel_rfl, by kernel_rfl, by kernel_rfl, Nat.le_of_ble_eq_true (by kernel_rfl), by kernel_rfl⟩

/-- ablaut/token.Sentences -/
def L15 : LCode :=
 (.seq
 (.ops [⟨some 2, .box 24 (Operand.tmp 0), none, 0⟩,
 ⟨some 4, .assign (Operand.const (Value.slice none 0 0)), none, 0⟩,
 ⟨some 5, .assign (Operand.const (Value.int IntKind.i64 0)), none, 0⟩])
 (.seq
 (.ops [⟨some 9, .load 24 (Operand.tmp 2), none, 0⟩,
 ⟨some 10, .move (Operand.tmp 1), none, 0⟩,
 ⟨some 11, .call ⟨(Callee.value (Operand.func 8)), [(Operand.tmp 9), (Operand.tmp 10)].toArray, #[24, 9]⟩, none, 0⟩,
 ⟨some 8, .move (Operand.tmp 11), none, 0⟩,
 ⟨some 12, .extract (Operand.tmp 8) 0, none, 0⟩,
 ⟨some 13, .extract (Operand.tmp 8) 1, none, 0⟩,
 ⟨some 6, .assign (Operand.tmp 12), none, 0⟩,
 ⟨some 7, .assign (Operand.tmp 13), none, 0⟩])
 (.seq
 (.seq
 (.ops [⟨some 14, .move (Operand.tmp 7), none, 0⟩,
 ⟨some 15, .binOp BinOp.neq 28 (Operand.tmp 14) (Operand.const (Value.int IntKind.i64 0)) 28, none, 0⟩])
 (.cond (Operand.tmp 15)
 (.seq
 (.ops [⟨some 16, .move (Operand.tmp 7), none, 0⟩,
 ⟨some 4, .assign (Operand.const (Value.slice none 0 0)), none, 0⟩,
 ⟨some 5, .assign (Operand.tmp 16), none, 0⟩])
 .ret)
 .skip))
 (.seq
 (.ops [⟨some 17, .move (Operand.tmp 6), none, 0⟩,
 ⟨some 18, .call ⟨(Callee.value (Operand.func 33)), [(Operand.tmp 17)].toArray, #[27]⟩, none, 0⟩,
 ⟨some 4, .assign (Operand.tmp 18), none, 0⟩,
 ⟨some 5, .assign (Operand.const (Value.int IntKind.i64 0)), none, 0⟩])
 .ret))))
abbrev R15 : List ResultVar := [ResultVar.tmp 4, ResultVar.tmp 5]
theorem ok15 : FnOK Try.prog 15 L15 R15 2 := ⟨_, _, Try.func15, rfl, by kernel_rfl, by kernel_rfl, by kernel_rfl, by kernel_rfl, Nat.le_of_ble_eq_true (by kernel_rfl), by kernel_rfl⟩

/-- ablaut/token.isBlank -/
def L16 : LCode :=
 (.seq
 (.ops [⟨some 2, .assign (Operand.const (Value.bool false)), none, 0⟩])
 (.seq
 (.ops [⟨some 3, .move (Operand.tmp 0), none, 0⟩,
 ⟨some 4, .binOp BinOp.eql 5 (Operand.tmp 3) (Operand.const (Value.int IntKind.u8 9)) 5, none, 0⟩,
 ⟨some 5, .move (Operand.tmp 4), none, 0⟩,
 ⟨some 6, .move (Operand.tmp 0), some (5, false), 0⟩,
 ⟨some 7, .binOp BinOp.eql 5 (Operand.tmp 6) (Operand.const (Value.int IntKind.u8 10)) 5, some (5, false), 0⟩,
 ⟨some 8, .pick (Operand.tmp 5) (Operand.const (Value.bool true)) (Operand.tmp 7), none, 0⟩,
 ⟨some 9, .move (Operand.tmp 8), none, 0⟩,
 ⟨some 10, .move (Operand.tmp 0), some (9, false), 0⟩,
 ⟨some 11, .binOp BinOp.eql 5 (Operand.tmp 10) (Operand.const (Value.int IntKind.u8 13)) 5, some (9, false), 0⟩,
 ⟨some 12, .pick (Operand.tmp 9) (Operand.const (Value.bool true)) (Operand.tmp 11), none, 0⟩,
 ⟨some 13, .move (Operand.tmp 12), none, 0⟩,
 ⟨some 14, .move (Operand.tmp 0), some (13, false), 0⟩,
 ⟨some 15, .binOp BinOp.eql 5 (Operand.tmp 14) (Operand.const (Value.int IntKind.u8 32)) 5, some (13, false), 0⟩,
 ⟨some 16, .pick (Operand.tmp 13) (Operand.const (Value.bool true)) (Operand.tmp 15), none, 0⟩,
 ⟨some 2, .assign (Operand.tmp 16), none, 0⟩])
 .ret))
abbrev R16 : List ResultVar := [ResultVar.tmp 2]
theorem ok16 : FnOK Try.prog 16 L16 R16 1 := ⟨_, _, Try.func16, rfl, by kernel_rfl, by kernel_rfl, by kernel_rfl, by kernel_rfl, Nat.le_of_ble_eq_true (by kernel_rfl), by kernel_rfl⟩

/-- ablaut/token.kindOf -/
def L17 : LCode :=
 (.seq
 (.ops [⟨some 2, .assign (Operand.const (Value.int IntKind.i64 0)), none, 0⟩])
 (.seq
 (.seq
 (.ops [⟨some 3, .move (Operand.tmp 0), none, 0⟩])
 (.block 0
 (.seq
 (.ops [⟨some 4, .typeAssert (Operand.tmp 3) 51 43 true, none, 0⟩,
 ⟨some 5, .extract (Operand.tmp 4) 1, none, 0⟩,
 ⟨some 6, .extract (Operand.tmp 4) 0, none, 0⟩])
 (.cond (Operand.tmp 5)
 (.seq
 (.ops [⟨some 2, .assign (Operand.const (Value.int IntKind.i64 3)), none, 0⟩])
 .ret)
 (.seq
 (.ops [⟨some 7, .typeAssert (Operand.tmp 3) 51 45 true, none, 0⟩,
 ⟨some 8, .extract (Operand.tmp 7) 1, none, 0⟩,
 ⟨some 9, .extract (Operand.tmp 7) 0, none, 0⟩])
 (.cond (Operand.tmp 8)
 (.seq
 (.ops [⟨some 2, .assign (Operand.const (Value.int IntKind.i64 1)), none, 0⟩])
 .ret)
 (.seq
 (.ops [⟨some 10, .typeAssert (Operand.tmp 3) 51 46 true, none, 0⟩,
 ⟨some 11, .extract (Operand.tmp 10) 1, none, 0⟩,
 ⟨some 12, .extract (Operand.tmp 10) 0, none, 0⟩])
 (.cond (Operand.tmp 11)
 (.seq
 (.ops [⟨some 2, .assign (Operand.const (Value.int IntKind.i64 0)), none, 0⟩])
 .ret)
 .skip))))))))
 (.seq
 (.ops [⟨some 2, .assign (Operand.const (Value.int IntKind.i64 2)), none, 0⟩])
 .ret)))
abbrev R17 : List ResultVar := [ResultVar.tmp 2]
theorem ok17 : FnOK Try.prog 17 L17 R17 1 := ⟨_, _, Try.func17, rfl, by kernel_rfl, by kernel_rfl, by kernel_rfl, by kernel_rfl, Nat.le_of_ble_eq_true (by kernel_rfl), by kernel_rfl⟩
end Go.Proofs.Ytapkbkniooleaaa.Vs
