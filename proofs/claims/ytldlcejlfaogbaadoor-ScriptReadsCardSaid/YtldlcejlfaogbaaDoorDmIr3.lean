/- The seat's functions as the engine Dm reads them, written by dgen.py. -/
import Derived.Test.YtldlcejlfaogbaaDoorDmFn
import Derived.Test.YtldlcejlfaogbaaDoorProg
import Derived.KernelRfl
namespace Go.Proofs.YtldlcejlfaogbaaDoor.Vs
set_option linter.unusedVariables false
set_option maxRecDepth 100000
/-- internal/stringslite.Index -/
def L84 : LCode :=
 (.seq
 (.ops [⟨some 4, .assign (Operand.const (Value.int IntKind.i64 0)), none, 0⟩])
 (.seq
 (.ops [⟨some 14, .move (Operand.tmp 1), none, 0⟩,
 ⟨some 15, .call ⟨(Callee.builtin Builtin.len), [(Operand.tmp 14)].toArray, #[9]⟩, none, 0⟩,
 ⟨some 5, .assign (Operand.tmp 15), none, 0⟩])
 (.seq
 (.block 0
 (.seq
 (.ops [⟨some 17, .move (Operand.tmp 5), none, 0⟩,
 ⟨some 18, .binOp BinOp.eql 3 (Operand.tmp 17) (Operand.const (Value.int IntKind.i64 0)) 3, none, 0⟩,
 ⟨some 19, .move (Operand.tmp 18), none, 0⟩,
 ⟨some 20, .move (Operand.tmp 1), some (19, false), 0⟩,
 ⟨some 21, .move (Operand.tmp 0), some (19, false), 0⟩,
 ⟨some 22, .binOp BinOp.eql 9 (Operand.tmp 20) (Operand.tmp 21) 9, some (19, false), 0⟩,
 ⟨some 23, .pick (Operand.tmp 19) (Operand.const (Value.bool true)) (Operand.tmp 22), none, 0⟩,
 ⟨some 16, .assign (Operand.tmp 23), none, 0⟩])
 (.cond (Operand.tmp 16)
 (.seq
 (.ops [⟨some 4, .assign (Operand.const (Value.int IntKind.i64 0)), none, 0⟩])
 .ret)
 (.seq
 (.ops [⟨some 25, .move (Operand.tmp 5), none, 0⟩,
 ⟨some 26, .binOp BinOp.eql 3 (Operand.tmp 25) (Operand.const (Value.int IntKind.i64 1)) 3, none, 0⟩,
 ⟨some 24, .assign (Operand.tmp 26), none, 0⟩])
 (.cond (Operand.tmp 24)
 (.seq
 (.ops [⟨some 27, .move (Operand.tmp 0), none, 0⟩,
 ⟨some 28, .move (Operand.tmp 1), none, 0⟩,
 ⟨some 29, .index 9 (Operand.tmp 28) (Operand.const (Value.int IntKind.i64 0)), none, 0⟩,
 ⟨some 30, .call ⟨(Callee.value (Operand.func 88)), [(Operand.tmp 27), (Operand.tmp 29)].toArray, #[9, 5]⟩, none, 0⟩,
 ⟨some 4, .assign (Operand.tmp 30), none, 0⟩])
 .ret)
 (.seq
 (.ops [⟨some 32, .move (Operand.tmp 5), none, 0⟩,
 ⟨some 33, .move (Operand.tmp 0), none, 0⟩,
 ⟨some 34, .call ⟨(Callee.builtin Builtin.len), [(Operand.tmp 33)].toArray, #[9]⟩, none, 0⟩,
 ⟨some 35, .binOp BinOp.geq 3 (Operand.tmp 32) (Operand.tmp 34) 3, none, 0⟩,
 ⟨some 31, .assign (Operand.tmp 35), none, 0⟩])
 (.cond (Operand.tmp 31)
 (.seq
 (.ops [⟨some 4, .assign (Operand.const (Value.int IntKind.i64 (-1))), none, 0⟩])
 .ret)
 (.seq
 (.ops [⟨some 37, .move (Operand.tmp 5), none, 0⟩,
 ⟨some 38, .load 3 (Operand.global 0), none, 0⟩,
 ⟨some 39, .binOp BinOp.leq 3 (Operand.tmp 37) (Operand.tmp 38) 3, none, 0⟩,
 ⟨some 40, .move (Operand.tmp 39), none, 0⟩,
 ⟨some 41, .move (Operand.tmp 0), some (40, true), 0⟩,
 ⟨some 42, .call ⟨(Callee.builtin Builtin.len), [(Operand.tmp 41)].toArray, #[9]⟩, some (40, true), 0⟩,
 ⟨some 43, .binOp BinOp.leq 3 (Operand.tmp 42) (Operand.const (Value.int IntKind.i64 64)) 3, some (40, true), 0⟩,
 ⟨some 44, .pick (Operand.tmp 40) (Operand.tmp 43) (Operand.const (Value.bool false)), none, 0⟩,
 ⟨some 36, .assign (Operand.tmp 44), none, 0⟩])
 (.cond (Operand.tmp 36)
 (.seq
 (.ops [⟨some 45, .move (Operand.tmp 0), none, 0⟩,
 ⟨some 46, .move (Operand.tmp 1), none, 0⟩,
 ⟨some 47, .call ⟨(Callee.value (Operand.func 108)), [(Operand.tmp 45), (Operand.tmp 46)].toArray, #[9, 9]⟩, none, 0⟩,
 ⟨some 4, .assign (Operand.tmp 47), none, 0⟩])
 .ret)
 .skip)))))))))
 (.seq
 (.ops [⟨some 48, .move (Operand.tmp 1), none, 0⟩,
 ⟨some 49, .index 9 (Operand.tmp 48) (Operand.const (Value.int IntKind.i64 0)), none, 0⟩,
 ⟨some 6, .assign (Operand.tmp 49), none, 0⟩])
 (.seq
 (.ops [⟨some 50, .move (Operand.tmp 1), none, 0⟩,
 ⟨some 51, .index 9 (Operand.tmp 50) (Operand.const (Value.int IntKind.i64 1)), none, 0⟩,
 ⟨some 7, .assign (Operand.tmp 51), none, 0⟩])
 (.seq
 (.ops [⟨some 8, .assign (Operand.const (Value.int IntKind.i64 0)), none, 0⟩])
 (.seq
 (.ops [⟨some 52, .move (Operand.tmp 0), none, 0⟩,
 ⟨some 53, .call ⟨(Callee.builtin Builtin.len), [(Operand.tmp 52)].toArray, #[9]⟩, none, 0⟩,
 ⟨some 54, .move (Operand.tmp 5), none, 0⟩,
 ⟨some 55, .binOp BinOp.sub 3 (Operand.tmp 53) (Operand.tmp 54) 3, none, 0⟩,
 ⟨some 56, .binOp BinOp.add 3 (Operand.tmp 55) (Operand.const (Value.int IntKind.i64 1)) 3, none, 0⟩,
 ⟨some 9, .assign (Operand.tmp 56), none, 0⟩])
 (.seq
 (.ops [⟨some 10, .assign (Operand.const (Value.int IntKind.i64 0)), none, 0⟩])
 (.seq
 (.block 1
 (.loop
 (.seq
 (.seq
 (.ops [⟨some 57, .move (Operand.tmp 8), none, 0⟩,
 ⟨some 58, .move (Operand.tmp 9), none, 0⟩,
 ⟨some 59, .binOp BinOp.lss 3 (Operand.tmp 57) (Operand.tmp 58) 3, none, 0⟩])
 (.cond (Operand.tmp 59)
 .skip
 (.exit 1)))
 (.block 2
 (.seq
 (.seq
 (.ops [⟨some 60, .move (Operand.tmp 0), none, 0⟩,
 ⟨some 61, .move (Operand.tmp 8), none, 0⟩,
 ⟨some 62, .index 9 (Operand.tmp 60) (Operand.tmp 61), none, 0⟩,
 ⟨some 63, .move (Operand.tmp 6), none, 0⟩,
 ⟨some 64, .binOp BinOp.neq 5 (Operand.tmp 62) (Operand.tmp 63) 5, none, 0⟩])
 (.cond (Operand.tmp 64)
 (.seq
 (.ops [⟨some 65, .move (Operand.tmp 0), none, 0⟩,
 ⟨some 66, .move (Operand.tmp 8), none, 0⟩,
 ⟨some 67, .binOp BinOp.add 3 (Operand.tmp 66) (Operand.const (Value.int IntKind.i64 1)) 3, none, 0⟩,
 ⟨some 68, .move (Operand.tmp 9), none, 0⟩,
 ⟨some 69, .slice 9 (Operand.tmp 65) (some (Operand.tmp 67)) (some (Operand.tmp 68)) none, none, 0⟩,
 ⟨some 70, .move (Operand.tmp 6), none, 0⟩,
 ⟨some 71, .call ⟨(Callee.value (Operand.func 88)), [(Operand.tmp 69), (Operand.tmp 70)].toArray, #[9, 5]⟩, none, 0⟩,
 ⟨some 11, .assign (Operand.tmp 71), none, 0⟩])
 (.seq
 (.seq
 (.ops [⟨some 72, .move (Operand.tmp 11), none, 0⟩,
 ⟨some 73, .binOp BinOp.lss 3 (Operand.tmp 72) (Operand.const (Value.int IntKind.i64 0)) 3, none, 0⟩])
 (.cond (Operand.tmp 73)
 (.seq
 (.ops [⟨some 4, .assign (Operand.const (Value.int IntKind.i64 (-1))), none, 0⟩])
 .ret)
 .skip))
 (.ops [⟨some 74, .move (Operand.tmp 8), none, 0⟩,
 ⟨some 75, .move (Operand.tmp 11), none, 0⟩,
 ⟨some 76, .binOp BinOp.add 3 (Operand.tmp 75) (Operand.const (Value.int IntKind.i64 1)) 3, none, 0⟩,
 ⟨some 77, .binOp BinOp.add 3 (Operand.tmp 74) (Operand.tmp 76) 3, none, 0⟩,
 ⟨some 8, .assign (Operand.tmp 77), none, 0⟩])))
 .skip))
 (.seq
 (.seq
 (.ops [⟨some 78, .move (Operand.tmp 0), none, 0⟩,
 ⟨some 79, .move (Operand.tmp 8), none, 0⟩,
 ⟨some 80, .binOp BinOp.add 3 (Operand.tmp 79) (Operand.const (Value.int IntKind.i64 1)) 3, none, 0⟩,
 ⟨some 81, .index 9 (Operand.tmp 78) (Operand.tmp 80), none, 0⟩,
 ⟨some 82, .move (Operand.tmp 7), none, 0⟩,
 ⟨some 83, .binOp BinOp.eql 5 (Operand.tmp 81) (Operand.tmp 82) 5, none, 0⟩,
 ⟨some 84, .move (Operand.tmp 83), none, 0⟩,
 ⟨some 85, .move (Operand.tmp 0), some (84, true), 0⟩,
 ⟨some 86, .move (Operand.tmp 8), some (84, true), 0⟩,
 ⟨some 87, .move (Operand.tmp 8), some (84, true), 0⟩,
 ⟨some 88, .move (Operand.tmp 5), some (84, true), 0⟩,
 ⟨some 89, .binOp BinOp.add 3 (Operand.tmp 87) (Operand.tmp 88) 3, some (84, true), 0⟩,
 ⟨some 90, .slice 9 (Operand.tmp 85) (some (Operand.tmp 86)) (some (Operand.tmp 89)) none, some (84, true), 0⟩,
 ⟨some 91, .move (Operand.tmp 1), some (84, true), 0⟩,
 ⟨some 92, .binOp BinOp.eql 9 (Operand.tmp 90) (Operand.tmp 91) 9, some (84, true), 0⟩,
 ⟨some 93, .pick (Operand.tmp 84) (Operand.tmp 92) (Operand.const (Value.bool false)), none, 0⟩])
 (.cond (Operand.tmp 93)
 (.seq
 (.ops [⟨some 94, .move (Operand.tmp 8), none, 0⟩,
 ⟨some 4, .assign (Operand.tmp 94), none, 0⟩])
 .ret)
 .skip))
 (.seq
 (.ops [⟨some 95, .move (Operand.tmp 8), none, 0⟩,
 ⟨some 96, .binOp BinOp.add 3 (Operand.tmp 95) (Operand.const (Value.int IntKind.i64 1)) 3, none, 0⟩,
 ⟨some 8, .assign (Operand.tmp 96), none, 0⟩])
 (.seq
 (.ops [⟨some 97, .move (Operand.tmp 10), none, 0⟩,
 ⟨some 98, .binOp BinOp.add 3 (Operand.tmp 97) (Operand.const (Value.int IntKind.i64 1)) 3, none, 0⟩,
 ⟨some 10, .assign (Operand.tmp 98), none, 0⟩])
 (.seq
 (.ops [⟨some 99, .move (Operand.tmp 5), none, 0⟩,
 ⟨some 100, .load 3 (Operand.global 0), none, 0⟩,
 ⟨some 101, .binOp BinOp.leq 3 (Operand.tmp 99) (Operand.tmp 100) 3, none, 0⟩,
 ⟨some 102, .move (Operand.tmp 101), none, 0⟩,
 ⟨some 103, .move (Operand.tmp 10), some (102, true), 0⟩,
 ⟨some 104, .move (Operand.tmp 8), some (102, true), 0⟩,
 ⟨some 105, .call ⟨(Callee.value (Operand.func 109)), [(Operand.tmp 104)].toArray, #[3]⟩, some (102, true), 0⟩,
 ⟨some 106, .binOp BinOp.gtr 3 (Operand.tmp 103) (Operand.tmp 105) 3, some (102, true), 0⟩,
 ⟨some 107, .pick (Operand.tmp 102) (Operand.tmp 106) (Operand.const (Value.bool false)), none, 0⟩])
 (.cond (Operand.tmp 107)
 (.seq
 (.ops [⟨some 108, .move (Operand.tmp 0), none, 0⟩,
 ⟨some 109, .move (Operand.tmp 8), none, 0⟩,
 ⟨some 110, .slice 9 (Operand.tmp 108) (some (Operand.tmp 109)) none none, none, 0⟩,
 ⟨some 111, .move (Operand.tmp 1), none, 0⟩,
 ⟨some 112, .call ⟨(Callee.value (Operand.func 108)), [(Operand.tmp 110), (Operand.tmp 111)].toArray, #[9, 9]⟩, none, 0⟩,
 ⟨some 12, .assign (Operand.tmp 112), none, 0⟩])
 (.seq
 (.seq
 (.ops [⟨some 113, .move (Operand.tmp 12), none, 0⟩,
 ⟨some 114, .binOp BinOp.geq 3 (Operand.tmp 113) (Operand.const (Value.int IntKind.i64 0)) 3, none, 0⟩])
 (.cond (Operand.tmp 114)
 (.seq
 (.ops [⟨some 115, .move (Operand.tmp 12), none, 0⟩,
 ⟨some 116, .move (Operand.tmp 8), none, 0⟩,
 ⟨some 117, .binOp BinOp.add 3 (Operand.tmp 115) (Operand.tmp 116) 3, none, 0⟩,
 ⟨some 4, .assign (Operand.tmp 117), none, 0⟩])
 .ret)
 .skip))
 (.seq
 (.ops [⟨some 4, .assign (Operand.const (Value.int IntKind.i64 (-1))), none, 0⟩])
 .ret)))
 (.seq
 (.ops [⟨some 118, .move (Operand.tmp 5), none, 0⟩,
 ⟨some 119, .load 3 (Operand.global 0), none, 0⟩,
 ⟨some 120, .binOp BinOp.gtr 3 (Operand.tmp 118) (Operand.tmp 119) 3, none, 0⟩,
 ⟨some 121, .move (Operand.tmp 120), none, 0⟩,
 ⟨some 122, .move (Operand.tmp 10), some (121, true), 0⟩,
 ⟨some 123, .move (Operand.tmp 8), some (121, true), 0⟩,
 ⟨some 124, .binOp BinOp.shr 3 (Operand.tmp 123) (Operand.const (Value.int IntKind.u64 4)) 92, some (121, true), 0⟩,
 ⟨some 125, .binOp BinOp.add 3 (Operand.const (Value.int IntKind.i64 4)) (Operand.tmp 124) 3, some (121, true), 0⟩,
 ⟨some 126, .binOp BinOp.geq 3 (Operand.tmp 122) (Operand.tmp 125) 3, some (121, true), 0⟩,
 ⟨some 127, .pick (Operand.tmp 121) (Operand.tmp 126) (Operand.const (Value.bool false)), none, 0⟩,
 ⟨some 128, .move (Operand.tmp 127), none, 0⟩,
 ⟨some 129, .move (Operand.tmp 8), some (128, true), 0⟩,
 ⟨some 130, .move (Operand.tmp 9), some (128, true), 0⟩,
 ⟨some 131, .binOp BinOp.lss 3 (Operand.tmp 129) (Operand.tmp 130) 3, some (128, true), 0⟩,
 ⟨some 132, .pick (Operand.tmp 128) (Operand.tmp 131) (Operand.const (Value.bool false)), none, 0⟩])
 (.cond (Operand.tmp 132)
 (.seq
 (.ops [⟨some 133, .move (Operand.tmp 0), none, 0⟩,
 ⟨some 134, .move (Operand.tmp 8), none, 0⟩,
 ⟨some 135, .slice 9 (Operand.tmp 133) (some (Operand.tmp 134)) none none, none, 0⟩,
 ⟨some 136, .move (Operand.tmp 1), none, 0⟩,
 ⟨some 137, .call ⟨(Callee.value (Operand.func 110)), [(Operand.tmp 135), (Operand.tmp 136)].toArray, #[9, 9]⟩, none, 0⟩,
 ⟨some 13, .assign (Operand.tmp 137), none, 0⟩])
 (.seq
 (.seq
 (.ops [⟨some 138, .move (Operand.tmp 13), none, 0⟩,
 ⟨some 139, .binOp BinOp.lss 3 (Operand.tmp 138) (Operand.const (Value.int IntKind.i64 0)) 3, none, 0⟩])
 (.cond (Operand.tmp 139)
 (.seq
 (.ops [⟨some 4, .assign (Operand.const (Value.int IntKind.i64 (-1))), none, 0⟩])
 .ret)
 .skip))
 (.seq
 (.ops [⟨some 140, .move (Operand.tmp 8), none, 0⟩,
 ⟨some 141, .move (Operand.tmp 13), none, 0⟩,
 ⟨some 142, .binOp BinOp.add 3 (Operand.tmp 140) (Operand.tmp 141) 3, none, 0⟩,
 ⟨some 4, .assign (Operand.tmp 142), none, 0⟩])
 .ret)))
 .skip))))))))))))
 (.seq
 (.ops [⟨some 4, .assign (Operand.const (Value.int IntKind.i64 (-1))), none, 0⟩])
 .ret))))))))))
abbrev R84 : List ResultVar := [ResultVar.tmp 4]
theorem ok84 : FnOK Tryd.prog 84 L84 R84 2 := ⟨_, _, Tryd.func84, rfl, by kernel_rfl, by kernel_rfl, by kernel_rfl, by kernel_rfl, Nat.le_of_ble_eq_true (by kernel_rfl), by kernel_rfl⟩

/-- slices.insertionSortCmpFunc[ablaut/api.Shift] -/
def L89 : LCode :=
 (.seq
 (.ops [⟨some 10, .move (Operand.tmp 1), none, 0⟩,
 ⟨some 11, .binOp BinOp.add 3 (Operand.tmp 10) (Operand.const (Value.int IntKind.i64 1)) 3, none, 0⟩,
 ⟨some 8, .assign (Operand.tmp 11), none, 0⟩])
 (.block 0
 (.loop
 (.seq
 (.seq
 (.ops [⟨some 12, .move (Operand.tmp 8), none, 0⟩,
 ⟨some 13, .move (Operand.tmp 2), none, 0⟩,
 ⟨some 14, .binOp BinOp.lss 3 (Operand.tmp 12) (Operand.tmp 13) 3, none, 0⟩])
 (.cond (Operand.tmp 14)
 .skip
 (.exit 0)))
 (.seq
 (.block 1
 (.seq
 (.ops [⟨some 17, .move (Operand.tmp 8), none, 0⟩,
 ⟨some 9, .assign (Operand.tmp 17), none, 0⟩])
 (.block 2
 (.loop
 (.seq
 (.seq
 (.draw [⟨some 18, .move (Operand.tmp 9), none, 0⟩,
 ⟨some 19, .move (Operand.tmp 1), none, 0⟩,
 ⟨some 20, .binOp BinOp.gtr 3 (Operand.tmp 18) (Operand.tmp 19) 3, none, 0⟩,
 ⟨some 21, .move (Operand.tmp 20), none, 0⟩,
 ⟨some 22, .move (Operand.tmp 3), some (21, true), 0⟩,
 ⟨some 23, .move (Operand.tmp 0), some (21, true), 0⟩,
 ⟨some 24, .move (Operand.tmp 9), some (21, true), 0⟩,
 ⟨some 25, .indexAddr 22 (Operand.tmp 23) (Operand.tmp 24), some (21, true), 0⟩,
 ⟨some 26, .load 46 (Operand.tmp 25), some (21, true), 0⟩,
 ⟨some 27, .move (Operand.tmp 0), some (21, true), 0⟩,
 ⟨some 28, .move (Operand.tmp 9), some (21, true), 0⟩,
 ⟨some 29, .binOp BinOp.sub 3 (Operand.tmp 28) (Operand.const (Value.int IntKind.i64 1)) 3, some (21, true), 0⟩,
 ⟨some 30, .indexAddr 22 (Operand.tmp 27) (Operand.tmp 29), some (21, true), 0⟩,
 ⟨some 31, .load 46 (Operand.tmp 30), some (21, true), 0⟩,
 ⟨some 32, .call ⟨(Callee.value (Operand.tmp 22)), [(Operand.tmp 26), (Operand.tmp 31)].toArray, #[46, 46]⟩, some (21, true), 0⟩,
 ⟨some 33, .binOp BinOp.lss 3 (Operand.tmp 32) (Operand.const (Value.int IntKind.i64 0)) 3, some (21, true), 0⟩,
 ⟨some 34, .pick (Operand.tmp 21) (Operand.tmp 33) (Operand.const (Value.bool false)), none, 0⟩] true [14, 15, 16] [0, 1, 2, 3, 4, 5, 6, 7, 9, 10, 11, 12, 8, 13, 14, 15, 16])
 (.cond (Operand.tmp 34)
 .skip
 (.exit 2)))
 (.seq
 (.block 3
 (.draw [⟨some 37, .move (Operand.tmp 0), none, 0⟩,
 ⟨some 38, .move (Operand.tmp 9), none, 0⟩,
 ⟨some 39, .move (Operand.tmp 0), none, 0⟩,
 ⟨some 40, .move (Operand.tmp 9), none, 0⟩,
 ⟨some 41, .binOp BinOp.sub 3 (Operand.tmp 40) (Operand.const (Value.int IntKind.i64 1)) 3, none, 0⟩,
 ⟨some 42, .move (Operand.tmp 0), none, 0⟩,
 ⟨some 43, .move (Operand.tmp 9), none, 0⟩,
 ⟨some 44, .binOp BinOp.sub 3 (Operand.tmp 43) (Operand.const (Value.int IntKind.i64 1)) 3, none, 0⟩,
 ⟨some 45, .indexAddr 22 (Operand.tmp 42) (Operand.tmp 44), none, 0⟩,
 ⟨some 46, .load 46 (Operand.tmp 45), none, 0⟩,
 ⟨some 47, .move (Operand.tmp 0), none, 0⟩,
 ⟨some 48, .move (Operand.tmp 9), none, 0⟩,
 ⟨some 49, .indexAddr 22 (Operand.tmp 47) (Operand.tmp 48), none, 0⟩,
 ⟨some 50, .load 46 (Operand.tmp 49), none, 0⟩,
 ⟨some 51, .indexAddr 22 (Operand.tmp 37) (Operand.tmp 38), none, 0⟩,
 ⟨none, .store 46 (Operand.tmp 51) (Operand.tmp 46), none, 0⟩,
 ⟨some 52, .indexAddr 22 (Operand.tmp 39) (Operand.tmp 41), none, 0⟩,
 ⟨none, .store 46 (Operand.tmp 52) (Operand.tmp 50), none, 0⟩] true [16, 17] [0, 1, 2, 3, 4, 5, 6, 7, 8, 10, 11, 12, 9, 13, 14, 15, 16, 17]))
 (.ops [⟨some 35, .move (Operand.tmp 9), none, 0⟩,
 ⟨some 36, .binOp BinOp.sub 3 (Operand.tmp 35) (Operand.const (Value.int IntKind.i64 1)) 3, none, 0⟩,
 ⟨some 9, .assign (Operand.tmp 36), none, 0⟩])))))))
 (.ops [⟨some 15, .move (Operand.tmp 8), none, 0⟩,
 ⟨some 16, .binOp BinOp.add 3 (Operand.tmp 15) (Operand.const (Value.int IntKind.i64 1)) 3, none, 0⟩,
 ⟨some 8, .assign (Operand.tmp 16), none, 0⟩]))))))
abbrev R89 : List ResultVar := []
theorem ok89 : FnOK Tryd.prog 89 L89 R89 4 := ⟨_, _, Tryd.func89, rfl, by kernel_rfl, by kernel_rfl, by kernel_rfl, by kernel_rfl, Nat.le_of_ble_eq_true (by kernel_rfl), by kernel_rfl⟩

/-- cmp.isNaN[string] -/
def L99 : LCode :=
 (.seq
 (.ops [⟨some 2, .assign (Operand.const (Value.bool false)), none, 0⟩])
 (.seq
 (.ops [⟨some 3, .move (Operand.tmp 0), none, 0⟩,
 ⟨some 4, .move (Operand.tmp 0), none, 0⟩,
 ⟨some 5, .binOp BinOp.neq 9 (Operand.tmp 3) (Operand.tmp 4) 9, none, 0⟩,
 ⟨some 2, .assign (Operand.tmp 5), none, 0⟩])
 .ret))
abbrev R99 : List ResultVar := [ResultVar.tmp 2]
theorem ok99 : FnOK Tryd.prog 99 L99 R99 1 := ⟨_, _, Tryd.func99, rfl, by kernel_rfl, by kernel_rfl, by kernel_rfl, by kernel_rfl, Nat.le_of_ble_eq_true (by kernel_rfl), by kernel_rfl⟩

/-- ablaut/ablautref01.IsSymbol -/
def L100 : LCode :=
 (.seq
 (.ops [⟨some 2, .assign (Operand.const (Value.bool false)), none, 0⟩])
 (.seq
 (.seq
 (.ops [⟨some 3, .assign (Operand.const (Value.int IntKind.i64 0)), none, 0⟩])
 (.block 0
 (.loop
 (.seq
 (.seq
 (.ops [⟨some 4, .move (Operand.tmp 3), none, 0⟩,
 ⟨some 5, .move (Operand.tmp 0), none, 0⟩,
 ⟨some 6, .call ⟨(Callee.builtin Builtin.len), [(Operand.tmp 5)].toArray, #[9]⟩, none, 0⟩,
 ⟨some 7, .binOp BinOp.lss 3 (Operand.tmp 4) (Operand.tmp 6) 3, none, 0⟩])
 (.cond (Operand.tmp 7)
 .skip
 (.exit 0)))
 (.seq
 (.block 1
 (.seq
 (.ops [⟨some 10, .move (Operand.tmp 0), none, 0⟩,
 ⟨some 11, .move (Operand.tmp 3), none, 0⟩,
 ⟨some 12, .index 9 (Operand.tmp 10) (Operand.tmp 11), none, 0⟩,
 ⟨some 13, .binOp BinOp.lss 5 (Operand.tmp 12) (Operand.const (Value.int IntKind.u8 33)) 5, none, 0⟩,
 ⟨some 14, .move (Operand.tmp 13), none, 0⟩,
 ⟨some 15, .move (Operand.tmp 0), some (14, false), 0⟩,
 ⟨some 16, .move (Operand.tmp 3), some (14, false), 0⟩,
 ⟨some 17, .index 9 (Operand.tmp 15) (Operand.tmp 16), some (14, false), 0⟩,
 ⟨some 18, .binOp BinOp.gtr 5 (Operand.tmp 17) (Operand.const (Value.int IntKind.u8 126)) 5, some (14, false), 0⟩,
 ⟨some 19, .pick (Operand.tmp 14) (Operand.const (Value.bool true)) (Operand.tmp 18), none, 0⟩,
 ⟨some 20, .move (Operand.tmp 19), none, 0⟩,
 ⟨some 21, .move (Operand.tmp 0), some (20, false), 0⟩,
 ⟨some 22, .move (Operand.tmp 3), some (20, false), 0⟩,
 ⟨some 23, .index 9 (Operand.tmp 21) (Operand.tmp 22), some (20, false), 0⟩,
 ⟨some 24, .binOp BinOp.eql 5 (Operand.tmp 23) (Operand.const (Value.int IntKind.u8 60)) 5, some (20, false), 0⟩,
 ⟨some 25, .pick (Operand.tmp 20) (Operand.const (Value.bool true)) (Operand.tmp 24), none, 0⟩,
 ⟨some 26, .move (Operand.tmp 25), none, 0⟩,
 ⟨some 27, .move (Operand.tmp 0), some (26, false), 0⟩,
 ⟨some 28, .move (Operand.tmp 3), some (26, false), 0⟩,
 ⟨some 29, .index 9 (Operand.tmp 27) (Operand.tmp 28), some (26, false), 0⟩,
 ⟨some 30, .binOp BinOp.eql 5 (Operand.tmp 29) (Operand.const (Value.int IntKind.u8 62)) 5, some (26, false), 0⟩,
 ⟨some 31, .pick (Operand.tmp 26) (Operand.const (Value.bool true)) (Operand.tmp 30), none, 0⟩])
 (.cond (Operand.tmp 31)
 (.seq
 (.ops [⟨some 2, .assign (Operand.const (Value.bool false)), none, 0⟩])
 .ret)
 .skip)))
 (.ops [⟨some 8, .move (Operand.tmp 3), none, 0⟩,
 ⟨some 9, .binOp BinOp.add 3 (Operand.tmp 8) (Operand.const (Value.int IntKind.i64 1)) 3, none, 0⟩,
 ⟨some 3, .assign (Operand.tmp 9), none, 0⟩]))))))
 (.seq
 (.ops [⟨some 32, .move (Operand.tmp 0), none, 0⟩,
 ⟨some 33, .call ⟨(Callee.builtin Builtin.len), [(Operand.tmp 32)].toArray, #[9]⟩, none, 0⟩,
 ⟨some 34, .binOp BinOp.geq 3 (Operand.tmp 33) (Operand.const (Value.int IntKind.i64 1)) 3, none, 0⟩,
 ⟨some 35, .move (Operand.tmp 34), none, 0⟩,
 ⟨some 36, .move (Operand.tmp 0), some (35, true), 0⟩,
 ⟨some 37, .call ⟨(Callee.builtin Builtin.len), [(Operand.tmp 36)].toArray, #[9]⟩, some (35, true), 0⟩,
 ⟨some 38, .binOp BinOp.leq 3 (Operand.tmp 37) (Operand.const (Value.int IntKind.i64 16)) 3, some (35, true), 0⟩,
 ⟨some 39, .pick (Operand.tmp 35) (Operand.tmp 38) (Operand.const (Value.bool false)), none, 0⟩,
 ⟨some 2, .assign (Operand.tmp 39), none, 0⟩])
 .ret)))
abbrev R100 : List ResultVar := [ResultVar.tmp 2]
theorem ok100 : FnOK Tryd.prog 100 L100 R100 1 := ⟨_, _, Tryd.func100, rfl, by kernel_rfl, by kernel_rfl, by kernel_rfl, by kernel_rfl, Nat.le_of_ble_eq_true (by kernel_rfl), by kernel_rfl⟩

/-- slices.IndexFunc[[]string,string] -/
def L101 : LCode :=
 (.seq
 (.ops [⟨some 4, .assign (Operand.const (Value.int IntKind.i64 0)), none, 0⟩])
 (.seq
 (.seq
 (.ops [⟨some 6, .move (Operand.tmp 0), none, 0⟩,
 ⟨some 7, .call ⟨(Callee.builtin Builtin.len), [(Operand.tmp 6)].toArray, #[29]⟩, none, 0⟩,
 ⟨some 8, .move (Operand.const (Value.int IntKind.i64 0)), none, 0⟩])
 (.block 0
 (.loop
 (.seq
 (.ops [⟨some 9, .binOp BinOp.lss 3 (Operand.tmp 8) (Operand.tmp 7) 3, none, 0⟩])
 (.seq
 (.cond (Operand.tmp 9)
 .skip
 (.exit 0))
 (.seq
 (.block 1
 (.seq
 (.ops [⟨some 10, .move (Operand.tmp 8), none, 0⟩,
 ⟨some 5, .assign (Operand.tmp 10), none, 0⟩])
 (.seq
 (.ops [⟨some 11, .move (Operand.tmp 1), none, 0⟩,
 ⟨some 12, .move (Operand.tmp 0), none, 0⟩,
 ⟨some 13, .move (Operand.tmp 5), none, 0⟩,
 ⟨some 14, .indexAddr 29 (Operand.tmp 12) (Operand.tmp 13), none, 0⟩,
 ⟨some 15, .load 9 (Operand.tmp 14), none, 0⟩,
 ⟨some 16, .call ⟨(Callee.value (Operand.tmp 11)), [(Operand.tmp 15)].toArray, #[9]⟩, none, 0⟩])
 (.cond (Operand.tmp 16)
 (.seq
 (.ops [⟨some 17, .move (Operand.tmp 5), none, 0⟩,
 ⟨some 4, .assign (Operand.tmp 17), none, 0⟩])
 .ret)
 .skip))))
 (.ops [⟨some 18, .binOp BinOp.add 3 (Operand.tmp 8) (Operand.const (Value.int IntKind.i64 1)) 3, none, 0⟩,
 ⟨some 8, .move (Operand.tmp 18), none, 0⟩])))))))
 (.seq
 (.ops [⟨some 4, .assign (Operand.const (Value.int IntKind.i64 (-1))), none, 0⟩])
 .ret)))
abbrev R101 : List ResultVar := [ResultVar.tmp 4]
theorem ok101 : FnOK Tryd.prog 101 L101 R101 2 := ⟨_, _, Tryd.func101, rfl, by kernel_rfl, by kernel_rfl, by kernel_rfl, by kernel_rfl, Nat.le_of_ble_eq_true (by kernel_rfl), by kernel_rfl⟩

/-- ablaut/script.waits$1 -/
def L102 : LCode :=
 (.seq
 (.ops [⟨some 2, .box 46 (Operand.tmp 0), none, 0⟩,
 ⟨some 3, .assign (Operand.const (Value.bool false)), none, 0⟩])
 (.seq
 (.ops [⟨some 4, .fieldAddr 46 (Operand.tmp 2) 0, none, 0⟩,
 ⟨some 5, .load 29 (Operand.tmp 4), none, 0⟩,
 ⟨some 6, .call ⟨(Callee.builtin Builtin.len), [(Operand.tmp 5)].toArray, #[29]⟩, none, 0⟩,
 ⟨some 7, .load 29 (Operand.tmp 1), none, 0⟩,
 ⟨some 8, .call ⟨(Callee.builtin Builtin.len), [(Operand.tmp 7)].toArray, #[29]⟩, none, 0⟩,
 ⟨some 9, .binOp BinOp.gtr 3 (Operand.tmp 6) (Operand.tmp 8) 3, none, 0⟩,
 ⟨some 10, .move (Operand.tmp 9), none, 0⟩,
 ⟨some 11, .fieldAddr 46 (Operand.tmp 2) 0, some (10, true), 0⟩,
 ⟨some 12, .load 29 (Operand.tmp 11), some (10, true), 0⟩,
 ⟨some 13, .load 29 (Operand.tmp 1), some (10, true), 0⟩,
 ⟨some 14, .call ⟨(Callee.value (Operand.func 70)), [(Operand.tmp 12), (Operand.tmp 13)].toArray, #[29, 29]⟩, some (10, true), 0⟩,
 ⟨some 15, .pick (Operand.tmp 10) (Operand.tmp 14) (Operand.const (Value.bool false)), none, 0⟩,
 ⟨some 3, .assign (Operand.tmp 15), none, 0⟩])
 .ret))
abbrev R102 : List ResultVar := [ResultVar.tmp 3]
theorem ok102 : FnOK Tryd.prog 102 L102 R102 2 := ⟨_, _, Tryd.func102, rfl, by kernel_rfl, by kernel_rfl, by kernel_rfl, by kernel_rfl, Nat.le_of_ble_eq_true (by kernel_rfl), by kernel_rfl⟩

/-- (*strings.Builder).Grow -/
def L103 : LCode :=
 (.seq
 (.ops [⟨some 4, .move (Operand.tmp 0), none, 0⟩,
 ⟨some 5, .call ⟨(Callee.value (Operand.func 120)), [(Operand.tmp 4)].toArray, #[118]⟩, none, 0⟩])
 (.seq
 (.seq
 (.ops [⟨some 6, .move (Operand.tmp 1), none, 0⟩,
 ⟨some 7, .binOp BinOp.lss 3 (Operand.tmp 6) (Operand.const (Value.int IntKind.i64 0)) 3, none, 0⟩])
 (.cond (Operand.tmp 7)
 (.ops [⟨some 8, .makeInterface 9 (Operand.const (Value.string ⟨#[115, 116, 114, 105, 110, 103, 115, 46, 66, 117, 105, 108, 100, 101, 114, 46, 71, 114, 111, 119, 58, 32, 110, 101, 103, 97, 116, 105, 118, 101, 32, 99, 111, 117, 110, 116]⟩)), none, 0⟩,
 ⟨none, .panic (Operand.tmp 8), none, 0⟩])
 .skip))
 (.seq
 (.draw [⟨some 9, .move (Operand.tmp 0), none, 0⟩,
 ⟨some 10, .nilCheck (Operand.tmp 9), none, 0⟩,
 ⟨some 11, .fieldAddr 121 (Operand.tmp 10) 1, none, 0⟩,
 ⟨some 12, .load 119 (Operand.tmp 11), none, 0⟩,
 ⟨some 13, .call ⟨(Callee.builtin Builtin.cap), [(Operand.tmp 12)].toArray, #[119]⟩, none, 0⟩,
 ⟨some 14, .move (Operand.tmp 0), none, 0⟩,
 ⟨some 15, .nilCheck (Operand.tmp 14), none, 0⟩,
 ⟨some 16, .fieldAddr 121 (Operand.tmp 15) 1, none, 0⟩,
 ⟨some 17, .load 119 (Operand.tmp 16), none, 0⟩,
 ⟨some 18, .call ⟨(Callee.builtin Builtin.len), [(Operand.tmp 17)].toArray, #[119]⟩, none, 0⟩,
 ⟨some 19, .binOp BinOp.sub 3 (Operand.tmp 13) (Operand.tmp 18) 3, none, 0⟩,
 ⟨some 20, .move (Operand.tmp 1), none, 0⟩,
 ⟨some 21, .binOp BinOp.lss 3 (Operand.tmp 19) (Operand.tmp 20) 3, none, 0⟩] true [12] [])
 (.cond (Operand.tmp 21)
 (.ops [⟨some 22, .move (Operand.tmp 0), none, 0⟩,
 ⟨some 23, .move (Operand.tmp 1), none, 0⟩,
 ⟨some 24, .call ⟨(Callee.value (Operand.func 121)), [(Operand.tmp 22), (Operand.tmp 23)].toArray, #[118, 3]⟩, none, 0⟩])
 .skip))))
abbrev R103 : List ResultVar := []
theorem ok103 : FnOK Tryd.prog 103 L103 R103 2 := ⟨_, _, Tryd.func103, rfl, by kernel_rfl, by kernel_rfl, by kernel_rfl, by kernel_rfl, Nat.le_of_ble_eq_true (by kernel_rfl), by kernel_rfl⟩

/-- (*strings.Builder).WriteString -/
def L104 : LCode :=
 (.seq
 (.ops [⟨some 4, .assign (Operand.const (Value.int IntKind.i64 0)), none, 0⟩,
 ⟨some 5, .assign (Operand.const Value.nilIface), none, 0⟩])
 (.seq
 (.ops [⟨some 6, .move (Operand.tmp 0), none, 0⟩,
 ⟨some 7, .call ⟨(Callee.value (Operand.func 120)), [(Operand.tmp 6)].toArray, #[118]⟩, none, 0⟩])
 (.seq
 (.ops [⟨some 8, .move (Operand.tmp 0), none, 0⟩,
 ⟨some 9, .move (Operand.tmp 0), none, 0⟩,
 ⟨some 10, .nilCheck (Operand.tmp 9), none, 0⟩,
 ⟨some 11, .fieldAddr 121 (Operand.tmp 10) 1, none, 0⟩,
 ⟨some 12, .load 119 (Operand.tmp 11), none, 0⟩,
 ⟨some 13, .move (Operand.tmp 1), none, 0⟩,
 ⟨some 14, .call ⟨(Callee.builtin Builtin.append), [(Operand.tmp 12), (Operand.tmp 13)].toArray, #[119, 9]⟩, none, 0⟩,
 ⟨some 15, .nilCheck (Operand.tmp 8), none, 0⟩,
 ⟨some 16, .fieldAddr 121 (Operand.tmp 15) 1, none, 0⟩,
 ⟨none, .store 119 (Operand.tmp 16) (Operand.tmp 14), none, 0⟩])
 (.seq
 (.ops [⟨some 17, .move (Operand.tmp 1), none, 0⟩,
 ⟨some 18, .call ⟨(Callee.builtin Builtin.len), [(Operand.tmp 17)].toArray, #[9]⟩, none, 0⟩,
 ⟨some 4, .assign (Operand.tmp 18), none, 0⟩,
 ⟨some 5, .assign (Operand.const Value.nilIface), none, 0⟩])
 .ret))))
abbrev R104 : List ResultVar := [ResultVar.tmp 4, ResultVar.tmp 5]
theorem ok104 : FnOK Tryd.prog 104 L104 R104 2 := ⟨_, _, Tryd.func104, rfl, by kernel_rfl, by kernel_rfl, by kernel_rfl, by kernel_rfl, Nat.le_of_ble_eq_true (by kernel_rfl), by kernel_rfl⟩

/-- (*strings.Builder).String -/
def L105 : LCode :=
 (.seq
 (.ops [⟨some 2, .assign (Operand.const (Value.string ⟨#[]⟩)), none, 0⟩])
 (.seq
 (.draw [⟨some 3, .move (Operand.tmp 0), none, 0⟩,
 ⟨some 4, .nilCheck (Operand.tmp 3), none, 0⟩,
 ⟨some 5, .fieldAddr 121 (Operand.tmp 4) 1, none, 0⟩,
 ⟨some 6, .load 119 (Operand.tmp 5), none, 0⟩,
 ⟨some 7, .call ⟨(Callee.builtin Builtin.unsafeSliceData), [(Operand.tmp 6)].toArray, #[119]⟩, none, 0⟩,
 ⟨some 8, .move (Operand.tmp 0), none, 0⟩,
 ⟨some 9, .nilCheck (Operand.tmp 8), none, 0⟩,
 ⟨some 10, .fieldAddr 121 (Operand.tmp 9) 1, none, 0⟩,
 ⟨some 11, .load 119 (Operand.tmp 10), none, 0⟩,
 ⟨some 12, .call ⟨(Callee.builtin Builtin.len), [(Operand.tmp 11)].toArray, #[119]⟩, none, 0⟩,
 ⟨some 13, .call ⟨(Callee.builtin Builtin.unsafeString), [(Operand.tmp 7), (Operand.tmp 12)].toArray, #[138, 3]⟩, none, 0⟩,
 ⟨some 2, .assign (Operand.tmp 13), none, 0⟩] true [10, 11] [])
 .ret))
abbrev R105 : List ResultVar := [ResultVar.tmp 2]
theorem ok105 : FnOK Tryd.prog 105 L105 R105 1 := ⟨_, _, Tryd.func105, rfl, by kernel_rfl, by kernel_rfl, by kernel_rfl, by kernel_rfl, Nat.le_of_ble_eq_true (by kernel_rfl), by kernel_rfl⟩

/-- ablaut/ablautref01.anyLong -/
def L106 : LCode :=
 (.seq
 (.ops [⟨some 2, .assign (Operand.const (Value.bool false)), none, 0⟩])
 (.seq
 (.seq
 (.ops [⟨some 3, .assign (Operand.const (Value.int IntKind.i64 0)), none, 0⟩])
 (.block 0
 (.loop
 (.seq
 (.seq
 (.ops [⟨some 4, .move (Operand.tmp 3), none, 0⟩,
 ⟨some 5, .move (Operand.tmp 0), none, 0⟩,
 ⟨some 6, .call ⟨(Callee.builtin Builtin.len), [(Operand.tmp 5)].toArray, #[29]⟩, none, 0⟩,
 ⟨some 7, .binOp BinOp.lss 3 (Operand.tmp 4) (Operand.tmp 6) 3, none, 0⟩])
 (.cond (Operand.tmp 7)
 .skip
 (.exit 0)))
 (.seq
 (.block 1
 (.seq
 (.ops [⟨some 10, .move (Operand.tmp 0), none, 0⟩,
 ⟨some 11, .move (Operand.tmp 3), none, 0⟩,
 ⟨some 12, .indexAddr 29 (Operand.tmp 10) (Operand.tmp 11), none, 0⟩,
 ⟨some 13, .load 9 (Operand.tmp 12), none, 0⟩,
 ⟨some 14, .call ⟨(Callee.builtin Builtin.len), [(Operand.tmp 13)].toArray, #[9]⟩, none, 0⟩,
 ⟨some 15, .binOp BinOp.gtr 3 (Operand.tmp 14) (Operand.const (Value.int IntKind.i64 16)) 3, none, 0⟩])
 (.cond (Operand.tmp 15)
 (.seq
 (.ops [⟨some 2, .assign (Operand.const (Value.bool true)), none, 0⟩])
 .ret)
 .skip)))
 (.ops [⟨some 8, .move (Operand.tmp 3), none, 0⟩,
 ⟨some 9, .binOp BinOp.add 3 (Operand.tmp 8) (Operand.const (Value.int IntKind.i64 1)) 3, none, 0⟩,
 ⟨some 3, .assign (Operand.tmp 9), none, 0⟩]))))))
 (.seq
 (.ops [⟨some 2, .assign (Operand.const (Value.bool false)), none, 0⟩])
 .ret)))
abbrev R106 : List ResultVar := [ResultVar.tmp 2]
theorem ok106 : FnOK Tryd.prog 106 L106 R106 1 := ⟨_, _, Tryd.func106, rfl, by kernel_rfl, by kernel_rfl, by kernel_rfl, by kernel_rfl, Nat.le_of_ble_eq_true (by kernel_rfl), by kernel_rfl⟩

/-- ablaut/ablautref01.allSymbols -/
def L107 : LCode :=
 (.seq
 (.ops [⟨some 2, .assign (Operand.const (Value.bool false)), none, 0⟩])
 (.seq
 (.seq
 (.ops [⟨some 3, .assign (Operand.const (Value.int IntKind.i64 0)), none, 0⟩])
 (.block 0
 (.loop
 (.seq
 (.seq
 (.ops [⟨some 4, .move (Operand.tmp 3), none, 0⟩,
 ⟨some 5, .move (Operand.tmp 0), none, 0⟩,
 ⟨some 6, .call ⟨(Callee.builtin Builtin.len), [(Operand.tmp 5)].toArray, #[29]⟩, none, 0⟩,
 ⟨some 7, .binOp BinOp.lss 3 (Operand.tmp 4) (Operand.tmp 6) 3, none, 0⟩])
 (.cond (Operand.tmp 7)
 .skip
 (.exit 0)))
 (.seq
 (.block 1
 (.seq
 (.ops [⟨some 10, .move (Operand.tmp 0), none, 0⟩,
 ⟨some 11, .move (Operand.tmp 3), none, 0⟩,
 ⟨some 12, .indexAddr 29 (Operand.tmp 10) (Operand.tmp 11), none, 0⟩,
 ⟨some 13, .load 9 (Operand.tmp 12), none, 0⟩,
 ⟨some 14, .call ⟨(Callee.value (Operand.func 100)), [(Operand.tmp 13)].toArray, #[9]⟩, none, 0⟩,
 ⟨some 15, .unOp UnOp.not 4 (Operand.tmp 14), none, 0⟩])
 (.cond (Operand.tmp 15)
 (.seq
 (.ops [⟨some 2, .assign (Operand.const (Value.bool false)), none, 0⟩])
 .ret)
 .skip)))
 (.ops [⟨some 8, .move (Operand.tmp 3), none, 0⟩,
 ⟨some 9, .binOp BinOp.add 3 (Operand.tmp 8) (Operand.const (Value.int IntKind.i64 1)) 3, none, 0⟩,
 ⟨some 3, .assign (Operand.tmp 9), none, 0⟩]))))))
 (.seq
 (.ops [⟨some 2, .assign (Operand.const (Value.bool true)), none, 0⟩])
 .ret)))
abbrev R107 : List ResultVar := [ResultVar.tmp 2]
theorem ok107 : FnOK Tryd.prog 107 L107 R107 1 := ⟨_, _, Tryd.func107, rfl, by kernel_rfl, by kernel_rfl, by kernel_rfl, by kernel_rfl, Nat.le_of_ble_eq_true (by kernel_rfl), by kernel_rfl⟩

/-- (*strings.Builder).copyCheck -/
def L120 : LCode :=
 (.seq
 (.ops [⟨some 2, .move (Operand.tmp 0), none, 0⟩,
 ⟨some 3, .nilCheck (Operand.tmp 2), none, 0⟩,
 ⟨some 4, .fieldAddr 121 (Operand.tmp 3) 0, none, 0⟩,
 ⟨some 5, .load 118 (Operand.tmp 4), none, 0⟩,
 ⟨some 6, .binOp BinOp.eql 118 (Operand.tmp 5) (Operand.const (Value.pointer none)) 118, none, 0⟩])
 (.cond (Operand.tmp 6)
 (.ops [⟨some 7, .move (Operand.tmp 0), none, 0⟩,
 ⟨some 8, .move (Operand.tmp 0), none, 0⟩,
 ⟨some 9, .convert 118 144 (Operand.tmp 8), none, 0⟩,
 ⟨some 10, .call ⟨(Callee.value (Operand.func 125)), [(Operand.tmp 9)].toArray, #[144]⟩, none, 0⟩,
 ⟨some 11, .convert 144 118 (Operand.tmp 10), none, 0⟩,
 ⟨some 12, .nilCheck (Operand.tmp 7), none, 0⟩,
 ⟨some 13, .fieldAddr 121 (Operand.tmp 12) 0, none, 0⟩,
 ⟨none, .store 118 (Operand.tmp 13) (Operand.tmp 11), none, 0⟩])
 (.seq
 (.ops [⟨some 14, .move (Operand.tmp 0), none, 0⟩,
 ⟨some 15, .nilCheck (Operand.tmp 14), none, 0⟩,
 ⟨some 16, .fieldAddr 121 (Operand.tmp 15) 0, none, 0⟩,
 ⟨some 17, .load 118 (Operand.tmp 16), none, 0⟩,
 ⟨some 18, .move (Operand.tmp 0), none, 0⟩,
 ⟨some 19, .binOp BinOp.neq 118 (Operand.tmp 17) (Operand.tmp 18) 118, none, 0⟩])
 (.cond (Operand.tmp 19)
 .bad
 .skip))))
abbrev R120 : List ResultVar := []
theorem ok120 : FnOK Tryd.prog 120 L120 R120 1 := ⟨_, _, Tryd.func120, rfl, by kernel_rfl, by kernel_rfl, by kernel_rfl, by kernel_rfl, Nat.le_of_ble_eq_true (by kernel_rfl), by kernel_rfl⟩

/-- (*strings.Builder).grow -/
def L121 : LCode :=
 (.seq
 (.draw [⟨some 5, .move (Operand.tmp 0), none, 0⟩,
 ⟨some 6, .nilCheck (Operand.tmp 5), none, 0⟩,
 ⟨some 7, .fieldAddr 121 (Operand.tmp 6) 1, none, 0⟩,
 ⟨some 8, .load 119 (Operand.tmp 7), none, 0⟩,
 ⟨some 9, .call ⟨(Callee.builtin Builtin.cap), [(Operand.tmp 8)].toArray, #[119]⟩, none, 0⟩,
 ⟨some 10, .binOp BinOp.mul 3 (Operand.const (Value.int IntKind.i64 2)) (Operand.tmp 9) 3, none, 0⟩,
 ⟨some 11, .move (Operand.tmp 1), none, 0⟩,
 ⟨some 12, .binOp BinOp.add 3 (Operand.tmp 10) (Operand.tmp 11) 3, none, 0⟩,
 ⟨some 13, .call ⟨(Callee.value (Operand.func 126)), [(Operand.tmp 12)].toArray, #[3]⟩, none, 0⟩,
 ⟨some 14, .move (Operand.tmp 0), none, 0⟩,
 ⟨some 15, .nilCheck (Operand.tmp 14), none, 0⟩,
 ⟨some 16, .fieldAddr 121 (Operand.tmp 15) 1, none, 0⟩,
 ⟨some 17, .load 119 (Operand.tmp 16), none, 0⟩,
 ⟨some 18, .call ⟨(Callee.builtin Builtin.len), [(Operand.tmp 17)].toArray, #[119]⟩, none, 0⟩,
 ⟨some 19, .slice 119 (Operand.tmp 13) none (some (Operand.tmp 18)) none, none, 0⟩,
 ⟨some 4, .assign (Operand.tmp 19), none, 0⟩] true [14, 15] [])
 (.seq
 (.ops [⟨some 20, .move (Operand.tmp 4), none, 0⟩,
 ⟨some 21, .move (Operand.tmp 0), none, 0⟩,
 ⟨some 22, .nilCheck (Operand.tmp 21), none, 0⟩,
 ⟨some 23, .fieldAddr 121 (Operand.tmp 22) 1, none, 0⟩,
 ⟨some 24, .load 119 (Operand.tmp 23), none, 0⟩,
 ⟨some 25, .call ⟨(Callee.builtin Builtin.copy), [(Operand.tmp 20), (Operand.tmp 24)].toArray, #[119, 119]⟩, none, 0⟩])
 (.ops [⟨some 26, .move (Operand.tmp 0), none, 0⟩,
 ⟨some 27, .move (Operand.tmp 4), none, 0⟩,
 ⟨some 28, .nilCheck (Operand.tmp 26), none, 0⟩,
 ⟨some 29, .fieldAddr 121 (Operand.tmp 28) 1, none, 0⟩,
 ⟨none, .store 119 (Operand.tmp 29) (Operand.tmp 27), none, 0⟩])))
abbrev R121 : List ResultVar := []
theorem ok121 : FnOK Tryd.prog 121 L121 R121 2 := ⟨_, _, Tryd.func121, rfl, by kernel_rfl, by kernel_rfl, by kernel_rfl, by kernel_rfl, Nat.le_of_ble_eq_true (by kernel_rfl), by kernel_rfl⟩
end Go.Proofs.YtldlcejlfaogbaaDoor.Vs
