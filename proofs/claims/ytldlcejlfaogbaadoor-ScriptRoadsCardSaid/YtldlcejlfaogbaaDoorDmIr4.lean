/- The seat's functions as the engine Dm reads them, written by dgen.py. -/
import Derived.Test.YtldlcejlfaogbaaDoorDmFn
import Derived.Test.YtldlcejlfaogbaaDoorProg
import Derived.KernelRfl
namespace Go.Proofs.YtldlcejlfaogbaaDoor.Vs
set_option linter.unusedVariables false
set_option maxRecDepth 100000
/-- slices.partitionCmpFunc[ablaut/api.Shift] -/
def L96 : LCode :=
 (.seq
 (.ops [⟨some 10, .assign (Operand.const (Value.int IntKind.i64 0)), none, 0⟩,
 ⟨some 11, .assign (Operand.const (Value.bool false)), none, 0⟩])
 (.seq
 (.draw [⟨some 14, .move (Operand.tmp 0), none, 0⟩,
 ⟨some 15, .move (Operand.tmp 1), none, 0⟩,
 ⟨some 16, .move (Operand.tmp 0), none, 0⟩,
 ⟨some 17, .move (Operand.tmp 3), none, 0⟩,
 ⟨some 18, .move (Operand.tmp 0), none, 0⟩,
 ⟨some 19, .move (Operand.tmp 3), none, 0⟩,
 ⟨some 20, .indexAddr 22 (Operand.tmp 18) (Operand.tmp 19), none, 0⟩,
 ⟨some 21, .load 46 (Operand.tmp 20), none, 0⟩,
 ⟨some 22, .move (Operand.tmp 0), none, 0⟩,
 ⟨some 23, .move (Operand.tmp 1), none, 0⟩,
 ⟨some 24, .indexAddr 22 (Operand.tmp 22) (Operand.tmp 23), none, 0⟩,
 ⟨some 25, .load 46 (Operand.tmp 24), none, 0⟩,
 ⟨some 26, .indexAddr 22 (Operand.tmp 14) (Operand.tmp 15), none, 0⟩,
 ⟨none, .store 46 (Operand.tmp 26) (Operand.tmp 21), none, 0⟩,
 ⟨some 27, .indexAddr 22 (Operand.tmp 16) (Operand.tmp 17), none, 0⟩,
 ⟨none, .store 46 (Operand.tmp 27) (Operand.tmp 25), none, 0⟩] true [14, 15] [0, 1, 2, 3, 4, 5, 6, 8, 9, 10, 7, 11, 12, 13, 14, 15])
 (.seq
 (.ops [⟨some 28, .move (Operand.tmp 1), none, 0⟩,
 ⟨some 29, .binOp BinOp.add 3 (Operand.tmp 28) (Operand.const (Value.int IntKind.i64 1)) 3, none, 0⟩,
 ⟨some 30, .move (Operand.tmp 2), none, 0⟩,
 ⟨some 31, .binOp BinOp.sub 3 (Operand.tmp 30) (Operand.const (Value.int IntKind.i64 1)) 3, none, 0⟩,
 ⟨some 12, .assign (Operand.tmp 29), none, 0⟩,
 ⟨some 13, .assign (Operand.tmp 31), none, 0⟩])
 (.seq
 (.block 0
 (.loop
 (.seq
 (.seq
 (.draw [⟨some 32, .move (Operand.tmp 12), none, 0⟩,
 ⟨some 33, .move (Operand.tmp 13), none, 0⟩,
 ⟨some 34, .binOp BinOp.leq 3 (Operand.tmp 32) (Operand.tmp 33) 3, none, 0⟩,
 ⟨some 35, .move (Operand.tmp 34), none, 0⟩,
 ⟨some 36, .move (Operand.tmp 4), some (35, true), 0⟩,
 ⟨some 37, .move (Operand.tmp 0), some (35, true), 0⟩,
 ⟨some 38, .move (Operand.tmp 12), some (35, true), 0⟩,
 ⟨some 39, .indexAddr 22 (Operand.tmp 37) (Operand.tmp 38), some (35, true), 0⟩,
 ⟨some 40, .load 46 (Operand.tmp 39), some (35, true), 0⟩,
 ⟨some 41, .move (Operand.tmp 0), some (35, true), 0⟩,
 ⟨some 42, .move (Operand.tmp 1), some (35, true), 0⟩,
 ⟨some 43, .indexAddr 22 (Operand.tmp 41) (Operand.tmp 42), some (35, true), 0⟩,
 ⟨some 44, .load 46 (Operand.tmp 43), some (35, true), 0⟩,
 ⟨some 45, .call ⟨(Callee.value (Operand.tmp 36)), [(Operand.tmp 40), (Operand.tmp 44)].toArray, #[46, 46]⟩, some (35, true), 0⟩,
 ⟨some 46, .binOp BinOp.lss 3 (Operand.tmp 45) (Operand.const (Value.int IntKind.i64 0)) 3, some (35, true), 0⟩,
 ⟨some 47, .pick (Operand.tmp 35) (Operand.tmp 46) (Operand.const (Value.bool false)), none, 0⟩] true [13, 14, 15] [0, 1, 2, 3, 4, 5, 6, 7, 9, 10, 11, 8, 12, 13, 14, 15])
 (.cond (Operand.tmp 47)
 .skip
 (.exit 0)))
 (.block 1
 (.ops [⟨some 48, .move (Operand.tmp 12), none, 0⟩,
 ⟨some 49, .binOp BinOp.add 3 (Operand.tmp 48) (Operand.const (Value.int IntKind.i64 1)) 3, none, 0⟩,
 ⟨some 12, .assign (Operand.tmp 49), none, 0⟩])))))
 (.seq
 (.block 2
 (.loop
 (.seq
 (.seq
 (.draw [⟨some 50, .move (Operand.tmp 12), none, 0⟩,
 ⟨some 51, .move (Operand.tmp 13), none, 0⟩,
 ⟨some 52, .binOp BinOp.leq 3 (Operand.tmp 50) (Operand.tmp 51) 3, none, 0⟩,
 ⟨some 53, .move (Operand.tmp 52), none, 0⟩,
 ⟨some 54, .move (Operand.tmp 4), some (53, true), 0⟩,
 ⟨some 55, .move (Operand.tmp 0), some (53, true), 0⟩,
 ⟨some 56, .move (Operand.tmp 13), some (53, true), 0⟩,
 ⟨some 57, .indexAddr 22 (Operand.tmp 55) (Operand.tmp 56), some (53, true), 0⟩,
 ⟨some 58, .load 46 (Operand.tmp 57), some (53, true), 0⟩,
 ⟨some 59, .move (Operand.tmp 0), some (53, true), 0⟩,
 ⟨some 60, .move (Operand.tmp 1), some (53, true), 0⟩,
 ⟨some 61, .indexAddr 22 (Operand.tmp 59) (Operand.tmp 60), some (53, true), 0⟩,
 ⟨some 62, .load 46 (Operand.tmp 61), some (53, true), 0⟩,
 ⟨some 63, .call ⟨(Callee.value (Operand.tmp 54)), [(Operand.tmp 58), (Operand.tmp 62)].toArray, #[46, 46]⟩, some (53, true), 0⟩,
 ⟨some 64, .binOp BinOp.lss 3 (Operand.tmp 63) (Operand.const (Value.int IntKind.i64 0)) 3, some (53, true), 0⟩,
 ⟨some 65, .unOp UnOp.not 4 (Operand.tmp 64), some (53, true), 0⟩,
 ⟨some 66, .pick (Operand.tmp 53) (Operand.tmp 65) (Operand.const (Value.bool false)), none, 0⟩] true [13, 14, 15, 16] [0, 1, 2, 3, 4, 5, 6, 7, 9, 10, 11, 8, 12, 13, 14, 15, 16])
 (.cond (Operand.tmp 66)
 .skip
 (.exit 2)))
 (.block 3
 (.ops [⟨some 67, .move (Operand.tmp 13), none, 0⟩,
 ⟨some 68, .binOp BinOp.sub 3 (Operand.tmp 67) (Operand.const (Value.int IntKind.i64 1)) 3, none, 0⟩,
 ⟨some 13, .assign (Operand.tmp 68), none, 0⟩])))))
 (.seq
 (.seq
 (.ops [⟨some 69, .move (Operand.tmp 12), none, 0⟩,
 ⟨some 70, .move (Operand.tmp 13), none, 0⟩,
 ⟨some 71, .binOp BinOp.gtr 3 (Operand.tmp 69) (Operand.tmp 70) 3, none, 0⟩])
 (.cond (Operand.tmp 71)
 (.seq
 (.draw [⟨some 72, .move (Operand.tmp 0), none, 0⟩,
 ⟨some 73, .move (Operand.tmp 13), none, 0⟩,
 ⟨some 74, .move (Operand.tmp 0), none, 0⟩,
 ⟨some 75, .move (Operand.tmp 1), none, 0⟩,
 ⟨some 76, .move (Operand.tmp 0), none, 0⟩,
 ⟨some 77, .move (Operand.tmp 1), none, 0⟩,
 ⟨some 78, .indexAddr 22 (Operand.tmp 76) (Operand.tmp 77), none, 0⟩,
 ⟨some 79, .load 46 (Operand.tmp 78), none, 0⟩,
 ⟨some 80, .move (Operand.tmp 0), none, 0⟩,
 ⟨some 81, .move (Operand.tmp 13), none, 0⟩,
 ⟨some 82, .indexAddr 22 (Operand.tmp 80) (Operand.tmp 81), none, 0⟩,
 ⟨some 83, .load 46 (Operand.tmp 82), none, 0⟩,
 ⟨some 84, .indexAddr 22 (Operand.tmp 72) (Operand.tmp 73), none, 0⟩,
 ⟨none, .store 46 (Operand.tmp 84) (Operand.tmp 79), none, 0⟩,
 ⟨some 85, .indexAddr 22 (Operand.tmp 74) (Operand.tmp 75), none, 0⟩,
 ⟨none, .store 46 (Operand.tmp 85) (Operand.tmp 83), none, 0⟩] true [14, 15] [0, 1, 2, 3, 4, 5, 6, 8, 9, 10, 7, 11, 12, 13, 14, 15])
 (.seq
 (.ops [⟨some 86, .move (Operand.tmp 13), none, 0⟩,
 ⟨some 10, .assign (Operand.tmp 86), none, 0⟩,
 ⟨some 11, .assign (Operand.const (Value.bool true)), none, 0⟩])
 .ret))
 .skip))
 (.seq
 (.draw [⟨some 87, .move (Operand.tmp 0), none, 0⟩,
 ⟨some 88, .move (Operand.tmp 12), none, 0⟩,
 ⟨some 89, .move (Operand.tmp 0), none, 0⟩,
 ⟨some 90, .move (Operand.tmp 13), none, 0⟩,
 ⟨some 91, .move (Operand.tmp 0), none, 0⟩,
 ⟨some 92, .move (Operand.tmp 13), none, 0⟩,
 ⟨some 93, .indexAddr 22 (Operand.tmp 91) (Operand.tmp 92), none, 0⟩,
 ⟨some 94, .load 46 (Operand.tmp 93), none, 0⟩,
 ⟨some 95, .move (Operand.tmp 0), none, 0⟩,
 ⟨some 96, .move (Operand.tmp 12), none, 0⟩,
 ⟨some 97, .indexAddr 22 (Operand.tmp 95) (Operand.tmp 96), none, 0⟩,
 ⟨some 98, .load 46 (Operand.tmp 97), none, 0⟩,
 ⟨some 99, .indexAddr 22 (Operand.tmp 87) (Operand.tmp 88), none, 0⟩,
 ⟨none, .store 46 (Operand.tmp 99) (Operand.tmp 94), none, 0⟩,
 ⟨some 100, .indexAddr 22 (Operand.tmp 89) (Operand.tmp 90), none, 0⟩,
 ⟨none, .store 46 (Operand.tmp 100) (Operand.tmp 98), none, 0⟩] true [14, 15] [0, 1, 2, 3, 4, 5, 6, 8, 9, 10, 7, 11, 12, 13, 14, 15])
 (.seq
 (.ops [⟨some 101, .move (Operand.tmp 12), none, 0⟩,
 ⟨some 102, .binOp BinOp.add 3 (Operand.tmp 101) (Operand.const (Value.int IntKind.i64 1)) 3, none, 0⟩,
 ⟨some 12, .assign (Operand.tmp 102), none, 0⟩])
 (.seq
 (.ops [⟨some 103, .move (Operand.tmp 13), none, 0⟩,
 ⟨some 104, .binOp BinOp.sub 3 (Operand.tmp 103) (Operand.const (Value.int IntKind.i64 1)) 3, none, 0⟩,
 ⟨some 13, .assign (Operand.tmp 104), none, 0⟩])
 (.seq
 (.block 4
 (.loop
 (.block 5
 (.seq
 (.block 6
 (.loop
 (.seq
 (.seq
 (.draw [⟨some 105, .move (Operand.tmp 12), none, 0⟩,
 ⟨some 106, .move (Operand.tmp 13), none, 0⟩,
 ⟨some 107, .binOp BinOp.leq 3 (Operand.tmp 105) (Operand.tmp 106) 3, none, 0⟩,
 ⟨some 108, .move (Operand.tmp 107), none, 0⟩,
 ⟨some 109, .move (Operand.tmp 4), some (108, true), 0⟩,
 ⟨some 110, .move (Operand.tmp 0), some (108, true), 0⟩,
 ⟨some 111, .move (Operand.tmp 12), some (108, true), 0⟩,
 ⟨some 112, .indexAddr 22 (Operand.tmp 110) (Operand.tmp 111), some (108, true), 0⟩,
 ⟨some 113, .load 46 (Operand.tmp 112), some (108, true), 0⟩,
 ⟨some 114, .move (Operand.tmp 0), some (108, true), 0⟩,
 ⟨some 115, .move (Operand.tmp 1), some (108, true), 0⟩,
 ⟨some 116, .indexAddr 22 (Operand.tmp 114) (Operand.tmp 115), some (108, true), 0⟩,
 ⟨some 117, .load 46 (Operand.tmp 116), some (108, true), 0⟩,
 ⟨some 118, .call ⟨(Callee.value (Operand.tmp 109)), [(Operand.tmp 113), (Operand.tmp 117)].toArray, #[46, 46]⟩, some (108, true), 0⟩,
 ⟨some 119, .binOp BinOp.lss 3 (Operand.tmp 118) (Operand.const (Value.int IntKind.i64 0)) 3, some (108, true), 0⟩,
 ⟨some 120, .pick (Operand.tmp 108) (Operand.tmp 119) (Operand.const (Value.bool false)), none, 0⟩] true [13, 14, 15] [0, 1, 2, 3, 4, 5, 6, 7, 9, 10, 11, 8, 12, 13, 14, 15])
 (.cond (Operand.tmp 120)
 .skip
 (.exit 6)))
 (.block 7
 (.ops [⟨some 121, .move (Operand.tmp 12), none, 0⟩,
 ⟨some 122, .binOp BinOp.add 3 (Operand.tmp 121) (Operand.const (Value.int IntKind.i64 1)) 3, none, 0⟩,
 ⟨some 12, .assign (Operand.tmp 122), none, 0⟩])))))
 (.seq
 (.block 8
 (.loop
 (.seq
 (.seq
 (.draw [⟨some 123, .move (Operand.tmp 12), none, 0⟩,
 ⟨some 124, .move (Operand.tmp 13), none, 0⟩,
 ⟨some 125, .binOp BinOp.leq 3 (Operand.tmp 123) (Operand.tmp 124) 3, none, 0⟩,
 ⟨some 126, .move (Operand.tmp 125), none, 0⟩,
 ⟨some 127, .move (Operand.tmp 4), some (126, true), 0⟩,
 ⟨some 128, .move (Operand.tmp 0), some (126, true), 0⟩,
 ⟨some 129, .move (Operand.tmp 13), some (126, true), 0⟩,
 ⟨some 130, .indexAddr 22 (Operand.tmp 128) (Operand.tmp 129), some (126, true), 0⟩,
 ⟨some 131, .load 46 (Operand.tmp 130), some (126, true), 0⟩,
 ⟨some 132, .move (Operand.tmp 0), some (126, true), 0⟩,
 ⟨some 133, .move (Operand.tmp 1), some (126, true), 0⟩,
 ⟨some 134, .indexAddr 22 (Operand.tmp 132) (Operand.tmp 133), some (126, true), 0⟩,
 ⟨some 135, .load 46 (Operand.tmp 134), some (126, true), 0⟩,
 ⟨some 136, .call ⟨(Callee.value (Operand.tmp 127)), [(Operand.tmp 131), (Operand.tmp 135)].toArray, #[46, 46]⟩, some (126, true), 0⟩,
 ⟨some 137, .binOp BinOp.lss 3 (Operand.tmp 136) (Operand.const (Value.int IntKind.i64 0)) 3, some (126, true), 0⟩,
 ⟨some 138, .unOp UnOp.not 4 (Operand.tmp 137), some (126, true), 0⟩,
 ⟨some 139, .pick (Operand.tmp 126) (Operand.tmp 138) (Operand.const (Value.bool false)), none, 0⟩] true [13, 14, 15, 16] [0, 1, 2, 3, 4, 5, 6, 7, 9, 10, 11, 8, 12, 13, 14, 15, 16])
 (.cond (Operand.tmp 139)
 .skip
 (.exit 8)))
 (.block 9
 (.ops [⟨some 140, .move (Operand.tmp 13), none, 0⟩,
 ⟨some 141, .binOp BinOp.sub 3 (Operand.tmp 140) (Operand.const (Value.int IntKind.i64 1)) 3, none, 0⟩,
 ⟨some 13, .assign (Operand.tmp 141), none, 0⟩])))))
 (.seq
 (.seq
 (.ops [⟨some 142, .move (Operand.tmp 12), none, 0⟩,
 ⟨some 143, .move (Operand.tmp 13), none, 0⟩,
 ⟨some 144, .binOp BinOp.gtr 3 (Operand.tmp 142) (Operand.tmp 143) 3, none, 0⟩])
 (.cond (Operand.tmp 144)
 (.exit 4)
 .skip))
 (.seq
 (.draw [⟨some 145, .move (Operand.tmp 0), none, 0⟩,
 ⟨some 146, .move (Operand.tmp 12), none, 0⟩,
 ⟨some 147, .move (Operand.tmp 0), none, 0⟩,
 ⟨some 148, .move (Operand.tmp 13), none, 0⟩,
 ⟨some 149, .move (Operand.tmp 0), none, 0⟩,
 ⟨some 150, .move (Operand.tmp 13), none, 0⟩,
 ⟨some 151, .indexAddr 22 (Operand.tmp 149) (Operand.tmp 150), none, 0⟩,
 ⟨some 152, .load 46 (Operand.tmp 151), none, 0⟩,
 ⟨some 153, .move (Operand.tmp 0), none, 0⟩,
 ⟨some 154, .move (Operand.tmp 12), none, 0⟩,
 ⟨some 155, .indexAddr 22 (Operand.tmp 153) (Operand.tmp 154), none, 0⟩,
 ⟨some 156, .load 46 (Operand.tmp 155), none, 0⟩,
 ⟨some 157, .indexAddr 22 (Operand.tmp 145) (Operand.tmp 146), none, 0⟩,
 ⟨none, .store 46 (Operand.tmp 157) (Operand.tmp 152), none, 0⟩,
 ⟨some 158, .indexAddr 22 (Operand.tmp 147) (Operand.tmp 148), none, 0⟩,
 ⟨none, .store 46 (Operand.tmp 158) (Operand.tmp 156), none, 0⟩] true [14, 15] [0, 1, 2, 3, 4, 5, 6, 8, 9, 10, 7, 11, 12, 13, 14, 15])
 (.seq
 (.ops [⟨some 159, .move (Operand.tmp 12), none, 0⟩,
 ⟨some 160, .binOp BinOp.add 3 (Operand.tmp 159) (Operand.const (Value.int IntKind.i64 1)) 3, none, 0⟩,
 ⟨some 12, .assign (Operand.tmp 160), none, 0⟩])
 (.ops [⟨some 161, .move (Operand.tmp 13), none, 0⟩,
 ⟨some 162, .binOp BinOp.sub 3 (Operand.tmp 161) (Operand.const (Value.int IntKind.i64 1)) 3, none, 0⟩,
 ⟨some 13, .assign (Operand.tmp 162), none, 0⟩])))))))))
 (.seq
 (.draw [⟨some 163, .move (Operand.tmp 0), none, 0⟩,
 ⟨some 164, .move (Operand.tmp 13), none, 0⟩,
 ⟨some 165, .move (Operand.tmp 0), none, 0⟩,
 ⟨some 166, .move (Operand.tmp 1), none, 0⟩,
 ⟨some 167, .move (Operand.tmp 0), none, 0⟩,
 ⟨some 168, .move (Operand.tmp 1), none, 0⟩,
 ⟨some 169, .indexAddr 22 (Operand.tmp 167) (Operand.tmp 168), none, 0⟩,
 ⟨some 170, .load 46 (Operand.tmp 169), none, 0⟩,
 ⟨some 171, .move (Operand.tmp 0), none, 0⟩,
 ⟨some 172, .move (Operand.tmp 13), none, 0⟩,
 ⟨some 173, .indexAddr 22 (Operand.tmp 171) (Operand.tmp 172), none, 0⟩,
 ⟨some 174, .load 46 (Operand.tmp 173), none, 0⟩,
 ⟨some 175, .indexAddr 22 (Operand.tmp 163) (Operand.tmp 164), none, 0⟩,
 ⟨none, .store 46 (Operand.tmp 175) (Operand.tmp 170), none, 0⟩,
 ⟨some 176, .indexAddr 22 (Operand.tmp 165) (Operand.tmp 166), none, 0⟩,
 ⟨none, .store 46 (Operand.tmp 176) (Operand.tmp 174), none, 0⟩] true [14, 15] [0, 1, 2, 3, 4, 5, 6, 8, 9, 10, 7, 11, 12, 13, 14, 15])
 (.seq
 (.ops [⟨some 177, .move (Operand.tmp 13), none, 0⟩,
 ⟨some 10, .assign (Operand.tmp 177), none, 0⟩,
 ⟨some 11, .assign (Operand.const (Value.bool false)), none, 0⟩])
 .ret))))))))))))
abbrev R96 : List ResultVar := [ResultVar.tmp 10, ResultVar.tmp 11]
theorem ok96 : FnOK Tryd.prog 96 L96 R96 5 := ⟨_, _, Tryd.func96, rfl, by kernel_rfl, by kernel_rfl, by kernel_rfl, by kernel_rfl, Nat.le_of_ble_eq_true (by kernel_rfl), by kernel_rfl⟩

/-- cmp.isNaN[string] -/
def L99 : LCode :=
 (.seq
 (.ops [⟨some 2, .assign (Operand.const (Value.bool false)), none, 0⟩])
 (.seq
 (.ops [⟨some 3, .move (Operand.tmp 0), none, 0⟩,
 ⟨some 4, .move (Operand.tmp 0), none, 0⟩,
 ⟨some 5, .binOp BinOp.neq 9 (Operand.tmp 3) (Operand.tmp 4) 9, none, 0⟩,
 ⟨some 2, .assign (Operand.tmp 5), none, 0⟩])
 .ret))
abbrev R99 : List ResultVar := [ResultVar.tmp 2]
theorem ok99 : FnOK Tryd.prog 99 L99 R99 1 := ⟨_, _, Tryd.func99, rfl, by kernel_rfl, by kernel_rfl, by kernel_rfl, by kernel_rfl, Nat.le_of_ble_eq_true (by kernel_rfl), by kernel_rfl⟩

/-- ablaut/ablautref01.IsSymbol -/
def L100 : LCode :=
 (.seq
 (.ops [⟨some 2, .assign (Operand.const (Value.bool false)), none, 0⟩])
 (.seq
 (.seq
 (.ops [⟨some 3, .assign (Operand.const (Value.int IntKind.i64 0)), none, 0⟩])
 (.block 0
 (.loop
 (.seq
 (.seq
 (.ops [⟨some 4, .move (Operand.tmp 3), none, 0⟩,
 ⟨some 5, .move (Operand.tmp 0), none, 0⟩,
 ⟨some 6, .call ⟨(Callee.builtin Builtin.len), [(Operand.tmp 5)].toArray, #[9]⟩, none, 0⟩,
 ⟨some 7, .binOp BinOp.lss 3 (Operand.tmp 4) (Operand.tmp 6) 3, none, 0⟩])
 (.cond (Operand.tmp 7)
 .skip
 (.exit 0)))
 (.seq
 (.block 1
 (.seq
 (.ops [⟨some 10, .move (Operand.tmp 0), none, 0⟩,
 ⟨some 11, .move (Operand.tmp 3), none, 0⟩,
 ⟨some 12, .index 9 (Operand.tmp 10) (Operand.tmp 11), none, 0⟩,
 ⟨some 13, .binOp BinOp.lss 5 (Operand.tmp 12) (Operand.const (Value.int IntKind.u8 33)) 5, none, 0⟩,
 ⟨some 14, .move (Operand.tmp 13), none, 0⟩,
 ⟨some 15, .move (Operand.tmp 0), some (14, false), 0⟩,
 ⟨some 16, .move (Operand.tmp 3), some (14, false), 0⟩,
 ⟨some 17, .index 9 (Operand.tmp 15) (Operand.tmp 16), some (14, false), 0⟩,
 ⟨some 18, .binOp BinOp.gtr 5 (Operand.tmp 17) (Operand.const (Value.int IntKind.u8 126)) 5, some (14, false), 0⟩,
 ⟨some 19, .pick (Operand.tmp 14) (Operand.const (Value.bool true)) (Operand.tmp 18), none, 0⟩,
 ⟨some 20, .move (Operand.tmp 19), none, 0⟩,
 ⟨some 21, .move (Operand.tmp 0), some (20, false), 0⟩,
 ⟨some 22, .move (Operand.tmp 3), some (20, false), 0⟩,
 ⟨some 23, .index 9 (Operand.tmp 21) (Operand.tmp 22), some (20, false), 0⟩,
 ⟨some 24, .binOp BinOp.eql 5 (Operand.tmp 23) (Operand.const (Value.int IntKind.u8 60)) 5, some (20, false), 0⟩,
 ⟨some 25, .pick (Operand.tmp 20) (Operand.const (Value.bool true)) (Operand.tmp 24), none, 0⟩,
 ⟨some 26, .move (Operand.tmp 25), none, 0⟩,
 ⟨some 27, .move (Operand.tmp 0), some (26, false), 0⟩,
 ⟨some 28, .move (Operand.tmp 3), some (26, false), 0⟩,
 ⟨some 29, .index 9 (Operand.tmp 27) (Operand.tmp 28), some (26, false), 0⟩,
 ⟨some 30, .binOp BinOp.eql 5 (Operand.tmp 29) (Operand.const (Value.int IntKind.u8 62)) 5, some (26, false), 0⟩,
 ⟨some 31, .pick (Operand.tmp 26) (Operand.const (Value.bool true)) (Operand.tmp 30), none, 0⟩])
 (.cond (Operand.tmp 31)
 (.seq
 (.ops [⟨some 2, .assign (Operand.const (Value.bool false)), none, 0⟩])
 .ret)
 .skip)))
 (.ops [⟨some 8, .move (Operand.tmp 3), none, 0⟩,
 ⟨some 9, .binOp BinOp.add 3 (Operand.tmp 8) (Operand.const (Value.int IntKind.i64 1)) 3, none, 0⟩,
 ⟨some 3, .assign (Operand.tmp 9), none, 0⟩]))))))
 (.seq
 (.ops [⟨some 32, .move (Operand.tmp 0), none, 0⟩,
 ⟨some 33, .call ⟨(Callee.builtin Builtin.len), [(Operand.tmp 32)].toArray, #[9]⟩, none, 0⟩,
 ⟨some 34, .binOp BinOp.geq 3 (Operand.tmp 33) (Operand.const (Value.int IntKind.i64 1)) 3, none, 0⟩,
 ⟨some 35, .move (Operand.tmp 34), none, 0⟩,
 ⟨some 36, .move (Operand.tmp 0), some (35, true), 0⟩,
 ⟨some 37, .call ⟨(Callee.builtin Builtin.len), [(Operand.tmp 36)].toArray, #[9]⟩, some (35, true), 0⟩,
 ⟨some 38, .binOp BinOp.leq 3 (Operand.tmp 37) (Operand.const (Value.int IntKind.i64 16)) 3, some (35, true), 0⟩,
 ⟨some 39, .pick (Operand.tmp 35) (Operand.tmp 38) (Operand.const (Value.bool false)), none, 0⟩,
 ⟨some 2, .assign (Operand.tmp 39), none, 0⟩])
 .ret)))
abbrev R100 : List ResultVar := [ResultVar.tmp 2]
theorem ok100 : FnOK Tryd.prog 100 L100 R100 1 := ⟨_, _, Tryd.func100, rfl, by kernel_rfl, by kernel_rfl, by kernel_rfl, by kernel_rfl, Nat.le_of_ble_eq_true (by kernel_rfl), by kernel_rfl⟩

/-- slices.IndexFunc[[]string,string] -/
def L101 : LCode :=
 (.seq
 (.ops [⟨some 4, .assign (Operand.const (Value.int IntKind.i64 0)), none, 0⟩])
 (.seq
 (.seq
 (.ops [⟨some 6, .move (Operand.tmp 0), none, 0⟩,
 ⟨some 7, .call ⟨(Callee.builtin Builtin.len), [(Operand.tmp 6)].toArray, #[29]⟩, none, 0⟩,
 ⟨some 8, .move (Operand.const (Value.int IntKind.i64 0)), none, 0⟩])
 (.block 0
 (.loop
 (.seq
 (.ops [⟨some 9, .binOp BinOp.lss 3 (Operand.tmp 8) (Operand.tmp 7) 3, none, 0⟩])
 (.seq
 (.cond (Operand.tmp 9)
 .skip
 (.exit 0))
 (.seq
 (.block 1
 (.seq
 (.ops [⟨some 10, .move (Operand.tmp 8), none, 0⟩,
 ⟨some 5, .assign (Operand.tmp 10), none, 0⟩])
 (.seq
 (.ops [⟨some 11, .move (Operand.tmp 1), none, 0⟩,
 ⟨some 12, .move (Operand.tmp 0), none, 0⟩,
 ⟨some 13, .move (Operand.tmp 5), none, 0⟩,
 ⟨some 14, .indexAddr 29 (Operand.tmp 12) (Operand.tmp 13), none, 0⟩,
 ⟨some 15, .load 9 (Operand.tmp 14), none, 0⟩,
 ⟨some 16, .call ⟨(Callee.value (Operand.tmp 11)), [(Operand.tmp 15)].toArray, #[9]⟩, none, 0⟩])
 (.cond (Operand.tmp 16)
 (.seq
 (.ops [⟨some 17, .move (Operand.tmp 5), none, 0⟩,
 ⟨some 4, .assign (Operand.tmp 17), none, 0⟩])
 .ret)
 .skip))))
 (.ops [⟨some 18, .binOp BinOp.add 3 (Operand.tmp 8) (Operand.const (Value.int IntKind.i64 1)) 3, none, 0⟩,
 ⟨some 8, .move (Operand.tmp 18), none, 0⟩])))))))
 (.seq
 (.ops [⟨some 4, .assign (Operand.const (Value.int IntKind.i64 (-1))), none, 0⟩])
 .ret)))
abbrev R101 : List ResultVar := [ResultVar.tmp 4]
theorem ok101 : FnOK Tryd.prog 101 L101 R101 2 := ⟨_, _, Tryd.func101, rfl, by kernel_rfl, by kernel_rfl, by kernel_rfl, by kernel_rfl, Nat.le_of_ble_eq_true (by kernel_rfl), by kernel_rfl⟩

/-- ablaut/script.waits$1 -/
def L102 : LCode :=
 (.seq
 (.ops [⟨some 2, .box 46 (Operand.tmp 0), none, 0⟩,
 ⟨some 3, .assign (Operand.const (Value.bool false)), none, 0⟩])
 (.seq
 (.ops [⟨some 4, .fieldAddr 46 (Operand.tmp 2) 0, none, 0⟩,
 ⟨some 5, .load 29 (Operand.tmp 4), none, 0⟩,
 ⟨some 6, .call ⟨(Callee.builtin Builtin.len), [(Operand.tmp 5)].toArray, #[29]⟩, none, 0⟩,
 ⟨some 7, .load 29 (Operand.tmp 1), none, 0⟩,
 ⟨some 8, .call ⟨(Callee.builtin Builtin.len), [(Operand.tmp 7)].toArray, #[29]⟩, none, 0⟩,
 ⟨some 9, .binOp BinOp.gtr 3 (Operand.tmp 6) (Operand.tmp 8) 3, none, 0⟩,
 ⟨some 10, .move (Operand.tmp 9), none, 0⟩,
 ⟨some 11, .fieldAddr 46 (Operand.tmp 2) 0, some (10, true), 0⟩,
 ⟨some 12, .load 29 (Operand.tmp 11), some (10, true), 0⟩,
 ⟨some 13, .load 29 (Operand.tmp 1), some (10, true), 0⟩,
 ⟨some 14, .call ⟨(Callee.value (Operand.func 70)), [(Operand.tmp 12), (Operand.tmp 13)].toArray, #[29, 29]⟩, some (10, true), 0⟩,
 ⟨some 15, .pick (Operand.tmp 10) (Operand.tmp 14) (Operand.const (Value.bool false)), none, 0⟩,
 ⟨some 3, .assign (Operand.tmp 15), none, 0⟩])
 .ret))
abbrev R102 : List ResultVar := [ResultVar.tmp 3]
theorem ok102 : FnOK Tryd.prog 102 L102 R102 2 := ⟨_, _, Tryd.func102, rfl, by kernel_rfl, by kernel_rfl, by kernel_rfl, by kernel_rfl, Nat.le_of_ble_eq_true (by kernel_rfl), by kernel_rfl⟩

/-- (*strings.Builder).Grow -/
def L103 : LCode :=
 (.seq
 (.ops [⟨some 4, .move (Operand.tmp 0), none, 0⟩,
 ⟨some 5, .call ⟨(Callee.value (Operand.func 120)), [(Operand.tmp 4)].toArray, #[118]⟩, none, 0⟩])
 (.seq
 (.seq
 (.ops [⟨some 6, .move (Operand.tmp 1), none, 0⟩,
 ⟨some 7, .binOp BinOp.lss 3 (Operand.tmp 6) (Operand.const (Value.int IntKind.i64 0)) 3, none, 0⟩])
 (.cond (Operand.tmp 7)
 (.ops [⟨some 8, .makeInterface 9 (Operand.const (Value.string ⟨#[115, 116, 114, 105, 110, 103, 115, 46, 66, 117, 105, 108, 100, 101, 114, 46, 71, 114, 111, 119, 58, 32, 110, 101, 103, 97, 116, 105, 118, 101, 32, 99, 111, 117, 110, 116]⟩)), none, 0⟩,
 ⟨none, .panic (Operand.tmp 8), none, 0⟩])
 .skip))
 (.seq
 (.draw [⟨some 9, .move (Operand.tmp 0), none, 0⟩,
 ⟨some 10, .nilCheck (Operand.tmp 9), none, 0⟩,
 ⟨some 11, .fieldAddr 121 (Operand.tmp 10) 1, none, 0⟩,
 ⟨some 12, .load 119 (Operand.tmp 11), none, 0⟩,
 ⟨some 13, .call ⟨(Callee.builtin Builtin.cap), [(Operand.tmp 12)].toArray, #[119]⟩, none, 0⟩,
 ⟨some 14, .move (Operand.tmp 0), none, 0⟩,
 ⟨some 15, .nilCheck (Operand.tmp 14), none, 0⟩,
 ⟨some 16, .fieldAddr 121 (Operand.tmp 15) 1, none, 0⟩,
 ⟨some 17, .load 119 (Operand.tmp 16), none, 0⟩,
 ⟨some 18, .call ⟨(Callee.builtin Builtin.len), [(Operand.tmp 17)].toArray, #[119]⟩, none, 0⟩,
 ⟨some 19, .binOp BinOp.sub 3 (Operand.tmp 13) (Operand.tmp 18) 3, none, 0⟩,
 ⟨some 20, .move (Operand.tmp 1), none, 0⟩,
 ⟨some 21, .binOp BinOp.lss 3 (Operand.tmp 19) (Operand.tmp 20) 3, none, 0⟩] true [12] [])
 (.cond (Operand.tmp 21)
 (.ops [⟨some 22, .move (Operand.tmp 0), none, 0⟩,
 ⟨some 23, .move (Operand.tmp 1), none, 0⟩,
 ⟨some 24, .call ⟨(Callee.value (Operand.func 121)), [(Operand.tmp 22), (Operand.tmp 23)].toArray, #[118, 3]⟩, none, 0⟩])
 .skip))))
abbrev R103 : List ResultVar := []
theorem ok103 : FnOK Tryd.prog 103 L103 R103 2 := ⟨_, _, Tryd.func103, rfl, by kernel_rfl, by kernel_rfl, by kernel_rfl, by kernel_rfl, Nat.le_of_ble_eq_true (by kernel_rfl), by kernel_rfl⟩

/-- (*strings.Builder).WriteString -/
def L104 : LCode :=
 (.seq
 (.ops [⟨some 4, .assign (Operand.const (Value.int IntKind.i64 0)), none, 0⟩,
 ⟨some 5, .assign (Operand.const Value.nilIface), none, 0⟩])
 (.seq
 (.ops [⟨some 6, .move (Operand.tmp 0), none, 0⟩,
 ⟨some 7, .call ⟨(Callee.value (Operand.func 120)), [(Operand.tmp 6)].toArray, #[118]⟩, none, 0⟩])
 (.seq
 (.ops [⟨some 8, .move (Operand.tmp 0), none, 0⟩,
 ⟨some 9, .move (Operand.tmp 0), none, 0⟩,
 ⟨some 10, .nilCheck (Operand.tmp 9), none, 0⟩,
 ⟨some 11, .fieldAddr 121 (Operand.tmp 10) 1, none, 0⟩,
 ⟨some 12, .load 119 (Operand.tmp 11), none, 0⟩,
 ⟨some 13, .move (Operand.tmp 1), none, 0⟩,
 ⟨some 14, .call ⟨(Callee.builtin Builtin.append), [(Operand.tmp 12), (Operand.tmp 13)].toArray, #[119, 9]⟩, none, 0⟩,
 ⟨some 15, .nilCheck (Operand.tmp 8), none, 0⟩,
 ⟨some 16, .fieldAddr 121 (Operand.tmp 15) 1, none, 0⟩,
 ⟨none, .store 119 (Operand.tmp 16) (Operand.tmp 14), none, 0⟩])
 (.seq
 (.ops [⟨some 17, .move (Operand.tmp 1), none, 0⟩,
 ⟨some 18, .call ⟨(Callee.builtin Builtin.len), [(Operand.tmp 17)].toArray, #[9]⟩, none, 0⟩,
 ⟨some 4, .assign (Operand.tmp 18), none, 0⟩,
 ⟨some 5, .assign (Operand.const Value.nilIface), none, 0⟩])
 .ret))))
abbrev R104 : List ResultVar := [ResultVar.tmp 4, ResultVar.tmp 5]
theorem ok104 : FnOK Tryd.prog 104 L104 R104 2 := ⟨_, _, Tryd.func104, rfl, by kernel_rfl, by kernel_rfl, by kernel_rfl, by kernel_rfl, Nat.le_of_ble_eq_true (by kernel_rfl), by kernel_rfl⟩

/-- (*strings.Builder).String -/
def L105 : LCode :=
 (.seq
 (.ops [⟨some 2, .assign (Operand.const (Value.string ⟨#[]⟩)), none, 0⟩])
 (.seq
 (.draw [⟨some 3, .move (Operand.tmp 0), none, 0⟩,
 ⟨some 4, .nilCheck (Operand.tmp 3), none, 0⟩,
 ⟨some 5, .fieldAddr 121 (Operand.tmp 4) 1, none, 0⟩,
 ⟨some 6, .load 119 (Operand.tmp 5), none, 0⟩,
 ⟨some 7, .call ⟨(Callee.builtin Builtin.unsafeSliceData), [(Operand.tmp 6)].toArray, #[119]⟩, none, 0⟩,
 ⟨some 8, .move (Operand.tmp 0), none, 0⟩,
 ⟨some 9, .nilCheck (Operand.tmp 8), none, 0⟩,
 ⟨some 10, .fieldAddr 121 (Operand.tmp 9) 1, none, 0⟩,
 ⟨some 11, .load 119 (Operand.tmp 10), none, 0⟩,
 ⟨some 12, .call ⟨(Callee.builtin Builtin.len), [(Operand.tmp 11)].toArray, #[119]⟩, none, 0⟩,
 ⟨some 13, .call ⟨(Callee.builtin Builtin.unsafeString), [(Operand.tmp 7), (Operand.tmp 12)].toArray, #[138, 3]⟩, none, 0⟩,
 ⟨some 2, .assign (Operand.tmp 13), none, 0⟩] true [10, 11] [])
 .ret))
abbrev R105 : List ResultVar := [ResultVar.tmp 2]
theorem ok105 : FnOK Tryd.prog 105 L105 R105 1 := ⟨_, _, Tryd.func105, rfl, by kernel_rfl, by kernel_rfl, by kernel_rfl, by kernel_rfl, Nat.le_of_ble_eq_true (by kernel_rfl), by kernel_rfl⟩

/-- ablaut/ablautref01.anyLong -/
def L106 : LCode :=
 (.seq
 (.ops [⟨some 2, .assign (Operand.const (Value.bool false)), none, 0⟩])
 (.seq
 (.seq
 (.ops [⟨some 3, .assign (Operand.const (Value.int IntKind.i64 0)), none, 0⟩])
 (.block 0
 (.loop
 (.seq
 (.seq
 (.ops [⟨some 4, .move (Operand.tmp 3), none, 0⟩,
 ⟨some 5, .move (Operand.tmp 0), none, 0⟩,
 ⟨some 6, .call ⟨(Callee.builtin Builtin.len), [(Operand.tmp 5)].toArray, #[29]⟩, none, 0⟩,
 ⟨some 7, .binOp BinOp.lss 3 (Operand.tmp 4) (Operand.tmp 6) 3, none, 0⟩])
 (.cond (Operand.tmp 7)
 .skip
 (.exit 0)))
 (.seq
 (.block 1
 (.seq
 (.ops [⟨some 10, .move (Operand.tmp 0), none, 0⟩,
 ⟨some 11, .move (Operand.tmp 3), none, 0⟩,
 ⟨some 12, .indexAddr 29 (Operand.tmp 10) (Operand.tmp 11), none, 0⟩,
 ⟨some 13, .load 9 (Operand.tmp 12), none, 0⟩,
 ⟨some 14, .call ⟨(Callee.builtin Builtin.len), [(Operand.tmp 13)].toArray, #[9]⟩, none, 0⟩,
 ⟨some 15, .binOp BinOp.gtr 3 (Operand.tmp 14) (Operand.const (Value.int IntKind.i64 16)) 3, none, 0⟩])
 (.cond (Operand.tmp 15)
 (.seq
 (.ops [⟨some 2, .assign (Operand.const (Value.bool true)), none, 0⟩])
 .ret)
 .skip)))
 (.ops [⟨some 8, .move (Operand.tmp 3), none, 0⟩,
 ⟨some 9, .binOp BinOp.add 3 (Operand.tmp 8) (Operand.const (Value.int IntKind.i64 1)) 3, none, 0⟩,
 ⟨some 3, .assign (Operand.tmp 9), none, 0⟩]))))))
 (.seq
 (.ops [⟨some 2, .assign (Operand.const (Value.bool false)), none, 0⟩])
 .ret)))
abbrev R106 : List ResultVar := [ResultVar.tmp 2]
theorem ok106 : FnOK Tryd.prog 106 L106 R106 1 := ⟨_, _, Tryd.func106, rfl, by kernel_rfl, by kernel_rfl, by kernel_rfl, by kernel_rfl, Nat.le_of_ble_eq_true (by kernel_rfl), by kernel_rfl⟩

/-- ablaut/ablautref01.allSymbols -/
def L107 : LCode :=
 (.seq
 (.ops [⟨some 2, .assign (Operand.const (Value.bool false)), none, 0⟩])
 (.seq
 (.seq
 (.ops [⟨some 3, .assign (Operand.const (Value.int IntKind.i64 0)), none, 0⟩])
 (.block 0
 (.loop
 (.seq
 (.seq
 (.ops [⟨some 4, .move (Operand.tmp 3), none, 0⟩,
 ⟨some 5, .move (Operand.tmp 0), none, 0⟩,
 ⟨some 6, .call ⟨(Callee.builtin Builtin.len), [(Operand.tmp 5)].toArray, #[29]⟩, none, 0⟩,
 ⟨some 7, .binOp BinOp.lss 3 (Operand.tmp 4) (Operand.tmp 6) 3, none, 0⟩])
 (.cond (Operand.tmp 7)
 .skip
 (.exit 0)))
 (.seq
 (.block 1
 (.seq
 (.ops [⟨some 10, .move (Operand.tmp 0), none, 0⟩,
 ⟨some 11, .move (Operand.tmp 3), none, 0⟩,
 ⟨some 12, .indexAddr 29 (Operand.tmp 10) (Operand.tmp 11), none, 0⟩,
 ⟨some 13, .load 9 (Operand.tmp 12), none, 0⟩,
 ⟨some 14, .call ⟨(Callee.value (Operand.func 100)), [(Operand.tmp 13)].toArray, #[9]⟩, none, 0⟩,
 ⟨some 15, .unOp UnOp.not 4 (Operand.tmp 14), none, 0⟩])
 (.cond (Operand.tmp 15)
 (.seq
 (.ops [⟨some 2, .assign (Operand.const (Value.bool false)), none, 0⟩])
 .ret)
 .skip)))
 (.ops [⟨some 8, .move (Operand.tmp 3), none, 0⟩,
 ⟨some 9, .binOp BinOp.add 3 (Operand.tmp 8) (Operand.const (Value.int IntKind.i64 1)) 3, none, 0⟩,
 ⟨some 3, .assign (Operand.tmp 9), none, 0⟩]))))))
 (.seq
 (.ops [⟨some 2, .assign (Operand.const (Value.bool true)), none, 0⟩])
 .ret)))
abbrev R107 : List ResultVar := [ResultVar.tmp 2]
theorem ok107 : FnOK Tryd.prog 107 L107 R107 1 := ⟨_, _, Tryd.func107, rfl, by kernel_rfl, by kernel_rfl, by kernel_rfl, by kernel_rfl, Nat.le_of_ble_eq_true (by kernel_rfl), by kernel_rfl⟩

/-- internal/bytealg.Cutover -/
def L109 : LCode :=
 (.seq
 (.ops [⟨some 2, .assign (Operand.const (Value.int IntKind.i64 0)), none, 0⟩])
 (.seq
 (.ops [⟨some 3, .move (Operand.tmp 0), none, 0⟩,
 ⟨some 4, .binOp BinOp.add 3 (Operand.tmp 3) (Operand.const (Value.int IntKind.i64 16)) 3, none, 0⟩,
 ⟨some 5, .binOp BinOp.quo 3 (Operand.tmp 4) (Operand.const (Value.int IntKind.i64 8)) 3, none, 0⟩,
 ⟨some 2, .assign (Operand.tmp 5), none, 0⟩])
 .ret))
abbrev R109 : List ResultVar := [ResultVar.tmp 2]
theorem ok109 : FnOK Tryd.prog 109 L109 R109 1 := ⟨_, _, Tryd.func109, rfl, by kernel_rfl, by kernel_rfl, by kernel_rfl, by kernel_rfl, Nat.le_of_ble_eq_true (by kernel_rfl), by kernel_rfl⟩

/-- internal/bytealg.IndexRabinKarp[string] -/
def L110 : LCode :=
 (.seq
 (.ops [⟨some 4, .assign (Operand.const (Value.int IntKind.i64 0)), none, 0⟩])
 (.seq
 (.ops [⟨some 12, .move (Operand.tmp 1), none, 0⟩,
 ⟨some 13, .call ⟨(Callee.value (Operand.func 122)), [(Operand.tmp 12)].toArray, #[9]⟩, none, 0⟩,
 ⟨some 11, .move (Operand.tmp 13), none, 0⟩,
 ⟨some 14, .extract (Operand.tmp 11) 0, none, 0⟩,
 ⟨some 15, .extract (Operand.tmp 11) 1, none, 0⟩,
 ⟨some 5, .assign (Operand.tmp 14), none, 0⟩,
 ⟨some 6, .assign (Operand.tmp 15), none, 0⟩])
 (.seq
 (.ops [⟨some 16, .move (Operand.tmp 1), none, 0⟩,
 ⟨some 17, .call ⟨(Callee.builtin Builtin.len), [(Operand.tmp 16)].toArray, #[9]⟩, none, 0⟩,
 ⟨some 7, .assign (Operand.tmp 17), none, 0⟩])
 (.seq
 (.ops [⟨some 8, .assign (Operand.const (Value.int IntKind.u32 0)), none, 0⟩])
 (.seq
 (.seq
 (.ops [⟨some 9, .assign (Operand.const (Value.int IntKind.i64 0)), none, 0⟩])
 (.block 0
 (.loop
 (.seq
 (.seq
 (.ops [⟨some 18, .move (Operand.tmp 9), none, 0⟩,
 ⟨some 19, .move (Operand.tmp 7), none, 0⟩,
 ⟨some 20, .binOp BinOp.lss 3 (Operand.tmp 18) (Operand.tmp 19) 3, none, 0⟩])
 (.cond (Operand.tmp 20)
 .skip
 (.exit 0)))
 (.seq
 (.block 1
 (.ops [⟨some 23, .move (Operand.tmp 8), none, 0⟩,
 ⟨some 24, .binOp BinOp.mul 114 (Operand.tmp 23) (Operand.const (Value.int IntKind.u32 16777619)) 114, none, 0⟩,
 ⟨some 25, .move (Operand.tmp 0), none, 0⟩,
 ⟨some 26, .move (Operand.tmp 9), none, 0⟩,
 ⟨some 27, .index 9 (Operand.tmp 25) (Operand.tmp 26), none, 0⟩,
 ⟨some 28, .convert 5 114 (Operand.tmp 27), none, 0⟩,
 ⟨some 29, .binOp BinOp.add 114 (Operand.tmp 24) (Operand.tmp 28) 114, none, 0⟩,
 ⟨some 8, .assign (Operand.tmp 29), none, 0⟩]))
 (.ops [⟨some 21, .move (Operand.tmp 9), none, 0⟩,
 ⟨some 22, .binOp BinOp.add 3 (Operand.tmp 21) (Operand.const (Value.int IntKind.i64 1)) 3, none, 0⟩,
 ⟨some 9, .assign (Operand.tmp 22), none, 0⟩]))))))
 (.seq
 (.seq
 (.ops [⟨some 30, .move (Operand.tmp 8), none, 0⟩,
 ⟨some 31, .move (Operand.tmp 5), none, 0⟩,
 ⟨some 32, .binOp BinOp.eql 114 (Operand.tmp 30) (Operand.tmp 31) 114, none, 0⟩,
 ⟨some 33, .move (Operand.tmp 32), none, 0⟩,
 ⟨some 34, .move (Operand.tmp 0), some (33, true), 0⟩,
 ⟨some 35, .move (Operand.tmp 7), some (33, true), 0⟩,
 ⟨some 36, .slice 9 (Operand.tmp 34) none (some (Operand.tmp 35)) none, some (33, true), 0⟩,
 ⟨some 37, .move (Operand.tmp 1), some (33, true), 0⟩,
 ⟨some 38, .binOp BinOp.eql 9 (Operand.tmp 36) (Operand.tmp 37) 9, some (33, true), 0⟩,
 ⟨some 39, .pick (Operand.tmp 33) (Operand.tmp 38) (Operand.const (Value.bool false)), none, 0⟩])
 (.cond (Operand.tmp 39)
 (.seq
 (.ops [⟨some 4, .assign (Operand.const (Value.int IntKind.i64 0)), none, 0⟩])
 .ret)
 .skip))
 (.seq
 (.seq
 (.ops [⟨some 40, .move (Operand.tmp 7), none, 0⟩,
 ⟨some 10, .assign (Operand.tmp 40), none, 0⟩])
 (.block 2
 (.loop
 (.seq
 (.seq
 (.ops [⟨some 41, .move (Operand.tmp 10), none, 0⟩,
 ⟨some 42, .move (Operand.tmp 0), none, 0⟩,
 ⟨some 43, .call ⟨(Callee.builtin Builtin.len), [(Operand.tmp 42)].toArray, #[9]⟩, none, 0⟩,
 ⟨some 44, .binOp BinOp.lss 3 (Operand.tmp 41) (Operand.tmp 43) 3, none, 0⟩])
 (.cond (Operand.tmp 44)
 .skip
 (.exit 2)))
 (.block 3
 (.seq
 (.ops [⟨some 45, .move (Operand.tmp 8), none, 0⟩,
 ⟨some 46, .binOp BinOp.mul 114 (Operand.tmp 45) (Operand.const (Value.int IntKind.u32 16777619)) 114, none, 0⟩,
 ⟨some 8, .assign (Operand.tmp 46), none, 0⟩])
 (.seq
 (.ops [⟨some 47, .move (Operand.tmp 8), none, 0⟩,
 ⟨some 48, .move (Operand.tmp 0), none, 0⟩,
 ⟨some 49, .move (Operand.tmp 10), none, 0⟩,
 ⟨some 50, .index 9 (Operand.tmp 48) (Operand.tmp 49), none, 0⟩,
 ⟨some 51, .convert 5 114 (Operand.tmp 50), none, 0⟩,
 ⟨some 52, .binOp BinOp.add 114 (Operand.tmp 47) (Operand.tmp 51) 114, none, 0⟩,
 ⟨some 8, .assign (Operand.tmp 52), none, 0⟩])
 (.seq
 (.ops [⟨some 53, .move (Operand.tmp 8), none, 0⟩,
 ⟨some 54, .move (Operand.tmp 6), none, 0⟩,
 ⟨some 55, .move (Operand.tmp 0), none, 0⟩,
 ⟨some 56, .move (Operand.tmp 10), none, 0⟩,
 ⟨some 57, .move (Operand.tmp 7), none, 0⟩,
 ⟨some 58, .binOp BinOp.sub 3 (Operand.tmp 56) (Operand.tmp 57) 3, none, 0⟩,
 ⟨some 59, .index 9 (Operand.tmp 55) (Operand.tmp 58), none, 0⟩,
 ⟨some 60, .convert 5 114 (Operand.tmp 59), none, 0⟩,
 ⟨some 61, .binOp BinOp.mul 114 (Operand.tmp 54) (Operand.tmp 60) 114, none, 0⟩,
 ⟨some 62, .binOp BinOp.sub 114 (Operand.tmp 53) (Operand.tmp 61) 114, none, 0⟩,
 ⟨some 8, .assign (Operand.tmp 62), none, 0⟩])
 (.seq
 (.ops [⟨some 63, .move (Operand.tmp 10), none, 0⟩,
 ⟨some 64, .binOp BinOp.add 3 (Operand.tmp 63) (Operand.const (Value.int IntKind.i64 1)) 3, none, 0⟩,
 ⟨some 10, .assign (Operand.tmp 64), none, 0⟩])
 (.seq
 (.ops [⟨some 65, .move (Operand.tmp 8), none, 0⟩,
 ⟨some 66, .move (Operand.tmp 5), none, 0⟩,
 ⟨some 67, .binOp BinOp.eql 114 (Operand.tmp 65) (Operand.tmp 66) 114, none, 0⟩,
 ⟨some 68, .move (Operand.tmp 67), none, 0⟩,
 ⟨some 69, .move (Operand.tmp 0), some (68, true), 0⟩,
 ⟨some 70, .move (Operand.tmp 10), some (68, true), 0⟩,
 ⟨some 71, .move (Operand.tmp 7), some (68, true), 0⟩,
 ⟨some 72, .binOp BinOp.sub 3 (Operand.tmp 70) (Operand.tmp 71) 3, some (68, true), 0⟩,
 ⟨some 73, .move (Operand.tmp 10), some (68, true), 0⟩,
 ⟨some 74, .slice 9 (Operand.tmp 69) (some (Operand.tmp 72)) (some (Operand.tmp 73)) none, some (68, true), 0⟩,
 ⟨some 75, .move (Operand.tmp 1), some (68, true), 0⟩,
 ⟨some 76, .binOp BinOp.eql 9 (Operand.tmp 74) (Operand.tmp 75) 9, some (68, true), 0⟩,
 ⟨some 77, .pick (Operand.tmp 68) (Operand.tmp 76) (Operand.const (Value.bool false)), none, 0⟩])
 (.cond (Operand.tmp 77)
 (.seq
 (.ops [⟨some 78, .move (Operand.tmp 10), none, 0⟩,
 ⟨some 79, .move (Operand.tmp 7), none, 0⟩,
 ⟨some 80, .binOp BinOp.sub 3 (Operand.tmp 78) (Operand.tmp 79) 3, none, 0⟩,
 ⟨some 4, .assign (Operand.tmp 80), none, 0⟩])
 .ret)
 .skip)))))))))))
 (.seq
 (.ops [⟨some 4, .assign (Operand.const (Value.int IntKind.i64 (-1))), none, 0⟩])
 .ret))))))))
abbrev R110 : List ResultVar := [ResultVar.tmp 4]
theorem ok110 : FnOK Tryd.prog 110 L110 R110 2 := ⟨_, _, Tryd.func110, rfl, by kernel_rfl, by kernel_rfl, by kernel_rfl, by kernel_rfl, Nat.le_of_ble_eq_true (by kernel_rfl), by kernel_rfl⟩

/-- unicode/utf8.RuneCountInString -/
def L111 : LCode :=
 (.seq
 (.ops [⟨some 2, .assign (Operand.const (Value.int IntKind.i64 0)), none, 0⟩])
 (.seq
 (.seq
 (.ops [⟨some 3, .move (Operand.tmp 0), none, 0⟩,
 ⟨some 4, .range 9 (Operand.tmp 3), none, 0⟩])
 (.block 0
 (.loop
 (.seq
 (.ops [⟨some 5, .next (Operand.tmp 4) true, none, 0⟩,
 ⟨some 6, .extract (Operand.tmp 5) 0, none, 0⟩])
 (.seq
 (.cond (Operand.tmp 6)
 .skip
 (.exit 0))
 (.block 1
 (.ops [⟨some 7, .move (Operand.tmp 2), none, 0⟩,
 ⟨some 8, .binOp BinOp.add 3 (Operand.tmp 7) (Operand.const (Value.int IntKind.i64 1)) 3, none, 0⟩,
 ⟨some 2, .assign (Operand.tmp 8), none, 0⟩])))))))
 (.seq
 (.ops [⟨some 9, .move (Operand.tmp 2), none, 0⟩,
 ⟨some 2, .assign (Operand.tmp 9), none, 0⟩])
 .ret)))
abbrev R111 : List ResultVar := [ResultVar.tmp 2]
theorem ok111 : FnOK Tryd.prog 111 L111 R111 1 := ⟨_, _, Tryd.func111, rfl, by kernel_rfl, by kernel_rfl, by kernel_rfl, by kernel_rfl, Nat.le_of_ble_eq_true (by kernel_rfl), by kernel_rfl⟩

/-- unicode/utf8.DecodeRuneInString -/
def L112 : LCode :=
 (.seq
 (.ops [⟨some 2, .assign (Operand.const (Value.int IntKind.i32 0)), none, 0⟩,
 ⟨some 3, .assign (Operand.const (Value.int IntKind.i64 0)), none, 0⟩])
 (.seq
 (.seq
 (.ops [⟨some 4, .move (Operand.tmp 0), none, 0⟩,
 ⟨some 5, .binOp BinOp.neq 9 (Operand.tmp 4) (Operand.const (Value.string ⟨#[]⟩)) 9, none, 0⟩,
 ⟨some 6, .move (Operand.tmp 5), none, 0⟩,
 ⟨some 7, .move (Operand.tmp 0), some (6, true), 0⟩,
 ⟨some 8, .index 9 (Operand.tmp 7) (Operand.const (Value.int IntKind.i64 0)), some (6, true), 0⟩,
 ⟨some 9, .binOp BinOp.lss 5 (Operand.tmp 8) (Operand.const (Value.int IntKind.u8 128)) 5, some (6, true), 0⟩,
 ⟨some 10, .pick (Operand.tmp 6) (Operand.tmp 9) (Operand.const (Value.bool false)), none, 0⟩])
 (.cond (Operand.tmp 10)
 (.seq
 (.ops [⟨some 11, .move (Operand.tmp 0), none, 0⟩,
 ⟨some 12, .index 9 (Operand.tmp 11) (Operand.const (Value.int IntKind.i64 0)), none, 0⟩,
 ⟨some 13, .convert 5 21 (Operand.tmp 12), none, 0⟩,
 ⟨some 2, .assign (Operand.tmp 13), none, 0⟩,
 ⟨some 3, .assign (Operand.const (Value.int IntKind.i64 1)), none, 0⟩])
 .ret)
 (.ops [⟨some 15, .move (Operand.tmp 0), none, 0⟩,
 ⟨some 16, .call ⟨(Callee.value (Operand.func 123)), [(Operand.tmp 15)].toArray, #[9]⟩, none, 0⟩,
 ⟨some 14, .move (Operand.tmp 16), none, 0⟩,
 ⟨some 17, .extract (Operand.tmp 14) 0, none, 0⟩,
 ⟨some 18, .extract (Operand.tmp 14) 1, none, 0⟩,
 ⟨some 2, .assign (Operand.tmp 17), none, 0⟩,
 ⟨some 3, .assign (Operand.tmp 18), none, 0⟩])))
 .ret))
abbrev R112 : List ResultVar := [ResultVar.tmp 2, ResultVar.tmp 3]
theorem ok112 : FnOK Tryd.prog 112 L112 R112 1 := ⟨_, _, Tryd.func112, rfl, by kernel_rfl, by kernel_rfl, by kernel_rfl, by kernel_rfl, Nat.le_of_ble_eq_true (by kernel_rfl), by kernel_rfl⟩

/-- slices.siftDownCmpFunc[ablaut/api.Shift] -/
def L115 : LCode :=
 (.seq
 (.ops [⟨some 12, .move (Operand.tmp 1), none, 0⟩,
 ⟨some 10, .assign (Operand.tmp 12), none, 0⟩])
 (.block 0
 (.loop
 (.block 1
 (.seq
 (.ops [⟨some 13, .move (Operand.tmp 10), none, 0⟩,
 ⟨some 14, .binOp BinOp.mul 3 (Operand.const (Value.int IntKind.i64 2)) (Operand.tmp 13) 3, none, 0⟩,
 ⟨some 15, .binOp BinOp.add 3 (Operand.tmp 14) (Operand.const (Value.int IntKind.i64 1)) 3, none, 0⟩,
 ⟨some 11, .assign (Operand.tmp 15), none, 0⟩])
 (.seq
 (.seq
 (.ops [⟨some 16, .move (Operand.tmp 11), none, 0⟩,
 ⟨some 17, .move (Operand.tmp 2), none, 0⟩,
 ⟨some 18, .binOp BinOp.geq 3 (Operand.tmp 16) (Operand.tmp 17) 3, none, 0⟩])
 (.cond (Operand.tmp 18)
 (.exit 0)
 .skip))
 (.seq
 (.seq
 (.draw [⟨some 19, .move (Operand.tmp 11), none, 0⟩,
 ⟨some 20, .binOp BinOp.add 3 (Operand.tmp 19) (Operand.const (Value.int IntKind.i64 1)) 3, none, 0⟩,
 ⟨some 21, .move (Operand.tmp 2), none, 0⟩,
 ⟨some 22, .binOp BinOp.lss 3 (Operand.tmp 20) (Operand.tmp 21) 3, none, 0⟩,
 ⟨some 23, .move (Operand.tmp 22), none, 0⟩,
 ⟨some 24, .move (Operand.tmp 4), some (23, true), 0⟩,
 ⟨some 25, .move (Operand.tmp 0), some (23, true), 0⟩,
 ⟨some 26, .move (Operand.tmp 3), some (23, true), 0⟩,
 ⟨some 27, .move (Operand.tmp 11), some (23, true), 0⟩,
 ⟨some 28, .binOp BinOp.add 3 (Operand.tmp 26) (Operand.tmp 27) 3, some (23, true), 0⟩,
 ⟨some 29, .indexAddr 22 (Operand.tmp 25) (Operand.tmp 28), some (23, true), 0⟩,
 ⟨some 30, .load 46 (Operand.tmp 29), some (23, true), 0⟩,
 ⟨some 31, .move (Operand.tmp 0), some (23, true), 0⟩,
 ⟨some 32, .move (Operand.tmp 3), some (23, true), 0⟩,
 ⟨some 33, .move (Operand.tmp 11), some (23, true), 0⟩,
 ⟨some 34, .binOp BinOp.add 3 (Operand.tmp 32) (Operand.tmp 33) 3, some (23, true), 0⟩,
 ⟨some 35, .binOp BinOp.add 3 (Operand.tmp 34) (Operand.const (Value.int IntKind.i64 1)) 3, some (23, true), 0⟩,
 ⟨some 36, .indexAddr 22 (Operand.tmp 31) (Operand.tmp 35), some (23, true), 0⟩,
 ⟨some 37, .load 46 (Operand.tmp 36), some (23, true), 0⟩,
 ⟨some 38, .call ⟨(Callee.value (Operand.tmp 24)), [(Operand.tmp 30), (Operand.tmp 37)].toArray, #[46, 46]⟩, some (23, true), 0⟩,
 ⟨some 39, .binOp BinOp.lss 3 (Operand.tmp 38) (Operand.const (Value.int IntKind.i64 0)) 3, some (23, true), 0⟩,
 ⟨some 40, .pick (Operand.tmp 23) (Operand.tmp 39) (Operand.const (Value.bool false)), none, 0⟩] true [19, 20, 21] [0, 1, 2, 3, 4, 5, 6, 7, 8, 9, 10, 12, 13, 14, 15, 16, 17, 11, 18, 19, 20, 21])
 (.cond (Operand.tmp 40)
 (.ops [⟨some 41, .move (Operand.tmp 11), none, 0⟩,
 ⟨some 42, .binOp BinOp.add 3 (Operand.tmp 41) (Operand.const (Value.int IntKind.i64 1)) 3, none, 0⟩,
 ⟨some 11, .assign (Operand.tmp 42), none, 0⟩])
 .skip))
 (.seq
 (.seq
 (.draw [⟨some 43, .move (Operand.tmp 4), none, 0⟩,
 ⟨some 44, .move (Operand.tmp 0), none, 0⟩,
 ⟨some 45, .move (Operand.tmp 3), none, 0⟩,
 ⟨some 46, .move (Operand.tmp 10), none, 0⟩,
 ⟨some 47, .binOp BinOp.add 3 (Operand.tmp 45) (Operand.tmp 46) 3, none, 0⟩,
 ⟨some 48, .indexAddr 22 (Operand.tmp 44) (Operand.tmp 47), none, 0⟩,
 ⟨some 49, .load 46 (Operand.tmp 48), none, 0⟩,
 ⟨some 50, .move (Operand.tmp 0), none, 0⟩,
 ⟨some 51, .move (Operand.tmp 3), none, 0⟩,
 ⟨some 52, .move (Operand.tmp 11), none, 0⟩,
 ⟨some 53, .binOp BinOp.add 3 (Operand.tmp 51) (Operand.tmp 52) 3, none, 0⟩,
 ⟨some 54, .indexAddr 22 (Operand.tmp 50) (Operand.tmp 53), none, 0⟩,
 ⟨some 55, .load 46 (Operand.tmp 54), none, 0⟩,
 ⟨some 56, .call ⟨(Callee.value (Operand.tmp 43)), [(Operand.tmp 49), (Operand.tmp 55)].toArray, #[46, 46]⟩, none, 0⟩,
 ⟨some 57, .binOp BinOp.lss 3 (Operand.tmp 56) (Operand.const (Value.int IntKind.i64 0)) 3, none, 0⟩,
 ⟨some 58, .unOp UnOp.not 4 (Operand.tmp 57), none, 0⟩] true [13, 14, 15] [0, 1, 2, 3, 4, 5, 7, 8, 9, 10, 11, 6, 12, 13, 14, 15])
 (.cond (Operand.tmp 58)
 .ret
 .skip))
 (.seq
 (.draw [⟨some 59, .move (Operand.tmp 0), none, 0⟩,
 ⟨some 60, .move (Operand.tmp 3), none, 0⟩,
 ⟨some 61, .move (Operand.tmp 10), none, 0⟩,
 ⟨some 62, .binOp BinOp.add 3 (Operand.tmp 60) (Operand.tmp 61) 3, none, 0⟩,
 ⟨some 63, .move (Operand.tmp 0), none, 0⟩,
 ⟨some 64, .move (Operand.tmp 3), none, 0⟩,
 ⟨some 65, .move (Operand.tmp 11), none, 0⟩,
 ⟨some 66, .binOp BinOp.add 3 (Operand.tmp 64) (Operand.tmp 65) 3, none, 0⟩,
 ⟨some 67, .move (Operand.tmp 0), none, 0⟩,
 ⟨some 68, .move (Operand.tmp 3), none, 0⟩,
 ⟨some 69, .move (Operand.tmp 11), none, 0⟩,
 ⟨some 70, .binOp BinOp.add 3 (Operand.tmp 68) (Operand.tmp 69) 3, none, 0⟩,
 ⟨some 71, .indexAddr 22 (Operand.tmp 67) (Operand.tmp 70), none, 0⟩,
 ⟨some 72, .load 46 (Operand.tmp 71), none, 0⟩,
 ⟨some 73, .move (Operand.tmp 0), none, 0⟩,
 ⟨some 74, .move (Operand.tmp 3), none, 0⟩,
 ⟨some 75, .move (Operand.tmp 10), none, 0⟩,
 ⟨some 76, .binOp BinOp.add 3 (Operand.tmp 74) (Operand.tmp 75) 3, none, 0⟩,
 ⟨some 77, .indexAddr 22 (Operand.tmp 73) (Operand.tmp 76), none, 0⟩,
 ⟨some 78, .load 46 (Operand.tmp 77), none, 0⟩,
 ⟨some 79, .indexAddr 22 (Operand.tmp 59) (Operand.tmp 62), none, 0⟩,
 ⟨none, .store 46 (Operand.tmp 79) (Operand.tmp 72), none, 0⟩,
 ⟨some 80, .indexAddr 22 (Operand.tmp 63) (Operand.tmp 66), none, 0⟩,
 ⟨none, .store 46 (Operand.tmp 80) (Operand.tmp 78), none, 0⟩] true [22, 23] [0, 1, 2, 3, 4, 5, 6, 7, 8, 9, 10, 11, 12, 14, 15, 16, 17, 18, 13, 19, 20, 21, 22, 23])
 (.ops [⟨some 81, .move (Operand.tmp 11), none, 0⟩,
 ⟨some 10, .assign (Operand.tmp 81), none, 0⟩]))))))))))
abbrev R115 : List ResultVar := []
theorem ok115 : FnOK Tryd.prog 115 L115 R115 5 := ⟨_, _, Tryd.func115, rfl, by kernel_rfl, by kernel_rfl, by kernel_rfl, by kernel_rfl, Nat.le_of_ble_eq_true (by kernel_rfl), by kernel_rfl⟩

/-- slices.nextPowerOfTwo -/
def L116 : LCode :=
 (.seq
 (.ops [⟨some 2, .assign (Operand.const (Value.int IntKind.u64 0)), none, 0⟩])
 (.seq
 (.ops [⟨some 3, .move (Operand.tmp 0), none, 0⟩,
 ⟨some 4, .convert 3 92 (Operand.tmp 3), none, 0⟩,
 ⟨some 5, .call ⟨(Callee.value (Operand.func 65)), [(Operand.tmp 4)].toArray, #[92]⟩, none, 0⟩,
 ⟨some 6, .binOp BinOp.shl 92 (Operand.const (Value.int IntKind.u64 1)) (Operand.tmp 5) 3, none, 0⟩,
 ⟨some 2, .assign (Operand.tmp 6), none, 0⟩])
 .ret))
abbrev R116 : List ResultVar := [ResultVar.tmp 2]
theorem ok116 : FnOK Tryd.prog 116 L116 R116 1 := ⟨_, _, Tryd.func116, rfl, by kernel_rfl, by kernel_rfl, by kernel_rfl, by kernel_rfl, Nat.le_of_ble_eq_true (by kernel_rfl), by kernel_rfl⟩

/-- (*slices.xorshift).Next -/
def L117 : LCode :=
 (.seq
 (.ops [⟨some 2, .assign (Operand.const (Value.int IntKind.u64 0)), none, 0⟩])
 (.seq
 (.draw [⟨some 3, .move (Operand.tmp 0), none, 0⟩,
 ⟨some 4, .nilCheck (Operand.tmp 3), none, 0⟩,
 ⟨some 5, .load 132 (Operand.tmp 4), none, 0⟩,
 ⟨some 6, .move (Operand.tmp 0), none, 0⟩,
 ⟨some 7, .nilCheck (Operand.tmp 6), none, 0⟩,
 ⟨some 8, .load 132 (Operand.tmp 7), none, 0⟩,
 ⟨some 9, .binOp BinOp.shl 132 (Operand.tmp 8) (Operand.const (Value.int IntKind.u64 13)) 92, none, 0⟩,
 ⟨some 10, .binOp BinOp.xor 132 (Operand.tmp 5) (Operand.tmp 9) 132, none, 0⟩,
 ⟨some 11, .nilCheck (Operand.tmp 3), none, 0⟩,
 ⟨none, .store 132 (Operand.tmp 11) (Operand.tmp 10), none, 0⟩] true [7, 8, 9] [0, 1, 3, 4, 2, 5, 6, 7, 8, 9])
 (.seq
 (.draw [⟨some 12, .move (Operand.tmp 0), none, 0⟩,
 ⟨some 13, .nilCheck (Operand.tmp 12), none, 0⟩,
 ⟨some 14, .load 132 (Operand.tmp 13), none, 0⟩,
 ⟨some 15, .move (Operand.tmp 0), none, 0⟩,
 ⟨some 16, .nilCheck (Operand.tmp 15), none, 0⟩,
 ⟨some 17, .load 132 (Operand.tmp 16), none, 0⟩,
 ⟨some 18, .binOp BinOp.shr 132 (Operand.tmp 17) (Operand.const (Value.int IntKind.u64 7)) 92, none, 0⟩,
 ⟨some 19, .binOp BinOp.xor 132 (Operand.tmp 14) (Operand.tmp 18) 132, none, 0⟩,
 ⟨some 20, .nilCheck (Operand.tmp 12), none, 0⟩,
 ⟨none, .store 132 (Operand.tmp 20) (Operand.tmp 19), none, 0⟩] true [7, 8, 9] [0, 1, 3, 4, 2, 5, 6, 7, 8, 9])
 (.seq
 (.draw [⟨some 21, .move (Operand.tmp 0), none, 0⟩,
 ⟨some 22, .nilCheck (Operand.tmp 21), none, 0⟩,
 ⟨some 23, .load 132 (Operand.tmp 22), none, 0⟩,
 ⟨some 24, .move (Operand.tmp 0), none, 0⟩,
 ⟨some 25, .nilCheck (Operand.tmp 24), none, 0⟩,
 ⟨some 26, .load 132 (Operand.tmp 25), none, 0⟩,
 ⟨some 27, .binOp BinOp.shl 132 (Operand.tmp 26) (Operand.const (Value.int IntKind.u64 17)) 92, none, 0⟩,
 ⟨some 28, .binOp BinOp.xor 132 (Operand.tmp 23) (Operand.tmp 27) 132, none, 0⟩,
 ⟨some 29, .nilCheck (Operand.tmp 21), none, 0⟩,
 ⟨none, .store 132 (Operand.tmp 29) (Operand.tmp 28), none, 0⟩] true [7, 8, 9] [0, 1, 3, 4, 2, 5, 6, 7, 8, 9])
 (.seq
 (.ops [⟨some 30, .move (Operand.tmp 0), none, 0⟩,
 ⟨some 31, .nilCheck (Operand.tmp 30), none, 0⟩,
 ⟨some 32, .load 132 (Operand.tmp 31), none, 0⟩,
 ⟨some 2, .assign (Operand.tmp 32), none, 0⟩])
 .ret)))))
abbrev R117 : List ResultVar := [ResultVar.tmp 2]
theorem ok117 : FnOK Tryd.prog 117 L117 R117 1 := ⟨_, _, Tryd.func117, rfl, by kernel_rfl, by kernel_rfl, by kernel_rfl, by kernel_rfl, Nat.le_of_ble_eq_true (by kernel_rfl), by kernel_rfl⟩

/-- slices.medianAdjacentCmpFunc[ablaut/api.Shift] -/
def L118 : LCode :=
 (.seq
 (.ops [⟨some 8, .assign (Operand.const (Value.int IntKind.i64 0)), none, 0⟩])
 (.seq
 (.ops [⟨some 9, .move (Operand.tmp 0), none, 0⟩,
 ⟨some 10, .move (Operand.tmp 1), none, 0⟩,
 ⟨some 11, .binOp BinOp.sub 3 (Operand.tmp 10) (Operand.const (Value.int IntKind.i64 1)) 3, none, 0⟩,
 ⟨some 12, .move (Operand.tmp 1), none, 0⟩,
 ⟨some 13, .move (Operand.tmp 1), none, 0⟩,
 ⟨some 14, .binOp BinOp.add 3 (Operand.tmp 13) (Operand.const (Value.int IntKind.i64 1)) 3, none, 0⟩,
 ⟨some 15, .move (Operand.tmp 2), none, 0⟩,
 ⟨some 16, .move (Operand.tmp 3), none, 0⟩,
 ⟨some 17, .call ⟨(Callee.value (Operand.func 119)), [(Operand.tmp 9), (Operand.tmp 11), (Operand.tmp 12), (Operand.tmp 14), (Operand.tmp 15), (Operand.tmp 16)].toArray, #[22, 3, 3, 3, 136, 73]⟩, none, 0⟩,
 ⟨some 8, .assign (Operand.tmp 17), none, 0⟩])
 .ret))
abbrev R118 : List ResultVar := [ResultVar.tmp 8]
theorem ok118 : FnOK Tryd.prog 118 L118 R118 4 := ⟨_, _, Tryd.func118, rfl, by kernel_rfl, by kernel_rfl, by kernel_rfl, by kernel_rfl, Nat.le_of_ble_eq_true (by kernel_rfl), by kernel_rfl⟩

/-- slices.medianCmpFunc[ablaut/api.Shift] -/
def L119 : LCode :=
 (.seq
 (.ops [⟨some 12, .assign (Operand.const (Value.int IntKind.i64 0)), none, 0⟩])
 (.seq
 (.ops [⟨some 14, .move (Operand.tmp 0), none, 0⟩,
 ⟨some 15, .move (Operand.tmp 1), none, 0⟩,
 ⟨some 16, .move (Operand.tmp 2), none, 0⟩,
 ⟨some 17, .move (Operand.tmp 4), none, 0⟩,
 ⟨some 18, .move (Operand.tmp 5), none, 0⟩,
 ⟨some 19, .call ⟨(Callee.value (Operand.func 124)), [(Operand.tmp 14), (Operand.tmp 15), (Operand.tmp 16), (Operand.tmp 17), (Operand.tmp 18)].toArray, #[22, 3, 3, 136, 73]⟩, none, 0⟩,
 ⟨some 13, .move (Operand.tmp 19), none, 0⟩,
 ⟨some 20, .extract (Operand.tmp 13) 0, none, 0⟩,
 ⟨some 21, .extract (Operand.tmp 13) 1, none, 0⟩,
 ⟨some 1, .assign (Operand.tmp 20), none, 0⟩,
 ⟨some 2, .assign (Operand.tmp 21), none, 0⟩])
 (.seq
 (.ops [⟨some 23, .move (Operand.tmp 0), none, 0⟩,
 ⟨some 24, .move (Operand.tmp 2), none, 0⟩,
 ⟨some 25, .move (Operand.tmp 3), none, 0⟩,
 ⟨some 26, .move (Operand.tmp 4), none, 0⟩,
 ⟨some 27, .move (Operand.tmp 5), none, 0⟩,
 ⟨some 28, .call ⟨(Callee.value (Operand.func 124)), [(Operand.tmp 23), (Operand.tmp 24), (Operand.tmp 25), (Operand.tmp 26), (Operand.tmp 27)].toArray, #[22, 3, 3, 136, 73]⟩, none, 0⟩,
 ⟨some 22, .move (Operand.tmp 28), none, 0⟩,
 ⟨some 29, .extract (Operand.tmp 22) 0, none, 0⟩,
 ⟨some 30, .extract (Operand.tmp 22) 1, none, 0⟩,
 ⟨some 2, .assign (Operand.tmp 29), none, 0⟩,
 ⟨some 3, .assign (Operand.tmp 30), none, 0⟩])
 (.seq
 (.ops [⟨some 32, .move (Operand.tmp 0), none, 0⟩,
 ⟨some 33, .move (Operand.tmp 1), none, 0⟩,
 ⟨some 34, .move (Operand.tmp 2), none, 0⟩,
 ⟨some 35, .move (Operand.tmp 4), none, 0⟩,
 ⟨some 36, .move (Operand.tmp 5), none, 0⟩,
 ⟨some 37, .call ⟨(Callee.value (Operand.func 124)), [(Operand.tmp 32), (Operand.tmp 33), (Operand.tmp 34), (Operand.tmp 35), (Operand.tmp 36)].toArray, #[22, 3, 3, 136, 73]⟩, none, 0⟩,
 ⟨some 31, .move (Operand.tmp 37), none, 0⟩,
 ⟨some 38, .extract (Operand.tmp 31) 0, none, 0⟩,
 ⟨some 39, .extract (Operand.tmp 31) 1, none, 0⟩,
 ⟨some 1, .assign (Operand.tmp 38), none, 0⟩,
 ⟨some 2, .assign (Operand.tmp 39), none, 0⟩])
 (.seq
 (.ops [⟨some 40, .move (Operand.tmp 2), none, 0⟩,
 ⟨some 12, .assign (Operand.tmp 40), none, 0⟩])
 .ret)))))
abbrev R119 : List ResultVar := [ResultVar.tmp 12]
theorem ok119 : FnOK Tryd.prog 119 L119 R119 6 := ⟨_, _, Tryd.func119, rfl, by kernel_rfl, by kernel_rfl, by kernel_rfl, by kernel_rfl, Nat.le_of_ble_eq_true (by kernel_rfl), by kernel_rfl⟩

/-- (*strings.Builder).copyCheck -/
def L120 : LCode :=
 (.seq
 (.ops [⟨some 2, .move (Operand.tmp 0), none, 0⟩,
 ⟨some 3, .nilCheck (Operand.tmp 2), none, 0⟩,
 ⟨some 4, .fieldAddr 121 (Operand.tmp 3) 0, none, 0⟩,
 ⟨some 5, .load 118 (Operand.tmp 4), none, 0⟩,
 ⟨some 6, .binOp BinOp.eql 118 (Operand.tmp 5) (Operand.const (Value.pointer none)) 118, none, 0⟩])
 (.cond (Operand.tmp 6)
 (.ops [⟨some 7, .move (Operand.tmp 0), none, 0⟩,
 ⟨some 8, .move (Operand.tmp 0), none, 0⟩,
 ⟨some 9, .convert 118 144 (Operand.tmp 8), none, 0⟩,
 ⟨some 10, .call ⟨(Callee.value (Operand.func 125)), [(Operand.tmp 9)].toArray, #[144]⟩, none, 0⟩,
 ⟨some 11, .convert 144 118 (Operand.tmp 10), none, 0⟩,
 ⟨some 12, .nilCheck (Operand.tmp 7), none, 0⟩,
 ⟨some 13, .fieldAddr 121 (Operand.tmp 12) 0, none, 0⟩,
 ⟨none, .store 118 (Operand.tmp 13) (Operand.tmp 11), none, 0⟩])
 (.seq
 (.ops [⟨some 14, .move (Operand.tmp 0), none, 0⟩,
 ⟨some 15, .nilCheck (Operand.tmp 14), none, 0⟩,
 ⟨some 16, .fieldAddr 121 (Operand.tmp 15) 0, none, 0⟩,
 ⟨some 17, .load 118 (Operand.tmp 16), none, 0⟩,
 ⟨some 18, .move (Operand.tmp 0), none, 0⟩,
 ⟨some 19, .binOp BinOp.neq 118 (Operand.tmp 17) (Operand.tmp 18) 118, none, 0⟩])
 (.cond (Operand.tmp 19)
 .bad
 .skip))))
abbrev R120 : List ResultVar := []
theorem ok120 : FnOK Tryd.prog 120 L120 R120 1 := ⟨_, _, Tryd.func120, rfl, by kernel_rfl, by kernel_rfl, by kernel_rfl, by kernel_rfl, Nat.le_of_ble_eq_true (by kernel_rfl), by kernel_rfl⟩

/-- (*strings.Builder).grow -/
def L121 : LCode :=
 (.seq
 (.draw [⟨some 5, .move (Operand.tmp 0), none, 0⟩,
 ⟨some 6, .nilCheck (Operand.tmp 5), none, 0⟩,
 ⟨some 7, .fieldAddr 121 (Operand.tmp 6) 1, none, 0⟩,
 ⟨some 8, .load 119 (Operand.tmp 7), none, 0⟩,
 ⟨some 9, .call ⟨(Callee.builtin Builtin.cap), [(Operand.tmp 8)].toArray, #[119]⟩, none, 0⟩,
 ⟨some 10, .binOp BinOp.mul 3 (Operand.const (Value.int IntKind.i64 2)) (Operand.tmp 9) 3, none, 0⟩,
 ⟨some 11, .move (Operand.tmp 1), none, 0⟩,
 ⟨some 12, .binOp BinOp.add 3 (Operand.tmp 10) (Operand.tmp 11) 3, none, 0⟩,
 ⟨some 13, .call ⟨(Callee.value (Operand.func 126)), [(Operand.tmp 12)].toArray, #[3]⟩, none, 0⟩,
 ⟨some 14, .move (Operand.tmp 0), none, 0⟩,
 ⟨some 15, .nilCheck (Operand.tmp 14), none, 0⟩,
 ⟨some 16, .fieldAddr 121 (Operand.tmp 15) 1, none, 0⟩,
 ⟨some 17, .load 119 (Operand.tmp 16), none, 0⟩,
 ⟨some 18, .call ⟨(Callee.builtin Builtin.len), [(Operand.tmp 17)].toArray, #[119]⟩, none, 0⟩,
 ⟨some 19, .slice 119 (Operand.tmp 13) none (some (Operand.tmp 18)) none, none, 0⟩,
 ⟨some 4, .assign (Operand.tmp 19), none, 0⟩] true [14, 15] [])
 (.seq
 (.ops [⟨some 20, .move (Operand.tmp 4), none, 0⟩,
 ⟨some 21, .move (Operand.tmp 0), none, 0⟩,
 ⟨some 22, .nilCheck (Operand.tmp 21), none, 0⟩,
 ⟨some 23, .fieldAddr 121 (Operand.tmp 22) 1, none, 0⟩,
 ⟨some 24, .load 119 (Operand.tmp 23), none, 0⟩,
 ⟨some 25, .call ⟨(Callee.builtin Builtin.copy), [(Operand.tmp 20), (Operand.tmp 24)].toArray, #[119, 119]⟩, none, 0⟩])
 (.ops [⟨some 26, .move (Operand.tmp 0), none, 0⟩,
 ⟨some 27, .move (Operand.tmp 4), none, 0⟩,
 ⟨some 28, .nilCheck (Operand.tmp 26), none, 0⟩,
 ⟨some 29, .fieldAddr 121 (Operand.tmp 28) 1, none, 0⟩,
 ⟨none, .store 119 (Operand.tmp 29) (Operand.tmp 27), none, 0⟩])))
abbrev R121 : List ResultVar := []
theorem ok121 : FnOK Tryd.prog 121 L121 R121 2 := ⟨_, _, Tryd.func121, rfl, by kernel_rfl, by kernel_rfl, by kernel_rfl, by kernel_rfl, Nat.le_of_ble_eq_true (by kernel_rfl), by kernel_rfl⟩

/-- internal/bytealg.hashStr[string] -/
def L122 : LCode :=
 (.seq
 (.ops [⟨some 2, .assign (Operand.const (Value.int IntKind.u32 0)), none, 0⟩,
 ⟨some 3, .assign (Operand.const (Value.int IntKind.u32 0)), none, 0⟩])
 (.seq
 (.ops [⟨some 4, .assign (Operand.const (Value.int IntKind.u32 0)), none, 0⟩])
 (.seq
 (.seq
 (.ops [⟨some 5, .assign (Operand.const (Value.int IntKind.i64 0)), none, 0⟩])
 (.block 0
 (.loop
 (.seq
 (.seq
 (.ops [⟨some 9, .move (Operand.tmp 5), none, 0⟩,
 ⟨some 10, .move (Operand.tmp 0), none, 0⟩,
 ⟨some 11, .call ⟨(Callee.builtin Builtin.len), [(Operand.tmp 10)].toArray, #[9]⟩, none, 0⟩,
 ⟨some 12, .binOp BinOp.lss 3 (Operand.tmp 9) (Operand.tmp 11) 3, none, 0⟩])
 (.cond (Operand.tmp 12)
 .skip
 (.exit 0)))
 (.seq
 (.block 1
 (.ops [⟨some 15, .move (Operand.tmp 4), none, 0⟩,
 ⟨some 16, .binOp BinOp.mul 114 (Operand.tmp 15) (Operand.const (Value.int IntKind.u32 16777619)) 114, none, 0⟩,
 ⟨some 17, .move (Operand.tmp 0), none, 0⟩,
 ⟨some 18, .move (Operand.tmp 5), none, 0⟩,
 ⟨some 19, .index 9 (Operand.tmp 17) (Operand.tmp 18), none, 0⟩,
 ⟨some 20, .convert 5 114 (Operand.tmp 19), none, 0⟩,
 ⟨some 21, .binOp BinOp.add 114 (Operand.tmp 16) (Operand.tmp 20) 114, none, 0⟩,
 ⟨some 4, .assign (Operand.tmp 21), none, 0⟩]))
 (.ops [⟨some 13, .move (Operand.tmp 5), none, 0⟩,
 ⟨some 14, .binOp BinOp.add 3 (Operand.tmp 13) (Operand.const (Value.int IntKind.i64 1)) 3, none, 0⟩,
 ⟨some 5, .assign (Operand.tmp 14), none, 0⟩]))))))
 (.seq
 (.ops [⟨some 6, .assign (Operand.const (Value.int IntKind.u32 1)), none, 0⟩,
 ⟨some 7, .assign (Operand.const (Value.int IntKind.u32 16777619)), none, 0⟩])
 (.seq
 (.seq
 (.ops [⟨some 22, .move (Operand.tmp 0), none, 0⟩,
 ⟨some 23, .call ⟨(Callee.builtin Builtin.len), [(Operand.tmp 22)].toArray, #[9]⟩, none, 0⟩,
 ⟨some 8, .assign (Operand.tmp 23), none, 0⟩])
 (.block 2
 (.loop
 (.seq
 (.seq
 (.ops [⟨some 24, .move (Operand.tmp 8), none, 0⟩,
 ⟨some 25, .binOp BinOp.gtr 3 (Operand.tmp 24) (Operand.const (Value.int IntKind.i64 0)) 3, none, 0⟩])
 (.cond (Operand.tmp 25)
 .skip
 (.exit 2)))
 (.seq
 (.block 3
 (.seq
 (.seq
 (.ops [⟨some 28, .move (Operand.tmp 8), none, 0⟩,
 ⟨some 29, .binOp BinOp.and 3 (Operand.tmp 28) (Operand.const (Value.int IntKind.i64 1)) 3, none, 0⟩,
 ⟨some 30, .binOp BinOp.neq 3 (Operand.tmp 29) (Operand.const (Value.int IntKind.i64 0)) 3, none, 0⟩])
 (.cond (Operand.tmp 30)
 (.ops [⟨some 31, .move (Operand.tmp 6), none, 0⟩,
 ⟨some 32, .move (Operand.tmp 7), none, 0⟩,
 ⟨some 33, .binOp BinOp.mul 114 (Operand.tmp 31) (Operand.tmp 32) 114, none, 0⟩,
 ⟨some 6, .assign (Operand.tmp 33), none, 0⟩])
 .skip))
 (.ops [⟨some 34, .move (Operand.tmp 7), none, 0⟩,
 ⟨some 35, .move (Operand.tmp 7), none, 0⟩,
 ⟨some 36, .binOp BinOp.mul 114 (Operand.tmp 34) (Operand.tmp 35) 114, none, 0⟩,
 ⟨some 7, .assign (Operand.tmp 36), none, 0⟩])))
 (.ops [⟨some 26, .move (Operand.tmp 8), none, 0⟩,
 ⟨some 27, .binOp BinOp.shr 3 (Operand.tmp 26) (Operand.const (Value.int IntKind.u64 1)) 92, none, 0⟩,
 ⟨some 8, .assign (Operand.tmp 27), none, 0⟩]))))))
 (.seq
 (.ops [⟨some 37, .move (Operand.tmp 4), none, 0⟩,
 ⟨some 38, .move (Operand.tmp 6), none, 0⟩,
 ⟨some 2, .assign (Operand.tmp 37), none, 0⟩,
 ⟨some 3, .assign (Operand.tmp 38), none, 0⟩])
 .ret))))))
abbrev R122 : List ResultVar := [ResultVar.tmp 2, ResultVar.tmp 3]
theorem ok122 : FnOK Tryd.prog 122 L122 R122 1 := ⟨_, _, Tryd.func122, rfl, by kernel_rfl, by kernel_rfl, by kernel_rfl, by kernel_rfl, Nat.le_of_ble_eq_true (by kernel_rfl), by kernel_rfl⟩

/-- unicode/utf8.decodeRuneInStringSlow -/
def L123 : LCode :=
 (.seq
 (.ops [⟨some 2, .assign (Operand.const (Value.int IntKind.i32 0)), none, 0⟩,
 ⟨some 3, .assign (Operand.const (Value.int IntKind.i64 0)), none, 0⟩])
 (.seq
 (.ops [⟨some 13, .move (Operand.tmp 0), none, 0⟩,
 ⟨some 14, .call ⟨(Callee.builtin Builtin.len), [(Operand.tmp 13)].toArray, #[9]⟩, none, 0⟩,
 ⟨some 4, .assign (Operand.tmp 14), none, 0⟩])
 (.seq
 (.seq
 (.ops [⟨some 15, .move (Operand.tmp 4), none, 0⟩,
 ⟨some 16, .binOp BinOp.lss 3 (Operand.tmp 15) (Operand.const (Value.int IntKind.i64 1)) 3, none, 0⟩])
 (.cond (Operand.tmp 16)
 (.seq
 (.ops [⟨some 2, .assign (Operand.const (Value.int IntKind.i32 65533)), none, 0⟩,
 ⟨some 3, .assign (Operand.const (Value.int IntKind.i64 0)), none, 0⟩])
 .ret)
 .skip))
 (.seq
 (.ops [⟨some 17, .move (Operand.tmp 0), none, 0⟩,
 ⟨some 18, .index 9 (Operand.tmp 17) (Operand.const (Value.int IntKind.i64 0)), none, 0⟩,
 ⟨some 5, .assign (Operand.tmp 18), none, 0⟩])
 (.seq
 (.ops [⟨some 19, .move (Operand.tmp 5), none, 0⟩,
 ⟨some 20, .indexAddr 147 (Operand.global 1) (Operand.tmp 19), none, 0⟩,
 ⟨some 21, .load 5 (Operand.tmp 20), none, 0⟩,
 ⟨some 6, .assign (Operand.tmp 21), none, 0⟩])
 (.seq
 (.seq
 (.ops [⟨some 22, .move (Operand.tmp 6), none, 0⟩,
 ⟨some 23, .binOp BinOp.geq 5 (Operand.tmp 22) (Operand.const (Value.int IntKind.u8 240)) 5, none, 0⟩])
 (.cond (Operand.tmp 23)
 (.seq
 (.ops [⟨some 24, .move (Operand.tmp 6), none, 0⟩,
 ⟨some 25, .convert 5 21 (Operand.tmp 24), none, 0⟩,
 ⟨some 26, .binOp BinOp.shl 21 (Operand.tmp 25) (Operand.const (Value.int IntKind.u64 31)) 92, none, 0⟩,
 ⟨some 27, .binOp BinOp.shr 21 (Operand.tmp 26) (Operand.const (Value.int IntKind.u64 31)) 92, none, 0⟩,
 ⟨some 7, .assign (Operand.tmp 27), none, 0⟩])
 (.seq
 (.ops [⟨some 28, .move (Operand.tmp 0), none, 0⟩,
 ⟨some 29, .index 9 (Operand.tmp 28) (Operand.const (Value.int IntKind.i64 0)), none, 0⟩,
 ⟨some 30, .convert 5 21 (Operand.tmp 29), none, 0⟩,
 ⟨some 31, .move (Operand.tmp 7), none, 0⟩,
 ⟨some 32, .binOp BinOp.andNot 21 (Operand.tmp 30) (Operand.tmp 31) 21, none, 0⟩,
 ⟨some 33, .move (Operand.tmp 7), none, 0⟩,
 ⟨some 34, .binOp BinOp.and 21 (Operand.const (Value.int IntKind.i32 65533)) (Operand.tmp 33) 21, none, 0⟩,
 ⟨some 35, .binOp BinOp.or 21 (Operand.tmp 32) (Operand.tmp 34) 21, none, 0⟩,
 ⟨some 2, .assign (Operand.tmp 35), none, 0⟩,
 ⟨some 3, .assign (Operand.const (Value.int IntKind.i64 1)), none, 0⟩])
 .ret))
 .skip))
 (.seq
 (.ops [⟨some 36, .move (Operand.tmp 6), none, 0⟩,
 ⟨some 37, .binOp BinOp.and 5 (Operand.tmp 36) (Operand.const (Value.int IntKind.u8 7)) 5, none, 0⟩,
 ⟨some 38, .convert 5 3 (Operand.tmp 37), none, 0⟩,
 ⟨some 8, .assign (Operand.tmp 38), none, 0⟩])
 (.seq
 (.ops [⟨some 39, .move (Operand.tmp 6), none, 0⟩,
 ⟨some 40, .binOp BinOp.shr 5 (Operand.tmp 39) (Operand.const (Value.int IntKind.u64 4)) 92, none, 0⟩,
 ⟨some 41, .indexAddr 150 (Operand.global 2) (Operand.tmp 40), none, 0⟩,
 ⟨some 42, .load 149 (Operand.tmp 41), none, 0⟩,
 ⟨some 9, .alloc 149, none, 0⟩,
 ⟨none, .store 149 (Operand.tmp 9) (Operand.tmp 42), none, 0⟩])
 (.seq
 (.seq
 (.ops [⟨some 43, .move (Operand.tmp 4), none, 0⟩,
 ⟨some 44, .move (Operand.tmp 8), none, 0⟩,
 ⟨some 45, .binOp BinOp.lss 3 (Operand.tmp 43) (Operand.tmp 44) 3, none, 0⟩])
 (.cond (Operand.tmp 45)
 (.seq
 (.ops [⟨some 2, .assign (Operand.const (Value.int IntKind.i32 65533)), none, 0⟩,
 ⟨some 3, .assign (Operand.const (Value.int IntKind.i64 1)), none, 0⟩])
 .ret)
 .skip))
 (.seq
 (.ops [⟨some 46, .move (Operand.tmp 0), none, 0⟩,
 ⟨some 47, .index 9 (Operand.tmp 46) (Operand.const (Value.int IntKind.i64 1)), none, 0⟩,
 ⟨some 10, .assign (Operand.tmp 47), none, 0⟩])
 (.seq
 (.seq
 (.ops [⟨some 48, .move (Operand.tmp 10), none, 0⟩,
 ⟨some 49, .fieldAddr 149 (Operand.tmp 9) 0, none, 0⟩,
 ⟨some 50, .load 5 (Operand.tmp 49), none, 0⟩,
 ⟨some 51, .binOp BinOp.lss 5 (Operand.tmp 48) (Operand.tmp 50) 5, none, 0⟩,
 ⟨some 52, .move (Operand.tmp 51), none, 0⟩,
 ⟨some 53, .fieldAddr 149 (Operand.tmp 9) 1, some (52, false), 0⟩,
 ⟨some 54, .load 5 (Operand.tmp 53), some (52, false), 0⟩,
 ⟨some 55, .move (Operand.tmp 10), some (52, false), 0⟩,
 ⟨some 56, .binOp BinOp.lss 5 (Operand.tmp 54) (Operand.tmp 55) 5, some (52, false), 0⟩,
 ⟨some 57, .pick (Operand.tmp 52) (Operand.const (Value.bool true)) (Operand.tmp 56), none, 0⟩])
 (.cond (Operand.tmp 57)
 (.seq
 (.ops [⟨some 2, .assign (Operand.const (Value.int IntKind.i32 65533)), none, 0⟩,
 ⟨some 3, .assign (Operand.const (Value.int IntKind.i64 1)), none, 0⟩])
 .ret)
 .skip))
 (.seq
 (.seq
 (.ops [⟨some 58, .move (Operand.tmp 8), none, 0⟩,
 ⟨some 59, .binOp BinOp.leq 3 (Operand.tmp 58) (Operand.const (Value.int IntKind.i64 2)) 3, none, 0⟩])
 (.cond (Operand.tmp 59)
 (.seq
 (.ops [⟨some 60, .move (Operand.tmp 5), none, 0⟩,
 ⟨some 61, .binOp BinOp.and 5 (Operand.tmp 60) (Operand.const (Value.int IntKind.u8 31)) 5, none, 0⟩,
 ⟨some 62, .convert 5 21 (Operand.tmp 61), none, 0⟩,
 ⟨some 63, .binOp BinOp.shl 21 (Operand.tmp 62) (Operand.const (Value.int IntKind.u64 6)) 92, none, 0⟩,
 ⟨some 64, .move (Operand.tmp 10), none, 0⟩,
 ⟨some 65, .binOp BinOp.and 5 (Operand.tmp 64) (Operand.const (Value.int IntKind.u8 63)) 5, none, 0⟩,
 ⟨some 66, .convert 5 21 (Operand.tmp 65), none, 0⟩,
 ⟨some 67, .binOp BinOp.or 21 (Operand.tmp 63) (Operand.tmp 66) 21, none, 0⟩,
 ⟨some 2, .assign (Operand.tmp 67), none, 0⟩,
 ⟨some 3, .assign (Operand.const (Value.int IntKind.i64 2)), none, 0⟩])
 .ret)
 .skip))
 (.seq
 (.ops [⟨some 68, .move (Operand.tmp 0), none, 0⟩,
 ⟨some 69, .index 9 (Operand.tmp 68) (Operand.const (Value.int IntKind.i64 2)), none, 0⟩,
 ⟨some 11, .assign (Operand.tmp 69), none, 0⟩])
 (.seq
 (.seq
 (.ops [⟨some 70, .move (Operand.tmp 11), none, 0⟩,
 ⟨some 71, .binOp BinOp.lss 5 (Operand.tmp 70) (Operand.const (Value.int IntKind.u8 128)) 5, none, 0⟩,
 ⟨some 72, .move (Operand.tmp 71), none, 0⟩,
 ⟨some 73, .move (Operand.tmp 11), some (72, false), 0⟩,
 ⟨some 74, .binOp BinOp.lss 5 (Operand.const (Value.int IntKind.u8 191)) (Operand.tmp 73) 5, some (72, false), 0⟩,
 ⟨some 75, .pick (Operand.tmp 72) (Operand.const (Value.bool true)) (Operand.tmp 74), none, 0⟩])
 (.cond (Operand.tmp 75)
 (.seq
 (.ops [⟨some 2, .assign (Operand.const (Value.int IntKind.i32 65533)), none, 0⟩,
 ⟨some 3, .assign (Operand.const (Value.int IntKind.i64 1)), none, 0⟩])
 .ret)
 .skip))
 (.seq
 (.seq
 (.ops [⟨some 76, .move (Operand.tmp 8), none, 0⟩,
 ⟨some 77, .binOp BinOp.leq 3 (Operand.tmp 76) (Operand.const (Value.int IntKind.i64 3)) 3, none, 0⟩])
 (.cond (Operand.tmp 77)
 (.seq
 (.ops [⟨some 78, .move (Operand.tmp 5), none, 0⟩,
 ⟨some 79, .binOp BinOp.and 5 (Operand.tmp 78) (Operand.const (Value.int IntKind.u8 15)) 5, none, 0⟩,
 ⟨some 80, .convert 5 21 (Operand.tmp 79), none, 0⟩,
 ⟨some 81, .binOp BinOp.shl 21 (Operand.tmp 80) (Operand.const (Value.int IntKind.u64 12)) 92, none, 0⟩,
 ⟨some 82, .move (Operand.tmp 10), none, 0⟩,
 ⟨some 83, .binOp BinOp.and 5 (Operand.tmp 82) (Operand.const (Value.int IntKind.u8 63)) 5, none, 0⟩,
 ⟨some 84, .convert 5 21 (Operand.tmp 83), none, 0⟩,
 ⟨some 85, .binOp BinOp.shl 21 (Operand.tmp 84) (Operand.const (Value.int IntKind.u64 6)) 92, none, 0⟩,
 ⟨some 86, .binOp BinOp.or 21 (Operand.tmp 81) (Operand.tmp 85) 21, none, 0⟩,
 ⟨some 87, .move (Operand.tmp 11), none, 0⟩,
 ⟨some 88, .binOp BinOp.and 5 (Operand.tmp 87) (Operand.const (Value.int IntKind.u8 63)) 5, none, 0⟩,
 ⟨some 89, .convert 5 21 (Operand.tmp 88), none, 0⟩,
 ⟨some 90, .binOp BinOp.or 21 (Operand.tmp 86) (Operand.tmp 89) 21, none, 0⟩,
 ⟨some 2, .assign (Operand.tmp 90), none, 0⟩,
 ⟨some 3, .assign (Operand.const (Value.int IntKind.i64 3)), none, 0⟩])
 .ret)
 .skip))
 (.seq
 (.ops [⟨some 91, .move (Operand.tmp 0), none, 0⟩,
 ⟨some 92, .index 9 (Operand.tmp 91) (Operand.const (Value.int IntKind.i64 3)), none, 0⟩,
 ⟨some 12, .assign (Operand.tmp 92), none, 0⟩])
 (.seq
 (.seq
 (.ops [⟨some 93, .move (Operand.tmp 12), none, 0⟩,
 ⟨some 94, .binOp BinOp.lss 5 (Operand.tmp 93) (Operand.const (Value.int IntKind.u8 128)) 5, none, 0⟩,
 ⟨some 95, .move (Operand.tmp 94), none, 0⟩,
 ⟨some 96, .move (Operand.tmp 12), some (95, false), 0⟩,
 ⟨some 97, .binOp BinOp.lss 5 (Operand.const (Value.int IntKind.u8 191)) (Operand.tmp 96) 5, some (95, false), 0⟩,
 ⟨some 98, .pick (Operand.tmp 95) (Operand.const (Value.bool true)) (Operand.tmp 97), none, 0⟩])
 (.cond (Operand.tmp 98)
 (.seq
 (.ops [⟨some 2, .assign (Operand.const (Value.int IntKind.i32 65533)), none, 0⟩,
 ⟨some 3, .assign (Operand.const (Value.int IntKind.i64 1)), none, 0⟩])
 .ret)
 .skip))
 (.seq
 (.ops [⟨some 99, .move (Operand.tmp 5), none, 0⟩,
 ⟨some 100, .binOp BinOp.and 5 (Operand.tmp 99) (Operand.const (Value.int IntKind.u8 7)) 5, none, 0⟩,
 ⟨some 101, .convert 5 21 (Operand.tmp 100), none, 0⟩,
 ⟨some 102, .binOp BinOp.shl 21 (Operand.tmp 101) (Operand.const (Value.int IntKind.u64 18)) 92, none, 0⟩,
 ⟨some 103, .move (Operand.tmp 10), none, 0⟩,
 ⟨some 104, .binOp BinOp.and 5 (Operand.tmp 103) (Operand.const (Value.int IntKind.u8 63)) 5, none, 0⟩,
 ⟨some 105, .convert 5 21 (Operand.tmp 104), none, 0⟩,
 ⟨some 106, .binOp BinOp.shl 21 (Operand.tmp 105) (Operand.const (Value.int IntKind.u64 12)) 92, none, 0⟩,
 ⟨some 107, .binOp BinOp.or 21 (Operand.tmp 102) (Operand.tmp 106) 21, none, 0⟩,
 ⟨some 108, .move (Operand.tmp 11), none, 0⟩,
 ⟨some 109, .binOp BinOp.and 5 (Operand.tmp 108) (Operand.const (Value.int IntKind.u8 63)) 5, none, 0⟩,
 ⟨some 110, .convert 5 21 (Operand.tmp 109), none, 0⟩,
 ⟨some 111, .binOp BinOp.shl 21 (Operand.tmp 110) (Operand.const (Value.int IntKind.u64 6)) 92, none, 0⟩,
 ⟨some 112, .binOp BinOp.or 21 (Operand.tmp 107) (Operand.tmp 111) 21, none, 0⟩,
 ⟨some 113, .move (Operand.tmp 12), none, 0⟩,
 ⟨some 114, .binOp BinOp.and 5 (Operand.tmp 113) (Operand.const (Value.int IntKind.u8 63)) 5, none, 0⟩,
 ⟨some 115, .convert 5 21 (Operand.tmp 114), none, 0⟩,
 ⟨some 116, .binOp BinOp.or 21 (Operand.tmp 112) (Operand.tmp 115) 21, none, 0⟩,
 ⟨some 2, .assign (Operand.tmp 116), none, 0⟩,
 ⟨some 3, .assign (Operand.const (Value.int IntKind.i64 4)), none, 0⟩])
 .ret))))))))))))))))))
abbrev R123 : List ResultVar := [ResultVar.tmp 2, ResultVar.tmp 3]
theorem ok123 : FnOK Tryd.prog 123 L123 R123 1 := ⟨_, _, Tryd.func123, rfl, by kernel_rfl, by kernel_rfl, by kernel_rfl, by kernel_rfl, Nat.le_of_ble_eq_true (by kernel_rfl), by kernel_rfl⟩

/-- slices.order2CmpFunc[ablaut/api.Shift] -/
def L124 : LCode :=
 (.seq
 (.ops [⟨some 10, .assign (Operand.const (Value.int IntKind.i64 0)), none, 0⟩,
 ⟨some 11, .assign (Operand.const (Value.int IntKind.i64 0)), none, 0⟩])
 (.seq
 (.seq
 (.draw [⟨some 12, .move (Operand.tmp 4), none, 0⟩,
 ⟨some 13, .move (Operand.tmp 0), none, 0⟩,
 ⟨some 14, .move (Operand.tmp 2), none, 0⟩,
 ⟨some 15, .indexAddr 22 (Operand.tmp 13) (Operand.tmp 14), none, 0⟩,
 ⟨some 16, .load 46 (Operand.tmp 15), none, 0⟩,
 ⟨some 17, .move (Operand.tmp 0), none, 0⟩,
 ⟨some 18, .move (Operand.tmp 1), none, 0⟩,
 ⟨some 19, .indexAddr 22 (Operand.tmp 17) (Operand.tmp 18), none, 0⟩,
 ⟨some 20, .load 46 (Operand.tmp 19), none, 0⟩,
 ⟨some 21, .call ⟨(Callee.value (Operand.tmp 12)), [(Operand.tmp 16), (Operand.tmp 20)].toArray, #[46, 46]⟩, none, 0⟩,
 ⟨some 22, .binOp BinOp.lss 3 (Operand.tmp 21) (Operand.const (Value.int IntKind.i64 0)) 3, none, 0⟩] true [9, 10] [0, 1, 2, 3, 5, 6, 7, 4, 8, 9, 10])
 (.cond (Operand.tmp 22)
 (.seq
 (.ops [⟨some 23, .move (Operand.tmp 3), none, 0⟩,
 ⟨some 24, .nilCheck (Operand.tmp 23), none, 0⟩,
 ⟨some 25, .load 3 (Operand.tmp 24), none, 0⟩,
 ⟨some 26, .binOp BinOp.add 3 (Operand.tmp 25) (Operand.const (Value.int IntKind.i64 1)) 3, none, 0⟩,
 ⟨some 27, .nilCheck (Operand.tmp 23), none, 0⟩,
 ⟨none, .store 3 (Operand.tmp 27) (Operand.tmp 26), none, 0⟩])
 (.seq
 (.ops [⟨some 28, .move (Operand.tmp 2), none, 0⟩,
 ⟨some 29, .move (Operand.tmp 1), none, 0⟩,
 ⟨some 10, .assign (Operand.tmp 28), none, 0⟩,
 ⟨some 11, .assign (Operand.tmp 29), none, 0⟩])
 .ret))
 .skip))
 (.seq
 (.ops [⟨some 30, .move (Operand.tmp 1), none, 0⟩,
 ⟨some 31, .move (Operand.tmp 2), none, 0⟩,
 ⟨some 10, .assign (Operand.tmp 30), none, 0⟩,
 ⟨some 11, .assign (Operand.tmp 31), none, 0⟩])
 .ret)))
abbrev R124 : List ResultVar := [ResultVar.tmp 10, ResultVar.tmp 11]
theorem ok124 : FnOK Tryd.prog 124 L124 R124 5 := ⟨_, _, Tryd.func124, rfl, by kernel_rfl, by kernel_rfl, by kernel_rfl, by kernel_rfl, Nat.le_of_ble_eq_true (by kernel_rfl), by kernel_rfl⟩

/-- gosem.cut.vars -/
def L148 : LCode :=
 (.ops [⟨some 0, .build 149 [(0, (Operand.const (Value.int IntKind.u8 128))), (1, (Operand.const (Value.int IntKind.u8 191)))].toArray, none, 0⟩,
 ⟨some 1, .build 149 [(0, (Operand.const (Value.int IntKind.u8 160))), (1, (Operand.const (Value.int IntKind.u8 191)))].toArray, none, 0⟩,
 ⟨some 2, .build 149 [(0, (Operand.const (Value.int IntKind.u8 128))), (1, (Operand.const (Value.int IntKind.u8 159)))].toArray, none, 0⟩,
 ⟨some 3, .build 149 [(0, (Operand.const (Value.int IntKind.u8 144))), (1, (Operand.const (Value.int IntKind.u8 191)))].toArray, none, 0⟩,
 ⟨some 4, .build 149 [(0, (Operand.const (Value.int IntKind.u8 128))), (1, (Operand.const (Value.int IntKind.u8 143)))].toArray, none, 0⟩,
 ⟨some 5, .build 150 [(0, (Operand.tmp 0)), (1, (Operand.tmp 1)), (2, (Operand.tmp 2)), (3, (Operand.tmp 3)), (4, (Operand.tmp 4))].toArray, none, 0⟩,
 ⟨none, .store 150 (Operand.global 2) (Operand.tmp 5), none, 0⟩])
abbrev R148 : List ResultVar := []
theorem ok148 : FnOK Tryd.prog 148 L148 R148 0 := ⟨_, _, Tryd.func148, rfl, by kernel_rfl, by kernel_rfl, by kernel_rfl, by kernel_rfl, Nat.le_of_ble_eq_true (by kernel_rfl), by kernel_rfl⟩
end Go.Proofs.YtldlcejlfaogbaaDoor.Vs
