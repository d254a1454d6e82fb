/- The seat's functions as the engine Dm reads them, written by dgen.py. -/
import Derived.Test.YthchlpikcpidaaaDoorDmFn
import Derived.Test.YthchlpikcpidaaaDoorProg
import Derived.KernelRfl
namespace Go.Proofs.YthchlpikcpidaaaDoor.Vs
set_option linter.unusedVariables false
set_option maxRecDepth 100000
/-- slices.partitionCmpFunc[ablaut/api.Sample] -/
def L51 : LCode :=
 (.seq
 (.ops [⟨some 10, .assign (Operand.const (Value.int IntKind.i64 0)), none, 0⟩,
 ⟨some 11, .assign (Operand.const (Value.bool false)), none, 0⟩])
 (.seq
 (.draw [⟨some 14, .move (Operand.tmp 0), none, 0⟩,
 ⟨some 15, .move (Operand.tmp 1), none, 0⟩,
 ⟨some 16, .move (Operand.tmp 0), none, 0⟩,
 ⟨some 17, .move (Operand.tmp 3), none, 0⟩,
 ⟨some 18, .move (Operand.tmp 0), none, 0⟩,
 ⟨some 19, .move (Operand.tmp 3), none, 0⟩,
 ⟨some 20, .indexAddr 22 (Operand.tmp 18) (Operand.tmp 19), none, 0⟩,
 ⟨some 21, .load 25 (Operand.tmp 20), none, 0⟩,
 ⟨some 22, .move (Operand.tmp 0), none, 0⟩,
 ⟨some 23, .move (Operand.tmp 1), none, 0⟩,
 ⟨some 24, .indexAddr 22 (Operand.tmp 22) (Operand.tmp 23), none, 0⟩,
 ⟨some 25, .load 25 (Operand.tmp 24), none, 0⟩,
 ⟨some 26, .indexAddr 22 (Operand.tmp 14) (Operand.tmp 15), none, 0⟩,
 ⟨none, .store 25 (Operand.tmp 26) (Operand.tmp 21), none, 0⟩,
 ⟨some 27, .indexAddr 22 (Operand.tmp 16) (Operand.tmp 17), none, 0⟩,
 ⟨none, .store 25 (Operand.tmp 27) (Operand.tmp 25), none, 0⟩] true [14, 15] [0, 1, 2, 3, 4, 5, 6, 8, 9, 10, 7, 11, 12, 13, 14, 15])
 (.seq
 (.ops [⟨some 28, .move (Operand.tmp 1), none, 0⟩,
 ⟨some 29, .binOp BinOp.add 3 (Operand.tmp 28) (Operand.const (Value.int IntKind.i64 1)) 3, none, 0⟩,
 ⟨some 30, .move (Operand.tmp 2), none, 0⟩,
 ⟨some 31, .binOp BinOp.sub 3 (Operand.tmp 30) (Operand.const (Value.int IntKind.i64 1)) 3, none, 0⟩,
 ⟨some 12, .assign (Operand.tmp 29), none, 0⟩,
 ⟨some 13, .assign (Operand.tmp 31), none, 0⟩])
 (.seq
 (.block 0
 (.loop
 (.seq
 (.seq
 (.draw [⟨some 32, .move (Operand.tmp 12), none, 0⟩,
 ⟨some 33, .move (Operand.tmp 13), none, 0⟩,
 ⟨some 34, .binOp BinOp.leq 3 (Operand.tmp 32) (Operand.tmp 33) 3, none, 0⟩,
 ⟨some 35, .move (Operand.tmp 34), none, 0⟩,
 ⟨some 36, .move (Operand.tmp 4), some (35, true), 0⟩,
 ⟨some 37, .move (Operand.tmp 0), some (35, true), 0⟩,
 ⟨some 38, .move (Operand.tmp 12), some (35, true), 0⟩,
 ⟨some 39, .indexAddr 22 (Operand.tmp 37) (Operand.tmp 38), some (35, true), 0⟩,
 ⟨some 40, .load 25 (Operand.tmp 39), some (35, true), 0⟩,
 ⟨some 41, .move (Operand.tmp 0), some (35, true), 0⟩,
 ⟨some 42, .move (Operand.tmp 1), some (35, true), 0⟩,
 ⟨some 43, .indexAddr 22 (Operand.tmp 41) (Operand.tmp 42), some (35, true), 0⟩,
 ⟨some 44, .load 25 (Operand.tmp 43), some (35, true), 0⟩,
 ⟨some 45, .call ⟨(Callee.value (Operand.tmp 36)), [(Operand.tmp 40), (Operand.tmp 44)].toArray, #[25, 25]⟩, some (35, true), 0⟩,
 ⟨some 46, .binOp BinOp.lss 3 (Operand.tmp 45) (Operand.const (Value.int IntKind.i64 0)) 3, some (35, true), 0⟩,
 ⟨some 47, .pick (Operand.tmp 35) (Operand.tmp 46) (Operand.const (Value.bool false)), none, 0⟩] true [13, 14, 15] [0, 1, 2, 3, 4, 5, 6, 7, 9, 10, 11, 8, 12, 13, 14, 15])
 (.cond (Operand.tmp 47)
 .skip
 (.exit 0)))
 (.block 1
 (.ops [⟨some 48, .move (Operand.tmp 12), none, 0⟩,
 ⟨some 49, .binOp BinOp.add 3 (Operand.tmp 48) (Operand.const (Value.int IntKind.i64 1)) 3, none, 0⟩,
 ⟨some 12, .assign (Operand.tmp 49), none, 0⟩])))))
 (.seq
 (.block 2
 (.loop
 (.seq
 (.seq
 (.draw [⟨some 50, .move (Operand.tmp 12), none, 0⟩,
 ⟨some 51, .move (Operand.tmp 13), none, 0⟩,
 ⟨some 52, .binOp BinOp.leq 3 (Operand.tmp 50) (Operand.tmp 51) 3, none, 0⟩,
 ⟨some 53, .move (Operand.tmp 52), none, 0⟩,
 ⟨some 54, .move (Operand.tmp 4), some (53, true), 0⟩,
 ⟨some 55, .move (Operand.tmp 0), some (53, true), 0⟩,
 ⟨some 56, .move (Operand.tmp 13), some (53, true), 0⟩,
 ⟨some 57, .indexAddr 22 (Operand.tmp 55) (Operand.tmp 56), some (53, true), 0⟩,
 ⟨some 58, .load 25 (Operand.tmp 57), some (53, true), 0⟩,
 ⟨some 59, .move (Operand.tmp 0), some (53, true), 0⟩,
 ⟨some 60, .move (Operand.tmp 1), some (53, true), 0⟩,
 ⟨some 61, .indexAddr 22 (Operand.tmp 59) (Operand.tmp 60), some (53, true), 0⟩,
 ⟨some 62, .load 25 (Operand.tmp 61), some (53, true), 0⟩,
 ⟨some 63, .call ⟨(Callee.value (Operand.tmp 54)), [(Operand.tmp 58), (Operand.tmp 62)].toArray, #[25, 25]⟩, some (53, true), 0⟩,
 ⟨some 64, .binOp BinOp.lss 3 (Operand.tmp 63) (Operand.const (Value.int IntKind.i64 0)) 3, some (53, true), 0⟩,
 ⟨some 65, .unOp UnOp.not 4 (Operand.tmp 64), some (53, true), 0⟩,
 ⟨some 66, .pick (Operand.tmp 53) (Operand.tmp 65) (Operand.const (Value.bool false)), none, 0⟩] true [13, 14, 15, 16] [0, 1, 2, 3, 4, 5, 6, 7, 9, 10, 11, 8, 12, 13, 14, 15, 16])
 (.cond (Operand.tmp 66)
 .skip
 (.exit 2)))
 (.block 3
 (.ops [⟨some 67, .move (Operand.tmp 13), none, 0⟩,
 ⟨some 68, .binOp BinOp.sub 3 (Operand.tmp 67) (Operand.const (Value.int IntKind.i64 1)) 3, none, 0⟩,
 ⟨some 13, .assign (Operand.tmp 68), none, 0⟩])))))
 (.seq
 (.seq
 (.ops [⟨some 69, .move (Operand.tmp 12), none, 0⟩,
 ⟨some 70, .move (Operand.tmp 13), none, 0⟩,
 ⟨some 71, .binOp BinOp.gtr 3 (Operand.tmp 69) (Operand.tmp 70) 3, none, 0⟩])
 (.cond (Operand.tmp 71)
 (.seq
 (.draw [⟨some 72, .move (Operand.tmp 0), none, 0⟩,
 ⟨some 73, .move (Operand.tmp 13), none, 0⟩,
 ⟨some 74, .move (Operand.tmp 0), none, 0⟩,
 ⟨some 75, .move (Operand.tmp 1), none, 0⟩,
 ⟨some 76, .move (Operand.tmp 0), none, 0⟩,
 ⟨some 77, .move (Operand.tmp 1), none, 0⟩,
 ⟨some 78, .indexAddr 22 (Operand.tmp 76) (Operand.tmp 77), none, 0⟩,
 ⟨some 79, .load 25 (Operand.tmp 78), none, 0⟩,
 ⟨some 80, .move (Operand.tmp 0), none, 0⟩,
 ⟨some 81, .move (Operand.tmp 13), none, 0⟩,
 ⟨some 82, .indexAddr 22 (Operand.tmp 80) (Operand.tmp 81), none, 0⟩,
 ⟨some 83, .load 25 (Operand.tmp 82), none, 0⟩,
 ⟨some 84, .indexAddr 22 (Operand.tmp 72) (Operand.tmp 73), none, 0⟩,
 ⟨none, .store 25 (Operand.tmp 84) (Operand.tmp 79), none, 0⟩,
 ⟨some 85, .indexAddr 22 (Operand.tmp 74) (Operand.tmp 75), none, 0⟩,
 ⟨none, .store 25 (Operand.tmp 85) (Operand.tmp 83), none, 0⟩] true [14, 15] [0, 1, 2, 3, 4, 5, 6, 8, 9, 10, 7, 11, 12, 13, 14, 15])
 (.seq
 (.ops [⟨some 86, .move (Operand.tmp 13), none, 0⟩,
 ⟨some 10, .assign (Operand.tmp 86), none, 0⟩,
 ⟨some 11, .assign (Operand.const (Value.bool true)), none, 0⟩])
 .ret))
 .skip))
 (.seq
 (.draw [⟨some 87, .move (Operand.tmp 0), none, 0⟩,
 ⟨some 88, .move (Operand.tmp 12), none, 0⟩,
 ⟨some 89, .move (Operand.tmp 0), none, 0⟩,
 ⟨some 90, .move (Operand.tmp 13), none, 0⟩,
 ⟨some 91, .move (Operand.tmp 0), none, 0⟩,
 ⟨some 92, .move (Operand.tmp 13), none, 0⟩,
 ⟨some 93, .indexAddr 22 (Operand.tmp 91) (Operand.tmp 92), none, 0⟩,
 ⟨some 94, .load 25 (Operand.tmp 93), none, 0⟩,
 ⟨some 95, .move (Operand.tmp 0), none, 0⟩,
 ⟨some 96, .move (Operand.tmp 12), none, 0⟩,
 ⟨some 97, .indexAddr 22 (Operand.tmp 95) (Operand.tmp 96), none, 0⟩,
 ⟨some 98, .load 25 (Operand.tmp 97), none, 0⟩,
 ⟨some 99, .indexAddr 22 (Operand.tmp 87) (Operand.tmp 88), none, 0⟩,
 ⟨none, .store 25 (Operand.tmp 99) (Operand.tmp 94), none, 0⟩,
 ⟨some 100, .indexAddr 22 (Operand.tmp 89) (Operand.tmp 90), none, 0⟩,
 ⟨none, .store 25 (Operand.tmp 100) (Operand.tmp 98), none, 0⟩] true [14, 15] [0, 1, 2, 3, 4, 5, 6, 8, 9, 10, 7, 11, 12, 13, 14, 15])
 (.seq
 (.ops [⟨some 101, .move (Operand.tmp 12), none, 0⟩,
 ⟨some 102, .binOp BinOp.add 3 (Operand.tmp 101) (Operand.const (Value.int IntKind.i64 1)) 3, none, 0⟩,
 ⟨some 12, .assign (Operand.tmp 102), none, 0⟩])
 (.seq
 (.ops [⟨some 103, .move (Operand.tmp 13), none, 0⟩,
 ⟨some 104, .binOp BinOp.sub 3 (Operand.tmp 103) (Operand.const (Value.int IntKind.i64 1)) 3, none, 0⟩,
 ⟨some 13, .assign (Operand.tmp 104), none, 0⟩])
 (.seq
 (.block 4
 (.loop
 (.block 5
 (.seq
 (.block 6
 (.loop
 (.seq
 (.seq
 (.draw [⟨some 105, .move (Operand.tmp 12), none, 0⟩,
 ⟨some 106, .move (Operand.tmp 13), none, 0⟩,
 ⟨some 107, .binOp BinOp.leq 3 (Operand.tmp 105) (Operand.tmp 106) 3, none, 0⟩,
 ⟨some 108, .move (Operand.tmp 107), none, 0⟩,
 ⟨some 109, .move (Operand.tmp 4), some (108, true), 0⟩,
 ⟨some 110, .move (Operand.tmp 0), some (108, true), 0⟩,
 ⟨some 111, .move (Operand.tmp 12), some (108, true), 0⟩,
 ⟨some 112, .indexAddr 22 (Operand.tmp 110) (Operand.tmp 111), some (108, true), 0⟩,
 ⟨some 113, .load 25 (Operand.tmp 112), some (108, true), 0⟩,
 ⟨some 114, .move (Operand.tmp 0), some (108, true), 0⟩,
 ⟨some 115, .move (Operand.tmp 1), some (108, true), 0⟩,
 ⟨some 116, .indexAddr 22 (Operand.tmp 114) (Operand.tmp 115), some (108, true), 0⟩,
 ⟨some 117, .load 25 (Operand.tmp 116), some (108, true), 0⟩,
 ⟨some 118, .call ⟨(Callee.value (Operand.tmp 109)), [(Operand.tmp 113), (Operand.tmp 117)].toArray, #[25, 25]⟩, some (108, true), 0⟩,
 ⟨some 119, .binOp BinOp.lss 3 (Operand.tmp 118) (Operand.const (Value.int IntKind.i64 0)) 3, some (108, true), 0⟩,
 ⟨some 120, .pick (Operand.tmp 108) (Operand.tmp 119) (Operand.const (Value.bool false)), none, 0⟩] true [13, 14, 15] [0, 1, 2, 3, 4, 5, 6, 7, 9, 10, 11, 8, 12, 13, 14, 15])
 (.cond (Operand.tmp 120)
 .skip
 (.exit 6)))
 (.block 7
 (.ops [⟨some 121, .move (Operand.tmp 12), none, 0⟩,
 ⟨some 122, .binOp BinOp.add 3 (Operand.tmp 121) (Operand.const (Value.int IntKind.i64 1)) 3, none, 0⟩,
 ⟨some 12, .assign (Operand.tmp 122), none, 0⟩])))))
 (.seq
 (.block 8
 (.loop
 (.seq
 (.seq
 (.draw [⟨some 123, .move (Operand.tmp 12), none, 0⟩,
 ⟨some 124, .move (Operand.tmp 13), none, 0⟩,
 ⟨some 125, .binOp BinOp.leq 3 (Operand.tmp 123) (Operand.tmp 124) 3, none, 0⟩,
 ⟨some 126, .move (Operand.tmp 125), none, 0⟩,
 ⟨some 127, .move (Operand.tmp 4), some (126, true), 0⟩,
 ⟨some 128, .move (Operand.tmp 0), some (126, true), 0⟩,
 ⟨some 129, .move (Operand.tmp 13), some (126, true), 0⟩,
 ⟨some 130, .indexAddr 22 (Operand.tmp 128) (Operand.tmp 129), some (126, true), 0⟩,
 ⟨some 131, .load 25 (Operand.tmp 130), some (126, true), 0⟩,
 ⟨some 132, .move (Operand.tmp 0), some (126, true), 0⟩,
 ⟨some 133, .move (Operand.tmp 1), some (126, true), 0⟩,
 ⟨some 134, .indexAddr 22 (Operand.tmp 132) (Operand.tmp 133), some (126, true), 0⟩,
 ⟨some 135, .load 25 (Operand.tmp 134), some (126, true), 0⟩,
 ⟨some 136, .call ⟨(Callee.value (Operand.tmp 127)), [(Operand.tmp 131), (Operand.tmp 135)].toArray, #[25, 25]⟩, some (126, true), 0⟩,
 ⟨some 137, .binOp BinOp.lss 3 (Operand.tmp 136) (Operand.const (Value.int IntKind.i64 0)) 3, some (126, true), 0⟩,
 ⟨some 138, .unOp UnOp.not 4 (Operand.tmp 137), some (126, true), 0⟩,
 ⟨some 139, .pick (Operand.tmp 126) (Operand.tmp 138) (Operand.const (Value.bool false)), none, 0⟩] true [13, 14, 15, 16] [0, 1, 2, 3, 4, 5, 6, 7, 9, 10, 11, 8, 12, 13, 14, 15, 16])
 (.cond (Operand.tmp 139)
 .skip
 (.exit 8)))
 (.block 9
 (.ops [⟨some 140, .move (Operand.tmp 13), none, 0⟩,
 ⟨some 141, .binOp BinOp.sub 3 (Operand.tmp 140) (Operand.const (Value.int IntKind.i64 1)) 3, none, 0⟩,
 ⟨some 13, .assign (Operand.tmp 141), none, 0⟩])))))
 (.seq
 (.seq
 (.ops [⟨some 142, .move (Operand.tmp 12), none, 0⟩,
 ⟨some 143, .move (Operand.tmp 13), none, 0⟩,
 ⟨some 144, .binOp BinOp.gtr 3 (Operand.tmp 142) (Operand.tmp 143) 3, none, 0⟩])
 (.cond (Operand.tmp 144)
 (.exit 4)
 .skip))
 (.seq
 (.draw [⟨some 145, .move (Operand.tmp 0), none, 0⟩,
 ⟨some 146, .move (Operand.tmp 12), none, 0⟩,
 ⟨some 147, .move (Operand.tmp 0), none, 0⟩,
 ⟨some 148, .move (Operand.tmp 13), none, 0⟩,
 ⟨some 149, .move (Operand.tmp 0), none, 0⟩,
 ⟨some 150, .move (Operand.tmp 13), none, 0⟩,
 ⟨some 151, .indexAddr 22 (Operand.tmp 149) (Operand.tmp 150), none, 0⟩,
 ⟨some 152, .load 25 (Operand.tmp 151), none, 0⟩,
 ⟨some 153, .move (Operand.tmp 0), none, 0⟩,
 ⟨some 154, .move (Operand.tmp 12), none, 0⟩,
 ⟨some 155, .indexAddr 22 (Operand.tmp 153) (Operand.tmp 154), none, 0⟩,
 ⟨some 156, .load 25 (Operand.tmp 155), none, 0⟩,
 ⟨some 157, .indexAddr 22 (Operand.tmp 145) (Operand.tmp 146), none, 0⟩,
 ⟨none, .store 25 (Operand.tmp 157) (Operand.tmp 152), none, 0⟩,
 ⟨some 158, .indexAddr 22 (Operand.tmp 147) (Operand.tmp 148), none, 0⟩,
 ⟨none, .store 25 (Operand.tmp 158) (Operand.tmp 156), none, 0⟩] true [14, 15] [0, 1, 2, 3, 4, 5, 6, 8, 9, 10, 7, 11, 12, 13, 14, 15])
 (.seq
 (.ops [⟨some 159, .move (Operand.tmp 12), none, 0⟩,
 ⟨some 160, .binOp BinOp.add 3 (Operand.tmp 159) (Operand.const (Value.int IntKind.i64 1)) 3, none, 0⟩,
 ⟨some 12, .assign (Operand.tmp 160), none, 0⟩])
 (.ops [⟨some 161, .move (Operand.tmp 13), none, 0⟩,
 ⟨some 162, .binOp BinOp.sub 3 (Operand.tmp 161) (Operand.const (Value.int IntKind.i64 1)) 3, none, 0⟩,
 ⟨some 13, .assign (Operand.tmp 162), none, 0⟩])))))))))
 (.seq
 (.draw [⟨some 163, .move (Operand.tmp 0), none, 0⟩,
 ⟨some 164, .move (Operand.tmp 13), none, 0⟩,
 ⟨some 165, .move (Operand.tmp 0), none, 0⟩,
 ⟨some 166, .move (Operand.tmp 1), none, 0⟩,
 ⟨some 167, .move (Operand.tmp 0), none, 0⟩,
 ⟨some 168, .move (Operand.tmp 1), none, 0⟩,
 ⟨some 169, .indexAddr 22 (Operand.tmp 167) (Operand.tmp 168), none, 0⟩,
 ⟨some 170, .load 25 (Operand.tmp 169), none, 0⟩,
 ⟨some 171, .move (Operand.tmp 0), none, 0⟩,
 ⟨some 172, .move (Operand.tmp 13), none, 0⟩,
 ⟨some 173, .indexAddr 22 (Operand.tmp 171) (Operand.tmp 172), none, 0⟩,
 ⟨some 174, .load 25 (Operand.tmp 173), none, 0⟩,
 ⟨some 175, .indexAddr 22 (Operand.tmp 163) (Operand.tmp 164), none, 0⟩,
 ⟨none, .store 25 (Operand.tmp 175) (Operand.tmp 170), none, 0⟩,
 ⟨some 176, .indexAddr 22 (Operand.tmp 165) (Operand.tmp 166), none, 0⟩,
 ⟨none, .store 25 (Operand.tmp 176) (Operand.tmp 174), none, 0⟩] true [14, 15] [0, 1, 2, 3, 4, 5, 6, 8, 9, 10, 7, 11, 12, 13, 14, 15])
 (.seq
 (.ops [⟨some 177, .move (Operand.tmp 13), none, 0⟩,
 ⟨some 10, .assign (Operand.tmp 177), none, 0⟩,
 ⟨some 11, .assign (Operand.const (Value.bool false)), none, 0⟩])
 .ret))))))))))))
abbrev R51 : List ResultVar := [ResultVar.tmp 10, ResultVar.tmp 11]
theorem ok51 : FnOK Tryd.prog 51 L51 R51 5 := ⟨_, _, Tryd.func51, rfl, by kernel_rfl, by kernel_rfl, by kernel_rfl, by kernel_rfl, Nat.le_of_ble_eq_true (by kernel_rfl), by kernel_rfl⟩

/-- cmp.isNaN[int] -/
def L54 : LCode :=
 (.seq
 (.ops [⟨some 2, .assign (Operand.const (Value.bool false)), none, 0⟩])
 (.seq
 (.ops [⟨some 3, .move (Operand.tmp 0), none, 0⟩,
 ⟨some 4, .move (Operand.tmp 0), none, 0⟩,
 ⟨some 5, .binOp BinOp.neq 3 (Operand.tmp 3) (Operand.tmp 4) 3, none, 0⟩,
 ⟨some 2, .assign (Operand.tmp 5), none, 0⟩])
 .ret))
abbrev R54 : List ResultVar := [ResultVar.tmp 2]
theorem ok54 : FnOK Tryd.prog 54 L54 R54 1 := ⟨_, _, Tryd.func54, rfl, by kernel_rfl, by kernel_rfl, by kernel_rfl, by kernel_rfl, Nat.le_of_ble_eq_true (by kernel_rfl), by kernel_rfl⟩

/-- slices.IndexFunc[[]string,string] -/
def L55 : LCode :=
 (.seq
 (.ops [⟨some 4, .assign (Operand.const (Value.int IntKind.i64 0)), none, 0⟩])
 (.seq
 (.seq
 (.ops [⟨some 6, .move (Operand.tmp 0), none, 0⟩,
 ⟨some 7, .call ⟨(Callee.builtin Builtin.len), [(Operand.tmp 6)].toArray, #[23]⟩, none, 0⟩,
 ⟨some 8, .move (Operand.const (Value.int IntKind.i64 0)), none, 0⟩])
 (.block 0
 (.loop
 (.seq
 (.ops [⟨some 9, .binOp BinOp.lss 3 (Operand.tmp 8) (Operand.tmp 7) 3, none, 0⟩])
 (.seq
 (.cond (Operand.tmp 9)
 .skip
 (.exit 0))
 (.seq
 (.block 1
 (.seq
 (.ops [⟨some 10, .move (Operand.tmp 8), none, 0⟩,
 ⟨some 5, .assign (Operand.tmp 10), none, 0⟩])
 (.seq
 (.ops [⟨some 11, .move (Operand.tmp 1), none, 0⟩,
 ⟨some 12, .move (Operand.tmp 0), none, 0⟩,
 ⟨some 13, .move (Operand.tmp 5), none, 0⟩,
 ⟨some 14, .indexAddr 23 (Operand.tmp 12) (Operand.tmp 13), none, 0⟩,
 ⟨some 15, .load 9 (Operand.tmp 14), none, 0⟩,
 ⟨some 16, .call ⟨(Callee.value (Operand.tmp 11)), [(Operand.tmp 15)].toArray, #[9]⟩, none, 0⟩])
 (.cond (Operand.tmp 16)
 (.seq
 (.ops [⟨some 17, .move (Operand.tmp 5), none, 0⟩,
 ⟨some 4, .assign (Operand.tmp 17), none, 0⟩])
 .ret)
 .skip))))
 (.ops [⟨some 18, .binOp BinOp.add 3 (Operand.tmp 8) (Operand.const (Value.int IntKind.i64 1)) 3, none, 0⟩,
 ⟨some 8, .move (Operand.tmp 18), none, 0⟩])))))))
 (.seq
 (.ops [⟨some 4, .assign (Operand.const (Value.int IntKind.i64 (-1))), none, 0⟩])
 .ret)))
abbrev R55 : List ResultVar := [ResultVar.tmp 4]
theorem ok55 : FnOK Tryd.prog 55 L55 R55 2 := ⟨_, _, Tryd.func55, rfl, by kernel_rfl, by kernel_rfl, by kernel_rfl, by kernel_rfl, Nat.le_of_ble_eq_true (by kernel_rfl), by kernel_rfl⟩

/-- (*strings.Builder).copyCheck -/
def L56 : LCode :=
 (.seq
 (.ops [⟨some 2, .move (Operand.tmp 0), none, 0⟩,
 ⟨some 3, .nilCheck (Operand.tmp 2), none, 0⟩,
 ⟨some 4, .fieldAddr 73 (Operand.tmp 3) 0, none, 0⟩,
 ⟨some 5, .load 70 (Operand.tmp 4), none, 0⟩,
 ⟨some 6, .binOp BinOp.eql 70 (Operand.tmp 5) (Operand.const (Value.pointer none)) 70, none, 0⟩])
 (.cond (Operand.tmp 6)
 (.ops [⟨some 7, .move (Operand.tmp 0), none, 0⟩,
 ⟨some 8, .move (Operand.tmp 0), none, 0⟩,
 ⟨some 9, .convert 70 103 (Operand.tmp 8), none, 0⟩,
 ⟨some 10, .call ⟨(Callee.value (Operand.func 66)), [(Operand.tmp 9)].toArray, #[103]⟩, none, 0⟩,
 ⟨some 11, .convert 103 70 (Operand.tmp 10), none, 0⟩,
 ⟨some 12, .nilCheck (Operand.tmp 7), none, 0⟩,
 ⟨some 13, .fieldAddr 73 (Operand.tmp 12) 0, none, 0⟩,
 ⟨none, .store 70 (Operand.tmp 13) (Operand.tmp 11), none, 0⟩])
 (.seq
 (.ops [⟨some 14, .move (Operand.tmp 0), none, 0⟩,
 ⟨some 15, .nilCheck (Operand.tmp 14), none, 0⟩,
 ⟨some 16, .fieldAddr 73 (Operand.tmp 15) 0, none, 0⟩,
 ⟨some 17, .load 70 (Operand.tmp 16), none, 0⟩,
 ⟨some 18, .move (Operand.tmp 0), none, 0⟩,
 ⟨some 19, .binOp BinOp.neq 70 (Operand.tmp 17) (Operand.tmp 18) 70, none, 0⟩])
 (.cond (Operand.tmp 19)
 .bad
 .skip))))
abbrev R56 : List ResultVar := []
theorem ok56 : FnOK Tryd.prog 56 L56 R56 1 := ⟨_, _, Tryd.func56, rfl, by kernel_rfl, by kernel_rfl, by kernel_rfl, by kernel_rfl, Nat.le_of_ble_eq_true (by kernel_rfl), by kernel_rfl⟩

/-- (*strings.Builder).grow -/
def L57 : LCode :=
 (.seq
 (.draw [⟨some 5, .move (Operand.tmp 0), none, 0⟩,
 ⟨some 6, .nilCheck (Operand.tmp 5), none, 0⟩,
 ⟨some 7, .fieldAddr 73 (Operand.tmp 6) 1, none, 0⟩,
 ⟨some 8, .load 71 (Operand.tmp 7), none, 0⟩,
 ⟨some 9, .call ⟨(Callee.builtin Builtin.cap), [(Operand.tmp 8)].toArray, #[71]⟩, none, 0⟩,
 ⟨some 10, .binOp BinOp.mul 3 (Operand.const (Value.int IntKind.i64 2)) (Operand.tmp 9) 3, none, 0⟩,
 ⟨some 11, .move (Operand.tmp 1), none, 0⟩,
 ⟨some 12, .binOp BinOp.add 3 (Operand.tmp 10) (Operand.tmp 11) 3, none, 0⟩,
 ⟨some 13, .call ⟨(Callee.value (Operand.func 67)), [(Operand.tmp 12)].toArray, #[3]⟩, none, 0⟩,
 ⟨some 14, .move (Operand.tmp 0), none, 0⟩,
 ⟨some 15, .nilCheck (Operand.tmp 14), none, 0⟩,
 ⟨some 16, .fieldAddr 73 (Operand.tmp 15) 1, none, 0⟩,
 ⟨some 17, .load 71 (Operand.tmp 16), none, 0⟩,
 ⟨some 18, .call ⟨(Callee.builtin Builtin.len), [(Operand.tmp 17)].toArray, #[71]⟩, none, 0⟩,
 ⟨some 19, .slice 71 (Operand.tmp 13) none (some (Operand.tmp 18)) none, none, 0⟩,
 ⟨some 4, .assign (Operand.tmp 19), none, 0⟩] true [14, 15] [])
 (.seq
 (.ops [⟨some 20, .move (Operand.tmp 4), none, 0⟩,
 ⟨some 21, .move (Operand.tmp 0), none, 0⟩,
 ⟨some 22, .nilCheck (Operand.tmp 21), none, 0⟩,
 ⟨some 23, .fieldAddr 73 (Operand.tmp 22) 1, none, 0⟩,
 ⟨some 24, .load 71 (Operand.tmp 23), none, 0⟩,
 ⟨some 25, .call ⟨(Callee.builtin Builtin.copy), [(Operand.tmp 20), (Operand.tmp 24)].toArray, #[71, 71]⟩, none, 0⟩])
 (.ops [⟨some 26, .move (Operand.tmp 0), none, 0⟩,
 ⟨some 27, .move (Operand.tmp 4), none, 0⟩,
 ⟨some 28, .nilCheck (Operand.tmp 26), none, 0⟩,
 ⟨some 29, .fieldAddr 73 (Operand.tmp 28) 1, none, 0⟩,
 ⟨none, .store 71 (Operand.tmp 29) (Operand.tmp 27), none, 0⟩])))
abbrev R57 : List ResultVar := []
theorem ok57 : FnOK Tryd.prog 57 L57 R57 2 := ⟨_, _, Tryd.func57, rfl, by kernel_rfl, by kernel_rfl, by kernel_rfl, by kernel_rfl, Nat.le_of_ble_eq_true (by kernel_rfl), by kernel_rfl⟩

/-- strings.explode -/
def L58 : LCode :=
 (.seq
 (.ops [⟨some 4, .assign (Operand.const (Value.slice none 0 0)), none, 0⟩])
 (.seq
 (.ops [⟨some 10, .move (Operand.tmp 0), none, 0⟩,
 ⟨some 11, .call ⟨(Callee.value (Operand.func 68)), [(Operand.tmp 10)].toArray, #[9]⟩, none, 0⟩,
 ⟨some 5, .assign (Operand.tmp 11), none, 0⟩])
 (.seq
 (.seq
 (.ops [⟨some 12, .move (Operand.tmp 1), none, 0⟩,
 ⟨some 13, .binOp BinOp.lss 3 (Operand.tmp 12) (Operand.const (Value.int IntKind.i64 0)) 3, none, 0⟩,
 ⟨some 14, .move (Operand.tmp 13), none, 0⟩,
 ⟨some 15, .move (Operand.tmp 1), some (14, false), 0⟩,
 ⟨some 16, .move (Operand.tmp 5), some (14, false), 0⟩,
 ⟨some 17, .binOp BinOp.gtr 3 (Operand.tmp 15) (Operand.tmp 16) 3, some (14, false), 0⟩,
 ⟨some 18, .pick (Operand.tmp 14) (Operand.const (Value.bool true)) (Operand.tmp 17), none, 0⟩])
 (.cond (Operand.tmp 18)
 (.ops [⟨some 19, .move (Operand.tmp 5), none, 0⟩,
 ⟨some 1, .assign (Operand.tmp 19), none, 0⟩])
 .skip))
 (.seq
 (.ops [⟨some 20, .move (Operand.tmp 1), none, 0⟩,
 ⟨some 21, .makeSlice 23 (Operand.tmp 20) (Operand.tmp 20), none, 0⟩,
 ⟨some 6, .assign (Operand.tmp 21), none, 0⟩])
 (.seq
 (.seq
 (.ops [⟨some 7, .assign (Operand.const (Value.int IntKind.i64 0)), none, 0⟩])
 (.block 0
 (.loop
 (.seq
 (.seq
 (.ops [⟨some 22, .move (Operand.tmp 7), none, 0⟩,
 ⟨some 23, .move (Operand.tmp 1), none, 0⟩,
 ⟨some 24, .binOp BinOp.sub 3 (Operand.tmp 23) (Operand.const (Value.int IntKind.i64 1)) 3, none, 0⟩,
 ⟨some 25, .binOp BinOp.lss 3 (Operand.tmp 22) (Operand.tmp 24) 3, none, 0⟩])
 (.cond (Operand.tmp 25)
 .skip
 (.exit 0)))
 (.seq
 (.block 1
 (.seq
 (.ops [⟨some 29, .move (Operand.tmp 0), none, 0⟩,
 ⟨some 30, .call ⟨(Callee.value (Operand.func 69)), [(Operand.tmp 29)].toArray, #[9]⟩, none, 0⟩,
 ⟨some 28, .move (Operand.tmp 30), none, 0⟩,
 ⟨some 31, .extract (Operand.tmp 28) 0, none, 0⟩,
 ⟨some 32, .extract (Operand.tmp 28) 1, none, 0⟩,
 ⟨some 8, .assign (Operand.tmp 31), none, 0⟩,
 ⟨some 9, .assign (Operand.tmp 32), none, 0⟩])
 (.seq
 (.ops [⟨some 33, .move (Operand.tmp 6), none, 0⟩,
 ⟨some 34, .move (Operand.tmp 7), none, 0⟩,
 ⟨some 35, .move (Operand.tmp 0), none, 0⟩,
 ⟨some 36, .move (Operand.tmp 9), none, 0⟩,
 ⟨some 37, .slice 9 (Operand.tmp 35) none (some (Operand.tmp 36)) none, none, 0⟩,
 ⟨some 38, .indexAddr 23 (Operand.tmp 33) (Operand.tmp 34), none, 0⟩,
 ⟨none, .store 9 (Operand.tmp 38) (Operand.tmp 37), none, 0⟩])
 (.ops [⟨some 39, .move (Operand.tmp 0), none, 0⟩,
 ⟨some 40, .move (Operand.tmp 9), none, 0⟩,
 ⟨some 41, .slice 9 (Operand.tmp 39) (some (Operand.tmp 40)) none none, none, 0⟩,
 ⟨some 0, .assign (Operand.tmp 41), none, 0⟩]))))
 (.ops [⟨some 26, .move (Operand.tmp 7), none, 0⟩,
 ⟨some 27, .binOp BinOp.add 3 (Operand.tmp 26) (Operand.const (Value.int IntKind.i64 1)) 3, none, 0⟩,
 ⟨some 7, .assign (Operand.tmp 27), none, 0⟩]))))))
 (.seq
 (.seq
 (.ops [⟨some 42, .move (Operand.tmp 1), none, 0⟩,
 ⟨some 43, .binOp BinOp.gtr 3 (Operand.tmp 42) (Operand.const (Value.int IntKind.i64 0)) 3, none, 0⟩])
 (.cond (Operand.tmp 43)
 (.ops [⟨some 44, .move (Operand.tmp 6), none, 0⟩,
 ⟨some 45, .move (Operand.tmp 1), none, 0⟩,
 ⟨some 46, .binOp BinOp.sub 3 (Operand.tmp 45) (Operand.const (Value.int IntKind.i64 1)) 3, none, 0⟩,
 ⟨some 47, .move (Operand.tmp 0), none, 0⟩,
 ⟨some 48, .indexAddr 23 (Operand.tmp 44) (Operand.tmp 46), none, 0⟩,
 ⟨none, .store 9 (Operand.tmp 48) (Operand.tmp 47), none, 0⟩])
 .skip))
 (.seq
 (.ops [⟨some 49, .move (Operand.tmp 6), none, 0⟩,
 ⟨some 4, .assign (Operand.tmp 49), none, 0⟩])
 .ret)))))))
abbrev R58 : List ResultVar := [ResultVar.tmp 4]
theorem ok58 : FnOK Tryd.prog 58 L58 R58 2 := ⟨_, _, Tryd.func58, rfl, by kernel_rfl, by kernel_rfl, by kernel_rfl, by kernel_rfl, Nat.le_of_ble_eq_true (by kernel_rfl), by kernel_rfl⟩

/-- strings.Count -/
def L59 : LCode :=
 (.seq
 (.ops [⟨some 4, .assign (Operand.const (Value.int IntKind.i64 0)), none, 0⟩])
 (.seq
 (.seq
 (.ops [⟨some 7, .move (Operand.tmp 1), none, 0⟩,
 ⟨some 8, .call ⟨(Callee.builtin Builtin.len), [(Operand.tmp 7)].toArray, #[9]⟩, none, 0⟩,
 ⟨some 9, .binOp BinOp.eql 3 (Operand.tmp 8) (Operand.const (Value.int IntKind.i64 0)) 3, none, 0⟩])
 (.cond (Operand.tmp 9)
 (.seq
 (.ops [⟨some 10, .move (Operand.tmp 0), none, 0⟩,
 ⟨some 11, .call ⟨(Callee.value (Operand.func 68)), [(Operand.tmp 10)].toArray, #[9]⟩, none, 0⟩,
 ⟨some 12, .binOp BinOp.add 3 (Operand.tmp 11) (Operand.const (Value.int IntKind.i64 1)) 3, none, 0⟩,
 ⟨some 4, .assign (Operand.tmp 12), none, 0⟩])
 .ret)
 .skip))
 (.seq
 (.seq
 (.ops [⟨some 13, .move (Operand.tmp 1), none, 0⟩,
 ⟨some 14, .call ⟨(Callee.builtin Builtin.len), [(Operand.tmp 13)].toArray, #[9]⟩, none, 0⟩,
 ⟨some 15, .binOp BinOp.eql 3 (Operand.tmp 14) (Operand.const (Value.int IntKind.i64 1)) 3, none, 0⟩])
 (.cond (Operand.tmp 15)
 (.seq
 (.ops [⟨some 16, .move (Operand.tmp 0), none, 0⟩,
 ⟨some 17, .move (Operand.tmp 1), none, 0⟩,
 ⟨some 18, .index 9 (Operand.tmp 17) (Operand.const (Value.int IntKind.i64 0)), none, 0⟩,
 ⟨some 19, .call ⟨(Callee.value (Operand.func 70)), [(Operand.tmp 16), (Operand.tmp 18)].toArray, #[9, 5]⟩, none, 0⟩,
 ⟨some 4, .assign (Operand.tmp 19), none, 0⟩])
 .ret)
 .skip))
 (.seq
 (.ops [⟨some 5, .assign (Operand.const (Value.int IntKind.i64 0)), none, 0⟩])
 (.block 0
 (.loop
 (.block 1
 (.seq
 (.ops [⟨some 20, .move (Operand.tmp 0), none, 0⟩,
 ⟨some 21, .move (Operand.tmp 1), none, 0⟩,
 ⟨some 22, .call ⟨(Callee.value (Operand.func 60)), [(Operand.tmp 20), (Operand.tmp 21)].toArray, #[9, 9]⟩, none, 0⟩,
 ⟨some 6, .assign (Operand.tmp 22), none, 0⟩])
 (.seq
 (.seq
 (.ops [⟨some 23, .move (Operand.tmp 6), none, 0⟩,
 ⟨some 24, .binOp BinOp.eql 3 (Operand.tmp 23) (Operand.const (Value.int IntKind.i64 (-1))) 3, none, 0⟩])
 (.cond (Operand.tmp 24)
 (.seq
 (.ops [⟨some 25, .move (Operand.tmp 5), none, 0⟩,
 ⟨some 4, .assign (Operand.tmp 25), none, 0⟩])
 .ret)
 .skip))
 (.seq
 (.ops [⟨some 26, .move (Operand.tmp 5), none, 0⟩,
 ⟨some 27, .binOp BinOp.add 3 (Operand.tmp 26) (Operand.const (Value.int IntKind.i64 1)) 3, none, 0⟩,
 ⟨some 5, .assign (Operand.tmp 27), none, 0⟩])
 (.ops [⟨some 28, .move (Operand.tmp 0), none, 0⟩,
 ⟨some 29, .move (Operand.tmp 6), none, 0⟩,
 ⟨some 30, .move (Operand.tmp 1), none, 0⟩,
 ⟨some 31, .call ⟨(Callee.builtin Builtin.len), [(Operand.tmp 30)].toArray, #[9]⟩, none, 0⟩,
 ⟨some 32, .binOp BinOp.add 3 (Operand.tmp 29) (Operand.tmp 31) 3, none, 0⟩,
 ⟨some 33, .slice 9 (Operand.tmp 28) (some (Operand.tmp 32)) none none, none, 0⟩,
 ⟨some 0, .assign (Operand.tmp 33), none, 0⟩])))))))))))
abbrev R59 : List ResultVar := [ResultVar.tmp 4]
theorem ok59 : FnOK Tryd.prog 59 L59 R59 2 := ⟨_, _, Tryd.func59, rfl, by kernel_rfl, by kernel_rfl, by kernel_rfl, by kernel_rfl, Nat.le_of_ble_eq_true (by kernel_rfl), by kernel_rfl⟩

/-- strings.Index -/
def L60 : LCode :=
 (.seq
 (.ops [⟨some 4, .assign (Operand.const (Value.int IntKind.i64 0)), none, 0⟩])
 (.seq
 (.ops [⟨some 5, .move (Operand.tmp 0), none, 0⟩,
 ⟨some 6, .move (Operand.tmp 1), none, 0⟩,
 ⟨some 7, .call ⟨(Callee.value (Operand.func 71)), [(Operand.tmp 5), (Operand.tmp 6)].toArray, #[9, 9]⟩, none, 0⟩,
 ⟨some 4, .assign (Operand.tmp 7), none, 0⟩])
 .ret))
abbrev R60 : List ResultVar := [ResultVar.tmp 4]
theorem ok60 : FnOK Tryd.prog 60 L60 R60 2 := ⟨_, _, Tryd.func60, rfl, by kernel_rfl, by kernel_rfl, by kernel_rfl, by kernel_rfl, Nat.le_of_ble_eq_true (by kernel_rfl), by kernel_rfl⟩

/-- slices.siftDownCmpFunc[ablaut/api.Sample] -/
def L61 : LCode :=
 (.seq
 (.ops [⟨some 12, .move (Operand.tmp 1), none, 0⟩,
 ⟨some 10, .assign (Operand.tmp 12), none, 0⟩])
 (.block 0
 (.loop
 (.block 1
 (.seq
 (.ops [⟨some 13, .move (Operand.tmp 10), none, 0⟩,
 ⟨some 14, .binOp BinOp.mul 3 (Operand.const (Value.int IntKind.i64 2)) (Operand.tmp 13) 3, none, 0⟩,
 ⟨some 15, .binOp BinOp.add 3 (Operand.tmp 14) (Operand.const (Value.int IntKind.i64 1)) 3, none, 0⟩,
 ⟨some 11, .assign (Operand.tmp 15), none, 0⟩])
 (.seq
 (.seq
 (.ops [⟨some 16, .move (Operand.tmp 11), none, 0⟩,
 ⟨some 17, .move (Operand.tmp 2), none, 0⟩,
 ⟨some 18, .binOp BinOp.geq 3 (Operand.tmp 16) (Operand.tmp 17) 3, none, 0⟩])
 (.cond (Operand.tmp 18)
 (.exit 0)
 .skip))
 (.seq
 (.seq
 (.draw [⟨some 19, .move (Operand.tmp 11), none, 0⟩,
 ⟨some 20, .binOp BinOp.add 3 (Operand.tmp 19) (Operand.const (Value.int IntKind.i64 1)) 3, none, 0⟩,
 ⟨some 21, .move (Operand.tmp 2), none, 0⟩,
 ⟨some 22, .binOp BinOp.lss 3 (Operand.tmp 20) (Operand.tmp 21) 3, none, 0⟩,
 ⟨some 23, .move (Operand.tmp 22), none, 0⟩,
 ⟨some 24, .move (Operand.tmp 4), some (23, true), 0⟩,
 ⟨some 25, .move (Operand.tmp 0), some (23, true), 0⟩,
 ⟨some 26, .move (Operand.tmp 3), some (23, true), 0⟩,
 ⟨some 27, .move (Operand.tmp 11), some (23, true), 0⟩,
 ⟨some 28, .binOp BinOp.add 3 (Operand.tmp 26) (Operand.tmp 27) 3, some (23, true), 0⟩,
 ⟨some 29, .indexAddr 22 (Operand.tmp 25) (Operand.tmp 28), some (23, true), 0⟩,
 ⟨some 30, .load 25 (Operand.tmp 29), some (23, true), 0⟩,
 ⟨some 31, .move (Operand.tmp 0), some (23, true), 0⟩,
 ⟨some 32, .move (Operand.tmp 3), some (23, true), 0⟩,
 ⟨some 33, .move (Operand.tmp 11), some (23, true), 0⟩,
 ⟨some 34, .binOp BinOp.add 3 (Operand.tmp 32) (Operand.tmp 33) 3, some (23, true), 0⟩,
 ⟨some 35, .binOp BinOp.add 3 (Operand.tmp 34) (Operand.const (Value.int IntKind.i64 1)) 3, some (23, true), 0⟩,
 ⟨some 36, .indexAddr 22 (Operand.tmp 31) (Operand.tmp 35), some (23, true), 0⟩,
 ⟨some 37, .load 25 (Operand.tmp 36), some (23, true), 0⟩,
 ⟨some 38, .call ⟨(Callee.value (Operand.tmp 24)), [(Operand.tmp 30), (Operand.tmp 37)].toArray, #[25, 25]⟩, some (23, true), 0⟩,
 ⟨some 39, .binOp BinOp.lss 3 (Operand.tmp 38) (Operand.const (Value.int IntKind.i64 0)) 3, some (23, true), 0⟩,
 ⟨some 40, .pick (Operand.tmp 23) (Operand.tmp 39) (Operand.const (Value.bool false)), none, 0⟩] true [19, 20, 21] [0, 1, 2, 3, 4, 5, 6, 7, 8, 9, 10, 12, 13, 14, 15, 16, 17, 11, 18, 19, 20, 21])
 (.cond (Operand.tmp 40)
 (.ops [⟨some 41, .move (Operand.tmp 11), none, 0⟩,
 ⟨some 42, .binOp BinOp.add 3 (Operand.tmp 41) (Operand.const (Value.int IntKind.i64 1)) 3, none, 0⟩,
 ⟨some 11, .assign (Operand.tmp 42), none, 0⟩])
 .skip))
 (.seq
 (.seq
 (.draw [⟨some 43, .move (Operand.tmp 4), none, 0⟩,
 ⟨some 44, .move (Operand.tmp 0), none, 0⟩,
 ⟨some 45, .move (Operand.tmp 3), none, 0⟩,
 ⟨some 46, .move (Operand.tmp 10), none, 0⟩,
 ⟨some 47, .binOp BinOp.add 3 (Operand.tmp 45) (Operand.tmp 46) 3, none, 0⟩,
 ⟨some 48, .indexAddr 22 (Operand.tmp 44) (Operand.tmp 47), none, 0⟩,
 ⟨some 49, .load 25 (Operand.tmp 48), none, 0⟩,
 ⟨some 50, .move (Operand.tmp 0), none, 0⟩,
 ⟨some 51, .move (Operand.tmp 3), none, 0⟩,
 ⟨some 52, .move (Operand.tmp 11), none, 0⟩,
 ⟨some 53, .binOp BinOp.add 3 (Operand.tmp 51) (Operand.tmp 52) 3, none, 0⟩,
 ⟨some 54, .indexAddr 22 (Operand.tmp 50) (Operand.tmp 53), none, 0⟩,
 ⟨some 55, .load 25 (Operand.tmp 54), none, 0⟩,
 ⟨some 56, .call ⟨(Callee.value (Operand.tmp 43)), [(Operand.tmp 49), (Operand.tmp 55)].toArray, #[25, 25]⟩, none, 0⟩,
 ⟨some 57, .binOp BinOp.lss 3 (Operand.tmp 56) (Operand.const (Value.int IntKind.i64 0)) 3, none, 0⟩,
 ⟨some 58, .unOp UnOp.not 4 (Operand.tmp 57), none, 0⟩] true [13, 14, 15] [0, 1, 2, 3, 4, 5, 7, 8, 9, 10, 11, 6, 12, 13, 14, 15])
 (.cond (Operand.tmp 58)
 .ret
 .skip))
 (.seq
 (.draw [⟨some 59, .move (Operand.tmp 0), none, 0⟩,
 ⟨some 60, .move (Operand.tmp 3), none, 0⟩,
 ⟨some 61, .move (Operand.tmp 10), none, 0⟩,
 ⟨some 62, .binOp BinOp.add 3 (Operand.tmp 60) (Operand.tmp 61) 3, none, 0⟩,
 ⟨some 63, .move (Operand.tmp 0), none, 0⟩,
 ⟨some 64, .move (Operand.tmp 3), none, 0⟩,
 ⟨some 65, .move (Operand.tmp 11), none, 0⟩,
 ⟨some 66, .binOp BinOp.add 3 (Operand.tmp 64) (Operand.tmp 65) 3, none, 0⟩,
 ⟨some 67, .move (Operand.tmp 0), none, 0⟩,
 ⟨some 68, .move (Operand.tmp 3), none, 0⟩,
 ⟨some 69, .move (Operand.tmp 11), none, 0⟩,
 ⟨some 70, .binOp BinOp.add 3 (Operand.tmp 68) (Operand.tmp 69) 3, none, 0⟩,
 ⟨some 71, .indexAddr 22 (Operand.tmp 67) (Operand.tmp 70), none, 0⟩,
 ⟨some 72, .load 25 (Operand.tmp 71), none, 0⟩,
 ⟨some 73, .move (Operand.tmp 0), none, 0⟩,
 ⟨some 74, .move (Operand.tmp 3), none, 0⟩,
 ⟨some 75, .move (Operand.tmp 10), none, 0⟩,
 ⟨some 76, .binOp BinOp.add 3 (Operand.tmp 74) (Operand.tmp 75) 3, none, 0⟩,
 ⟨some 77, .indexAddr 22 (Operand.tmp 73) (Operand.tmp 76), none, 0⟩,
 ⟨some 78, .load 25 (Operand.tmp 77), none, 0⟩,
 ⟨some 79, .indexAddr 22 (Operand.tmp 59) (Operand.tmp 62), none, 0⟩,
 ⟨none, .store 25 (Operand.tmp 79) (Operand.tmp 72), none, 0⟩,
 ⟨some 80, .indexAddr 22 (Operand.tmp 63) (Operand.tmp 66), none, 0⟩,
 ⟨none, .store 25 (Operand.tmp 80) (Operand.tmp 78), none, 0⟩] true [22, 23] [0, 1, 2, 3, 4, 5, 6, 7, 8, 9, 10, 11, 12, 14, 15, 16, 17, 18, 13, 19, 20, 21, 22, 23])
 (.ops [⟨some 81, .move (Operand.tmp 11), none, 0⟩,
 ⟨some 10, .assign (Operand.tmp 81), none, 0⟩]))))))))))
abbrev R61 : List ResultVar := []
theorem ok61 : FnOK Tryd.prog 61 L61 R61 5 := ⟨_, _, Tryd.func61, rfl, by kernel_rfl, by kernel_rfl, by kernel_rfl, by kernel_rfl, Nat.le_of_ble_eq_true (by kernel_rfl), by kernel_rfl⟩

/-- slices.nextPowerOfTwo -/
def L62 : LCode :=
 (.seq
 (.ops [⟨some 2, .assign (Operand.const (Value.int IntKind.u64 0)), none, 0⟩])
 (.seq
 (.ops [⟨some 3, .move (Operand.tmp 0), none, 0⟩,
 ⟨some 4, .convert 3 67 (Operand.tmp 3), none, 0⟩,
 ⟨some 5, .call ⟨(Callee.value (Operand.func 32)), [(Operand.tmp 4)].toArray, #[67]⟩, none, 0⟩,
 ⟨some 6, .binOp BinOp.shl 67 (Operand.const (Value.int IntKind.u64 1)) (Operand.tmp 5) 3, none, 0⟩,
 ⟨some 2, .assign (Operand.tmp 6), none, 0⟩])
 .ret))
abbrev R62 : List ResultVar := [ResultVar.tmp 2]
theorem ok62 : FnOK Tryd.prog 62 L62 R62 1 := ⟨_, _, Tryd.func62, rfl, by kernel_rfl, by kernel_rfl, by kernel_rfl, by kernel_rfl, Nat.le_of_ble_eq_true (by kernel_rfl), by kernel_rfl⟩

/-- (*slices.xorshift).Next -/
def L63 : LCode :=
 (.seq
 (.ops [⟨some 2, .assign (Operand.const (Value.int IntKind.u64 0)), none, 0⟩])
 (.seq
 (.draw [⟨some 3, .move (Operand.tmp 0), none, 0⟩,
 ⟨some 4, .nilCheck (Operand.tmp 3), none, 0⟩,
 ⟨some 5, .load 97 (Operand.tmp 4), none, 0⟩,
 ⟨some 6, .move (Operand.tmp 0), none, 0⟩,
 ⟨some 7, .nilCheck (Operand.tmp 6), none, 0⟩,
 ⟨some 8, .load 97 (Operand.tmp 7), none, 0⟩,
 ⟨some 9, .binOp BinOp.shl 97 (Operand.tmp 8) (Operand.const (Value.int IntKind.u64 13)) 67, none, 0⟩,
 ⟨some 10, .binOp BinOp.xor 97 (Operand.tmp 5) (Operand.tmp 9) 97, none, 0⟩,
 ⟨some 11, .nilCheck (Operand.tmp 3), none, 0⟩,
 ⟨none, .store 97 (Operand.tmp 11) (Operand.tmp 10), none, 0⟩] true [7, 8, 9] [0, 1, 3, 4, 2, 5, 6, 7, 8, 9])
 (.seq
 (.draw [⟨some 12, .move (Operand.tmp 0), none, 0⟩,
 ⟨some 13, .nilCheck (Operand.tmp 12), none, 0⟩,
 ⟨some 14, .load 97 (Operand.tmp 13), none, 0⟩,
 ⟨some 15, .move (Operand.tmp 0), none, 0⟩,
 ⟨some 16, .nilCheck (Operand.tmp 15), none, 0⟩,
 ⟨some 17, .load 97 (Operand.tmp 16), none, 0⟩,
 ⟨some 18, .binOp BinOp.shr 97 (Operand.tmp 17) (Operand.const (Value.int IntKind.u64 7)) 67, none, 0⟩,
 ⟨some 19, .binOp BinOp.xor 97 (Operand.tmp 14) (Operand.tmp 18) 97, none, 0⟩,
 ⟨some 20, .nilCheck (Operand.tmp 12), none, 0⟩,
 ⟨none, .store 97 (Operand.tmp 20) (Operand.tmp 19), none, 0⟩] true [7, 8, 9] [0, 1, 3, 4, 2, 5, 6, 7, 8, 9])
 (.seq
 (.draw [⟨some 21, .move (Operand.tmp 0), none, 0⟩,
 ⟨some 22, .nilCheck (Operand.tmp 21), none, 0⟩,
 ⟨some 23, .load 97 (Operand.tmp 22), none, 0⟩,
 ⟨some 24, .move (Operand.tmp 0), none, 0⟩,
 ⟨some 25, .nilCheck (Operand.tmp 24), none, 0⟩,
 ⟨some 26, .load 97 (Operand.tmp 25), none, 0⟩,
 ⟨some 27, .binOp BinOp.shl 97 (Operand.tmp 26) (Operand.const (Value.int IntKind.u64 17)) 67, none, 0⟩,
 ⟨some 28, .binOp BinOp.xor 97 (Operand.tmp 23) (Operand.tmp 27) 97, none, 0⟩,
 ⟨some 29, .nilCheck (Operand.tmp 21), none, 0⟩,
 ⟨none, .store 97 (Operand.tmp 29) (Operand.tmp 28), none, 0⟩] true [7, 8, 9] [0, 1, 3, 4, 2, 5, 6, 7, 8, 9])
 (.seq
 (.ops [⟨some 30, .move (Operand.tmp 0), none, 0⟩,
 ⟨some 31, .nilCheck (Operand.tmp 30), none, 0⟩,
 ⟨some 32, .load 97 (Operand.tmp 31), none, 0⟩,
 ⟨some 2, .assign (Operand.tmp 32), none, 0⟩])
 .ret)))))
abbrev R63 : List ResultVar := [ResultVar.tmp 2]
theorem ok63 : FnOK Tryd.prog 63 L63 R63 1 := ⟨_, _, Tryd.func63, rfl, by kernel_rfl, by kernel_rfl, by kernel_rfl, by kernel_rfl, Nat.le_of_ble_eq_true (by kernel_rfl), by kernel_rfl⟩

/-- slices.medianAdjacentCmpFunc[ablaut/api.Sample] -/
def L64 : LCode :=
 (.seq
 (.ops [⟨some 8, .assign (Operand.const (Value.int IntKind.i64 0)), none, 0⟩])
 (.seq
 (.ops [⟨some 9, .move (Operand.tmp 0), none, 0⟩,
 ⟨some 10, .move (Operand.tmp 1), none, 0⟩,
 ⟨some 11, .binOp BinOp.sub 3 (Operand.tmp 10) (Operand.const (Value.int IntKind.i64 1)) 3, none, 0⟩,
 ⟨some 12, .move (Operand.tmp 1), none, 0⟩,
 ⟨some 13, .move (Operand.tmp 1), none, 0⟩,
 ⟨some 14, .binOp BinOp.add 3 (Operand.tmp 13) (Operand.const (Value.int IntKind.i64 1)) 3, none, 0⟩,
 ⟨some 15, .move (Operand.tmp 2), none, 0⟩,
 ⟨some 16, .move (Operand.tmp 3), none, 0⟩,
 ⟨some 17, .call ⟨(Callee.value (Operand.func 65)), [(Operand.tmp 9), (Operand.tmp 11), (Operand.tmp 12), (Operand.tmp 14), (Operand.tmp 15), (Operand.tmp 16)].toArray, #[22, 3, 3, 3, 101, 54]⟩, none, 0⟩,
 ⟨some 8, .assign (Operand.tmp 17), none, 0⟩])
 .ret))
abbrev R64 : List ResultVar := [ResultVar.tmp 8]
theorem ok64 : FnOK Tryd.prog 64 L64 R64 4 := ⟨_, _, Tryd.func64, rfl, by kernel_rfl, by kernel_rfl, by kernel_rfl, by kernel_rfl, Nat.le_of_ble_eq_true (by kernel_rfl), by kernel_rfl⟩

/-- slices.medianCmpFunc[ablaut/api.Sample] -/
def L65 : LCode :=
 (.seq
 (.ops [⟨some 12, .assign (Operand.const (Value.int IntKind.i64 0)), none, 0⟩])
 (.seq
 (.ops [⟨some 14, .move (Operand.tmp 0), none, 0⟩,
 ⟨some 15, .move (Operand.tmp 1), none, 0⟩,
 ⟨some 16, .move (Operand.tmp 2), none, 0⟩,
 ⟨some 17, .move (Operand.tmp 4), none, 0⟩,
 ⟨some 18, .move (Operand.tmp 5), none, 0⟩,
 ⟨some 19, .call ⟨(Callee.value (Operand.func 72)), [(Operand.tmp 14), (Operand.tmp 15), (Operand.tmp 16), (Operand.tmp 17), (Operand.tmp 18)].toArray, #[22, 3, 3, 101, 54]⟩, none, 0⟩,
 ⟨some 13, .move (Operand.tmp 19), none, 0⟩,
 ⟨some 20, .extract (Operand.tmp 13) 0, none, 0⟩,
 ⟨some 21, .extract (Operand.tmp 13) 1, none, 0⟩,
 ⟨some 1, .assign (Operand.tmp 20), none, 0⟩,
 ⟨some 2, .assign (Operand.tmp 21), none, 0⟩])
 (.seq
 (.ops [⟨some 23, .move (Operand.tmp 0), none, 0⟩,
 ⟨some 24, .move (Operand.tmp 2), none, 0⟩,
 ⟨some 25, .move (Operand.tmp 3), none, 0⟩,
 ⟨some 26, .move (Operand.tmp 4), none, 0⟩,
 ⟨some 27, .move (Operand.tmp 5), none, 0⟩,
 ⟨some 28, .call ⟨(Callee.value (Operand.func 72)), [(Operand.tmp 23), (Operand.tmp 24), (Operand.tmp 25), (Operand.tmp 26), (Operand.tmp 27)].toArray, #[22, 3, 3, 101, 54]⟩, none, 0⟩,
 ⟨some 22, .move (Operand.tmp 28), none, 0⟩,
 ⟨some 29, .extract (Operand.tmp 22) 0, none, 0⟩,
 ⟨some 30, .extract (Operand.tmp 22) 1, none, 0⟩,
 ⟨some 2, .assign (Operand.tmp 29), none, 0⟩,
 ⟨some 3, .assign (Operand.tmp 30), none, 0⟩])
 (.seq
 (.ops [⟨some 32, .move (Operand.tmp 0), none, 0⟩,
 ⟨some 33, .move (Operand.tmp 1), none, 0⟩,
 ⟨some 34, .move (Operand.tmp 2), none, 0⟩,
 ⟨some 35, .move (Operand.tmp 4), none, 0⟩,
 ⟨some 36, .move (Operand.tmp 5), none, 0⟩,
 ⟨some 37, .call ⟨(Callee.value (Operand.func 72)), [(Operand.tmp 32), (Operand.tmp 33), (Operand.tmp 34), (Operand.tmp 35), (Operand.tmp 36)].toArray, #[22, 3, 3, 101, 54]⟩, none, 0⟩,
 ⟨some 31, .move (Operand.tmp 37), none, 0⟩,
 ⟨some 38, .extract (Operand.tmp 31) 0, none, 0⟩,
 ⟨some 39, .extract (Operand.tmp 31) 1, none, 0⟩,
 ⟨some 1, .assign (Operand.tmp 38), none, 0⟩,
 ⟨some 2, .assign (Operand.tmp 39), none, 0⟩])
 (.seq
 (.ops [⟨some 40, .move (Operand.tmp 2), none, 0⟩,
 ⟨some 12, .assign (Operand.tmp 40), none, 0⟩])
 .ret)))))
abbrev R65 : List ResultVar := [ResultVar.tmp 12]
theorem ok65 : FnOK Tryd.prog 65 L65 R65 6 := ⟨_, _, Tryd.func65, rfl, by kernel_rfl, by kernel_rfl, by kernel_rfl, by kernel_rfl, Nat.le_of_ble_eq_true (by kernel_rfl), by kernel_rfl⟩

/-- unicode/utf8.RuneCountInString -/
def L68 : LCode :=
 (.seq
 (.ops [⟨some 2, .assign (Operand.const (Value.int IntKind.i64 0)), none, 0⟩])
 (.seq
 (.seq
 (.ops [⟨some 3, .move (Operand.tmp 0), none, 0⟩,
 ⟨some 4, .range 9 (Operand.tmp 3), none, 0⟩])
 (.block 0
 (.loop
 (.seq
 (.ops [⟨some 5, .next (Operand.tmp 4) true, none, 0⟩,
 ⟨some 6, .extract (Operand.tmp 5) 0, none, 0⟩])
 (.seq
 (.cond (Operand.tmp 6)
 .skip
 (.exit 0))
 (.block 1
 (.ops [⟨some 7, .move (Operand.tmp 2), none, 0⟩,
 ⟨some 8, .binOp BinOp.add 3 (Operand.tmp 7) (Operand.const (Value.int IntKind.i64 1)) 3, none, 0⟩,
 ⟨some 2, .assign (Operand.tmp 8), none, 0⟩])))))))
 (.seq
 (.ops [⟨some 9, .move (Operand.tmp 2), none, 0⟩,
 ⟨some 2, .assign (Operand.tmp 9), none, 0⟩])
 .ret)))
abbrev R68 : List ResultVar := [ResultVar.tmp 2]
theorem ok68 : FnOK Tryd.prog 68 L68 R68 1 := ⟨_, _, Tryd.func68, rfl, by kernel_rfl, by kernel_rfl, by kernel_rfl, by kernel_rfl, Nat.le_of_ble_eq_true (by kernel_rfl), by kernel_rfl⟩

/-- unicode/utf8.DecodeRuneInString -/
def L69 : LCode :=
 (.seq
 (.ops [⟨some 2, .assign (Operand.const (Value.int IntKind.i32 0)), none, 0⟩,
 ⟨some 3, .assign (Operand.const (Value.int IntKind.i64 0)), none, 0⟩])
 (.seq
 (.seq
 (.ops [⟨some 4, .move (Operand.tmp 0), none, 0⟩,
 ⟨some 5, .binOp BinOp.neq 9 (Operand.tmp 4) (Operand.const (Value.string ⟨#[]⟩)) 9, none, 0⟩,
 ⟨some 6, .move (Operand.tmp 5), none, 0⟩,
 ⟨some 7, .move (Operand.tmp 0), some (6, true), 0⟩,
 ⟨some 8, .index 9 (Operand.tmp 7) (Operand.const (Value.int IntKind.i64 0)), some (6, true), 0⟩,
 ⟨some 9, .binOp BinOp.lss 5 (Operand.tmp 8) (Operand.const (Value.int IntKind.u8 128)) 5, some (6, true), 0⟩,
 ⟨some 10, .pick (Operand.tmp 6) (Operand.tmp 9) (Operand.const (Value.bool false)), none, 0⟩])
 (.cond (Operand.tmp 10)
 (.seq
 (.ops [⟨some 11, .move (Operand.tmp 0), none, 0⟩,
 ⟨some 12, .index 9 (Operand.tmp 11) (Operand.const (Value.int IntKind.i64 0)), none, 0⟩,
 ⟨some 13, .convert 5 21 (Operand.tmp 12), none, 0⟩,
 ⟨some 2, .assign (Operand.tmp 13), none, 0⟩,
 ⟨some 3, .assign (Operand.const (Value.int IntKind.i64 1)), none, 0⟩])
 .ret)
 (.ops [⟨some 15, .move (Operand.tmp 0), none, 0⟩,
 ⟨some 16, .call ⟨(Callee.value (Operand.func 73)), [(Operand.tmp 15)].toArray, #[9]⟩, none, 0⟩,
 ⟨some 14, .move (Operand.tmp 16), none, 0⟩,
 ⟨some 17, .extract (Operand.tmp 14) 0, none, 0⟩,
 ⟨some 18, .extract (Operand.tmp 14) 1, none, 0⟩,
 ⟨some 2, .assign (Operand.tmp 17), none, 0⟩,
 ⟨some 3, .assign (Operand.tmp 18), none, 0⟩])))
 .ret))
abbrev R69 : List ResultVar := [ResultVar.tmp 2, ResultVar.tmp 3]
theorem ok69 : FnOK Tryd.prog 69 L69 R69 1 := ⟨_, _, Tryd.func69, rfl, by kernel_rfl, by kernel_rfl, by kernel_rfl, by kernel_rfl, Nat.le_of_ble_eq_true (by kernel_rfl), by kernel_rfl⟩

/-- internal/stringslite.Index -/
def L71 : LCode :=
 (.seq
 (.ops [⟨some 4, .assign (Operand.const (Value.int IntKind.i64 0)), none, 0⟩])
 (.seq
 (.ops [⟨some 14, .move (Operand.tmp 1), none, 0⟩,
 ⟨some 15, .call ⟨(Callee.builtin Builtin.len), [(Operand.tmp 14)].toArray, #[9]⟩, none, 0⟩,
 ⟨some 5, .assign (Operand.tmp 15), none, 0⟩])
 (.seq
 (.block 0
 (.seq
 (.ops [⟨some 17, .move (Operand.tmp 5), none, 0⟩,
 ⟨some 18, .binOp BinOp.eql 3 (Operand.tmp 17) (Operand.const (Value.int IntKind.i64 0)) 3, none, 0⟩,
 ⟨some 19, .move (Operand.tmp 18), none, 0⟩,
 ⟨some 20, .move (Operand.tmp 1), some (19, false), 0⟩,
 ⟨some 21, .move (Operand.tmp 0), some (19, false), 0⟩,
 ⟨some 22, .binOp BinOp.eql 9 (Operand.tmp 20) (Operand.tmp 21) 9, some (19, false), 0⟩,
 ⟨some 23, .pick (Operand.tmp 19) (Operand.const (Value.bool true)) (Operand.tmp 22), none, 0⟩,
 ⟨some 16, .assign (Operand.tmp 23), none, 0⟩])
 (.cond (Operand.tmp 16)
 (.seq
 (.ops [⟨some 4, .assign (Operand.const (Value.int IntKind.i64 0)), none, 0⟩])
 .ret)
 (.seq
 (.ops [⟨some 25, .move (Operand.tmp 5), none, 0⟩,
 ⟨some 26, .binOp BinOp.eql 3 (Operand.tmp 25) (Operand.const (Value.int IntKind.i64 1)) 3, none, 0⟩,
 ⟨some 24, .assign (Operand.tmp 26), none, 0⟩])
 (.cond (Operand.tmp 24)
 (.seq
 (.ops [⟨some 27, .move (Operand.tmp 0), none, 0⟩,
 ⟨some 28, .move (Operand.tmp 1), none, 0⟩,
 ⟨some 29, .index 9 (Operand.tmp 28) (Operand.const (Value.int IntKind.i64 0)), none, 0⟩,
 ⟨some 30, .call ⟨(Callee.value (Operand.func 74)), [(Operand.tmp 27), (Operand.tmp 29)].toArray, #[9, 5]⟩, none, 0⟩,
 ⟨some 4, .assign (Operand.tmp 30), none, 0⟩])
 .ret)
 (.seq
 (.ops [⟨some 32, .move (Operand.tmp 5), none, 0⟩,
 ⟨some 33, .move (Operand.tmp 0), none, 0⟩,
 ⟨some 34, .call ⟨(Callee.builtin Builtin.len), [(Operand.tmp 33)].toArray, #[9]⟩, none, 0⟩,
 ⟨some 35, .binOp BinOp.geq 3 (Operand.tmp 32) (Operand.tmp 34) 3, none, 0⟩,
 ⟨some 31, .assign (Operand.tmp 35), none, 0⟩])
 (.cond (Operand.tmp 31)
 (.seq
 (.ops [⟨some 4, .assign (Operand.const (Value.int IntKind.i64 (-1))), none, 0⟩])
 .ret)
 (.seq
 (.ops [⟨some 37, .move (Operand.tmp 5), none, 0⟩,
 ⟨some 38, .load 3 (Operand.global 0), none, 0⟩,
 ⟨some 39, .binOp BinOp.leq 3 (Operand.tmp 37) (Operand.tmp 38) 3, none, 0⟩,
 ⟨some 40, .move (Operand.tmp 39), none, 0⟩,
 ⟨some 41, .move (Operand.tmp 0), some (40, true), 0⟩,
 ⟨some 42, .call ⟨(Callee.builtin Builtin.len), [(Operand.tmp 41)].toArray, #[9]⟩, some (40, true), 0⟩,
 ⟨some 43, .binOp BinOp.leq 3 (Operand.tmp 42) (Operand.const (Value.int IntKind.i64 64)) 3, some (40, true), 0⟩,
 ⟨some 44, .pick (Operand.tmp 40) (Operand.tmp 43) (Operand.const (Value.bool false)), none, 0⟩,
 ⟨some 36, .assign (Operand.tmp 44), none, 0⟩])
 (.cond (Operand.tmp 36)
 (.seq
 (.ops [⟨some 45, .move (Operand.tmp 0), none, 0⟩,
 ⟨some 46, .move (Operand.tmp 1), none, 0⟩,
 ⟨some 47, .call ⟨(Callee.value (Operand.func 75)), [(Operand.tmp 45), (Operand.tmp 46)].toArray, #[9, 9]⟩, none, 0⟩,
 ⟨some 4, .assign (Operand.tmp 47), none, 0⟩])
 .ret)
 .skip)))))))))
 (.seq
 (.ops [⟨some 48, .move (Operand.tmp 1), none, 0⟩,
 ⟨some 49, .index 9 (Operand.tmp 48) (Operand.const (Value.int IntKind.i64 0)), none, 0⟩,
 ⟨some 6, .assign (Operand.tmp 49), none, 0⟩])
 (.seq
 (.ops [⟨some 50, .move (Operand.tmp 1), none, 0⟩,
 ⟨some 51, .index 9 (Operand.tmp 50) (Operand.const (Value.int IntKind.i64 1)), none, 0⟩,
 ⟨some 7, .assign (Operand.tmp 51), none, 0⟩])
 (.seq
 (.ops [⟨some 8, .assign (Operand.const (Value.int IntKind.i64 0)), none, 0⟩])
 (.seq
 (.ops [⟨some 52, .move (Operand.tmp 0), none, 0⟩,
 ⟨some 53, .call ⟨(Callee.builtin Builtin.len), [(Operand.tmp 52)].toArray, #[9]⟩, none, 0⟩,
 ⟨some 54, .move (Operand.tmp 5), none, 0⟩,
 ⟨some 55, .binOp BinOp.sub 3 (Operand.tmp 53) (Operand.tmp 54) 3, none, 0⟩,
 ⟨some 56, .binOp BinOp.add 3 (Operand.tmp 55) (Operand.const (Value.int IntKind.i64 1)) 3, none, 0⟩,
 ⟨some 9, .assign (Operand.tmp 56), none, 0⟩])
 (.seq
 (.ops [⟨some 10, .assign (Operand.const (Value.int IntKind.i64 0)), none, 0⟩])
 (.seq
 (.block 1
 (.loop
 (.seq
 (.seq
 (.ops [⟨some 57, .move (Operand.tmp 8), none, 0⟩,
 ⟨some 58, .move (Operand.tmp 9), none, 0⟩,
 ⟨some 59, .binOp BinOp.lss 3 (Operand.tmp 57) (Operand.tmp 58) 3, none, 0⟩])
 (.cond (Operand.tmp 59)
 .skip
 (.exit 1)))
 (.block 2
 (.seq
 (.seq
 (.ops [⟨some 60, .move (Operand.tmp 0), none, 0⟩,
 ⟨some 61, .move (Operand.tmp 8), none, 0⟩,
 ⟨some 62, .index 9 (Operand.tmp 60) (Operand.tmp 61), none, 0⟩,
 ⟨some 63, .move (Operand.tmp 6), none, 0⟩,
 ⟨some 64, .binOp BinOp.neq 5 (Operand.tmp 62) (Operand.tmp 63) 5, none, 0⟩])
 (.cond (Operand.tmp 64)
 (.seq
 (.ops [⟨some 65, .move (Operand.tmp 0), none, 0⟩,
 ⟨some 66, .move (Operand.tmp 8), none, 0⟩,
 ⟨some 67, .binOp BinOp.add 3 (Operand.tmp 66) (Operand.const (Value.int IntKind.i64 1)) 3, none, 0⟩,
 ⟨some 68, .move (Operand.tmp 9), none, 0⟩,
 ⟨some 69, .slice 9 (Operand.tmp 65) (some (Operand.tmp 67)) (some (Operand.tmp 68)) none, none, 0⟩,
 ⟨some 70, .move (Operand.tmp 6), none, 0⟩,
 ⟨some 71, .call ⟨(Callee.value (Operand.func 74)), [(Operand.tmp 69), (Operand.tmp 70)].toArray, #[9, 5]⟩, none, 0⟩,
 ⟨some 11, .assign (Operand.tmp 71), none, 0⟩])
 (.seq
 (.seq
 (.ops [⟨some 72, .move (Operand.tmp 11), none, 0⟩,
 ⟨some 73, .binOp BinOp.lss 3 (Operand.tmp 72) (Operand.const (Value.int IntKind.i64 0)) 3, none, 0⟩])
 (.cond (Operand.tmp 73)
 (.seq
 (.ops [⟨some 4, .assign (Operand.const (Value.int IntKind.i64 (-1))), none, 0⟩])
 .ret)
 .skip))
 (.ops [⟨some 74, .move (Operand.tmp 8), none, 0⟩,
 ⟨some 75, .move (Operand.tmp 11), none, 0⟩,
 ⟨some 76, .binOp BinOp.add 3 (Operand.tmp 75) (Operand.const (Value.int IntKind.i64 1)) 3, none, 0⟩,
 ⟨some 77, .binOp BinOp.add 3 (Operand.tmp 74) (Operand.tmp 76) 3, none, 0⟩,
 ⟨some 8, .assign (Operand.tmp 77), none, 0⟩])))
 .skip))
 (.seq
 (.seq
 (.ops [⟨some 78, .move (Operand.tmp 0), none, 0⟩,
 ⟨some 79, .move (Operand.tmp 8), none, 0⟩,
 ⟨some 80, .binOp BinOp.add 3 (Operand.tmp 79) (Operand.const (Value.int IntKind.i64 1)) 3, none, 0⟩,
 ⟨some 81, .index 9 (Operand.tmp 78) (Operand.tmp 80), none, 0⟩,
 ⟨some 82, .move (Operand.tmp 7), none, 0⟩,
 ⟨some 83, .binOp BinOp.eql 5 (Operand.tmp 81) (Operand.tmp 82) 5, none, 0⟩,
 ⟨some 84, .move (Operand.tmp 83), none, 0⟩,
 ⟨some 85, .move (Operand.tmp 0), some (84, true), 0⟩,
 ⟨some 86, .move (Operand.tmp 8), some (84, true), 0⟩,
 ⟨some 87, .move (Operand.tmp 8), some (84, true), 0⟩,
 ⟨some 88, .move (Operand.tmp 5), some (84, true), 0⟩,
 ⟨some 89, .binOp BinOp.add 3 (Operand.tmp 87) (Operand.tmp 88) 3, some (84, true), 0⟩,
 ⟨some 90, .slice 9 (Operand.tmp 85) (some (Operand.tmp 86)) (some (Operand.tmp 89)) none, some (84, true), 0⟩,
 ⟨some 91, .move (Operand.tmp 1), some (84, true), 0⟩,
 ⟨some 92, .binOp BinOp.eql 9 (Operand.tmp 90) (Operand.tmp 91) 9, some (84, true), 0⟩,
 ⟨some 93, .pick (Operand.tmp 84) (Operand.tmp 92) (Operand.const (Value.bool false)), none, 0⟩])
 (.cond (Operand.tmp 93)
 (.seq
 (.ops [⟨some 94, .move (Operand.tmp 8), none, 0⟩,
 ⟨some 4, .assign (Operand.tmp 94), none, 0⟩])
 .ret)
 .skip))
 (.seq
 (.ops [⟨some 95, .move (Operand.tmp 8), none, 0⟩,
 ⟨some 96, .binOp BinOp.add 3 (Operand.tmp 95) (Operand.const (Value.int IntKind.i64 1)) 3, none, 0⟩,
 ⟨some 8, .assign (Operand.tmp 96), none, 0⟩])
 (.seq
 (.ops [⟨some 97, .move (Operand.tmp 10), none, 0⟩,
 ⟨some 98, .binOp BinOp.add 3 (Operand.tmp 97) (Operand.const (Value.int IntKind.i64 1)) 3, none, 0⟩,
 ⟨some 10, .assign (Operand.tmp 98), none, 0⟩])
 (.seq
 (.ops [⟨some 99, .move (Operand.tmp 5), none, 0⟩,
 ⟨some 100, .load 3 (Operand.global 0), none, 0⟩,
 ⟨some 101, .binOp BinOp.leq 3 (Operand.tmp 99) (Operand.tmp 100) 3, none, 0⟩,
 ⟨some 102, .move (Operand.tmp 101), none, 0⟩,
 ⟨some 103, .move (Operand.tmp 10), some (102, true), 0⟩,
 ⟨some 104, .move (Operand.tmp 8), some (102, true), 0⟩,
 ⟨some 105, .call ⟨(Callee.value (Operand.func 76)), [(Operand.tmp 104)].toArray, #[3]⟩, some (102, true), 0⟩,
 ⟨some 106, .binOp BinOp.gtr 3 (Operand.tmp 103) (Operand.tmp 105) 3, some (102, true), 0⟩,
 ⟨some 107, .pick (Operand.tmp 102) (Operand.tmp 106) (Operand.const (Value.bool false)), none, 0⟩])
 (.cond (Operand.tmp 107)
 (.seq
 (.ops [⟨some 108, .move (Operand.tmp 0), none, 0⟩,
 ⟨some 109, .move (Operand.tmp 8), none, 0⟩,
 ⟨some 110, .slice 9 (Operand.tmp 108) (some (Operand.tmp 109)) none none, none, 0⟩,
 ⟨some 111, .move (Operand.tmp 1), none, 0⟩,
 ⟨some 112, .call ⟨(Callee.value (Operand.func 75)), [(Operand.tmp 110), (Operand.tmp 111)].toArray, #[9, 9]⟩, none, 0⟩,
 ⟨some 12, .assign (Operand.tmp 112), none, 0⟩])
 (.seq
 (.seq
 (.ops [⟨some 113, .move (Operand.tmp 12), none, 0⟩,
 ⟨some 114, .binOp BinOp.geq 3 (Operand.tmp 113) (Operand.const (Value.int IntKind.i64 0)) 3, none, 0⟩])
 (.cond (Operand.tmp 114)
 (.seq
 (.ops [⟨some 115, .move (Operand.tmp 12), none, 0⟩,
 ⟨some 116, .move (Operand.tmp 8), none, 0⟩,
 ⟨some 117, .binOp BinOp.add 3 (Operand.tmp 115) (Operand.tmp 116) 3, none, 0⟩,
 ⟨some 4, .assign (Operand.tmp 117), none, 0⟩])
 .ret)
 .skip))
 (.seq
 (.ops [⟨some 4, .assign (Operand.const (Value.int IntKind.i64 (-1))), none, 0⟩])
 .ret)))
 (.seq
 (.ops [⟨some 118, .move (Operand.tmp 5), none, 0⟩,
 ⟨some 119, .load 3 (Operand.global 0), none, 0⟩,
 ⟨some 120, .binOp BinOp.gtr 3 (Operand.tmp 118) (Operand.tmp 119) 3, none, 0⟩,
 ⟨some 121, .move (Operand.tmp 120), none, 0⟩,
 ⟨some 122, .move (Operand.tmp 10), some (121, true), 0⟩,
 ⟨some 123, .move (Operand.tmp 8), some (121, true), 0⟩,
 ⟨some 124, .binOp BinOp.shr 3 (Operand.tmp 123) (Operand.const (Value.int IntKind.u64 4)) 67, some (121, true), 0⟩,
 ⟨some 125, .binOp BinOp.add 3 (Operand.const (Value.int IntKind.i64 4)) (Operand.tmp 124) 3, some (121, true), 0⟩,
 ⟨some 126, .binOp BinOp.geq 3 (Operand.tmp 122) (Operand.tmp 125) 3, some (121, true), 0⟩,
 ⟨some 127, .pick (Operand.tmp 121) (Operand.tmp 126) (Operand.const (Value.bool false)), none, 0⟩,
 ⟨some 128, .move (Operand.tmp 127), none, 0⟩,
 ⟨some 129, .move (Operand.tmp 8), some (128, true), 0⟩,
 ⟨some 130, .move (Operand.tmp 9), some (128, true), 0⟩,
 ⟨some 131, .binOp BinOp.lss 3 (Operand.tmp 129) (Operand.tmp 130) 3, some (128, true), 0⟩,
 ⟨some 132, .pick (Operand.tmp 128) (Operand.tmp 131) (Operand.const (Value.bool false)), none, 0⟩])
 (.cond (Operand.tmp 132)
 (.seq
 (.ops [⟨some 133, .move (Operand.tmp 0), none, 0⟩,
 ⟨some 134, .move (Operand.tmp 8), none, 0⟩,
 ⟨some 135, .slice 9 (Operand.tmp 133) (some (Operand.tmp 134)) none none, none, 0⟩,
 ⟨some 136, .move (Operand.tmp 1), none, 0⟩,
 ⟨some 137, .call ⟨(Callee.value (Operand.func 77)), [(Operand.tmp 135), (Operand.tmp 136)].toArray, #[9, 9]⟩, none, 0⟩,
 ⟨some 13, .assign (Operand.tmp 137), none, 0⟩])
 (.seq
 (.seq
 (.ops [⟨some 138, .move (Operand.tmp 13), none, 0⟩,
 ⟨some 139, .binOp BinOp.lss 3 (Operand.tmp 138) (Operand.const (Value.int IntKind.i64 0)) 3, none, 0⟩])
 (.cond (Operand.tmp 139)
 (.seq
 (.ops [⟨some 4, .assign (Operand.const (Value.int IntKind.i64 (-1))), none, 0⟩])
 .ret)
 .skip))
 (.seq
 (.ops [⟨some 140, .move (Operand.tmp 8), none, 0⟩,
 ⟨some 141, .move (Operand.tmp 13), none, 0⟩,
 ⟨some 142, .binOp BinOp.add 3 (Operand.tmp 140) (Operand.tmp 141) 3, none, 0⟩,
 ⟨some 4, .assign (Operand.tmp 142), none, 0⟩])
 .ret)))
 .skip))))))))))))
 (.seq
 (.ops [⟨some 4, .assign (Operand.const (Value.int IntKind.i64 (-1))), none, 0⟩])
 .ret))))))))))
abbrev R71 : List ResultVar := [ResultVar.tmp 4]
theorem ok71 : FnOK Tryd.prog 71 L71 R71 2 := ⟨_, _, Tryd.func71, rfl, by kernel_rfl, by kernel_rfl, by kernel_rfl, by kernel_rfl, Nat.le_of_ble_eq_true (by kernel_rfl), by kernel_rfl⟩

/-- slices.order2CmpFunc[ablaut/api.Sample] -/
def L72 : LCode :=
 (.seq
 (.ops [⟨some 10, .assign (Operand.const (Value.int IntKind.i64 0)), none, 0⟩,
 ⟨some 11, .assign (Operand.const (Value.int IntKind.i64 0)), none, 0⟩])
 (.seq
 (.seq
 (.draw [⟨some 12, .move (Operand.tmp 4), none, 0⟩,
 ⟨some 13, .move (Operand.tmp 0), none, 0⟩,
 ⟨some 14, .move (Operand.tmp 2), none, 0⟩,
 ⟨some 15, .indexAddr 22 (Operand.tmp 13) (Operand.tmp 14), none, 0⟩,
 ⟨some 16, .load 25 (Operand.tmp 15), none, 0⟩,
 ⟨some 17, .move (Operand.tmp 0), none, 0⟩,
 ⟨some 18, .move (Operand.tmp 1), none, 0⟩,
 ⟨some 19, .indexAddr 22 (Operand.tmp 17) (Operand.tmp 18), none, 0⟩,
 ⟨some 20, .load 25 (Operand.tmp 19), none, 0⟩,
 ⟨some 21, .call ⟨(Callee.value (Operand.tmp 12)), [(Operand.tmp 16), (Operand.tmp 20)].toArray, #[25, 25]⟩, none, 0⟩,
 ⟨some 22, .binOp BinOp.lss 3 (Operand.tmp 21) (Operand.const (Value.int IntKind.i64 0)) 3, none, 0⟩] true [9, 10] [0, 1, 2, 3, 5, 6, 7, 4, 8, 9, 10])
 (.cond (Operand.tmp 22)
 (.seq
 (.ops [⟨some 23, .move (Operand.tmp 3), none, 0⟩,
 ⟨some 24, .nilCheck (Operand.tmp 23), none, 0⟩,
 ⟨some 25, .load 3 (Operand.tmp 24), none, 0⟩,
 ⟨some 26, .binOp BinOp.add 3 (Operand.tmp 25) (Operand.const (Value.int IntKind.i64 1)) 3, none, 0⟩,
 ⟨some 27, .nilCheck (Operand.tmp 23), none, 0⟩,
 ⟨none, .store 3 (Operand.tmp 27) (Operand.tmp 26), none, 0⟩])
 (.seq
 (.ops [⟨some 28, .move (Operand.tmp 2), none, 0⟩,
 ⟨some 29, .move (Operand.tmp 1), none, 0⟩,
 ⟨some 10, .assign (Operand.tmp 28), none, 0⟩,
 ⟨some 11, .assign (Operand.tmp 29), none, 0⟩])
 .ret))
 .skip))
 (.seq
 (.ops [⟨some 30, .move (Operand.tmp 1), none, 0⟩,
 ⟨some 31, .move (Operand.tmp 2), none, 0⟩,
 ⟨some 10, .assign (Operand.tmp 30), none, 0⟩,
 ⟨some 11, .assign (Operand.tmp 31), none, 0⟩])
 .ret)))
abbrev R72 : List ResultVar := [ResultVar.tmp 10, ResultVar.tmp 11]
theorem ok72 : FnOK Tryd.prog 72 L72 R72 5 := ⟨_, _, Tryd.func72, rfl, by kernel_rfl, by kernel_rfl, by kernel_rfl, by kernel_rfl, Nat.le_of_ble_eq_true (by kernel_rfl), by kernel_rfl⟩

/-- unicode/utf8.decodeRuneInStringSlow -/
def L73 : LCode :=
 (.seq
 (.ops [⟨some 2, .assign (Operand.const (Value.int IntKind.i32 0)), none, 0⟩,
 ⟨some 3, .assign (Operand.const (Value.int IntKind.i64 0)), none, 0⟩])
 (.seq
 (.ops [⟨some 13, .move (Operand.tmp 0), none, 0⟩,
 ⟨some 14, .call ⟨(Callee.builtin Builtin.len), [(Operand.tmp 13)].toArray, #[9]⟩, none, 0⟩,
 ⟨some 4, .assign (Operand.tmp 14), none, 0⟩])
 (.seq
 (.seq
 (.ops [⟨some 15, .move (Operand.tmp 4), none, 0⟩,
 ⟨some 16, .binOp BinOp.lss 3 (Operand.tmp 15) (Operand.const (Value.int IntKind.i64 1)) 3, none, 0⟩])
 (.cond (Operand.tmp 16)
 (.seq
 (.ops [⟨some 2, .assign (Operand.const (Value.int IntKind.i32 65533)), none, 0⟩,
 ⟨some 3, .assign (Operand.const (Value.int IntKind.i64 0)), none, 0⟩])
 .ret)
 .skip))
 (.seq
 (.ops [⟨some 17, .move (Operand.tmp 0), none, 0⟩,
 ⟨some 18, .index 9 (Operand.tmp 17) (Operand.const (Value.int IntKind.i64 0)), none, 0⟩,
 ⟨some 5, .assign (Operand.tmp 18), none, 0⟩])
 (.seq
 (.ops [⟨some 19, .move (Operand.tmp 5), none, 0⟩,
 ⟨some 20, .indexAddr 114 (Operand.global 1) (Operand.tmp 19), none, 0⟩,
 ⟨some 21, .load 5 (Operand.tmp 20), none, 0⟩,
 ⟨some 6, .assign (Operand.tmp 21), none, 0⟩])
 (.seq
 (.seq
 (.ops [⟨some 22, .move (Operand.tmp 6), none, 0⟩,
 ⟨some 23, .binOp BinOp.geq 5 (Operand.tmp 22) (Operand.const (Value.int IntKind.u8 240)) 5, none, 0⟩])
 (.cond (Operand.tmp 23)
 (.seq
 (.ops [⟨some 24, .move (Operand.tmp 6), none, 0⟩,
 ⟨some 25, .convert 5 21 (Operand.tmp 24), none, 0⟩,
 ⟨some 26, .binOp BinOp.shl 21 (Operand.tmp 25) (Operand.const (Value.int IntKind.u64 31)) 67, none, 0⟩,
 ⟨some 27, .binOp BinOp.shr 21 (Operand.tmp 26) (Operand.const (Value.int IntKind.u64 31)) 67, none, 0⟩,
 ⟨some 7, .assign (Operand.tmp 27), none, 0⟩])
 (.seq
 (.ops [⟨some 28, .move (Operand.tmp 0), none, 0⟩,
 ⟨some 29, .index 9 (Operand.tmp 28) (Operand.const (Value.int IntKind.i64 0)), none, 0⟩,
 ⟨some 30, .convert 5 21 (Operand.tmp 29), none, 0⟩,
 ⟨some 31, .move (Operand.tmp 7), none, 0⟩,
 ⟨some 32, .binOp BinOp.andNot 21 (Operand.tmp 30) (Operand.tmp 31) 21, none, 0⟩,
 ⟨some 33, .move (Operand.tmp 7), none, 0⟩,
 ⟨some 34, .binOp BinOp.and 21 (Operand.const (Value.int IntKind.i32 65533)) (Operand.tmp 33) 21, none, 0⟩,
 ⟨some 35, .binOp BinOp.or 21 (Operand.tmp 32) (Operand.tmp 34) 21, none, 0⟩,
 ⟨some 2, .assign (Operand.tmp 35), none, 0⟩,
 ⟨some 3, .assign (Operand.const (Value.int IntKind.i64 1)), none, 0⟩])
 .ret))
 .skip))
 (.seq
 (.ops [⟨some 36, .move (Operand.tmp 6), none, 0⟩,
 ⟨some 37, .binOp BinOp.and 5 (Operand.tmp 36) (Operand.const (Value.int IntKind.u8 7)) 5, none, 0⟩,
 ⟨some 38, .convert 5 3 (Operand.tmp 37), none, 0⟩,
 ⟨some 8, .assign (Operand.tmp 38), none, 0⟩])
 (.seq
 (.ops [⟨some 39, .move (Operand.tmp 6), none, 0⟩,
 ⟨some 40, .binOp BinOp.shr 5 (Operand.tmp 39) (Operand.const (Value.int IntKind.u64 4)) 67, none, 0⟩,
 ⟨some 41, .indexAddr 117 (Operand.global 2) (Operand.tmp 40), none, 0⟩,
 ⟨some 42, .load 116 (Operand.tmp 41), none, 0⟩,
 ⟨some 9, .alloc 116, none, 0⟩,
 ⟨none, .store 116 (Operand.tmp 9) (Operand.tmp 42), none, 0⟩])
 (.seq
 (.seq
 (.ops [⟨some 43, .move (Operand.tmp 4), none, 0⟩,
 ⟨some 44, .move (Operand.tmp 8), none, 0⟩,
 ⟨some 45, .binOp BinOp.lss 3 (Operand.tmp 43) (Operand.tmp 44) 3, none, 0⟩])
 (.cond (Operand.tmp 45)
 (.seq
 (.ops [⟨some 2, .assign (Operand.const (Value.int IntKind.i32 65533)), none, 0⟩,
 ⟨some 3, .assign (Operand.const (Value.int IntKind.i64 1)), none, 0⟩])
 .ret)
 .skip))
 (.seq
 (.ops [⟨some 46, .move (Operand.tmp 0), none, 0⟩,
 ⟨some 47, .index 9 (Operand.tmp 46) (Operand.const (Value.int IntKind.i64 1)), none, 0⟩,
 ⟨some 10, .assign (Operand.tmp 47), none, 0⟩])
 (.seq
 (.seq
 (.ops [⟨some 48, .move (Operand.tmp 10), none, 0⟩,
 ⟨some 49, .fieldAddr 116 (Operand.tmp 9) 0, none, 0⟩,
 ⟨some 50, .load 5 (Operand.tmp 49), none, 0⟩,
 ⟨some 51, .binOp BinOp.lss 5 (Operand.tmp 48) (Operand.tmp 50) 5, none, 0⟩,
 ⟨some 52, .move (Operand.tmp 51), none, 0⟩,
 ⟨some 53, .fieldAddr 116 (Operand.tmp 9) 1, some (52, false), 0⟩,
 ⟨some 54, .load 5 (Operand.tmp 53), some (52, false), 0⟩,
 ⟨some 55, .move (Operand.tmp 10), some (52, false), 0⟩,
 ⟨some 56, .binOp BinOp.lss 5 (Operand.tmp 54) (Operand.tmp 55) 5, some (52, false), 0⟩,
 ⟨some 57, .pick (Operand.tmp 52) (Operand.const (Value.bool true)) (Operand.tmp 56), none, 0⟩])
 (.cond (Operand.tmp 57)
 (.seq
 (.ops [⟨some 2, .assign (Operand.const (Value.int IntKind.i32 65533)), none, 0⟩,
 ⟨some 3, .assign (Operand.const (Value.int IntKind.i64 1)), none, 0⟩])
 .ret)
 .skip))
 (.seq
 (.seq
 (.ops [⟨some 58, .move (Operand.tmp 8), none, 0⟩,
 ⟨some 59, .binOp BinOp.leq 3 (Operand.tmp 58) (Operand.const (Value.int IntKind.i64 2)) 3, none, 0⟩])
 (.cond (Operand.tmp 59)
 (.seq
 (.ops [⟨some 60, .move (Operand.tmp 5), none, 0⟩,
 ⟨some 61, .binOp BinOp.and 5 (Operand.tmp 60) (Operand.const (Value.int IntKind.u8 31)) 5, none, 0⟩,
 ⟨some 62, .convert 5 21 (Operand.tmp 61), none, 0⟩,
 ⟨some 63, .binOp BinOp.shl 21 (Operand.tmp 62) (Operand.const (Value.int IntKind.u64 6)) 67, none, 0⟩,
 ⟨some 64, .move (Operand.tmp 10), none, 0⟩,
 ⟨some 65, .binOp BinOp.and 5 (Operand.tmp 64) (Operand.const (Value.int IntKind.u8 63)) 5, none, 0⟩,
 ⟨some 66, .convert 5 21 (Operand.tmp 65), none, 0⟩,
 ⟨some 67, .binOp BinOp.or 21 (Operand.tmp 63) (Operand.tmp 66) 21, none, 0⟩,
 ⟨some 2, .assign (Operand.tmp 67), none, 0⟩,
 ⟨some 3, .assign (Operand.const (Value.int IntKind.i64 2)), none, 0⟩])
 .ret)
 .skip))
 (.seq
 (.ops [⟨some 68, .move (Operand.tmp 0), none, 0⟩,
 ⟨some 69, .index 9 (Operand.tmp 68) (Operand.const (Value.int IntKind.i64 2)), none, 0⟩,
 ⟨some 11, .assign (Operand.tmp 69), none, 0⟩])
 (.seq
 (.seq
 (.ops [⟨some 70, .move (Operand.tmp 11), none, 0⟩,
 ⟨some 71, .binOp BinOp.lss 5 (Operand.tmp 70) (Operand.const (Value.int IntKind.u8 128)) 5, none, 0⟩,
 ⟨some 72, .move (Operand.tmp 71), none, 0⟩,
 ⟨some 73, .move (Operand.tmp 11), some (72, false), 0⟩,
 ⟨some 74, .binOp BinOp.lss 5 (Operand.const (Value.int IntKind.u8 191)) (Operand.tmp 73) 5, some (72, false), 0⟩,
 ⟨some 75, .pick (Operand.tmp 72) (Operand.const (Value.bool true)) (Operand.tmp 74), none, 0⟩])
 (.cond (Operand.tmp 75)
 (.seq
 (.ops [⟨some 2, .assign (Operand.const (Value.int IntKind.i32 65533)), none, 0⟩,
 ⟨some 3, .assign (Operand.const (Value.int IntKind.i64 1)), none, 0⟩])
 .ret)
 .skip))
 (.seq
 (.seq
 (.ops [⟨some 76, .move (Operand.tmp 8), none, 0⟩,
 ⟨some 77, .binOp BinOp.leq 3 (Operand.tmp 76) (Operand.const (Value.int IntKind.i64 3)) 3, none, 0⟩])
 (.cond (Operand.tmp 77)
 (.seq
 (.ops [⟨some 78, .move (Operand.tmp 5), none, 0⟩,
 ⟨some 79, .binOp BinOp.and 5 (Operand.tmp 78) (Operand.const (Value.int IntKind.u8 15)) 5, none, 0⟩,
 ⟨some 80, .convert 5 21 (Operand.tmp 79), none, 0⟩,
 ⟨some 81, .binOp BinOp.shl 21 (Operand.tmp 80) (Operand.const (Value.int IntKind.u64 12)) 67, none, 0⟩,
 ⟨some 82, .move (Operand.tmp 10), none, 0⟩,
 ⟨some 83, .binOp BinOp.and 5 (Operand.tmp 82) (Operand.const (Value.int IntKind.u8 63)) 5, none, 0⟩,
 ⟨some 84, .convert 5 21 (Operand.tmp 83), none, 0⟩,
 ⟨some 85, .binOp BinOp.shl 21 (Operand.tmp 84) (Operand.const (Value.int IntKind.u64 6)) 67, none, 0⟩,
 ⟨some 86, .binOp BinOp.or 21 (Operand.tmp 81) (Operand.tmp 85) 21, none, 0⟩,
 ⟨some 87, .move (Operand.tmp 11), none, 0⟩,
 ⟨some 88, .binOp BinOp.and 5 (Operand.tmp 87) (Operand.const (Value.int IntKind.u8 63)) 5, none, 0⟩,
 ⟨some 89, .convert 5 21 (Operand.tmp 88), none, 0⟩,
 ⟨some 90, .binOp BinOp.or 21 (Operand.tmp 86) (Operand.tmp 89) 21, none, 0⟩,
 ⟨some 2, .assign (Operand.tmp 90), none, 0⟩,
 ⟨some 3, .assign (Operand.const (Value.int IntKind.i64 3)), none, 0⟩])
 .ret)
 .skip))
 (.seq
 (.ops [⟨some 91, .move (Operand.tmp 0), none, 0⟩,
 ⟨some 92, .index 9 (Operand.tmp 91) (Operand.const (Value.int IntKind.i64 3)), none, 0⟩,
 ⟨some 12, .assign (Operand.tmp 92), none, 0⟩])
 (.seq
 (.seq
 (.ops [⟨some 93, .move (Operand.tmp 12), none, 0⟩,
 ⟨some 94, .binOp BinOp.lss 5 (Operand.tmp 93) (Operand.const (Value.int IntKind.u8 128)) 5, none, 0⟩,
 ⟨some 95, .move (Operand.tmp 94), none, 0⟩,
 ⟨some 96, .move (Operand.tmp 12), some (95, false), 0⟩,
 ⟨some 97, .binOp BinOp.lss 5 (Operand.const (Value.int IntKind.u8 191)) (Operand.tmp 96) 5, some (95, false), 0⟩,
 ⟨some 98, .pick (Operand.tmp 95) (Operand.const (Value.bool true)) (Operand.tmp 97), none, 0⟩])
 (.cond (Operand.tmp 98)
 (.seq
 (.ops [⟨some 2, .assign (Operand.const (Value.int IntKind.i32 65533)), none, 0⟩,
 ⟨some 3, .assign (Operand.const (Value.int IntKind.i64 1)), none, 0⟩])
 .ret)
 .skip))
 (.seq
 (.ops [⟨some 99, .move (Operand.tmp 5), none, 0⟩,
 ⟨some 100, .binOp BinOp.and 5 (Operand.tmp 99) (Operand.const (Value.int IntKind.u8 7)) 5, none, 0⟩,
 ⟨some 101, .convert 5 21 (Operand.tmp 100), none, 0⟩,
 ⟨some 102, .binOp BinOp.shl 21 (Operand.tmp 101) (Operand.const (Value.int IntKind.u64 18)) 67, none, 0⟩,
 ⟨some 103, .move (Operand.tmp 10), none, 0⟩,
 ⟨some 104, .binOp BinOp.and 5 (Operand.tmp 103) (Operand.const (Value.int IntKind.u8 63)) 5, none, 0⟩,
 ⟨some 105, .convert 5 21 (Operand.tmp 104), none, 0⟩,
 ⟨some 106, .binOp BinOp.shl 21 (Operand.tmp 105) (Operand.const (Value.int IntKind.u64 12)) 67, none, 0⟩,
 ⟨some 107, .binOp BinOp.or 21 (Operand.tmp 102) (Operand.tmp 106) 21, none, 0⟩,
 ⟨some 108, .move (Operand.tmp 11), none, 0⟩,
 ⟨some 109, .binOp BinOp.and 5 (Operand.tmp 108) (Operand.const (Value.int IntKind.u8 63)) 5, none, 0⟩,
 ⟨some 110, .convert 5 21 (Operand.tmp 109), none, 0⟩,
 ⟨some 111, .binOp BinOp.shl 21 (Operand.tmp 110) (Operand.const (Value.int IntKind.u64 6)) 67, none, 0⟩,
 ⟨some 112, .binOp BinOp.or 21 (Operand.tmp 107) (Operand.tmp 111) 21, none, 0⟩,
 ⟨some 113, .move (Operand.tmp 12), none, 0⟩,
 ⟨some 114, .binOp BinOp.and 5 (Operand.tmp 113) (Operand.const (Value.int IntKind.u8 63)) 5, none, 0⟩,
 ⟨some 115, .convert 5 21 (Operand.tmp 114), none, 0⟩,
 ⟨some 116, .binOp BinOp.or 21 (Operand.tmp 112) (Operand.tmp 115) 21, none, 0⟩,
 ⟨some 2, .assign (Operand.tmp 116), none, 0⟩,
 ⟨some 3, .assign (Operand.const (Value.int IntKind.i64 4)), none, 0⟩])
 .ret))))))))))))))))))
abbrev R73 : List ResultVar := [ResultVar.tmp 2, ResultVar.tmp 3]
theorem ok73 : FnOK Tryd.prog 73 L73 R73 1 := ⟨_, _, Tryd.func73, rfl, by kernel_rfl, by kernel_rfl, by kernel_rfl, by kernel_rfl, Nat.le_of_ble_eq_true (by kernel_rfl), by kernel_rfl⟩

/-- internal/stringslite.IndexByte -/
def L74 : LCode :=
 (.seq
 (.ops [⟨some 4, .assign (Operand.const (Value.int IntKind.i64 0)), none, 0⟩])
 (.seq
 (.ops [⟨some 5, .move (Operand.tmp 0), none, 0⟩,
 ⟨some 6, .move (Operand.tmp 1), none, 0⟩,
 ⟨some 7, .call ⟨(Callee.value (Operand.func 78)), [(Operand.tmp 5), (Operand.tmp 6)].toArray, #[9, 5]⟩, none, 0⟩,
 ⟨some 4, .assign (Operand.tmp 7), none, 0⟩])
 .ret))
abbrev R74 : List ResultVar := [ResultVar.tmp 4]
theorem ok74 : FnOK Tryd.prog 74 L74 R74 2 := ⟨_, _, Tryd.func74, rfl, by kernel_rfl, by kernel_rfl, by kernel_rfl, by kernel_rfl, Nat.le_of_ble_eq_true (by kernel_rfl), by kernel_rfl⟩

/-- internal/bytealg.Cutover -/
def L76 : LCode :=
 (.seq
 (.ops [⟨some 2, .assign (Operand.const (Value.int IntKind.i64 0)), none, 0⟩])
 (.seq
 (.ops [⟨some 3, .move (Operand.tmp 0), none, 0⟩,
 ⟨some 4, .binOp BinOp.add 3 (Operand.tmp 3) (Operand.const (Value.int IntKind.i64 16)) 3, none, 0⟩,
 ⟨some 5, .binOp BinOp.quo 3 (Operand.tmp 4) (Operand.const (Value.int IntKind.i64 8)) 3, none, 0⟩,
 ⟨some 2, .assign (Operand.tmp 5), none, 0⟩])
 .ret))
abbrev R76 : List ResultVar := [ResultVar.tmp 2]
theorem ok76 : FnOK Tryd.prog 76 L76 R76 1 := ⟨_, _, Tryd.func76, rfl, by kernel_rfl, by kernel_rfl, by kernel_rfl, by kernel_rfl, Nat.le_of_ble_eq_true (by kernel_rfl), by kernel_rfl⟩

/-- internal/bytealg.IndexRabinKarp[string] -/
def L77 : LCode :=
 (.seq
 (.ops [⟨some 4, .assign (Operand.const (Value.int IntKind.i64 0)), none, 0⟩])
 (.seq
 (.ops [⟨some 12, .move (Operand.tmp 1), none, 0⟩,
 ⟨some 13, .call ⟨(Callee.value (Operand.func 79)), [(Operand.tmp 12)].toArray, #[9]⟩, none, 0⟩,
 ⟨some 11, .move (Operand.tmp 13), none, 0⟩,
 ⟨some 14, .extract (Operand.tmp 11) 0, none, 0⟩,
 ⟨some 15, .extract (Operand.tmp 11) 1, none, 0⟩,
 ⟨some 5, .assign (Operand.tmp 14), none, 0⟩,
 ⟨some 6, .assign (Operand.tmp 15), none, 0⟩])
 (.seq
 (.ops [⟨some 16, .move (Operand.tmp 1), none, 0⟩,
 ⟨some 17, .call ⟨(Callee.builtin Builtin.len), [(Operand.tmp 16)].toArray, #[9]⟩, none, 0⟩,
 ⟨some 7, .assign (Operand.tmp 17), none, 0⟩])
 (.seq
 (.ops [⟨some 8, .assign (Operand.const (Value.int IntKind.u32 0)), none, 0⟩])
 (.seq
 (.seq
 (.ops [⟨some 9, .assign (Operand.const (Value.int IntKind.i64 0)), none, 0⟩])
 (.block 0
 (.loop
 (.seq
 (.seq
 (.ops [⟨some 18, .move (Operand.tmp 9), none, 0⟩,
 ⟨some 19, .move (Operand.tmp 7), none, 0⟩,
 ⟨some 20, .binOp BinOp.lss 3 (Operand.tmp 18) (Operand.tmp 19) 3, none, 0⟩])
 (.cond (Operand.tmp 20)
 .skip
 (.exit 0)))
 (.seq
 (.block 1
 (.ops [⟨some 23, .move (Operand.tmp 8), none, 0⟩,
 ⟨some 24, .binOp BinOp.mul 90 (Operand.tmp 23) (Operand.const (Value.int IntKind.u32 16777619)) 90, none, 0⟩,
 ⟨some 25, .move (Operand.tmp 0), none, 0⟩,
 ⟨some 26, .move (Operand.tmp 9), none, 0⟩,
 ⟨some 27, .index 9 (Operand.tmp 25) (Operand.tmp 26), none, 0⟩,
 ⟨some 28, .convert 5 90 (Operand.tmp 27), none, 0⟩,
 ⟨some 29, .binOp BinOp.add 90 (Operand.tmp 24) (Operand.tmp 28) 90, none, 0⟩,
 ⟨some 8, .assign (Operand.tmp 29), none, 0⟩]))
 (.ops [⟨some 21, .move (Operand.tmp 9), none, 0⟩,
 ⟨some 22, .binOp BinOp.add 3 (Operand.tmp 21) (Operand.const (Value.int IntKind.i64 1)) 3, none, 0⟩,
 ⟨some 9, .assign (Operand.tmp 22), none, 0⟩]))))))
 (.seq
 (.seq
 (.ops [⟨some 30, .move (Operand.tmp 8), none, 0⟩,
 ⟨some 31, .move (Operand.tmp 5), none, 0⟩,
 ⟨some 32, .binOp BinOp.eql 90 (Operand.tmp 30) (Operand.tmp 31) 90, none, 0⟩,
 ⟨some 33, .move (Operand.tmp 32), none, 0⟩,
 ⟨some 34, .move (Operand.tmp 0), some (33, true), 0⟩,
 ⟨some 35, .move (Operand.tmp 7), some (33, true), 0⟩,
 ⟨some 36, .slice 9 (Operand.tmp 34) none (some (Operand.tmp 35)) none, some (33, true), 0⟩,
 ⟨some 37, .move (Operand.tmp 1), some (33, true), 0⟩,
 ⟨some 38, .binOp BinOp.eql 9 (Operand.tmp 36) (Operand.tmp 37) 9, some (33, true), 0⟩,
 ⟨some 39, .pick (Operand.tmp 33) (Operand.tmp 38) (Operand.const (Value.bool false)), none, 0⟩])
 (.cond (Operand.tmp 39)
 (.seq
 (.ops [⟨some 4, .assign (Operand.const (Value.int IntKind.i64 0)), none, 0⟩])
 .ret)
 .skip))
 (.seq
 (.seq
 (.ops [⟨some 40, .move (Operand.tmp 7), none, 0⟩,
 ⟨some 10, .assign (Operand.tmp 40), none, 0⟩])
 (.block 2
 (.loop
 (.seq
 (.seq
 (.ops [⟨some 41, .move (Operand.tmp 10), none, 0⟩,
 ⟨some 42, .move (Operand.tmp 0), none, 0⟩,
 ⟨some 43, .call ⟨(Callee.builtin Builtin.len), [(Operand.tmp 42)].toArray, #[9]⟩, none, 0⟩,
 ⟨some 44, .binOp BinOp.lss 3 (Operand.tmp 41) (Operand.tmp 43) 3, none, 0⟩])
 (.cond (Operand.tmp 44)
 .skip
 (.exit 2)))
 (.block 3
 (.seq
 (.ops [⟨some 45, .move (Operand.tmp 8), none, 0⟩,
 ⟨some 46, .binOp BinOp.mul 90 (Operand.tmp 45) (Operand.const (Value.int IntKind.u32 16777619)) 90, none, 0⟩,
 ⟨some 8, .assign (Operand.tmp 46), none, 0⟩])
 (.seq
 (.ops [⟨some 47, .move (Operand.tmp 8), none, 0⟩,
 ⟨some 48, .move (Operand.tmp 0), none, 0⟩,
 ⟨some 49, .move (Operand.tmp 10), none, 0⟩,
 ⟨some 50, .index 9 (Operand.tmp 48) (Operand.tmp 49), none, 0⟩,
 ⟨some 51, .convert 5 90 (Operand.tmp 50), none, 0⟩,
 ⟨some 52, .binOp BinOp.add 90 (Operand.tmp 47) (Operand.tmp 51) 90, none, 0⟩,
 ⟨some 8, .assign (Operand.tmp 52), none, 0⟩])
 (.seq
 (.ops [⟨some 53, .move (Operand.tmp 8), none, 0⟩,
 ⟨some 54, .move (Operand.tmp 6), none, 0⟩,
 ⟨some 55, .move (Operand.tmp 0), none, 0⟩,
 ⟨some 56, .move (Operand.tmp 10), none, 0⟩,
 ⟨some 57, .move (Operand.tmp 7), none, 0⟩,
 ⟨some 58, .binOp BinOp.sub 3 (Operand.tmp 56) (Operand.tmp 57) 3, none, 0⟩,
 ⟨some 59, .index 9 (Operand.tmp 55) (Operand.tmp 58), none, 0⟩,
 ⟨some 60, .convert 5 90 (Operand.tmp 59), none, 0⟩,
 ⟨some 61, .binOp BinOp.mul 90 (Operand.tmp 54) (Operand.tmp 60) 90, none, 0⟩,
 ⟨some 62, .binOp BinOp.sub 90 (Operand.tmp 53) (Operand.tmp 61) 90, none, 0⟩,
 ⟨some 8, .assign (Operand.tmp 62), none, 0⟩])
 (.seq
 (.ops [⟨some 63, .move (Operand.tmp 10), none, 0⟩,
 ⟨some 64, .binOp BinOp.add 3 (Operand.tmp 63) (Operand.const (Value.int IntKind.i64 1)) 3, none, 0⟩,
 ⟨some 10, .assign (Operand.tmp 64), none, 0⟩])
 (.seq
 (.ops [⟨some 65, .move (Operand.tmp 8), none, 0⟩,
 ⟨some 66, .move (Operand.tmp 5), none, 0⟩,
 ⟨some 67, .binOp BinOp.eql 90 (Operand.tmp 65) (Operand.tmp 66) 90, none, 0⟩,
 ⟨some 68, .move (Operand.tmp 67), none, 0⟩,
 ⟨some 69, .move (Operand.tmp 0), some (68, true), 0⟩,
 ⟨some 70, .move (Operand.tmp 10), some (68, true), 0⟩,
 ⟨some 71, .move (Operand.tmp 7), some (68, true), 0⟩,
 ⟨some 72, .binOp BinOp.sub 3 (Operand.tmp 70) (Operand.tmp 71) 3, some (68, true), 0⟩,
 ⟨some 73, .move (Operand.tmp 10), some (68, true), 0⟩,
 ⟨some 74, .slice 9 (Operand.tmp 69) (some (Operand.tmp 72)) (some (Operand.tmp 73)) none, some (68, true), 0⟩,
 ⟨some 75, .move (Operand.tmp 1), some (68, true), 0⟩,
 ⟨some 76, .binOp BinOp.eql 9 (Operand.tmp 74) (Operand.tmp 75) 9, some (68, true), 0⟩,
 ⟨some 77, .pick (Operand.tmp 68) (Operand.tmp 76) (Operand.const (Value.bool false)), none, 0⟩])
 (.cond (Operand.tmp 77)
 (.seq
 (.ops [⟨some 78, .move (Operand.tmp 10), none, 0⟩,
 ⟨some 79, .move (Operand.tmp 7), none, 0⟩,
 ⟨some 80, .binOp BinOp.sub 3 (Operand.tmp 78) (Operand.tmp 79) 3, none, 0⟩,
 ⟨some 4, .assign (Operand.tmp 80), none, 0⟩])
 .ret)
 .skip)))))))))))
 (.seq
 (.ops [⟨some 4, .assign (Operand.const (Value.int IntKind.i64 (-1))), none, 0⟩])
 .ret))))))))
abbrev R77 : List ResultVar := [ResultVar.tmp 4]
theorem ok77 : FnOK Tryd.prog 77 L77 R77 2 := ⟨_, _, Tryd.func77, rfl, by kernel_rfl, by kernel_rfl, by kernel_rfl, by kernel_rfl, Nat.le_of_ble_eq_true (by kernel_rfl), by kernel_rfl⟩

/-- internal/bytealg.hashStr[string] -/
def L79 : LCode :=
 (.seq
 (.ops [⟨some 2, .assign (Operand.const (Value.int IntKind.u32 0)), none, 0⟩,
 ⟨some 3, .assign (Operand.const (Value.int IntKind.u32 0)), none, 0⟩])
 (.seq
 (.ops [⟨some 4, .assign (Operand.const (Value.int IntKind.u32 0)), none, 0⟩])
 (.seq
 (.seq
 (.ops [⟨some 5, .assign (Operand.const (Value.int IntKind.i64 0)), none, 0⟩])
 (.block 0
 (.loop
 (.seq
 (.seq
 (.ops [⟨some 9, .move (Operand.tmp 5), none, 0⟩,
 ⟨some 10, .move (Operand.tmp 0), none, 0⟩,
 ⟨some 11, .call ⟨(Callee.builtin Builtin.len), [(Operand.tmp 10)].toArray, #[9]⟩, none, 0⟩,
 ⟨some 12, .binOp BinOp.lss 3 (Operand.tmp 9) (Operand.tmp 11) 3, none, 0⟩])
 (.cond (Operand.tmp 12)
 .skip
 (.exit 0)))
 (.seq
 (.block 1
 (.ops [⟨some 15, .move (Operand.tmp 4), none, 0⟩,
 ⟨some 16, .binOp BinOp.mul 90 (Operand.tmp 15) (Operand.const (Value.int IntKind.u32 16777619)) 90, none, 0⟩,
 ⟨some 17, .move (Operand.tmp 0), none, 0⟩,
 ⟨some 18, .move (Operand.tmp 5), none, 0⟩,
 ⟨some 19, .index 9 (Operand.tmp 17) (Operand.tmp 18), none, 0⟩,
 ⟨some 20, .convert 5 90 (Operand.tmp 19), none, 0⟩,
 ⟨some 21, .binOp BinOp.add 90 (Operand.tmp 16) (Operand.tmp 20) 90, none, 0⟩,
 ⟨some 4, .assign (Operand.tmp 21), none, 0⟩]))
 (.ops [⟨some 13, .move (Operand.tmp 5), none, 0⟩,
 ⟨some 14, .binOp BinOp.add 3 (Operand.tmp 13) (Operand.const (Value.int IntKind.i64 1)) 3, none, 0⟩,
 ⟨some 5, .assign (Operand.tmp 14), none, 0⟩]))))))
 (.seq
 (.ops [⟨some 6, .assign (Operand.const (Value.int IntKind.u32 1)), none, 0⟩,
 ⟨some 7, .assign (Operand.const (Value.int IntKind.u32 16777619)), none, 0⟩])
 (.seq
 (.seq
 (.ops [⟨some 22, .move (Operand.tmp 0), none, 0⟩,
 ⟨some 23, .call ⟨(Callee.builtin Builtin.len), [(Operand.tmp 22)].toArray, #[9]⟩, none, 0⟩,
 ⟨some 8, .assign (Operand.tmp 23), none, 0⟩])
 (.block 2
 (.loop
 (.seq
 (.seq
 (.ops [⟨some 24, .move (Operand.tmp 8), none, 0⟩,
 ⟨some 25, .binOp BinOp.gtr 3 (Operand.tmp 24) (Operand.const (Value.int IntKind.i64 0)) 3, none, 0⟩])
 (.cond (Operand.tmp 25)
 .skip
 (.exit 2)))
 (.seq
 (.block 3
 (.seq
 (.seq
 (.ops [⟨some 28, .move (Operand.tmp 8), none, 0⟩,
 ⟨some 29, .binOp BinOp.and 3 (Operand.tmp 28) (Operand.const (Value.int IntKind.i64 1)) 3, none, 0⟩,
 ⟨some 30, .binOp BinOp.neq 3 (Operand.tmp 29) (Operand.const (Value.int IntKind.i64 0)) 3, none, 0⟩])
 (.cond (Operand.tmp 30)
 (.ops [⟨some 31, .move (Operand.tmp 6), none, 0⟩,
 ⟨some 32, .move (Operand.tmp 7), none, 0⟩,
 ⟨some 33, .binOp BinOp.mul 90 (Operand.tmp 31) (Operand.tmp 32) 90, none, 0⟩,
 ⟨some 6, .assign (Operand.tmp 33), none, 0⟩])
 .skip))
 (.ops [⟨some 34, .move (Operand.tmp 7), none, 0⟩,
 ⟨some 35, .move (Operand.tmp 7), none, 0⟩,
 ⟨some 36, .binOp BinOp.mul 90 (Operand.tmp 34) (Operand.tmp 35) 90, none, 0⟩,
 ⟨some 7, .assign (Operand.tmp 36), none, 0⟩])))
 (.ops [⟨some 26, .move (Operand.tmp 8), none, 0⟩,
 ⟨some 27, .binOp BinOp.shr 3 (Operand.tmp 26) (Operand.const (Value.int IntKind.u64 1)) 67, none, 0⟩,
 ⟨some 8, .assign (Operand.tmp 27), none, 0⟩]))))))
 (.seq
 (.ops [⟨some 37, .move (Operand.tmp 4), none, 0⟩,
 ⟨some 38, .move (Operand.tmp 6), none, 0⟩,
 ⟨some 2, .assign (Operand.tmp 37), none, 0⟩,
 ⟨some 3, .assign (Operand.tmp 38), none, 0⟩])
 .ret))))))
abbrev R79 : List ResultVar := [ResultVar.tmp 2, ResultVar.tmp 3]
theorem ok79 : FnOK Tryd.prog 79 L79 R79 1 := ⟨_, _, Tryd.func79, rfl, by kernel_rfl, by kernel_rfl, by kernel_rfl, by kernel_rfl, Nat.le_of_ble_eq_true (by kernel_rfl), by kernel_rfl⟩

/-- gosem.cut.vars -/
def L101 : LCode :=
 (.ops [⟨some 0, .build 116 [(0, (Operand.const (Value.int IntKind.u8 128))), (1, (Operand.const (Value.int IntKind.u8 191)))].toArray, none, 0⟩,
 ⟨some 1, .build 116 [(0, (Operand.const (Value.int IntKind.u8 160))), (1, (Operand.const (Value.int IntKind.u8 191)))].toArray, none, 0⟩,
 ⟨some 2, .build 116 [(0, (Operand.const (Value.int IntKind.u8 128))), (1, (Operand.const (Value.int IntKind.u8 159)))].toArray, none, 0⟩,
 ⟨some 3, .build 116 [(0, (Operand.const (Value.int IntKind.u8 144))), (1, (Operand.const (Value.int IntKind.u8 191)))].toArray, none, 0⟩,
 ⟨some 4, .build 116 [(0, (Operand.const (Value.int IntKind.u8 128))), (1, (Operand.const (Value.int IntKind.u8 143)))].toArray, none, 0⟩,
 ⟨some 5, .build 117 [(0, (Operand.tmp 0)), (1, (Operand.tmp 1)), (2, (Operand.tmp 2)), (3, (Operand.tmp 3)), (4, (Operand.tmp 4))].toArray, none, 0⟩,
 ⟨none, .store 117 (Operand.global 2) (Operand.tmp 5), none, 0⟩])
abbrev R101 : List ResultVar := []
theorem ok101 : FnOK Tryd.prog 101 L101 R101 0 := ⟨_, _, Tryd.func101, rfl, by kernel_rfl, by kernel_rfl, by kernel_rfl, by kernel_rfl, Nat.le_of_ble_eq_true (by kernel_rfl), by kernel_rfl⟩
end Go.Proofs.YthchlpikcpidaaaDoor.Vs
