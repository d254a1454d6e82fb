/- The seat's functions as the engine Dm reads them, written by dgen.py. -/
import Derived.Test.YthchlpikcpidaaaDoorDmFn
import Derived.Test.YthchlpikcpidaaaDoorProg
import Derived.KernelRfl
namespace Go.Proofs.YthchlpikcpidaaaDoor.Vs
set_option linter.unusedVariables false
set_option maxRecDepth 100000
/-- slices.pdqsortCmpFunc[ablaut/api.Sample] -/
def L31 : LCode :=
 (.seq
 (.ops [⟨some 10, .assign (Operand.const (Value.bool true)), none, 0⟩])
 (.seq
 (.ops [⟨some 11, .assign (Operand.const (Value.bool true)), none, 0⟩])
 (.block 0
 (.loop
 (.block 1
 (.seq
 (.ops [⟨some 21, .move (Operand.tmp 2), none, 0⟩,
 ⟨some 22, .move (Operand.tmp 1), none, 0⟩,
 ⟨some 23, .binOp BinOp.sub 3 (Operand.tmp 21) (Operand.tmp 22) 3, none, 0⟩,
 ⟨some 12, .assign (Operand.tmp 23), none, 0⟩])
 (.seq
 (.seq
 (.ops [⟨some 24, .move (Operand.tmp 12), none, 0⟩,
 ⟨some 25, .binOp BinOp.leq 3 (Operand.tmp 24) (Operand.const (Value.int IntKind.i64 12)) 3, none, 0⟩])
 (.cond (Operand.tmp 25)
 (.seq
 (.ops [⟨some 26, .move (Operand.tmp 0), none, 0⟩,
 ⟨some 27, .move (Operand.tmp 1), none, 0⟩,
 ⟨some 28, .move (Operand.tmp 2), none, 0⟩,
 ⟨some 29, .move (Operand.tmp 4), none, 0⟩,
 ⟨some 30, .call ⟨(Callee.value (Operand.func 44)), [(Operand.tmp 26), (Operand.tmp 27), (Operand.tmp 28), (Operand.tmp 29)].toArray, #[22, 3, 3, 54]⟩, none, 0⟩])
 .ret)
 .skip))
 (.seq
 (.seq
 (.ops [⟨some 31, .move (Operand.tmp 3), none, 0⟩,
 ⟨some 32, .binOp BinOp.eql 3 (Operand.tmp 31) (Operand.const (Value.int IntKind.i64 0)) 3, none, 0⟩])
 (.cond (Operand.tmp 32)
 (.seq
 (.ops [⟨some 33, .move (Operand.tmp 0), none, 0⟩,
 ⟨some 34, .move (Operand.tmp 1), none, 0⟩,
 ⟨some 35, .move (Operand.tmp 2), none, 0⟩,
 ⟨some 36, .move (Operand.tmp 4), none, 0⟩,
 ⟨some 37, .call ⟨(Callee.value (Operand.func 45)), [(Operand.tmp 33), (Operand.tmp 34), (Operand.tmp 35), (Operand.tmp 36)].toArray, #[22, 3, 3, 54]⟩, none, 0⟩])
 .ret)
 .skip))
 (.seq
 (.seq
 (.ops [⟨some 38, .move (Operand.tmp 10), none, 0⟩,
 ⟨some 39, .unOp UnOp.not 4 (Operand.tmp 38), none, 0⟩])
 (.cond (Operand.tmp 39)
 (.seq
 (.ops [⟨some 40, .move (Operand.tmp 0), none, 0⟩,
 ⟨some 41, .move (Operand.tmp 1), none, 0⟩,
 ⟨some 42, .move (Operand.tmp 2), none, 0⟩,
 ⟨some 43, .move (Operand.tmp 4), none, 0⟩,
 ⟨some 44, .call ⟨(Callee.value (Operand.func 46)), [(Operand.tmp 40), (Operand.tmp 41), (Operand.tmp 42), (Operand.tmp 43)].toArray, #[22, 3, 3, 54]⟩, none, 0⟩])
 (.ops [⟨some 45, .move (Operand.tmp 3), none, 0⟩,
 ⟨some 46, .binOp BinOp.sub 3 (Operand.tmp 45) (Operand.const (Value.int IntKind.i64 1)) 3, none, 0⟩,
 ⟨some 3, .assign (Operand.tmp 46), none, 0⟩]))
 .skip))
 (.seq
 (.ops [⟨some 48, .move (Operand.tmp 0), none, 0⟩,
 ⟨some 49, .move (Operand.tmp 1), none, 0⟩,
 ⟨some 50, .move (Operand.tmp 2), none, 0⟩,
 ⟨some 51, .move (Operand.tmp 4), none, 0⟩,
 ⟨some 52, .call ⟨(Callee.value (Operand.func 47)), [(Operand.tmp 48), (Operand.tmp 49), (Operand.tmp 50), (Operand.tmp 51)].toArray, #[22, 3, 3, 54]⟩, none, 0⟩,
 ⟨some 47, .move (Operand.tmp 52), none, 0⟩,
 ⟨some 53, .extract (Operand.tmp 47) 0, none, 0⟩,
 ⟨some 54, .extract (Operand.tmp 47) 1, none, 0⟩,
 ⟨some 13, .assign (Operand.tmp 53), none, 0⟩,
 ⟨some 14, .assign (Operand.tmp 54), none, 0⟩])
 (.seq
 (.seq
 (.ops [⟨some 55, .move (Operand.tmp 14), none, 0⟩,
 ⟨some 56, .binOp BinOp.eql 82 (Operand.tmp 55) (Operand.const (Value.int IntKind.i64 2)) 82, none, 0⟩])
 (.cond (Operand.tmp 56)
 (.seq
 (.ops [⟨some 57, .move (Operand.tmp 0), none, 0⟩,
 ⟨some 58, .move (Operand.tmp 1), none, 0⟩,
 ⟨some 59, .move (Operand.tmp 2), none, 0⟩,
 ⟨some 60, .move (Operand.tmp 4), none, 0⟩,
 ⟨some 61, .call ⟨(Callee.value (Operand.func 48)), [(Operand.tmp 57), (Operand.tmp 58), (Operand.tmp 59), (Operand.tmp 60)].toArray, #[22, 3, 3, 54]⟩, none, 0⟩])
 (.seq
 (.ops [⟨some 62, .move (Operand.tmp 2), none, 0⟩,
 ⟨some 63, .binOp BinOp.sub 3 (Operand.tmp 62) (Operand.const (Value.int IntKind.i64 1)) 3, none, 0⟩,
 ⟨some 64, .move (Operand.tmp 13), none, 0⟩,
 ⟨some 65, .move (Operand.tmp 1), none, 0⟩,
 ⟨some 66, .binOp BinOp.sub 3 (Operand.tmp 64) (Operand.tmp 65) 3, none, 0⟩,
 ⟨some 67, .binOp BinOp.sub 3 (Operand.tmp 63) (Operand.tmp 66) 3, none, 0⟩,
 ⟨some 13, .assign (Operand.tmp 67), none, 0⟩])
 (.ops [⟨some 14, .assign (Operand.const (Value.int IntKind.i64 1)), none, 0⟩])))
 .skip))
 (.seq
 (.seq
 (.ops [⟨some 68, .move (Operand.tmp 10), none, 0⟩,
 ⟨some 69, .move (Operand.tmp 68), none, 0⟩,
 ⟨some 70, .move (Operand.tmp 11), some (69, true), 0⟩,
 ⟨some 71, .pick (Operand.tmp 69) (Operand.tmp 70) (Operand.const (Value.bool false)), none, 0⟩,
 ⟨some 72, .move (Operand.tmp 71), none, 0⟩,
 ⟨some 73, .move (Operand.tmp 14), some (72, true), 0⟩,
 ⟨some 74, .binOp BinOp.eql 82 (Operand.tmp 73) (Operand.const (Value.int IntKind.i64 1)) 82, some (72, true), 0⟩,
 ⟨some 75, .pick (Operand.tmp 72) (Operand.tmp 74) (Operand.const (Value.bool false)), none, 0⟩])
 (.cond (Operand.tmp 75)
 (.seq
 (.ops [⟨some 76, .move (Operand.tmp 0), none, 0⟩,
 ⟨some 77, .move (Operand.tmp 1), none, 0⟩,
 ⟨some 78, .move (Operand.tmp 2), none, 0⟩,
 ⟨some 79, .move (Operand.tmp 4), none, 0⟩,
 ⟨some 80, .call ⟨(Callee.value (Operand.func 49)), [(Operand.tmp 76), (Operand.tmp 77), (Operand.tmp 78), (Operand.tmp 79)].toArray, #[22, 3, 3, 54]⟩, none, 0⟩])
 (.cond (Operand.tmp 80)
 .ret
 .skip))
 .skip))
 (.seq
 (.seq
 (.draw [⟨some 81, .move (Operand.tmp 1), none, 0⟩,
 ⟨some 82, .binOp BinOp.gtr 3 (Operand.tmp 81) (Operand.const (Value.int IntKind.i64 0)) 3, none, 0⟩,
 ⟨some 83, .move (Operand.tmp 82), none, 0⟩,
 ⟨some 84, .move (Operand.tmp 4), some (83, true), 0⟩,
 ⟨some 85, .move (Operand.tmp 0), some (83, true), 0⟩,
 ⟨some 86, .move (Operand.tmp 1), some (83, true), 0⟩,
 ⟨some 87, .binOp BinOp.sub 3 (Operand.tmp 86) (Operand.const (Value.int IntKind.i64 1)) 3, some (83, true), 0⟩,
 ⟨some 88, .indexAddr 22 (Operand.tmp 85) (Operand.tmp 87), some (83, true), 0⟩,
 ⟨some 89, .load 25 (Operand.tmp 88), some (83, true), 0⟩,
 ⟨some 90, .move (Operand.tmp 0), some (83, true), 0⟩,
 ⟨some 91, .move (Operand.tmp 13), some (83, true), 0⟩,
 ⟨some 92, .indexAddr 22 (Operand.tmp 90) (Operand.tmp 91), some (83, true), 0⟩,
 ⟨some 93, .load 25 (Operand.tmp 92), some (83, true), 0⟩,
 ⟨some 94, .call ⟨(Callee.value (Operand.tmp 84)), [(Operand.tmp 89), (Operand.tmp 93)].toArray, #[25, 25]⟩, some (83, true), 0⟩,
 ⟨some 95, .binOp BinOp.lss 3 (Operand.tmp 94) (Operand.const (Value.int IntKind.i64 0)) 3, some (83, true), 0⟩,
 ⟨some 96, .unOp UnOp.not 4 (Operand.tmp 95), some (83, true), 0⟩,
 ⟨some 97, .pick (Operand.tmp 83) (Operand.tmp 96) (Operand.const (Value.bool false)), none, 0⟩] true [13, 14, 15, 16] [0, 1, 2, 3, 4, 5, 6, 7, 9, 10, 11, 8, 12, 13, 14, 15, 16])
 (.cond (Operand.tmp 97)
 (.seq
 (.ops [⟨some 98, .move (Operand.tmp 0), none, 0⟩,
 ⟨some 99, .move (Operand.tmp 1), none, 0⟩,
 ⟨some 100, .move (Operand.tmp 2), none, 0⟩,
 ⟨some 101, .move (Operand.tmp 13), none, 0⟩,
 ⟨some 102, .move (Operand.tmp 4), none, 0⟩,
 ⟨some 103, .call ⟨(Callee.value (Operand.func 50)), [(Operand.tmp 98), (Operand.tmp 99), (Operand.tmp 100), (Operand.tmp 101), (Operand.tmp 102)].toArray, #[22, 3, 3, 3, 54]⟩, none, 0⟩,
 ⟨some 15, .assign (Operand.tmp 103), none, 0⟩])
 (.seq
 (.ops [⟨some 104, .move (Operand.tmp 15), none, 0⟩,
 ⟨some 1, .assign (Operand.tmp 104), none, 0⟩])
 (.exit 1)))
 .skip))
 (.seq
 (.ops [⟨some 106, .move (Operand.tmp 0), none, 0⟩,
 ⟨some 107, .move (Operand.tmp 1), none, 0⟩,
 ⟨some 108, .move (Operand.tmp 2), none, 0⟩,
 ⟨some 109, .move (Operand.tmp 13), none, 0⟩,
 ⟨some 110, .move (Operand.tmp 4), none, 0⟩,
 ⟨some 111, .call ⟨(Callee.value (Operand.func 51)), [(Operand.tmp 106), (Operand.tmp 107), (Operand.tmp 108), (Operand.tmp 109), (Operand.tmp 110)].toArray, #[22, 3, 3, 3, 54]⟩, none, 0⟩,
 ⟨some 105, .move (Operand.tmp 111), none, 0⟩,
 ⟨some 112, .extract (Operand.tmp 105) 0, none, 0⟩,
 ⟨some 113, .extract (Operand.tmp 105) 1, none, 0⟩,
 ⟨some 16, .assign (Operand.tmp 112), none, 0⟩,
 ⟨some 17, .assign (Operand.tmp 113), none, 0⟩])
 (.seq
 (.ops [⟨some 114, .move (Operand.tmp 17), none, 0⟩,
 ⟨some 11, .assign (Operand.tmp 114), none, 0⟩])
 (.seq
 (.ops [⟨some 115, .move (Operand.tmp 16), none, 0⟩,
 ⟨some 116, .move (Operand.tmp 1), none, 0⟩,
 ⟨some 117, .binOp BinOp.sub 3 (Operand.tmp 115) (Operand.tmp 116) 3, none, 0⟩,
 ⟨some 118, .move (Operand.tmp 2), none, 0⟩,
 ⟨some 119, .move (Operand.tmp 16), none, 0⟩,
 ⟨some 120, .binOp BinOp.sub 3 (Operand.tmp 118) (Operand.tmp 119) 3, none, 0⟩,
 ⟨some 18, .assign (Operand.tmp 117), none, 0⟩,
 ⟨some 19, .assign (Operand.tmp 120), none, 0⟩])
 (.seq
 (.ops [⟨some 121, .move (Operand.tmp 12), none, 0⟩,
 ⟨some 122, .binOp BinOp.quo 3 (Operand.tmp 121) (Operand.const (Value.int IntKind.i64 8)) 3, none, 0⟩,
 ⟨some 20, .assign (Operand.tmp 122), none, 0⟩])
 (.seq
 (.ops [⟨some 123, .move (Operand.tmp 18), none, 0⟩,
 ⟨some 124, .move (Operand.tmp 19), none, 0⟩,
 ⟨some 125, .binOp BinOp.lss 3 (Operand.tmp 123) (Operand.tmp 124) 3, none, 0⟩])
 (.cond (Operand.tmp 125)
 (.seq
 (.ops [⟨some 126, .move (Operand.tmp 18), none, 0⟩,
 ⟨some 127, .move (Operand.tmp 20), none, 0⟩,
 ⟨some 128, .binOp BinOp.geq 3 (Operand.tmp 126) (Operand.tmp 127) 3, none, 0⟩,
 ⟨some 10, .assign (Operand.tmp 128), none, 0⟩])
 (.seq
 (.ops [⟨some 129, .move (Operand.tmp 0), none, 0⟩,
 ⟨some 130, .move (Operand.tmp 1), none, 0⟩,
 ⟨some 131, .move (Operand.tmp 16), none, 0⟩,
 ⟨some 132, .move (Operand.tmp 3), none, 0⟩,
 ⟨some 133, .move (Operand.tmp 4), none, 0⟩,
 ⟨some 134, .call ⟨(Callee.value (Operand.func 31)), [(Operand.tmp 129), (Operand.tmp 130), (Operand.tmp 131), (Operand.tmp 132), (Operand.tmp 133)].toArray, #[22, 3, 3, 3, 54]⟩, none, 0⟩])
 (.ops [⟨some 135, .move (Operand.tmp 16), none, 0⟩,
 ⟨some 136, .binOp BinOp.add 3 (Operand.tmp 135) (Operand.const (Value.int IntKind.i64 1)) 3, none, 0⟩,
 ⟨some 1, .assign (Operand.tmp 136), none, 0⟩])))
 (.seq
 (.ops [⟨some 137, .move (Operand.tmp 19), none, 0⟩,
 ⟨some 138, .move (Operand.tmp 20), none, 0⟩,
 ⟨some 139, .binOp BinOp.geq 3 (Operand.tmp 137) (Operand.tmp 138) 3, none, 0⟩,
 ⟨some 10, .assign (Operand.tmp 139), none, 0⟩])
 (.seq
 (.ops [⟨some 140, .move (Operand.tmp 0), none, 0⟩,
 ⟨some 141, .move (Operand.tmp 16), none, 0⟩,
 ⟨some 142, .binOp BinOp.add 3 (Operand.tmp 141) (Operand.const (Value.int IntKind.i64 1)) 3, none, 0⟩,
 ⟨some 143, .move (Operand.tmp 2), none, 0⟩,
 ⟨some 144, .move (Operand.tmp 3), none, 0⟩,
 ⟨some 145, .move (Operand.tmp 4), none, 0⟩,
 ⟨some 146, .call ⟨(Callee.value (Operand.func 31)), [(Operand.tmp 140), (Operand.tmp 142), (Operand.tmp 143), (Operand.tmp 144), (Operand.tmp 145)].toArray, #[22, 3, 3, 3, 54]⟩, none, 0⟩])
 (.ops [⟨some 147, .move (Operand.tmp 16), none, 0⟩,
 ⟨some 2, .assign (Operand.tmp 147), none, 0⟩]))))))))))))))))))))))
abbrev R31 : List ResultVar := []
theorem ok31 : FnOK Tryd.prog 31 L31 R31 5 := ⟨_, _, Tryd.func31, rfl, by kernel_rfl, by kernel_rfl, by kernel_rfl, by kernel_rfl, Nat.le_of_ble_eq_true (by kernel_rfl), by kernel_rfl⟩

/-- math/bits.Len -/
def L32 : LCode :=
 (.seq
 (.ops [⟨some 2, .assign (Operand.const (Value.int IntKind.i64 0)), none, 0⟩])
 (.seq
 (.cond (Operand.const (Value.bool false))
 (.seq
 (.ops [⟨some 3, .move (Operand.tmp 0), none, 0⟩,
 ⟨some 4, .convert 67 90 (Operand.tmp 3), none, 0⟩,
 ⟨some 5, .call ⟨(Callee.value (Operand.func 52)), [(Operand.tmp 4)].toArray, #[90]⟩, none, 0⟩,
 ⟨some 2, .assign (Operand.tmp 5), none, 0⟩])
 .ret)
 .skip)
 (.seq
 (.ops [⟨some 6, .move (Operand.tmp 0), none, 0⟩,
 ⟨some 7, .call ⟨(Callee.value (Operand.func 53)), [(Operand.tmp 6)].toArray, #[92]⟩, none, 0⟩,
 ⟨some 2, .assign (Operand.tmp 7), none, 0⟩])
 .ret)))
abbrev R32 : List ResultVar := [ResultVar.tmp 2]
theorem ok32 : FnOK Tryd.prog 32 L32 R32 1 := ⟨_, _, Tryd.func32, rfl, by kernel_rfl, by kernel_rfl, by kernel_rfl, by kernel_rfl, Nat.le_of_ble_eq_true (by kernel_rfl), by kernel_rfl⟩

/-- cmp.Compare[int] -/
def L33 : LCode :=
 (.seq
 (.ops [⟨some 4, .assign (Operand.const (Value.int IntKind.i64 0)), none, 0⟩])
 (.seq
 (.ops [⟨some 7, .move (Operand.tmp 0), none, 0⟩,
 ⟨some 8, .call ⟨(Callee.value (Operand.func 54)), [(Operand.tmp 7)].toArray, #[3]⟩, none, 0⟩,
 ⟨some 5, .assign (Operand.tmp 8), none, 0⟩])
 (.seq
 (.ops [⟨some 9, .move (Operand.tmp 1), none, 0⟩,
 ⟨some 10, .call ⟨(Callee.value (Operand.func 54)), [(Operand.tmp 9)].toArray, #[3]⟩, none, 0⟩,
 ⟨some 6, .assign (Operand.tmp 10), none, 0⟩])
 (.seq
 (.seq
 (.ops [⟨some 11, .move (Operand.tmp 5), none, 0⟩])
 (.cond (Operand.tmp 11)
 (.seq
 (.seq
 (.ops [⟨some 12, .move (Operand.tmp 6), none, 0⟩])
 (.cond (Operand.tmp 12)
 (.seq
 (.ops [⟨some 4, .assign (Operand.const (Value.int IntKind.i64 0)), none, 0⟩])
 .ret)
 .skip))
 (.seq
 (.ops [⟨some 4, .assign (Operand.const (Value.int IntKind.i64 (-1))), none, 0⟩])
 .ret))
 .skip))
 (.seq
 (.seq
 (.ops [⟨some 13, .move (Operand.tmp 6), none, 0⟩])
 (.cond (Operand.tmp 13)
 (.seq
 (.ops [⟨some 4, .assign (Operand.const (Value.int IntKind.i64 1)), none, 0⟩])
 .ret)
 .skip))
 (.seq
 (.seq
 (.ops [⟨some 14, .move (Operand.tmp 0), none, 0⟩,
 ⟨some 15, .move (Operand.tmp 1), none, 0⟩,
 ⟨some 16, .binOp BinOp.lss 3 (Operand.tmp 14) (Operand.tmp 15) 3, none, 0⟩])
 (.cond (Operand.tmp 16)
 (.seq
 (.ops [⟨some 4, .assign (Operand.const (Value.int IntKind.i64 (-1))), none, 0⟩])
 .ret)
 .skip))
 (.seq
 (.seq
 (.ops [⟨some 17, .move (Operand.tmp 0), none, 0⟩,
 ⟨some 18, .move (Operand.tmp 1), none, 0⟩,
 ⟨some 19, .binOp BinOp.gtr 3 (Operand.tmp 17) (Operand.tmp 18) 3, none, 0⟩])
 (.cond (Operand.tmp 19)
 (.seq
 (.ops [⟨some 4, .assign (Operand.const (Value.int IntKind.i64 1)), none, 0⟩])
 .ret)
 .skip))
 (.seq
 (.ops [⟨some 4, .assign (Operand.const (Value.int IntKind.i64 0)), none, 0⟩])
 .ret))))))))
abbrev R33 : List ResultVar := [ResultVar.tmp 4]
theorem ok33 : FnOK Tryd.prog 33 L33 R33 2 := ⟨_, _, Tryd.func33, rfl, by kernel_rfl, by kernel_rfl, by kernel_rfl, by kernel_rfl, Nat.le_of_ble_eq_true (by kernel_rfl), by kernel_rfl⟩

/-- slices.Compare[[]string,string] -/
def L34 : LCode :=
 (.seq
 (.ops [⟨some 4, .assign (Operand.const (Value.int IntKind.i64 0)), none, 0⟩])
 (.seq
 (.seq
 (.ops [⟨some 9, .move (Operand.tmp 0), none, 0⟩,
 ⟨some 10, .call ⟨(Callee.builtin Builtin.len), [(Operand.tmp 9)].toArray, #[23]⟩, none, 0⟩,
 ⟨some 11, .move (Operand.const (Value.int IntKind.i64 0)), none, 0⟩])
 (.block 0
 (.loop
 (.seq
 (.ops [⟨some 12, .binOp BinOp.lss 3 (Operand.tmp 11) (Operand.tmp 10) 3, none, 0⟩])
 (.seq
 (.cond (Operand.tmp 12)
 .skip
 (.exit 0))
 (.seq
 (.block 1
 (.seq
 (.ops [⟨some 13, .move (Operand.tmp 11), none, 0⟩,
 ⟨some 14, .indexAddr 23 (Operand.tmp 9) (Operand.tmp 11), none, 0⟩,
 ⟨some 15, .load 9 (Operand.tmp 14), none, 0⟩,
 ⟨some 5, .assign (Operand.tmp 13), none, 0⟩,
 ⟨some 6, .assign (Operand.tmp 15), none, 0⟩])
 (.seq
 (.seq
 (.ops [⟨some 16, .move (Operand.tmp 5), none, 0⟩,
 ⟨some 17, .move (Operand.tmp 1), none, 0⟩,
 ⟨some 18, .call ⟨(Callee.builtin Builtin.len), [(Operand.tmp 17)].toArray, #[23]⟩, none, 0⟩,
 ⟨some 19, .binOp BinOp.geq 3 (Operand.tmp 16) (Operand.tmp 18) 3, none, 0⟩])
 (.cond (Operand.tmp 19)
 (.seq
 (.ops [⟨some 4, .assign (Operand.const (Value.int IntKind.i64 1)), none, 0⟩])
 .ret)
 .skip))
 (.seq
 (.ops [⟨some 20, .move (Operand.tmp 1), none, 0⟩,
 ⟨some 21, .move (Operand.tmp 5), none, 0⟩,
 ⟨some 22, .indexAddr 23 (Operand.tmp 20) (Operand.tmp 21), none, 0⟩,
 ⟨some 23, .load 9 (Operand.tmp 22), none, 0⟩,
 ⟨some 7, .assign (Operand.tmp 23), none, 0⟩])
 (.seq
 (.ops [⟨some 24, .move (Operand.tmp 6), none, 0⟩,
 ⟨some 25, .move (Operand.tmp 7), none, 0⟩,
 ⟨some 26, .call ⟨(Callee.value (Operand.func 22)), [(Operand.tmp 24), (Operand.tmp 25)].toArray, #[9, 9]⟩, none, 0⟩,
 ⟨some 8, .assign (Operand.tmp 26), none, 0⟩])
 (.seq
 (.ops [⟨some 27, .move (Operand.tmp 8), none, 0⟩,
 ⟨some 28, .binOp BinOp.neq 3 (Operand.tmp 27) (Operand.const (Value.int IntKind.i64 0)) 3, none, 0⟩])
 (.cond (Operand.tmp 28)
 (.seq
 (.ops [⟨some 29, .move (Operand.tmp 8), none, 0⟩,
 ⟨some 4, .assign (Operand.tmp 29), none, 0⟩])
 .ret)
 .skip)))))))
 (.ops [⟨some 30, .binOp BinOp.add 3 (Operand.tmp 11) (Operand.const (Value.int IntKind.i64 1)) 3, none, 0⟩,
 ⟨some 11, .move (Operand.tmp 30), none, 0⟩])))))))
 (.seq
 (.seq
 (.ops [⟨some 31, .move (Operand.tmp 0), none, 0⟩,
 ⟨some 32, .call ⟨(Callee.builtin Builtin.len), [(Operand.tmp 31)].toArray, #[23]⟩, none, 0⟩,
 ⟨some 33, .move (Operand.tmp 1), none, 0⟩,
 ⟨some 34, .call ⟨(Callee.builtin Builtin.len), [(Operand.tmp 33)].toArray, #[23]⟩, none, 0⟩,
 ⟨some 35, .binOp BinOp.lss 3 (Operand.tmp 32) (Operand.tmp 34) 3, none, 0⟩])
 (.cond (Operand.tmp 35)
 (.seq
 (.ops [⟨some 4, .assign (Operand.const (Value.int IntKind.i64 (-1))), none, 0⟩])
 .ret)
 .skip))
 (.seq
 (.ops [⟨some 4, .assign (Operand.const (Value.int IntKind.i64 0)), none, 0⟩])
 .ret))))
abbrev R34 : List ResultVar := [ResultVar.tmp 4]
theorem ok34 : FnOK Tryd.prog 34 L34 R34 2 := ⟨_, _, Tryd.func34, rfl, by kernel_rfl, by kernel_rfl, by kernel_rfl, by kernel_rfl, Nat.le_of_ble_eq_true (by kernel_rfl), by kernel_rfl⟩

/-- cmp.isNaN[string] -/
def L35 : LCode :=
 (.seq
 (.ops [⟨some 2, .assign (Operand.const (Value.bool false)), none, 0⟩])
 (.seq
 (.ops [⟨some 3, .move (Operand.tmp 0), none, 0⟩,
 ⟨some 4, .move (Operand.tmp 0), none, 0⟩,
 ⟨some 5, .binOp BinOp.neq 9 (Operand.tmp 3) (Operand.tmp 4) 9, none, 0⟩,
 ⟨some 2, .assign (Operand.tmp 5), none, 0⟩])
 .ret))
abbrev R35 : List ResultVar := [ResultVar.tmp 2]
theorem ok35 : FnOK Tryd.prog 35 L35 R35 1 := ⟨_, _, Tryd.func35, rfl, by kernel_rfl, by kernel_rfl, by kernel_rfl, by kernel_rfl, Nat.le_of_ble_eq_true (by kernel_rfl), by kernel_rfl⟩

/-- slices.ContainsFunc[[]string,string] -/
def L36 : LCode :=
 (.seq
 (.ops [⟨some 4, .assign (Operand.const (Value.bool false)), none, 0⟩])
 (.seq
 (.ops [⟨some 5, .move (Operand.tmp 0), none, 0⟩,
 ⟨some 6, .move (Operand.tmp 1), none, 0⟩,
 ⟨some 7, .call ⟨(Callee.value (Operand.func 55)), [(Operand.tmp 5), (Operand.tmp 6)].toArray, #[23, 62]⟩, none, 0⟩,
 ⟨some 8, .binOp BinOp.geq 3 (Operand.tmp 7) (Operand.const (Value.int IntKind.i64 0)) 3, none, 0⟩,
 ⟨some 4, .assign (Operand.tmp 8), none, 0⟩])
 .ret))
abbrev R36 : List ResultVar := [ResultVar.tmp 4]
theorem ok36 : FnOK Tryd.prog 36 L36 R36 2 := ⟨_, _, Tryd.func36, rfl, by kernel_rfl, by kernel_rfl, by kernel_rfl, by kernel_rfl, Nat.le_of_ble_eq_true (by kernel_rfl), by kernel_rfl⟩

/-- ablaut/syms.isLong -/
def L37 : LCode :=
 (.seq
 (.ops [⟨some 2, .assign (Operand.const (Value.bool false)), none, 0⟩])
 (.seq
 (.ops [⟨some 3, .move (Operand.tmp 0), none, 0⟩,
 ⟨some 4, .call ⟨(Callee.builtin Builtin.len), [(Operand.tmp 3)].toArray, #[9]⟩, none, 0⟩,
 ⟨some 5, .binOp BinOp.gtr 3 (Operand.tmp 4) (Operand.const (Value.int IntKind.i64 16)) 3, none, 0⟩,
 ⟨some 2, .assign (Operand.tmp 5), none, 0⟩])
 .ret))
abbrev R37 : List ResultVar := [ResultVar.tmp 2]
theorem ok37 : FnOK Tryd.prog 37 L37 R37 1 := ⟨_, _, Tryd.func37, rfl, by kernel_rfl, by kernel_rfl, by kernel_rfl, by kernel_rfl, Nat.le_of_ble_eq_true (by kernel_rfl), by kernel_rfl⟩

/-- ablaut/syms.ValidateWord$1 -/
def L38 : LCode :=
 (.seq
 (.ops [⟨some 2, .assign (Operand.const (Value.bool false)), none, 0⟩])
 (.seq
 (.ops [⟨some 3, .move (Operand.tmp 0), none, 0⟩,
 ⟨some 4, .call ⟨(Callee.value (Operand.func 39)), [(Operand.tmp 3)].toArray, #[9]⟩, none, 0⟩,
 ⟨some 5, .unOp UnOp.not 4 (Operand.tmp 4), none, 0⟩,
 ⟨some 2, .assign (Operand.tmp 5), none, 0⟩])
 .ret))
abbrev R38 : List ResultVar := [ResultVar.tmp 2]
theorem ok38 : FnOK Tryd.prog 38 L38 R38 1 := ⟨_, _, Tryd.func38, rfl, by kernel_rfl, by kernel_rfl, by kernel_rfl, by kernel_rfl, Nat.le_of_ble_eq_true (by kernel_rfl), by kernel_rfl⟩

/-- ablaut/syms.isSymbol -/
def L39 : LCode :=
 (.seq
 (.ops [⟨some 2, .assign (Operand.const (Value.bool false)), none, 0⟩])
 (.seq
 (.seq
 (.ops [⟨some 4, .move (Operand.tmp 0), none, 0⟩,
 ⟨some 5, .call ⟨(Callee.builtin Builtin.len), [(Operand.tmp 4)].toArray, #[9]⟩, none, 0⟩,
 ⟨some 6, .move (Operand.const (Value.int IntKind.i64 0)), none, 0⟩])
 (.block 0
 (.loop
 (.seq
 (.ops [⟨some 7, .binOp BinOp.lss 3 (Operand.tmp 6) (Operand.tmp 5) 3, none, 0⟩])
 (.seq
 (.cond (Operand.tmp 7)
 .skip
 (.exit 0))
 (.seq
 (.block 1
 (.seq
 (.ops [⟨some 8, .move (Operand.tmp 6), none, 0⟩,
 ⟨some 3, .assign (Operand.tmp 8), none, 0⟩])
 (.seq
 (.ops [⟨some 9, .move (Operand.tmp 0), none, 0⟩,
 ⟨some 10, .move (Operand.tmp 3), none, 0⟩,
 ⟨some 11, .index 9 (Operand.tmp 9) (Operand.tmp 10), none, 0⟩,
 ⟨some 12, .binOp BinOp.lss 5 (Operand.tmp 11) (Operand.const (Value.int IntKind.u8 33)) 5, none, 0⟩,
 ⟨some 13, .move (Operand.tmp 12), none, 0⟩,
 ⟨some 14, .move (Operand.tmp 0), some (13, false), 0⟩,
 ⟨some 15, .move (Operand.tmp 3), some (13, false), 0⟩,
 ⟨some 16, .index 9 (Operand.tmp 14) (Operand.tmp 15), some (13, false), 0⟩,
 ⟨some 17, .binOp BinOp.gtr 5 (Operand.tmp 16) (Operand.const (Value.int IntKind.u8 126)) 5, some (13, false), 0⟩,
 ⟨some 18, .pick (Operand.tmp 13) (Operand.const (Value.bool true)) (Operand.tmp 17), none, 0⟩,
 ⟨some 19, .move (Operand.tmp 18), none, 0⟩,
 ⟨some 20, .move (Operand.tmp 0), some (19, false), 0⟩,
 ⟨some 21, .move (Operand.tmp 3), some (19, false), 0⟩,
 ⟨some 22, .index 9 (Operand.tmp 20) (Operand.tmp 21), some (19, false), 0⟩,
 ⟨some 23, .binOp BinOp.eql 5 (Operand.tmp 22) (Operand.const (Value.int IntKind.u8 60)) 5, some (19, false), 0⟩,
 ⟨some 24, .pick (Operand.tmp 19) (Operand.const (Value.bool true)) (Operand.tmp 23), none, 0⟩,
 ⟨some 25, .move (Operand.tmp 24), none, 0⟩,
 ⟨some 26, .move (Operand.tmp 0), some (25, false), 0⟩,
 ⟨some 27, .move (Operand.tmp 3), some (25, false), 0⟩,
 ⟨some 28, .index 9 (Operand.tmp 26) (Operand.tmp 27), some (25, false), 0⟩,
 ⟨some 29, .binOp BinOp.eql 5 (Operand.tmp 28) (Operand.const (Value.int IntKind.u8 62)) 5, some (25, false), 0⟩,
 ⟨some 30, .pick (Operand.tmp 25) (Operand.const (Value.bool true)) (Operand.tmp 29), none, 0⟩])
 (.cond (Operand.tmp 30)
 (.seq
 (.ops [⟨some 2, .assign (Operand.const (Value.bool false)), none, 0⟩])
 .ret)
 .skip))))
 (.ops [⟨some 31, .binOp BinOp.add 3 (Operand.tmp 6) (Operand.const (Value.int IntKind.i64 1)) 3, none, 0⟩,
 ⟨some 6, .move (Operand.tmp 31), none, 0⟩])))))))
 (.seq
 (.ops [⟨some 32, .move (Operand.tmp 0), none, 0⟩,
 ⟨some 33, .binOp BinOp.neq 9 (Operand.tmp 32) (Operand.const (Value.string ⟨#[]⟩)) 9, none, 0⟩,
 ⟨some 2, .assign (Operand.tmp 33), none, 0⟩])
 .ret)))
abbrev R39 : List ResultVar := [ResultVar.tmp 2]
theorem ok39 : FnOK Tryd.prog 39 L39 R39 1 := ⟨_, _, Tryd.func39, rfl, by kernel_rfl, by kernel_rfl, by kernel_rfl, by kernel_rfl, Nat.le_of_ble_eq_true (by kernel_rfl), by kernel_rfl⟩

/-- (*strings.Builder).Grow -/
def L40 : LCode :=
 (.seq
 (.ops [⟨some 4, .move (Operand.tmp 0), none, 0⟩,
 ⟨some 5, .call ⟨(Callee.value (Operand.func 56)), [(Operand.tmp 4)].toArray, #[70]⟩, none, 0⟩])
 (.seq
 (.seq
 (.ops [⟨some 6, .move (Operand.tmp 1), none, 0⟩,
 ⟨some 7, .binOp BinOp.lss 3 (Operand.tmp 6) (Operand.const (Value.int IntKind.i64 0)) 3, none, 0⟩])
 (.cond (Operand.tmp 7)
 (.ops [⟨some 8, .makeInterface 9 (Operand.const (Value.string ⟨#[115, 116, 114, 105, 110, 103, 115, 46, 66, 117, 105, 108, 100, 101, 114, 46, 71, 114, 111, 119, 58, 32, 110, 101, 103, 97, 116, 105, 118, 101, 32, 99, 111, 117, 110, 116]⟩)), none, 0⟩,
 ⟨none, .panic (Operand.tmp 8), none, 0⟩])
 .skip))
 (.seq
 (.draw [⟨some 9, .move (Operand.tmp 0), none, 0⟩,
 ⟨some 10, .nilCheck (Operand.tmp 9), none, 0⟩,
 ⟨some 11, .fieldAddr 73 (Operand.tmp 10) 1, none, 0⟩,
 ⟨some 12, .load 71 (Operand.tmp 11), none, 0⟩,
 ⟨some 13, .call ⟨(Callee.builtin Builtin.cap), [(Operand.tmp 12)].toArray, #[71]⟩, none, 0⟩,
 ⟨some 14, .move (Operand.tmp 0), none, 0⟩,
 ⟨some 15, .nilCheck (Operand.tmp 14), none, 0⟩,
 ⟨some 16, .fieldAddr 73 (Operand.tmp 15) 1, none, 0⟩,
 ⟨some 17, .load 71 (Operand.tmp 16), none, 0⟩,
 ⟨some 18, .call ⟨(Callee.builtin Builtin.len), [(Operand.tmp 17)].toArray, #[71]⟩, none, 0⟩,
 ⟨some 19, .binOp BinOp.sub 3 (Operand.tmp 13) (Operand.tmp 18) 3, none, 0⟩,
 ⟨some 20, .move (Operand.tmp 1), none, 0⟩,
 ⟨some 21, .binOp BinOp.lss 3 (Operand.tmp 19) (Operand.tmp 20) 3, none, 0⟩] true [12] [])
 (.cond (Operand.tmp 21)
 (.ops [⟨some 22, .move (Operand.tmp 0), none, 0⟩,
 ⟨some 23, .move (Operand.tmp 1), none, 0⟩,
 ⟨some 24, .call ⟨(Callee.value (Operand.func 57)), [(Operand.tmp 22), (Operand.tmp 23)].toArray, #[70, 3]⟩, none, 0⟩])
 .skip))))
abbrev R40 : List ResultVar := []
theorem ok40 : FnOK Tryd.prog 40 L40 R40 2 := ⟨_, _, Tryd.func40, rfl, by kernel_rfl, by kernel_rfl, by kernel_rfl, by kernel_rfl, Nat.le_of_ble_eq_true (by kernel_rfl), by kernel_rfl⟩

/-- (*strings.Builder).WriteString -/
def L41 : LCode :=
 (.seq
 (.ops [⟨some 4, .assign (Operand.const (Value.int IntKind.i64 0)), none, 0⟩,
 ⟨some 5, .assign (Operand.const Value.nilIface), none, 0⟩])
 (.seq
 (.ops [⟨some 6, .move (Operand.tmp 0), none, 0⟩,
 ⟨some 7, .call ⟨(Callee.value (Operand.func 56)), [(Operand.tmp 6)].toArray, #[70]⟩, none, 0⟩])
 (.seq
 (.ops [⟨some 8, .move (Operand.tmp 0), none, 0⟩,
 ⟨some 9, .move (Operand.tmp 0), none, 0⟩,
 ⟨some 10, .nilCheck (Operand.tmp 9), none, 0⟩,
 ⟨some 11, .fieldAddr 73 (Operand.tmp 10) 1, none, 0⟩,
 ⟨some 12, .load 71 (Operand.tmp 11), none, 0⟩,
 ⟨some 13, .move (Operand.tmp 1), none, 0⟩,
 ⟨some 14, .call ⟨(Callee.builtin Builtin.append), [(Operand.tmp 12), (Operand.tmp 13)].toArray, #[71, 9]⟩, none, 0⟩,
 ⟨some 15, .nilCheck (Operand.tmp 8), none, 0⟩,
 ⟨some 16, .fieldAddr 73 (Operand.tmp 15) 1, none, 0⟩,
 ⟨none, .store 71 (Operand.tmp 16) (Operand.tmp 14), none, 0⟩])
 (.seq
 (.ops [⟨some 17, .move (Operand.tmp 1), none, 0⟩,
 ⟨some 18, .call ⟨(Callee.builtin Builtin.len), [(Operand.tmp 17)].toArray, #[9]⟩, none, 0⟩,
 ⟨some 4, .assign (Operand.tmp 18), none, 0⟩,
 ⟨some 5, .assign (Operand.const Value.nilIface), none, 0⟩])
 .ret))))
abbrev R41 : List ResultVar := [ResultVar.tmp 4, ResultVar.tmp 5]
theorem ok41 : FnOK Tryd.prog 41 L41 R41 2 := ⟨_, _, Tryd.func41, rfl, by kernel_rfl, by kernel_rfl, by kernel_rfl, by kernel_rfl, Nat.le_of_ble_eq_true (by kernel_rfl), by kernel_rfl⟩

/-- (*strings.Builder).String -/
def L42 : LCode :=
 (.seq
 (.ops [⟨some 2, .assign (Operand.const (Value.string ⟨#[]⟩)), none, 0⟩])
 (.seq
 (.draw [⟨some 3, .move (Operand.tmp 0), none, 0⟩,
 ⟨some 4, .nilCheck (Operand.tmp 3), none, 0⟩,
 ⟨some 5, .fieldAddr 73 (Operand.tmp 4) 1, none, 0⟩,
 ⟨some 6, .load 71 (Operand.tmp 5), none, 0⟩,
 ⟨some 7, .call ⟨(Callee.builtin Builtin.unsafeSliceData), [(Operand.tmp 6)].toArray, #[71]⟩, none, 0⟩,
 ⟨some 8, .move (Operand.tmp 0), none, 0⟩,
 ⟨some 9, .nilCheck (Operand.tmp 8), none, 0⟩,
 ⟨some 10, .fieldAddr 73 (Operand.tmp 9) 1, none, 0⟩,
 ⟨some 11, .load 71 (Operand.tmp 10), none, 0⟩,
 ⟨some 12, .call ⟨(Callee.builtin Builtin.len), [(Operand.tmp 11)].toArray, #[71]⟩, none, 0⟩,
 ⟨some 13, .call ⟨(Callee.builtin Builtin.unsafeString), [(Operand.tmp 7), (Operand.tmp 12)].toArray, #[95, 3]⟩, none, 0⟩,
 ⟨some 2, .assign (Operand.tmp 13), none, 0⟩] true [10, 11] [])
 .ret))
abbrev R42 : List ResultVar := [ResultVar.tmp 2]
theorem ok42 : FnOK Tryd.prog 42 L42 R42 1 := ⟨_, _, Tryd.func42, rfl, by kernel_rfl, by kernel_rfl, by kernel_rfl, by kernel_rfl, Nat.le_of_ble_eq_true (by kernel_rfl), by kernel_rfl⟩

/-- strings.genSplit -/
def L43 : LCode :=
 (.seq
 (.ops [⟨some 8, .assign (Operand.const (Value.slice none 0 0)), none, 0⟩])
 (.seq
 (.seq
 (.ops [⟨some 12, .move (Operand.tmp 3), none, 0⟩,
 ⟨some 13, .binOp BinOp.eql 3 (Operand.tmp 12) (Operand.const (Value.int IntKind.i64 0)) 3, none, 0⟩])
 (.cond (Operand.tmp 13)
 (.seq
 (.ops [⟨some 8, .assign (Operand.const (Value.slice none 0 0)), none, 0⟩])
 .ret)
 .skip))
 (.seq
 (.seq
 (.ops [⟨some 14, .move (Operand.tmp 1), none, 0⟩,
 ⟨some 15, .binOp BinOp.eql 9 (Operand.tmp 14) (Operand.const (Value.string ⟨#[]⟩)) 9, none, 0⟩])
 (.cond (Operand.tmp 15)
 (.seq
 (.ops [⟨some 16, .move (Operand.tmp 0), none, 0⟩,
 ⟨some 17, .move (Operand.tmp 3), none, 0⟩,
 ⟨some 18, .call ⟨(Callee.value (Operand.func 58)), [(Operand.tmp 16), (Operand.tmp 17)].toArray, #[9, 3]⟩, none, 0⟩,
 ⟨some 8, .assign (Operand.tmp 18), none, 0⟩])
 .ret)
 .skip))
 (.seq
 (.seq
 (.ops [⟨some 19, .move (Operand.tmp 3), none, 0⟩,
 ⟨some 20, .binOp BinOp.lss 3 (Operand.tmp 19) (Operand.const (Value.int IntKind.i64 0)) 3, none, 0⟩])
 (.cond (Operand.tmp 20)
 (.ops [⟨some 21, .move (Operand.tmp 0), none, 0⟩,
 ⟨some 22, .move (Operand.tmp 1), none, 0⟩,
 ⟨some 23, .call ⟨(Callee.value (Operand.func 59)), [(Operand.tmp 21), (Operand.tmp 22)].toArray, #[9, 9]⟩, none, 0⟩,
 ⟨some 24, .binOp BinOp.add 3 (Operand.tmp 23) (Operand.const (Value.int IntKind.i64 1)) 3, none, 0⟩,
 ⟨some 3, .assign (Operand.tmp 24), none, 0⟩])
 .skip))
 (.seq
 (.ops [⟨some 25, .move (Operand.tmp 3), none, 0⟩,
 ⟨some 26, .move (Operand.tmp 0), none, 0⟩,
 ⟨some 27, .call ⟨(Callee.builtin Builtin.len), [(Operand.tmp 26)].toArray, #[9]⟩, none, 0⟩,
 ⟨some 28, .binOp BinOp.add 3 (Operand.tmp 27) (Operand.const (Value.int IntKind.i64 1)) 3, none, 0⟩,
 ⟨some 29, .call ⟨(Callee.builtin Builtin.min), [(Operand.tmp 25), (Operand.tmp 28)].toArray, #[3, 3]⟩, none, 0⟩,
 ⟨some 3, .assign (Operand.tmp 29), none, 0⟩])
 (.seq
 (.ops [⟨some 30, .move (Operand.tmp 3), none, 0⟩,
 ⟨some 31, .makeSlice 23 (Operand.tmp 30) (Operand.tmp 30), none, 0⟩,
 ⟨some 9, .assign (Operand.tmp 31), none, 0⟩])
 (.seq
 (.ops [⟨some 32, .move (Operand.tmp 3), none, 0⟩,
 ⟨some 33, .binOp BinOp.sub 3 (Operand.tmp 32) (Operand.const (Value.int IntKind.i64 1)) 3, none, 0⟩,
 ⟨some 3, .assign (Operand.tmp 33), none, 0⟩])
 (.seq
 (.ops [⟨some 10, .assign (Operand.const (Value.int IntKind.i64 0)), none, 0⟩])
 (.seq
 (.block 0
 (.loop
 (.seq
 (.seq
 (.ops [⟨some 34, .move (Operand.tmp 10), none, 0⟩,
 ⟨some 35, .move (Operand.tmp 3), none, 0⟩,
 ⟨some 36, .binOp BinOp.lss 3 (Operand.tmp 34) (Operand.tmp 35) 3, none, 0⟩])
 (.cond (Operand.tmp 36)
 .skip
 (.exit 0)))
 (.block 1
 (.seq
 (.ops [⟨some 37, .move (Operand.tmp 0), none, 0⟩,
 ⟨some 38, .move (Operand.tmp 1), none, 0⟩,
 ⟨some 39, .call ⟨(Callee.value (Operand.func 60)), [(Operand.tmp 37), (Operand.tmp 38)].toArray, #[9, 9]⟩, none, 0⟩,
 ⟨some 11, .assign (Operand.tmp 39), none, 0⟩])
 (.seq
 (.seq
 (.ops [⟨some 40, .move (Operand.tmp 11), none, 0⟩,
 ⟨some 41, .binOp BinOp.lss 3 (Operand.tmp 40) (Operand.const (Value.int IntKind.i64 0)) 3, none, 0⟩])
 (.cond (Operand.tmp 41)
 (.exit 0)
 .skip))
 (.seq
 (.ops [⟨some 42, .move (Operand.tmp 9), none, 0⟩,
 ⟨some 43, .move (Operand.tmp 10), none, 0⟩,
 ⟨some 44, .move (Operand.tmp 0), none, 0⟩,
 ⟨some 45, .move (Operand.tmp 11), none, 0⟩,
 ⟨some 46, .move (Operand.tmp 2), none, 0⟩,
 ⟨some 47, .binOp BinOp.add 3 (Operand.tmp 45) (Operand.tmp 46) 3, none, 0⟩,
 ⟨some 48, .slice 9 (Operand.tmp 44) none (some (Operand.tmp 47)) none, none, 0⟩,
 ⟨some 49, .indexAddr 23 (Operand.tmp 42) (Operand.tmp 43), none, 0⟩,
 ⟨none, .store 9 (Operand.tmp 49) (Operand.tmp 48), none, 0⟩])
 (.seq
 (.ops [⟨some 50, .move (Operand.tmp 0), none, 0⟩,
 ⟨some 51, .move (Operand.tmp 11), none, 0⟩,
 ⟨some 52, .move (Operand.tmp 1), none, 0⟩,
 ⟨some 53, .call ⟨(Callee.builtin Builtin.len), [(Operand.tmp 52)].toArray, #[9]⟩, none, 0⟩,
 ⟨some 54, .binOp BinOp.add 3 (Operand.tmp 51) (Operand.tmp 53) 3, none, 0⟩,
 ⟨some 55, .slice 9 (Operand.tmp 50) (some (Operand.tmp 54)) none none, none, 0⟩,
 ⟨some 0, .assign (Operand.tmp 55), none, 0⟩])
 (.ops [⟨some 56, .move (Operand.tmp 10), none, 0⟩,
 ⟨some 57, .binOp BinOp.add 3 (Operand.tmp 56) (Operand.const (Value.int IntKind.i64 1)) 3, none, 0⟩,
 ⟨some 10, .assign (Operand.tmp 57), none, 0⟩])))))))))
 (.seq
 (.ops [⟨some 58, .move (Operand.tmp 9), none, 0⟩,
 ⟨some 59, .move (Operand.tmp 10), none, 0⟩,
 ⟨some 60, .move (Operand.tmp 0), none, 0⟩,
 ⟨some 61, .indexAddr 23 (Operand.tmp 58) (Operand.tmp 59), none, 0⟩,
 ⟨none, .store 9 (Operand.tmp 61) (Operand.tmp 60), none, 0⟩])
 (.seq
 (.ops [⟨some 62, .move (Operand.tmp 9), none, 0⟩,
 ⟨some 63, .move (Operand.tmp 10), none, 0⟩,
 ⟨some 64, .binOp BinOp.add 3 (Operand.tmp 63) (Operand.const (Value.int IntKind.i64 1)) 3, none, 0⟩,
 ⟨some 65, .slice 23 (Operand.tmp 62) none (some (Operand.tmp 64)) none, none, 0⟩,
 ⟨some 8, .assign (Operand.tmp 65), none, 0⟩])
 .ret)))))))))))
abbrev R43 : List ResultVar := [ResultVar.tmp 8]
theorem ok43 : FnOK Tryd.prog 43 L43 R43 4 := ⟨_, _, Tryd.func43, rfl, by kernel_rfl, by kernel_rfl, by kernel_rfl, by kernel_rfl, Nat.le_of_ble_eq_true (by kernel_rfl), by kernel_rfl⟩

/-- slices.insertionSortCmpFunc[ablaut/api.Sample] -/
def L44 : LCode :=
 (.seq
 (.ops [⟨some 10, .move (Operand.tmp 1), none, 0⟩,
 ⟨some 11, .binOp BinOp.add 3 (Operand.tmp 10) (Operand.const (Value.int IntKind.i64 1)) 3, none, 0⟩,
 ⟨some 8, .assign (Operand.tmp 11), none, 0⟩])
 (.block 0
 (.loop
 (.seq
 (.seq
 (.ops [⟨some 12, .move (Operand.tmp 8), none, 0⟩,
 ⟨some 13, .move (Operand.tmp 2), none, 0⟩,
 ⟨some 14, .binOp BinOp.lss 3 (Operand.tmp 12) (Operand.tmp 13) 3, none, 0⟩])
 (.cond (Operand.tmp 14)
 .skip
 (.exit 0)))
 (.seq
 (.block 1
 (.seq
 (.ops [⟨some 17, .move (Operand.tmp 8), none, 0⟩,
 ⟨some 9, .assign (Operand.tmp 17), none, 0⟩])
 (.block 2
 (.loop
 (.seq
 (.seq
 (.draw [⟨some 18, .move (Operand.tmp 9), none, 0⟩,
 ⟨some 19, .move (Operand.tmp 1), none, 0⟩,
 ⟨some 20, .binOp BinOp.gtr 3 (Operand.tmp 18) (Operand.tmp 19) 3, none, 0⟩,
 ⟨some 21, .move (Operand.tmp 20), none, 0⟩,
 ⟨some 22, .move (Operand.tmp 3), some (21, true), 0⟩,
 ⟨some 23, .move (Operand.tmp 0), some (21, true), 0⟩,
 ⟨some 24, .move (Operand.tmp 9), some (21, true), 0⟩,
 ⟨some 25, .indexAddr 22 (Operand.tmp 23) (Operand.tmp 24), some (21, true), 0⟩,
 ⟨some 26, .load 25 (Operand.tmp 25), some (21, true), 0⟩,
 ⟨some 27, .move (Operand.tmp 0), some (21, true), 0⟩,
 ⟨some 28, .move (Operand.tmp 9), some (21, true), 0⟩,
 ⟨some 29, .binOp BinOp.sub 3 (Operand.tmp 28) (Operand.const (Value.int IntKind.i64 1)) 3, some (21, true), 0⟩,
 ⟨some 30, .indexAddr 22 (Operand.tmp 27) (Operand.tmp 29), some (21, true), 0⟩,
 ⟨some 31, .load 25 (Operand.tmp 30), some (21, true), 0⟩,
 ⟨some 32, .call ⟨(Callee.value (Operand.tmp 22)), [(Operand.tmp 26), (Operand.tmp 31)].toArray, #[25, 25]⟩, some (21, true), 0⟩,
 ⟨some 33, .binOp BinOp.lss 3 (Operand.tmp 32) (Operand.const (Value.int IntKind.i64 0)) 3, some (21, true), 0⟩,
 ⟨some 34, .pick (Operand.tmp 21) (Operand.tmp 33) (Operand.const (Value.bool false)), none, 0⟩] true [14, 15, 16] [0, 1, 2, 3, 4, 5, 6, 7, 9, 10, 11, 12, 8, 13, 14, 15, 16])
 (.cond (Operand.tmp 34)
 .skip
 (.exit 2)))
 (.seq
 (.block 3
 (.draw [⟨some 37, .move (Operand.tmp 0), none, 0⟩,
 ⟨some 38, .move (Operand.tmp 9), none, 0⟩,
 ⟨some 39, .move (Operand.tmp 0), none, 0⟩,
 ⟨some 40, .move (Operand.tmp 9), none, 0⟩,
 ⟨some 41, .binOp BinOp.sub 3 (Operand.tmp 40) (Operand.const (Value.int IntKind.i64 1)) 3, none, 0⟩,
 ⟨some 42, .move (Operand.tmp 0), none, 0⟩,
 ⟨some 43, .move (Operand.tmp 9), none, 0⟩,
 ⟨some 44, .binOp BinOp.sub 3 (Operand.tmp 43) (Operand.const (Value.int IntKind.i64 1)) 3, none, 0⟩,
 ⟨some 45, .indexAddr 22 (Operand.tmp 42) (Operand.tmp 44), none, 0⟩,
 ⟨some 46, .load 25 (Operand.tmp 45), none, 0⟩,
 ⟨some 47, .move (Operand.tmp 0), none, 0⟩,
 ⟨some 48, .move (Operand.tmp 9), none, 0⟩,
 ⟨some 49, .indexAddr 22 (Operand.tmp 47) (Operand.tmp 48), none, 0⟩,
 ⟨some 50, .load 25 (Operand.tmp 49), none, 0⟩,
 ⟨some 51, .indexAddr 22 (Operand.tmp 37) (Operand.tmp 38), none, 0⟩,
 ⟨none, .store 25 (Operand.tmp 51) (Operand.tmp 46), none, 0⟩,
 ⟨some 52, .indexAddr 22 (Operand.tmp 39) (Operand.tmp 41), none, 0⟩,
 ⟨none, .store 25 (Operand.tmp 52) (Operand.tmp 50), none, 0⟩] true [16, 17] [0, 1, 2, 3, 4, 5, 6, 7, 8, 10, 11, 12, 9, 13, 14, 15, 16, 17]))
 (.ops [⟨some 35, .move (Operand.tmp 9), none, 0⟩,
 ⟨some 36, .binOp BinOp.sub 3 (Operand.tmp 35) (Operand.const (Value.int IntKind.i64 1)) 3, none, 0⟩,
 ⟨some 9, .assign (Operand.tmp 36), none, 0⟩])))))))
 (.ops [⟨some 15, .move (Operand.tmp 8), none, 0⟩,
 ⟨some 16, .binOp BinOp.add 3 (Operand.tmp 15) (Operand.const (Value.int IntKind.i64 1)) 3, none, 0⟩,
 ⟨some 8, .assign (Operand.tmp 16), none, 0⟩]))))))
abbrev R44 : List ResultVar := []
theorem ok44 : FnOK Tryd.prog 44 L44 R44 4 := ⟨_, _, Tryd.func44, rfl, by kernel_rfl, by kernel_rfl, by kernel_rfl, by kernel_rfl, Nat.le_of_ble_eq_true (by kernel_rfl), by kernel_rfl⟩

/-- slices.heapSortCmpFunc[ablaut/api.Sample] -/
def L45 : LCode :=
 (.seq
 (.ops [⟨some 13, .move (Operand.tmp 1), none, 0⟩,
 ⟨some 8, .assign (Operand.tmp 13), none, 0⟩])
 (.seq
 (.ops [⟨some 9, .assign (Operand.const (Value.int IntKind.i64 0)), none, 0⟩])
 (.seq
 (.ops [⟨some 14, .move (Operand.tmp 2), none, 0⟩,
 ⟨some 15, .move (Operand.tmp 1), none, 0⟩,
 ⟨some 16, .binOp BinOp.sub 3 (Operand.tmp 14) (Operand.tmp 15) 3, none, 0⟩,
 ⟨some 10, .assign (Operand.tmp 16), none, 0⟩])
 (.seq
 (.seq
 (.ops [⟨some 17, .move (Operand.tmp 10), none, 0⟩,
 ⟨some 18, .binOp BinOp.sub 3 (Operand.tmp 17) (Operand.const (Value.int IntKind.i64 1)) 3, none, 0⟩,
 ⟨some 19, .binOp BinOp.quo 3 (Operand.tmp 18) (Operand.const (Value.int IntKind.i64 2)) 3, none, 0⟩,
 ⟨some 11, .assign (Operand.tmp 19), none, 0⟩])
 (.block 0
 (.loop
 (.seq
 (.seq
 (.ops [⟨some 20, .move (Operand.tmp 11), none, 0⟩,
 ⟨some 21, .binOp BinOp.geq 3 (Operand.tmp 20) (Operand.const (Value.int IntKind.i64 0)) 3, none, 0⟩])
 (.cond (Operand.tmp 21)
 .skip
 (.exit 0)))
 (.seq
 (.block 1
 (.ops [⟨some 24, .move (Operand.tmp 0), none, 0⟩,
 ⟨some 25, .move (Operand.tmp 11), none, 0⟩,
 ⟨some 26, .move (Operand.tmp 10), none, 0⟩,
 ⟨some 27, .move (Operand.tmp 8), none, 0⟩,
 ⟨some 28, .move (Operand.tmp 3), none, 0⟩,
 ⟨some 29, .call ⟨(Callee.value (Operand.func 61)), [(Operand.tmp 24), (Operand.tmp 25), (Operand.tmp 26), (Operand.tmp 27), (Operand.tmp 28)].toArray, #[22, 3, 3, 3, 54]⟩, none, 0⟩]))
 (.ops [⟨some 22, .move (Operand.tmp 11), none, 0⟩,
 ⟨some 23, .binOp BinOp.sub 3 (Operand.tmp 22) (Operand.const (Value.int IntKind.i64 1)) 3, none, 0⟩,
 ⟨some 11, .assign (Operand.tmp 23), none, 0⟩]))))))
 (.seq
 (.ops [⟨some 30, .move (Operand.tmp 10), none, 0⟩,
 ⟨some 31, .binOp BinOp.sub 3 (Operand.tmp 30) (Operand.const (Value.int IntKind.i64 1)) 3, none, 0⟩,
 ⟨some 12, .assign (Operand.tmp 31), none, 0⟩])
 (.block 2
 (.loop
 (.seq
 (.seq
 (.ops [⟨some 32, .move (Operand.tmp 12), none, 0⟩,
 ⟨some 33, .binOp BinOp.geq 3 (Operand.tmp 32) (Operand.const (Value.int IntKind.i64 0)) 3, none, 0⟩])
 (.cond (Operand.tmp 33)
 .skip
 (.exit 2)))
 (.seq
 (.block 3
 (.seq
 (.draw [⟨some 36, .move (Operand.tmp 0), none, 0⟩,
 ⟨some 37, .move (Operand.tmp 8), none, 0⟩,
 ⟨some 38, .move (Operand.tmp 0), none, 0⟩,
 ⟨some 39, .move (Operand.tmp 8), none, 0⟩,
 ⟨some 40, .move (Operand.tmp 12), none, 0⟩,
 ⟨some 41, .binOp BinOp.add 3 (Operand.tmp 39) (Operand.tmp 40) 3, none, 0⟩,
 ⟨some 42, .move (Operand.tmp 0), none, 0⟩,
 ⟨some 43, .move (Operand.tmp 8), none, 0⟩,
 ⟨some 44, .move (Operand.tmp 12), none, 0⟩,
 ⟨some 45, .binOp BinOp.add 3 (Operand.tmp 43) (Operand.tmp 44) 3, none, 0⟩,
 ⟨some 46, .indexAddr 22 (Operand.tmp 42) (Operand.tmp 45), none, 0⟩,
 ⟨some 47, .load 25 (Operand.tmp 46), none, 0⟩,
 ⟨some 48, .move (Operand.tmp 0), none, 0⟩,
 ⟨some 49, .move (Operand.tmp 8), none, 0⟩,
 ⟨some 50, .indexAddr 22 (Operand.tmp 48) (Operand.tmp 49), none, 0⟩,
 ⟨some 51, .load 25 (Operand.tmp 50), none, 0⟩,
 ⟨some 52, .indexAddr 22 (Operand.tmp 36) (Operand.tmp 37), none, 0⟩,
 ⟨none, .store 25 (Operand.tmp 52) (Operand.tmp 47), none, 0⟩,
 ⟨some 53, .indexAddr 22 (Operand.tmp 38) (Operand.tmp 41), none, 0⟩,
 ⟨none, .store 25 (Operand.tmp 53) (Operand.tmp 51), none, 0⟩] true [18, 19] [0, 1, 2, 3, 4, 5, 6, 7, 8, 9, 10, 12, 13, 14, 11, 15, 16, 17, 18, 19])
 (.ops [⟨some 54, .move (Operand.tmp 0), none, 0⟩,
 ⟨some 55, .move (Operand.tmp 9), none, 0⟩,
 ⟨some 56, .move (Operand.tmp 12), none, 0⟩,
 ⟨some 57, .move (Operand.tmp 8), none, 0⟩,
 ⟨some 58, .move (Operand.tmp 3), none, 0⟩,
 ⟨some 59, .call ⟨(Callee.value (Operand.func 61)), [(Operand.tmp 54), (Operand.tmp 55), (Operand.tmp 56), (Operand.tmp 57), (Operand.tmp 58)].toArray, #[22, 3, 3, 3, 54]⟩, none, 0⟩])))
 (.ops [⟨some 34, .move (Operand.tmp 12), none, 0⟩,
 ⟨some 35, .binOp BinOp.sub 3 (Operand.tmp 34) (Operand.const (Value.int IntKind.i64 1)) 3, none, 0⟩,
 ⟨some 12, .assign (Operand.tmp 35), none, 0⟩]))))))))))
abbrev R45 : List ResultVar := []
theorem ok45 : FnOK Tryd.prog 45 L45 R45 4 := ⟨_, _, Tryd.func45, rfl, by kernel_rfl, by kernel_rfl, by kernel_rfl, by kernel_rfl, Nat.le_of_ble_eq_true (by kernel_rfl), by kernel_rfl⟩

/-- slices.breakPatternsCmpFunc[ablaut/api.Sample] -/
def L46 : LCode :=
 (.seq
 (.ops [⟨some 13, .move (Operand.tmp 2), none, 0⟩,
 ⟨some 14, .move (Operand.tmp 1), none, 0⟩,
 ⟨some 15, .binOp BinOp.sub 3 (Operand.tmp 13) (Operand.tmp 14) 3, none, 0⟩,
 ⟨some 8, .assign (Operand.tmp 15), none, 0⟩])
 (.seq
 (.ops [⟨some 16, .move (Operand.tmp 8), none, 0⟩,
 ⟨some 17, .binOp BinOp.geq 3 (Operand.tmp 16) (Operand.const (Value.int IntKind.i64 8)) 3, none, 0⟩])
 (.cond (Operand.tmp 17)
 (.seq
 (.ops [⟨some 18, .move (Operand.tmp 8), none, 0⟩,
 ⟨some 19, .convert 3 97 (Operand.tmp 18), none, 0⟩,
 ⟨some 9, .alloc 97, none, 0⟩,
 ⟨none, .store 97 (Operand.tmp 9) (Operand.tmp 19), none, 0⟩])
 (.seq
 (.ops [⟨some 20, .move (Operand.tmp 8), none, 0⟩,
 ⟨some 21, .call ⟨(Callee.value (Operand.func 62)), [(Operand.tmp 20)].toArray, #[3]⟩, none, 0⟩,
 ⟨some 10, .assign (Operand.tmp 21), none, 0⟩])
 (.seq
 (.ops [⟨some 22, .move (Operand.tmp 1), none, 0⟩,
 ⟨some 23, .move (Operand.tmp 8), none, 0⟩,
 ⟨some 24, .binOp BinOp.quo 3 (Operand.tmp 23) (Operand.const (Value.int IntKind.i64 4)) 3, none, 0⟩,
 ⟨some 25, .binOp BinOp.mul 3 (Operand.tmp 24) (Operand.const (Value.int IntKind.i64 2)) 3, none, 0⟩,
 ⟨some 26, .binOp BinOp.add 3 (Operand.tmp 22) (Operand.tmp 25) 3, none, 0⟩,
 ⟨some 27, .binOp BinOp.sub 3 (Operand.tmp 26) (Operand.const (Value.int IntKind.i64 1)) 3, none, 0⟩,
 ⟨some 11, .assign (Operand.tmp 27), none, 0⟩])
 (.block 0
 (.loop
 (.seq
 (.seq
 (.ops [⟨some 28, .move (Operand.tmp 11), none, 0⟩,
 ⟨some 29, .move (Operand.tmp 1), none, 0⟩,
 ⟨some 30, .move (Operand.tmp 8), none, 0⟩,
 ⟨some 31, .binOp BinOp.quo 3 (Operand.tmp 30) (Operand.const (Value.int IntKind.i64 4)) 3, none, 0⟩,
 ⟨some 32, .binOp BinOp.mul 3 (Operand.tmp 31) (Operand.const (Value.int IntKind.i64 2)) 3, none, 0⟩,
 ⟨some 33, .binOp BinOp.add 3 (Operand.tmp 29) (Operand.tmp 32) 3, none, 0⟩,
 ⟨some 34, .binOp BinOp.add 3 (Operand.tmp 33) (Operand.const (Value.int IntKind.i64 1)) 3, none, 0⟩,
 ⟨some 35, .binOp BinOp.leq 3 (Operand.tmp 28) (Operand.tmp 34) 3, none, 0⟩])
 (.cond (Operand.tmp 35)
 .skip
 (.exit 0)))
 (.seq
 (.block 1
 (.seq
 (.ops [⟨some 38, .call ⟨(Callee.value (Operand.func 63)), [(Operand.tmp 9)].toArray, #[97]⟩, none, 0⟩,
 ⟨some 39, .move (Operand.tmp 10), none, 0⟩,
 ⟨some 40, .binOp BinOp.sub 67 (Operand.tmp 39) (Operand.const (Value.int IntKind.u64 1)) 67, none, 0⟩,
 ⟨some 41, .binOp BinOp.and 67 (Operand.tmp 38) (Operand.tmp 40) 67, none, 0⟩,
 ⟨some 42, .convert 67 3 (Operand.tmp 41), none, 0⟩,
 ⟨some 12, .assign (Operand.tmp 42), none, 0⟩])
 (.seq
 (.seq
 (.ops [⟨some 43, .move (Operand.tmp 12), none, 0⟩,
 ⟨some 44, .move (Operand.tmp 8), none, 0⟩,
 ⟨some 45, .binOp BinOp.geq 3 (Operand.tmp 43) (Operand.tmp 44) 3, none, 0⟩])
 (.cond (Operand.tmp 45)
 (.ops [⟨some 46, .move (Operand.tmp 12), none, 0⟩,
 ⟨some 47, .move (Operand.tmp 8), none, 0⟩,
 ⟨some 48, .binOp BinOp.sub 3 (Operand.tmp 46) (Operand.tmp 47) 3, none, 0⟩,
 ⟨some 12, .assign (Operand.tmp 48), none, 0⟩])
 .skip))
 (.draw [⟨some 49, .move (Operand.tmp 0), none, 0⟩,
 ⟨some 50, .move (Operand.tmp 11), none, 0⟩,
 ⟨some 51, .move (Operand.tmp 0), none, 0⟩,
 ⟨some 52, .move (Operand.tmp 1), none, 0⟩,
 ⟨some 53, .move (Operand.tmp 12), none, 0⟩,
 ⟨some 54, .binOp BinOp.add 3 (Operand.tmp 52) (Operand.tmp 53) 3, none, 0⟩,
 ⟨some 55, .move (Operand.tmp 0), none, 0⟩,
 ⟨some 56, .move (Operand.tmp 1), none, 0⟩,
 ⟨some 57, .move (Operand.tmp 12), none, 0⟩,
 ⟨some 58, .binOp BinOp.add 3 (Operand.tmp 56) (Operand.tmp 57) 3, none, 0⟩,
 ⟨some 59, .indexAddr 22 (Operand.tmp 55) (Operand.tmp 58), none, 0⟩,
 ⟨some 60, .load 25 (Operand.tmp 59), none, 0⟩,
 ⟨some 61, .move (Operand.tmp 0), none, 0⟩,
 ⟨some 62, .move (Operand.tmp 11), none, 0⟩,
 ⟨some 63, .indexAddr 22 (Operand.tmp 61) (Operand.tmp 62), none, 0⟩,
 ⟨some 64, .load 25 (Operand.tmp 63), none, 0⟩,
 ⟨some 65, .indexAddr 22 (Operand.tmp 49) (Operand.tmp 50), none, 0⟩,
 ⟨none, .store 25 (Operand.tmp 65) (Operand.tmp 60), none, 0⟩,
 ⟨some 66, .indexAddr 22 (Operand.tmp 51) (Operand.tmp 54), none, 0⟩,
 ⟨none, .store 25 (Operand.tmp 66) (Operand.tmp 64), none, 0⟩] true [18, 19] [0, 1, 2, 3, 4, 5, 6, 7, 8, 9, 10, 12, 13, 14, 11, 15, 16, 17, 18, 19]))))
 (.ops [⟨some 36, .move (Operand.tmp 11), none, 0⟩,
 ⟨some 37, .binOp BinOp.add 3 (Operand.tmp 36) (Operand.const (Value.int IntKind.i64 1)) 3, none, 0⟩,
 ⟨some 11, .assign (Operand.tmp 37), none, 0⟩]))))))))
 .skip)))
abbrev R46 : List ResultVar := []
theorem ok46 : FnOK Tryd.prog 46 L46 R46 4 := ⟨_, _, Tryd.func46, rfl, by kernel_rfl, by kernel_rfl, by kernel_rfl, by kernel_rfl, Nat.le_of_ble_eq_true (by kernel_rfl), by kernel_rfl⟩

/-- slices.choosePivotCmpFunc[ablaut/api.Sample] -/
def L47 : LCode :=
 (.seq
 (.ops [⟨some 8, .assign (Operand.const (Value.int IntKind.i64 0)), none, 0⟩,
 ⟨some 9, .assign (Operand.const (Value.int IntKind.i64 0)), none, 0⟩])
 (.seq
 (.ops [⟨some 15, .move (Operand.tmp 2), none, 0⟩,
 ⟨some 16, .move (Operand.tmp 1), none, 0⟩,
 ⟨some 17, .binOp BinOp.sub 3 (Operand.tmp 15) (Operand.tmp 16) 3, none, 0⟩,
 ⟨some 10, .assign (Operand.tmp 17), none, 0⟩])
 (.seq
 (.ops [⟨some 11, .alloc 3, none, 0⟩])
 (.seq
 (.ops [⟨some 18, .move (Operand.tmp 1), none, 0⟩,
 ⟨some 19, .move (Operand.tmp 10), none, 0⟩,
 ⟨some 20, .binOp BinOp.quo 3 (Operand.tmp 19) (Operand.const (Value.int IntKind.i64 4)) 3, none, 0⟩,
 ⟨some 21, .binOp BinOp.mul 3 (Operand.tmp 20) (Operand.const (Value.int IntKind.i64 1)) 3, none, 0⟩,
 ⟨some 22, .binOp BinOp.add 3 (Operand.tmp 18) (Operand.tmp 21) 3, none, 0⟩,
 ⟨some 12, .assign (Operand.tmp 22), none, 0⟩])
 (.seq
 (.ops [⟨some 23, .move (Operand.tmp 1), none, 0⟩,
 ⟨some 24, .move (Operand.tmp 10), none, 0⟩,
 ⟨some 25, .binOp BinOp.quo 3 (Operand.tmp 24) (Operand.const (Value.int IntKind.i64 4)) 3, none, 0⟩,
 ⟨some 26, .binOp BinOp.mul 3 (Operand.tmp 25) (Operand.const (Value.int IntKind.i64 2)) 3, none, 0⟩,
 ⟨some 27, .binOp BinOp.add 3 (Operand.tmp 23) (Operand.tmp 26) 3, none, 0⟩,
 ⟨some 13, .assign (Operand.tmp 27), none, 0⟩])
 (.seq
 (.ops [⟨some 28, .move (Operand.tmp 1), none, 0⟩,
 ⟨some 29, .move (Operand.tmp 10), none, 0⟩,
 ⟨some 30, .binOp BinOp.quo 3 (Operand.tmp 29) (Operand.const (Value.int IntKind.i64 4)) 3, none, 0⟩,
 ⟨some 31, .binOp BinOp.mul 3 (Operand.tmp 30) (Operand.const (Value.int IntKind.i64 3)) 3, none, 0⟩,
 ⟨some 32, .binOp BinOp.add 3 (Operand.tmp 28) (Operand.tmp 31) 3, none, 0⟩,
 ⟨some 14, .assign (Operand.tmp 32), none, 0⟩])
 (.seq
 (.seq
 (.ops [⟨some 33, .move (Operand.tmp 10), none, 0⟩,
 ⟨some 34, .binOp BinOp.geq 3 (Operand.tmp 33) (Operand.const (Value.int IntKind.i64 8)) 3, none, 0⟩])
 (.cond (Operand.tmp 34)
 (.seq
 (.seq
 (.ops [⟨some 35, .move (Operand.tmp 10), none, 0⟩,
 ⟨some 36, .binOp BinOp.geq 3 (Operand.tmp 35) (Operand.const (Value.int IntKind.i64 50)) 3, none, 0⟩])
 (.cond (Operand.tmp 36)
 (.seq
 (.ops [⟨some 37, .move (Operand.tmp 0), none, 0⟩,
 ⟨some 38, .move (Operand.tmp 12), none, 0⟩,
 ⟨some 39, .move (Operand.tmp 3), none, 0⟩,
 ⟨some 40, .call ⟨(Callee.value (Operand.func 64)), [(Operand.tmp 37), (Operand.tmp 38), (Operand.tmp 11), (Operand.tmp 39)].toArray, #[22, 3, 101, 54]⟩, none, 0⟩,
 ⟨some 12, .assign (Operand.tmp 40), none, 0⟩])
 (.seq
 (.ops [⟨some 41, .move (Operand.tmp 0), none, 0⟩,
 ⟨some 42, .move (Operand.tmp 13), none, 0⟩,
 ⟨some 43, .move (Operand.tmp 3), none, 0⟩,
 ⟨some 44, .call ⟨(Callee.value (Operand.func 64)), [(Operand.tmp 41), (Operand.tmp 42), (Operand.tmp 11), (Operand.tmp 43)].toArray, #[22, 3, 101, 54]⟩, none, 0⟩,
 ⟨some 13, .assign (Operand.tmp 44), none, 0⟩])
 (.ops [⟨some 45, .move (Operand.tmp 0), none, 0⟩,
 ⟨some 46, .move (Operand.tmp 14), none, 0⟩,
 ⟨some 47, .move (Operand.tmp 3), none, 0⟩,
 ⟨some 48, .call ⟨(Callee.value (Operand.func 64)), [(Operand.tmp 45), (Operand.tmp 46), (Operand.tmp 11), (Operand.tmp 47)].toArray, #[22, 3, 101, 54]⟩, none, 0⟩,
 ⟨some 14, .assign (Operand.tmp 48), none, 0⟩])))
 .skip))
 (.ops [⟨some 49, .move (Operand.tmp 0), none, 0⟩,
 ⟨some 50, .move (Operand.tmp 12), none, 0⟩,
 ⟨some 51, .move (Operand.tmp 13), none, 0⟩,
 ⟨some 52, .move (Operand.tmp 14), none, 0⟩,
 ⟨some 53, .move (Operand.tmp 3), none, 0⟩,
 ⟨some 54, .call ⟨(Callee.value (Operand.func 65)), [(Operand.tmp 49), (Operand.tmp 50), (Operand.tmp 51), (Operand.tmp 52), (Operand.tmp 11), (Operand.tmp 53)].toArray, #[22, 3, 3, 3, 101, 54]⟩, none, 0⟩,
 ⟨some 13, .assign (Operand.tmp 54), none, 0⟩]))
 .skip))
 (.seq
 (.ops [⟨some 55, .load 3 (Operand.tmp 11), none, 0⟩])
 (.block 0
 (.seq
 (.ops [⟨some 58, .binOp BinOp.eql 3 (Operand.tmp 55) (Operand.const (Value.int IntKind.i64 0)) 3, none, 0⟩,
 ⟨some 57, .assign (Operand.tmp 58), none, 0⟩])
 (.cond (Operand.tmp 57)
 (.seq
 (.ops [⟨some 59, .move (Operand.tmp 13), none, 0⟩,
 ⟨some 8, .assign (Operand.tmp 59), none, 0⟩,
 ⟨some 9, .assign (Operand.const (Value.int IntKind.i64 1)), none, 0⟩])
 .ret)
 (.seq
 (.ops [⟨some 61, .binOp BinOp.eql 3 (Operand.tmp 55) (Operand.const (Value.int IntKind.i64 12)) 3, none, 0⟩,
 ⟨some 60, .assign (Operand.tmp 61), none, 0⟩])
 (.cond (Operand.tmp 60)
 (.seq
 (.ops [⟨some 62, .move (Operand.tmp 13), none, 0⟩,
 ⟨some 8, .assign (Operand.tmp 62), none, 0⟩,
 ⟨some 9, .assign (Operand.const (Value.int IntKind.i64 2)), none, 0⟩])
 .ret)
 (.seq
 (.ops [⟨some 56, .move (Operand.tmp 13), none, 0⟩,
 ⟨some 8, .assign (Operand.tmp 56), none, 0⟩,
 ⟨some 9, .assign (Operand.const (Value.int IntKind.i64 0)), none, 0⟩])
 .ret))))))))))))))
abbrev R47 : List ResultVar := [ResultVar.tmp 8, ResultVar.tmp 9]
theorem ok47 : FnOK Tryd.prog 47 L47 R47 4 := ⟨_, _, Tryd.func47, rfl, by kernel_rfl, by kernel_rfl, by kernel_rfl, by kernel_rfl, Nat.le_of_ble_eq_true (by kernel_rfl), by kernel_rfl⟩

/-- slices.reverseRangeCmpFunc[ablaut/api.Sample] -/
def L48 : LCode :=
 (.seq
 (.ops [⟨some 10, .move (Operand.tmp 1), none, 0⟩,
 ⟨some 8, .assign (Operand.tmp 10), none, 0⟩])
 (.seq
 (.ops [⟨some 11, .move (Operand.tmp 2), none, 0⟩,
 ⟨some 12, .binOp BinOp.sub 3 (Operand.tmp 11) (Operand.const (Value.int IntKind.i64 1)) 3, none, 0⟩,
 ⟨some 9, .assign (Operand.tmp 12), none, 0⟩])
 (.block 0
 (.loop
 (.seq
 (.seq
 (.ops [⟨some 13, .move (Operand.tmp 8), none, 0⟩,
 ⟨some 14, .move (Operand.tmp 9), none, 0⟩,
 ⟨some 15, .binOp BinOp.lss 3 (Operand.tmp 13) (Operand.tmp 14) 3, none, 0⟩])
 (.cond (Operand.tmp 15)
 .skip
 (.exit 0)))
 (.block 1
 (.seq
 (.draw [⟨some 16, .move (Operand.tmp 0), none, 0⟩,
 ⟨some 17, .move (Operand.tmp 8), none, 0⟩,
 ⟨some 18, .move (Operand.tmp 0), none, 0⟩,
 ⟨some 19, .move (Operand.tmp 9), none, 0⟩,
 ⟨some 20, .move (Operand.tmp 0), none, 0⟩,
 ⟨some 21, .move (Operand.tmp 9), none, 0⟩,
 ⟨some 22, .indexAddr 22 (Operand.tmp 20) (Operand.tmp 21), none, 0⟩,
 ⟨some 23, .load 25 (Operand.tmp 22), none, 0⟩,
 ⟨some 24, .move (Operand.tmp 0), none, 0⟩,
 ⟨some 25, .move (Operand.tmp 8), none, 0⟩,
 ⟨some 26, .indexAddr 22 (Operand.tmp 24) (Operand.tmp 25), none, 0⟩,
 ⟨some 27, .load 25 (Operand.tmp 26), none, 0⟩,
 ⟨some 28, .indexAddr 22 (Operand.tmp 16) (Operand.tmp 17), none, 0⟩,
 ⟨none, .store 25 (Operand.tmp 28) (Operand.tmp 23), none, 0⟩,
 ⟨some 29, .indexAddr 22 (Operand.tmp 18) (Operand.tmp 19), none, 0⟩,
 ⟨none, .store 25 (Operand.tmp 29) (Operand.tmp 27), none, 0⟩] true [14, 15] [0, 1, 2, 3, 4, 5, 6, 8, 9, 10, 7, 11, 12, 13, 14, 15])
 (.seq
 (.ops [⟨some 30, .move (Operand.tmp 8), none, 0⟩,
 ⟨some 31, .binOp BinOp.add 3 (Operand.tmp 30) (Operand.const (Value.int IntKind.i64 1)) 3, none, 0⟩,
 ⟨some 8, .assign (Operand.tmp 31), none, 0⟩])
 (.ops [⟨some 32, .move (Operand.tmp 9), none, 0⟩,
 ⟨some 33, .binOp BinOp.sub 3 (Operand.tmp 32) (Operand.const (Value.int IntKind.i64 1)) 3, none, 0⟩,
 ⟨some 9, .assign (Operand.tmp 33), none, 0⟩])))))))))
abbrev R48 : List ResultVar := []
theorem ok48 : FnOK Tryd.prog 48 L48 R48 4 := ⟨_, _, Tryd.func48, rfl, by kernel_rfl, by kernel_rfl, by kernel_rfl, by kernel_rfl, Nat.le_of_ble_eq_true (by kernel_rfl), by kernel_rfl⟩

/-- slices.partialInsertionSortCmpFunc[ablaut/api.Sample] -/
def L49 : LCode :=
 (.seq
 (.ops [⟨some 8, .assign (Operand.const (Value.bool false)), none, 0⟩])
 (.seq
 (.ops [⟨some 13, .move (Operand.tmp 1), none, 0⟩,
 ⟨some 14, .binOp BinOp.add 3 (Operand.tmp 13) (Operand.const (Value.int IntKind.i64 1)) 3, none, 0⟩,
 ⟨some 9, .assign (Operand.tmp 14), none, 0⟩])
 (.seq
 (.seq
 (.ops [⟨some 10, .assign (Operand.const (Value.int IntKind.i64 0)), none, 0⟩])
 (.block 0
 (.loop
 (.seq
 (.seq
 (.ops [⟨some 15, .move (Operand.tmp 10), none, 0⟩,
 ⟨some 16, .binOp BinOp.lss 3 (Operand.tmp 15) (Operand.const (Value.int IntKind.i64 5)) 3, none, 0⟩])
 (.cond (Operand.tmp 16)
 .skip
 (.exit 0)))
 (.seq
 (.block 1
 (.seq
 (.block 2
 (.loop
 (.seq
 (.seq
 (.draw [⟨some 19, .move (Operand.tmp 9), none, 0⟩,
 ⟨some 20, .move (Operand.tmp 2), none, 0⟩,
 ⟨some 21, .binOp BinOp.lss 3 (Operand.tmp 19) (Operand.tmp 20) 3, none, 0⟩,
 ⟨some 22, .move (Operand.tmp 21), none, 0⟩,
 ⟨some 23, .move (Operand.tmp 3), some (22, true), 0⟩,
 ⟨some 24, .move (Operand.tmp 0), some (22, true), 0⟩,
 ⟨some 25, .move (Operand.tmp 9), some (22, true), 0⟩,
 ⟨some 26, .indexAddr 22 (Operand.tmp 24) (Operand.tmp 25), some (22, true), 0⟩,
 ⟨some 27, .load 25 (Operand.tmp 26), some (22, true), 0⟩,
 ⟨some 28, .move (Operand.tmp 0), some (22, true), 0⟩,
 ⟨some 29, .move (Operand.tmp 9), some (22, true), 0⟩,
 ⟨some 30, .binOp BinOp.sub 3 (Operand.tmp 29) (Operand.const (Value.int IntKind.i64 1)) 3, some (22, true), 0⟩,
 ⟨some 31, .indexAddr 22 (Operand.tmp 28) (Operand.tmp 30), some (22, true), 0⟩,
 ⟨some 32, .load 25 (Operand.tmp 31), some (22, true), 0⟩,
 ⟨some 33, .call ⟨(Callee.value (Operand.tmp 23)), [(Operand.tmp 27), (Operand.tmp 32)].toArray, #[25, 25]⟩, some (22, true), 0⟩,
 ⟨some 34, .binOp BinOp.lss 3 (Operand.tmp 33) (Operand.const (Value.int IntKind.i64 0)) 3, some (22, true), 0⟩,
 ⟨some 35, .unOp UnOp.not 4 (Operand.tmp 34), some (22, true), 0⟩,
 ⟨some 36, .pick (Operand.tmp 22) (Operand.tmp 35) (Operand.const (Value.bool false)), none, 0⟩] true [14, 15, 16, 17] [0, 1, 2, 3, 4, 5, 6, 7, 9, 10, 11, 12, 8, 13, 14, 15, 16, 17])
 (.cond (Operand.tmp 36)
 .skip
 (.exit 2)))
 (.block 3
 (.ops [⟨some 37, .move (Operand.tmp 9), none, 0⟩,
 ⟨some 38, .binOp BinOp.add 3 (Operand.tmp 37) (Operand.const (Value.int IntKind.i64 1)) 3, none, 0⟩,
 ⟨some 9, .assign (Operand.tmp 38), none, 0⟩])))))
 (.seq
 (.seq
 (.ops [⟨some 39, .move (Operand.tmp 9), none, 0⟩,
 ⟨some 40, .move (Operand.tmp 2), none, 0⟩,
 ⟨some 41, .binOp BinOp.eql 3 (Operand.tmp 39) (Operand.tmp 40) 3, none, 0⟩])
 (.cond (Operand.tmp 41)
 (.seq
 (.ops [⟨some 8, .assign (Operand.const (Value.bool true)), none, 0⟩])
 .ret)
 .skip))
 (.seq
 (.seq
 (.ops [⟨some 42, .move (Operand.tmp 2), none, 0⟩,
 ⟨some 43, .move (Operand.tmp 1), none, 0⟩,
 ⟨some 44, .binOp BinOp.sub 3 (Operand.tmp 42) (Operand.tmp 43) 3, none, 0⟩,
 ⟨some 45, .binOp BinOp.lss 3 (Operand.tmp 44) (Operand.const (Value.int IntKind.i64 50)) 3, none, 0⟩])
 (.cond (Operand.tmp 45)
 (.seq
 (.ops [⟨some 8, .assign (Operand.const (Value.bool false)), none, 0⟩])
 .ret)
 .skip))
 (.seq
 (.draw [⟨some 46, .move (Operand.tmp 0), none, 0⟩,
 ⟨some 47, .move (Operand.tmp 9), none, 0⟩,
 ⟨some 48, .move (Operand.tmp 0), none, 0⟩,
 ⟨some 49, .move (Operand.tmp 9), none, 0⟩,
 ⟨some 50, .binOp BinOp.sub 3 (Operand.tmp 49) (Operand.const (Value.int IntKind.i64 1)) 3, none, 0⟩,
 ⟨some 51, .move (Operand.tmp 0), none, 0⟩,
 ⟨some 52, .move (Operand.tmp 9), none, 0⟩,
 ⟨some 53, .binOp BinOp.sub 3 (Operand.tmp 52) (Operand.const (Value.int IntKind.i64 1)) 3, none, 0⟩,
 ⟨some 54, .indexAddr 22 (Operand.tmp 51) (Operand.tmp 53), none, 0⟩,
 ⟨some 55, .load 25 (Operand.tmp 54), none, 0⟩,
 ⟨some 56, .move (Operand.tmp 0), none, 0⟩,
 ⟨some 57, .move (Operand.tmp 9), none, 0⟩,
 ⟨some 58, .indexAddr 22 (Operand.tmp 56) (Operand.tmp 57), none, 0⟩,
 ⟨some 59, .load 25 (Operand.tmp 58), none, 0⟩,
 ⟨some 60, .indexAddr 22 (Operand.tmp 46) (Operand.tmp 47), none, 0⟩,
 ⟨none, .store 25 (Operand.tmp 60) (Operand.tmp 55), none, 0⟩,
 ⟨some 61, .indexAddr 22 (Operand.tmp 48) (Operand.tmp 50), none, 0⟩,
 ⟨none, .store 25 (Operand.tmp 61) (Operand.tmp 59), none, 0⟩] true [16, 17] [0, 1, 2, 3, 4, 5, 6, 7, 8, 10, 11, 12, 9, 13, 14, 15, 16, 17])
 (.seq
 (.seq
 (.ops [⟨some 62, .move (Operand.tmp 9), none, 0⟩,
 ⟨some 63, .move (Operand.tmp 1), none, 0⟩,
 ⟨some 64, .binOp BinOp.sub 3 (Operand.tmp 62) (Operand.tmp 63) 3, none, 0⟩,
 ⟨some 65, .binOp BinOp.geq 3 (Operand.tmp 64) (Operand.const (Value.int IntKind.i64 2)) 3, none, 0⟩])
 (.cond (Operand.tmp 65)
 (.seq
 (.ops [⟨some 66, .move (Operand.tmp 9), none, 0⟩,
 ⟨some 67, .binOp BinOp.sub 3 (Operand.tmp 66) (Operand.const (Value.int IntKind.i64 1)) 3, none, 0⟩,
 ⟨some 11, .assign (Operand.tmp 67), none, 0⟩])
 (.block 4
 (.loop
 (.seq
 (.seq
 (.ops [⟨some 68, .move (Operand.tmp 11), none, 0⟩,
 ⟨some 69, .binOp BinOp.geq 3 (Operand.tmp 68) (Operand.const (Value.int IntKind.i64 1)) 3, none, 0⟩])
 (.cond (Operand.tmp 69)
 .skip
 (.exit 4)))
 (.seq
 (.block 5
 (.seq
 (.seq
 (.draw [⟨some 72, .move (Operand.tmp 3), none, 0⟩,
 ⟨some 73, .move (Operand.tmp 0), none, 0⟩,
 ⟨some 74, .move (Operand.tmp 11), none, 0⟩,
 ⟨some 75, .indexAddr 22 (Operand.tmp 73) (Operand.tmp 74), none, 0⟩,
 ⟨some 76, .load 25 (Operand.tmp 75), none, 0⟩,
 ⟨some 77, .move (Operand.tmp 0), none, 0⟩,
 ⟨some 78, .move (Operand.tmp 11), none, 0⟩,
 ⟨some 79, .binOp BinOp.sub 3 (Operand.tmp 78) (Operand.const (Value.int IntKind.i64 1)) 3, none, 0⟩,
 ⟨some 80, .indexAddr 22 (Operand.tmp 77) (Operand.tmp 79), none, 0⟩,
 ⟨some 81, .load 25 (Operand.tmp 80), none, 0⟩,
 ⟨some 82, .call ⟨(Callee.value (Operand.tmp 72)), [(Operand.tmp 76), (Operand.tmp 81)].toArray, #[25, 25]⟩, none, 0⟩,
 ⟨some 83, .binOp BinOp.lss 3 (Operand.tmp 82) (Operand.const (Value.int IntKind.i64 0)) 3, none, 0⟩,
 ⟨some 84, .unOp UnOp.not 4 (Operand.tmp 83), none, 0⟩] true [10, 11, 12] [0, 1, 2, 3, 5, 6, 7, 8, 4, 9, 10, 11, 12])
 (.cond (Operand.tmp 84)
 (.exit 4)
 .skip))
 (.draw [⟨some 85, .move (Operand.tmp 0), none, 0⟩,
 ⟨some 86, .move (Operand.tmp 11), none, 0⟩,
 ⟨some 87, .move (Operand.tmp 0), none, 0⟩,
 ⟨some 88, .move (Operand.tmp 11), none, 0⟩,
 ⟨some 89, .binOp BinOp.sub 3 (Operand.tmp 88) (Operand.const (Value.int IntKind.i64 1)) 3, none, 0⟩,
 ⟨some 90, .move (Operand.tmp 0), none, 0⟩,
 ⟨some 91, .move (Operand.tmp 11), none, 0⟩,
 ⟨some 92, .binOp BinOp.sub 3 (Operand.tmp 91) (Operand.const (Value.int IntKind.i64 1)) 3, none, 0⟩,
 ⟨some 93, .indexAddr 22 (Operand.tmp 90) (Operand.tmp 92), none, 0⟩,
 ⟨some 94, .load 25 (Operand.tmp 93), none, 0⟩,
 ⟨some 95, .move (Operand.tmp 0), none, 0⟩,
 ⟨some 96, .move (Operand.tmp 11), none, 0⟩,
 ⟨some 97, .indexAddr 22 (Operand.tmp 95) (Operand.tmp 96), none, 0⟩,
 ⟨some 98, .load 25 (Operand.tmp 97), none, 0⟩,
 ⟨some 99, .indexAddr 22 (Operand.tmp 85) (Operand.tmp 86), none, 0⟩,
 ⟨none, .store 25 (Operand.tmp 99) (Operand.tmp 94), none, 0⟩,
 ⟨some 100, .indexAddr 22 (Operand.tmp 87) (Operand.tmp 89), none, 0⟩,
 ⟨none, .store 25 (Operand.tmp 100) (Operand.tmp 98), none, 0⟩] true [16, 17] [0, 1, 2, 3, 4, 5, 6, 7, 8, 10, 11, 12, 9, 13, 14, 15, 16, 17])))
 (.ops [⟨some 70, .move (Operand.tmp 11), none, 0⟩,
 ⟨some 71, .binOp BinOp.sub 3 (Operand.tmp 70) (Operand.const (Value.int IntKind.i64 1)) 3, none, 0⟩,
 ⟨some 11, .assign (Operand.tmp 71), none, 0⟩]))))))
 .skip))
 (.seq
 (.ops [⟨some 101, .move (Operand.tmp 2), none, 0⟩,
 ⟨some 102, .move (Operand.tmp 9), none, 0⟩,
 ⟨some 103, .binOp BinOp.sub 3 (Operand.tmp 101) (Operand.tmp 102) 3, none, 0⟩,
 ⟨some 104, .binOp BinOp.geq 3 (Operand.tmp 103) (Operand.const (Value.int IntKind.i64 2)) 3, none, 0⟩])
 (.cond (Operand.tmp 104)
 (.seq
 (.ops [⟨some 105, .move (Operand.tmp 9), none, 0⟩,
 ⟨some 106, .binOp BinOp.add 3 (Operand.tmp 105) (Operand.const (Value.int IntKind.i64 1)) 3, none, 0⟩,
 ⟨some 12, .assign (Operand.tmp 106), none, 0⟩])
 (.block 6
 (.loop
 (.seq
 (.seq
 (.ops [⟨some 107, .move (Operand.tmp 12), none, 0⟩,
 ⟨some 108, .move (Operand.tmp 2), none, 0⟩,
 ⟨some 109, .binOp BinOp.lss 3 (Operand.tmp 107) (Operand.tmp 108) 3, none, 0⟩])
 (.cond (Operand.tmp 109)
 .skip
 (.exit 6)))
 (.seq
 (.block 7
 (.seq
 (.seq
 (.draw [⟨some 112, .move (Operand.tmp 3), none, 0⟩,
 ⟨some 113, .move (Operand.tmp 0), none, 0⟩,
 ⟨some 114, .move (Operand.tmp 12), none, 0⟩,
 ⟨some 115, .indexAddr 22 (Operand.tmp 113) (Operand.tmp 114), none, 0⟩,
 ⟨some 116, .load 25 (Operand.tmp 115), none, 0⟩,
 ⟨some 117, .move (Operand.tmp 0), none, 0⟩,
 ⟨some 118, .move (Operand.tmp 12), none, 0⟩,
 ⟨some 119, .binOp BinOp.sub 3 (Operand.tmp 118) (Operand.const (Value.int IntKind.i64 1)) 3, none, 0⟩,
 ⟨some 120, .indexAddr 22 (Operand.tmp 117) (Operand.tmp 119), none, 0⟩,
 ⟨some 121, .load 25 (Operand.tmp 120), none, 0⟩,
 ⟨some 122, .call ⟨(Callee.value (Operand.tmp 112)), [(Operand.tmp 116), (Operand.tmp 121)].toArray, #[25, 25]⟩, none, 0⟩,
 ⟨some 123, .binOp BinOp.lss 3 (Operand.tmp 122) (Operand.const (Value.int IntKind.i64 0)) 3, none, 0⟩,
 ⟨some 124, .unOp UnOp.not 4 (Operand.tmp 123), none, 0⟩] true [10, 11, 12] [0, 1, 2, 3, 5, 6, 7, 8, 4, 9, 10, 11, 12])
 (.cond (Operand.tmp 124)
 (.exit 6)
 .skip))
 (.draw [⟨some 125, .move (Operand.tmp 0), none, 0⟩,
 ⟨some 126, .move (Operand.tmp 12), none, 0⟩,
 ⟨some 127, .move (Operand.tmp 0), none, 0⟩,
 ⟨some 128, .move (Operand.tmp 12), none, 0⟩,
 ⟨some 129, .binOp BinOp.sub 3 (Operand.tmp 128) (Operand.const (Value.int IntKind.i64 1)) 3, none, 0⟩,
 ⟨some 130, .move (Operand.tmp 0), none, 0⟩,
 ⟨some 131, .move (Operand.tmp 12), none, 0⟩,
 ⟨some 132, .binOp BinOp.sub 3 (Operand.tmp 131) (Operand.const (Value.int IntKind.i64 1)) 3, none, 0⟩,
 ⟨some 133, .indexAddr 22 (Operand.tmp 130) (Operand.tmp 132), none, 0⟩,
 ⟨some 134, .load 25 (Operand.tmp 133), none, 0⟩,
 ⟨some 135, .move (Operand.tmp 0), none, 0⟩,
 ⟨some 136, .move (Operand.tmp 12), none, 0⟩,
 ⟨some 137, .indexAddr 22 (Operand.tmp 135) (Operand.tmp 136), none, 0⟩,
 ⟨some 138, .load 25 (Operand.tmp 137), none, 0⟩,
 ⟨some 139, .indexAddr 22 (Operand.tmp 125) (Operand.tmp 126), none, 0⟩,
 ⟨none, .store 25 (Operand.tmp 139) (Operand.tmp 134), none, 0⟩,
 ⟨some 140, .indexAddr 22 (Operand.tmp 127) (Operand.tmp 129), none, 0⟩,
 ⟨none, .store 25 (Operand.tmp 140) (Operand.tmp 138), none, 0⟩] true [16, 17] [0, 1, 2, 3, 4, 5, 6, 7, 8, 10, 11, 12, 9, 13, 14, 15, 16, 17])))
 (.ops [⟨some 110, .move (Operand.tmp 12), none, 0⟩,
 ⟨some 111, .binOp BinOp.add 3 (Operand.tmp 110) (Operand.const (Value.int IntKind.i64 1)) 3, none, 0⟩,
 ⟨some 12, .assign (Operand.tmp 111), none, 0⟩]))))))
 .skip))))))))
 (.ops [⟨some 17, .move (Operand.tmp 10), none, 0⟩,
 ⟨some 18, .binOp BinOp.add 3 (Operand.tmp 17) (Operand.const (Value.int IntKind.i64 1)) 3, none, 0⟩,
 ⟨some 10, .assign (Operand.tmp 18), none, 0⟩]))))))
 (.seq
 (.ops [⟨some 8, .assign (Operand.const (Value.bool false)), none, 0⟩])
 .ret))))
abbrev R49 : List ResultVar := [ResultVar.tmp 8]
theorem ok49 : FnOK Tryd.prog 49 L49 R49 4 := ⟨_, _, Tryd.func49, rfl, by kernel_rfl, by kernel_rfl, by kernel_rfl, by kernel_rfl, Nat.le_of_ble_eq_true (by kernel_rfl), by kernel_rfl⟩

/-- slices.partitionEqualCmpFunc[ablaut/api.Sample] -/
def L50 : LCode :=
 (.seq
 (.ops [⟨some 10, .assign (Operand.const (Value.int IntKind.i64 0)), none, 0⟩])
 (.seq
 (.draw [⟨some 13, .move (Operand.tmp 0), none, 0⟩,
 ⟨some 14, .move (Operand.tmp 1), none, 0⟩,
 ⟨some 15, .move (Operand.tmp 0), none, 0⟩,
 ⟨some 16, .move (Operand.tmp 3), none, 0⟩,
 ⟨some 17, .move (Operand.tmp 0), none, 0⟩,
 ⟨some 18, .move (Operand.tmp 3), none, 0⟩,
 ⟨some 19, .indexAddr 22 (Operand.tmp 17) (Operand.tmp 18), none, 0⟩,
 ⟨some 20, .load 25 (Operand.tmp 19), none, 0⟩,
 ⟨some 21, .move (Operand.tmp 0), none, 0⟩,
 ⟨some 22, .move (Operand.tmp 1), none, 0⟩,
 ⟨some 23, .indexAddr 22 (Operand.tmp 21) (Operand.tmp 22), none, 0⟩,
 ⟨some 24, .load 25 (Operand.tmp 23), none, 0⟩,
 ⟨some 25, .indexAddr 22 (Operand.tmp 13) (Operand.tmp 14), none, 0⟩,
 ⟨none, .store 25 (Operand.tmp 25) (Operand.tmp 20), none, 0⟩,
 ⟨some 26, .indexAddr 22 (Operand.tmp 15) (Operand.tmp 16), none, 0⟩,
 ⟨none, .store 25 (Operand.tmp 26) (Operand.tmp 24), none, 0⟩] true [14, 15] [0, 1, 2, 3, 4, 5, 6, 8, 9, 10, 7, 11, 12, 13, 14, 15])
 (.seq
 (.ops [⟨some 27, .move (Operand.tmp 1), none, 0⟩,
 ⟨some 28, .binOp BinOp.add 3 (Operand.tmp 27) (Operand.const (Value.int IntKind.i64 1)) 3, none, 0⟩,
 ⟨some 29, .move (Operand.tmp 2), none, 0⟩,
 ⟨some 30, .binOp BinOp.sub 3 (Operand.tmp 29) (Operand.const (Value.int IntKind.i64 1)) 3, none, 0⟩,
 ⟨some 11, .assign (Operand.tmp 28), none, 0⟩,
 ⟨some 12, .assign (Operand.tmp 30), none, 0⟩])
 (.seq
 (.block 0
 (.loop
 (.block 1
 (.seq
 (.block 2
 (.loop
 (.seq
 (.seq
 (.draw [⟨some 31, .move (Operand.tmp 11), none, 0⟩,
 ⟨some 32, .move (Operand.tmp 12), none, 0⟩,
 ⟨some 33, .binOp BinOp.leq 3 (Operand.tmp 31) (Operand.tmp 32) 3, none, 0⟩,
 ⟨some 34, .move (Operand.tmp 33), none, 0⟩,
 ⟨some 35, .move (Operand.tmp 4), some (34, true), 0⟩,
 ⟨some 36, .move (Operand.tmp 0), some (34, true), 0⟩,
 ⟨some 37, .move (Operand.tmp 1), some (34, true), 0⟩,
 ⟨some 38, .indexAddr 22 (Operand.tmp 36) (Operand.tmp 37), some (34, true), 0⟩,
 ⟨some 39, .load 25 (Operand.tmp 38), some (34, true), 0⟩,
 ⟨some 40, .move (Operand.tmp 0), some (34, true), 0⟩,
 ⟨some 41, .move (Operand.tmp 11), some (34, true), 0⟩,
 ⟨some 42, .indexAddr 22 (Operand.tmp 40) (Operand.tmp 41), some (34, true), 0⟩,
 ⟨some 43, .load 25 (Operand.tmp 42), some (34, true), 0⟩,
 ⟨some 44, .call ⟨(Callee.value (Operand.tmp 35)), [(Operand.tmp 39), (Operand.tmp 43)].toArray, #[25, 25]⟩, some (34, true), 0⟩,
 ⟨some 45, .binOp BinOp.lss 3 (Operand.tmp 44) (Operand.const (Value.int IntKind.i64 0)) 3, some (34, true), 0⟩,
 ⟨some 46, .unOp UnOp.not 4 (Operand.tmp 45), some (34, true), 0⟩,
 ⟨some 47, .pick (Operand.tmp 34) (Operand.tmp 46) (Operand.const (Value.bool false)), none, 0⟩] true [13, 14, 15, 16] [0, 1, 2, 3, 4, 5, 6, 7, 9, 10, 11, 8, 12, 13, 14, 15, 16])
 (.cond (Operand.tmp 47)
 .skip
 (.exit 2)))
 (.block 3
 (.ops [⟨some 48, .move (Operand.tmp 11), none, 0⟩,
 ⟨some 49, .binOp BinOp.add 3 (Operand.tmp 48) (Operand.const (Value.int IntKind.i64 1)) 3, none, 0⟩,
 ⟨some 11, .assign (Operand.tmp 49), none, 0⟩])))))
 (.seq
 (.block 4
 (.loop
 (.seq
 (.seq
 (.draw [⟨some 50, .move (Operand.tmp 11), none, 0⟩,
 ⟨some 51, .move (Operand.tmp 12), none, 0⟩,
 ⟨some 52, .binOp BinOp.leq 3 (Operand.tmp 50) (Operand.tmp 51) 3, none, 0⟩,
 ⟨some 53, .move (Operand.tmp 52), none, 0⟩,
 ⟨some 54, .move (Operand.tmp 4), some (53, true), 0⟩,
 ⟨some 55, .move (Operand.tmp 0), some (53, true), 0⟩,
 ⟨some 56, .move (Operand.tmp 1), some (53, true), 0⟩,
 ⟨some 57, .indexAddr 22 (Operand.tmp 55) (Operand.tmp 56), some (53, true), 0⟩,
 ⟨some 58, .load 25 (Operand.tmp 57), some (53, true), 0⟩,
 ⟨some 59, .move (Operand.tmp 0), some (53, true), 0⟩,
 ⟨some 60, .move (Operand.tmp 12), some (53, true), 0⟩,
 ⟨some 61, .indexAddr 22 (Operand.tmp 59) (Operand.tmp 60), some (53, true), 0⟩,
 ⟨some 62, .load 25 (Operand.tmp 61), some (53, true), 0⟩,
 ⟨some 63, .call ⟨(Callee.value (Operand.tmp 54)), [(Operand.tmp 58), (Operand.tmp 62)].toArray, #[25, 25]⟩, some (53, true), 0⟩,
 ⟨some 64, .binOp BinOp.lss 3 (Operand.tmp 63) (Operand.const (Value.int IntKind.i64 0)) 3, some (53, true), 0⟩,
 ⟨some 65, .pick (Operand.tmp 53) (Operand.tmp 64) (Operand.const (Value.bool false)), none, 0⟩] true [13, 14, 15] [0, 1, 2, 3, 4, 5, 6, 7, 9, 10, 11, 8, 12, 13, 14, 15])
 (.cond (Operand.tmp 65)
 .skip
 (.exit 4)))
 (.block 5
 (.ops [⟨some 66, .move (Operand.tmp 12), none, 0⟩,
 ⟨some 67, .binOp BinOp.sub 3 (Operand.tmp 66) (Operand.const (Value.int IntKind.i64 1)) 3, none, 0⟩,
 ⟨some 12, .assign (Operand.tmp 67), none, 0⟩])))))
 (.seq
 (.seq
 (.ops [⟨some 68, .move (Operand.tmp 11), none, 0⟩,
 ⟨some 69, .move (Operand.tmp 12), none, 0⟩,
 ⟨some 70, .binOp BinOp.gtr 3 (Operand.tmp 68) (Operand.tmp 69) 3, none, 0⟩])
 (.cond (Operand.tmp 70)
 (.exit 0)
 .skip))
 (.seq
 (.draw [⟨some 71, .move (Operand.tmp 0), none, 0⟩,
 ⟨some 72, .move (Operand.tmp 11), none, 0⟩,
 ⟨some 73, .move (Operand.tmp 0), none, 0⟩,
 ⟨some 74, .move (Operand.tmp 12), none, 0⟩,
 ⟨some 75, .move (Operand.tmp 0), none, 0⟩,
 ⟨some 76, .move (Operand.tmp 12), none, 0⟩,
 ⟨some 77, .indexAddr 22 (Operand.tmp 75) (Operand.tmp 76), none, 0⟩,
 ⟨some 78, .load 25 (Operand.tmp 77), none, 0⟩,
 ⟨some 79, .move (Operand.tmp 0), none, 0⟩,
 ⟨some 80, .move (Operand.tmp 11), none, 0⟩,
 ⟨some 81, .indexAddr 22 (Operand.tmp 79) (Operand.tmp 80), none, 0⟩,
 ⟨some 82, .load 25 (Operand.tmp 81), none, 0⟩,
 ⟨some 83, .indexAddr 22 (Operand.tmp 71) (Operand.tmp 72), none, 0⟩,
 ⟨none, .store 25 (Operand.tmp 83) (Operand.tmp 78), none, 0⟩,
 ⟨some 84, .indexAddr 22 (Operand.tmp 73) (Operand.tmp 74), none, 0⟩,
 ⟨none, .store 25 (Operand.tmp 84) (Operand.tmp 82), none, 0⟩] true [14, 15] [0, 1, 2, 3, 4, 5, 6, 8, 9, 10, 7, 11, 12, 13, 14, 15])
 (.seq
 (.ops [⟨some 85, .move (Operand.tmp 11), none, 0⟩,
 ⟨some 86, .binOp BinOp.add 3 (Operand.tmp 85) (Operand.const (Value.int IntKind.i64 1)) 3, none, 0⟩,
 ⟨some 11, .assign (Operand.tmp 86), none, 0⟩])
 (.ops [⟨some 87, .move (Operand.tmp 12), none, 0⟩,
 ⟨some 88, .binOp BinOp.sub 3 (Operand.tmp 87) (Operand.const (Value.int IntKind.i64 1)) 3, none, 0⟩,
 ⟨some 12, .assign (Operand.tmp 88), none, 0⟩])))))))))
 (.seq
 (.ops [⟨some 89, .move (Operand.tmp 11), none, 0⟩,
 ⟨some 10, .assign (Operand.tmp 89), none, 0⟩])
 .ret)))))
abbrev R50 : List ResultVar := [ResultVar.tmp 10]
theorem ok50 : FnOK Tryd.prog 50 L50 R50 5 := ⟨_, _, Tryd.func50, rfl, by kernel_rfl, by kernel_rfl, by kernel_rfl, by kernel_rfl, Nat.le_of_ble_eq_true (by kernel_rfl), by kernel_rfl⟩
end Go.Proofs.YthchlpikcpidaaaDoor.Vs
