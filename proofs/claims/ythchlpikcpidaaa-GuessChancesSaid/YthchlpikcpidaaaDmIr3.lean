/- The seat's functions as the engine Dm reads them, written by dgen.py. -/
import Derived.Test.YthchlpikcpidaaaDmFn
import Derived.Test.YthchlpikcpidaaaProg
import Derived.KernelRfl
namespace Go.Proofs.Ythchlpikcpidaaa.Vs
set_option linter.unusedVariables false
set_option maxRecDepth 100000
/-- slices.partitionEqualOrdered[string] -/
def L76 : LCode :=
  (.seq
    (.ops [⟨some 8, .assign (Operand.const (Value.int IntKind.i64 0)), none, 0⟩])
    (.seq
      (.draw [⟨some 11, .move (Operand.tmp 0), none, 0⟩,
        ⟨some 12, .move (Operand.tmp 1), none, 0⟩,
        ⟨some 13, .move (Operand.tmp 0), none, 0⟩,
        ⟨some 14, .move (Operand.tmp 3), none, 0⟩,
        ⟨some 15, .move (Operand.tmp 0), none, 0⟩,
        ⟨some 16, .move (Operand.tmp 3), none, 0⟩,
        ⟨some 17, .indexAddr 23 (Operand.tmp 15) (Operand.tmp 16), none, 0⟩,
        ⟨some 18, .load 9 (Operand.tmp 17), none, 0⟩,
        ⟨some 19, .move (Operand.tmp 0), none, 0⟩,
        ⟨some 20, .move (Operand.tmp 1), none, 0⟩,
        ⟨some 21, .indexAddr 23 (Operand.tmp 19) (Operand.tmp 20), none, 0⟩,
        ⟨some 22, .load 9 (Operand.tmp 21), none, 0⟩,
        ⟨some 23, .indexAddr 23 (Operand.tmp 11) (Operand.tmp 12), none, 0⟩,
        ⟨none, .store 9 (Operand.tmp 23) (Operand.tmp 18), none, 0⟩,
        ⟨some 24, .indexAddr 23 (Operand.tmp 13) (Operand.tmp 14), none, 0⟩,
        ⟨none, .store 9 (Operand.tmp 24) (Operand.tmp 22), none, 0⟩] true [14, 15] [0, 1, 2, 3, 4, 5, 6, 8, 9, 10, 7, 11, 12, 13, 14, 15])
      (.seq
        (.ops [⟨some 25, .move (Operand.tmp 1), none, 0⟩,
          ⟨some 26, .binOp BinOp.add 3 (Operand.tmp 25) (Operand.const (Value.int IntKind.i64 1)) 3, none, 0⟩,
          ⟨some 27, .move (Operand.tmp 2), none, 0⟩,
          ⟨some 28, .binOp BinOp.sub 3 (Operand.tmp 27) (Operand.const (Value.int IntKind.i64 1)) 3, none, 0⟩,
          ⟨some 9, .assign (Operand.tmp 26), none, 0⟩,
          ⟨some 10, .assign (Operand.tmp 28), none, 0⟩])
        (.seq
          (.block 0
            (.loop
              (.block 1
                (.seq
                  (.block 2
                    (.loop
                      (.seq
                        (.seq
                          (.draw [⟨some 29, .move (Operand.tmp 9), none, 0⟩,
                            ⟨some 30, .move (Operand.tmp 10), none, 0⟩,
                            ⟨some 31, .binOp BinOp.leq 3 (Operand.tmp 29) (Operand.tmp 30) 3, none, 0⟩,
                            ⟨some 32, .move (Operand.tmp 31), none, 0⟩,
                            ⟨some 33, .move (Operand.tmp 0), some (32, true), 0⟩,
                            ⟨some 34, .move (Operand.tmp 1), some (32, true), 0⟩,
                            ⟨some 35, .indexAddr 23 (Operand.tmp 33) (Operand.tmp 34), some (32, true), 0⟩,
                            ⟨some 36, .load 9 (Operand.tmp 35), some (32, true), 0⟩,
                            ⟨some 37, .move (Operand.tmp 0), some (32, true), 0⟩,
                            ⟨some 38, .move (Operand.tmp 9), some (32, true), 0⟩,
                            ⟨some 39, .indexAddr 23 (Operand.tmp 37) (Operand.tmp 38), some (32, true), 0⟩,
                            ⟨some 40, .load 9 (Operand.tmp 39), some (32, true), 0⟩,
                            ⟨some 41, .call ⟨(Callee.value (Operand.func 75)), [(Operand.tmp 36), (Operand.tmp 40)].toArray, #[9, 9]⟩, some (32, true), 0⟩,
                            ⟨some 42, .unOp UnOp.not 4 (Operand.tmp 41), some (32, true), 0⟩,
                            ⟨some 43, .pick (Operand.tmp 32) (Operand.tmp 42) (Operand.const (Value.bool false)), none, 0⟩] true [12, 13, 14] [0, 1, 2, 3, 4, 5, 6, 8, 9, 10, 7, 11, 12, 13, 14])
                          (.cond (Operand.tmp 43)
                            .skip
                            (.exit 2)))
                        (.block 3
                          (.ops [⟨some 44, .move (Operand.tmp 9), none, 0⟩,
                            ⟨some 45, .binOp BinOp.add 3 (Operand.tmp 44) (Operand.const (Value.int IntKind.i64 1)) 3, none, 0⟩,
                            ⟨some 9, .assign (Operand.tmp 45), none, 0⟩])))))
                  (.seq
                    (.block 4
                      (.loop
                        (.seq
                          (.seq
                            (.draw [⟨some 46, .move (Operand.tmp 9), none, 0⟩,
                              ⟨some 47, .move (Operand.tmp 10), none, 0⟩,
                              ⟨some 48, .binOp BinOp.leq 3 (Operand.tmp 46) (Operand.tmp 47) 3, none, 0⟩,
                              ⟨some 49, .move (Operand.tmp 48), none, 0⟩,
                              ⟨some 50, .move (Operand.tmp 0), some (49, true), 0⟩,
                              ⟨some 51, .move (Operand.tmp 1), some (49, true), 0⟩,
                              ⟨some 52, .indexAddr 23 (Operand.tmp 50) (Operand.tmp 51), some (49, true), 0⟩,
                              ⟨some 53, .load 9 (Operand.tmp 52), some (49, true), 0⟩,
                              ⟨some 54, .move (Operand.tmp 0), some (49, true), 0⟩,
                              ⟨some 55, .move (Operand.tmp 10), some (49, true), 0⟩,
                              ⟨some 56, .indexAddr 23 (Operand.tmp 54) (Operand.tmp 55), some (49, true), 0⟩,
                              ⟨some 57, .load 9 (Operand.tmp 56), some (49, true), 0⟩,
                              ⟨some 58, .call ⟨(Callee.value (Operand.func 75)), [(Operand.tmp 53), (Operand.tmp 57)].toArray, #[9, 9]⟩, some (49, true), 0⟩,
                              ⟨some 59, .pick (Operand.tmp 49) (Operand.tmp 58) (Operand.const (Value.bool false)), none, 0⟩] true [12, 13] [0, 1, 2, 3, 4, 5, 6, 8, 9, 10, 7, 11, 12, 13])
                            (.cond (Operand.tmp 59)
                              .skip
                              (.exit 4)))
                          (.block 5
                            (.ops [⟨some 60, .move (Operand.tmp 10), none, 0⟩,
                              ⟨some 61, .binOp BinOp.sub 3 (Operand.tmp 60) (Operand.const (Value.int IntKind.i64 1)) 3, none, 0⟩,
                              ⟨some 10, .assign (Operand.tmp 61), none, 0⟩])))))
                    (.seq
                      (.seq
                        (.ops [⟨some 62, .move (Operand.tmp 9), none, 0⟩,
                          ⟨some 63, .move (Operand.tmp 10), none, 0⟩,
                          ⟨some 64, .binOp BinOp.gtr 3 (Operand.tmp 62) (Operand.tmp 63) 3, none, 0⟩])
                        (.cond (Operand.tmp 64)
                          (.exit 0)
                          .skip))
                      (.seq
                        (.draw [⟨some 65, .move (Operand.tmp 0), none, 0⟩,
                          ⟨some 66, .move (Operand.tmp 9), none, 0⟩,
                          ⟨some 67, .move (Operand.tmp 0), none, 0⟩,
                          ⟨some 68, .move (Operand.tmp 10), none, 0⟩,
                          ⟨some 69, .move (Operand.tmp 0), none, 0⟩,
                          ⟨some 70, .move (Operand.tmp 10), none, 0⟩,
                          ⟨some 71, .indexAddr 23 (Operand.tmp 69) (Operand.tmp 70), none, 0⟩,
                          ⟨some 72, .load 9 (Operand.tmp 71), none, 0⟩,
                          ⟨some 73, .move (Operand.tmp 0), none, 0⟩,
                          ⟨some 74, .move (Operand.tmp 9), none, 0⟩,
                          ⟨some 75, .indexAddr 23 (Operand.tmp 73) (Operand.tmp 74), none, 0⟩,
                          ⟨some 76, .load 9 (Operand.tmp 75), none, 0⟩,
                          ⟨some 77, .indexAddr 23 (Operand.tmp 65) (Operand.tmp 66), none, 0⟩,
                          ⟨none, .store 9 (Operand.tmp 77) (Operand.tmp 72), none, 0⟩,
                          ⟨some 78, .indexAddr 23 (Operand.tmp 67) (Operand.tmp 68), none, 0⟩,
                          ⟨none, .store 9 (Operand.tmp 78) (Operand.tmp 76), none, 0⟩] true [14, 15] [0, 1, 2, 3, 4, 5, 6, 8, 9, 10, 7, 11, 12, 13, 14, 15])
                        (.seq
                          (.ops [⟨some 79, .move (Operand.tmp 9), none, 0⟩,
                            ⟨some 80, .binOp BinOp.add 3 (Operand.tmp 79) (Operand.const (Value.int IntKind.i64 1)) 3, none, 0⟩,
                            ⟨some 9, .assign (Operand.tmp 80), none, 0⟩])
                          (.ops [⟨some 81, .move (Operand.tmp 10), none, 0⟩,
                            ⟨some 82, .binOp BinOp.sub 3 (Operand.tmp 81) (Operand.const (Value.int IntKind.i64 1)) 3, none, 0⟩,
                            ⟨some 10, .assign (Operand.tmp 82), none, 0⟩])))))))))
          (.seq
            (.ops [⟨some 83, .move (Operand.tmp 9), none, 0⟩,
              ⟨some 8, .assign (Operand.tmp 83), none, 0⟩])
            .ret)))))
abbrev R76 : List ResultVar := [ResultVar.tmp 8]
theorem ok76 : FnOK Try.prog 76 L76 R76 4 := ⟨_, _, Try.func76, rfl, by kernel_rfl, by kernel_rfl, by kernel_rfl, by kernel_rfl, Nat.le_of_ble_eq_true (by kernel_rfl), by kernel_rfl⟩

/-- slices.partitionOrdered[string] -/
def L77 : LCode :=
  (.seq
    (.ops [⟨some 8, .assign (Operand.const (Value.int IntKind.i64 0)), none, 0⟩,
      ⟨some 9, .assign (Operand.const (Value.bool false)), none, 0⟩])
    (.seq
      (.draw [⟨some 12, .move (Operand.tmp 0), none, 0⟩,
        ⟨some 13, .move (Operand.tmp 1), none, 0⟩,
        ⟨some 14, .move (Operand.tmp 0), none, 0⟩,
        ⟨some 15, .move (Operand.tmp 3), none, 0⟩,
        ⟨some 16, .move (Operand.tmp 0), none, 0⟩,
        ⟨some 17, .move (Operand.tmp 3), none, 0⟩,
        ⟨some 18, .indexAddr 23 (Operand.tmp 16) (Operand.tmp 17), none, 0⟩,
        ⟨some 19, .load 9 (Operand.tmp 18), none, 0⟩,
        ⟨some 20, .move (Operand.tmp 0), none, 0⟩,
        ⟨some 21, .move (Operand.tmp 1), none, 0⟩,
        ⟨some 22, .indexAddr 23 (Operand.tmp 20) (Operand.tmp 21), none, 0⟩,
        ⟨some 23, .load 9 (Operand.tmp 22), none, 0⟩,
        ⟨some 24, .indexAddr 23 (Operand.tmp 12) (Operand.tmp 13), none, 0⟩,
        ⟨none, .store 9 (Operand.tmp 24) (Operand.tmp 19), none, 0⟩,
        ⟨some 25, .indexAddr 23 (Operand.tmp 14) (Operand.tmp 15), none, 0⟩,
        ⟨none, .store 9 (Operand.tmp 25) (Operand.tmp 23), none, 0⟩] true [14, 15] [0, 1, 2, 3, 4, 5, 6, 8, 9, 10, 7, 11, 12, 13, 14, 15])
      (.seq
        (.ops [⟨some 26, .move (Operand.tmp 1), none, 0⟩,
          ⟨some 27, .binOp BinOp.add 3 (Operand.tmp 26) (Operand.const (Value.int IntKind.i64 1)) 3, none, 0⟩,
          ⟨some 28, .move (Operand.tmp 2), none, 0⟩,
          ⟨some 29, .binOp BinOp.sub 3 (Operand.tmp 28) (Operand.const (Value.int IntKind.i64 1)) 3, none, 0⟩,
          ⟨some 10, .assign (Operand.tmp 27), none, 0⟩,
          ⟨some 11, .assign (Operand.tmp 29), none, 0⟩])
        (.seq
          (.block 0
            (.loop
              (.seq
                (.seq
                  (.draw [⟨some 30, .move (Operand.tmp 10), none, 0⟩,
                    ⟨some 31, .move (Operand.tmp 11), none, 0⟩,
                    ⟨some 32, .binOp BinOp.leq 3 (Operand.tmp 30) (Operand.tmp 31) 3, none, 0⟩,
                    ⟨some 33, .move (Operand.tmp 32), none, 0⟩,
                    ⟨some 34, .move (Operand.tmp 0), some (33, true), 0⟩,
                    ⟨some 35, .move (Operand.tmp 10), some (33, true), 0⟩,
                    ⟨some 36, .indexAddr 23 (Operand.tmp 34) (Operand.tmp 35), some (33, true), 0⟩,
                    ⟨some 37, .load 9 (Operand.tmp 36), some (33, true), 0⟩,
                    ⟨some 38, .move (Operand.tmp 0), some (33, true), 0⟩,
                    ⟨some 39, .move (Operand.tmp 1), some (33, true), 0⟩,
                    ⟨some 40, .indexAddr 23 (Operand.tmp 38) (Operand.tmp 39), some (33, true), 0⟩,
                    ⟨some 41, .load 9 (Operand.tmp 40), some (33, true), 0⟩,
                    ⟨some 42, .call ⟨(Callee.value (Operand.func 75)), [(Operand.tmp 37), (Operand.tmp 41)].toArray, #[9, 9]⟩, some (33, true), 0⟩,
                    ⟨some 43, .pick (Operand.tmp 33) (Operand.tmp 42) (Operand.const (Value.bool false)), none, 0⟩] true [12, 13] [0, 1, 2, 3, 4, 5, 6, 8, 9, 10, 7, 11, 12, 13])
                  (.cond (Operand.tmp 43)
                    .skip
                    (.exit 0)))
                (.block 1
                  (.ops [⟨some 44, .move (Operand.tmp 10), none, 0⟩,
                    ⟨some 45, .binOp BinOp.add 3 (Operand.tmp 44) (Operand.const (Value.int IntKind.i64 1)) 3, none, 0⟩,
                    ⟨some 10, .assign (Operand.tmp 45), none, 0⟩])))))
          (.seq
            (.block 2
              (.loop
                (.seq
                  (.seq
                    (.draw [⟨some 46, .move (Operand.tmp 10), none, 0⟩,
                      ⟨some 47, .move (Operand.tmp 11), none, 0⟩,
                      ⟨some 48, .binOp BinOp.leq 3 (Operand.tmp 46) (Operand.tmp 47) 3, none, 0⟩,
                      ⟨some 49, .move (Operand.tmp 48), none, 0⟩,
                      ⟨some 50, .move (Operand.tmp 0), some (49, true), 0⟩,
                      ⟨some 51, .move (Operand.tmp 11), some (49, true), 0⟩,
                      ⟨some 52, .indexAddr 23 (Operand.tmp 50) (Operand.tmp 51), some (49, true), 0⟩,
                      ⟨some 53, .load 9 (Operand.tmp 52), some (49, true), 0⟩,
                      ⟨some 54, .move (Operand.tmp 0), some (49, true), 0⟩,
                      ⟨some 55, .move (Operand.tmp 1), some (49, true), 0⟩,
                      ⟨some 56, .indexAddr 23 (Operand.tmp 54) (Operand.tmp 55), some (49, true), 0⟩,
                      ⟨some 57, .load 9 (Operand.tmp 56), some (49, true), 0⟩,
                      ⟨some 58, .call ⟨(Callee.value (Operand.func 75)), [(Operand.tmp 53), (Operand.tmp 57)].toArray, #[9, 9]⟩, some (49, true), 0⟩,
                      ⟨some 59, .unOp UnOp.not 4 (Operand.tmp 58), some (49, true), 0⟩,
                      ⟨some 60, .pick (Operand.tmp 49) (Operand.tmp 59) (Operand.const (Value.bool false)), none, 0⟩] true [12, 13, 14] [0, 1, 2, 3, 4, 5, 6, 8, 9, 10, 7, 11, 12, 13, 14])
                    (.cond (Operand.tmp 60)
                      .skip
                      (.exit 2)))
                  (.block 3
                    (.ops [⟨some 61, .move (Operand.tmp 11), none, 0⟩,
                      ⟨some 62, .binOp BinOp.sub 3 (Operand.tmp 61) (Operand.const (Value.int IntKind.i64 1)) 3, none, 0⟩,
                      ⟨some 11, .assign (Operand.tmp 62), none, 0⟩])))))
            (.seq
              (.seq
                (.ops [⟨some 63, .move (Operand.tmp 10), none, 0⟩,
                  ⟨some 64, .move (Operand.tmp 11), none, 0⟩,
                  ⟨some 65, .binOp BinOp.gtr 3 (Operand.tmp 63) (Operand.tmp 64) 3, none, 0⟩])
                (.cond (Operand.tmp 65)
                  (.seq
                    (.draw [⟨some 66, .move (Operand.tmp 0), none, 0⟩,
                      ⟨some 67, .move (Operand.tmp 11), none, 0⟩,
                      ⟨some 68, .move (Operand.tmp 0), none, 0⟩,
                      ⟨some 69, .move (Operand.tmp 1), none, 0⟩,
                      ⟨some 70, .move (Operand.tmp 0), none, 0⟩,
                      ⟨some 71, .move (Operand.tmp 1), none, 0⟩,
                      ⟨some 72, .indexAddr 23 (Operand.tmp 70) (Operand.tmp 71), none, 0⟩,
                      ⟨some 73, .load 9 (Operand.tmp 72), none, 0⟩,
                      ⟨some 74, .move (Operand.tmp 0), none, 0⟩,
                      ⟨some 75, .move (Operand.tmp 11), none, 0⟩,
                      ⟨some 76, .indexAddr 23 (Operand.tmp 74) (Operand.tmp 75), none, 0⟩,
                      ⟨some 77, .load 9 (Operand.tmp 76), none, 0⟩,
                      ⟨some 78, .indexAddr 23 (Operand.tmp 66) (Operand.tmp 67), none, 0⟩,
                      ⟨none, .store 9 (Operand.tmp 78) (Operand.tmp 73), none, 0⟩,
                      ⟨some 79, .indexAddr 23 (Operand.tmp 68) (Operand.tmp 69), none, 0⟩,
                      ⟨none, .store 9 (Operand.tmp 79) (Operand.tmp 77), none, 0⟩] true [14, 15] [0, 1, 2, 3, 4, 5, 6, 8, 9, 10, 7, 11, 12, 13, 14, 15])
                    (.seq
                      (.ops [⟨some 80, .move (Operand.tmp 11), none, 0⟩,
                        ⟨some 8, .assign (Operand.tmp 80), none, 0⟩,
                        ⟨some 9, .assign (Operand.const (Value.bool true)), none, 0⟩])
                      .ret))
                  .skip))
              (.seq
                (.draw [⟨some 81, .move (Operand.tmp 0), none, 0⟩,
                  ⟨some 82, .move (Operand.tmp 10), none, 0⟩,
                  ⟨some 83, .move (Operand.tmp 0), none, 0⟩,
                  ⟨some 84, .move (Operand.tmp 11), none, 0⟩,
                  ⟨some 85, .move (Operand.tmp 0), none, 0⟩,
                  ⟨some 86, .move (Operand.tmp 11), none, 0⟩,
                  ⟨some 87, .indexAddr 23 (Operand.tmp 85) (Operand.tmp 86), none, 0⟩,
                  ⟨some 88, .load 9 (Operand.tmp 87), none, 0⟩,
                  ⟨some 89, .move (Operand.tmp 0), none, 0⟩,
                  ⟨some 90, .move (Operand.tmp 10), none, 0⟩,
                  ⟨some 91, .indexAddr 23 (Operand.tmp 89) (Operand.tmp 90), none, 0⟩,
                  ⟨some 92, .load 9 (Operand.tmp 91), none, 0⟩,
                  ⟨some 93, .indexAddr 23 (Operand.tmp 81) (Operand.tmp 82), none, 0⟩,
                  ⟨none, .store 9 (Operand.tmp 93) (Operand.tmp 88), none, 0⟩,
                  ⟨some 94, .indexAddr 23 (Operand.tmp 83) (Operand.tmp 84), none, 0⟩,
                  ⟨none, .store 9 (Operand.tmp 94) (Operand.tmp 92), none, 0⟩] true [14, 15] [0, 1, 2, 3, 4, 5, 6, 8, 9, 10, 7, 11, 12, 13, 14, 15])
                (.seq
                  (.ops [⟨some 95, .move (Operand.tmp 10), none, 0⟩,
                    ⟨some 96, .binOp BinOp.add 3 (Operand.tmp 95) (Operand.const (Value.int IntKind.i64 1)) 3, none, 0⟩,
                    ⟨some 10, .assign (Operand.tmp 96), none, 0⟩])
                  (.seq
                    (.ops [⟨some 97, .move (Operand.tmp 11), none, 0⟩,
                      ⟨some 98, .binOp BinOp.sub 3 (Operand.tmp 97) (Operand.const (Value.int IntKind.i64 1)) 3, none, 0⟩,
                      ⟨some 11, .assign (Operand.tmp 98), none, 0⟩])
                    (.seq
                      (.block 4
                        (.loop
                          (.block 5
                            (.seq
                              (.block 6
                                (.loop
                                  (.seq
                                    (.seq
                                      (.draw [⟨some 99, .move (Operand.tmp 10), none, 0⟩,
                                        ⟨some 100, .move (Operand.tmp 11), none, 0⟩,
                                        ⟨some 101, .binOp BinOp.leq 3 (Operand.tmp 99) (Operand.tmp 100) 3, none, 0⟩,
                                        ⟨some 102, .move (Operand.tmp 101), none, 0⟩,
                                        ⟨some 103, .move (Operand.tmp 0), some (102, true), 0⟩,
                                        ⟨some 104, .move (Operand.tmp 10), some (102, true), 0⟩,
                                        ⟨some 105, .indexAddr 23 (Operand.tmp 103) (Operand.tmp 104), some (102, true), 0⟩,
                                        ⟨some 106, .load 9 (Operand.tmp 105), some (102, true), 0⟩,
                                        ⟨some 107, .move (Operand.tmp 0), some (102, true), 0⟩,
                                        ⟨some 108, .move (Operand.tmp 1), some (102, true), 0⟩,
                                        ⟨some 109, .indexAddr 23 (Operand.tmp 107) (Operand.tmp 108), some (102, true), 0⟩,
                                        ⟨some 110, .load 9 (Operand.tmp 109), some (102, true), 0⟩,
                                        ⟨some 111, .call ⟨(Callee.value (Operand.func 75)), [(Operand.tmp 106), (Operand.tmp 110)].toArray, #[9, 9]⟩, some (102, true), 0⟩,
                                        ⟨some 112, .pick (Operand.tmp 102) (Operand.tmp 111) (Operand.const (Value.bool false)), none, 0⟩] true [12, 13] [0, 1, 2, 3, 4, 5, 6, 8, 9, 10, 7, 11, 12, 13])
                                      (.cond (Operand.tmp 112)
                                        .skip
                                        (.exit 6)))
                                    (.block 7
                                      (.ops [⟨some 113, .move (Operand.tmp 10), none, 0⟩,
                                        ⟨some 114, .binOp BinOp.add 3 (Operand.tmp 113) (Operand.const (Value.int IntKind.i64 1)) 3, none, 0⟩,
                                        ⟨some 10, .assign (Operand.tmp 114), none, 0⟩])))))
                              (.seq
                                (.block 8
                                  (.loop
                                    (.seq
                                      (.seq
                                        (.draw [⟨some 115, .move (Operand.tmp 10), none, 0⟩,
                                          ⟨some 116, .move (Operand.tmp 11), none, 0⟩,
                                          ⟨some 117, .binOp BinOp.leq 3 (Operand.tmp 115) (Operand.tmp 116) 3, none, 0⟩,
                                          ⟨some 118, .move (Operand.tmp 117), none, 0⟩,
                                          ⟨some 119, .move (Operand.tmp 0), some (118, true), 0⟩,
                                          ⟨some 120, .move (Operand.tmp 11), some (118, true), 0⟩,
                                          ⟨some 121, .indexAddr 23 (Operand.tmp 119) (Operand.tmp 120), some (118, true), 0⟩,
                                          ⟨some 122, .load 9 (Operand.tmp 121), some (118, true), 0⟩,
                                          ⟨some 123, .move (Operand.tmp 0), some (118, true), 0⟩,
                                          ⟨some 124, .move (Operand.tmp 1), some (118, true), 0⟩,
                                          ⟨some 125, .indexAddr 23 (Operand.tmp 123) (Operand.tmp 124), some (118, true), 0⟩,
                                          ⟨some 126, .load 9 (Operand.tmp 125), some (118, true), 0⟩,
                                          ⟨some 127, .call ⟨(Callee.value (Operand.func 75)), [(Operand.tmp 122), (Operand.tmp 126)].toArray, #[9, 9]⟩, some (118, true), 0⟩,
                                          ⟨some 128, .unOp UnOp.not 4 (Operand.tmp 127), some (118, true), 0⟩,
                                          ⟨some 129, .pick (Operand.tmp 118) (Operand.tmp 128) (Operand.const (Value.bool false)), none, 0⟩] true [12, 13, 14] [0, 1, 2, 3, 4, 5, 6, 8, 9, 10, 7, 11, 12, 13, 14])
                                        (.cond (Operand.tmp 129)
                                          .skip
                                          (.exit 8)))
                                      (.block 9
                                        (.ops [⟨some 130, .move (Operand.tmp 11), none, 0⟩,
                                          ⟨some 131, .binOp BinOp.sub 3 (Operand.tmp 130) (Operand.const (Value.int IntKind.i64 1)) 3, none, 0⟩,
                                          ⟨some 11, .assign (Operand.tmp 131), none, 0⟩])))))
                                (.seq
                                  (.seq
                                    (.ops [⟨some 132, .move (Operand.tmp 10), none, 0⟩,
                                      ⟨some 133, .move (Operand.tmp 11), none, 0⟩,
                                      ⟨some 134, .binOp BinOp.gtr 3 (Operand.tmp 132) (Operand.tmp 133) 3, none, 0⟩])
                                    (.cond (Operand.tmp 134)
                                      (.exit 4)
                                      .skip))
                                  (.seq
                                    (.draw [⟨some 135, .move (Operand.tmp 0), none, 0⟩,
                                      ⟨some 136, .move (Operand.tmp 10), none, 0⟩,
                                      ⟨some 137, .move (Operand.tmp 0), none, 0⟩,
                                      ⟨some 138, .move (Operand.tmp 11), none, 0⟩,
                                      ⟨some 139, .move (Operand.tmp 0), none, 0⟩,
                                      ⟨some 140, .move (Operand.tmp 11), none, 0⟩,
                                      ⟨some 141, .indexAddr 23 (Operand.tmp 139) (Operand.tmp 140), none, 0⟩,
                                      ⟨some 142, .load 9 (Operand.tmp 141), none, 0⟩,
                                      ⟨some 143, .move (Operand.tmp 0), none, 0⟩,
                                      ⟨some 144, .move (Operand.tmp 10), none, 0⟩,
                                      ⟨some 145, .indexAddr 23 (Operand.tmp 143) (Operand.tmp 144), none, 0⟩,
                                      ⟨some 146, .load 9 (Operand.tmp 145), none, 0⟩,
                                      ⟨some 147, .indexAddr 23 (Operand.tmp 135) (Operand.tmp 136), none, 0⟩,
                                      ⟨none, .store 9 (Operand.tmp 147) (Operand.tmp 142), none, 0⟩,
                                      ⟨some 148, .indexAddr 23 (Operand.tmp 137) (Operand.tmp 138), none, 0⟩,
                                      ⟨none, .store 9 (Operand.tmp 148) (Operand.tmp 146), none, 0⟩] true [14, 15] [0, 1, 2, 3, 4, 5, 6, 8, 9, 10, 7, 11, 12, 13, 14, 15])
                                    (.seq
                                      (.ops [⟨some 149, .move (Operand.tmp 10), none, 0⟩,
                                        ⟨some 150, .binOp BinOp.add 3 (Operand.tmp 149) (Operand.const (Value.int IntKind.i64 1)) 3, none, 0⟩,
                                        ⟨some 10, .assign (Operand.tmp 150), none, 0⟩])
                                      (.ops [⟨some 151, .move (Operand.tmp 11), none, 0⟩,
                                        ⟨some 152, .binOp BinOp.sub 3 (Operand.tmp 151) (Operand.const (Value.int IntKind.i64 1)) 3, none, 0⟩,
                                        ⟨some 11, .assign (Operand.tmp 152), none, 0⟩])))))))))
                      (.seq
                        (.draw [⟨some 153, .move (Operand.tmp 0), none, 0⟩,
                          ⟨some 154, .move (Operand.tmp 11), none, 0⟩,
                          ⟨some 155, .move (Operand.tmp 0), none, 0⟩,
                          ⟨some 156, .move (Operand.tmp 1), none, 0⟩,
                          ⟨some 157, .move (Operand.tmp 0), none, 0⟩,
                          ⟨some 158, .move (Operand.tmp 1), none, 0⟩,
                          ⟨some 159, .indexAddr 23 (Operand.tmp 157) (Operand.tmp 158), none, 0⟩,
                          ⟨some 160, .load 9 (Operand.tmp 159), none, 0⟩,
                          ⟨some 161, .move (Operand.tmp 0), none, 0⟩,
                          ⟨some 162, .move (Operand.tmp 11), none, 0⟩,
                          ⟨some 163, .indexAddr 23 (Operand.tmp 161) (Operand.tmp 162), none, 0⟩,
                          ⟨some 164, .load 9 (Operand.tmp 163), none, 0⟩,
                          ⟨some 165, .indexAddr 23 (Operand.tmp 153) (Operand.tmp 154), none, 0⟩,
                          ⟨none, .store 9 (Operand.tmp 165) (Operand.tmp 160), none, 0⟩,
                          ⟨some 166, .indexAddr 23 (Operand.tmp 155) (Operand.tmp 156), none, 0⟩,
                          ⟨none, .store 9 (Operand.tmp 166) (Operand.tmp 164), none, 0⟩] true [14, 15] [0, 1, 2, 3, 4, 5, 6, 8, 9, 10, 7, 11, 12, 13, 14, 15])
                        (.seq
                          (.ops [⟨some 167, .move (Operand.tmp 11), none, 0⟩,
                            ⟨some 8, .assign (Operand.tmp 167), none, 0⟩,
                            ⟨some 9, .assign (Operand.const (Value.bool false)), none, 0⟩])
                          .ret))))))))))))
abbrev R77 : List ResultVar := [ResultVar.tmp 8, ResultVar.tmp 9]
theorem ok77 : FnOK Try.prog 77 L77 R77 4 := ⟨_, _, Try.func77, rfl, by kernel_rfl, by kernel_rfl, by kernel_rfl, by kernel_rfl, Nat.le_of_ble_eq_true (by kernel_rfl), by kernel_rfl⟩

/-- ablaut/ablautref01.IsSymbol -/
def L80 : LCode :=
  (.seq
    (.ops [⟨some 2, .assign (Operand.const (Value.bool false)), none, 0⟩])
    (.seq
      (.seq
        (.ops [⟨some 3, .assign (Operand.const (Value.int IntKind.i64 0)), none, 0⟩])
        (.block 0
          (.loop
            (.seq
              (.seq
                (.ops [⟨some 4, .move (Operand.tmp 3), none, 0⟩,
                  ⟨some 5, .move (Operand.tmp 0), none, 0⟩,
                  ⟨some 6, .call ⟨(Callee.builtin Builtin.len), [(Operand.tmp 5)].toArray, #[9]⟩, none, 0⟩,
                  ⟨some 7, .binOp BinOp.lss 3 (Operand.tmp 4) (Operand.tmp 6) 3, none, 0⟩])
                (.cond (Operand.tmp 7)
                  .skip
                  (.exit 0)))
              (.seq
                (.block 1
                  (.seq
                    (.ops [⟨some 10, .move (Operand.tmp 0), none, 0⟩,
                      ⟨some 11, .move (Operand.tmp 3), none, 0⟩,
                      ⟨some 12, .index 9 (Operand.tmp 10) (Operand.tmp 11), none, 0⟩,
                      ⟨some 13, .binOp BinOp.lss 5 (Operand.tmp 12) (Operand.const (Value.int IntKind.u8 33)) 5, none, 0⟩,
                      ⟨some 14, .move (Operand.tmp 13), none, 0⟩,
                      ⟨some 15, .move (Operand.tmp 0), some (14, false), 0⟩,
                      ⟨some 16, .move (Operand.tmp 3), some (14, false), 0⟩,
                      ⟨some 17, .index 9 (Operand.tmp 15) (Operand.tmp 16), some (14, false), 0⟩,
                      ⟨some 18, .binOp BinOp.gtr 5 (Operand.tmp 17) (Operand.const (Value.int IntKind.u8 126)) 5, some (14, false), 0⟩,
                      ⟨some 19, .pick (Operand.tmp 14) (Operand.const (Value.bool true)) (Operand.tmp 18), none, 0⟩,
                      ⟨some 20, .move (Operand.tmp 19), none, 0⟩,
                      ⟨some 21, .move (Operand.tmp 0), some (20, false), 0⟩,
                      ⟨some 22, .move (Operand.tmp 3), some (20, false), 0⟩,
                      ⟨some 23, .index 9 (Operand.tmp 21) (Operand.tmp 22), some (20, false), 0⟩,
                      ⟨some 24, .binOp BinOp.eql 5 (Operand.tmp 23) (Operand.const (Value.int IntKind.u8 60)) 5, some (20, false), 0⟩,
                      ⟨some 25, .pick (Operand.tmp 20) (Operand.const (Value.bool true)) (Operand.tmp 24), none, 0⟩,
                      ⟨some 26, .move (Operand.tmp 25), none, 0⟩,
                      ⟨some 27, .move (Operand.tmp 0), some (26, false), 0⟩,
                      ⟨some 28, .move (Operand.tmp 3), some (26, false), 0⟩,
                      ⟨some 29, .index 9 (Operand.tmp 27) (Operand.tmp 28), some (26, false), 0⟩,
                      ⟨some 30, .binOp BinOp.eql 5 (Operand.tmp 29) (Operand.const (Value.int IntKind.u8 62)) 5, some (26, false), 0⟩,
                      ⟨some 31, .pick (Operand.tmp 26) (Operand.const (Value.bool true)) (Operand.tmp 30), none, 0⟩])
                    (.cond (Operand.tmp 31)
                      (.seq
                        (.ops [⟨some 2, .assign (Operand.const (Value.bool false)), none, 0⟩])
                        .ret)
                      .skip)))
                (.ops [⟨some 8, .move (Operand.tmp 3), none, 0⟩,
                  ⟨some 9, .binOp BinOp.add 3 (Operand.tmp 8) (Operand.const (Value.int IntKind.i64 1)) 3, none, 0⟩,
                  ⟨some 3, .assign (Operand.tmp 9), none, 0⟩]))))))
      (.seq
        (.ops [⟨some 32, .move (Operand.tmp 0), none, 0⟩,
          ⟨some 33, .call ⟨(Callee.builtin Builtin.len), [(Operand.tmp 32)].toArray, #[9]⟩, none, 0⟩,
          ⟨some 34, .binOp BinOp.geq 3 (Operand.tmp 33) (Operand.const (Value.int IntKind.i64 1)) 3, none, 0⟩,
          ⟨some 35, .move (Operand.tmp 34), none, 0⟩,
          ⟨some 36, .move (Operand.tmp 0), some (35, true), 0⟩,
          ⟨some 37, .call ⟨(Callee.builtin Builtin.len), [(Operand.tmp 36)].toArray, #[9]⟩, some (35, true), 0⟩,
          ⟨some 38, .binOp BinOp.leq 3 (Operand.tmp 37) (Operand.const (Value.int IntKind.i64 16)) 3, some (35, true), 0⟩,
          ⟨some 39, .pick (Operand.tmp 35) (Operand.tmp 38) (Operand.const (Value.bool false)), none, 0⟩,
          ⟨some 2, .assign (Operand.tmp 39), none, 0⟩])
        .ret)))
abbrev R80 : List ResultVar := [ResultVar.tmp 2]
theorem ok80 : FnOK Try.prog 80 L80 R80 1 := ⟨_, _, Try.func80, rfl, by kernel_rfl, by kernel_rfl, by kernel_rfl, by kernel_rfl, Nat.le_of_ble_eq_true (by kernel_rfl), by kernel_rfl⟩

/-- (*strings.Builder).copyCheck -/
def L81 : LCode :=
  (.seq
    (.ops [⟨some 2, .move (Operand.tmp 0), none, 0⟩,
      ⟨some 3, .nilCheck (Operand.tmp 2), none, 0⟩,
      ⟨some 4, .fieldAddr 95 (Operand.tmp 3) 0, none, 0⟩,
      ⟨some 5, .load 92 (Operand.tmp 4), none, 0⟩,
      ⟨some 6, .binOp BinOp.eql 92 (Operand.tmp 5) (Operand.const (Value.pointer none)) 92, none, 0⟩])
    (.cond (Operand.tmp 6)
      (.ops [⟨some 7, .move (Operand.tmp 0), none, 0⟩,
        ⟨some 8, .move (Operand.tmp 0), none, 0⟩,
        ⟨some 9, .convert 92 124 (Operand.tmp 8), none, 0⟩,
        ⟨some 10, .call ⟨(Callee.value (Operand.func 90)), [(Operand.tmp 9)].toArray, #[124]⟩, none, 0⟩,
        ⟨some 11, .convert 124 92 (Operand.tmp 10), none, 0⟩,
        ⟨some 12, .nilCheck (Operand.tmp 7), none, 0⟩,
        ⟨some 13, .fieldAddr 95 (Operand.tmp 12) 0, none, 0⟩,
        ⟨none, .store 92 (Operand.tmp 13) (Operand.tmp 11), none, 0⟩])
      (.seq
        (.ops [⟨some 14, .move (Operand.tmp 0), none, 0⟩,
          ⟨some 15, .nilCheck (Operand.tmp 14), none, 0⟩,
          ⟨some 16, .fieldAddr 95 (Operand.tmp 15) 0, none, 0⟩,
          ⟨some 17, .load 92 (Operand.tmp 16), none, 0⟩,
          ⟨some 18, .move (Operand.tmp 0), none, 0⟩,
          ⟨some 19, .binOp BinOp.neq 92 (Operand.tmp 17) (Operand.tmp 18) 92, none, 0⟩])
        (.cond (Operand.tmp 19)
          .bad
          .skip))))
abbrev R81 : List ResultVar := []
theorem ok81 : FnOK Try.prog 81 L81 R81 1 := ⟨_, _, Try.func81, rfl, by kernel_rfl, by kernel_rfl, by kernel_rfl, by kernel_rfl, Nat.le_of_ble_eq_true (by kernel_rfl), by kernel_rfl⟩

/-- (*strings.Builder).grow -/
def L82 : LCode :=
  (.seq
    (.draw [⟨some 5, .move (Operand.tmp 0), none, 0⟩,
      ⟨some 6, .nilCheck (Operand.tmp 5), none, 0⟩,
      ⟨some 7, .fieldAddr 95 (Operand.tmp 6) 1, none, 0⟩,
      ⟨some 8, .load 93 (Operand.tmp 7), none, 0⟩,
      ⟨some 9, .call ⟨(Callee.builtin Builtin.cap), [(Operand.tmp 8)].toArray, #[93]⟩, none, 0⟩,
      ⟨some 10, .binOp BinOp.mul 3 (Operand.const (Value.int IntKind.i64 2)) (Operand.tmp 9) 3, none, 0⟩,
      ⟨some 11, .move (Operand.tmp 1), none, 0⟩,
      ⟨some 12, .binOp BinOp.add 3 (Operand.tmp 10) (Operand.tmp 11) 3, none, 0⟩,
      ⟨some 13, .call ⟨(Callee.value (Operand.func 91)), [(Operand.tmp 12)].toArray, #[3]⟩, none, 0⟩,
      ⟨some 14, .move (Operand.tmp 0), none, 0⟩,
      ⟨some 15, .nilCheck (Operand.tmp 14), none, 0⟩,
      ⟨some 16, .fieldAddr 95 (Operand.tmp 15) 1, none, 0⟩,
      ⟨some 17, .load 93 (Operand.tmp 16), none, 0⟩,
      ⟨some 18, .call ⟨(Callee.builtin Builtin.len), [(Operand.tmp 17)].toArray, #[93]⟩, none, 0⟩,
      ⟨some 19, .slice 93 (Operand.tmp 13) none (some (Operand.tmp 18)) none, none, 0⟩,
      ⟨some 4, .assign (Operand.tmp 19), none, 0⟩] true [14, 15] [])
    (.seq
      (.ops [⟨some 20, .move (Operand.tmp 4), none, 0⟩,
        ⟨some 21, .move (Operand.tmp 0), none, 0⟩,
        ⟨some 22, .nilCheck (Operand.tmp 21), none, 0⟩,
        ⟨some 23, .fieldAddr 95 (Operand.tmp 22) 1, none, 0⟩,
        ⟨some 24, .load 93 (Operand.tmp 23), none, 0⟩,
        ⟨some 25, .call ⟨(Callee.builtin Builtin.copy), [(Operand.tmp 20), (Operand.tmp 24)].toArray, #[93, 93]⟩, none, 0⟩])
      (.ops [⟨some 26, .move (Operand.tmp 0), none, 0⟩,
        ⟨some 27, .move (Operand.tmp 4), none, 0⟩,
        ⟨some 28, .nilCheck (Operand.tmp 26), none, 0⟩,
        ⟨some 29, .fieldAddr 95 (Operand.tmp 28) 1, none, 0⟩,
        ⟨none, .store 93 (Operand.tmp 29) (Operand.tmp 27), none, 0⟩])))
abbrev R82 : List ResultVar := []
theorem ok82 : FnOK Try.prog 82 L82 R82 2 := ⟨_, _, Try.func82, rfl, by kernel_rfl, by kernel_rfl, by kernel_rfl, by kernel_rfl, Nat.le_of_ble_eq_true (by kernel_rfl), by kernel_rfl⟩

/-- slices.rotateCmpFunc[string] -/
def L83 : LCode :=
  (.seq
    (.ops [⟨some 12, .move (Operand.tmp 2), none, 0⟩,
      ⟨some 13, .move (Operand.tmp 1), none, 0⟩,
      ⟨some 14, .binOp BinOp.sub 3 (Operand.tmp 12) (Operand.tmp 13) 3, none, 0⟩,
      ⟨some 10, .assign (Operand.tmp 14), none, 0⟩])
    (.seq
      (.ops [⟨some 15, .move (Operand.tmp 3), none, 0⟩,
        ⟨some 16, .move (Operand.tmp 2), none, 0⟩,
        ⟨some 17, .binOp BinOp.sub 3 (Operand.tmp 15) (Operand.tmp 16) 3, none, 0⟩,
        ⟨some 11, .assign (Operand.tmp 17), none, 0⟩])
      (.seq
        (.block 0
          (.loop
            (.seq
              (.seq
                (.ops [⟨some 18, .move (Operand.tmp 10), none, 0⟩,
                  ⟨some 19, .move (Operand.tmp 11), none, 0⟩,
                  ⟨some 20, .binOp BinOp.neq 3 (Operand.tmp 18) (Operand.tmp 19) 3, none, 0⟩])
                (.cond (Operand.tmp 20)
                  .skip
                  (.exit 0)))
              (.block 1
                (.seq
                  (.ops [⟨some 21, .move (Operand.tmp 10), none, 0⟩,
                    ⟨some 22, .move (Operand.tmp 11), none, 0⟩,
                    ⟨some 23, .binOp BinOp.gtr 3 (Operand.tmp 21) (Operand.tmp 22) 3, none, 0⟩])
                  (.cond (Operand.tmp 23)
                    (.seq
                      (.ops [⟨some 24, .move (Operand.tmp 0), none, 0⟩,
                        ⟨some 25, .move (Operand.tmp 2), none, 0⟩,
                        ⟨some 26, .move (Operand.tmp 10), none, 0⟩,
                        ⟨some 27, .binOp BinOp.sub 3 (Operand.tmp 25) (Operand.tmp 26) 3, none, 0⟩,
                        ⟨some 28, .move (Operand.tmp 2), none, 0⟩,
                        ⟨some 29, .move (Operand.tmp 11), none, 0⟩,
                        ⟨some 30, .move (Operand.tmp 4), none, 0⟩,
                        ⟨some 31, .call ⟨(Callee.value (Operand.func 92)), [(Operand.tmp 24), (Operand.tmp 27), (Operand.tmp 28), (Operand.tmp 29), (Operand.tmp 30)].toArray, #[23, 3, 3, 3, 74]⟩, none, 0⟩])
                      (.ops [⟨some 32, .move (Operand.tmp 10), none, 0⟩,
                        ⟨some 33, .move (Operand.tmp 11), none, 0⟩,
                        ⟨some 34, .binOp BinOp.sub 3 (Operand.tmp 32) (Operand.tmp 33) 3, none, 0⟩,
                        ⟨some 10, .assign (Operand.tmp 34), none, 0⟩]))
                    (.seq
                      (.ops [⟨some 35, .move (Operand.tmp 0), none, 0⟩,
                        ⟨some 36, .move (Operand.tmp 2), none, 0⟩,
                        ⟨some 37, .move (Operand.tmp 10), none, 0⟩,
                        ⟨some 38, .binOp BinOp.sub 3 (Operand.tmp 36) (Operand.tmp 37) 3, none, 0⟩,
                        ⟨some 39, .move (Operand.tmp 2), none, 0⟩,
                        ⟨some 40, .move (Operand.tmp 11), none, 0⟩,
                        ⟨some 41, .binOp BinOp.add 3 (Operand.tmp 39) (Operand.tmp 40) 3, none, 0⟩,
                        ⟨some 42, .move (Operand.tmp 10), none, 0⟩,
                        ⟨some 43, .binOp BinOp.sub 3 (Operand.tmp 41) (Operand.tmp 42) 3, none, 0⟩,
                        ⟨some 44, .move (Operand.tmp 10), none, 0⟩,
                        ⟨some 45, .move (Operand.tmp 4), none, 0⟩,
                        ⟨some 46, .call ⟨(Callee.value (Operand.func 92)), [(Operand.tmp 35), (Operand.tmp 38), (Operand.tmp 43), (Operand.tmp 44), (Operand.tmp 45)].toArray, #[23, 3, 3, 3, 74]⟩, none, 0⟩])
                      (.ops [⟨some 47, .move (Operand.tmp 11), none, 0⟩,
                        ⟨some 48, .move (Operand.tmp 10), none, 0⟩,
                        ⟨some 49, .binOp BinOp.sub 3 (Operand.tmp 47) (Operand.tmp 48) 3, none, 0⟩,
                        ⟨some 11, .assign (Operand.tmp 49), none, 0⟩]))))))))
        (.ops [⟨some 50, .move (Operand.tmp 0), none, 0⟩,
          ⟨some 51, .move (Operand.tmp 2), none, 0⟩,
          ⟨some 52, .move (Operand.tmp 10), none, 0⟩,
          ⟨some 53, .binOp BinOp.sub 3 (Operand.tmp 51) (Operand.tmp 52) 3, none, 0⟩,
          ⟨some 54, .move (Operand.tmp 2), none, 0⟩,
          ⟨some 55, .move (Operand.tmp 10), none, 0⟩,
          ⟨some 56, .move (Operand.tmp 4), none, 0⟩,
          ⟨some 57, .call ⟨(Callee.value (Operand.func 92)), [(Operand.tmp 50), (Operand.tmp 53), (Operand.tmp 54), (Operand.tmp 55), (Operand.tmp 56)].toArray, #[23, 3, 3, 3, 74]⟩, none, 0⟩]))))
abbrev R83 : List ResultVar := []
theorem ok83 : FnOK Try.prog 83 L83 R83 5 := ⟨_, _, Try.func83, rfl, by kernel_rfl, by kernel_rfl, by kernel_rfl, by kernel_rfl, Nat.le_of_ble_eq_true (by kernel_rfl), by kernel_rfl⟩

/-- slices.siftDownOrdered[string] -/
def L84 : LCode :=
  (.seq
    (.ops [⟨some 10, .move (Operand.tmp 1), none, 0⟩,
      ⟨some 8, .assign (Operand.tmp 10), none, 0⟩])
    (.block 0
      (.loop
        (.block 1
          (.seq
            (.ops [⟨some 11, .move (Operand.tmp 8), none, 0⟩,
              ⟨some 12, .binOp BinOp.mul 3 (Operand.const (Value.int IntKind.i64 2)) (Operand.tmp 11) 3, none, 0⟩,
              ⟨some 13, .binOp BinOp.add 3 (Operand.tmp 12) (Operand.const (Value.int IntKind.i64 1)) 3, none, 0⟩,
              ⟨some 9, .assign (Operand.tmp 13), none, 0⟩])
            (.seq
              (.seq
                (.ops [⟨some 14, .move (Operand.tmp 9), none, 0⟩,
                  ⟨some 15, .move (Operand.tmp 2), none, 0⟩,
                  ⟨some 16, .binOp BinOp.geq 3 (Operand.tmp 14) (Operand.tmp 15) 3, none, 0⟩])
                (.cond (Operand.tmp 16)
                  (.exit 0)
                  .skip))
              (.seq
                (.seq
                  (.draw [⟨some 17, .move (Operand.tmp 9), none, 0⟩,
                    ⟨some 18, .binOp BinOp.add 3 (Operand.tmp 17) (Operand.const (Value.int IntKind.i64 1)) 3, none, 0⟩,
                    ⟨some 19, .move (Operand.tmp 2), none, 0⟩,
                    ⟨some 20, .binOp BinOp.lss 3 (Operand.tmp 18) (Operand.tmp 19) 3, none, 0⟩,
                    ⟨some 21, .move (Operand.tmp 20), none, 0⟩,
                    ⟨some 22, .move (Operand.tmp 0), some (21, true), 0⟩,
                    ⟨some 23, .move (Operand.tmp 3), some (21, true), 0⟩,
                    ⟨some 24, .move (Operand.tmp 9), some (21, true), 0⟩,
                    ⟨some 25, .binOp BinOp.add 3 (Operand.tmp 23) (Operand.tmp 24) 3, some (21, true), 0⟩,
                    ⟨some 26, .indexAddr 23 (Operand.tmp 22) (Operand.tmp 25), some (21, true), 0⟩,
                    ⟨some 27, .load 9 (Operand.tmp 26), some (21, true), 0⟩,
                    ⟨some 28, .move (Operand.tmp 0), some (21, true), 0⟩,
                    ⟨some 29, .move (Operand.tmp 3), some (21, true), 0⟩,
                    ⟨some 30, .move (Operand.tmp 9), some (21, true), 0⟩,
                    ⟨some 31, .binOp BinOp.add 3 (Operand.tmp 29) (Operand.tmp 30) 3, some (21, true), 0⟩,
                    ⟨some 32, .binOp BinOp.add 3 (Operand.tmp 31) (Operand.const (Value.int IntKind.i64 1)) 3, some (21, true), 0⟩,
                    ⟨some 33, .indexAddr 23 (Operand.tmp 28) (Operand.tmp 32), some (21, true), 0⟩,
                    ⟨some 34, .load 9 (Operand.tmp 33), some (21, true), 0⟩,
                    ⟨some 35, .call ⟨(Callee.value (Operand.func 75)), [(Operand.tmp 27), (Operand.tmp 34)].toArray, #[9, 9]⟩, some (21, true), 0⟩,
                    ⟨some 36, .pick (Operand.tmp 21) (Operand.tmp 35) (Operand.const (Value.bool false)), none, 0⟩] true [18, 19] [0, 1, 2, 3, 4, 5, 6, 7, 8, 9, 11, 12, 13, 14, 15, 16, 10, 17, 18, 19])
                  (.cond (Operand.tmp 36)
                    (.ops [⟨some 37, .move (Operand.tmp 9), none, 0⟩,
                      ⟨some 38, .binOp BinOp.add 3 (Operand.tmp 37) (Operand.const (Value.int IntKind.i64 1)) 3, none, 0⟩,
                      ⟨some 9, .assign (Operand.tmp 38), none, 0⟩])
                    .skip))
                (.seq
                  (.seq
                    (.draw [⟨some 39, .move (Operand.tmp 0), none, 0⟩,
                      ⟨some 40, .move (Operand.tmp 3), none, 0⟩,
                      ⟨some 41, .move (Operand.tmp 8), none, 0⟩,
                      ⟨some 42, .binOp BinOp.add 3 (Operand.tmp 40) (Operand.tmp 41) 3, none, 0⟩,
                      ⟨some 43, .indexAddr 23 (Operand.tmp 39) (Operand.tmp 42), none, 0⟩,
                      ⟨some 44, .load 9 (Operand.tmp 43), none, 0⟩,
                      ⟨some 45, .move (Operand.tmp 0), none, 0⟩,
                      ⟨some 46, .move (Operand.tmp 3), none, 0⟩,
                      ⟨some 47, .move (Operand.tmp 9), none, 0⟩,
                      ⟨some 48, .binOp BinOp.add 3 (Operand.tmp 46) (Operand.tmp 47) 3, none, 0⟩,
                      ⟨some 49, .indexAddr 23 (Operand.tmp 45) (Operand.tmp 48), none, 0⟩,
                      ⟨some 50, .load 9 (Operand.tmp 49), none, 0⟩,
                      ⟨some 51, .call ⟨(Callee.value (Operand.func 75)), [(Operand.tmp 44), (Operand.tmp 50)].toArray, #[9, 9]⟩, none, 0⟩,
                      ⟨some 52, .unOp UnOp.not 4 (Operand.tmp 51), none, 0⟩] true [12, 13] [0, 1, 2, 3, 4, 6, 7, 8, 9, 10, 5, 11, 12, 13])
                    (.cond (Operand.tmp 52)
                      .ret
                      .skip))
                  (.seq
                    (.draw [⟨some 53, .move (Operand.tmp 0), none, 0⟩,
                      ⟨some 54, .move (Operand.tmp 3), none, 0⟩,
                      ⟨some 55, .move (Operand.tmp 8), none, 0⟩,
                      ⟨some 56, .binOp BinOp.add 3 (Operand.tmp 54) (Operand.tmp 55) 3, none, 0⟩,
                      ⟨some 57, .move (Operand.tmp 0), none, 0⟩,
                      ⟨some 58, .move (Operand.tmp 3), none, 0⟩,
                      ⟨some 59, .move (Operand.tmp 9), none, 0⟩,
                      ⟨some 60, .binOp BinOp.add 3 (Operand.tmp 58) (Operand.tmp 59) 3, none, 0⟩,
                      ⟨some 61, .move (Operand.tmp 0), none, 0⟩,
                      ⟨some 62, .move (Operand.tmp 3), none, 0⟩,
                      ⟨some 63, .move (Operand.tmp 9), none, 0⟩,
                      ⟨some 64, .binOp BinOp.add 3 (Operand.tmp 62) (Operand.tmp 63) 3, none, 0⟩,
                      ⟨some 65, .indexAddr 23 (Operand.tmp 61) (Operand.tmp 64), none, 0⟩,
                      ⟨some 66, .load 9 (Operand.tmp 65), none, 0⟩,
                      ⟨some 67, .move (Operand.tmp 0), none, 0⟩,
                      ⟨some 68, .move (Operand.tmp 3), none, 0⟩,
                      ⟨some 69, .move (Operand.tmp 8), none, 0⟩,
                      ⟨some 70, .binOp BinOp.add 3 (Operand.tmp 68) (Operand.tmp 69) 3, none, 0⟩,
                      ⟨some 71, .indexAddr 23 (Operand.tmp 67) (Operand.tmp 70), none, 0⟩,
                      ⟨some 72, .load 9 (Operand.tmp 71), none, 0⟩,
                      ⟨some 73, .indexAddr 23 (Operand.tmp 53) (Operand.tmp 56), none, 0⟩,
                      ⟨none, .store 9 (Operand.tmp 73) (Operand.tmp 66), none, 0⟩,
                      ⟨some 74, .indexAddr 23 (Operand.tmp 57) (Operand.tmp 60), none, 0⟩,
                      ⟨none, .store 9 (Operand.tmp 74) (Operand.tmp 72), none, 0⟩] true [22, 23] [0, 1, 2, 3, 4, 5, 6, 7, 8, 9, 10, 11, 12, 14, 15, 16, 17, 18, 13, 19, 20, 21, 22, 23])
                    (.ops [⟨some 75, .move (Operand.tmp 9), none, 0⟩,
                      ⟨some 8, .assign (Operand.tmp 75), none, 0⟩]))))))))))
abbrev R84 : List ResultVar := []
theorem ok84 : FnOK Try.prog 84 L84 R84 4 := ⟨_, _, Try.func84, rfl, by kernel_rfl, by kernel_rfl, by kernel_rfl, by kernel_rfl, Nat.le_of_ble_eq_true (by kernel_rfl), by kernel_rfl⟩

/-- slices.nextPowerOfTwo -/
def L85 : LCode :=
  (.seq
    (.ops [⟨some 2, .assign (Operand.const (Value.int IntKind.u64 0)), none, 0⟩])
    (.seq
      (.ops [⟨some 3, .move (Operand.tmp 0), none, 0⟩,
        ⟨some 4, .convert 3 89 (Operand.tmp 3), none, 0⟩,
        ⟨some 5, .call ⟨(Callee.value (Operand.func 57)), [(Operand.tmp 4)].toArray, #[89]⟩, none, 0⟩,
        ⟨some 6, .binOp BinOp.shl 89 (Operand.const (Value.int IntKind.u64 1)) (Operand.tmp 5) 3, none, 0⟩,
        ⟨some 2, .assign (Operand.tmp 6), none, 0⟩])
      .ret))
abbrev R85 : List ResultVar := [ResultVar.tmp 2]
theorem ok85 : FnOK Try.prog 85 L85 R85 1 := ⟨_, _, Try.func85, rfl, by kernel_rfl, by kernel_rfl, by kernel_rfl, by kernel_rfl, Nat.le_of_ble_eq_true (by kernel_rfl), by kernel_rfl⟩

/-- (*slices.xorshift).Next -/
def L86 : LCode :=
  (.seq
    (.ops [⟨some 2, .assign (Operand.const (Value.int IntKind.u64 0)), none, 0⟩])
    (.seq
      (.draw [⟨some 3, .move (Operand.tmp 0), none, 0⟩,
        ⟨some 4, .nilCheck (Operand.tmp 3), none, 0⟩,
        ⟨some 5, .load 118 (Operand.tmp 4), none, 0⟩,
        ⟨some 6, .move (Operand.tmp 0), none, 0⟩,
        ⟨some 7, .nilCheck (Operand.tmp 6), none, 0⟩,
        ⟨some 8, .load 118 (Operand.tmp 7), none, 0⟩,
        ⟨some 9, .binOp BinOp.shl 118 (Operand.tmp 8) (Operand.const (Value.int IntKind.u64 13)) 89, none, 0⟩,
        ⟨some 10, .binOp BinOp.xor 118 (Operand.tmp 5) (Operand.tmp 9) 118, none, 0⟩,
        ⟨some 11, .nilCheck (Operand.tmp 3), none, 0⟩,
        ⟨none, .store 118 (Operand.tmp 11) (Operand.tmp 10), none, 0⟩] true [7, 8, 9] [0, 1, 3, 4, 2, 5, 6, 7, 8, 9])
      (.seq
        (.draw [⟨some 12, .move (Operand.tmp 0), none, 0⟩,
          ⟨some 13, .nilCheck (Operand.tmp 12), none, 0⟩,
          ⟨some 14, .load 118 (Operand.tmp 13), none, 0⟩,
          ⟨some 15, .move (Operand.tmp 0), none, 0⟩,
          ⟨some 16, .nilCheck (Operand.tmp 15), none, 0⟩,
          ⟨some 17, .load 118 (Operand.tmp 16), none, 0⟩,
          ⟨some 18, .binOp BinOp.shr 118 (Operand.tmp 17) (Operand.const (Value.int IntKind.u64 7)) 89, none, 0⟩,
          ⟨some 19, .binOp BinOp.xor 118 (Operand.tmp 14) (Operand.tmp 18) 118, none, 0⟩,
          ⟨some 20, .nilCheck (Operand.tmp 12), none, 0⟩,
          ⟨none, .store 118 (Operand.tmp 20) (Operand.tmp 19), none, 0⟩] true [7, 8, 9] [0, 1, 3, 4, 2, 5, 6, 7, 8, 9])
        (.seq
          (.draw [⟨some 21, .move (Operand.tmp 0), none, 0⟩,
            ⟨some 22, .nilCheck (Operand.tmp 21), none, 0⟩,
            ⟨some 23, .load 118 (Operand.tmp 22), none, 0⟩,
            ⟨some 24, .move (Operand.tmp 0), none, 0⟩,
            ⟨some 25, .nilCheck (Operand.tmp 24), none, 0⟩,
            ⟨some 26, .load 118 (Operand.tmp 25), none, 0⟩,
            ⟨some 27, .binOp BinOp.shl 118 (Operand.tmp 26) (Operand.const (Value.int IntKind.u64 17)) 89, none, 0⟩,
            ⟨some 28, .binOp BinOp.xor 118 (Operand.tmp 23) (Operand.tmp 27) 118, none, 0⟩,
            ⟨some 29, .nilCheck (Operand.tmp 21), none, 0⟩,
            ⟨none, .store 118 (Operand.tmp 29) (Operand.tmp 28), none, 0⟩] true [7, 8, 9] [0, 1, 3, 4, 2, 5, 6, 7, 8, 9])
          (.seq
            (.ops [⟨some 30, .move (Operand.tmp 0), none, 0⟩,
              ⟨some 31, .nilCheck (Operand.tmp 30), none, 0⟩,
              ⟨some 32, .load 118 (Operand.tmp 31), none, 0⟩,
              ⟨some 2, .assign (Operand.tmp 32), none, 0⟩])
            .ret)))))
abbrev R86 : List ResultVar := [ResultVar.tmp 2]
theorem ok86 : FnOK Try.prog 86 L86 R86 1 := ⟨_, _, Try.func86, rfl, by kernel_rfl, by kernel_rfl, by kernel_rfl, by kernel_rfl, Nat.le_of_ble_eq_true (by kernel_rfl), by kernel_rfl⟩

/-- slices.medianAdjacentOrdered[string] -/
def L87 : LCode :=
  (.seq
    (.ops [⟨some 6, .assign (Operand.const (Value.int IntKind.i64 0)), none, 0⟩])
    (.seq
      (.ops [⟨some 7, .move (Operand.tmp 0), none, 0⟩,
        ⟨some 8, .move (Operand.tmp 1), none, 0⟩,
        ⟨some 9, .binOp BinOp.sub 3 (Operand.tmp 8) (Operand.const (Value.int IntKind.i64 1)) 3, none, 0⟩,
        ⟨some 10, .move (Operand.tmp 1), none, 0⟩,
        ⟨some 11, .move (Operand.tmp 1), none, 0⟩,
        ⟨some 12, .binOp BinOp.add 3 (Operand.tmp 11) (Operand.const (Value.int IntKind.i64 1)) 3, none, 0⟩,
        ⟨some 13, .move (Operand.tmp 2), none, 0⟩,
        ⟨some 14, .call ⟨(Callee.value (Operand.func 88)), [(Operand.tmp 7), (Operand.tmp 9), (Operand.tmp 10), (Operand.tmp 12), (Operand.tmp 13)].toArray, #[23, 3, 3, 3, 122]⟩, none, 0⟩,
        ⟨some 6, .assign (Operand.tmp 14), none, 0⟩])
      .ret))
abbrev R87 : List ResultVar := [ResultVar.tmp 6]
theorem ok87 : FnOK Try.prog 87 L87 R87 3 := ⟨_, _, Try.func87, rfl, by kernel_rfl, by kernel_rfl, by kernel_rfl, by kernel_rfl, Nat.le_of_ble_eq_true (by kernel_rfl), by kernel_rfl⟩

/-- slices.medianOrdered[string] -/
def L88 : LCode :=
  (.seq
    (.ops [⟨some 10, .assign (Operand.const (Value.int IntKind.i64 0)), none, 0⟩])
    (.seq
      (.ops [⟨some 12, .move (Operand.tmp 0), none, 0⟩,
        ⟨some 13, .move (Operand.tmp 1), none, 0⟩,
        ⟨some 14, .move (Operand.tmp 2), none, 0⟩,
        ⟨some 15, .move (Operand.tmp 4), none, 0⟩,
        ⟨some 16, .call ⟨(Callee.value (Operand.func 93)), [(Operand.tmp 12), (Operand.tmp 13), (Operand.tmp 14), (Operand.tmp 15)].toArray, #[23, 3, 3, 122]⟩, none, 0⟩,
        ⟨some 11, .move (Operand.tmp 16), none, 0⟩,
        ⟨some 17, .extract (Operand.tmp 11) 0, none, 0⟩,
        ⟨some 18, .extract (Operand.tmp 11) 1, none, 0⟩,
        ⟨some 1, .assign (Operand.tmp 17), none, 0⟩,
        ⟨some 2, .assign (Operand.tmp 18), none, 0⟩])
      (.seq
        (.ops [⟨some 20, .move (Operand.tmp 0), none, 0⟩,
          ⟨some 21, .move (Operand.tmp 2), none, 0⟩,
          ⟨some 22, .move (Operand.tmp 3), none, 0⟩,
          ⟨some 23, .move (Operand.tmp 4), none, 0⟩,
          ⟨some 24, .call ⟨(Callee.value (Operand.func 93)), [(Operand.tmp 20), (Operand.tmp 21), (Operand.tmp 22), (Operand.tmp 23)].toArray, #[23, 3, 3, 122]⟩, none, 0⟩,
          ⟨some 19, .move (Operand.tmp 24), none, 0⟩,
          ⟨some 25, .extract (Operand.tmp 19) 0, none, 0⟩,
          ⟨some 26, .extract (Operand.tmp 19) 1, none, 0⟩,
          ⟨some 2, .assign (Operand.tmp 25), none, 0⟩,
          ⟨some 3, .assign (Operand.tmp 26), none, 0⟩])
        (.seq
          (.ops [⟨some 28, .move (Operand.tmp 0), none, 0⟩,
            ⟨some 29, .move (Operand.tmp 1), none, 0⟩,
            ⟨some 30, .move (Operand.tmp 2), none, 0⟩,
            ⟨some 31, .move (Operand.tmp 4), none, 0⟩,
            ⟨some 32, .call ⟨(Callee.value (Operand.func 93)), [(Operand.tmp 28), (Operand.tmp 29), (Operand.tmp 30), (Operand.tmp 31)].toArray, #[23, 3, 3, 122]⟩, none, 0⟩,
            ⟨some 27, .move (Operand.tmp 32), none, 0⟩,
            ⟨some 33, .extract (Operand.tmp 27) 0, none, 0⟩,
            ⟨some 34, .extract (Operand.tmp 27) 1, none, 0⟩,
            ⟨some 1, .assign (Operand.tmp 33), none, 0⟩,
            ⟨some 2, .assign (Operand.tmp 34), none, 0⟩])
          (.seq
            (.ops [⟨some 35, .move (Operand.tmp 2), none, 0⟩,
              ⟨some 10, .assign (Operand.tmp 35), none, 0⟩])
            .ret)))))
abbrev R88 : List ResultVar := [ResultVar.tmp 10]
theorem ok88 : FnOK Try.prog 88 L88 R88 5 := ⟨_, _, Try.func88, rfl, by kernel_rfl, by kernel_rfl, by kernel_rfl, by kernel_rfl, Nat.le_of_ble_eq_true (by kernel_rfl), by kernel_rfl⟩

/-- cmp.isNaN[string] -/
def L89 : LCode :=
  (.seq
    (.ops [⟨some 2, .assign (Operand.const (Value.bool false)), none, 0⟩])
    (.seq
      (.ops [⟨some 3, .move (Operand.tmp 0), none, 0⟩,
        ⟨some 4, .move (Operand.tmp 0), none, 0⟩,
        ⟨some 5, .binOp BinOp.neq 9 (Operand.tmp 3) (Operand.tmp 4) 9, none, 0⟩,
        ⟨some 2, .assign (Operand.tmp 5), none, 0⟩])
      .ret))
abbrev R89 : List ResultVar := [ResultVar.tmp 2]
theorem ok89 : FnOK Try.prog 89 L89 R89 1 := ⟨_, _, Try.func89, rfl, by kernel_rfl, by kernel_rfl, by kernel_rfl, by kernel_rfl, Nat.le_of_ble_eq_true (by kernel_rfl), by kernel_rfl⟩

/-- slices.swapRangeCmpFunc[string] -/
def L92 : LCode :=
  (.seq
    (.ops [⟨some 10, .assign (Operand.const (Value.int IntKind.i64 0)), none, 0⟩])
    (.block 0
      (.loop
        (.seq
          (.seq
            (.ops [⟨some 11, .move (Operand.tmp 10), none, 0⟩,
              ⟨some 12, .move (Operand.tmp 3), none, 0⟩,
              ⟨some 13, .binOp BinOp.lss 3 (Operand.tmp 11) (Operand.tmp 12) 3, none, 0⟩])
            (.cond (Operand.tmp 13)
              .skip
              (.exit 0)))
          (.seq
            (.block 1
              (.draw [⟨some 16, .move (Operand.tmp 0), none, 0⟩,
                ⟨some 17, .move (Operand.tmp 1), none, 0⟩,
                ⟨some 18, .move (Operand.tmp 10), none, 0⟩,
                ⟨some 19, .binOp BinOp.add 3 (Operand.tmp 17) (Operand.tmp 18) 3, none, 0⟩,
                ⟨some 20, .move (Operand.tmp 0), none, 0⟩,
                ⟨some 21, .move (Operand.tmp 2), none, 0⟩,
                ⟨some 22, .move (Operand.tmp 10), none, 0⟩,
                ⟨some 23, .binOp BinOp.add 3 (Operand.tmp 21) (Operand.tmp 22) 3, none, 0⟩,
                ⟨some 24, .move (Operand.tmp 0), none, 0⟩,
                ⟨some 25, .move (Operand.tmp 2), none, 0⟩,
                ⟨some 26, .move (Operand.tmp 10), none, 0⟩,
                ⟨some 27, .binOp BinOp.add 3 (Operand.tmp 25) (Operand.tmp 26) 3, none, 0⟩,
                ⟨some 28, .indexAddr 23 (Operand.tmp 24) (Operand.tmp 27), none, 0⟩,
                ⟨some 29, .load 9 (Operand.tmp 28), none, 0⟩,
                ⟨some 30, .move (Operand.tmp 0), none, 0⟩,
                ⟨some 31, .move (Operand.tmp 1), none, 0⟩,
                ⟨some 32, .move (Operand.tmp 10), none, 0⟩,
                ⟨some 33, .binOp BinOp.add 3 (Operand.tmp 31) (Operand.tmp 32) 3, none, 0⟩,
                ⟨some 34, .indexAddr 23 (Operand.tmp 30) (Operand.tmp 33), none, 0⟩,
                ⟨some 35, .load 9 (Operand.tmp 34), none, 0⟩,
                ⟨some 36, .indexAddr 23 (Operand.tmp 16) (Operand.tmp 19), none, 0⟩,
                ⟨none, .store 9 (Operand.tmp 36) (Operand.tmp 29), none, 0⟩,
                ⟨some 37, .indexAddr 23 (Operand.tmp 20) (Operand.tmp 23), none, 0⟩,
                ⟨none, .store 9 (Operand.tmp 37) (Operand.tmp 35), none, 0⟩] true [22, 23] [0, 1, 2, 3, 4, 5, 6, 7, 8, 9, 10, 11, 12, 14, 15, 16, 17, 18, 13, 19, 20, 21, 22, 23]))
            (.ops [⟨some 14, .move (Operand.tmp 10), none, 0⟩,
              ⟨some 15, .binOp BinOp.add 3 (Operand.tmp 14) (Operand.const (Value.int IntKind.i64 1)) 3, none, 0⟩,
              ⟨some 10, .assign (Operand.tmp 15), none, 0⟩]))))))
abbrev R92 : List ResultVar := []
theorem ok92 : FnOK Try.prog 92 L92 R92 5 := ⟨_, _, Try.func92, rfl, by kernel_rfl, by kernel_rfl, by kernel_rfl, by kernel_rfl, Nat.le_of_ble_eq_true (by kernel_rfl), by kernel_rfl⟩

/-- slices.order2Ordered[string] -/
def L93 : LCode :=
  (.seq
    (.ops [⟨some 8, .assign (Operand.const (Value.int IntKind.i64 0)), none, 0⟩,
      ⟨some 9, .assign (Operand.const (Value.int IntKind.i64 0)), none, 0⟩])
    (.seq
      (.seq
        (.draw [⟨some 10, .move (Operand.tmp 0), none, 0⟩,
          ⟨some 11, .move (Operand.tmp 2), none, 0⟩,
          ⟨some 12, .indexAddr 23 (Operand.tmp 10) (Operand.tmp 11), none, 0⟩,
          ⟨some 13, .load 9 (Operand.tmp 12), none, 0⟩,
          ⟨some 14, .move (Operand.tmp 0), none, 0⟩,
          ⟨some 15, .move (Operand.tmp 1), none, 0⟩,
          ⟨some 16, .indexAddr 23 (Operand.tmp 14) (Operand.tmp 15), none, 0⟩,
          ⟨some 17, .load 9 (Operand.tmp 16), none, 0⟩,
          ⟨some 18, .call ⟨(Callee.value (Operand.func 75)), [(Operand.tmp 13), (Operand.tmp 17)].toArray, #[9, 9]⟩, none, 0⟩] true [8] [0, 1, 2, 4, 5, 6, 3, 7, 8])
        (.cond (Operand.tmp 18)
          (.seq
            (.ops [⟨some 19, .move (Operand.tmp 3), none, 0⟩,
              ⟨some 20, .nilCheck (Operand.tmp 19), none, 0⟩,
              ⟨some 21, .load 3 (Operand.tmp 20), none, 0⟩,
              ⟨some 22, .binOp BinOp.add 3 (Operand.tmp 21) (Operand.const (Value.int IntKind.i64 1)) 3, none, 0⟩,
              ⟨some 23, .nilCheck (Operand.tmp 19), none, 0⟩,
              ⟨none, .store 3 (Operand.tmp 23) (Operand.tmp 22), none, 0⟩])
            (.seq
              (.ops [⟨some 24, .move (Operand.tmp 2), none, 0⟩,
                ⟨some 25, .move (Operand.tmp 1), none, 0⟩,
                ⟨some 8, .assign (Operand.tmp 24), none, 0⟩,
                ⟨some 9, .assign (Operand.tmp 25), none, 0⟩])
              .ret))
          .skip))
      (.seq
        (.ops [⟨some 26, .move (Operand.tmp 1), none, 0⟩,
          ⟨some 27, .move (Operand.tmp 2), none, 0⟩,
          ⟨some 8, .assign (Operand.tmp 26), none, 0⟩,
          ⟨some 9, .assign (Operand.tmp 27), none, 0⟩])
        .ret)))
abbrev R93 : List ResultVar := [ResultVar.tmp 8, ResultVar.tmp 9]
theorem ok93 : FnOK Try.prog 93 L93 R93 4 := ⟨_, _, Try.func93, rfl, by kernel_rfl, by kernel_rfl, by kernel_rfl, by kernel_rfl, Nat.le_of_ble_eq_true (by kernel_rfl), by kernel_rfl⟩
end Go.Proofs.Ythchlpikcpidaaa.Vs
