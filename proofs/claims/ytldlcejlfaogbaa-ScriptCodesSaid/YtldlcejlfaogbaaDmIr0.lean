/- The seat's functions as the engine Dm reads them, written by dgen.py. -/
import Derived.Test.YtldlcejlfaogbaaDmFn
import Derived.Test.YtldlcejlfaogbaaProg
import Derived.KernelRfl
namespace Go.Proofs.Ytldlcejlfaogbaa.Vs
set_option linter.unusedVariables false
set_option maxRecDepth 100000
/-- gosem.cut.init -/
def L2 : LCode :=
  (.ops [⟨some 0, .call ⟨(Callee.value (Operand.func 1)), [].toArray, #[]⟩, none, 0⟩])
abbrev R2 : List ResultVar := []
theorem ok2 : FnOK Try.prog 2 L2 R2 0 := ⟨_, _, Try.func2, rfl, by kernel_rfl, by kernel_rfl, by kernel_rfl, by kernel_rfl, Nat.le_of_ble_eq_true (by kernel_rfl), by kernel_rfl⟩

/-- ablaut/ablautlaw25.ScriptShifts -/
def L3 : LCode :=
  (.seq
    (.ops [⟨some 4, .assign (Operand.const (Value.bool false)), none, 0⟩])
    (.seq
      (.seq
        (.ops [⟨some 13, .move (Operand.tmp 0), none, 0⟩,
          ⟨some 14, .call ⟨(Callee.value (Operand.func 6)), [(Operand.tmp 13)].toArray, #[22]⟩, none, 0⟩,
          ⟨some 15, .move (Operand.tmp 14), none, 0⟩,
          ⟨some 16, .move (Operand.tmp 1), some (15, false), 0⟩,
          ⟨some 17, .buildSlice 35 1 [(0, (Operand.tmp 16))].toArray, some (15, false), 0⟩,
          ⟨some 18, .call ⟨(Callee.value (Operand.func 7)), [(Operand.tmp 17)].toArray, #[35]⟩, some (15, false), 0⟩,
          ⟨some 19, .binOp BinOp.gtr 3 (Operand.tmp 18) (Operand.const (Value.int IntKind.i64 100000)) 3, some (15, false), 0⟩,
          ⟨some 20, .pick (Operand.tmp 15) (Operand.const (Value.bool true)) (Operand.tmp 19), none, 0⟩])
        (.cond (Operand.tmp 20)
          (.seq
            (.ops [⟨some 21, .call ⟨(Callee.value (Operand.func 8)), [].toArray, #[]⟩, none, 0⟩,
              ⟨some 4, .assign (Operand.tmp 21), none, 0⟩])
            .ret)
          .skip))
      (.seq
        (.ops [⟨some 23, .move (Operand.tmp 0), none, 0⟩,
          ⟨some 24, .move (Operand.tmp 1), none, 0⟩,
          ⟨some 25, .call ⟨(Callee.value (Operand.func 9)), [(Operand.tmp 23), (Operand.tmp 24)].toArray, #[22, 23]⟩, none, 0⟩,
          ⟨some 22, .move (Operand.tmp 25), none, 0⟩,
          ⟨some 26, .extract (Operand.tmp 22) 0, none, 0⟩,
          ⟨some 27, .extract (Operand.tmp 22) 1, none, 0⟩,
          ⟨some 5, .assign (Operand.tmp 26), none, 0⟩,
          ⟨some 6, .assign (Operand.tmp 27), none, 0⟩])
        (.seq
          (.ops [⟨some 29, .move (Operand.tmp 0), none, 0⟩,
            ⟨some 30, .move (Operand.tmp 1), none, 0⟩,
            ⟨some 31, .call ⟨(Callee.value (Operand.func 10)), [(Operand.tmp 29), (Operand.tmp 30)].toArray, #[22, 23]⟩, none, 0⟩,
            ⟨some 28, .move (Operand.tmp 31), none, 0⟩,
            ⟨some 32, .extract (Operand.tmp 28) 0, none, 0⟩,
            ⟨some 33, .extract (Operand.tmp 28) 1, none, 0⟩,
            ⟨some 7, .assign (Operand.tmp 32), none, 0⟩,
            ⟨some 8, .assign (Operand.tmp 33), none, 0⟩])
          (.seq
            (.ops [⟨some 35, .move (Operand.tmp 0), none, 0⟩,
              ⟨some 36, .move (Operand.tmp 1), none, 0⟩,
              ⟨some 37, .call ⟨(Callee.value (Operand.func 11)), [(Operand.tmp 35), (Operand.tmp 36)].toArray, #[22, 23]⟩, none, 0⟩,
              ⟨some 34, .move (Operand.tmp 37), none, 0⟩,
              ⟨some 38, .extract (Operand.tmp 34) 0, none, 0⟩,
              ⟨some 39, .extract (Operand.tmp 34) 1, none, 0⟩,
              ⟨some 9, .assign (Operand.tmp 38), none, 0⟩,
              ⟨some 10, .assign (Operand.tmp 39), none, 0⟩])
            (.seq
              (.ops [⟨some 41, .move (Operand.tmp 0), none, 0⟩,
                ⟨some 42, .move (Operand.tmp 1), none, 0⟩,
                ⟨some 43, .call ⟨(Callee.value (Operand.func 12)), [(Operand.tmp 41), (Operand.tmp 42)].toArray, #[22, 23]⟩, none, 0⟩,
                ⟨some 40, .move (Operand.tmp 43), none, 0⟩,
                ⟨some 44, .extract (Operand.tmp 40) 0, none, 0⟩,
                ⟨some 45, .extract (Operand.tmp 40) 1, none, 0⟩,
                ⟨some 11, .assign (Operand.tmp 44), none, 0⟩,
                ⟨some 12, .assign (Operand.tmp 45), none, 0⟩])
              (.seq
                (.ops [⟨some 46, .move (Operand.tmp 0), none, 0⟩,
                  ⟨some 47, .call ⟨(Callee.value (Operand.func 13)), [(Operand.tmp 46)].toArray, #[22]⟩, none, 0⟩,
                  ⟨some 48, .move (Operand.tmp 0), none, 0⟩,
                  ⟨some 49, .call ⟨(Callee.value (Operand.func 14)), [(Operand.tmp 48)].toArray, #[22]⟩, none, 0⟩,
                  ⟨some 50, .binOp BinOp.eql 27 (Operand.tmp 47) (Operand.tmp 49) 27, none, 0⟩,
                  ⟨some 51, .move (Operand.tmp 50), none, 0⟩,
                  ⟨some 52, .move (Operand.tmp 5), some (51, true), 0⟩,
                  ⟨some 53, .move (Operand.tmp 7), some (51, true), 0⟩,
                  ⟨some 54, .call ⟨(Callee.value (Operand.func 15)), [(Operand.tmp 52), (Operand.tmp 53)].toArray, #[23, 23]⟩, some (51, true), 0⟩,
                  ⟨some 55, .pick (Operand.tmp 51) (Operand.tmp 54) (Operand.const (Value.bool false)), none, 0⟩,
                  ⟨some 56, .move (Operand.tmp 55), none, 0⟩,
                  ⟨some 57, .move (Operand.tmp 6), some (56, true), 0⟩,
                  ⟨some 58, .move (Operand.tmp 8), some (56, true), 0⟩,
                  ⟨some 59, .binOp BinOp.eql 27 (Operand.tmp 57) (Operand.tmp 58) 27, some (56, true), 0⟩,
                  ⟨some 60, .pick (Operand.tmp 56) (Operand.tmp 59) (Operand.const (Value.bool false)), none, 0⟩,
                  ⟨some 61, .move (Operand.tmp 60), none, 0⟩,
                  ⟨some 62, .move (Operand.tmp 9), some (61, true), 0⟩,
                  ⟨some 63, .move (Operand.tmp 11), some (61, true), 0⟩,
                  ⟨some 64, .binOp BinOp.eql 4 (Operand.tmp 62) (Operand.tmp 63) 4, some (61, true), 0⟩,
                  ⟨some 65, .pick (Operand.tmp 61) (Operand.tmp 64) (Operand.const (Value.bool false)), none, 0⟩,
                  ⟨some 66, .move (Operand.tmp 65), none, 0⟩,
                  ⟨some 67, .move (Operand.tmp 10), some (66, true), 0⟩,
                  ⟨some 68, .move (Operand.tmp 12), some (66, true), 0⟩,
                  ⟨some 69, .binOp BinOp.eql 27 (Operand.tmp 67) (Operand.tmp 68) 27, some (66, true), 0⟩,
                  ⟨some 70, .pick (Operand.tmp 66) (Operand.tmp 69) (Operand.const (Value.bool false)), none, 0⟩,
                  ⟨some 71, .move (Operand.tmp 70), none, 0⟩,
                  ⟨some 72, .call ⟨(Callee.value (Operand.func 8)), [].toArray, #[]⟩, some (71, true), 0⟩,
                  ⟨some 73, .pick (Operand.tmp 71) (Operand.tmp 72) (Operand.const (Value.bool false)), none, 0⟩,
                  ⟨some 4, .assign (Operand.tmp 73), none, 0⟩])
                .ret)))))))
abbrev R3 : List ResultVar := [ResultVar.tmp 4]
theorem ok3 : FnOK Try.prog 3 L3 R3 2 := ⟨_, _, Try.func3, rfl, by kernel_rfl, by kernel_rfl, by kernel_rfl, by kernel_rfl, Nat.le_of_ble_eq_true (by kernel_rfl), by kernel_rfl⟩

/-- ablaut/ablautlaw25.ScriptCodes -/
def L4 : LCode :=
  (.seq
    (.ops [⟨some 2, .assign (Operand.const (Value.bool false)), none, 0⟩])
    (.seq
      (.seq
        (.ops [⟨some 13, .move (Operand.tmp 0), none, 0⟩,
          ⟨some 14, .call ⟨(Callee.builtin Builtin.len), [(Operand.tmp 13)].toArray, #[35]⟩, none, 0⟩,
          ⟨some 15, .binOp BinOp.gtr 3 (Operand.tmp 14) (Operand.const (Value.int IntKind.i64 100000)) 3, none, 0⟩,
          ⟨some 16, .move (Operand.tmp 15), none, 0⟩,
          ⟨some 17, .move (Operand.tmp 0), some (16, false), 0⟩,
          ⟨some 18, .call ⟨(Callee.value (Operand.func 7)), [(Operand.tmp 17)].toArray, #[35]⟩, some (16, false), 0⟩,
          ⟨some 19, .binOp BinOp.gtr 3 (Operand.tmp 18) (Operand.const (Value.int IntKind.i64 100000)) 3, some (16, false), 0⟩,
          ⟨some 20, .pick (Operand.tmp 16) (Operand.const (Value.bool true)) (Operand.tmp 19), none, 0⟩])
        (.cond (Operand.tmp 20)
          (.seq
            (.ops [⟨some 21, .call ⟨(Callee.value (Operand.func 8)), [].toArray, #[]⟩, none, 0⟩,
              ⟨some 2, .assign (Operand.tmp 21), none, 0⟩])
            .ret)
          .skip))
      (.seq
        (.ops [⟨some 23, .move (Operand.tmp 0), none, 0⟩,
          ⟨some 24, .call ⟨(Callee.value (Operand.func 16)), [(Operand.tmp 23)].toArray, #[35]⟩, none, 0⟩,
          ⟨some 22, .move (Operand.tmp 24), none, 0⟩,
          ⟨some 25, .extract (Operand.tmp 22) 0, none, 0⟩,
          ⟨some 26, .extract (Operand.tmp 22) 1, none, 0⟩,
          ⟨some 27, .extract (Operand.tmp 22) 2, none, 0⟩,
          ⟨some 3, .assign (Operand.tmp 25), none, 0⟩,
          ⟨some 4, .assign (Operand.tmp 26), none, 0⟩,
          ⟨some 5, .assign (Operand.tmp 27), none, 0⟩])
        (.seq
          (.seq
            (.ops [⟨some 28, .move (Operand.tmp 0), none, 0⟩,
              ⟨some 29, .call ⟨(Callee.value (Operand.func 17)), [(Operand.tmp 28)].toArray, #[35]⟩, none, 0⟩,
              ⟨some 6, .assign (Operand.tmp 29), none, 0⟩])
            (.seq
              (.ops [⟨some 30, .move (Operand.tmp 6), none, 0⟩,
                ⟨some 31, .binOp BinOp.neq 27 (Operand.tmp 30) (Operand.const (Value.int IntKind.i64 0)) 27, none, 0⟩])
              (.cond (Operand.tmp 31)
                (.seq
                  (.ops [⟨some 32, .move (Operand.tmp 3), none, 0⟩,
                    ⟨some 33, .unOp UnOp.not 4 (Operand.tmp 32), none, 0⟩,
                    ⟨some 34, .move (Operand.tmp 33), none, 0⟩,
                    ⟨some 35, .move (Operand.tmp 4), some (34, true), 0⟩,
                    ⟨some 36, .call ⟨(Callee.builtin Builtin.len), [(Operand.tmp 35)].toArray, #[36]⟩, some (34, true), 0⟩,
                    ⟨some 37, .binOp BinOp.eql 3 (Operand.tmp 36) (Operand.const (Value.int IntKind.i64 0)) 3, some (34, true), 0⟩,
                    ⟨some 38, .pick (Operand.tmp 34) (Operand.tmp 37) (Operand.const (Value.bool false)), none, 0⟩,
                    ⟨some 39, .move (Operand.tmp 38), none, 0⟩,
                    ⟨some 40, .move (Operand.tmp 5), some (39, true), 0⟩,
                    ⟨some 41, .move (Operand.tmp 6), some (39, true), 0⟩,
                    ⟨some 42, .binOp BinOp.eql 27 (Operand.tmp 40) (Operand.tmp 41) 27, some (39, true), 0⟩,
                    ⟨some 43, .pick (Operand.tmp 39) (Operand.tmp 42) (Operand.const (Value.bool false)), none, 0⟩,
                    ⟨some 44, .move (Operand.tmp 43), none, 0⟩,
                    ⟨some 45, .call ⟨(Callee.value (Operand.func 8)), [].toArray, #[]⟩, some (44, true), 0⟩,
                    ⟨some 46, .pick (Operand.tmp 44) (Operand.tmp 45) (Operand.const (Value.bool false)), none, 0⟩,
                    ⟨some 2, .assign (Operand.tmp 46), none, 0⟩])
                  .ret)
                .skip)))
          (.seq
            (.ops [⟨some 47, .move (Operand.tmp 0), none, 0⟩,
              ⟨some 48, .call ⟨(Callee.value (Operand.func 18)), [(Operand.tmp 47)].toArray, #[35]⟩, none, 0⟩,
              ⟨some 7, .assign (Operand.tmp 48), none, 0⟩])
            (.seq
              (.seq
                (.ops [⟨some 49, .move (Operand.tmp 5), none, 0⟩,
                  ⟨some 50, .binOp BinOp.neq 27 (Operand.tmp 49) (Operand.const (Value.int IntKind.i64 0)) 27, none, 0⟩,
                  ⟨some 51, .move (Operand.tmp 50), none, 0⟩,
                  ⟨some 52, .move (Operand.tmp 3), some (51, false), 0⟩,
                  ⟨some 53, .move (Operand.tmp 7), some (51, false), 0⟩,
                  ⟨some 54, .binOp BinOp.lss 3 (Operand.tmp 53) (Operand.const (Value.int IntKind.i64 0)) 3, some (51, false), 0⟩,
                  ⟨some 55, .binOp BinOp.neq 4 (Operand.tmp 52) (Operand.tmp 54) 4, some (51, false), 0⟩,
                  ⟨some 56, .pick (Operand.tmp 51) (Operand.const (Value.bool true)) (Operand.tmp 55), none, 0⟩])
                (.cond (Operand.tmp 56)
                  (.seq
                    (.ops [⟨some 2, .assign (Operand.const (Value.bool false)), none, 0⟩])
                    .ret)
                  .skip))
              (.seq
                (.seq
                  (.ops [⟨some 57, .move (Operand.tmp 3), none, 0⟩])
                  (.cond (Operand.tmp 57)
                    (.seq
                      (.ops [⟨some 58, .move (Operand.tmp 4), none, 0⟩,
                        ⟨some 59, .call ⟨(Callee.builtin Builtin.len), [(Operand.tmp 58)].toArray, #[36]⟩, none, 0⟩,
                        ⟨some 60, .binOp BinOp.eql 3 (Operand.tmp 59) (Operand.const (Value.int IntKind.i64 0)) 3, none, 0⟩,
                        ⟨some 61, .move (Operand.tmp 60), none, 0⟩,
                        ⟨some 62, .call ⟨(Callee.value (Operand.func 8)), [].toArray, #[]⟩, some (61, true), 0⟩,
                        ⟨some 63, .pick (Operand.tmp 61) (Operand.tmp 62) (Operand.const (Value.bool false)), none, 0⟩,
                        ⟨some 2, .assign (Operand.tmp 63), none, 0⟩])
                      .ret)
                    .skip))
                (.seq
                  (.seq
                    (.draw [⟨some 64, .move (Operand.tmp 4), none, 0⟩,
                      ⟨some 65, .call ⟨(Callee.builtin Builtin.len), [(Operand.tmp 64)].toArray, #[36]⟩, none, 0⟩,
                      ⟨some 66, .binOp BinOp.neq 3 (Operand.tmp 65) (Operand.const (Value.int IntKind.i64 2)) 3, none, 0⟩,
                      ⟨some 67, .move (Operand.tmp 66), none, 0⟩,
                      ⟨some 68, .move (Operand.tmp 4), some (67, false), 0⟩,
                      ⟨some 69, .indexAddr 36 (Operand.tmp 68) (Operand.const (Value.int IntKind.i64 0)), some (67, false), 0⟩,
                      ⟨some 70, .load 42 (Operand.tmp 69), some (67, false), 0⟩,
                      ⟨some 71, .move (Operand.tmp 4), some (67, false), 0⟩,
                      ⟨some 72, .indexAddr 36 (Operand.tmp 71) (Operand.const (Value.int IntKind.i64 1)), some (67, false), 0⟩,
                      ⟨some 73, .load 42 (Operand.tmp 72), some (67, false), 0⟩,
                      ⟨some 74, .call ⟨(Callee.value (Operand.func 19)), [(Operand.tmp 70), (Operand.tmp 73)].toArray, #[42, 42]⟩, some (67, false), 0⟩,
                      ⟨some 75, .pick (Operand.tmp 67) (Operand.const (Value.bool true)) (Operand.tmp 74), none, 0⟩] true [10, 11] [0, 1, 2, 3, 4, 5, 6, 7, 8, 9, 10, 11])
                    (.cond (Operand.tmp 75)
                      (.seq
                        (.ops [⟨some 2, .assign (Operand.const (Value.bool false)), none, 0⟩])
                        .ret)
                      .skip))
                  (.seq
                    (.ops [⟨some 77, .move (Operand.tmp 0), none, 0⟩,
                      ⟨some 78, .move (Operand.tmp 4), none, 0⟩,
                      ⟨some 79, .indexAddr 36 (Operand.tmp 78) (Operand.const (Value.int IntKind.i64 0)), none, 0⟩,
                      ⟨some 80, .load 42 (Operand.tmp 79), none, 0⟩,
                      ⟨some 81, .call ⟨(Callee.value (Operand.func 20)), [(Operand.tmp 77), (Operand.tmp 80)].toArray, #[35, 42]⟩, none, 0⟩,
                      ⟨some 76, .move (Operand.tmp 81), none, 0⟩,
                      ⟨some 82, .extract (Operand.tmp 76) 0, none, 0⟩,
                      ⟨some 83, .extract (Operand.tmp 76) 1, none, 0⟩,
                      ⟨some 8, .assign (Operand.tmp 82), none, 0⟩,
                      ⟨some 9, .assign (Operand.tmp 83), none, 0⟩])
                    (.seq
                      (.ops [⟨some 85, .move (Operand.tmp 0), none, 0⟩,
                        ⟨some 86, .move (Operand.tmp 4), none, 0⟩,
                        ⟨some 87, .indexAddr 36 (Operand.tmp 86) (Operand.const (Value.int IntKind.i64 1)), none, 0⟩,
                        ⟨some 88, .load 42 (Operand.tmp 87), none, 0⟩,
                        ⟨some 89, .call ⟨(Callee.value (Operand.func 20)), [(Operand.tmp 85), (Operand.tmp 88)].toArray, #[35, 42]⟩, none, 0⟩,
                        ⟨some 84, .move (Operand.tmp 89), none, 0⟩,
                        ⟨some 90, .extract (Operand.tmp 84) 0, none, 0⟩,
                        ⟨some 91, .extract (Operand.tmp 84) 1, none, 0⟩,
                        ⟨some 10, .assign (Operand.tmp 90), none, 0⟩,
                        ⟨some 11, .assign (Operand.tmp 91), none, 0⟩])
                      (.seq
                        (.seq
                          (.ops [⟨some 92, .move (Operand.tmp 9), none, 0⟩,
                            ⟨some 93, .unOp UnOp.not 4 (Operand.tmp 92), none, 0⟩,
                            ⟨some 94, .move (Operand.tmp 93), none, 0⟩,
                            ⟨some 95, .move (Operand.tmp 11), some (94, false), 0⟩,
                            ⟨some 96, .unOp UnOp.not 4 (Operand.tmp 95), some (94, false), 0⟩,
                            ⟨some 97, .pick (Operand.tmp 94) (Operand.const (Value.bool true)) (Operand.tmp 96), none, 0⟩,
                            ⟨some 98, .move (Operand.tmp 97), none, 0⟩,
                            ⟨some 99, .move (Operand.tmp 8), some (98, false), 0⟩,
                            ⟨some 100, .move (Operand.tmp 10), some (98, false), 0⟩,
                            ⟨some 101, .call ⟨(Callee.value (Operand.func 15)), [(Operand.tmp 99), (Operand.tmp 100)].toArray, #[23, 23]⟩, some (98, false), 0⟩,
                            ⟨some 102, .unOp UnOp.not 4 (Operand.tmp 101), some (98, false), 0⟩,
                            ⟨some 103, .pick (Operand.tmp 98) (Operand.const (Value.bool true)) (Operand.tmp 102), none, 0⟩,
                            ⟨some 104, .move (Operand.tmp 103), none, 0⟩,
                            ⟨some 105, .move (Operand.tmp 8), some (104, false), 0⟩,
                            ⟨some 106, .call ⟨(Callee.builtin Builtin.len), [(Operand.tmp 105)].toArray, #[23]⟩, some (104, false), 0⟩,
                            ⟨some 107, .move (Operand.tmp 7), some (104, false), 0⟩,
                            ⟨some 108, .binOp BinOp.neq 3 (Operand.tmp 106) (Operand.tmp 107) 3, some (104, false), 0⟩,
                            ⟨some 109, .pick (Operand.tmp 104) (Operand.const (Value.bool true)) (Operand.tmp 108), none, 0⟩])
                          (.cond (Operand.tmp 109)
                            (.seq
                              (.ops [⟨some 2, .assign (Operand.const (Value.bool false)), none, 0⟩])
                              .ret)
                            .skip))
                        (.seq
                          (.seq
                            (.ops [⟨some 12, .assign (Operand.const (Value.int IntKind.i64 0)), none, 0⟩])
                            (.block 0
                              (.loop
                                (.seq
                                  (.seq
                                    (.ops [⟨some 110, .move (Operand.tmp 12), none, 0⟩,
                                      ⟨some 111, .move (Operand.tmp 0), none, 0⟩,
                                      ⟨some 112, .call ⟨(Callee.builtin Builtin.len), [(Operand.tmp 111)].toArray, #[35]⟩, none, 0⟩,
                                      ⟨some 113, .binOp BinOp.lss 3 (Operand.tmp 110) (Operand.tmp 112) 3, none, 0⟩,
                                      ⟨some 114, .move (Operand.tmp 113), none, 0⟩,
                                      ⟨some 115, .move (Operand.tmp 7), some (114, true), 0⟩,
                                      ⟨some 116, .binOp BinOp.eql 3 (Operand.tmp 115) (Operand.const (Value.int IntKind.i64 0)) 3, some (114, true), 0⟩,
                                      ⟨some 117, .pick (Operand.tmp 114) (Operand.tmp 116) (Operand.const (Value.bool false)), none, 0⟩])
                                    (.cond (Operand.tmp 117)
                                      .skip
                                      (.exit 0)))
                                  (.seq
                                    (.block 1
                                      (.seq
                                        (.ops [⟨some 120, .move (Operand.tmp 0), none, 0⟩,
                                          ⟨some 121, .move (Operand.tmp 12), none, 0⟩,
                                          ⟨some 122, .indexAddr 35 (Operand.tmp 120) (Operand.tmp 121), none, 0⟩,
                                          ⟨some 123, .load 23 (Operand.tmp 122), none, 0⟩,
                                          ⟨some 124, .call ⟨(Callee.builtin Builtin.len), [(Operand.tmp 123)].toArray, #[23]⟩, none, 0⟩,
                                          ⟨some 125, .binOp BinOp.eql 3 (Operand.tmp 124) (Operand.const (Value.int IntKind.i64 0)) 3, none, 0⟩])
                                        (.cond (Operand.tmp 125)
                                          (.seq
                                            (.ops [⟨some 126, .move (Operand.tmp 4), none, 0⟩,
                                              ⟨some 127, .indexAddr 36 (Operand.tmp 126) (Operand.const (Value.int IntKind.i64 0)), none, 0⟩,
                                              ⟨some 128, .load 42 (Operand.tmp 127), none, 0⟩,
                                              ⟨some 129, .call ⟨(Callee.builtin Builtin.len), [(Operand.tmp 128)].toArray, #[42]⟩, none, 0⟩,
                                              ⟨some 130, .binOp BinOp.eql 3 (Operand.tmp 129) (Operand.const (Value.int IntKind.i64 0)) 3, none, 0⟩,
                                              ⟨some 131, .move (Operand.tmp 130), none, 0⟩,
                                              ⟨some 132, .move (Operand.tmp 4), some (131, true), 0⟩,
                                              ⟨some 133, .indexAddr 36 (Operand.tmp 132) (Operand.const (Value.int IntKind.i64 1)), some (131, true), 0⟩,
                                              ⟨some 134, .load 42 (Operand.tmp 133), some (131, true), 0⟩,
                                              ⟨some 135, .call ⟨(Callee.builtin Builtin.len), [(Operand.tmp 134)].toArray, #[42]⟩, some (131, true), 0⟩,
                                              ⟨some 136, .binOp BinOp.eql 3 (Operand.tmp 135) (Operand.const (Value.int IntKind.i64 1)) 3, some (131, true), 0⟩,
                                              ⟨some 137, .pick (Operand.tmp 131) (Operand.tmp 136) (Operand.const (Value.bool false)), none, 0⟩,
                                              ⟨some 138, .move (Operand.tmp 137), none, 0⟩,
                                              ⟨some 139, .move (Operand.tmp 4), some (138, true), 0⟩,
                                              ⟨some 140, .indexAddr 36 (Operand.tmp 139) (Operand.const (Value.int IntKind.i64 1)), some (138, true), 0⟩,
                                              ⟨some 141, .load 42 (Operand.tmp 140), some (138, true), 0⟩,
                                              ⟨some 142, .indexAddr 42 (Operand.tmp 141) (Operand.const (Value.int IntKind.i64 0)), some (138, true), 0⟩,
                                              ⟨some 143, .load 3 (Operand.tmp 142), some (138, true), 0⟩,
                                              ⟨some 144, .move (Operand.tmp 12), some (138, true), 0⟩,
                                              ⟨some 145, .binOp BinOp.eql 3 (Operand.tmp 143) (Operand.tmp 144) 3, some (138, true), 0⟩,
                                              ⟨some 146, .pick (Operand.tmp 138) (Operand.tmp 145) (Operand.const (Value.bool false)), none, 0⟩,
                                              ⟨some 147, .move (Operand.tmp 146), none, 0⟩,
                                              ⟨some 148, .call ⟨(Callee.value (Operand.func 8)), [].toArray, #[]⟩, some (147, true), 0⟩,
                                              ⟨some 149, .pick (Operand.tmp 147) (Operand.tmp 148) (Operand.const (Value.bool false)), none, 0⟩,
                                              ⟨some 2, .assign (Operand.tmp 149), none, 0⟩])
                                            .ret)
                                          .skip)))
                                    (.ops [⟨some 118, .move (Operand.tmp 12), none, 0⟩,
                                      ⟨some 119, .binOp BinOp.add 3 (Operand.tmp 118) (Operand.const (Value.int IntKind.i64 1)) 3, none, 0⟩,
                                      ⟨some 12, .assign (Operand.tmp 119), none, 0⟩]))))))
                          (.seq
                            (.ops [⟨some 150, .call ⟨(Callee.value (Operand.func 8)), [].toArray, #[]⟩, none, 0⟩,
                              ⟨some 2, .assign (Operand.tmp 150), none, 0⟩])
                            .ret)))))))))))))
abbrev R4 : List ResultVar := [ResultVar.tmp 2]
theorem ok4 : FnOK Try.prog 4 L4 R4 1 := ⟨_, _, Try.func4, rfl, by kernel_rfl, by kernel_rfl, by kernel_rfl, by kernel_rfl, Nat.le_of_ble_eq_true (by kernel_rfl), by kernel_rfl⟩

/-- ablaut/ablautlaw25.ScriptCovers -/
def L5 : LCode :=
  (.seq
    (.ops [⟨some 4, .assign (Operand.const (Value.bool false)), none, 0⟩])
    (.seq
      (.seq
        (.ops [⟨some 9, .move (Operand.tmp 0), none, 0⟩,
          ⟨some 10, .call ⟨(Callee.value (Operand.func 6)), [(Operand.tmp 9)].toArray, #[22]⟩, none, 0⟩,
          ⟨some 11, .move (Operand.tmp 10), none, 0⟩,
          ⟨some 12, .move (Operand.tmp 1), some (11, false), 0⟩,
          ⟨some 13, .call ⟨(Callee.builtin Builtin.len), [(Operand.tmp 12)].toArray, #[35]⟩, some (11, false), 0⟩,
          ⟨some 14, .binOp BinOp.gtr 3 (Operand.tmp 13) (Operand.const (Value.int IntKind.i64 100000)) 3, some (11, false), 0⟩,
          ⟨some 15, .pick (Operand.tmp 11) (Operand.const (Value.bool true)) (Operand.tmp 14), none, 0⟩,
          ⟨some 16, .move (Operand.tmp 15), none, 0⟩,
          ⟨some 17, .move (Operand.tmp 1), some (16, false), 0⟩,
          ⟨some 18, .call ⟨(Callee.value (Operand.func 7)), [(Operand.tmp 17)].toArray, #[35]⟩, some (16, false), 0⟩,
          ⟨some 19, .binOp BinOp.gtr 3 (Operand.tmp 18) (Operand.const (Value.int IntKind.i64 100000)) 3, some (16, false), 0⟩,
          ⟨some 20, .pick (Operand.tmp 16) (Operand.const (Value.bool true)) (Operand.tmp 19), none, 0⟩])
        (.cond (Operand.tmp 20)
          (.seq
            (.ops [⟨some 21, .call ⟨(Callee.value (Operand.func 8)), [].toArray, #[]⟩, none, 0⟩,
              ⟨some 4, .assign (Operand.tmp 21), none, 0⟩])
            .ret)
          .skip))
      (.seq
        (.ops [⟨some 23, .move (Operand.tmp 0), none, 0⟩,
          ⟨some 24, .move (Operand.tmp 1), none, 0⟩,
          ⟨some 25, .call ⟨(Callee.value (Operand.func 21)), [(Operand.tmp 23), (Operand.tmp 24)].toArray, #[22, 35]⟩, none, 0⟩,
          ⟨some 22, .move (Operand.tmp 25), none, 0⟩,
          ⟨some 26, .extract (Operand.tmp 22) 0, none, 0⟩,
          ⟨some 27, .extract (Operand.tmp 22) 1, none, 0⟩,
          ⟨some 5, .assign (Operand.tmp 26), none, 0⟩,
          ⟨some 6, .assign (Operand.tmp 27), none, 0⟩])
        (.seq
          (.ops [⟨some 29, .move (Operand.tmp 0), none, 0⟩,
            ⟨some 30, .move (Operand.tmp 1), none, 0⟩,
            ⟨some 31, .call ⟨(Callee.value (Operand.func 22)), [(Operand.tmp 29), (Operand.tmp 30)].toArray, #[22, 35]⟩, none, 0⟩,
            ⟨some 28, .move (Operand.tmp 31), none, 0⟩,
            ⟨some 32, .extract (Operand.tmp 28) 0, none, 0⟩,
            ⟨some 33, .extract (Operand.tmp 28) 1, none, 0⟩,
            ⟨some 7, .assign (Operand.tmp 32), none, 0⟩,
            ⟨some 8, .assign (Operand.tmp 33), none, 0⟩])
          (.seq
            (.ops [⟨some 34, .move (Operand.tmp 5), none, 0⟩,
              ⟨some 35, .move (Operand.tmp 7), none, 0⟩,
              ⟨some 36, .call ⟨(Callee.value (Operand.func 19)), [(Operand.tmp 34), (Operand.tmp 35)].toArray, #[42, 42]⟩, none, 0⟩,
              ⟨some 37, .move (Operand.tmp 36), none, 0⟩,
              ⟨some 38, .move (Operand.tmp 6), some (37, true), 0⟩,
              ⟨some 39, .move (Operand.tmp 8), some (37, true), 0⟩,
              ⟨some 40, .binOp BinOp.eql 27 (Operand.tmp 38) (Operand.tmp 39) 27, some (37, true), 0⟩,
              ⟨some 41, .pick (Operand.tmp 37) (Operand.tmp 40) (Operand.const (Value.bool false)), none, 0⟩,
              ⟨some 42, .move (Operand.tmp 41), none, 0⟩,
              ⟨some 43, .call ⟨(Callee.value (Operand.func 8)), [].toArray, #[]⟩, some (42, true), 0⟩,
              ⟨some 44, .pick (Operand.tmp 42) (Operand.tmp 43) (Operand.const (Value.bool false)), none, 0⟩,
              ⟨some 4, .assign (Operand.tmp 44), none, 0⟩])
            .ret)))))
abbrev R5 : List ResultVar := [ResultVar.tmp 4]
theorem ok5 : FnOK Try.prog 5 L5 R5 2 := ⟨_, _, Try.func5, rfl, by kernel_rfl, by kernel_rfl, by kernel_rfl, by kernel_rfl, Nat.le_of_ble_eq_true (by kernel_rfl), by kernel_rfl⟩

/-- ablaut/ablautlaw25.over -/
def L6 : LCode :=
  (.seq
    (.ops [⟨some 2, .assign (Operand.const (Value.bool false)), none, 0⟩])
    (.seq
      (.ops [⟨some 5, .move (Operand.tmp 0), none, 0⟩,
        ⟨some 6, .call ⟨(Callee.builtin Builtin.len), [(Operand.tmp 5)].toArray, #[22]⟩, none, 0⟩,
        ⟨some 3, .assign (Operand.tmp 6), none, 0⟩])
      (.seq
        (.seq
          (.ops [⟨some 4, .assign (Operand.const (Value.int IntKind.i64 0)), none, 0⟩])
          (.block 0
            (.loop
              (.seq
                (.seq
                  (.ops [⟨some 7, .move (Operand.tmp 4), none, 0⟩,
                    ⟨some 8, .move (Operand.tmp 0), none, 0⟩,
                    ⟨some 9, .call ⟨(Callee.builtin Builtin.len), [(Operand.tmp 8)].toArray, #[22]⟩, none, 0⟩,
                    ⟨some 10, .binOp BinOp.lss 3 (Operand.tmp 7) (Operand.tmp 9) 3, none, 0⟩,
                    ⟨some 11, .move (Operand.tmp 10), none, 0⟩,
                    ⟨some 12, .move (Operand.tmp 3), some (11, true), 0⟩,
                    ⟨some 13, .binOp BinOp.leq 3 (Operand.tmp 12) (Operand.const (Value.int IntKind.i64 100000)) 3, some (11, true), 0⟩,
                    ⟨some 14, .pick (Operand.tmp 11) (Operand.tmp 13) (Operand.const (Value.bool false)), none, 0⟩])
                  (.cond (Operand.tmp 14)
                    .skip
                    (.exit 0)))
                (.seq
                  (.block 1
                    (.draw [⟨some 17, .move (Operand.tmp 3), none, 0⟩,
                      ⟨some 18, .move (Operand.tmp 0), none, 0⟩,
                      ⟨some 19, .move (Operand.tmp 4), none, 0⟩,
                      ⟨some 20, .indexAddr 22 (Operand.tmp 18) (Operand.tmp 19), none, 0⟩,
                      ⟨some 21, .fieldAddr 50 (Operand.tmp 20) 0, none, 0⟩,
                      ⟨some 22, .load 23 (Operand.tmp 21), none, 0⟩,
                      ⟨some 23, .move (Operand.tmp 0), none, 0⟩,
                      ⟨some 24, .move (Operand.tmp 4), none, 0⟩,
                      ⟨some 25, .indexAddr 22 (Operand.tmp 23) (Operand.tmp 24), none, 0⟩,
                      ⟨some 26, .fieldAddr 50 (Operand.tmp 25) 1, none, 0⟩,
                      ⟨some 27, .load 23 (Operand.tmp 26), none, 0⟩,
                      ⟨some 28, .buildSlice 35 2 [(0, (Operand.tmp 22)), (1, (Operand.tmp 27))].toArray, none, 0⟩,
                      ⟨some 29, .call ⟨(Callee.value (Operand.func 7)), [(Operand.tmp 28)].toArray, #[35]⟩, none, 0⟩,
                      ⟨some 30, .binOp BinOp.add 3 (Operand.tmp 17) (Operand.tmp 29) 3, none, 0⟩,
                      ⟨some 3, .assign (Operand.tmp 30), none, 0⟩] true [13, 14] []))
                  (.ops [⟨some 15, .move (Operand.tmp 4), none, 0⟩,
                    ⟨some 16, .binOp BinOp.add 3 (Operand.tmp 15) (Operand.const (Value.int IntKind.i64 1)) 3, none, 0⟩,
                    ⟨some 4, .assign (Operand.tmp 16), none, 0⟩]))))))
        (.seq
          (.ops [⟨some 31, .move (Operand.tmp 3), none, 0⟩,
            ⟨some 32, .binOp BinOp.gtr 3 (Operand.tmp 31) (Operand.const (Value.int IntKind.i64 100000)) 3, none, 0⟩,
            ⟨some 2, .assign (Operand.tmp 32), none, 0⟩])
          .ret))))
abbrev R6 : List ResultVar := [ResultVar.tmp 2]
theorem ok6 : FnOK Try.prog 6 L6 R6 1 := ⟨_, _, Try.func6, rfl, by kernel_rfl, by kernel_rfl, by kernel_rfl, by kernel_rfl, Nat.le_of_ble_eq_true (by kernel_rfl), by kernel_rfl⟩

/-- ablaut/ablautlaw25.bytes -/
def L7 : LCode :=
  (.seq
    (.ops [⟨some 2, .assign (Operand.const (Value.int IntKind.i64 0)), none, 0⟩])
    (.seq
      (.ops [⟨some 3, .assign (Operand.const (Value.int IntKind.i64 0)), none, 0⟩])
      (.seq
        (.seq
          (.ops [⟨some 4, .assign (Operand.const (Value.int IntKind.i64 0)), none, 0⟩])
          (.block 0
            (.loop
              (.seq
                (.seq
                  (.ops [⟨some 6, .move (Operand.tmp 4), none, 0⟩,
                    ⟨some 7, .move (Operand.tmp 0), none, 0⟩,
                    ⟨some 8, .call ⟨(Callee.builtin Builtin.len), [(Operand.tmp 7)].toArray, #[35]⟩, none, 0⟩,
                    ⟨some 9, .binOp BinOp.lss 3 (Operand.tmp 6) (Operand.tmp 8) 3, none, 0⟩,
                    ⟨some 10, .move (Operand.tmp 9), none, 0⟩,
                    ⟨some 11, .move (Operand.tmp 3), some (10, true), 0⟩,
                    ⟨some 12, .binOp BinOp.leq 3 (Operand.tmp 11) (Operand.const (Value.int IntKind.i64 100000)) 3, some (10, true), 0⟩,
                    ⟨some 13, .pick (Operand.tmp 10) (Operand.tmp 12) (Operand.const (Value.bool false)), none, 0⟩])
                  (.cond (Operand.tmp 13)
                    .skip
                    (.exit 0)))
                (.seq
                  (.block 1
                    (.seq
                      (.ops [⟨some 16, .move (Operand.tmp 3), none, 0⟩,
                        ⟨some 17, .move (Operand.tmp 0), none, 0⟩,
                        ⟨some 18, .move (Operand.tmp 4), none, 0⟩,
                        ⟨some 19, .indexAddr 35 (Operand.tmp 17) (Operand.tmp 18), none, 0⟩,
                        ⟨some 20, .load 23 (Operand.tmp 19), none, 0⟩,
                        ⟨some 21, .call ⟨(Callee.builtin Builtin.len), [(Operand.tmp 20)].toArray, #[23]⟩, none, 0⟩,
                        ⟨some 22, .binOp BinOp.add 3 (Operand.const (Value.int IntKind.i64 1)) (Operand.tmp 21) 3, none, 0⟩,
                        ⟨some 23, .binOp BinOp.add 3 (Operand.tmp 16) (Operand.tmp 22) 3, none, 0⟩,
                        ⟨some 3, .assign (Operand.tmp 23), none, 0⟩])
                      (.seq
                        (.ops [⟨some 5, .assign (Operand.const (Value.int IntKind.i64 0)), none, 0⟩])
                        (.block 2
                          (.loop
                            (.seq
                              (.seq
                                (.ops [⟨some 24, .move (Operand.tmp 5), none, 0⟩,
                                  ⟨some 25, .move (Operand.tmp 0), none, 0⟩,
                                  ⟨some 26, .move (Operand.tmp 4), none, 0⟩,
                                  ⟨some 27, .indexAddr 35 (Operand.tmp 25) (Operand.tmp 26), none, 0⟩,
                                  ⟨some 28, .load 23 (Operand.tmp 27), none, 0⟩,
                                  ⟨some 29, .call ⟨(Callee.builtin Builtin.len), [(Operand.tmp 28)].toArray, #[23]⟩, none, 0⟩,
                                  ⟨some 30, .binOp BinOp.lss 3 (Operand.tmp 24) (Operand.tmp 29) 3, none, 0⟩,
                                  ⟨some 31, .move (Operand.tmp 30), none, 0⟩,
                                  ⟨some 32, .move (Operand.tmp 3), some (31, true), 0⟩,
                                  ⟨some 33, .binOp BinOp.leq 3 (Operand.tmp 32) (Operand.const (Value.int IntKind.i64 100000)) 3, some (31, true), 0⟩,
                                  ⟨some 34, .pick (Operand.tmp 31) (Operand.tmp 33) (Operand.const (Value.bool false)), none, 0⟩])
                                (.cond (Operand.tmp 34)
                                  .skip
                                  (.exit 2)))
                              (.seq
                                (.block 3
                                  (.ops [⟨some 37, .move (Operand.tmp 3), none, 0⟩,
                                    ⟨some 38, .move (Operand.tmp 0), none, 0⟩,
                                    ⟨some 39, .move (Operand.tmp 4), none, 0⟩,
                                    ⟨some 40, .indexAddr 35 (Operand.tmp 38) (Operand.tmp 39), none, 0⟩,
                                    ⟨some 41, .load 23 (Operand.tmp 40), none, 0⟩,
                                    ⟨some 42, .move (Operand.tmp 5), none, 0⟩,
                                    ⟨some 43, .indexAddr 23 (Operand.tmp 41) (Operand.tmp 42), none, 0⟩,
                                    ⟨some 44, .load 9 (Operand.tmp 43), none, 0⟩,
                                    ⟨some 45, .call ⟨(Callee.builtin Builtin.len), [(Operand.tmp 44)].toArray, #[9]⟩, none, 0⟩,
                                    ⟨some 46, .binOp BinOp.add 3 (Operand.tmp 37) (Operand.tmp 45) 3, none, 0⟩,
                                    ⟨some 3, .assign (Operand.tmp 46), none, 0⟩]))
                                (.ops [⟨some 35, .move (Operand.tmp 5), none, 0⟩,
                                  ⟨some 36, .binOp BinOp.add 3 (Operand.tmp 35) (Operand.const (Value.int IntKind.i64 1)) 3, none, 0⟩,
                                  ⟨some 5, .assign (Operand.tmp 36), none, 0⟩]))))))))
                  (.ops [⟨some 14, .move (Operand.tmp 4), none, 0⟩,
                    ⟨some 15, .binOp BinOp.add 3 (Operand.tmp 14) (Operand.const (Value.int IntKind.i64 1)) 3, none, 0⟩,
                    ⟨some 4, .assign (Operand.tmp 15), none, 0⟩]))))))
        (.seq
          (.ops [⟨some 47, .move (Operand.tmp 3), none, 0⟩,
            ⟨some 2, .assign (Operand.tmp 47), none, 0⟩])
          .ret))))
abbrev R7 : List ResultVar := [ResultVar.tmp 2]
theorem ok7 : FnOK Try.prog 7 L7 R7 1 := ⟨_, _, Try.func7, rfl, by kernel_rfl, by kernel_rfl, by kernel_rfl, by kernel_rfl, Nat.le_of_ble_eq_true (by kernel_rfl), by kernel_rfl⟩

/-- ablaut/ablautlaw25.known -/
def L8 : LCode :=
  (.seq
    (.ops [⟨some 0, .assign (Operand.const (Value.bool false)), none, 0⟩])
    (.seq
      (.ops [⟨some 7, .buildSlice 23 1 [(0, (Operand.const (Value.string ⟨#[97]⟩)))].toArray, none, 0⟩,
        ⟨some 8, .buildSlice 23 1 [(0, (Operand.const (Value.string ⟨#[120]⟩)))].toArray, none, 0⟩,
        ⟨some 9, .build 50 [(0, (Operand.tmp 7)), (1, (Operand.tmp 8))].toArray, none, 0⟩,
        ⟨some 10, .buildSlice 23 1 [(0, (Operand.const (Value.string ⟨#[98]⟩)))].toArray, none, 0⟩,
        ⟨some 11, .buildSlice 23 2 [(0, (Operand.const (Value.string ⟨#[120]⟩))), (1, (Operand.const (Value.string ⟨#[120]⟩)))].toArray, none, 0⟩,
        ⟨some 12, .build 50 [(0, (Operand.tmp 10)), (1, (Operand.tmp 11))].toArray, none, 0⟩,
        ⟨some 13, .buildSlice 22 2 [(0, (Operand.tmp 9)), (1, (Operand.tmp 12))].toArray, none, 0⟩,
        ⟨some 1, .assign (Operand.tmp 13), none, 0⟩])
      (.seq
        (.ops [⟨some 15, .move (Operand.tmp 1), none, 0⟩,
          ⟨some 16, .call ⟨(Callee.value (Operand.func 23)), [(Operand.tmp 15)].toArray, #[22]⟩, none, 0⟩,
          ⟨some 14, .move (Operand.tmp 16), none, 0⟩,
          ⟨some 17, .extract (Operand.tmp 14) 0, none, 0⟩,
          ⟨some 18, .extract (Operand.tmp 14) 1, none, 0⟩,
          ⟨some 19, .extract (Operand.tmp 14) 2, none, 0⟩,
          ⟨some 3, .alloc 51, none, 0⟩,
          ⟨some 2, .assign (Operand.tmp 17), none, 0⟩,
          ⟨none, .store 51 (Operand.tmp 3) (Operand.tmp 18), none, 0⟩,
          ⟨some 4, .assign (Operand.tmp 19), none, 0⟩])
        (.seq
          (.ops [⟨some 21, .move (Operand.tmp 1), none, 0⟩,
            ⟨some 22, .buildSlice 23 2 [(0, (Operand.const (Value.string ⟨#[97]⟩))), (1, (Operand.const (Value.string ⟨#[98]⟩)))].toArray, none, 0⟩,
            ⟨some 23, .call ⟨(Callee.value (Operand.func 9)), [(Operand.tmp 21), (Operand.tmp 22)].toArray, #[22, 23]⟩, none, 0⟩,
            ⟨some 20, .move (Operand.tmp 23), none, 0⟩,
            ⟨some 24, .extract (Operand.tmp 20) 0, none, 0⟩,
            ⟨some 25, .extract (Operand.tmp 20) 1, none, 0⟩,
            ⟨some 5, .assign (Operand.tmp 24), none, 0⟩,
            ⟨some 6, .assign (Operand.tmp 25), none, 0⟩])
          (.seq
            (.ops [⟨some 26, .move (Operand.tmp 2), none, 0⟩,
              ⟨some 27, .unOp UnOp.not 4 (Operand.tmp 26), none, 0⟩,
              ⟨some 28, .move (Operand.tmp 27), none, 0⟩,
              ⟨some 29, .move (Operand.tmp 4), some (28, true), 0⟩,
              ⟨some 30, .binOp BinOp.eql 27 (Operand.tmp 29) (Operand.const (Value.int IntKind.i64 0)) 27, some (28, true), 0⟩,
              ⟨some 31, .pick (Operand.tmp 28) (Operand.tmp 30) (Operand.const (Value.bool false)), none, 0⟩,
              ⟨some 32, .move (Operand.tmp 31), none, 0⟩,
              ⟨some 33, .move (Operand.tmp 6), some (32, true), 0⟩,
              ⟨some 34, .binOp BinOp.eql 27 (Operand.tmp 33) (Operand.const (Value.int IntKind.i64 0)) 27, some (32, true), 0⟩,
              ⟨some 35, .pick (Operand.tmp 32) (Operand.tmp 34) (Operand.const (Value.bool false)), none, 0⟩,
              ⟨some 36, .move (Operand.tmp 35), none, 0⟩,
              ⟨some 37, .move (Operand.tmp 5), some (36, true), 0⟩,
              ⟨some 38, .call ⟨(Callee.builtin Builtin.len), [(Operand.tmp 37)].toArray, #[23]⟩, some (36, true), 0⟩,
              ⟨some 39, .binOp BinOp.eql 3 (Operand.tmp 38) (Operand.const (Value.int IntKind.i64 3)) 3, some (36, true), 0⟩,
              ⟨some 40, .pick (Operand.tmp 36) (Operand.tmp 39) (Operand.const (Value.bool false)), none, 0⟩,
              ⟨some 0, .assign (Operand.tmp 40), none, 0⟩])
            .ret)))))
abbrev R8 : List ResultVar := [ResultVar.tmp 0]
theorem ok8 : FnOK Try.prog 8 L8 R8 0 := ⟨_, _, Try.func8, rfl, by kernel_rfl, by kernel_rfl, by kernel_rfl, by kernel_rfl, Nat.le_of_ble_eq_true (by kernel_rfl), by kernel_rfl⟩

/-- ablaut/script.Shift -/
def L9 : LCode :=
  (.seq
    (.ops [⟨some 4, .assign (Operand.const (Value.slice none 0 0)), none, 0⟩,
      ⟨some 5, .assign (Operand.const (Value.int IntKind.i64 0)), none, 0⟩])
    (.seq
      (.seq
        (.ops [⟨some 9, .move (Operand.tmp 0), none, 0⟩,
          ⟨some 10, .move (Operand.tmp 1), none, 0⟩,
          ⟨some 11, .call ⟨(Callee.value (Operand.func 24)), [(Operand.tmp 9), (Operand.tmp 10)].toArray, #[22, 23]⟩, none, 0⟩,
          ⟨some 6, .assign (Operand.tmp 11), none, 0⟩])
        (.seq
          (.ops [⟨some 12, .move (Operand.tmp 6), none, 0⟩,
            ⟨some 13, .binOp BinOp.neq 27 (Operand.tmp 12) (Operand.const (Value.int IntKind.i64 0)) 27, none, 0⟩])
          (.cond (Operand.tmp 13)
            (.seq
              (.ops [⟨some 14, .move (Operand.tmp 6), none, 0⟩,
                ⟨some 4, .assign (Operand.const (Value.slice none 0 0)), none, 0⟩,
                ⟨some 5, .assign (Operand.tmp 14), none, 0⟩])
              .ret)
            .skip)))
      (.seq
        (.ops [⟨some 16, .move (Operand.tmp 0), none, 0⟩,
          ⟨some 17, .move (Operand.tmp 1), none, 0⟩,
          ⟨some 18, .call ⟨(Callee.value (Operand.func 25)), [(Operand.tmp 16), (Operand.tmp 17)].toArray, #[22, 23]⟩, none, 0⟩,
          ⟨some 15, .move (Operand.tmp 18), none, 0⟩,
          ⟨some 19, .extract (Operand.tmp 15) 0, none, 0⟩,
          ⟨some 20, .extract (Operand.tmp 15) 1, none, 0⟩,
          ⟨some 7, .assign (Operand.tmp 19), none, 0⟩,
          ⟨some 8, .assign (Operand.tmp 20), none, 0⟩])
        (.seq
          (.seq
            (.ops [⟨some 21, .move (Operand.tmp 7), none, 0⟩,
              ⟨some 22, .call ⟨(Callee.builtin Builtin.len), [(Operand.tmp 21)].toArray, #[23]⟩, none, 0⟩,
              ⟨some 23, .binOp BinOp.gtr 3 (Operand.tmp 22) (Operand.const (Value.int IntKind.i64 60)) 3, none, 0⟩])
            (.cond (Operand.tmp 23)
              (.seq
                (.ops [⟨some 4, .assign (Operand.const (Value.slice none 0 0)), none, 0⟩,
                  ⟨some 5, .assign (Operand.const (Value.int IntKind.i64 3)), none, 0⟩])
                .ret)
              .skip))
          (.seq
            (.ops [⟨some 24, .move (Operand.tmp 7), none, 0⟩,
              ⟨some 4, .assign (Operand.tmp 24), none, 0⟩,
              ⟨some 5, .assign (Operand.const (Value.int IntKind.i64 0)), none, 0⟩])
            .ret)))))
abbrev R9 : List ResultVar := [ResultVar.tmp 4, ResultVar.tmp 5]
theorem ok9 : FnOK Try.prog 9 L9 R9 2 := ⟨_, _, Try.func9, rfl, by kernel_rfl, by kernel_rfl, by kernel_rfl, by kernel_rfl, Nat.le_of_ble_eq_true (by kernel_rfl), by kernel_rfl⟩

/-- ablaut/ablautref25.Shift -/
def L10 : LCode :=
  (.seq
    (.ops [⟨some 4, .assign (Operand.const (Value.slice none 0 0)), none, 0⟩,
      ⟨some 5, .assign (Operand.const (Value.int IntKind.i64 0)), none, 0⟩])
    (.seq
      (.seq
        (.ops [⟨some 10, .move (Operand.tmp 0), none, 0⟩,
          ⟨some 11, .move (Operand.tmp 1), none, 0⟩,
          ⟨some 12, .call ⟨(Callee.value (Operand.func 26)), [(Operand.tmp 10), (Operand.tmp 11)].toArray, #[22, 23]⟩, none, 0⟩,
          ⟨some 6, .assign (Operand.tmp 12), none, 0⟩])
        (.seq
          (.ops [⟨some 13, .move (Operand.tmp 6), none, 0⟩,
            ⟨some 14, .binOp BinOp.neq 27 (Operand.tmp 13) (Operand.const (Value.int IntKind.i64 0)) 27, none, 0⟩])
          (.cond (Operand.tmp 14)
            (.seq
              (.ops [⟨some 15, .move (Operand.tmp 6), none, 0⟩,
                ⟨some 4, .assign (Operand.const (Value.slice none 0 0)), none, 0⟩,
                ⟨some 5, .assign (Operand.tmp 15), none, 0⟩])
              .ret)
            .skip)))
      (.seq
        (.ops [⟨some 17, .move (Operand.tmp 0), none, 0⟩,
          ⟨some 18, .move (Operand.tmp 1), none, 0⟩,
          ⟨some 19, .call ⟨(Callee.value (Operand.func 27)), [(Operand.tmp 17), (Operand.tmp 18)].toArray, #[22, 23]⟩, none, 0⟩,
          ⟨some 16, .move (Operand.tmp 19), none, 0⟩,
          ⟨some 20, .extract (Operand.tmp 16) 0, none, 0⟩,
          ⟨some 21, .extract (Operand.tmp 16) 1, none, 0⟩,
          ⟨some 22, .extract (Operand.tmp 16) 2, none, 0⟩,
          ⟨some 7, .assign (Operand.tmp 20), none, 0⟩,
          ⟨some 8, .assign (Operand.tmp 21), none, 0⟩,
          ⟨some 9, .assign (Operand.tmp 22), none, 0⟩])
        (.seq
          (.seq
            (.ops [⟨some 23, .move (Operand.tmp 7), none, 0⟩,
              ⟨some 24, .call ⟨(Callee.builtin Builtin.len), [(Operand.tmp 23)].toArray, #[23]⟩, none, 0⟩,
              ⟨some 25, .binOp BinOp.gtr 3 (Operand.tmp 24) (Operand.const (Value.int IntKind.i64 60)) 3, none, 0⟩])
            (.cond (Operand.tmp 25)
              (.seq
                (.ops [⟨some 4, .assign (Operand.const (Value.slice none 0 0)), none, 0⟩,
                  ⟨some 5, .assign (Operand.const (Value.int IntKind.i64 3)), none, 0⟩])
                .ret)
              .skip))
          (.seq
            (.ops [⟨some 26, .move (Operand.tmp 7), none, 0⟩,
              ⟨some 4, .assign (Operand.tmp 26), none, 0⟩,
              ⟨some 5, .assign (Operand.const (Value.int IntKind.i64 0)), none, 0⟩])
            .ret)))))
abbrev R10 : List ResultVar := [ResultVar.tmp 4, ResultVar.tmp 5]
theorem ok10 : FnOK Try.prog 10 L10 R10 2 := ⟨_, _, Try.func10, rfl, by kernel_rfl, by kernel_rfl, by kernel_rfl, by kernel_rfl, Nat.le_of_ble_eq_true (by kernel_rfl), by kernel_rfl⟩

/-- ablaut/script.Clean -/
def L11 : LCode :=
  (.seq
    (.ops [⟨some 4, .assign (Operand.const (Value.bool false)), none, 0⟩,
      ⟨some 5, .assign (Operand.const (Value.int IntKind.i64 0)), none, 0⟩])
    (.seq
      (.seq
        (.ops [⟨some 9, .move (Operand.tmp 0), none, 0⟩,
          ⟨some 10, .move (Operand.tmp 1), none, 0⟩,
          ⟨some 11, .call ⟨(Callee.value (Operand.func 24)), [(Operand.tmp 9), (Operand.tmp 10)].toArray, #[22, 23]⟩, none, 0⟩,
          ⟨some 6, .assign (Operand.tmp 11), none, 0⟩])
        (.seq
          (.ops [⟨some 12, .move (Operand.tmp 6), none, 0⟩,
            ⟨some 13, .binOp BinOp.neq 27 (Operand.tmp 12) (Operand.const (Value.int IntKind.i64 0)) 27, none, 0⟩])
          (.cond (Operand.tmp 13)
            (.seq
              (.ops [⟨some 14, .move (Operand.tmp 6), none, 0⟩,
                ⟨some 4, .assign (Operand.const (Value.bool false)), none, 0⟩,
                ⟨some 5, .assign (Operand.tmp 14), none, 0⟩])
              .ret)
            .skip)))
      (.seq
        (.ops [⟨some 16, .move (Operand.tmp 0), none, 0⟩,
          ⟨some 17, .move (Operand.tmp 1), none, 0⟩,
          ⟨some 18, .call ⟨(Callee.value (Operand.func 25)), [(Operand.tmp 16), (Operand.tmp 17)].toArray, #[22, 23]⟩, none, 0⟩,
          ⟨some 15, .move (Operand.tmp 18), none, 0⟩,
          ⟨some 19, .extract (Operand.tmp 15) 0, none, 0⟩,
          ⟨some 20, .extract (Operand.tmp 15) 1, none, 0⟩,
          ⟨some 7, .assign (Operand.tmp 19), none, 0⟩,
          ⟨some 8, .assign (Operand.tmp 20), none, 0⟩])
        (.seq
          (.ops [⟨some 21, .move (Operand.tmp 8), none, 0⟩,
            ⟨some 4, .assign (Operand.tmp 21), none, 0⟩,
            ⟨some 5, .assign (Operand.const (Value.int IntKind.i64 0)), none, 0⟩])
          .ret))))
abbrev R11 : List ResultVar := [ResultVar.tmp 4, ResultVar.tmp 5]
theorem ok11 : FnOK Try.prog 11 L11 R11 2 := ⟨_, _, Try.func11, rfl, by kernel_rfl, by kernel_rfl, by kernel_rfl, by kernel_rfl, Nat.le_of_ble_eq_true (by kernel_rfl), by kernel_rfl⟩

/-- ablaut/ablautref25.Clean -/
def L12 : LCode :=
  (.seq
    (.ops [⟨some 4, .assign (Operand.const (Value.bool false)), none, 0⟩,
      ⟨some 5, .assign (Operand.const (Value.int IntKind.i64 0)), none, 0⟩])
    (.seq
      (.seq
        (.ops [⟨some 10, .move (Operand.tmp 0), none, 0⟩,
          ⟨some 11, .move (Operand.tmp 1), none, 0⟩,
          ⟨some 12, .call ⟨(Callee.value (Operand.func 26)), [(Operand.tmp 10), (Operand.tmp 11)].toArray, #[22, 23]⟩, none, 0⟩,
          ⟨some 6, .assign (Operand.tmp 12), none, 0⟩])
        (.seq
          (.ops [⟨some 13, .move (Operand.tmp 6), none, 0⟩,
            ⟨some 14, .binOp BinOp.neq 27 (Operand.tmp 13) (Operand.const (Value.int IntKind.i64 0)) 27, none, 0⟩])
          (.cond (Operand.tmp 14)
            (.seq
              (.ops [⟨some 15, .move (Operand.tmp 6), none, 0⟩,
                ⟨some 4, .assign (Operand.const (Value.bool false)), none, 0⟩,
                ⟨some 5, .assign (Operand.tmp 15), none, 0⟩])
              .ret)
            .skip)))
      (.seq
        (.ops [⟨some 17, .move (Operand.tmp 0), none, 0⟩,
          ⟨some 18, .move (Operand.tmp 1), none, 0⟩,
          ⟨some 19, .call ⟨(Callee.value (Operand.func 27)), [(Operand.tmp 17), (Operand.tmp 18)].toArray, #[22, 23]⟩, none, 0⟩,
          ⟨some 16, .move (Operand.tmp 19), none, 0⟩,
          ⟨some 20, .extract (Operand.tmp 16) 0, none, 0⟩,
          ⟨some 21, .extract (Operand.tmp 16) 1, none, 0⟩,
          ⟨some 22, .extract (Operand.tmp 16) 2, none, 0⟩,
          ⟨some 7, .assign (Operand.tmp 20), none, 0⟩,
          ⟨some 8, .assign (Operand.tmp 21), none, 0⟩,
          ⟨some 9, .assign (Operand.tmp 22), none, 0⟩])
        (.seq
          (.ops [⟨some 23, .move (Operand.tmp 8), none, 0⟩,
            ⟨some 4, .assign (Operand.tmp 23), none, 0⟩,
            ⟨some 5, .assign (Operand.const (Value.int IntKind.i64 0)), none, 0⟩])
          .ret))))
abbrev R12 : List ResultVar := [ResultVar.tmp 4, ResultVar.tmp 5]
theorem ok12 : FnOK Try.prog 12 L12 R12 2 := ⟨_, _, Try.func12, rfl, by kernel_rfl, by kernel_rfl, by kernel_rfl, by kernel_rfl, Nat.le_of_ble_eq_true (by kernel_rfl), by kernel_rfl⟩

/-- ablaut/script.Validate -/
def L13 : LCode :=
  (.seq
    (.ops [⟨some 2, .assign (Operand.const (Value.int IntKind.i64 0)), none, 0⟩])
    (.seq
      (.seq
        (.ops [⟨some 10, .move (Operand.tmp 0), none, 0⟩,
          ⟨some 11, .call ⟨(Callee.builtin Builtin.len), [(Operand.tmp 10)].toArray, #[22]⟩, none, 0⟩,
          ⟨some 12, .binOp BinOp.gtr 3 (Operand.tmp 11) (Operand.const (Value.int IntKind.i64 24)) 3, none, 0⟩])
        (.cond (Operand.tmp 12)
          (.seq
            (.ops [⟨some 2, .assign (Operand.const (Value.int IntKind.i64 3)), none, 0⟩])
            .ret)
          .skip))
      (.seq
        (.seq
          (.ops [⟨some 13, .move (Operand.tmp 0), none, 0⟩,
            ⟨some 14, .call ⟨(Callee.builtin Builtin.len), [(Operand.tmp 13)].toArray, #[22]⟩, none, 0⟩,
            ⟨some 15, .move (Operand.const (Value.int IntKind.i64 0)), none, 0⟩])
          (.block 0
            (.loop
              (.seq
                (.ops [⟨some 16, .binOp BinOp.lss 3 (Operand.tmp 15) (Operand.tmp 14) 3, none, 0⟩])
                (.seq
                  (.cond (Operand.tmp 16)
                    .skip
                    (.exit 0))
                  (.seq
                    (.block 1
                      (.seq
                        (.ops [⟨some 17, .indexAddr 22 (Operand.tmp 13) (Operand.tmp 15), none, 0⟩,
                          ⟨some 18, .load 50 (Operand.tmp 17), none, 0⟩,
                          ⟨some 4, .alloc 50, none, 0⟩,
                          ⟨none, .store 50 (Operand.tmp 4) (Operand.tmp 18), none, 0⟩])
                        (.seq
                          (.ops [⟨some 19, .fieldAddr 50 (Operand.tmp 4) 0, none, 0⟩,
                            ⟨some 20, .load 23 (Operand.tmp 19), none, 0⟩,
                            ⟨some 21, .fieldAddr 50 (Operand.tmp 4) 1, none, 0⟩,
                            ⟨some 22, .load 23 (Operand.tmp 21), none, 0⟩,
                            ⟨some 23, .buildSlice 35 2 [(0, (Operand.tmp 20)), (1, (Operand.tmp 22))].toArray, none, 0⟩,
                            ⟨some 24, .call ⟨(Callee.builtin Builtin.len), [(Operand.tmp 23)].toArray, #[35]⟩, none, 0⟩,
                            ⟨some 25, .move (Operand.const (Value.int IntKind.i64 0)), none, 0⟩])
                          (.block 2
                            (.loop
                              (.seq
                                (.ops [⟨some 26, .binOp BinOp.lss 3 (Operand.tmp 25) (Operand.tmp 24) 3, none, 0⟩])
                                (.seq
                                  (.cond (Operand.tmp 26)
                                    .skip
                                    (.exit 2))
                                  (.seq
                                    (.block 3
                                      (.seq
                                        (.ops [⟨some 27, .indexAddr 35 (Operand.tmp 23) (Operand.tmp 25), none, 0⟩,
                                          ⟨some 28, .load 23 (Operand.tmp 27), none, 0⟩,
                                          ⟨some 6, .assign (Operand.tmp 28), none, 0⟩])
                                        (.seq
                                          (.ops [⟨some 29, .move (Operand.tmp 6), none, 0⟩,
                                            ⟨some 30, .call ⟨(Callee.value (Operand.func 28)), [(Operand.tmp 29)].toArray, #[23]⟩, none, 0⟩,
                                            ⟨some 7, .assign (Operand.tmp 30), none, 0⟩])
                                          (.seq
                                            (.ops [⟨some 31, .move (Operand.tmp 7), none, 0⟩,
                                              ⟨some 32, .binOp BinOp.neq 27 (Operand.tmp 31) (Operand.const (Value.int IntKind.i64 0)) 27, none, 0⟩])
                                            (.cond (Operand.tmp 32)
                                              (.seq
                                                (.ops [⟨some 33, .move (Operand.tmp 7), none, 0⟩,
                                                  ⟨some 2, .assign (Operand.tmp 33), none, 0⟩])
                                                .ret)
                                              .skip)))))
                                    (.ops [⟨some 34, .binOp BinOp.add 3 (Operand.tmp 25) (Operand.const (Value.int IntKind.i64 1)) 3, none, 0⟩,
                                      ⟨some 25, .move (Operand.tmp 34), none, 0⟩])))))))))
                    (.ops [⟨some 35, .binOp BinOp.add 3 (Operand.tmp 15) (Operand.const (Value.int IntKind.i64 1)) 3, none, 0⟩,
                      ⟨some 15, .move (Operand.tmp 35), none, 0⟩])))))))
        (.seq
          (.seq
            (.ops [⟨some 36, .move (Operand.tmp 0), none, 0⟩,
              ⟨some 37, .call ⟨(Callee.builtin Builtin.len), [(Operand.tmp 36)].toArray, #[22]⟩, none, 0⟩,
              ⟨some 38, .move (Operand.const (Value.int IntKind.i64 0)), none, 0⟩])
            (.block 4
              (.loop
                (.seq
                  (.ops [⟨some 39, .binOp BinOp.lss 3 (Operand.tmp 38) (Operand.tmp 37) 3, none, 0⟩])
                  (.seq
                    (.cond (Operand.tmp 39)
                      .skip
                      (.exit 4))
                    (.seq
                      (.block 5
                        (.seq
                          (.ops [⟨some 40, .move (Operand.tmp 38), none, 0⟩,
                            ⟨some 41, .indexAddr 22 (Operand.tmp 36) (Operand.tmp 38), none, 0⟩,
                            ⟨some 42, .load 50 (Operand.tmp 41), none, 0⟩,
                            ⟨some 9, .alloc 50, none, 0⟩,
                            ⟨some 8, .assign (Operand.tmp 40), none, 0⟩,
                            ⟨none, .store 50 (Operand.tmp 9) (Operand.tmp 42), none, 0⟩])
                          (.seq
                            (.draw [⟨some 43, .fieldAddr 50 (Operand.tmp 9) 0, none, 0⟩,
                              ⟨some 44, .load 23 (Operand.tmp 43), none, 0⟩,
                              ⟨some 45, .call ⟨(Callee.builtin Builtin.len), [(Operand.tmp 44)].toArray, #[23]⟩, none, 0⟩,
                              ⟨some 46, .binOp BinOp.eql 3 (Operand.tmp 45) (Operand.const (Value.int IntKind.i64 0)) 3, none, 0⟩,
                              ⟨some 47, .move (Operand.tmp 46), none, 0⟩,
                              ⟨some 48, .move (Operand.tmp 8), some (47, false), 0⟩,
                              ⟨some 49, .binOp BinOp.gtr 3 (Operand.tmp 48) (Operand.const (Value.int IntKind.i64 0)) 3, some (47, false), 0⟩,
                              ⟨some 50, .move (Operand.tmp 49), some (47, false), 0⟩,
                              ⟨some 51, .move (Operand.tmp 0), some (50, true), 0⟩,
                              ⟨some 52, .move (Operand.tmp 8), some (50, true), 0⟩,
                              ⟨some 53, .binOp BinOp.sub 3 (Operand.tmp 52) (Operand.const (Value.int IntKind.i64 1)) 3, some (50, true), 0⟩,
                              ⟨some 54, .indexAddr 22 (Operand.tmp 51) (Operand.tmp 53), some (50, true), 0⟩,
                              ⟨some 55, .fieldAddr 50 (Operand.tmp 54) 0, some (50, true), 0⟩,
                              ⟨some 56, .load 23 (Operand.tmp 55), some (50, true), 0⟩,
                              ⟨some 57, .fieldAddr 50 (Operand.tmp 9) 0, some (50, true), 0⟩,
                              ⟨some 58, .load 23 (Operand.tmp 57), some (50, true), 0⟩,
                              ⟨some 59, .call ⟨(Callee.value (Operand.func 29)), [(Operand.tmp 56), (Operand.tmp 58)].toArray, #[23, 23]⟩, some (50, true), 0⟩,
                              ⟨some 60, .binOp BinOp.geq 3 (Operand.tmp 59) (Operand.const (Value.int IntKind.i64 0)) 3, some (50, true), 0⟩,
                              ⟨some 61, .pick (Operand.tmp 50) (Operand.tmp 60) (Operand.const (Value.bool false)), some (47, false), 0⟩,
                              ⟨some 62, .pick (Operand.tmp 47) (Operand.const (Value.bool true)) (Operand.tmp 61), none, 0⟩] true [16, 17, 18, 19] [0, 1, 2, 3, 4, 5, 6, 7, 8, 9, 10, 11, 12, 13, 14, 15, 16, 17, 18, 19])
                            (.cond (Operand.tmp 62)
                              (.seq
                                (.ops [⟨some 2, .assign (Operand.const (Value.int IntKind.i64 1)), none, 0⟩])
                                .ret)
                              .skip))))
                      (.ops [⟨some 63, .binOp BinOp.add 3 (Operand.tmp 38) (Operand.const (Value.int IntKind.i64 1)) 3, none, 0⟩,
                        ⟨some 38, .move (Operand.tmp 63), none, 0⟩])))))))
          (.seq
            (.ops [⟨some 2, .assign (Operand.const (Value.int IntKind.i64 0)), none, 0⟩])
            .ret)))))
abbrev R13 : List ResultVar := [ResultVar.tmp 2]
theorem ok13 : FnOK Try.prog 13 L13 R13 1 := ⟨_, _, Try.func13, rfl, by kernel_rfl, by kernel_rfl, by kernel_rfl, by kernel_rfl, Nat.le_of_ble_eq_true (by kernel_rfl), by kernel_rfl⟩

/-- ablaut/ablautref25.Validate -/
def L14 : LCode :=
  (.seq
    (.ops [⟨some 2, .assign (Operand.const (Value.int IntKind.i64 0)), none, 0⟩])
    (.seq
      (.seq
        (.ops [⟨some 6, .move (Operand.tmp 0), none, 0⟩,
          ⟨some 7, .call ⟨(Callee.builtin Builtin.len), [(Operand.tmp 6)].toArray, #[22]⟩, none, 0⟩,
          ⟨some 8, .binOp BinOp.gtr 3 (Operand.tmp 7) (Operand.const (Value.int IntKind.i64 24)) 3, none, 0⟩])
        (.cond (Operand.tmp 8)
          (.seq
            (.ops [⟨some 2, .assign (Operand.const (Value.int IntKind.i64 3)), none, 0⟩])
            .ret)
          .skip))
      (.seq
        (.seq
          (.ops [⟨some 3, .assign (Operand.const (Value.int IntKind.i64 0)), none, 0⟩])
          (.block 0
            (.loop
              (.seq
                (.seq
                  (.ops [⟨some 9, .move (Operand.tmp 3), none, 0⟩,
                    ⟨some 10, .move (Operand.tmp 0), none, 0⟩,
                    ⟨some 11, .call ⟨(Callee.builtin Builtin.len), [(Operand.tmp 10)].toArray, #[22]⟩, none, 0⟩,
                    ⟨some 12, .binOp BinOp.lss 3 (Operand.tmp 9) (Operand.tmp 11) 3, none, 0⟩])
                  (.cond (Operand.tmp 12)
                    .skip
                    (.exit 0)))
                (.seq
                  (.block 1
                    (.seq
                      (.draw [⟨some 15, .move (Operand.tmp 0), none, 0⟩,
                        ⟨some 16, .move (Operand.tmp 3), none, 0⟩,
                        ⟨some 17, .indexAddr 22 (Operand.tmp 15) (Operand.tmp 16), none, 0⟩,
                        ⟨some 18, .fieldAddr 50 (Operand.tmp 17) 0, none, 0⟩,
                        ⟨some 19, .load 23 (Operand.tmp 18), none, 0⟩,
                        ⟨some 20, .move (Operand.tmp 0), none, 0⟩,
                        ⟨some 21, .move (Operand.tmp 3), none, 0⟩,
                        ⟨some 22, .indexAddr 22 (Operand.tmp 20) (Operand.tmp 21), none, 0⟩,
                        ⟨some 23, .fieldAddr 50 (Operand.tmp 22) 1, none, 0⟩,
                        ⟨some 24, .load 23 (Operand.tmp 23), none, 0⟩,
                        ⟨some 25, .buildSlice 35 2 [(0, (Operand.tmp 19)), (1, (Operand.tmp 24))].toArray, none, 0⟩,
                        ⟨some 26, .call ⟨(Callee.value (Operand.func 30)), [(Operand.tmp 25)].toArray, #[35]⟩, none, 0⟩,
                        ⟨some 4, .assign (Operand.tmp 26), none, 0⟩] true [10, 11, 12] [])
                      (.seq
                        (.ops [⟨some 27, .move (Operand.tmp 4), none, 0⟩,
                          ⟨some 28, .binOp BinOp.neq 27 (Operand.tmp 27) (Operand.const (Value.int IntKind.i64 0)) 27, none, 0⟩])
                        (.cond (Operand.tmp 28)
                          (.seq
                            (.ops [⟨some 29, .move (Operand.tmp 4), none, 0⟩,
                              ⟨some 2, .assign (Operand.tmp 29), none, 0⟩])
                            .ret)
                          .skip))))
                  (.ops [⟨some 13, .move (Operand.tmp 3), none, 0⟩,
                    ⟨some 14, .binOp BinOp.add 3 (Operand.tmp 13) (Operand.const (Value.int IntKind.i64 1)) 3, none, 0⟩,
                    ⟨some 3, .assign (Operand.tmp 14), none, 0⟩]))))))
        (.seq
          (.seq
            (.ops [⟨some 5, .assign (Operand.const (Value.int IntKind.i64 0)), none, 0⟩])
            (.block 2
              (.loop
                (.seq
                  (.seq
                    (.ops [⟨some 30, .move (Operand.tmp 5), none, 0⟩,
                      ⟨some 31, .move (Operand.tmp 0), none, 0⟩,
                      ⟨some 32, .call ⟨(Callee.builtin Builtin.len), [(Operand.tmp 31)].toArray, #[22]⟩, none, 0⟩,
                      ⟨some 33, .binOp BinOp.lss 3 (Operand.tmp 30) (Operand.tmp 32) 3, none, 0⟩])
                    (.cond (Operand.tmp 33)
                      .skip
                      (.exit 2)))
                  (.seq
                    (.block 3
                      (.seq
                        (.draw [⟨some 36, .move (Operand.tmp 0), none, 0⟩,
                          ⟨some 37, .move (Operand.tmp 5), none, 0⟩,
                          ⟨some 38, .indexAddr 22 (Operand.tmp 36) (Operand.tmp 37), none, 0⟩,
                          ⟨some 39, .fieldAddr 50 (Operand.tmp 38) 0, none, 0⟩,
                          ⟨some 40, .load 23 (Operand.tmp 39), none, 0⟩,
                          ⟨some 41, .call ⟨(Callee.builtin Builtin.len), [(Operand.tmp 40)].toArray, #[23]⟩, none, 0⟩,
                          ⟨some 42, .binOp BinOp.eql 3 (Operand.tmp 41) (Operand.const (Value.int IntKind.i64 0)) 3, none, 0⟩,
                          ⟨some 43, .move (Operand.tmp 42), none, 0⟩,
                          ⟨some 44, .move (Operand.tmp 5), some (43, false), 0⟩,
                          ⟨some 45, .binOp BinOp.gtr 3 (Operand.tmp 44) (Operand.const (Value.int IntKind.i64 0)) 3, some (43, false), 0⟩,
                          ⟨some 46, .move (Operand.tmp 45), some (43, false), 0⟩,
                          ⟨some 47, .move (Operand.tmp 0), some (46, true), 0⟩,
                          ⟨some 48, .move (Operand.tmp 5), some (46, true), 0⟩,
                          ⟨some 49, .binOp BinOp.sub 3 (Operand.tmp 48) (Operand.const (Value.int IntKind.i64 1)) 3, some (46, true), 0⟩,
                          ⟨some 50, .indexAddr 22 (Operand.tmp 47) (Operand.tmp 49), some (46, true), 0⟩,
                          ⟨some 51, .fieldAddr 50 (Operand.tmp 50) 0, some (46, true), 0⟩,
                          ⟨some 52, .load 23 (Operand.tmp 51), some (46, true), 0⟩,
                          ⟨some 53, .move (Operand.tmp 0), some (46, true), 0⟩,
                          ⟨some 54, .move (Operand.tmp 5), some (46, true), 0⟩,
                          ⟨some 55, .indexAddr 22 (Operand.tmp 53) (Operand.tmp 54), some (46, true), 0⟩,
                          ⟨some 56, .fieldAddr 50 (Operand.tmp 55) 0, some (46, true), 0⟩,
                          ⟨some 57, .load 23 (Operand.tmp 56), some (46, true), 0⟩,
                          ⟨some 58, .call ⟨(Callee.value (Operand.func 31)), [(Operand.tmp 52), (Operand.tmp 57)].toArray, #[23, 23]⟩, some (46, true), 0⟩,
                          ⟨some 59, .binOp BinOp.geq 3 (Operand.tmp 58) (Operand.const (Value.int IntKind.i64 0)) 3, some (46, true), 0⟩,
                          ⟨some 60, .pick (Operand.tmp 46) (Operand.tmp 59) (Operand.const (Value.bool false)), some (43, false), 0⟩,
                          ⟨some 61, .pick (Operand.tmp 43) (Operand.const (Value.bool true)) (Operand.tmp 60), none, 0⟩] true [22, 23, 24, 25] [0, 1, 2, 3, 4, 5, 6, 7, 8, 9, 10, 11, 12, 13, 14, 15, 16, 17, 18, 19, 20, 21, 22, 23, 24, 25])
                        (.cond (Operand.tmp 61)
                          (.seq
                            (.ops [⟨some 2, .assign (Operand.const (Value.int IntKind.i64 1)), none, 0⟩])
                            .ret)
                          .skip)))
                    (.ops [⟨some 34, .move (Operand.tmp 5), none, 0⟩,
                      ⟨some 35, .binOp BinOp.add 3 (Operand.tmp 34) (Operand.const (Value.int IntKind.i64 1)) 3, none, 0⟩,
                      ⟨some 5, .assign (Operand.tmp 35), none, 0⟩]))))))
          (.seq
            (.ops [⟨some 2, .assign (Operand.const (Value.int IntKind.i64 0)), none, 0⟩])
            .ret)))))
abbrev R14 : List ResultVar := [ResultVar.tmp 2]
theorem ok14 : FnOK Try.prog 14 L14 R14 1 := ⟨_, _, Try.func14, rfl, by kernel_rfl, by kernel_rfl, by kernel_rfl, by kernel_rfl, Nat.le_of_ble_eq_true (by kernel_rfl), by kernel_rfl⟩

/-- ablaut/ablautref01.Same -/
def L15 : LCode :=
  (.seq
    (.ops [⟨some 4, .assign (Operand.const (Value.bool false)), none, 0⟩])
    (.seq
      (.ops [⟨some 5, .move (Operand.tmp 0), none, 0⟩,
        ⟨some 6, .move (Operand.tmp 1), none, 0⟩,
        ⟨some 7, .call ⟨(Callee.value (Operand.func 31)), [(Operand.tmp 5), (Operand.tmp 6)].toArray, #[23, 23]⟩, none, 0⟩,
        ⟨some 8, .binOp BinOp.eql 3 (Operand.tmp 7) (Operand.const (Value.int IntKind.i64 0)) 3, none, 0⟩,
        ⟨some 4, .assign (Operand.tmp 8), none, 0⟩])
      .ret))
abbrev R15 : List ResultVar := [ResultVar.tmp 4]
theorem ok15 : FnOK Try.prog 15 L15 R15 2 := ⟨_, _, Try.func15, rfl, by kernel_rfl, by kernel_rfl, by kernel_rfl, by kernel_rfl, Nat.le_of_ble_eq_true (by kernel_rfl), by kernel_rfl⟩

/-- ablaut/script.Code -/
def L16 : LCode :=
  (.seq
    (.ops [⟨some 2, .assign (Operand.const (Value.bool false)), none, 0⟩,
      ⟨some 3, .assign (Operand.const (Value.slice none 0 0)), none, 0⟩,
      ⟨some 4, .assign (Operand.const (Value.int IntKind.i64 0)), none, 0⟩])
    (.seq
      (.seq
        (.ops [⟨some 9, .move (Operand.tmp 0), none, 0⟩,
          ⟨some 10, .call ⟨(Callee.builtin Builtin.len), [(Operand.tmp 9)].toArray, #[35]⟩, none, 0⟩,
          ⟨some 11, .binOp BinOp.gtr 3 (Operand.tmp 10) (Operand.const (Value.int IntKind.i64 24)) 3, none, 0⟩])
        (.cond (Operand.tmp 11)
          (.seq
            (.ops [⟨some 2, .assign (Operand.const (Value.bool false)), none, 0⟩,
              ⟨some 3, .assign (Operand.const (Value.slice none 0 0)), none, 0⟩,
              ⟨some 4, .assign (Operand.const (Value.int IntKind.i64 3)), none, 0⟩])
            .ret)
          .skip))
      (.seq
        (.seq
          (.ops [⟨some 12, .move (Operand.tmp 0), none, 0⟩,
            ⟨some 13, .call ⟨(Callee.builtin Builtin.len), [(Operand.tmp 12)].toArray, #[35]⟩, none, 0⟩,
            ⟨some 14, .move (Operand.const (Value.int IntKind.i64 0)), none, 0⟩])
          (.block 0
            (.loop
              (.seq
                (.ops [⟨some 15, .binOp BinOp.lss 3 (Operand.tmp 14) (Operand.tmp 13) 3, none, 0⟩])
                (.seq
                  (.cond (Operand.tmp 15)
                    .skip
                    (.exit 0))
                  (.seq
                    (.block 1
                      (.seq
                        (.ops [⟨some 16, .indexAddr 35 (Operand.tmp 12) (Operand.tmp 14), none, 0⟩,
                          ⟨some 17, .load 23 (Operand.tmp 16), none, 0⟩,
                          ⟨some 6, .assign (Operand.tmp 17), none, 0⟩])
                        (.seq
                          (.ops [⟨some 18, .move (Operand.tmp 6), none, 0⟩,
                            ⟨some 19, .call ⟨(Callee.value (Operand.func 28)), [(Operand.tmp 18)].toArray, #[23]⟩, none, 0⟩,
                            ⟨some 7, .assign (Operand.tmp 19), none, 0⟩])
                          (.seq
                            (.ops [⟨some 20, .move (Operand.tmp 7), none, 0⟩,
                              ⟨some 21, .binOp BinOp.neq 27 (Operand.tmp 20) (Operand.const (Value.int IntKind.i64 0)) 27, none, 0⟩])
                            (.cond (Operand.tmp 21)
                              (.seq
                                (.ops [⟨some 22, .move (Operand.tmp 7), none, 0⟩,
                                  ⟨some 2, .assign (Operand.const (Value.bool false)), none, 0⟩,
                                  ⟨some 3, .assign (Operand.const (Value.slice none 0 0)), none, 0⟩,
                                  ⟨some 4, .assign (Operand.tmp 22), none, 0⟩])
                                .ret)
                              .skip)))))
                    (.ops [⟨some 23, .binOp BinOp.add 3 (Operand.tmp 14) (Operand.const (Value.int IntKind.i64 1)) 3, none, 0⟩,
                      ⟨some 14, .move (Operand.tmp 23), none, 0⟩])))))))
        (.seq
          (.seq
            (.ops [⟨some 24, .move (Operand.tmp 0), none, 0⟩,
              ⟨some 25, .call ⟨(Callee.value (Operand.func 32)), [(Operand.tmp 24), (Operand.func 33)].toArray, #[35, 61]⟩, none, 0⟩])
            (.cond (Operand.tmp 25)
              (.seq
                (.ops [⟨some 2, .assign (Operand.const (Value.bool false)), none, 0⟩,
                  ⟨some 3, .assign (Operand.const (Value.slice none 0 0)), none, 0⟩,
                  ⟨some 4, .assign (Operand.const (Value.int IntKind.i64 3)), none, 0⟩])
                .ret)
              .skip))
          (.seq
            (.ops [⟨some 26, .move (Operand.tmp 0), none, 0⟩,
              ⟨some 27, .call ⟨(Callee.value (Operand.func 34)), [(Operand.tmp 26)].toArray, #[35]⟩, none, 0⟩,
              ⟨some 8, .assign (Operand.tmp 27), none, 0⟩])
            (.seq
              (.ops [⟨some 28, .move (Operand.tmp 8), none, 0⟩,
                ⟨some 29, .binOp BinOp.eql 36 (Operand.tmp 28) (Operand.const (Value.slice none 0 0)) 36, none, 0⟩,
                ⟨some 30, .move (Operand.tmp 8), none, 0⟩,
                ⟨some 2, .assign (Operand.tmp 29), none, 0⟩,
                ⟨some 3, .assign (Operand.tmp 30), none, 0⟩,
                ⟨some 4, .assign (Operand.const (Value.int IntKind.i64 0)), none, 0⟩])
              .ret))))))
abbrev R16 : List ResultVar := [ResultVar.tmp 2, ResultVar.tmp 3, ResultVar.tmp 4]
theorem ok16 : FnOK Try.prog 16 L16 R16 1 := ⟨_, _, Try.func16, rfl, by kernel_rfl, by kernel_rfl, by kernel_rfl, by kernel_rfl, Nat.le_of_ble_eq_true (by kernel_rfl), by kernel_rfl⟩

/-- ablaut/ablautref25.Code -/
def L17 : LCode :=
  (.seq
    (.ops [⟨some 2, .assign (Operand.const (Value.int IntKind.i64 0)), none, 0⟩])
    (.seq
      (.seq
        (.ops [⟨some 4, .move (Operand.tmp 0), none, 0⟩,
          ⟨some 5, .call ⟨(Callee.builtin Builtin.len), [(Operand.tmp 4)].toArray, #[35]⟩, none, 0⟩,
          ⟨some 6, .binOp BinOp.gtr 3 (Operand.tmp 5) (Operand.const (Value.int IntKind.i64 24)) 3, none, 0⟩])
        (.cond (Operand.tmp 6)
          (.seq
            (.ops [⟨some 2, .assign (Operand.const (Value.int IntKind.i64 3)), none, 0⟩])
            .ret)
          .skip))
      (.seq
        (.seq
          (.ops [⟨some 7, .move (Operand.tmp 0), none, 0⟩,
            ⟨some 8, .call ⟨(Callee.value (Operand.func 30)), [(Operand.tmp 7)].toArray, #[35]⟩, none, 0⟩,
            ⟨some 3, .assign (Operand.tmp 8), none, 0⟩])
          (.seq
            (.ops [⟨some 9, .move (Operand.tmp 3), none, 0⟩,
              ⟨some 10, .binOp BinOp.neq 27 (Operand.tmp 9) (Operand.const (Value.int IntKind.i64 0)) 27, none, 0⟩])
            (.cond (Operand.tmp 10)
              (.seq
                (.ops [⟨some 11, .move (Operand.tmp 3), none, 0⟩,
                  ⟨some 2, .assign (Operand.tmp 11), none, 0⟩])
                .ret)
              .skip)))
        (.seq
          (.seq
            (.ops [⟨some 12, .move (Operand.tmp 0), none, 0⟩,
              ⟨some 13, .call ⟨(Callee.value (Operand.func 35)), [(Operand.tmp 12)].toArray, #[35]⟩, none, 0⟩])
            (.cond (Operand.tmp 13)
              (.seq
                (.ops [⟨some 2, .assign (Operand.const (Value.int IntKind.i64 3)), none, 0⟩])
                .ret)
              .skip))
          (.seq
            (.ops [⟨some 2, .assign (Operand.const (Value.int IntKind.i64 0)), none, 0⟩])
            .ret)))))
abbrev R17 : List ResultVar := [ResultVar.tmp 2]
theorem ok17 : FnOK Try.prog 17 L17 R17 1 := ⟨_, _, Try.func17, rfl, by kernel_rfl, by kernel_rfl, by kernel_rfl, by kernel_rfl, Nat.le_of_ble_eq_true (by kernel_rfl), by kernel_rfl⟩

/-- ablaut/ablautref25.Shortest -/
def L18 : LCode :=
  (.seq
    (.ops [⟨some 2, .assign (Operand.const (Value.int IntKind.i64 0)), none, 0⟩])
    (.seq
      (.seq
        (.ops [⟨some 3, .assign (Operand.const (Value.int IntKind.i64 0)), none, 0⟩])
        (.block 0
          (.loop
            (.seq
              (.seq
                (.ops [⟨some 14, .move (Operand.tmp 3), none, 0⟩,
                  ⟨some 15, .move (Operand.tmp 0), none, 0⟩,
                  ⟨some 16, .call ⟨(Callee.builtin Builtin.len), [(Operand.tmp 15)].toArray, #[35]⟩, none, 0⟩,
                  ⟨some 17, .binOp BinOp.lss 3 (Operand.tmp 14) (Operand.tmp 16) 3, none, 0⟩])
                (.cond (Operand.tmp 17)
                  .skip
                  (.exit 0)))
              (.seq
                (.block 1
                  (.seq
                    (.ops [⟨some 20, .move (Operand.tmp 0), none, 0⟩,
                      ⟨some 21, .move (Operand.tmp 3), none, 0⟩,
                      ⟨some 22, .indexAddr 35 (Operand.tmp 20) (Operand.tmp 21), none, 0⟩,
                      ⟨some 23, .load 23 (Operand.tmp 22), none, 0⟩,
                      ⟨some 24, .call ⟨(Callee.builtin Builtin.len), [(Operand.tmp 23)].toArray, #[23]⟩, none, 0⟩,
                      ⟨some 25, .binOp BinOp.eql 3 (Operand.tmp 24) (Operand.const (Value.int IntKind.i64 0)) 3, none, 0⟩])
                    (.cond (Operand.tmp 25)
                      (.seq
                        (.ops [⟨some 2, .assign (Operand.const (Value.int IntKind.i64 0)), none, 0⟩])
                        .ret)
                      .skip)))
                (.ops [⟨some 18, .move (Operand.tmp 3), none, 0⟩,
                  ⟨some 19, .binOp BinOp.add 3 (Operand.tmp 18) (Operand.const (Value.int IntKind.i64 1)) 3, none, 0⟩,
                  ⟨some 3, .assign (Operand.tmp 19), none, 0⟩]))))))
      (.seq
        (.ops [⟨some 26, .move (Operand.tmp 0), none, 0⟩,
          ⟨some 27, .build 65 [(0, (Operand.tmp 26))].toArray, none, 0⟩,
          ⟨some 28, .box 65 (Operand.tmp 27), none, 0⟩,
          ⟨some 4, .assign (Operand.tmp 28), none, 0⟩])
        (.seq
          (.seq
            (.ops [⟨some 5, .assign (Operand.const (Value.int IntKind.i64 0)), none, 0⟩])
            (.block 2
              (.loop
                (.seq
                  (.seq
                    (.ops [⟨some 29, .move (Operand.tmp 5), none, 0⟩,
                      ⟨some 30, .move (Operand.tmp 0), none, 0⟩,
                      ⟨some 31, .call ⟨(Callee.builtin Builtin.len), [(Operand.tmp 30)].toArray, #[35]⟩, none, 0⟩,
                      ⟨some 32, .binOp BinOp.lss 3 (Operand.tmp 29) (Operand.tmp 31) 3, none, 0⟩])
                    (.cond (Operand.tmp 32)
                      .skip
                      (.exit 2)))
                  (.seq
                    (.block 3
                      (.seq
                        (.ops [⟨some 6, .assign (Operand.const (Value.int IntKind.i64 0)), none, 0⟩])
                        (.block 4
                          (.loop
                            (.seq
                              (.seq
                                (.ops [⟨some 35, .move (Operand.tmp 6), none, 0⟩,
                                  ⟨some 36, .move (Operand.tmp 0), none, 0⟩,
                                  ⟨some 37, .call ⟨(Callee.builtin Builtin.len), [(Operand.tmp 36)].toArray, #[35]⟩, none, 0⟩,
                                  ⟨some 38, .binOp BinOp.lss 3 (Operand.tmp 35) (Operand.tmp 37) 3, none, 0⟩])
                                (.cond (Operand.tmp 38)
                                  .skip
                                  (.exit 4)))
                              (.seq
                                (.block 5
                                  (.seq
                                    (.draw [⟨some 41, .move (Operand.tmp 5), none, 0⟩,
                                      ⟨some 42, .move (Operand.tmp 6), none, 0⟩,
                                      ⟨some 43, .binOp BinOp.neq 3 (Operand.tmp 41) (Operand.tmp 42) 3, none, 0⟩,
                                      ⟨some 44, .move (Operand.tmp 43), none, 0⟩,
                                      ⟨some 45, .move (Operand.tmp 0), some (44, true), 0⟩,
                                      ⟨some 46, .move (Operand.tmp 6), some (44, true), 0⟩,
                                      ⟨some 47, .indexAddr 35 (Operand.tmp 45) (Operand.tmp 46), some (44, true), 0⟩,
                                      ⟨some 48, .load 23 (Operand.tmp 47), some (44, true), 0⟩,
                                      ⟨some 49, .move (Operand.tmp 0), some (44, true), 0⟩,
                                      ⟨some 50, .move (Operand.tmp 5), some (44, true), 0⟩,
                                      ⟨some 51, .indexAddr 35 (Operand.tmp 49) (Operand.tmp 50), some (44, true), 0⟩,
                                      ⟨some 52, .load 23 (Operand.tmp 51), some (44, true), 0⟩,
                                      ⟨some 53, .call ⟨(Callee.value (Operand.func 36)), [(Operand.tmp 48), (Operand.tmp 52)].toArray, #[23, 23]⟩, some (44, true), 0⟩,
                                      ⟨some 54, .pick (Operand.tmp 44) (Operand.tmp 53) (Operand.const (Value.bool false)), none, 0⟩] true [12, 13] [0, 1, 2, 3, 4, 5, 6, 8, 9, 10, 7, 11, 12, 13])
                                    (.cond (Operand.tmp 54)
                                      (.draw [⟨some 55, .move (Operand.tmp 4), none, 0⟩,
                                        ⟨some 56, .move (Operand.tmp 0), none, 0⟩,
                                        ⟨some 57, .move (Operand.tmp 6), none, 0⟩,
                                        ⟨some 58, .indexAddr 35 (Operand.tmp 56) (Operand.tmp 57), none, 0⟩,
                                        ⟨some 59, .load 23 (Operand.tmp 58), none, 0⟩,
                                        ⟨some 60, .move (Operand.tmp 0), none, 0⟩,
                                        ⟨some 61, .move (Operand.tmp 5), none, 0⟩,
                                        ⟨some 62, .indexAddr 35 (Operand.tmp 60) (Operand.tmp 61), none, 0⟩,
                                        ⟨some 63, .load 23 (Operand.tmp 62), none, 0⟩,
                                        ⟨some 64, .call ⟨(Callee.builtin Builtin.len), [(Operand.tmp 63)].toArray, #[23]⟩, none, 0⟩,
                                        ⟨some 65, .slice 23 (Operand.tmp 59) (some (Operand.tmp 64)) none none, none, 0⟩,
                                        ⟨some 66, .move (Operand.tmp 0), none, 0⟩,
                                        ⟨some 67, .move (Operand.tmp 6), none, 0⟩,
                                        ⟨some 68, .indexAddr 35 (Operand.tmp 66) (Operand.tmp 67), none, 0⟩,
                                        ⟨some 69, .load 23 (Operand.tmp 68), none, 0⟩,
                                        ⟨some 70, .call ⟨(Callee.builtin Builtin.len), [(Operand.tmp 69)].toArray, #[23]⟩, none, 0⟩,
                                        ⟨some 71, .call ⟨(Callee.value (Operand.func 37)), [(Operand.tmp 55), (Operand.tmp 65), (Operand.tmp 70)].toArray, #[63, 23, 3]⟩, none, 0⟩] true [16] [])
                                      .skip)))
                                (.ops [⟨some 39, .move (Operand.tmp 6), none, 0⟩,
                                  ⟨some 40, .binOp BinOp.add 3 (Operand.tmp 39) (Operand.const (Value.int IntKind.i64 1)) 3, none, 0⟩,
                                  ⟨some 6, .assign (Operand.tmp 40), none, 0⟩])))))))
                    (.ops [⟨some 33, .move (Operand.tmp 5), none, 0⟩,
                      ⟨some 34, .binOp BinOp.add 3 (Operand.tmp 33) (Operand.const (Value.int IntKind.i64 1)) 3, none, 0⟩,
                      ⟨some 5, .assign (Operand.tmp 34), none, 0⟩]))))))
          (.seq
            (.seq
              (.ops [⟨some 7, .assign (Operand.const (Value.bool true)), none, 0⟩])
              (.block 6
                (.loop
                  (.seq
                    (.seq
                      (.ops [⟨some 72, .move (Operand.tmp 7), none, 0⟩])
                      (.cond (Operand.tmp 72)
                        .skip
                        (.exit 6)))
                    (.block 7
                      (.seq
                        (.ops [⟨some 7, .assign (Operand.const (Value.bool false)), none, 0⟩])
                        (.seq
                          (.ops [⟨some 8, .assign (Operand.const (Value.int IntKind.i64 0)), none, 0⟩])
                          (.block 8
                            (.loop
                              (.seq
                                (.seq
                                  (.ops [⟨some 73, .move (Operand.tmp 8), none, 0⟩,
                                    ⟨some 74, .move (Operand.tmp 4), none, 0⟩,
                                    ⟨some 75, .nilCheck (Operand.tmp 74), none, 0⟩,
                                    ⟨some 76, .fieldAddr 65 (Operand.tmp 75) 1, none, 0⟩,
                                    ⟨some 77, .load 35 (Operand.tmp 76), none, 0⟩,
                                    ⟨some 78, .call ⟨(Callee.builtin Builtin.len), [(Operand.tmp 77)].toArray, #[35]⟩, none, 0⟩,
                                    ⟨some 79, .binOp BinOp.lss 3 (Operand.tmp 73) (Operand.tmp 78) 3, none, 0⟩])
                                  (.cond (Operand.tmp 79)
                                    .skip
                                    (.exit 8)))
                                (.seq
                                  (.block 9
                                    (.seq
                                      (.draw [⟨some 82, .move (Operand.tmp 4), none, 0⟩,
                                        ⟨some 83, .nilCheck (Operand.tmp 82), none, 0⟩,
                                        ⟨some 84, .fieldAddr 65 (Operand.tmp 83) 1, none, 0⟩,
                                        ⟨some 85, .load 35 (Operand.tmp 84), none, 0⟩,
                                        ⟨some 86, .move (Operand.tmp 8), none, 0⟩,
                                        ⟨some 87, .indexAddr 35 (Operand.tmp 85) (Operand.tmp 86), none, 0⟩,
                                        ⟨some 88, .load 23 (Operand.tmp 87), none, 0⟩,
                                        ⟨some 89, .move (Operand.tmp 4), none, 0⟩,
                                        ⟨some 90, .nilCheck (Operand.tmp 89), none, 0⟩,
                                        ⟨some 91, .fieldAddr 65 (Operand.tmp 90) 2, none, 0⟩,
                                        ⟨some 92, .load 42 (Operand.tmp 91), none, 0⟩,
                                        ⟨some 93, .move (Operand.tmp 8), none, 0⟩,
                                        ⟨some 94, .indexAddr 42 (Operand.tmp 92) (Operand.tmp 93), none, 0⟩,
                                        ⟨some 95, .load 3 (Operand.tmp 94), none, 0⟩,
                                        ⟨some 9, .assign (Operand.tmp 88), none, 0⟩,
                                        ⟨some 10, .assign (Operand.tmp 95), none, 0⟩] true [15] [0, 1, 2, 4, 7, 8, 9, 11, 3, 5, 6, 10, 12, 13, 14, 15])
                                      (.seq
                                        (.ops [⟨some 11, .assign (Operand.const (Value.int IntKind.i64 0)), none, 0⟩])
                                        (.block 10
                                          (.loop
                                            (.seq
                                              (.seq
                                                (.ops [⟨some 96, .move (Operand.tmp 11), none, 0⟩,
                                                  ⟨some 97, .move (Operand.tmp 0), none, 0⟩,
                                                  ⟨some 98, .call ⟨(Callee.builtin Builtin.len), [(Operand.tmp 97)].toArray, #[35]⟩, none, 0⟩,
                                                  ⟨some 99, .binOp BinOp.lss 3 (Operand.tmp 96) (Operand.tmp 98) 3, none, 0⟩,
                                                  ⟨some 100, .move (Operand.tmp 99), none, 0⟩,
                                                  ⟨some 101, .move (Operand.tmp 9), some (100, true), 0⟩,
                                                  ⟨some 102, .call ⟨(Callee.builtin Builtin.len), [(Operand.tmp 101)].toArray, #[23]⟩, some (100, true), 0⟩,
                                                  ⟨some 103, .binOp BinOp.gtr 3 (Operand.tmp 102) (Operand.const (Value.int IntKind.i64 0)) 3, some (100, true), 0⟩,
                                                  ⟨some 104, .pick (Operand.tmp 100) (Operand.tmp 103) (Operand.const (Value.bool false)), none, 0⟩])
                                                (.cond (Operand.tmp 104)
                                                  .skip
                                                  (.exit 10)))
                                              (.seq
                                                (.block 11
                                                  (.seq
                                                    (.ops [⟨some 107, .move (Operand.tmp 0), none, 0⟩,
                                                      ⟨some 108, .move (Operand.tmp 11), none, 0⟩,
                                                      ⟨some 109, .indexAddr 35 (Operand.tmp 107) (Operand.tmp 108), none, 0⟩,
                                                      ⟨some 110, .load 23 (Operand.tmp 109), none, 0⟩,
                                                      ⟨some 12, .assign (Operand.tmp 110), none, 0⟩])
                                                    (.block 12
                                                      (.seq
                                                        (.ops [⟨some 112, .move (Operand.tmp 12), none, 0⟩,
                                                          ⟨some 113, .move (Operand.tmp 9), none, 0⟩,
                                                          ⟨some 114, .call ⟨(Callee.value (Operand.func 36)), [(Operand.tmp 112), (Operand.tmp 113)].toArray, #[23, 23]⟩, none, 0⟩,
                                                          ⟨some 111, .assign (Operand.tmp 114), none, 0⟩])
                                                        (.cond (Operand.tmp 111)
                                                          (.ops [⟨some 115, .move (Operand.tmp 4), none, 0⟩,
                                                            ⟨some 116, .move (Operand.tmp 12), none, 0⟩,
                                                            ⟨some 117, .move (Operand.tmp 9), none, 0⟩,
                                                            ⟨some 118, .call ⟨(Callee.builtin Builtin.len), [(Operand.tmp 117)].toArray, #[23]⟩, none, 0⟩,
                                                            ⟨some 119, .slice 23 (Operand.tmp 116) (some (Operand.tmp 118)) none none, none, 0⟩,
                                                            ⟨some 120, .move (Operand.tmp 10), none, 0⟩,
                                                            ⟨some 121, .move (Operand.tmp 12), none, 0⟩,
                                                            ⟨some 122, .call ⟨(Callee.builtin Builtin.len), [(Operand.tmp 121)].toArray, #[23]⟩, none, 0⟩,
                                                            ⟨some 123, .binOp BinOp.add 3 (Operand.tmp 120) (Operand.tmp 122) 3, none, 0⟩,
                                                            ⟨some 124, .move (Operand.tmp 9), none, 0⟩,
                                                            ⟨some 125, .call ⟨(Callee.builtin Builtin.len), [(Operand.tmp 124)].toArray, #[23]⟩, none, 0⟩,
                                                            ⟨some 126, .binOp BinOp.sub 3 (Operand.tmp 123) (Operand.tmp 125) 3, none, 0⟩,
                                                            ⟨some 127, .call ⟨(Callee.value (Operand.func 37)), [(Operand.tmp 115), (Operand.tmp 119), (Operand.tmp 126)].toArray, #[63, 23, 3]⟩, none, 0⟩,
                                                            ⟨some 128, .move (Operand.tmp 127), none, 0⟩,
                                                            ⟨some 129, .move (Operand.tmp 7), some (128, false), 0⟩,
                                                            ⟨some 130, .pick (Operand.tmp 128) (Operand.const (Value.bool true)) (Operand.tmp 129), none, 0⟩,
                                                            ⟨some 7, .assign (Operand.tmp 130), none, 0⟩])
                                                          (.seq
                                                            (.ops [⟨some 132, .move (Operand.tmp 9), none, 0⟩,
                                                              ⟨some 133, .move (Operand.tmp 12), none, 0⟩,
                                                              ⟨some 134, .call ⟨(Callee.value (Operand.func 36)), [(Operand.tmp 132), (Operand.tmp 133)].toArray, #[23, 23]⟩, none, 0⟩,
                                                              ⟨some 131, .assign (Operand.tmp 134), none, 0⟩])
                                                            (.cond (Operand.tmp 131)
                                                              (.ops [⟨some 135, .move (Operand.tmp 4), none, 0⟩,
                                                                ⟨some 136, .move (Operand.tmp 9), none, 0⟩,
                                                                ⟨some 137, .move (Operand.tmp 12), none, 0⟩,
                                                                ⟨some 138, .call ⟨(Callee.builtin Builtin.len), [(Operand.tmp 137)].toArray, #[23]⟩, none, 0⟩,
                                                                ⟨some 139, .slice 23 (Operand.tmp 136) (some (Operand.tmp 138)) none none, none, 0⟩,
                                                                ⟨some 140, .move (Operand.tmp 10), none, 0⟩,
                                                                ⟨some 141, .call ⟨(Callee.value (Operand.func 37)), [(Operand.tmp 135), (Operand.tmp 139), (Operand.tmp 140)].toArray, #[63, 23, 3]⟩, none, 0⟩,
                                                                ⟨some 142, .move (Operand.tmp 141), none, 0⟩,
                                                                ⟨some 143, .move (Operand.tmp 7), some (142, false), 0⟩,
                                                                ⟨some 144, .pick (Operand.tmp 142) (Operand.const (Value.bool true)) (Operand.tmp 143), none, 0⟩,
                                                                ⟨some 7, .assign (Operand.tmp 144), none, 0⟩])
                                                              .skip)))))))
                                                (.ops [⟨some 105, .move (Operand.tmp 11), none, 0⟩,
                                                  ⟨some 106, .binOp BinOp.add 3 (Operand.tmp 105) (Operand.const (Value.int IntKind.i64 1)) 3, none, 0⟩,
                                                  ⟨some 11, .assign (Operand.tmp 106), none, 0⟩]))))))))
                                  (.ops [⟨some 80, .move (Operand.tmp 8), none, 0⟩,
                                    ⟨some 81, .binOp BinOp.add 3 (Operand.tmp 80) (Operand.const (Value.int IntKind.i64 1)) 3, none, 0⟩,
                                    ⟨some 8, .assign (Operand.tmp 81), none, 0⟩]))))))))))))
            (.seq
              (.seq
                (.ops [⟨some 13, .assign (Operand.const (Value.int IntKind.i64 0)), none, 0⟩])
                (.block 13
                  (.loop
                    (.seq
                      (.seq
                        (.ops [⟨some 145, .move (Operand.tmp 13), none, 0⟩,
                          ⟨some 146, .move (Operand.tmp 4), none, 0⟩,
                          ⟨some 147, .nilCheck (Operand.tmp 146), none, 0⟩,
                          ⟨some 148, .fieldAddr 65 (Operand.tmp 147) 1, none, 0⟩,
                          ⟨some 149, .load 35 (Operand.tmp 148), none, 0⟩,
                          ⟨some 150, .call ⟨(Callee.builtin Builtin.len), [(Operand.tmp 149)].toArray, #[35]⟩, none, 0⟩,
                          ⟨some 151, .binOp BinOp.lss 3 (Operand.tmp 145) (Operand.tmp 150) 3, none, 0⟩])
                        (.cond (Operand.tmp 151)
                          .skip
                          (.exit 13)))
                      (.seq
                        (.block 14
                          (.seq
                            (.ops [⟨some 154, .move (Operand.tmp 4), none, 0⟩,
                              ⟨some 155, .nilCheck (Operand.tmp 154), none, 0⟩,
                              ⟨some 156, .fieldAddr 65 (Operand.tmp 155) 1, none, 0⟩,
                              ⟨some 157, .load 35 (Operand.tmp 156), none, 0⟩,
                              ⟨some 158, .move (Operand.tmp 13), none, 0⟩,
                              ⟨some 159, .indexAddr 35 (Operand.tmp 157) (Operand.tmp 158), none, 0⟩,
                              ⟨some 160, .load 23 (Operand.tmp 159), none, 0⟩,
                              ⟨some 161, .call ⟨(Callee.builtin Builtin.len), [(Operand.tmp 160)].toArray, #[23]⟩, none, 0⟩,
                              ⟨some 162, .binOp BinOp.eql 3 (Operand.tmp 161) (Operand.const (Value.int IntKind.i64 0)) 3, none, 0⟩])
                            (.cond (Operand.tmp 162)
                              (.seq
                                (.ops [⟨some 163, .move (Operand.tmp 4), none, 0⟩,
                                  ⟨some 164, .nilCheck (Operand.tmp 163), none, 0⟩,
                                  ⟨some 165, .fieldAddr 65 (Operand.tmp 164) 2, none, 0⟩,
                                  ⟨some 166, .load 42 (Operand.tmp 165), none, 0⟩,
                                  ⟨some 167, .move (Operand.tmp 13), none, 0⟩,
                                  ⟨some 168, .indexAddr 42 (Operand.tmp 166) (Operand.tmp 167), none, 0⟩,
                                  ⟨some 169, .load 3 (Operand.tmp 168), none, 0⟩,
                                  ⟨some 2, .assign (Operand.tmp 169), none, 0⟩])
                                .ret)
                              .skip)))
                        (.ops [⟨some 152, .move (Operand.tmp 13), none, 0⟩,
                          ⟨some 153, .binOp BinOp.add 3 (Operand.tmp 152) (Operand.const (Value.int IntKind.i64 1)) 3, none, 0⟩,
                          ⟨some 13, .assign (Operand.tmp 153), none, 0⟩]))))))
              (.seq
                (.ops [⟨some 2, .assign (Operand.const (Value.int IntKind.i64 (-1))), none, 0⟩])
                .ret)))))))
abbrev R18 : List ResultVar := [ResultVar.tmp 2]
theorem ok18 : FnOK Try.prog 18 L18 R18 1 := ⟨_, _, Try.func18, rfl, by kernel_rfl, by kernel_rfl, by kernel_rfl, by kernel_rfl, Nat.le_of_ble_eq_true (by kernel_rfl), by kernel_rfl⟩

/-- ablaut/ablautref21.SameInts -/
def L19 : LCode :=
  (.seq
    (.ops [⟨some 4, .assign (Operand.const (Value.bool false)), none, 0⟩])
    (.seq
      (.seq
        (.ops [⟨some 6, .move (Operand.tmp 0), none, 0⟩,
          ⟨some 7, .call ⟨(Callee.builtin Builtin.len), [(Operand.tmp 6)].toArray, #[42]⟩, none, 0⟩,
          ⟨some 8, .move (Operand.tmp 1), none, 0⟩,
          ⟨some 9, .call ⟨(Callee.builtin Builtin.len), [(Operand.tmp 8)].toArray, #[42]⟩, none, 0⟩,
          ⟨some 10, .binOp BinOp.neq 3 (Operand.tmp 7) (Operand.tmp 9) 3, none, 0⟩])
        (.cond (Operand.tmp 10)
          (.seq
            (.ops [⟨some 4, .assign (Operand.const (Value.bool false)), none, 0⟩])
            .ret)
          .skip))
      (.seq
        (.seq
          (.ops [⟨some 5, .assign (Operand.const (Value.int IntKind.i64 0)), none, 0⟩])
          (.block 0
            (.loop
              (.seq
                (.seq
                  (.ops [⟨some 11, .move (Operand.tmp 5), none, 0⟩,
                    ⟨some 12, .move (Operand.tmp 0), none, 0⟩,
                    ⟨some 13, .call ⟨(Callee.builtin Builtin.len), [(Operand.tmp 12)].toArray, #[42]⟩, none, 0⟩,
                    ⟨some 14, .binOp BinOp.lss 3 (Operand.tmp 11) (Operand.tmp 13) 3, none, 0⟩])
                  (.cond (Operand.tmp 14)
                    .skip
                    (.exit 0)))
                (.seq
                  (.block 1
                    (.seq
                      (.draw [⟨some 17, .move (Operand.tmp 0), none, 0⟩,
                        ⟨some 18, .move (Operand.tmp 5), none, 0⟩,
                        ⟨some 19, .indexAddr 42 (Operand.tmp 17) (Operand.tmp 18), none, 0⟩,
                        ⟨some 20, .load 3 (Operand.tmp 19), none, 0⟩,
                        ⟨some 21, .move (Operand.tmp 1), none, 0⟩,
                        ⟨some 22, .move (Operand.tmp 5), none, 0⟩,
                        ⟨some 23, .indexAddr 42 (Operand.tmp 21) (Operand.tmp 22), none, 0⟩,
                        ⟨some 24, .load 3 (Operand.tmp 23), none, 0⟩,
                        ⟨some 25, .binOp BinOp.neq 3 (Operand.tmp 20) (Operand.tmp 24) 3, none, 0⟩] true [8] [0, 1, 2, 4, 5, 6, 3, 7, 8])
                      (.cond (Operand.tmp 25)
                        (.seq
                          (.ops [⟨some 4, .assign (Operand.const (Value.bool false)), none, 0⟩])
                          .ret)
                        .skip)))
                  (.ops [⟨some 15, .move (Operand.tmp 5), none, 0⟩,
                    ⟨some 16, .binOp BinOp.add 3 (Operand.tmp 15) (Operand.const (Value.int IntKind.i64 1)) 3, none, 0⟩,
                    ⟨some 5, .assign (Operand.tmp 16), none, 0⟩]))))))
        (.seq
          (.ops [⟨some 4, .assign (Operand.const (Value.bool true)), none, 0⟩])
          .ret))))
abbrev R19 : List ResultVar := [ResultVar.tmp 4]
theorem ok19 : FnOK Try.prog 19 L19 R19 2 := ⟨_, _, Try.func19, rfl, by kernel_rfl, by kernel_rfl, by kernel_rfl, by kernel_rfl, Nat.le_of_ble_eq_true (by kernel_rfl), by kernel_rfl⟩

/-- ablaut/ablautlaw25.joined -/
def L20 : LCode :=
  (.seq
    (.ops [⟨some 4, .assign (Operand.const (Value.slice none 0 0)), none, 0⟩,
      ⟨some 5, .assign (Operand.const (Value.bool false)), none, 0⟩])
    (.seq
      (.ops [⟨some 6, .assign (Operand.const (Value.slice none 0 0)), none, 0⟩])
      (.seq
        (.seq
          (.ops [⟨some 7, .assign (Operand.const (Value.int IntKind.i64 0)), none, 0⟩])
          (.block 0
            (.loop
              (.seq
                (.seq
                  (.ops [⟨some 9, .move (Operand.tmp 7), none, 0⟩,
                    ⟨some 10, .move (Operand.tmp 1), none, 0⟩,
                    ⟨some 11, .call ⟨(Callee.builtin Builtin.len), [(Operand.tmp 10)].toArray, #[42]⟩, none, 0⟩,
                    ⟨some 12, .binOp BinOp.lss 3 (Operand.tmp 9) (Operand.tmp 11) 3, none, 0⟩])
                  (.cond (Operand.tmp 12)
                    .skip
                    (.exit 0)))
                (.seq
                  (.block 1
                    (.seq
                      (.ops [⟨some 15, .move (Operand.tmp 1), none, 0⟩,
                        ⟨some 16, .move (Operand.tmp 7), none, 0⟩,
                        ⟨some 17, .indexAddr 42 (Operand.tmp 15) (Operand.tmp 16), none, 0⟩,
                        ⟨some 18, .load 3 (Operand.tmp 17), none, 0⟩,
                        ⟨some 8, .assign (Operand.tmp 18), none, 0⟩])
                      (.seq
                        (.seq
                          (.ops [⟨some 19, .move (Operand.tmp 8), none, 0⟩,
                            ⟨some 20, .binOp BinOp.lss 3 (Operand.tmp 19) (Operand.const (Value.int IntKind.i64 0)) 3, none, 0⟩,
                            ⟨some 21, .move (Operand.tmp 20), none, 0⟩,
                            ⟨some 22, .move (Operand.tmp 8), some (21, false), 0⟩,
                            ⟨some 23, .move (Operand.tmp 0), some (21, false), 0⟩,
                            ⟨some 24, .call ⟨(Callee.builtin Builtin.len), [(Operand.tmp 23)].toArray, #[35]⟩, some (21, false), 0⟩,
                            ⟨some 25, .binOp BinOp.geq 3 (Operand.tmp 22) (Operand.tmp 24) 3, some (21, false), 0⟩,
                            ⟨some 26, .pick (Operand.tmp 21) (Operand.const (Value.bool true)) (Operand.tmp 25), none, 0⟩])
                          (.cond (Operand.tmp 26)
                            (.seq
                              (.ops [⟨some 4, .assign (Operand.const (Value.slice none 0 0)), none, 0⟩,
                                ⟨some 5, .assign (Operand.const (Value.bool false)), none, 0⟩])
                              .ret)
                            .skip))
                        (.ops [⟨some 27, .move (Operand.tmp 6), none, 0⟩,
                          ⟨some 28, .move (Operand.tmp 0), none, 0⟩,
                          ⟨some 29, .move (Operand.tmp 8), none, 0⟩,
                          ⟨some 30, .indexAddr 35 (Operand.tmp 28) (Operand.tmp 29), none, 0⟩,
                          ⟨some 31, .load 23 (Operand.tmp 30), none, 0⟩,
                          ⟨some 32, .call ⟨(Callee.builtin Builtin.append), [(Operand.tmp 27), (Operand.tmp 31)].toArray, #[23, 23]⟩, none, 0⟩,
                          ⟨some 6, .assign (Operand.tmp 32), none, 0⟩]))))
                  (.ops [⟨some 13, .move (Operand.tmp 7), none, 0⟩,
                    ⟨some 14, .binOp BinOp.add 3 (Operand.tmp 13) (Operand.const (Value.int IntKind.i64 1)) 3, none, 0⟩,
                    ⟨some 7, .assign (Operand.tmp 14), none, 0⟩]))))))
        (.seq
          (.ops [⟨some 33, .move (Operand.tmp 6), none, 0⟩,
            ⟨some 4, .assign (Operand.tmp 33), none, 0⟩,
            ⟨some 5, .assign (Operand.const (Value.bool true)), none, 0⟩])
          .ret))))
abbrev R20 : List ResultVar := [ResultVar.tmp 4, ResultVar.tmp 5]
theorem ok20 : FnOK Try.prog 20 L20 R20 2 := ⟨_, _, Try.func20, rfl, by kernel_rfl, by kernel_rfl, by kernel_rfl, by kernel_rfl, Nat.le_of_ble_eq_true (by kernel_rfl), by kernel_rfl⟩

/-- ablaut/script.Cover -/
def L21 : LCode :=
  (.seq
    (.ops [⟨some 4, .assign (Operand.const (Value.slice none 0 0)), none, 0⟩,
      ⟨some 5, .assign (Operand.const (Value.int IntKind.i64 0)), none, 0⟩])
    (.seq
      (.seq
        (.ops [⟨some 16, .move (Operand.tmp 0), none, 0⟩,
          ⟨some 17, .call ⟨(Callee.value (Operand.func 13)), [(Operand.tmp 16)].toArray, #[22]⟩, none, 0⟩,
          ⟨some 6, .assign (Operand.tmp 17), none, 0⟩])
        (.seq
          (.ops [⟨some 18, .move (Operand.tmp 6), none, 0⟩,
            ⟨some 19, .binOp BinOp.neq 27 (Operand.tmp 18) (Operand.const (Value.int IntKind.i64 0)) 27, none, 0⟩])
          (.cond (Operand.tmp 19)
            (.seq
              (.ops [⟨some 20, .move (Operand.tmp 6), none, 0⟩,
                ⟨some 4, .assign (Operand.const (Value.slice none 0 0)), none, 0⟩,
                ⟨some 5, .assign (Operand.tmp 20), none, 0⟩])
              .ret)
            .skip)))
      (.seq
        (.seq
          (.ops [⟨some 21, .move (Operand.tmp 1), none, 0⟩,
            ⟨some 22, .call ⟨(Callee.builtin Builtin.len), [(Operand.tmp 21)].toArray, #[35]⟩, none, 0⟩,
            ⟨some 23, .binOp BinOp.gtr 3 (Operand.tmp 22) (Operand.const (Value.int IntKind.i64 200)) 3, none, 0⟩])
          (.cond (Operand.tmp 23)
            (.seq
              (.ops [⟨some 4, .assign (Operand.const (Value.slice none 0 0)), none, 0⟩,
                ⟨some 5, .assign (Operand.const (Value.int IntKind.i64 3)), none, 0⟩])
              .ret)
            .skip))
        (.seq
          (.seq
            (.ops [⟨some 24, .move (Operand.tmp 1), none, 0⟩,
              ⟨some 25, .call ⟨(Callee.builtin Builtin.len), [(Operand.tmp 24)].toArray, #[35]⟩, none, 0⟩,
              ⟨some 26, .move (Operand.const (Value.int IntKind.i64 0)), none, 0⟩])
            (.block 0
              (.loop
                (.seq
                  (.ops [⟨some 27, .binOp BinOp.lss 3 (Operand.tmp 26) (Operand.tmp 25) 3, none, 0⟩])
                  (.seq
                    (.cond (Operand.tmp 27)
                      .skip
                      (.exit 0))
                    (.seq
                      (.block 1
                        (.seq
                          (.ops [⟨some 28, .indexAddr 35 (Operand.tmp 24) (Operand.tmp 26), none, 0⟩,
                            ⟨some 29, .load 23 (Operand.tmp 28), none, 0⟩,
                            ⟨some 8, .assign (Operand.tmp 29), none, 0⟩])
                          (.seq
                            (.ops [⟨some 30, .move (Operand.tmp 8), none, 0⟩,
                              ⟨some 31, .call ⟨(Callee.value (Operand.func 28)), [(Operand.tmp 30)].toArray, #[23]⟩, none, 0⟩,
                              ⟨some 9, .assign (Operand.tmp 31), none, 0⟩])
                            (.seq
                              (.ops [⟨some 32, .move (Operand.tmp 9), none, 0⟩,
                                ⟨some 33, .binOp BinOp.neq 27 (Operand.tmp 32) (Operand.const (Value.int IntKind.i64 0)) 27, none, 0⟩])
                              (.cond (Operand.tmp 33)
                                (.seq
                                  (.ops [⟨some 34, .move (Operand.tmp 9), none, 0⟩,
                                    ⟨some 4, .assign (Operand.const (Value.slice none 0 0)), none, 0⟩,
                                    ⟨some 5, .assign (Operand.tmp 34), none, 0⟩])
                                  .ret)
                                .skip)))))
                      (.ops [⟨some 35, .binOp BinOp.add 3 (Operand.tmp 26) (Operand.const (Value.int IntKind.i64 1)) 3, none, 0⟩,
                        ⟨some 26, .move (Operand.tmp 35), none, 0⟩])))))))
          (.seq
            (.ops [⟨some 36, .move (Operand.tmp 0), none, 0⟩,
              ⟨some 37, .call ⟨(Callee.builtin Builtin.len), [(Operand.tmp 36)].toArray, #[22]⟩, none, 0⟩,
              ⟨some 38, .makeSlice 42 (Operand.tmp 37) (Operand.tmp 37), none, 0⟩,
              ⟨some 10, .assign (Operand.tmp 38), none, 0⟩])
            (.seq
              (.seq
                (.ops [⟨some 39, .move (Operand.tmp 1), none, 0⟩,
                  ⟨some 40, .call ⟨(Callee.builtin Builtin.len), [(Operand.tmp 39)].toArray, #[35]⟩, none, 0⟩,
                  ⟨some 41, .move (Operand.const (Value.int IntKind.i64 0)), none, 0⟩])
                (.block 2
                  (.loop
                    (.seq
                      (.ops [⟨some 42, .binOp BinOp.lss 3 (Operand.tmp 41) (Operand.tmp 40) 3, none, 0⟩])
                      (.seq
                        (.cond (Operand.tmp 42)
                          .skip
                          (.exit 2))
                        (.seq
                          (.block 3
                            (.seq
                              (.ops [⟨some 43, .indexAddr 35 (Operand.tmp 39) (Operand.tmp 41), none, 0⟩,
                                ⟨some 44, .load 23 (Operand.tmp 43), none, 0⟩,
                                ⟨some 12, .assign (Operand.tmp 44), none, 0⟩])
                              (.block 4
                                (.loop
                                  (.seq
                                    (.seq
                                      (.ops [⟨some 45, .move (Operand.tmp 12), none, 0⟩,
                                        ⟨some 46, .call ⟨(Callee.builtin Builtin.len), [(Operand.tmp 45)].toArray, #[23]⟩, none, 0⟩,
                                        ⟨some 47, .binOp BinOp.gtr 3 (Operand.tmp 46) (Operand.const (Value.int IntKind.i64 0)) 3, none, 0⟩])
                                      (.cond (Operand.tmp 47)
                                        .skip
                                        (.exit 4)))
                                    (.block 5
                                      (.seq
                                        (.ops [⟨some 49, .move (Operand.tmp 0), none, 0⟩,
                                          ⟨some 50, .move (Operand.tmp 12), none, 0⟩,
                                          ⟨some 51, .call ⟨(Callee.value (Operand.func 38)), [(Operand.tmp 49), (Operand.tmp 50)].toArray, #[22, 23]⟩, none, 0⟩,
                                          ⟨some 48, .move (Operand.tmp 51), none, 0⟩,
                                          ⟨some 52, .extract (Operand.tmp 48) 0, none, 0⟩,
                                          ⟨some 53, .extract (Operand.tmp 48) 1, none, 0⟩,
                                          ⟨some 54, .extract (Operand.tmp 48) 2, none, 0⟩,
                                          ⟨some 13, .assign (Operand.tmp 52), none, 0⟩,
                                          ⟨some 14, .assign (Operand.tmp 53), none, 0⟩,
                                          ⟨some 15, .assign (Operand.tmp 54), none, 0⟩])
                                        (.seq
                                          (.seq
                                            (.ops [⟨some 55, .move (Operand.tmp 15), none, 0⟩,
                                              ⟨some 56, .binOp BinOp.geq 3 (Operand.tmp 55) (Operand.const (Value.int IntKind.i64 0)) 3, none, 0⟩])
                                            (.cond (Operand.tmp 56)
                                              (.ops [⟨some 57, .move (Operand.tmp 10), none, 0⟩,
                                                ⟨some 58, .move (Operand.tmp 15), none, 0⟩,
                                                ⟨some 59, .indexAddr 42 (Operand.tmp 57) (Operand.tmp 58), none, 0⟩,
                                                ⟨some 60, .load 3 (Operand.tmp 59), none, 0⟩,
                                                ⟨some 61, .binOp BinOp.add 3 (Operand.tmp 60) (Operand.const (Value.int IntKind.i64 1)) 3, none, 0⟩,
                                                ⟨some 62, .indexAddr 42 (Operand.tmp 57) (Operand.tmp 58), none, 0⟩,
                                                ⟨none, .store 3 (Operand.tmp 62) (Operand.tmp 61), none, 0⟩])
                                              .skip))
                                          (.ops [⟨some 63, .move (Operand.tmp 12), none, 0⟩,
                                            ⟨some 64, .move (Operand.tmp 14), none, 0⟩,
                                            ⟨some 65, .slice 23 (Operand.tmp 63) (some (Operand.tmp 64)) none none, none, 0⟩,
                                            ⟨some 12, .assign (Operand.tmp 65), none, 0⟩])))))))))
                          (.ops [⟨some 66, .binOp BinOp.add 3 (Operand.tmp 41) (Operand.const (Value.int IntKind.i64 1)) 3, none, 0⟩,
                            ⟨some 41, .move (Operand.tmp 66), none, 0⟩])))))))
              (.seq
                (.ops [⟨some 67, .move (Operand.tmp 10), none, 0⟩,
                  ⟨some 4, .assign (Operand.tmp 67), none, 0⟩,
                  ⟨some 5, .assign (Operand.const (Value.int IntKind.i64 0)), none, 0⟩])
                .ret)))))))
abbrev R21 : List ResultVar := [ResultVar.tmp 4, ResultVar.tmp 5]
theorem ok21 : FnOK Try.prog 21 L21 R21 2 := ⟨_, _, Try.func21, rfl, by kernel_rfl, by kernel_rfl, by kernel_rfl, by kernel_rfl, Nat.le_of_ble_eq_true (by kernel_rfl), by kernel_rfl⟩
end Go.Proofs.Ytldlcejlfaogbaa.Vs
