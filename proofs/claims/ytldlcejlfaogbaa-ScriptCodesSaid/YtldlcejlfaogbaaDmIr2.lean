/- The seat's functions as the engine Dm reads them, written by dgen.py. -/
import Derived.Test.YtldlcejlfaogbaaDmFn
import Derived.Test.YtldlcejlfaogbaaProg
import Derived.KernelRfl
namespace Go.Proofs.Ytldlcejlfaogbaa.Vs
set_option linter.unusedVariables false
set_option maxRecDepth 100000
/-- ablaut/script.asked$1 -/
def L56 : LCode :=
  (.seq
    (.ops [⟨some 1, .box 50 (Operand.tmp 0), none, 0⟩,
      ⟨some 2, .assign (Operand.const (Value.bool false)), none, 0⟩])
    (.seq
      (.ops [⟨some 3, .fieldAddr 50 (Operand.tmp 1) 1, none, 0⟩,
        ⟨some 4, .load 23 (Operand.tmp 3), none, 0⟩,
        ⟨some 5, .call ⟨(Callee.builtin Builtin.len), [(Operand.tmp 4)].toArray, #[23]⟩, none, 0⟩,
        ⟨some 6, .binOp BinOp.gtr 3 (Operand.tmp 5) (Operand.const (Value.int IntKind.i64 8)) 3, none, 0⟩,
        ⟨some 2, .assign (Operand.tmp 6), none, 0⟩])
      .ret))
abbrev R56 : List ResultVar := [ResultVar.tmp 2]
theorem ok56 : FnOK Try.prog 56 L56 R56 1 := ⟨_, _, Try.func56, rfl, by kernel_rfl, by kernel_rfl, by kernel_rfl, by kernel_rfl, Nat.le_of_ble_eq_true (by kernel_rfl), by kernel_rfl⟩

/-- ablaut/ablautref01.anyLong -/
def L57 : LCode :=
  (.seq
    (.ops [⟨some 2, .assign (Operand.const (Value.bool false)), none, 0⟩])
    (.seq
      (.seq
        (.ops [⟨some 3, .assign (Operand.const (Value.int IntKind.i64 0)), none, 0⟩])
        (.block 0
          (.loop
            (.seq
              (.seq
                (.ops [⟨some 4, .move (Operand.tmp 3), none, 0⟩,
                  ⟨some 5, .move (Operand.tmp 0), none, 0⟩,
                  ⟨some 6, .call ⟨(Callee.builtin Builtin.len), [(Operand.tmp 5)].toArray, #[23]⟩, none, 0⟩,
                  ⟨some 7, .binOp BinOp.lss 3 (Operand.tmp 4) (Operand.tmp 6) 3, none, 0⟩])
                (.cond (Operand.tmp 7)
                  .skip
                  (.exit 0)))
              (.seq
                (.block 1
                  (.seq
                    (.ops [⟨some 10, .move (Operand.tmp 0), none, 0⟩,
                      ⟨some 11, .move (Operand.tmp 3), none, 0⟩,
                      ⟨some 12, .indexAddr 23 (Operand.tmp 10) (Operand.tmp 11), none, 0⟩,
                      ⟨some 13, .load 9 (Operand.tmp 12), none, 0⟩,
                      ⟨some 14, .call ⟨(Callee.builtin Builtin.len), [(Operand.tmp 13)].toArray, #[9]⟩, none, 0⟩,
                      ⟨some 15, .binOp BinOp.gtr 3 (Operand.tmp 14) (Operand.const (Value.int IntKind.i64 16)) 3, none, 0⟩])
                    (.cond (Operand.tmp 15)
                      (.seq
                        (.ops [⟨some 2, .assign (Operand.const (Value.bool true)), none, 0⟩])
                        .ret)
                      .skip)))
                (.ops [⟨some 8, .move (Operand.tmp 3), none, 0⟩,
                  ⟨some 9, .binOp BinOp.add 3 (Operand.tmp 8) (Operand.const (Value.int IntKind.i64 1)) 3, none, 0⟩,
                  ⟨some 3, .assign (Operand.tmp 9), none, 0⟩]))))))
      (.seq
        (.ops [⟨some 2, .assign (Operand.const (Value.bool false)), none, 0⟩])
        .ret)))
abbrev R57 : List ResultVar := [ResultVar.tmp 2]
theorem ok57 : FnOK Try.prog 57 L57 R57 1 := ⟨_, _, Try.func57, rfl, by kernel_rfl, by kernel_rfl, by kernel_rfl, by kernel_rfl, Nat.le_of_ble_eq_true (by kernel_rfl), by kernel_rfl⟩

/-- ablaut/ablautref01.allSymbols -/
def L58 : LCode :=
  (.seq
    (.ops [⟨some 2, .assign (Operand.const (Value.bool false)), none, 0⟩])
    (.seq
      (.seq
        (.ops [⟨some 3, .assign (Operand.const (Value.int IntKind.i64 0)), none, 0⟩])
        (.block 0
          (.loop
            (.seq
              (.seq
                (.ops [⟨some 4, .move (Operand.tmp 3), none, 0⟩,
                  ⟨some 5, .move (Operand.tmp 0), none, 0⟩,
                  ⟨some 6, .call ⟨(Callee.builtin Builtin.len), [(Operand.tmp 5)].toArray, #[23]⟩, none, 0⟩,
                  ⟨some 7, .binOp BinOp.lss 3 (Operand.tmp 4) (Operand.tmp 6) 3, none, 0⟩])
                (.cond (Operand.tmp 7)
                  .skip
                  (.exit 0)))
              (.seq
                (.block 1
                  (.seq
                    (.ops [⟨some 10, .move (Operand.tmp 0), none, 0⟩,
                      ⟨some 11, .move (Operand.tmp 3), none, 0⟩,
                      ⟨some 12, .indexAddr 23 (Operand.tmp 10) (Operand.tmp 11), none, 0⟩,
                      ⟨some 13, .load 9 (Operand.tmp 12), none, 0⟩,
                      ⟨some 14, .call ⟨(Callee.value (Operand.func 65)), [(Operand.tmp 13)].toArray, #[9]⟩, none, 0⟩,
                      ⟨some 15, .unOp UnOp.not 4 (Operand.tmp 14), none, 0⟩])
                    (.cond (Operand.tmp 15)
                      (.seq
                        (.ops [⟨some 2, .assign (Operand.const (Value.bool false)), none, 0⟩])
                        .ret)
                      .skip)))
                (.ops [⟨some 8, .move (Operand.tmp 3), none, 0⟩,
                  ⟨some 9, .binOp BinOp.add 3 (Operand.tmp 8) (Operand.const (Value.int IntKind.i64 1)) 3, none, 0⟩,
                  ⟨some 3, .assign (Operand.tmp 9), none, 0⟩]))))))
      (.seq
        (.ops [⟨some 2, .assign (Operand.const (Value.bool true)), none, 0⟩])
        .ret)))
abbrev R58 : List ResultVar := [ResultVar.tmp 2]
theorem ok58 : FnOK Try.prog 58 L58 R58 1 := ⟨_, _, Try.func58, rfl, by kernel_rfl, by kernel_rfl, by kernel_rfl, by kernel_rfl, Nat.le_of_ble_eq_true (by kernel_rfl), by kernel_rfl⟩

/-- slices.IndexFunc[[]string,string] -/
def L59 : LCode :=
  (.seq
    (.ops [⟨some 4, .assign (Operand.const (Value.int IntKind.i64 0)), none, 0⟩])
    (.seq
      (.seq
        (.ops [⟨some 6, .move (Operand.tmp 0), none, 0⟩,
          ⟨some 7, .call ⟨(Callee.builtin Builtin.len), [(Operand.tmp 6)].toArray, #[23]⟩, none, 0⟩,
          ⟨some 8, .move (Operand.const (Value.int IntKind.i64 0)), none, 0⟩])
        (.block 0
          (.loop
            (.seq
              (.ops [⟨some 9, .binOp BinOp.lss 3 (Operand.tmp 8) (Operand.tmp 7) 3, none, 0⟩])
              (.seq
                (.cond (Operand.tmp 9)
                  .skip
                  (.exit 0))
                (.seq
                  (.block 1
                    (.seq
                      (.ops [⟨some 10, .move (Operand.tmp 8), none, 0⟩,
                        ⟨some 5, .assign (Operand.tmp 10), none, 0⟩])
                      (.seq
                        (.ops [⟨some 11, .move (Operand.tmp 1), none, 0⟩,
                          ⟨some 12, .move (Operand.tmp 0), none, 0⟩,
                          ⟨some 13, .move (Operand.tmp 5), none, 0⟩,
                          ⟨some 14, .indexAddr 23 (Operand.tmp 12) (Operand.tmp 13), none, 0⟩,
                          ⟨some 15, .load 9 (Operand.tmp 14), none, 0⟩,
                          ⟨some 16, .call ⟨(Callee.value (Operand.tmp 11)), [(Operand.tmp 15)].toArray, #[9]⟩, none, 0⟩])
                        (.cond (Operand.tmp 16)
                          (.seq
                            (.ops [⟨some 17, .move (Operand.tmp 5), none, 0⟩,
                              ⟨some 4, .assign (Operand.tmp 17), none, 0⟩])
                            .ret)
                          .skip))))
                  (.ops [⟨some 18, .binOp BinOp.add 3 (Operand.tmp 8) (Operand.const (Value.int IntKind.i64 1)) 3, none, 0⟩,
                    ⟨some 8, .move (Operand.tmp 18), none, 0⟩])))))))
      (.seq
        (.ops [⟨some 4, .assign (Operand.const (Value.int IntKind.i64 (-1))), none, 0⟩])
        .ret)))
abbrev R59 : List ResultVar := [ResultVar.tmp 4]
theorem ok59 : FnOK Try.prog 59 L59 R59 2 := ⟨_, _, Try.func59, rfl, by kernel_rfl, by kernel_rfl, by kernel_rfl, by kernel_rfl, Nat.le_of_ble_eq_true (by kernel_rfl), by kernel_rfl⟩

/-- cmp.isNaN[string] -/
def L60 : LCode :=
  (.seq
    (.ops [⟨some 2, .assign (Operand.const (Value.bool false)), none, 0⟩])
    (.seq
      (.ops [⟨some 3, .move (Operand.tmp 0), none, 0⟩,
        ⟨some 4, .move (Operand.tmp 0), none, 0⟩,
        ⟨some 5, .binOp BinOp.neq 9 (Operand.tmp 3) (Operand.tmp 4) 9, none, 0⟩,
        ⟨some 2, .assign (Operand.tmp 5), none, 0⟩])
      .ret))
abbrev R60 : List ResultVar := [ResultVar.tmp 2]
theorem ok60 : FnOK Try.prog 60 L60 R60 1 := ⟨_, _, Try.func60, rfl, by kernel_rfl, by kernel_rfl, by kernel_rfl, by kernel_rfl, Nat.le_of_ble_eq_true (by kernel_rfl), by kernel_rfl⟩

/-- slices.Equal[[]string,string] -/
def L61 : LCode :=
  (.seq
    (.ops [⟨some 4, .assign (Operand.const (Value.bool false)), none, 0⟩])
    (.seq
      (.seq
        (.ops [⟨some 6, .move (Operand.tmp 0), none, 0⟩,
          ⟨some 7, .call ⟨(Callee.builtin Builtin.len), [(Operand.tmp 6)].toArray, #[23]⟩, none, 0⟩,
          ⟨some 8, .move (Operand.tmp 1), none, 0⟩,
          ⟨some 9, .call ⟨(Callee.builtin Builtin.len), [(Operand.tmp 8)].toArray, #[23]⟩, none, 0⟩,
          ⟨some 10, .binOp BinOp.neq 3 (Operand.tmp 7) (Operand.tmp 9) 3, none, 0⟩])
        (.cond (Operand.tmp 10)
          (.seq
            (.ops [⟨some 4, .assign (Operand.const (Value.bool false)), none, 0⟩])
            .ret)
          .skip))
      (.seq
        (.seq
          (.ops [⟨some 11, .move (Operand.tmp 0), none, 0⟩,
            ⟨some 12, .call ⟨(Callee.builtin Builtin.len), [(Operand.tmp 11)].toArray, #[23]⟩, none, 0⟩,
            ⟨some 13, .move (Operand.const (Value.int IntKind.i64 0)), none, 0⟩])
          (.block 0
            (.loop
              (.seq
                (.ops [⟨some 14, .binOp BinOp.lss 3 (Operand.tmp 13) (Operand.tmp 12) 3, none, 0⟩])
                (.seq
                  (.cond (Operand.tmp 14)
                    .skip
                    (.exit 0))
                  (.seq
                    (.block 1
                      (.seq
                        (.ops [⟨some 15, .move (Operand.tmp 13), none, 0⟩,
                          ⟨some 5, .assign (Operand.tmp 15), none, 0⟩])
                        (.seq
                          (.draw [⟨some 16, .move (Operand.tmp 0), none, 0⟩,
                            ⟨some 17, .move (Operand.tmp 5), none, 0⟩,
                            ⟨some 18, .indexAddr 23 (Operand.tmp 16) (Operand.tmp 17), none, 0⟩,
                            ⟨some 19, .load 9 (Operand.tmp 18), none, 0⟩,
                            ⟨some 20, .move (Operand.tmp 1), none, 0⟩,
                            ⟨some 21, .move (Operand.tmp 5), none, 0⟩,
                            ⟨some 22, .indexAddr 23 (Operand.tmp 20) (Operand.tmp 21), none, 0⟩,
                            ⟨some 23, .load 9 (Operand.tmp 22), none, 0⟩,
                            ⟨some 24, .binOp BinOp.neq 9 (Operand.tmp 19) (Operand.tmp 23) 9, none, 0⟩] true [8] [0, 1, 2, 4, 5, 6, 3, 7, 8])
                          (.cond (Operand.tmp 24)
                            (.seq
                              (.ops [⟨some 4, .assign (Operand.const (Value.bool false)), none, 0⟩])
                              .ret)
                            .skip))))
                    (.ops [⟨some 25, .binOp BinOp.add 3 (Operand.tmp 13) (Operand.const (Value.int IntKind.i64 1)) 3, none, 0⟩,
                      ⟨some 13, .move (Operand.tmp 25), none, 0⟩])))))))
        (.seq
          (.ops [⟨some 4, .assign (Operand.const (Value.bool true)), none, 0⟩])
          .ret))))
abbrev R61 : List ResultVar := [ResultVar.tmp 4]
theorem ok61 : FnOK Try.prog 61 L61 R61 2 := ⟨_, _, Try.func61, rfl, by kernel_rfl, by kernel_rfl, by kernel_rfl, by kernel_rfl, Nat.le_of_ble_eq_true (by kernel_rfl), by kernel_rfl⟩

/-- strings.Join -/
def L62 : LCode :=
  (.seq
    (.ops [⟨some 4, .assign (Operand.const (Value.string ⟨#[]⟩)), none, 0⟩])
    (.seq
      (.seq
        (.ops [⟨some 11, .move (Operand.tmp 0), none, 0⟩,
          ⟨some 12, .call ⟨(Callee.builtin Builtin.len), [(Operand.tmp 11)].toArray, #[23]⟩, none, 0⟩])
        (.block 0
          (.seq
            (.ops [⟨some 14, .binOp BinOp.eql 3 (Operand.tmp 12) (Operand.const (Value.int IntKind.i64 0)) 3, none, 0⟩,
              ⟨some 13, .assign (Operand.tmp 14), none, 0⟩])
            (.cond (Operand.tmp 13)
              (.seq
                (.ops [⟨some 4, .assign (Operand.const (Value.string ⟨#[]⟩)), none, 0⟩])
                .ret)
              (.seq
                (.ops [⟨some 16, .binOp BinOp.eql 3 (Operand.tmp 12) (Operand.const (Value.int IntKind.i64 1)) 3, none, 0⟩,
                  ⟨some 15, .assign (Operand.tmp 16), none, 0⟩])
                (.cond (Operand.tmp 15)
                  (.seq
                    (.ops [⟨some 17, .move (Operand.tmp 0), none, 0⟩,
                      ⟨some 18, .indexAddr 23 (Operand.tmp 17) (Operand.const (Value.int IntKind.i64 0)), none, 0⟩,
                      ⟨some 19, .load 9 (Operand.tmp 18), none, 0⟩,
                      ⟨some 4, .assign (Operand.tmp 19), none, 0⟩])
                    .ret)
                  .skip))))))
      (.seq
        (.ops [⟨some 5, .assign (Operand.const (Value.int IntKind.i64 0)), none, 0⟩])
        (.seq
          (.seq
            (.ops [⟨some 20, .move (Operand.tmp 1), none, 0⟩,
              ⟨some 21, .call ⟨(Callee.builtin Builtin.len), [(Operand.tmp 20)].toArray, #[9]⟩, none, 0⟩,
              ⟨some 22, .binOp BinOp.gtr 3 (Operand.tmp 21) (Operand.const (Value.int IntKind.i64 0)) 3, none, 0⟩])
            (.cond (Operand.tmp 22)
              (.seq
                (.seq
                  (.ops [⟨some 23, .move (Operand.tmp 1), none, 0⟩,
                    ⟨some 24, .call ⟨(Callee.builtin Builtin.len), [(Operand.tmp 23)].toArray, #[9]⟩, none, 0⟩,
                    ⟨some 25, .move (Operand.tmp 0), none, 0⟩,
                    ⟨some 26, .call ⟨(Callee.builtin Builtin.len), [(Operand.tmp 25)].toArray, #[23]⟩, none, 0⟩,
                    ⟨some 27, .binOp BinOp.sub 3 (Operand.tmp 26) (Operand.const (Value.int IntKind.i64 1)) 3, none, 0⟩,
                    ⟨some 28, .binOp BinOp.quo 3 (Operand.const (Value.int IntKind.i64 9223372036854775807)) (Operand.tmp 27) 3, none, 0⟩,
                    ⟨some 29, .binOp BinOp.geq 3 (Operand.tmp 24) (Operand.tmp 28) 3, none, 0⟩])
                  (.cond (Operand.tmp 29)
                    (.ops [⟨some 30, .makeInterface 9 (Operand.const (Value.string ⟨#[115, 116, 114, 105, 110, 103, 115, 58, 32, 74, 111, 105, 110, 32, 111, 117, 116, 112, 117, 116, 32, 108, 101, 110, 103, 116, 104, 32, 111, 118, 101, 114, 102, 108, 111, 119]⟩)), none, 0⟩,
                      ⟨none, .panic (Operand.tmp 30), none, 0⟩])
                    .skip))
                (.ops [⟨some 31, .move (Operand.tmp 5), none, 0⟩,
                  ⟨some 32, .move (Operand.tmp 1), none, 0⟩,
                  ⟨some 33, .call ⟨(Callee.builtin Builtin.len), [(Operand.tmp 32)].toArray, #[9]⟩, none, 0⟩,
                  ⟨some 34, .move (Operand.tmp 0), none, 0⟩,
                  ⟨some 35, .call ⟨(Callee.builtin Builtin.len), [(Operand.tmp 34)].toArray, #[23]⟩, none, 0⟩,
                  ⟨some 36, .binOp BinOp.sub 3 (Operand.tmp 35) (Operand.const (Value.int IntKind.i64 1)) 3, none, 0⟩,
                  ⟨some 37, .binOp BinOp.mul 3 (Operand.tmp 33) (Operand.tmp 36) 3, none, 0⟩,
                  ⟨some 38, .binOp BinOp.add 3 (Operand.tmp 31) (Operand.tmp 37) 3, none, 0⟩,
                  ⟨some 5, .assign (Operand.tmp 38), none, 0⟩]))
              .skip))
          (.seq
            (.seq
              (.ops [⟨some 39, .move (Operand.tmp 0), none, 0⟩,
                ⟨some 40, .call ⟨(Callee.builtin Builtin.len), [(Operand.tmp 39)].toArray, #[23]⟩, none, 0⟩,
                ⟨some 41, .move (Operand.const (Value.int IntKind.i64 0)), none, 0⟩])
              (.block 1
                (.loop
                  (.seq
                    (.ops [⟨some 42, .binOp BinOp.lss 3 (Operand.tmp 41) (Operand.tmp 40) 3, none, 0⟩])
                    (.seq
                      (.cond (Operand.tmp 42)
                        .skip
                        (.exit 1))
                      (.seq
                        (.block 2
                          (.seq
                            (.ops [⟨some 43, .indexAddr 23 (Operand.tmp 39) (Operand.tmp 41), none, 0⟩,
                              ⟨some 44, .load 9 (Operand.tmp 43), none, 0⟩,
                              ⟨some 7, .assign (Operand.tmp 44), none, 0⟩])
                            (.seq
                              (.seq
                                (.ops [⟨some 45, .move (Operand.tmp 7), none, 0⟩,
                                  ⟨some 46, .call ⟨(Callee.builtin Builtin.len), [(Operand.tmp 45)].toArray, #[9]⟩, none, 0⟩,
                                  ⟨some 47, .move (Operand.tmp 5), none, 0⟩,
                                  ⟨some 48, .binOp BinOp.sub 3 (Operand.const (Value.int IntKind.i64 9223372036854775807)) (Operand.tmp 47) 3, none, 0⟩,
                                  ⟨some 49, .binOp BinOp.gtr 3 (Operand.tmp 46) (Operand.tmp 48) 3, none, 0⟩])
                                (.cond (Operand.tmp 49)
                                  (.ops [⟨some 50, .makeInterface 9 (Operand.const (Value.string ⟨#[115, 116, 114, 105, 110, 103, 115, 58, 32, 74, 111, 105, 110, 32, 111, 117, 116, 112, 117, 116, 32, 108, 101, 110, 103, 116, 104, 32, 111, 118, 101, 114, 102, 108, 111, 119]⟩)), none, 0⟩,
                                    ⟨none, .panic (Operand.tmp 50), none, 0⟩])
                                  .skip))
                              (.ops [⟨some 51, .move (Operand.tmp 5), none, 0⟩,
                                ⟨some 52, .move (Operand.tmp 7), none, 0⟩,
                                ⟨some 53, .call ⟨(Callee.builtin Builtin.len), [(Operand.tmp 52)].toArray, #[9]⟩, none, 0⟩,
                                ⟨some 54, .binOp BinOp.add 3 (Operand.tmp 51) (Operand.tmp 53) 3, none, 0⟩,
                                ⟨some 5, .assign (Operand.tmp 54), none, 0⟩]))))
                        (.ops [⟨some 55, .binOp BinOp.add 3 (Operand.tmp 41) (Operand.const (Value.int IntKind.i64 1)) 3, none, 0⟩,
                          ⟨some 41, .move (Operand.tmp 55), none, 0⟩])))))))
            (.seq
              (.ops [⟨some 8, .alloc 89, none, 0⟩])
              (.seq
                (.ops [⟨some 56, .move (Operand.tmp 5), none, 0⟩,
                  ⟨some 57, .call ⟨(Callee.value (Operand.func 66)), [(Operand.tmp 8), (Operand.tmp 56)].toArray, #[89, 3]⟩, none, 0⟩])
                (.seq
                  (.ops [⟨some 58, .move (Operand.tmp 0), none, 0⟩,
                    ⟨some 59, .indexAddr 23 (Operand.tmp 58) (Operand.const (Value.int IntKind.i64 0)), none, 0⟩,
                    ⟨some 60, .load 9 (Operand.tmp 59), none, 0⟩,
                    ⟨some 61, .call ⟨(Callee.value (Operand.func 67)), [(Operand.tmp 8), (Operand.tmp 60)].toArray, #[89, 9]⟩, none, 0⟩])
                  (.seq
                    (.seq
                      (.ops [⟨some 62, .move (Operand.tmp 0), none, 0⟩,
                        ⟨some 63, .slice 23 (Operand.tmp 62) (some (Operand.const (Value.int IntKind.i64 1))) none none, none, 0⟩,
                        ⟨some 64, .call ⟨(Callee.builtin Builtin.len), [(Operand.tmp 63)].toArray, #[23]⟩, none, 0⟩,
                        ⟨some 65, .move (Operand.const (Value.int IntKind.i64 0)), none, 0⟩])
                      (.block 3
                        (.loop
                          (.seq
                            (.ops [⟨some 66, .binOp BinOp.lss 3 (Operand.tmp 65) (Operand.tmp 64) 3, none, 0⟩])
                            (.seq
                              (.cond (Operand.tmp 66)
                                .skip
                                (.exit 3))
                              (.seq
                                (.block 4
                                  (.seq
                                    (.ops [⟨some 67, .indexAddr 23 (Operand.tmp 63) (Operand.tmp 65), none, 0⟩,
                                      ⟨some 68, .load 9 (Operand.tmp 67), none, 0⟩,
                                      ⟨some 10, .assign (Operand.tmp 68), none, 0⟩])
                                    (.seq
                                      (.ops [⟨some 69, .move (Operand.tmp 1), none, 0⟩,
                                        ⟨some 70, .call ⟨(Callee.value (Operand.func 67)), [(Operand.tmp 8), (Operand.tmp 69)].toArray, #[89, 9]⟩, none, 0⟩])
                                      (.ops [⟨some 71, .move (Operand.tmp 10), none, 0⟩,
                                        ⟨some 72, .call ⟨(Callee.value (Operand.func 67)), [(Operand.tmp 8), (Operand.tmp 71)].toArray, #[89, 9]⟩, none, 0⟩]))))
                                (.ops [⟨some 73, .binOp BinOp.add 3 (Operand.tmp 65) (Operand.const (Value.int IntKind.i64 1)) 3, none, 0⟩,
                                  ⟨some 65, .move (Operand.tmp 73), none, 0⟩])))))))
                    (.seq
                      (.ops [⟨some 74, .call ⟨(Callee.value (Operand.func 68)), [(Operand.tmp 8)].toArray, #[89]⟩, none, 0⟩,
                        ⟨some 4, .assign (Operand.tmp 74), none, 0⟩])
                      .ret))))))))))
abbrev R62 : List ResultVar := [ResultVar.tmp 4]
theorem ok62 : FnOK Try.prog 62 L62 R62 2 := ⟨_, _, Try.func62, rfl, by kernel_rfl, by kernel_rfl, by kernel_rfl, by kernel_rfl, Nat.le_of_ble_eq_true (by kernel_rfl), by kernel_rfl⟩

/-- ablaut/script.plain$1 -/
def L63 : LCode :=
  (.seq
    (.ops [⟨some 1, .box 50 (Operand.tmp 0), none, 0⟩,
      ⟨some 2, .assign (Operand.const (Value.bool false)), none, 0⟩])
    (.seq
      (.ops [⟨some 3, .fieldAddr 50 (Operand.tmp 1) 0, none, 0⟩,
        ⟨some 4, .load 23 (Operand.tmp 3), none, 0⟩,
        ⟨some 5, .call ⟨(Callee.builtin Builtin.len), [(Operand.tmp 4)].toArray, #[23]⟩, none, 0⟩,
        ⟨some 6, .binOp BinOp.neq 3 (Operand.tmp 5) (Operand.const (Value.int IntKind.i64 1)) 3, none, 0⟩,
        ⟨some 2, .assign (Operand.tmp 6), none, 0⟩])
      .ret))
abbrev R63 : List ResultVar := [ResultVar.tmp 2]
theorem ok63 : FnOK Try.prog 63 L63 R63 1 := ⟨_, _, Try.func63, rfl, by kernel_rfl, by kernel_rfl, by kernel_rfl, by kernel_rfl, Nat.le_of_ble_eq_true (by kernel_rfl), by kernel_rfl⟩

/-- slices.IndexFunc[[]ablaut/api.Shift,ablaut/api.Shift] -/
def L64 : LCode :=
  (.seq
    (.ops [⟨some 4, .assign (Operand.const (Value.int IntKind.i64 0)), none, 0⟩])
    (.seq
      (.seq
        (.ops [⟨some 6, .move (Operand.tmp 0), none, 0⟩,
          ⟨some 7, .call ⟨(Callee.builtin Builtin.len), [(Operand.tmp 6)].toArray, #[22]⟩, none, 0⟩,
          ⟨some 8, .move (Operand.const (Value.int IntKind.i64 0)), none, 0⟩])
        (.block 0
          (.loop
            (.seq
              (.ops [⟨some 9, .binOp BinOp.lss 3 (Operand.tmp 8) (Operand.tmp 7) 3, none, 0⟩])
              (.seq
                (.cond (Operand.tmp 9)
                  .skip
                  (.exit 0))
                (.seq
                  (.block 1
                    (.seq
                      (.ops [⟨some 10, .move (Operand.tmp 8), none, 0⟩,
                        ⟨some 5, .assign (Operand.tmp 10), none, 0⟩])
                      (.seq
                        (.ops [⟨some 11, .move (Operand.tmp 1), none, 0⟩,
                          ⟨some 12, .move (Operand.tmp 0), none, 0⟩,
                          ⟨some 13, .move (Operand.tmp 5), none, 0⟩,
                          ⟨some 14, .indexAddr 22 (Operand.tmp 12) (Operand.tmp 13), none, 0⟩,
                          ⟨some 15, .load 50 (Operand.tmp 14), none, 0⟩,
                          ⟨some 16, .call ⟨(Callee.value (Operand.tmp 11)), [(Operand.tmp 15)].toArray, #[50]⟩, none, 0⟩])
                        (.cond (Operand.tmp 16)
                          (.seq
                            (.ops [⟨some 17, .move (Operand.tmp 5), none, 0⟩,
                              ⟨some 4, .assign (Operand.tmp 17), none, 0⟩])
                            .ret)
                          .skip))))
                  (.ops [⟨some 18, .binOp BinOp.add 3 (Operand.tmp 8) (Operand.const (Value.int IntKind.i64 1)) 3, none, 0⟩,
                    ⟨some 8, .move (Operand.tmp 18), none, 0⟩])))))))
      (.seq
        (.ops [⟨some 4, .assign (Operand.const (Value.int IntKind.i64 (-1))), none, 0⟩])
        .ret)))
abbrev R64 : List ResultVar := [ResultVar.tmp 4]
theorem ok64 : FnOK Try.prog 64 L64 R64 2 := ⟨_, _, Try.func64, rfl, by kernel_rfl, by kernel_rfl, by kernel_rfl, by kernel_rfl, Nat.le_of_ble_eq_true (by kernel_rfl), by kernel_rfl⟩

/-- ablaut/ablautref01.IsSymbol -/
def L65 : LCode :=
  (.seq
    (.ops [⟨some 2, .assign (Operand.const (Value.bool false)), none, 0⟩])
    (.seq
      (.seq
        (.ops [⟨some 3, .assign (Operand.const (Value.int IntKind.i64 0)), none, 0⟩])
        (.block 0
          (.loop
            (.seq
              (.seq
                (.ops [⟨some 4, .move (Operand.tmp 3), none, 0⟩,
                  ⟨some 5, .move (Operand.tmp 0), none, 0⟩,
                  ⟨some 6, .call ⟨(Callee.builtin Builtin.len), [(Operand.tmp 5)].toArray, #[9]⟩, none, 0⟩,
                  ⟨some 7, .binOp BinOp.lss 3 (Operand.tmp 4) (Operand.tmp 6) 3, none, 0⟩])
                (.cond (Operand.tmp 7)
                  .skip
                  (.exit 0)))
              (.seq
                (.block 1
                  (.seq
                    (.ops [⟨some 10, .move (Operand.tmp 0), none, 0⟩,
                      ⟨some 11, .move (Operand.tmp 3), none, 0⟩,
                      ⟨some 12, .index 9 (Operand.tmp 10) (Operand.tmp 11), none, 0⟩,
                      ⟨some 13, .binOp BinOp.lss 5 (Operand.tmp 12) (Operand.const (Value.int IntKind.u8 33)) 5, none, 0⟩,
                      ⟨some 14, .move (Operand.tmp 13), none, 0⟩,
                      ⟨some 15, .move (Operand.tmp 0), some (14, false), 0⟩,
                      ⟨some 16, .move (Operand.tmp 3), some (14, false), 0⟩,
                      ⟨some 17, .index 9 (Operand.tmp 15) (Operand.tmp 16), some (14, false), 0⟩,
                      ⟨some 18, .binOp BinOp.gtr 5 (Operand.tmp 17) (Operand.const (Value.int IntKind.u8 126)) 5, some (14, false), 0⟩,
                      ⟨some 19, .pick (Operand.tmp 14) (Operand.const (Value.bool true)) (Operand.tmp 18), none, 0⟩,
                      ⟨some 20, .move (Operand.tmp 19), none, 0⟩,
                      ⟨some 21, .move (Operand.tmp 0), some (20, false), 0⟩,
                      ⟨some 22, .move (Operand.tmp 3), some (20, false), 0⟩,
                      ⟨some 23, .index 9 (Operand.tmp 21) (Operand.tmp 22), some (20, false), 0⟩,
                      ⟨some 24, .binOp BinOp.eql 5 (Operand.tmp 23) (Operand.const (Value.int IntKind.u8 60)) 5, some (20, false), 0⟩,
                      ⟨some 25, .pick (Operand.tmp 20) (Operand.const (Value.bool true)) (Operand.tmp 24), none, 0⟩,
                      ⟨some 26, .move (Operand.tmp 25), none, 0⟩,
                      ⟨some 27, .move (Operand.tmp 0), some (26, false), 0⟩,
                      ⟨some 28, .move (Operand.tmp 3), some (26, false), 0⟩,
                      ⟨some 29, .index 9 (Operand.tmp 27) (Operand.tmp 28), some (26, false), 0⟩,
                      ⟨some 30, .binOp BinOp.eql 5 (Operand.tmp 29) (Operand.const (Value.int IntKind.u8 62)) 5, some (26, false), 0⟩,
                      ⟨some 31, .pick (Operand.tmp 26) (Operand.const (Value.bool true)) (Operand.tmp 30), none, 0⟩])
                    (.cond (Operand.tmp 31)
                      (.seq
                        (.ops [⟨some 2, .assign (Operand.const (Value.bool false)), none, 0⟩])
                        .ret)
                      .skip)))
                (.ops [⟨some 8, .move (Operand.tmp 3), none, 0⟩,
                  ⟨some 9, .binOp BinOp.add 3 (Operand.tmp 8) (Operand.const (Value.int IntKind.i64 1)) 3, none, 0⟩,
                  ⟨some 3, .assign (Operand.tmp 9), none, 0⟩]))))))
      (.seq
        (.ops [⟨some 32, .move (Operand.tmp 0), none, 0⟩,
          ⟨some 33, .call ⟨(Callee.builtin Builtin.len), [(Operand.tmp 32)].toArray, #[9]⟩, none, 0⟩,
          ⟨some 34, .binOp BinOp.geq 3 (Operand.tmp 33) (Operand.const (Value.int IntKind.i64 1)) 3, none, 0⟩,
          ⟨some 35, .move (Operand.tmp 34), none, 0⟩,
          ⟨some 36, .move (Operand.tmp 0), some (35, true), 0⟩,
          ⟨some 37, .call ⟨(Callee.builtin Builtin.len), [(Operand.tmp 36)].toArray, #[9]⟩, some (35, true), 0⟩,
          ⟨some 38, .binOp BinOp.leq 3 (Operand.tmp 37) (Operand.const (Value.int IntKind.i64 16)) 3, some (35, true), 0⟩,
          ⟨some 39, .pick (Operand.tmp 35) (Operand.tmp 38) (Operand.const (Value.bool false)), none, 0⟩,
          ⟨some 2, .assign (Operand.tmp 39), none, 0⟩])
        .ret)))
abbrev R65 : List ResultVar := [ResultVar.tmp 2]
theorem ok65 : FnOK Try.prog 65 L65 R65 1 := ⟨_, _, Try.func65, rfl, by kernel_rfl, by kernel_rfl, by kernel_rfl, by kernel_rfl, Nat.le_of_ble_eq_true (by kernel_rfl), by kernel_rfl⟩

/-- (*strings.Builder).Grow -/
def L66 : LCode :=
  (.seq
    (.ops [⟨some 4, .move (Operand.tmp 0), none, 0⟩,
      ⟨some 5, .call ⟨(Callee.value (Operand.func 69)), [(Operand.tmp 4)].toArray, #[86]⟩, none, 0⟩])
    (.seq
      (.seq
        (.ops [⟨some 6, .move (Operand.tmp 1), none, 0⟩,
          ⟨some 7, .binOp BinOp.lss 3 (Operand.tmp 6) (Operand.const (Value.int IntKind.i64 0)) 3, none, 0⟩])
        (.cond (Operand.tmp 7)
          (.ops [⟨some 8, .makeInterface 9 (Operand.const (Value.string ⟨#[115, 116, 114, 105, 110, 103, 115, 46, 66, 117, 105, 108, 100, 101, 114, 46, 71, 114, 111, 119, 58, 32, 110, 101, 103, 97, 116, 105, 118, 101, 32, 99, 111, 117, 110, 116]⟩)), none, 0⟩,
            ⟨none, .panic (Operand.tmp 8), none, 0⟩])
          .skip))
      (.seq
        (.draw [⟨some 9, .move (Operand.tmp 0), none, 0⟩,
          ⟨some 10, .nilCheck (Operand.tmp 9), none, 0⟩,
          ⟨some 11, .fieldAddr 89 (Operand.tmp 10) 1, none, 0⟩,
          ⟨some 12, .load 87 (Operand.tmp 11), none, 0⟩,
          ⟨some 13, .call ⟨(Callee.builtin Builtin.cap), [(Operand.tmp 12)].toArray, #[87]⟩, none, 0⟩,
          ⟨some 14, .move (Operand.tmp 0), none, 0⟩,
          ⟨some 15, .nilCheck (Operand.tmp 14), none, 0⟩,
          ⟨some 16, .fieldAddr 89 (Operand.tmp 15) 1, none, 0⟩,
          ⟨some 17, .load 87 (Operand.tmp 16), none, 0⟩,
          ⟨some 18, .call ⟨(Callee.builtin Builtin.len), [(Operand.tmp 17)].toArray, #[87]⟩, none, 0⟩,
          ⟨some 19, .binOp BinOp.sub 3 (Operand.tmp 13) (Operand.tmp 18) 3, none, 0⟩,
          ⟨some 20, .move (Operand.tmp 1), none, 0⟩,
          ⟨some 21, .binOp BinOp.lss 3 (Operand.tmp 19) (Operand.tmp 20) 3, none, 0⟩] true [12] [])
        (.cond (Operand.tmp 21)
          (.ops [⟨some 22, .move (Operand.tmp 0), none, 0⟩,
            ⟨some 23, .move (Operand.tmp 1), none, 0⟩,
            ⟨some 24, .call ⟨(Callee.value (Operand.func 70)), [(Operand.tmp 22), (Operand.tmp 23)].toArray, #[86, 3]⟩, none, 0⟩])
          .skip))))
abbrev R66 : List ResultVar := []
theorem ok66 : FnOK Try.prog 66 L66 R66 2 := ⟨_, _, Try.func66, rfl, by kernel_rfl, by kernel_rfl, by kernel_rfl, by kernel_rfl, Nat.le_of_ble_eq_true (by kernel_rfl), by kernel_rfl⟩

/-- (*strings.Builder).WriteString -/
def L67 : LCode :=
  (.seq
    (.ops [⟨some 4, .assign (Operand.const (Value.int IntKind.i64 0)), none, 0⟩,
      ⟨some 5, .assign (Operand.const Value.nilIface), none, 0⟩])
    (.seq
      (.ops [⟨some 6, .move (Operand.tmp 0), none, 0⟩,
        ⟨some 7, .call ⟨(Callee.value (Operand.func 69)), [(Operand.tmp 6)].toArray, #[86]⟩, none, 0⟩])
      (.seq
        (.ops [⟨some 8, .move (Operand.tmp 0), none, 0⟩,
          ⟨some 9, .move (Operand.tmp 0), none, 0⟩,
          ⟨some 10, .nilCheck (Operand.tmp 9), none, 0⟩,
          ⟨some 11, .fieldAddr 89 (Operand.tmp 10) 1, none, 0⟩,
          ⟨some 12, .load 87 (Operand.tmp 11), none, 0⟩,
          ⟨some 13, .move (Operand.tmp 1), none, 0⟩,
          ⟨some 14, .call ⟨(Callee.builtin Builtin.append), [(Operand.tmp 12), (Operand.tmp 13)].toArray, #[87, 9]⟩, none, 0⟩,
          ⟨some 15, .nilCheck (Operand.tmp 8), none, 0⟩,
          ⟨some 16, .fieldAddr 89 (Operand.tmp 15) 1, none, 0⟩,
          ⟨none, .store 87 (Operand.tmp 16) (Operand.tmp 14), none, 0⟩])
        (.seq
          (.ops [⟨some 17, .move (Operand.tmp 1), none, 0⟩,
            ⟨some 18, .call ⟨(Callee.builtin Builtin.len), [(Operand.tmp 17)].toArray, #[9]⟩, none, 0⟩,
            ⟨some 4, .assign (Operand.tmp 18), none, 0⟩,
            ⟨some 5, .assign (Operand.const Value.nilIface), none, 0⟩])
          .ret))))
abbrev R67 : List ResultVar := [ResultVar.tmp 4, ResultVar.tmp 5]
theorem ok67 : FnOK Try.prog 67 L67 R67 2 := ⟨_, _, Try.func67, rfl, by kernel_rfl, by kernel_rfl, by kernel_rfl, by kernel_rfl, Nat.le_of_ble_eq_true (by kernel_rfl), by kernel_rfl⟩

/-- (*strings.Builder).String -/
def L68 : LCode :=
  (.seq
    (.ops [⟨some 2, .assign (Operand.const (Value.string ⟨#[]⟩)), none, 0⟩])
    (.seq
      (.draw [⟨some 3, .move (Operand.tmp 0), none, 0⟩,
        ⟨some 4, .nilCheck (Operand.tmp 3), none, 0⟩,
        ⟨some 5, .fieldAddr 89 (Operand.tmp 4) 1, none, 0⟩,
        ⟨some 6, .load 87 (Operand.tmp 5), none, 0⟩,
        ⟨some 7, .call ⟨(Callee.builtin Builtin.unsafeSliceData), [(Operand.tmp 6)].toArray, #[87]⟩, none, 0⟩,
        ⟨some 8, .move (Operand.tmp 0), none, 0⟩,
        ⟨some 9, .nilCheck (Operand.tmp 8), none, 0⟩,
        ⟨some 10, .fieldAddr 89 (Operand.tmp 9) 1, none, 0⟩,
        ⟨some 11, .load 87 (Operand.tmp 10), none, 0⟩,
        ⟨some 12, .call ⟨(Callee.builtin Builtin.len), [(Operand.tmp 11)].toArray, #[87]⟩, none, 0⟩,
        ⟨some 13, .call ⟨(Callee.builtin Builtin.unsafeString), [(Operand.tmp 7), (Operand.tmp 12)].toArray, #[96, 3]⟩, none, 0⟩,
        ⟨some 2, .assign (Operand.tmp 13), none, 0⟩] true [10, 11] [])
      .ret))
abbrev R68 : List ResultVar := [ResultVar.tmp 2]
theorem ok68 : FnOK Try.prog 68 L68 R68 1 := ⟨_, _, Try.func68, rfl, by kernel_rfl, by kernel_rfl, by kernel_rfl, by kernel_rfl, Nat.le_of_ble_eq_true (by kernel_rfl), by kernel_rfl⟩

/-- (*strings.Builder).copyCheck -/
def L69 : LCode :=
  (.seq
    (.ops [⟨some 2, .move (Operand.tmp 0), none, 0⟩,
      ⟨some 3, .nilCheck (Operand.tmp 2), none, 0⟩,
      ⟨some 4, .fieldAddr 89 (Operand.tmp 3) 0, none, 0⟩,
      ⟨some 5, .load 86 (Operand.tmp 4), none, 0⟩,
      ⟨some 6, .binOp BinOp.eql 86 (Operand.tmp 5) (Operand.const (Value.pointer none)) 86, none, 0⟩])
    (.cond (Operand.tmp 6)
      (.ops [⟨some 7, .move (Operand.tmp 0), none, 0⟩,
        ⟨some 8, .move (Operand.tmp 0), none, 0⟩,
        ⟨some 9, .convert 86 97 (Operand.tmp 8), none, 0⟩,
        ⟨some 10, .call ⟨(Callee.value (Operand.func 71)), [(Operand.tmp 9)].toArray, #[97]⟩, none, 0⟩,
        ⟨some 11, .convert 97 86 (Operand.tmp 10), none, 0⟩,
        ⟨some 12, .nilCheck (Operand.tmp 7), none, 0⟩,
        ⟨some 13, .fieldAddr 89 (Operand.tmp 12) 0, none, 0⟩,
        ⟨none, .store 86 (Operand.tmp 13) (Operand.tmp 11), none, 0⟩])
      (.seq
        (.ops [⟨some 14, .move (Operand.tmp 0), none, 0⟩,
          ⟨some 15, .nilCheck (Operand.tmp 14), none, 0⟩,
          ⟨some 16, .fieldAddr 89 (Operand.tmp 15) 0, none, 0⟩,
          ⟨some 17, .load 86 (Operand.tmp 16), none, 0⟩,
          ⟨some 18, .move (Operand.tmp 0), none, 0⟩,
          ⟨some 19, .binOp BinOp.neq 86 (Operand.tmp 17) (Operand.tmp 18) 86, none, 0⟩])
        (.cond (Operand.tmp 19)
          .bad
          .skip))))
abbrev R69 : List ResultVar := []
theorem ok69 : FnOK Try.prog 69 L69 R69 1 := ⟨_, _, Try.func69, rfl, by kernel_rfl, by kernel_rfl, by kernel_rfl, by kernel_rfl, Nat.le_of_ble_eq_true (by kernel_rfl), by kernel_rfl⟩

/-- (*strings.Builder).grow -/
def L70 : LCode :=
  (.seq
    (.draw [⟨some 5, .move (Operand.tmp 0), none, 0⟩,
      ⟨some 6, .nilCheck (Operand.tmp 5), none, 0⟩,
      ⟨some 7, .fieldAddr 89 (Operand.tmp 6) 1, none, 0⟩,
      ⟨some 8, .load 87 (Operand.tmp 7), none, 0⟩,
      ⟨some 9, .call ⟨(Callee.builtin Builtin.cap), [(Operand.tmp 8)].toArray, #[87]⟩, none, 0⟩,
      ⟨some 10, .binOp BinOp.mul 3 (Operand.const (Value.int IntKind.i64 2)) (Operand.tmp 9) 3, none, 0⟩,
      ⟨some 11, .move (Operand.tmp 1), none, 0⟩,
      ⟨some 12, .binOp BinOp.add 3 (Operand.tmp 10) (Operand.tmp 11) 3, none, 0⟩,
      ⟨some 13, .call ⟨(Callee.value (Operand.func 72)), [(Operand.tmp 12)].toArray, #[3]⟩, none, 0⟩,
      ⟨some 14, .move (Operand.tmp 0), none, 0⟩,
      ⟨some 15, .nilCheck (Operand.tmp 14), none, 0⟩,
      ⟨some 16, .fieldAddr 89 (Operand.tmp 15) 1, none, 0⟩,
      ⟨some 17, .load 87 (Operand.tmp 16), none, 0⟩,
      ⟨some 18, .call ⟨(Callee.builtin Builtin.len), [(Operand.tmp 17)].toArray, #[87]⟩, none, 0⟩,
      ⟨some 19, .slice 87 (Operand.tmp 13) none (some (Operand.tmp 18)) none, none, 0⟩,
      ⟨some 4, .assign (Operand.tmp 19), none, 0⟩] true [14, 15] [])
    (.seq
      (.ops [⟨some 20, .move (Operand.tmp 4), none, 0⟩,
        ⟨some 21, .move (Operand.tmp 0), none, 0⟩,
        ⟨some 22, .nilCheck (Operand.tmp 21), none, 0⟩,
        ⟨some 23, .fieldAddr 89 (Operand.tmp 22) 1, none, 0⟩,
        ⟨some 24, .load 87 (Operand.tmp 23), none, 0⟩,
        ⟨some 25, .call ⟨(Callee.builtin Builtin.copy), [(Operand.tmp 20), (Operand.tmp 24)].toArray, #[87, 87]⟩, none, 0⟩])
      (.ops [⟨some 26, .move (Operand.tmp 0), none, 0⟩,
        ⟨some 27, .move (Operand.tmp 4), none, 0⟩,
        ⟨some 28, .nilCheck (Operand.tmp 26), none, 0⟩,
        ⟨some 29, .fieldAddr 89 (Operand.tmp 28) 1, none, 0⟩,
        ⟨none, .store 87 (Operand.tmp 29) (Operand.tmp 27), none, 0⟩])))
abbrev R70 : List ResultVar := []
theorem ok70 : FnOK Try.prog 70 L70 R70 2 := ⟨_, _, Try.func70, rfl, by kernel_rfl, by kernel_rfl, by kernel_rfl, by kernel_rfl, Nat.le_of_ble_eq_true (by kernel_rfl), by kernel_rfl⟩
end Go.Proofs.Ytldlcejlfaogbaa.Vs
