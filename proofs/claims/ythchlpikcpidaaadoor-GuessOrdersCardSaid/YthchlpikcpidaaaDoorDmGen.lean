/- The engine 'Dm', part 14: general equations, all in one. -/
import Derived.Test.YthchlpikcpidaaaDoorDmBun
namespace Go.Proofs.YthchlpikcpidaaaDoor.Vs
set_option linter.unusedVariables false
theorem genB : (type_of% @upd_apply) ∧
  (type_of% @List.map_cons.{0,0}) ∧
  (type_of% @List.map_nil.{0,0}) ∧
  (type_of% @Option.map_some.{0,0}) ∧
  (type_of% @Option.map_none.{0,0}) ∧
  (type_of% @List.cons_append.{0}) ∧
  (type_of% @List.nil_append.{0}) ∧
  (type_of% @List.getD_cons_zero.{0}) ∧
  (type_of% @List.getD_cons_succ.{0}) ∧
  (type_of% @gt_iff_lt.{0}) ∧
  (type_of% @ge_iff_le.{0}) ∧
  (type_of% @decide_eq_true_eq) ∧
  (type_of% @decide_eq_false_iff_not) ∧
  (type_of% @retQ_ret) ∧
  (type_of% @retQ_normal) ∧
  (type_of% @List.getElem?_drop.{0}) ∧
  (type_of% @List.getElem?_map.{0,0}) ∧
  (type_of% @Nat.add_zero) ∧
  (type_of% @Nat.zero_add) ∧
  (type_of% @Int.toNat_natCast) ∧
  (type_of% @Int.ofNat_lt) ∧
  (type_of% @List.length_map.{0,0}) ∧
  (type_of% @List.length_drop.{0}) ∧
  (type_of% @and_true) ∧
  (type_of% @true_and) ∧
  (type_of% @D.int.injEq) ∧
  (type_of% @D.str.injEq) ∧
  (type_of% @D.bool.injEq) ∧
  (type_of% @true_implies) ∧
  (type_of% @implies_true.{0}) ∧
  (type_of% @implies_true.{1}) ∧
  (type_of% @Int.natCast_nonneg) ∧
  (type_of% @Option.some.injEq.{0}) ∧
  (type_of% @exists_eq_left.{1}) ∧
  (type_of% @exists_eq_left'.{1}) ∧
  (type_of% @Bool.false_eq_true) ∧
  (type_of% @Bool.true_eq_false) ∧
  (type_of% @decide_true) ∧
  (type_of% @decide_false) ∧
  (type_of% @not_true_eq_false) ∧
  (type_of% @not_false_eq_true) ∧
  (type_of% @Bool.not_true) ∧
  (type_of% @Bool.not_false) ∧
  (type_of% @List.getElem?_cons_zero.{0}) ∧
  (type_of% @List.getElem?_cons_succ.{0}) ∧
  (type_of% @List.drop_zero.{0}) ∧
  (type_of% @List.drop_succ_cons.{0}) ∧
  (type_of% @Bool.not_eq_true) ∧
  (type_of% @Heap.set_same) ∧
  (type_of% @Heap.set_set) ∧
  (type_of% @Heap.new_same) ∧
  (type_of% @Heap.next_new) ∧
  (type_of% @Heap.next_set) ∧
  (type_of% @Heap.next_del) ∧
  (type_of% @Heap.new_set) ∧
  (type_of% @List.take_succ_cons.{0}) ∧
  (type_of% @List.take_zero.{0}) ∧
  (type_of% @List.length_cons.{0}) ∧
  (type_of% @List.length_nil.{0}) ∧
  (type_of% @List.drop_nil.{0}) ∧
  (type_of% @List.append_nil.{0}) ∧
  (type_of% @Nat.le_refl) :=
  ⟨@upd_apply, @List.map_cons.{0,0}, @List.map_nil.{0,0}, @Option.map_some.{0,0}, @Option.map_none.{0,0}, @List.cons_append.{0}, @List.nil_append.{0}, @List.getD_cons_zero.{0}, @List.getD_cons_succ.{0}, @gt_iff_lt.{0}, @ge_iff_le.{0}, @decide_eq_true_eq, @decide_eq_false_iff_not, @retQ_ret, @retQ_normal, @List.getElem?_drop.{0}, @List.getElem?_map.{0,0}, @Nat.add_zero, @Nat.zero_add, @Int.toNat_natCast, @Int.ofNat_lt, @List.length_map.{0,0}, @List.length_drop.{0}, @and_true, @true_and, @D.int.injEq, @D.str.injEq, @D.bool.injEq, @true_implies, @implies_true.{0}, @implies_true.{1}, @Int.natCast_nonneg, @Option.some.injEq.{0}, @exists_eq_left.{1}, @exists_eq_left'.{1}, @Bool.false_eq_true, @Bool.true_eq_false, @decide_true, @decide_false, @not_true_eq_false, @not_false_eq_true, @Bool.not_true, @Bool.not_false, @List.getElem?_cons_zero.{0}, @List.getElem?_cons_succ.{0}, @List.drop_zero.{0}, @List.drop_succ_cons.{0}, @Bool.not_eq_true, @Heap.set_same, @Heap.set_set, @Heap.new_same, @Heap.next_new, @Heap.next_set, @Heap.next_del, @Heap.new_set, @List.take_succ_cons.{0}, @List.take_zero.{0}, @List.length_cons.{0}, @List.length_nil.{0}, @List.drop_nil.{0}, @List.append_nil.{0}, @Nat.le_refl⟩
end Go.Proofs.YthchlpikcpidaaaDoor.Vs
