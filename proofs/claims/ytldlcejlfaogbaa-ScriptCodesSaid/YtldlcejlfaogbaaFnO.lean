/- Words joined by their numbers; the reference's search for the shortest word. -/
import Derived.Test.YtldlcejlfaogbaaCodeA
import Derived.Test.YtldlcejlfaogbaaDmLib2
namespace Go.Proofs.Ytldlcejlfaogbaa.Vs
set_option linter.unusedVariables false
set_option linter.unusedSimpArgs false
set_option maxRecDepth 20000

theorem joined_c (l : List Wd) (ns : List Int) (h1 : okNs l ns) (h2 : ∀ w ∈ l, w.length ≤ 8) (h3 : ns.length ≤ 10000) : Fn Zs 20 [encLL l, encI ns] (.tup [encSS (joinW l ns), .bool true]) := by
  refine fn_of (Z := Zs) ok20 fun σ hcl hbl => ?_
  simp -dsimp only [L20, ↓preB, postB, ↓reduceIte, upd_apply, Nat.reduceEqDiff, List.map_cons, List.map_nil, Option.map_some, Option.map_none, List.cons_append, List.nil_append, List.getD_cons_zero, List.getD_cons_succ, gt_iff_lt, ge_iff_le, decide_eq_true_eq, decide_eq_false_iff_not, intBin, strBin, unD, retQ_ret, retQ_normal, List.getElem?_drop, List.getElem?_map, Nat.add_zero, Nat.zero_add, Int.toNat_natCast, Int.ofNat_lt, List.length_map, List.length_drop, and_true, true_and, D.int.injEq, D.str.injEq, D.bool.injEq, true_implies, implies_true, Int.natCast_nonneg, Option.some.injEq, exists_eq_left, exists_eq_left', Bool.false_eq_true, Bool.true_eq_false, decide_true, decide_false, not_true_eq_false, not_false_eq_true, Bool.not_true, Bool.not_false, List.getElem?_cons_zero, List.getElem?_cons_succ, List.drop_zero, List.drop_succ_cons, Bool.not_eq_true, Heap.set_same, Heap.set_set, Heap.new_same, Heap.next_new, Heap.next_set, Heap.next_del, Heap.new_set, extractD, lit1, lit2, lit3, keptD, boxR, Int.reduceToNat, Int.reduceLE, Int.reduceLT,  D.one, D.pub1, List.take_succ_cons, D.cells, splice, List.take_zero, List.length_cons, List.length_nil, Nat.reduceAdd, Nat.reduceLeDiff, List.drop_nil, List.append_nil, Nat.le_refl]
  refine pwp_loopG (fun k env s => k ≤ ns.length ∧ Acc 9 1 σ (joinW l (ns.take k)).length ((joinW l (ns.take k)).map .str) (env 6) s ∧ env 7 = .int .i64 (k:Nat) ∧ env 0 = encLL l ∧ env 1 = encI ns) (fun k => ns.length - k) 0 ?_ ?_
  · simp only [upd_apply, envOf_apply, Nat.reduceEqDiff, if_true, if_false]
    exact ⟨Nat.zero_le _, Acc.nil (HLe.refl _), rfl, rfl, rfl⟩
  · rintro k env s ⟨hk, hA, h7, h0, h1'⟩
    rcases Nat.lt_or_ge k ns.length with hlt | hge
    · obtain ⟨hn1, hn2⟩ := h1 _ (List.getElem_mem hlt)
      obtain ⟨n, hn⟩ : ∃ n : Nat, ns[k] = (n:Int) := ⟨ns[k].toNat, by omega⟩
      have hx : ns[k]? = some (n:Int) := by rw [List.getElem?_eq_getElem hlt, hn]
      have hnl : n < l.length := by omega
      have hy : l[n]? = some l[n] := List.getElem?_eq_getElem hnl
      have hge' : ¬ ((l.length : Int) ≤ (n : Int)) := by omega
      have hp : 0 < ns.length := by omega
      have hlp : 0 < l.length := by omega
      have hl8 := joinW_len8 h2 (ns.take k)
      have hw8 := h2 _ (List.getElem_mem hnl)
      rw [List.length_take] at hl8
      have hsucc : joinW l (ns.take (k + 1)) = joinW l (ns.take k) ++ l[n] := by
        rw [List.take_add_one, hx, joinW_append]
        simp only [Option.toList_some, joinW_one hnl]
      simp -dsimp only [h7, h0, h1', encI, encLL, hlt, hx, hy, hnl, hge', hp, hlp, natneg, ↓preB, postB, ↓reduceIte, upd_apply, Nat.reduceEqDiff, List.map_cons, List.map_nil, Option.map_some, Option.map_none, List.cons_append, List.nil_append, List.getD_cons_zero, List.getD_cons_succ, gt_iff_lt, ge_iff_le, decide_eq_true_eq, decide_eq_false_iff_not, intBin, strBin, unD, retQ_ret, retQ_normal, List.getElem?_drop, List.getElem?_map, Nat.add_zero, Nat.zero_add, Int.toNat_natCast, Int.ofNat_lt, List.length_map, List.length_drop, and_true, true_and, D.int.injEq, D.str.injEq, D.bool.injEq, true_implies, implies_true, Int.natCast_nonneg, Option.some.injEq, exists_eq_left, exists_eq_left', Bool.false_eq_true, Bool.true_eq_false, decide_true, decide_false, not_true_eq_false, not_false_eq_true, Bool.not_true, Bool.not_false, List.getElem?_cons_zero, List.getElem?_cons_succ, List.drop_zero, List.drop_succ_cons, Bool.not_eq_true, Heap.set_same, Heap.set_set, Heap.new_same, Heap.next_new, Heap.next_set, Heap.next_del, Heap.new_set, extractD, lit1, lit2, lit3, keptD, boxR, Int.reduceToNat, Int.reduceLE, Int.reduceLT,  D.one, D.pub1, List.take_succ_cons, D.cells, splice, List.take_zero, List.length_cons, List.length_nil, Nat.reduceAdd, Nat.reduceLeDiff, List.drop_nil, List.append_nil, Nat.le_refl]
      intro hb1
      intro hb2
      refine hA.append hcl tz23 rfl tz9 rfl rfl rfl (by decide) (by simp) (fedBy_sl tz23 rfl (by simp)) (by simp only []; omega) (by simp only [big]; omega) fun d' s' hA' => ?_
      simp -dsimp only [h7, h0, h1', encI, encLL, hlt, hx, hy, hnl, hge', hp, hlp, natneg, ↓preB, postB, ↓reduceIte, upd_apply, Nat.reduceEqDiff, List.map_cons, List.map_nil, Option.map_some, Option.map_none, List.cons_append, List.nil_append, List.getD_cons_zero, List.getD_cons_succ, gt_iff_lt, ge_iff_le, decide_eq_true_eq, decide_eq_false_iff_not, intBin, strBin, unD, retQ_ret, retQ_normal, List.getElem?_drop, List.getElem?_map, Nat.add_zero, Nat.zero_add, Int.toNat_natCast, Int.ofNat_lt, List.length_map, List.length_drop, and_true, true_and, D.int.injEq, D.str.injEq, D.bool.injEq, true_implies, implies_true, Int.natCast_nonneg, Option.some.injEq, exists_eq_left, exists_eq_left', Bool.false_eq_true, Bool.true_eq_false, decide_true, decide_false, not_true_eq_false, not_false_eq_true, Bool.not_true, Bool.not_false, List.getElem?_cons_zero, List.getElem?_cons_succ, List.drop_zero, List.drop_succ_cons, Bool.not_eq_true, Heap.set_same, Heap.set_set, Heap.new_same, Heap.next_new, Heap.next_set, Heap.next_del, Heap.new_set, extractD, lit1, lit2, lit3, keptD, boxR, Int.reduceToNat, Int.reduceLE, Int.reduceLT,  D.one, D.pub1, List.take_succ_cons, D.cells, splice, List.take_zero, List.length_cons, List.length_nil, Nat.reduceAdd, Nat.reduceLeDiff, List.drop_nil, List.append_nil, Nat.le_refl]
      refine ⟨k + 1, ⟨by omega, ?_, wrap64_succ (by omega)⟩, by omega⟩
      rw [hsucc]
      simpa using hA'
    · rw [List.take_of_length_le hge] at hA
      simp -dsimp only [h7, h0, h1', encI, encLL, Nat.not_lt.2 hge, ↓preB, postB, ↓reduceIte, upd_apply, Nat.reduceEqDiff, List.map_cons, List.map_nil, Option.map_some, Option.map_none, List.cons_append, List.nil_append, List.getD_cons_zero, List.getD_cons_succ, gt_iff_lt, ge_iff_le, decide_eq_true_eq, decide_eq_false_iff_not, intBin, strBin, unD, retQ_ret, retQ_normal, List.getElem?_drop, List.getElem?_map, Nat.add_zero, Nat.zero_add, Int.toNat_natCast, Int.ofNat_lt, List.length_map, List.length_drop, and_true, true_and, D.int.injEq, D.str.injEq, D.bool.injEq, true_implies, implies_true, Int.natCast_nonneg, Option.some.injEq, exists_eq_left, exists_eq_left', Bool.false_eq_true, Bool.true_eq_false, decide_true, decide_false, not_true_eq_false, not_false_eq_true, Bool.not_true, Bool.not_false, List.getElem?_cons_zero, List.getElem?_cons_succ, List.drop_zero, List.drop_succ_cons, Bool.not_eq_true, Heap.set_same, Heap.set_set, Heap.new_same, Heap.next_new, Heap.next_set, Heap.next_del, Heap.new_set, extractD, lit1, lit2, lit3, keptD, boxR, Int.reduceToNat, Int.reduceLE, Int.reduceLT,  D.one, D.pub1, List.take_succ_cons, D.cells, splice, List.take_zero, List.length_cons, List.length_nil, Nat.reduceAdd, Nat.reduceLeDiff, List.drop_nil, List.append_nil, Nat.le_refl]
      intros
      exact Ret.less hA.le hcl (.tup2 hA.told (.refl _)) (.tup2 (.no (bel_strs _)) (.bool _))

def restsD (B : Bl) : List D := B.map fun p => encSS p.1
theorem restsD_len (B : Bl) : (restsD B).length = B.length := by simp [restsD]
def leastD (B : Bl) : List D := B.map fun p => .int .i64 (p.2 : Int)
theorem leastD_len (B : Bl) : (leastD B).length = B.length := by simp [leastD]
/-- The reference's table of rests, in the heap. -/
def BH (l : List Wd) (q : Nat) (B : Bl) (s : Heap) : Prop :=
  ∃ d1 d2, s.get q = some (.cells 65 [encLL l, d1, d2]) ∧ q < s.next ∧ ((B = [] ∧ d1 = .sl .nil 0 [] ∧ d2 = .sl .nil 0 []) ∨
    B ≠ [] ∧ ∃ r1 r2, q < r1 ∧ q < r2 ∧ r1 ≠ r2 ∧ r1 < s.next ∧ r2 < s.next ∧ d1 = .sl (.tip r1 1) B.length (restsD B) ∧ d2 = .row r2 0 B.length none 1 ∧ s.get r1 = some (.tip 23 B.length) ∧ s.get r2 = some (.cells 3 (leastD B)))
theorem BH.d1 {l : List Wd} {q : Nat} {B : Bl} {s : Heap} (h : BH l q B s) : ∃ o1 d2, s.get q = some (.cells 65 [encLL l, .sl o1 B.length (restsD B), d2]) ∧ (B ≠ [] → ∃ r1 r2, q < r1 ∧ q < r2 ∧ r1 ≠ r2 ∧ r1 < s.next ∧ r2 < s.next ∧ o1 = .tip r1 1 ∧ d2 = .row r2 0 B.length none 1 ∧ s.get r1 = some (.tip 23 B.length) ∧ s.get r2 = some (.cells 3 (leastD B))) ∧ (B = [] → o1 = .nil ∧ d2 = .sl .nil 0 []) ∧ q < s.next := by
  obtain ⟨d1, d2, h1, h2, h3⟩ := h
  rcases h3 with ⟨rfl, rfl, rfl⟩ | ⟨h0, r1, r2, a, b, c, d, e, rfl, rfl, f, g⟩
  · exact ⟨_, _, h1, fun h => absurd rfl h, fun _ => ⟨rfl, rfl⟩, h2⟩
  · exact ⟨_, _, h1, fun _ => ⟨r1, r2, a, b, c, d, e, rfl, rfl, f, g⟩, fun h => absurd h h0, h2⟩

theorem put_c (l : List Wd) (q : Nat) (B : Bl) (r : Wd) (n : Nat) (hB : B.length ≤ 10000) (σ : Heap) (hb : BH l q B σ) :
    PCall Zs 37 [.ptr q 0, encSS r, .int .i64 n] σ (fun d τ => d = .bool (putB B r n).1 ∧ BH l q (putB B r n).2 τ ∧ σ.next ≤ τ.next ∧ ∀ i, i < q → τ.get i = σ.get i) := by
  obtain ⟨o1, d2, hq, hne, he, hlt⟩ := hb.d1
  refine pcall_of (Z := Zs) ok37 fun hcl hbl => ?_
  simp -dsimp only [L37, ↓preB, postB, ↓reduceIte, upd_apply, Nat.reduceEqDiff, List.map_cons, List.map_nil, Option.map_some, Option.map_none, List.cons_append, List.nil_append, List.getD_cons_zero, List.getD_cons_succ, gt_iff_lt, ge_iff_le, decide_eq_true_eq, decide_eq_false_iff_not, intBin, strBin, unD, retQ_ret, retQ_normal, List.getElem?_drop, List.getElem?_map, Nat.add_zero, Nat.zero_add, Int.toNat_natCast, Int.ofNat_lt, List.length_map, List.length_drop, and_true, true_and, D.int.injEq, D.str.injEq, D.bool.injEq, true_implies, implies_true, Int.natCast_nonneg, Option.some.injEq, exists_eq_left, exists_eq_left', Bool.false_eq_true, Bool.true_eq_false, decide_true, decide_false, not_true_eq_false, not_false_eq_true, Bool.not_true, Bool.not_false, List.getElem?_cons_zero, List.getElem?_cons_succ, List.drop_zero, List.drop_succ_cons, Bool.not_eq_true, Heap.set_same, Heap.set_set, Heap.new_same, Heap.next_new, Heap.next_set, Heap.next_del, Heap.new_set, extractD, lit1, lit2, lit3, keptD, boxR, Int.reduceToNat, Int.reduceLE, Int.reduceLT,  D.one, D.pub1, List.take_succ_cons, D.cells, splice, List.take_zero, List.length_cons, List.length_nil, Nat.reduceAdd, Nat.reduceLeDiff, List.drop_nil, List.append_nil, Nat.le_refl]
  refine pwp_loopG (fun k env s => k ≤ B.length ∧ ((putB B r n).1 = (putB (B.drop k) r n).1 ∧ (putB B r n).2 = B.take k ++ (putB (B.drop k) r n).2) ∧ s = σ ∧ env 7 = .int .i64 (k:Nat) ∧ env 0 = .ptr q 0 ∧ env 1 = encSS r ∧ env 2 = .int .i64 n) (fun k => B.length - k) 0 ?_ ?_
  · simp [upd_apply, envOf_apply]
  · rintro k env s ⟨hk, hp, rfl, h7, h0, h1, h2⟩
    rcases Nat.lt_or_ge k B.length with hltk | hge
    · obtain ⟨r1, r2, a1, a2, a3, a4, a5, rfl, rfl, hr1, hr2⟩ := hne (fun h => by subst h; exact absurd hltk (by simp))
      have hx : B[k]? = some B[k] := List.getElem?_eq_getElem hltk
      have hpB : 0 < B.length := by omega
      simp -dsimp only [h7, h0, h1, h2, hq, hr1, hr2, restsD, leastD, hltk, hx, hpB, ↓preB, postB, ↓reduceIte, upd_apply, Nat.reduceEqDiff, List.map_cons, List.map_nil, Option.map_some, Option.map_none, List.cons_append, List.nil_append, List.getD_cons_zero, List.getD_cons_succ, gt_iff_lt, ge_iff_le, decide_eq_true_eq, decide_eq_false_iff_not, intBin, strBin, unD, retQ_ret, retQ_normal, List.getElem?_drop, List.getElem?_map, Nat.add_zero, Nat.zero_add, Int.toNat_natCast, Int.ofNat_lt, List.length_map, List.length_drop, and_true, true_and, D.int.injEq, D.str.injEq, D.bool.injEq, true_implies, implies_true, Int.natCast_nonneg, Option.some.injEq, exists_eq_left, exists_eq_left', Bool.false_eq_true, Bool.true_eq_false, decide_true, decide_false, not_true_eq_false, not_false_eq_true, Bool.not_true, Bool.not_false, List.getElem?_cons_zero, List.getElem?_cons_succ, List.drop_zero, List.drop_succ_cons, Bool.not_eq_true, Heap.set_same, Heap.set_set, Heap.new_same, Heap.next_new, Heap.next_set, Heap.next_del, Heap.new_set, extractD, lit1, lit2, lit3, keptD, boxR, Int.reduceToNat, Int.reduceLE, Int.reduceLT,  D.one, D.pub1, List.take_succ_cons, D.cells, splice, List.take_zero, List.length_cons, List.length_nil, Nat.reduceAdd, Nat.reduceLeDiff, List.drop_nil, List.append_nil, Nat.le_refl]
      intro hbB
      refine Fn.use (Same_c _ _) ?_
      rw [List.drop_eq_getElem_cons hltk] at hp
      simp only [putB] at hp
      cases c1 : eqW B[k].1 r
      · simp only [c1, Bool.false_eq_true, if_false] at hp
        simp -dsimp only [h7, h0, h1, h2, c1, ↓preB, postB, ↓reduceIte, upd_apply, Nat.reduceEqDiff, List.map_cons, List.map_nil, Option.map_some, Option.map_none, List.cons_append, List.nil_append, List.getD_cons_zero, List.getD_cons_succ, gt_iff_lt, ge_iff_le, decide_eq_true_eq, decide_eq_false_iff_not, intBin, strBin, unD, retQ_ret, retQ_normal, List.getElem?_drop, List.getElem?_map, Nat.add_zero, Nat.zero_add, Int.toNat_natCast, Int.ofNat_lt, List.length_map, List.length_drop, and_true, true_and, D.int.injEq, D.str.injEq, D.bool.injEq, true_implies, implies_true, Int.natCast_nonneg, Option.some.injEq, exists_eq_left, exists_eq_left', Bool.false_eq_true, Bool.true_eq_false, decide_true, decide_false, not_true_eq_false, not_false_eq_true, Bool.not_true, Bool.not_false, List.getElem?_cons_zero, List.getElem?_cons_succ, List.drop_zero, List.drop_succ_cons, Bool.not_eq_true, Heap.set_same, Heap.set_set, Heap.new_same, Heap.next_new, Heap.next_set, Heap.next_del, Heap.new_set, extractD, lit1, lit2, lit3, keptD, boxR, Int.reduceToNat, Int.reduceLE, Int.reduceLT,  D.one, D.pub1, List.take_succ_cons, D.cells, splice, List.take_zero, List.length_cons, List.length_nil, Nat.reduceAdd, Nat.reduceLeDiff, List.drop_nil, List.append_nil, Nat.le_refl]
        refine ⟨k + 1, ⟨by omega, ⟨hp.1, ?_⟩, wrap64_succ (by omega)⟩, by omega⟩
        rw [hp.2, List.take_succ_eq_append_getElem hltk, List.append_assoc]
        rfl
      · simp only [c1, if_true] at hp
        by_cases c2 : B[k].2 ≤ n
        · have c2' : (B[k].2 : Int) ≤ (n : Int) := by omega
          simp only [c2, if_true] at hp
          have hpB : (putB B r n).2 = B := hp.2.trans (by rw [show ((B[k].1, B[k].2) : Wd × Nat) = B[k] from rfl, ← List.drop_eq_getElem_cons hltk, List.take_append_drop])
          simp -dsimp only [h7, h0, h1, h2, hq, hr1, hr2, restsD, leastD, hltk, hx, hpB, c1, c2', ↓preB, postB, ↓reduceIte, upd_apply, Nat.reduceEqDiff, List.map_cons, List.map_nil, Option.map_some, Option.map_none, List.cons_append, List.nil_append, List.getD_cons_zero, List.getD_cons_succ, gt_iff_lt, ge_iff_le, decide_eq_true_eq, decide_eq_false_iff_not, intBin, strBin, unD, retQ_ret, retQ_normal, List.getElem?_drop, List.getElem?_map, Nat.add_zero, Nat.zero_add, Int.toNat_natCast, Int.ofNat_lt, List.length_map, List.length_drop, and_true, true_and, D.int.injEq, D.str.injEq, D.bool.injEq, true_implies, implies_true, Int.natCast_nonneg, Option.some.injEq, exists_eq_left, exists_eq_left', Bool.false_eq_true, Bool.true_eq_false, decide_true, decide_false, not_true_eq_false, not_false_eq_true, Bool.not_true, Bool.not_false, List.getElem?_cons_zero, List.getElem?_cons_succ, List.drop_zero, List.drop_succ_cons, Bool.not_eq_true, Heap.set_same, Heap.set_set, Heap.new_same, Heap.next_new, Heap.next_set, Heap.next_del, Heap.new_set, extractD, lit1, lit2, lit3, keptD, boxR, Int.reduceToNat, Int.reduceLE, Int.reduceLT,  D.one, D.pub1, List.take_succ_cons, D.cells, splice, List.take_zero, List.length_cons, List.length_nil, Nat.reduceAdd, Nat.reduceLeDiff, List.drop_nil, List.append_nil, Nat.le_refl]
          intros
          rw [hp.1]
          exact Ret.now (Nat.le_refl _) ⟨rfl, hb, Nat.le_refl _, fun _ _ => rfl⟩
        · have c2' : ¬ (B[k].2 : Int) ≤ (n : Int) := by omega
          simp only [c2, if_false] at hp
          have hpB : (putB B r n).2 = B.set k (B[k].1, n) := by rw [hp.2, List.set_eq_take_append_cons_drop, if_pos hltk]
          simp -dsimp only [h7, h0, h1, h2, hq, hr1, hr2, restsD, leastD, hltk, hx, hpB, c1, c2', ↓preB, postB, ↓reduceIte, upd_apply, Nat.reduceEqDiff, List.map_cons, List.map_nil, Option.map_some, Option.map_none, List.cons_append, List.nil_append, List.getD_cons_zero, List.getD_cons_succ, gt_iff_lt, ge_iff_le, decide_eq_true_eq, decide_eq_false_iff_not, intBin, strBin, unD, retQ_ret, retQ_normal, List.getElem?_drop, List.getElem?_map, Nat.add_zero, Nat.zero_add, Int.toNat_natCast, Int.ofNat_lt, List.length_map, List.length_drop, and_true, true_and, D.int.injEq, D.str.injEq, D.bool.injEq, true_implies, implies_true, Int.natCast_nonneg, Option.some.injEq, exists_eq_left, exists_eq_left', Bool.false_eq_true, Bool.true_eq_false, decide_true, decide_false, not_true_eq_false, not_false_eq_true, Bool.not_true, Bool.not_false, List.getElem?_cons_zero, List.getElem?_cons_succ, List.drop_zero, List.drop_succ_cons, Bool.not_eq_true, Heap.set_same, Heap.set_set, Heap.new_same, Heap.next_new, Heap.next_set, Heap.next_del, Heap.new_set, extractD, lit1, lit2, lit3, keptD, boxR, Int.reduceToNat, Int.reduceLE, Int.reduceLT,  D.one, D.pub1, List.take_succ_cons, D.cells, splice, List.take_zero, List.length_cons, List.length_nil, Nat.reduceAdd, Nat.reduceLeDiff, List.drop_nil, List.append_nil, Nat.le_refl]
          refine ⟨by omega, ?_⟩
          have hsp : List.take k (List.map (fun p : Wd × Nat => D.int IntKind.i64 (p.2 : Int)) B) ++ [D.int IntKind.i64 (n : Int)] ++ List.drop (k + 1) (List.map (fun p : Wd × Nat => D.int IntKind.i64 (p.2 : Int)) B) = leastD (B.set k (B[k].1, n)) := by
            rw [splice_one (by simpa using hltk), leastD, List.map_set]
          rw [hp.1, hsp]
          have e1 : restsD (B.set k (B[k].1, n)) = restsD B := by
            rw [restsD, List.map_set]
            apply List.ext_getElem
            · simp [restsD]
            · intro i h1 h2
              rw [List.getElem_set]
              split
              · rename_i h; subst h; simp [restsD]
              · rfl
          have n1 : q ≠ r2 := by omega
          refine Ret.now (by rw [Heap.next_set]; exact Nat.le_refl _) ⟨rfl, ⟨_, _, by rw [Heap.set_ne _ _ n1]; exact hq, hlt, .inr ⟨fun h => ?_, r1, r2, a1, a2, a3, a4, a5, ?_, ?_, ?_, Heap.set_same _ _ _⟩⟩, by rw [Heap.next_set]; exact Nat.le_refl _, fun i hi => Heap.set_ne _ _ (by omega)⟩
          · have := congrArg List.length h; rw [List.length_set, List.length_nil] at this; omega
          · rw [List.length_set, e1]
          · rw [List.length_set]
          · rw [Heap.set_ne _ _ a3, List.length_set]; exact hr1
    · rw [List.drop_of_length_le hge] at hp
      simp only [putB] at hp
      rw [hp.1, hp.2, List.take_of_length_le hge]
      by_cases hB0 : B = []
      · obtain ⟨rfl, rfl⟩ := he hB0
        subst hB0
        have e0 : (0 : Nat) ≤ k := by omega
        simp -dsimp only [h7, h0, h1, h2, hq, encSS, Nat.not_lt_zero, List.length_nil, restsD, ↓preB, postB, ↓reduceIte, upd_apply, Nat.reduceEqDiff, List.map_cons, List.map_nil, Option.map_some, Option.map_none, List.cons_append, List.nil_append, List.getD_cons_zero, List.getD_cons_succ, gt_iff_lt, ge_iff_le, decide_eq_true_eq, decide_eq_false_iff_not, intBin, strBin, unD, retQ_ret, retQ_normal, List.getElem?_drop, List.getElem?_map, Nat.add_zero, Nat.zero_add, Int.toNat_natCast, Int.ofNat_lt, List.length_map, List.length_drop, and_true, true_and, D.int.injEq, D.str.injEq, D.bool.injEq, true_implies, implies_true, Int.natCast_nonneg, Option.some.injEq, exists_eq_left, exists_eq_left', Bool.false_eq_true, Bool.true_eq_false, decide_true, decide_false, not_true_eq_false, not_false_eq_true, Bool.not_true, Bool.not_false, List.getElem?_cons_zero, List.getElem?_cons_succ, List.drop_zero, List.drop_succ_cons, Bool.not_eq_true, Heap.set_same, Heap.set_set, Heap.new_same, Heap.next_new, Heap.next_set, Heap.next_del, Heap.new_set, extractD, lit1, lit2, lit3, keptD, boxR, Int.reduceToNat, Int.reduceLE, Int.reduceLT,  D.one, D.pub1, List.take_succ_cons, D.cells, splice, List.take_zero, List.length_cons, List.length_nil, Nat.reduceAdd, Nat.reduceLeDiff, List.drop_nil, List.append_nil, Nat.le_refl]
        intros
        refine app_nil (m := 1) tz35 rfl tz23 rfl rfl (by decide) (fedBy_sl tz35 rfl rfl) (by decide) (by decide) (by decide) ?_
        generalize hs1 : s.new _ = s1
        have g1 : s1.get q = some (.cells 65 [encLL l, .sl .nil 0 [], .sl .nil 0 []]) := by rw [← hs1, Heap.new_get, if_neg (by omega)]; exact hq
        have t1 : s1.get s.next = some (.tip 23 1) := by rw [← hs1, Heap.new_get, if_pos rfl]; rfl
        have n1 : s1.next = s.next + 1 := by rw [← hs1]; rfl
        have k1 : ∀ i, i < q → s1.get i = s.get i := fun i hi => by rw [← hs1, Heap.new_get, if_neg (by omega)]
        simp -dsimp only [h7, h0, h1, h2, g1, encSS, ↓preB, postB, ↓reduceIte, upd_apply, Nat.reduceEqDiff, List.map_cons, List.map_nil, Option.map_some, Option.map_none, List.cons_append, List.nil_append, List.getD_cons_zero, List.getD_cons_succ, gt_iff_lt, ge_iff_le, decide_eq_true_eq, decide_eq_false_iff_not, intBin, strBin, unD, retQ_ret, retQ_normal, List.getElem?_drop, List.getElem?_map, Nat.add_zero, Nat.zero_add, Int.toNat_natCast, Int.ofNat_lt, List.length_map, List.length_drop, and_true, true_and, D.int.injEq, D.str.injEq, D.bool.injEq, true_implies, implies_true, Int.natCast_nonneg, Option.some.injEq, exists_eq_left, exists_eq_left', Bool.false_eq_true, Bool.true_eq_false, decide_true, decide_false, not_true_eq_false, not_false_eq_true, Bool.not_true, Bool.not_false, List.getElem?_cons_zero, List.getElem?_cons_succ, List.drop_zero, List.drop_succ_cons, Bool.not_eq_true, Heap.set_same, Heap.set_set, Heap.new_same, Heap.next_new, Heap.next_set, Heap.next_del, Heap.new_set, extractD, lit1, lit2, lit3, keptD, boxR, Int.reduceToNat, Int.reduceLE, Int.reduceLT,  D.one, D.pub1, List.take_succ_cons, D.cells, splice, List.take_zero, List.length_cons, List.length_nil, Nat.reduceAdd, Nat.reduceLeDiff, List.drop_nil, List.append_nil, Nat.le_refl]
        generalize hs2 : s1.set q _ = s2
        have g2 : s2.get q = some (.cells 65 [encLL l, .sl (.tip s.next 1) 1 [encSS r], .sl .nil 0 []]) := by rw [← hs2, Heap.set_same]; rfl
        have t2 : s2.get s.next = some (.tip 23 1) := by rw [← hs2, Heap.set_ne _ _ (by omega)]; exact t1
        have n2 : s2.next = s.next + 1 := by rw [← hs2]; exact n1
        have k2 : ∀ i, i < q → s2.get i = s.get i := fun i hi => by rw [← hs2, Heap.set_ne _ _ (by omega)]; exact k1 i hi
        rw [show s1.next = s2.next from by omega]
        refine app_row_nil (m := 1) tz42 rfl tz3 rfl rfl (by decide) (fedBy_sl tz42 rfl rfl) (by decide) (by decide) (by decide) ?_
        generalize hs3 : s2.new _ = s3
        have g3 : s3.get q = some (.cells 65 [encLL l, .sl (.tip s.next 1) 1 [encSS r], .sl .nil 0 []]) := by rw [← hs3, Heap.new_get, if_neg (by omega)]; exact g2
        have t3 : s3.get s.next = some (.tip 23 1) := by rw [← hs3, Heap.new_get, if_neg (by omega)]; exact t2
        have u3 : s3.get s2.next = some (.cells 3 [.int .i64 n]) := by rw [← hs3, Heap.new_get, if_pos rfl]
        have n3 : s3.next = s.next + 2 := by rw [← hs3, Heap.next_new, n2]
        have k3 : ∀ i, i < q → s3.get i = s.get i := fun i hi => by rw [← hs3, Heap.new_get, if_neg (by omega)]; exact k2 i hi
        simp -dsimp only [h7, h0, h1, h2, g3, encSS, ↓preB, postB, ↓reduceIte, upd_apply, Nat.reduceEqDiff, List.map_cons, List.map_nil, Option.map_some, Option.map_none, List.cons_append, List.nil_append, List.getD_cons_zero, List.getD_cons_succ, gt_iff_lt, ge_iff_le, decide_eq_true_eq, decide_eq_false_iff_not, intBin, strBin, unD, retQ_ret, retQ_normal, List.getElem?_drop, List.getElem?_map, Nat.add_zero, Nat.zero_add, Int.toNat_natCast, Int.ofNat_lt, List.length_map, List.length_drop, and_true, true_and, D.int.injEq, D.str.injEq, D.bool.injEq, true_implies, implies_true, Int.natCast_nonneg, Option.some.injEq, exists_eq_left, exists_eq_left', Bool.false_eq_true, Bool.true_eq_false, decide_true, decide_false, not_true_eq_false, not_false_eq_true, Bool.not_true, Bool.not_false, List.getElem?_cons_zero, List.getElem?_cons_succ, List.drop_zero, List.drop_succ_cons, Bool.not_eq_true, Heap.set_same, Heap.set_set, Heap.new_same, Heap.next_new, Heap.next_set, Heap.next_del, Heap.new_set, extractD, lit1, lit2, lit3, keptD, boxR, Int.reduceToNat, Int.reduceLE, Int.reduceLT,  D.one, D.pub1, List.take_succ_cons, D.cells, splice, List.take_zero, List.length_cons, List.length_nil, Nat.reduceAdd, Nat.reduceLeDiff, List.drop_nil, List.append_nil, Nat.le_refl]
        refine Ret.now (by rw [Heap.next_set]; omega) ⟨rfl, ⟨_, _, Heap.set_same _ _ _, by rw [Heap.next_set]; omega, .inr ⟨by simp, s.next, s2.next, hlt, by omega, by omega, by rw [Heap.next_set]; omega, by rw [Heap.next_set]; omega, rfl, rfl, by rw [Heap.set_ne _ _ (by omega)]; exact t3, by rw [Heap.set_ne _ _ (by omega)]; exact u3⟩⟩, by rw [Heap.next_set]; omega, fun i hi => by rw [Heap.set_ne _ _ (by omega)]; exact k3 i hi⟩
      · obtain ⟨r1, r2, a1, a2, a3, a4, a5, rfl, rfl, hr1, hr2⟩ := hne hB0
        simp -dsimp only [h7, h0, h1, h2, hq, hr1, hr2, encSS, Nat.not_lt.2 hge, ↓preB, postB, ↓reduceIte, upd_apply, Nat.reduceEqDiff, List.map_cons, List.map_nil, Option.map_some, Option.map_none, List.cons_append, List.nil_append, List.getD_cons_zero, List.getD_cons_succ, gt_iff_lt, ge_iff_le, decide_eq_true_eq, decide_eq_false_iff_not, intBin, strBin, unD, retQ_ret, retQ_normal, List.getElem?_drop, List.getElem?_map, Nat.add_zero, Nat.zero_add, Int.toNat_natCast, Int.ofNat_lt, List.length_map, List.length_drop, and_true, true_and, D.int.injEq, D.str.injEq, D.bool.injEq, true_implies, implies_true, Int.natCast_nonneg, Option.some.injEq, exists_eq_left, exists_eq_left', Bool.false_eq_true, Bool.true_eq_false, decide_true, decide_false, not_true_eq_false, not_false_eq_true, Bool.not_true, Bool.not_false, List.getElem?_cons_zero, List.getElem?_cons_succ, List.drop_zero, List.drop_succ_cons, Bool.not_eq_true, Heap.set_same, Heap.set_set, Heap.new_same, Heap.next_new, Heap.next_set, Heap.next_del, Heap.new_set, extractD, lit1, lit2, lit3, keptD, boxR, Int.reduceToNat, Int.reduceLE, Int.reduceLT,  D.one, D.pub1, List.take_succ_cons, D.cells, splice, List.take_zero, List.length_cons, List.length_nil, Nat.reduceAdd, Nat.reduceLeDiff, List.drop_nil, List.append_nil, Nat.le_refl]
        intros
        refine app_tip (m := 1) tz35 rfl tz23 rfl rfl (by decide) (fedBy_sl tz35 rfl rfl) (by decide) (by rw [restsD_len]; exact hr1) (by rw [restsD_len]; exact (Nat.mul_one _).symm) (by simp only []; omega) (by simp only [big]; omega) ?_
        generalize hs1 : (s.del r1).new _ = s1
        have nd : (s.del r1).next = s.next := rfl
        have g1 : s1.get q = some (.cells 65 [encLL l, .sl (.tip r1 1) B.length (restsD B), .row r2 0 B.length none 1]) := by rw [← hs1, Heap.new_get, if_neg (by omega), Heap.del_get, if_neg (by omega)]; exact hq
        have t1 : s1.get s.next = some (.tip 23 (B.length + 1)) := by rw [← hs1, Heap.new_get, nd, if_pos rfl, restsD_len]; rfl
        have u1 : s1.get r2 = some (.cells 3 (leastD B)) := by rw [← hs1, Heap.new_get, if_neg (by omega), Heap.del_get, if_neg (by omega)]; exact hr2
        have n1 : s1.next = s.next + 1 := by rw [← hs1]; rfl
        have k1 : ∀ i, i < q → s1.get i = s.get i := fun i hi => by rw [← hs1, Heap.new_get, if_neg (by omega), Heap.del_get, if_neg (by omega)]
        simp -dsimp only [h7, h0, h1, h2, g1, encSS, ↓preB, postB, ↓reduceIte, upd_apply, Nat.reduceEqDiff, List.map_cons, List.map_nil, Option.map_some, Option.map_none, List.cons_append, List.nil_append, List.getD_cons_zero, List.getD_cons_succ, gt_iff_lt, ge_iff_le, decide_eq_true_eq, decide_eq_false_iff_not, intBin, strBin, unD, retQ_ret, retQ_normal, List.getElem?_drop, List.getElem?_map, Nat.add_zero, Nat.zero_add, Int.toNat_natCast, Int.ofNat_lt, List.length_map, List.length_drop, and_true, true_and, D.int.injEq, D.str.injEq, D.bool.injEq, true_implies, implies_true, Int.natCast_nonneg, Option.some.injEq, exists_eq_left, exists_eq_left', Bool.false_eq_true, Bool.true_eq_false, decide_true, decide_false, not_true_eq_false, not_false_eq_true, Bool.not_true, Bool.not_false, List.getElem?_cons_zero, List.getElem?_cons_succ, List.drop_zero, List.drop_succ_cons, Bool.not_eq_true, Heap.set_same, Heap.set_set, Heap.new_same, Heap.next_new, Heap.next_set, Heap.next_del, Heap.new_set, extractD, lit1, lit2, lit3, keptD, boxR, Int.reduceToNat, Int.reduceLE, Int.reduceLT,  D.one, D.pub1, List.take_succ_cons, D.cells, splice, List.take_zero, List.length_cons, List.length_nil, Nat.reduceAdd, Nat.reduceLeDiff, List.drop_nil, List.append_nil, Nat.le_refl]
        generalize hs2 : s1.set q _ = s2
        have g2 : s2.get q = some (.cells 65 [encLL l, .sl (.tip s.next 1) (B.length + 1) (restsD B ++ [encSS r]), .row r2 0 B.length none 1]) := by rw [← hs2, Heap.set_same]; rfl
        have t2 : s2.get s.next = some (.tip 23 (B.length + 1)) := by rw [← hs2, Heap.set_ne _ _ (by omega)]; exact t1
        have u2 : s2.get r2 = some (.cells 3 (leastD B)) := by rw [← hs2, Heap.set_ne _ _ (by omega)]; exact u1
        have n2 : s2.next = s.next + 1 := by rw [← hs2]; exact n1
        have k2 : ∀ i, i < q → s2.get i = s.get i := fun i hi => by rw [← hs2, Heap.set_ne _ _ (by omega)]; exact k1 i hi
        rw [show s1.next = s2.next from by omega]
        refine app_row (m := 1) tz42 rfl tz3 rfl rfl (by decide) (fedBy_sl tz42 rfl rfl) (by decide) u2 (by rw [leastD_len]; exact Nat.le_of_eq (Nat.mul_one _)) (by simp only []; omega) (by simp only [big]; omega) (fun hc => by rw [leastD_len] at hc; simp only [] at hc; omega) (fun _ => ?_)
        generalize hs3 : (s2.del r2).new _ = s3
        have nd2 : (s2.del r2).next = s2.next := rfl
        have g3 : s3.get q = some (.cells 65 [encLL l, .sl (.tip s.next 1) (B.length + 1) (restsD B ++ [encSS r]), .row r2 0 B.length none 1]) := by rw [← hs3, Heap.new_get, if_neg (by omega), Heap.del_get, if_neg (by omega)]; exact g2
        have t3 : s3.get s.next = some (.tip 23 (B.length + 1)) := by rw [← hs3, Heap.new_get, if_neg (by omega), Heap.del_get, if_neg (by omega)]; exact t2
        have u3 : s3.get s2.next = some (.cells 3 (leastD B ++ [.int .i64 n])) := by
          rw [← hs3, Heap.new_get, nd2, if_pos rfl, List.take_of_length_le (by rw [leastD_len]; exact Nat.le_of_eq (Nat.mul_one _).symm)]
        have n3 : s3.next = s.next + 2 := by rw [← hs3, Heap.next_new, nd2, n2]
        have k3 : ∀ i, i < q → s3.get i = s.get i := fun i hi => by rw [← hs3, Heap.new_get, if_neg (by omega), Heap.del_get, if_neg (by omega)]; exact k2 i hi
        simp -dsimp only [h7, h0, h1, h2, g3, encSS, ↓preB, postB, ↓reduceIte, upd_apply, Nat.reduceEqDiff, List.map_cons, List.map_nil, Option.map_some, Option.map_none, List.cons_append, List.nil_append, List.getD_cons_zero, List.getD_cons_succ, gt_iff_lt, ge_iff_le, decide_eq_true_eq, decide_eq_false_iff_not, intBin, strBin, unD, retQ_ret, retQ_normal, List.getElem?_drop, List.getElem?_map, Nat.add_zero, Nat.zero_add, Int.toNat_natCast, Int.ofNat_lt, List.length_map, List.length_drop, and_true, true_and, D.int.injEq, D.str.injEq, D.bool.injEq, true_implies, implies_true, Int.natCast_nonneg, Option.some.injEq, exists_eq_left, exists_eq_left', Bool.false_eq_true, Bool.true_eq_false, decide_true, decide_false, not_true_eq_false, not_false_eq_true, Bool.not_true, Bool.not_false, List.getElem?_cons_zero, List.getElem?_cons_succ, List.drop_zero, List.drop_succ_cons, Bool.not_eq_true, Heap.set_same, Heap.set_set, Heap.new_same, Heap.next_new, Heap.next_set, Heap.next_del, Heap.new_set, extractD, lit1, lit2, lit3, keptD, boxR, Int.reduceToNat, Int.reduceLE, Int.reduceLT,  D.one, D.pub1, List.take_succ_cons, D.cells, splice, List.take_zero, List.length_cons, List.length_nil, Nat.reduceAdd, Nat.reduceLeDiff, List.drop_nil, List.append_nil, Nat.le_refl]
        have e1 : restsD (B ++ [(r, n)]) = restsD B ++ [encSS r] := by simp [restsD]
        have e2 : leastD (B ++ [(r, n)]) = leastD B ++ [.int .i64 n] := by simp [leastD]
        refine Ret.now (by rw [Heap.next_set]; omega) ⟨rfl, ⟨_, _, Heap.set_same _ _ _, by rw [Heap.next_set]; omega, .inr ⟨by simp, s.next, s2.next, hlt, by omega, by omega, by rw [Heap.next_set]; omega, by rw [Heap.next_set]; omega, ?_, ?_, by rw [Heap.set_ne _ _ (by omega), List.length_append]; exact t3, by rw [Heap.set_ne _ _ (by omega), e2]; exact u3⟩⟩, by rw [Heap.next_set]; omega, fun i hi => by rw [Heap.set_ne _ _ (by omega)]; exact k3 i hi⟩
        · rw [e1, List.length_append]; rfl
        · rw [List.length_append]; rfl
end Go.Proofs.Ytldlcejlfaogbaa.Vs
