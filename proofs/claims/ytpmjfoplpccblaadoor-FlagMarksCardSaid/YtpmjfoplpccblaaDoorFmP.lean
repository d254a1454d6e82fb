/- numbers of YtpmjfoplpccblaaDoor -/
import Derived.Test.YtpmjfoplpccblaaDoorFmC
namespace Go.Proofs.YtpmjfoplpccblaaDoor.Vs
set_option linter.unusedVariables false
set_option linter.unusedSimpArgs false
set_option maxRecDepth 100000
def dstsBut (k : Nat) : Nat → List LOp → Bool
  | _, [] => true
  | i, o :: l => (i == k || (hfKind o.op || o.dst.isSome)) && dstsBut k (i + 1) l
theorem actOps_ok2 {Z : Sys} {σ σ1 : Heap} {k : Nat} : ∀ (l : List LOp) (i : Nat) {K : Env → Prop} {env : Env}, dstsBut k i l = true → actOps Z σ σ1 k i l K env → aActs Z σ σ1 k i l K env
  | [], _, _, _, _, h => h
  | o :: l, i, K, env, hd, h => by
    simp only [dstsBut, Bool.and_eq_true] at hd
    simp only [actOps] at h
    simp only [aActs, aBoth]
    split at h
    · rename_i hik
      subst hik
      obtain ⟨hg, d, e, h1, h2, h3⟩ := h
      refine ⟨d, ?_, actOps_ok2 l _ hd.2 h3⟩
      rw [beq_self_eq_true, if_pos rfl]
      unfold aOne
      rw [hg]
      simp only
      have hx : exec Z o.op 0 env σ.get σ.next = some (d, e) := by unfold exec; rw [if_neg (by decide)]; exact h1
      have hfin : (match exec Z o.op 0 env σ.get σ.next with | some (d', e') => lenOK o.op env → d' = d ∧ σ.app e' = σ1 | none => False) := by rw [hx]; exact fun _ => ⟨rfl, h2⟩
      generalize o.op = op at h1 hx hfin
      cases op <;> first
        | exact hfin
        | (rename_i c; obtain ⟨callee, args, ats⟩ := c; cases callee <;> first | exact hfin | (simp [exec0] at h1; done))
    · rename_i hik
      have hne : (i == k) = false := by simpa using hik
      simp only [hne, Bool.false_eq_true, if_false]
      split at h
      · rename_i hf
        obtain ⟨d, h1, h2⟩ := one_of_still (sOp_ok h)
        exact ⟨d, ⟨h1, one_hf hf h1⟩, actOps_ok2 l _ hd.2 h2⟩
      · rename_i hf
        obtain ⟨d, h1, h2⟩ := one_of_still (sOp_ok h)
        obtain ⟨d', h3, h4, h5⟩ := one_of_still (sOp_ok h2)
        rcases updO_inj h4 with h0 | rfl
        · have := hd.1; rw [h0] at this; simp [hf, hne] at this
        · exact ⟨d', ⟨h1, h3⟩, actOps_ok2 l _ hd.2 h5⟩
theorem draw_a2 {Z : Sys} {l : List LOp} {s : Bool} {ts pl : List Nat} {Q : Ex → Env → Heap → Prop} {env : Env} {σ : Heap} {h : Keep (l, s, ts, pl, Q, env, σ)} (n k : Nat) (σ1 : Heap) (hn : n ∈ ts) (hk : k < n) (hd : dstsBut k 0 (l.take n) = true) (hs : actOps Z σ σ1 k 0 (l.take n) (fun e => aOps Z (l.drop n) (Q .normal) e σ1) env) : kDraw Z l s ts pl Q env σ h :=
  .inr (.inr (.inr ⟨n, k, σ1, hn, hk, actOps_ok2 _ _ hd hs⟩))
theorem actOp_store {Z : Sys} {σ σ1 : Heap} {K : Env → Prop} {env : Env} {ann : Nat} {t : TypeId} {x y : Operand} (h : ∃ e, storeE Z σ.get t (ev env x) (ev env y) = some e ∧ σ.app e = σ1 ∧ K env) : actOp Z σ σ1 ⟨none, .store t x y, none, ann⟩ K env := by
  obtain ⟨e, h1, h2, h3⟩ := h
  refine ⟨rfl, .junk, e, ?_, h2, h3⟩
  show (storeE Z σ.get t (ev env x) (ev env y)).map (fun e => (D.junk, e)) = _
  rw [h1]; rfl
theorem ab46_1 (v : ByteArray) : aBuilt Zs 46 [(0, .str v)] = some [.str v, .bool false] := by rfl
theorem pack46 (a : ByteArray) (b : Bool) : ∀ i, Zs.T 46 = some i → pack i ([D.str a, .bool b].drop 0) = some (.agg [.str a, .bool b]) := fun i hi => by
  rw [tz46] at hi; cases hi
  rfl
theorem eq46 (a v : ByteArray) (h : (a == v) = false) : binD Zs .eql 46 (.agg [.str a, .bool false]) (.agg [.str v, .bool false]) = some (.bool false) := by
  have h1 : eqT Zs 46 (.agg [.str a, .bool false]) (.agg [.str v, .bool false]) = some false := by
    simp [eqT, tz46, tz9, tz4, eqFs, fieldEq, eqS, TInfo.isAgg, h]
  simp [binD, isNum, h1, tz46]
theorem passR_c (f v a : ByteArray) (hv : (v == (⟨#[]⟩ : ByteArray)) = false) (hav : (a == v) = false) : Fn Zs 19 [.agg [.int .u8 82, .str f, .str v], .agg [.str a, .bool false]] (.tup [.agg [.str a, .bool false], .bool false]) := by
  refine fn_of (Z := Zs) ok19 fun σ hcl hbl => ?_
  simp -dsimp only [L19, ↓preB, postB, genB, ↓reduceIte, Nat.reduceEqDiff, Int.reduceToNat, Int.reduceLE, Int.reduceLT, Nat.reduceAdd, Nat.reduceLeDiff, intBin, strBin, unD, extractD, lit1, lit2, lit3, keptD, boxR, D.one, D.pub1, D.cells, splice, cutOwn]
  have hh := hasValue_c 82 f v
  unfold mkD at hh
  generalize hH : ((σ.new (.cells 35 [.int .u8 82, .str f, .str v])).new (.cells 46 [.str a, .bool false])).new (.cells 46 [.str ⟨#[]⟩, .bool false]) = H
  have g0 : H.get σ.next = some (.cells 35 [.int .u8 82, .str f, .str v]) := by
    rw [← hH, Heap.new_ne (h := by simp only [Heap.next_new]; omega), Heap.new_ne (h := by simp only [Heap.next_new]; omega)]
    exact Heap.new_same _ _
  have g1 : H.get (σ.next + 1) = some (.cells 46 [.str a, .bool false]) := by
    rw [← hH, Heap.new_ne (h := by simp only [Heap.next_new]; omega)]
    exact Heap.new_same (σ := σ.new _) _
  have g2 : H.get (σ.next + 1 + 1) = some (.cells 46 [.str ⟨#[]⟩, .bool false]) := by
    rw [← hH]
    exact Heap.new_same (σ := (σ.new _).new _) _
  have hle : HLe σ H := by
    rw [← hH]
    exact ((HLe.self_new _ hcl).new' _ hcl).new' _ hcl
  have s1 : ∀ o, (H.set (σ.next + 1 + 1) o).get (σ.next + 1) = some (.cells 46 [.str a, .bool false]) := fun o => by
    rw [Heap.set_ne (h := by omega)]; exact g1
  have s0 : ∀ o, (H.set (σ.next + 1 + 1) o).get σ.next = some (.cells 35 [.int .u8 82, .str f, .str v]) := fun o => by
    rw [Heap.set_ne (h := by omega)]; exact g0
  clear hH
  simp -dsimp only [g0, g1, g2, show ((82 : Int) == 80) = false from rfl, show ((82 : Int) == 78) = false from rfl, show ((82 : Int) == 67) = false from rfl, show ((82 : Int) == 82) = true from rfl, List.length_cons, List.length_nil, List.take_succ_cons, List.take_zero, List.drop_succ_cons, List.drop_zero, List.getElem?_cons_zero, List.getElem?_cons_succ, ↓preB, postB, genB, ↓reduceIte, Nat.reduceEqDiff, Int.reduceToNat, Int.reduceLE, Int.reduceLT, Nat.reduceAdd, Nat.reduceLeDiff, intBin, strBin, unD, extractD, lit1, lit2, lit3, keptD, boxR, D.one, D.pub1, D.cells, splice, cutOwn]
  refine Fn.use hh ?_
  simp -dsimp only [g0, g1, g2, hv, Bool.not_false, Bool.not_true, ↓preB, postB, genB, ↓reduceIte, Nat.reduceEqDiff, Int.reduceToNat, Int.reduceLE, Int.reduceLT, Nat.reduceAdd, Nat.reduceLeDiff, intBin, strBin, unD, extractD, lit1, lit2, lit3, keptD, boxR, D.one, D.pub1, D.cells, splice, cutOwn]
  refine draw_a2 7 6 (H.set (σ.next + 1 + 1) (.cells 46 [.str a, .bool false])) (by decide) (by decide) (by decide) ?_
  simp -dsimp only [g0, g1, g2, s0, s1, ab46_1, eq46 a v hav, List.length_cons, List.length_nil, List.take_succ_cons, List.take_zero, List.drop_succ_cons, List.drop_zero, List.getElem?_cons_zero, List.getElem?_cons_succ, List.cons_append, List.nil_append, actOps_nil, actOps_act, actOps_hf, actOps_two, actOp_alloc, actOp_mapEntry, actOp_makeMap, actOp_box, kAct_some, hfB, ne_eq, eq_self, ↓preB, postB, genB, ↓reduceIte, Nat.reduceEqDiff, Int.reduceToNat, Int.reduceLE, Int.reduceLT, Nat.reduceAdd, Nat.reduceLeDiff, intBin, strBin, unD, extractD, lit1, lit2, lit3, keptD, boxR, D.one, D.pub1, D.cells, splice, cutOwn]
  refine actOp_store ⟨.put (σ.next + 1 + 1) (.cells 46 [.str a, .bool false]), ?_, rfl, ?_⟩
  · simp -dsimp only [g2, List.length_cons, List.length_nil, List.take_succ_cons, List.take_zero, List.drop_succ_cons, List.drop_zero, List.drop_nil, List.cons_append, List.nil_append, ↓preB, postB, genB, ↓reduceIte, Nat.reduceEqDiff, Int.reduceToNat, Int.reduceLE, Int.reduceLT, Nat.reduceAdd, Nat.reduceLeDiff, intBin, strBin, unD, extractD, lit1, lit2, lit3, keptD, boxR, D.one, D.pub1, D.cells, splice, cutOwn]
    first | done | rfl
  · simp -dsimp only [actOps_nil, actOps_act, actOps_hf, actOps_two, actOp_alloc, actOp_mapEntry, actOp_makeMap, actOp_box, kAct_some, hfB, ne_eq, eq_self, ↓preB, postB, genB, ↓reduceIte, Nat.reduceEqDiff, Int.reduceToNat, Int.reduceLE, Int.reduceLT, Nat.reduceAdd, Nat.reduceLeDiff, intBin, strBin, unD, extractD, lit1, lit2, lit3, keptD, boxR, D.one, D.pub1, D.cells, splice, cutOwn]
    refine ⟨_, ares_ct (r := σ.next + 1 + 1) tz46 (by simp [upd_apply]) (Heap.set_same _ _ _) (pack46 _ _ _ tz46), ?_⟩
    refine Ret.isH (hle.set_out _ hcl (by omega)) hcl (by simp [upd_apply]) (.tup2 (.agg _ fun d hd => ?_) (.bool _))
    simp only [List.mem_cons, List.not_mem_nil, or_false] at hd
    rcases hd with rfl | rfl <;> constructor
end Go.Proofs.YtpmjfoplpccblaaDoor.Vs
