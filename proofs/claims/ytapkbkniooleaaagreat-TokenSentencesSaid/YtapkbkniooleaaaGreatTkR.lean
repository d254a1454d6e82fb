/- numbers of Ytapkbkniooleaaa -/
import Derived.Test.YtapkbkniooleaaaGreatTkQ
import Derived.Test.YtapkbkniooleaaaGreatTkP
import Derived.Test.YtapkbkniooleaaaGreatTkO
namespace Go.Proofs.YtapkbkniooleaaaGreat.Vs
set_option linter.unusedVariables false
set_option linter.unusedSimpArgs false
set_option maxRecDepth 100000
def tb (l : List UInt8) : ByteArray := ⟨l.toArray⟩
theorem tb_of (s : ByteArray) : s = tb s.data.toList := by cases s; simp [tb]
theorem tb_size (l : List UInt8) : (tb l).size = l.length := by simp [tb, ByteArray.size]
theorem tb_ext (l : List UInt8) (a b : Nat) : (tb l).extract a b = tb ((l.take b).drop a) := by
  rw [tb_of ((tb l).extract a b)]
  congr 1
  simp [tb, ByteArray.data_extract, List.extract_eq_take_drop, List.drop_take]
theorem tb_beq (a b : List UInt8) : (tb a == tb b) = decide (a = b) := by
  rw [ba_decT]
  refine decide_eq_decide.2 ⟨fun h => ?_, fun h => by rw [h]⟩
  simpa [tb] using h
theorem tb_at0 (c : UInt8) (l : List UInt8) : byteAt (tb (c :: l)) 0 = (c.toNat : Int) := by simp [byteAt, tb]
theorem tb_app (a b : List UInt8) : tb a ++ tb b = tb (a ++ b) := ba_extK (by simp [tb])
theorem lowB_tb (l : List UInt8) : lowB (tb l) = tb (l.map fun b => if 65 ≤ b ∧ b ≤ 90 then b + 32 else b) := ba_extK (by simp [lowB, tb])
theorem begEq (c b : UInt8) (r q : List UInt8) : (tb (c :: r) == tb (b :: q) || (isSmallI (byteAt (tb (b :: q)) 0) && (isBigI (byteAt (tb (c :: r)) 0) && (lowB ((tb (c :: r)).extract 0 1) ++ (tb (c :: r)).extract 1 (tb (c :: r)).size == tb (b :: q))))) = ((tb r == tb q) && (((c.toNat : Int) == (b.toNat : Int)) || (isSmallI (b.toNat : Int) && ((c.toNat : Int) == (b.toNat : Int) - 32)))) := by
  have h8 := UInt8.toNat_lt c
  have h8b := UInt8.toNat_lt b
  rw [tb_at0, tb_at0, tb_ext, tb_ext, tb_size, List.take_length, lowB_tb, tb_app, tb_beq, tb_beq, tb_beq]
  simp only [List.take_succ_cons, List.take_zero, List.drop_zero, List.map_cons, List.map_nil, List.drop_succ_cons, List.cons_append, List.nil_append, List.cons.injEq]
  by_cases hr : r = q
  · subst hr
    have e1 : (c = b) ↔ (c.toNat : Int) = b.toNat := ⟨fun h => by rw [h], fun h => UInt8.toNat_inj.1 (by omega)⟩
    rw [Bool.eq_iff_iff]
    simp only [Bool.or_eq_true, Bool.and_eq_true, decide_eq_true_eq, and_true, isSmallI, isBigI, beq_iff_eq, e1]
    constructor
    · rintro (h | ⟨h1, h2, h3⟩)
      · exact ⟨trivial, .inl h⟩
      · refine ⟨trivial, .inr ⟨h1, ?_⟩⟩
        have hb : (65 ≤ c ∧ c ≤ 90) := ⟨UInt8.le_iff_toNat_le.2 (by simp; omega), UInt8.le_iff_toNat_le.2 (by simp; omega)⟩
        rw [if_pos hb] at h3
        have := congrArg UInt8.toNat h3
        rw [UInt8.toNat_add] at this
        simp at this
        omega
    · rintro ⟨_, h | ⟨h1, h2⟩⟩
      · exact .inl h
      · refine .inr ⟨h1, by omega, ?_⟩
        have hb : (65 ≤ c ∧ c ≤ 90) := ⟨UInt8.le_iff_toNat_le.2 (by simp; omega), UInt8.le_iff_toNat_le.2 (by simp; omega)⟩
        rw [if_pos hb]
        refine UInt8.toNat_inj.1 ?_
        rw [UInt8.toNat_add]
        simp
        omega
  · simp [hr]
theorem begR_eq (s x : ByteArray) (a : Nat) (hx : 1 ≤ x.size) (h : a + x.size ≤ s.size) : (s.extract a (a + x.size) == x || (isSmallI (byteAt x 0) && (isBigI (byteAt (s.extract a (a + x.size)) 0) && (lowB ((s.extract a (a + x.size)).extract 0 1) ++ (s.extract a (a + x.size)).extract 1 (s.extract a (a + x.size)).size == x)))) = matchU (sfx s a) x := by
  rw [tb_of s, tb_of x] at *
  generalize s.data.toList = l at *
  generalize x.data.toList = y at *
  rw [tb_size] at hx
  rw [tb_size, tb_size] at h
  unfold matchU sfx
  rw [decide_eq_true (by rw [ByteArray.size_extract, tb_size, tb_size]; omega), Bool.true_and]
  obtain ⟨b, q, rfl⟩ : ∃ b q, y = b :: q := by
    cases y with
    | nil => simp at hx
    | cons b q => exact ⟨b, q, rfl⟩
  rw [tb_size, tb_size]
  obtain ⟨c, r, hl⟩ : ∃ c r, l.drop a = c :: r := by
    cases hd : l.drop a with
    | nil => have := congrArg List.length hd; simp at this; simp at h; omega
    | cons c r => exact ⟨c, r, rfl⟩
  have e1 : (l.take (a + (b :: q).length)).drop a = c :: r.take q.length := by rw [List.drop_take, hl, Nat.add_sub_cancel_left, List.length_cons, List.take_succ_cons]
  have e2 : (l.take l.length).drop a = c :: r := by rw [List.take_length, hl]
  have eX : (tb l).extract a (a + (b :: q).length) = tb (c :: r.take q.length) := by rw [tb_ext, e1]
  have eT : (tb l).extract a l.length = tb (c :: r) := by rw [tb_ext, e2]
  rw [eX, begEq, eT, tb_ext, tb_ext, tb_at0, tb_at0]
  simp only [List.length_cons, List.take_succ_cons, List.drop_succ_cons, List.drop_zero, List.take_length]
theorem beginsR_c (s x : ByteArray) (a : Nat) (ha : a ≤ s.size) (hx : 1 ≤ x.size) (hs : s.size ≤ 1000000) : Fn Zs 65 [.str s, .int .i64 a, .str x] (.bool (matchU (sfx s a) x)) := by
  refine fn_of (Z := Zs) ok65 fun σ hcl hbl => ?_
  simp -dsimp only [L65, ↓preB, postB, genB, ↓reduceIte, Nat.reduceEqDiff, Int.reduceToNat, Int.reduceLE, Int.reduceLT, Nat.reduceAdd, Nat.reduceLeDiff, intBin, strBin, unD, extractD, lit1, lit2, lit3, keptD, boxR, D.one, D.pub1, D.cells, splice, cutOwn]
  have w0 : IntKind.i64.wrap ((s.size : Int) - (a : Int)) = ((s.size - a : Nat) : Int) := by rw [wrap64_in (by omega) (by omega)]; omega
  by_cases c0 : ((s.size - a : Nat) : Int) < x.size
  · have : matchU (sfx s a) x = false := by unfold matchU; rw [sfx_size, decide_eq_false (by omega), Bool.false_and, Bool.false_and]
    rw [this]
    simp -dsimp only [w0, c0, gate, decide_true, decide_false, Bool.not_true, Bool.not_false, bTT, bTF, bFT, bFF, ↓preB, postB, genB, ↓reduceIte, Nat.reduceEqDiff, Int.reduceToNat, Int.reduceLE, Int.reduceLT, Nat.reduceAdd, Nat.reduceLeDiff, intBin, strBin, unD, extractD, lit1, lit2, lit3, keptD, boxR, D.one, D.pub1, D.cells, splice, cutOwn]
    exact fun _ _ => Ret.is rfl
  have w1 : IntKind.i64.wrap ((a : Int) + (x.size : Int)) = ((a + x.size : Nat) : Int) := by rw [wrap64_in (by omega) (by omega)]; omega
  have c1 : (a : Int) ≤ ((a + x.size : Nat) : Int) ∧ ((a + x.size : Nat) : Int) ≤ s.size := ⟨by omega, by omega⟩
  have hX : (s.extract a (a + x.size)).size = x.size := by rw [ByteArray.size_extract]; omega
  rw [← begR_eq s x a hx (by omega)]
  simp -dsimp only [w0, w1, c0, c1, gate, decide_true, decide_false, Bool.not_true, Bool.not_false, bTT, bTF, bFT, bFF, ↓preB, postB, genB, ↓reduceIte, Nat.reduceEqDiff, Int.reduceToNat, Int.reduceLE, Int.reduceLT, Nat.reduceAdd, Nat.reduceLeDiff, intBin, strBin, unD, extractD, lit1, lit2, lit3, keptD, boxR, D.one, D.pub1, D.cells, splice, cutOwn]
  intro hb1 hb2 hb3
  obtain ⟨X, hXe⟩ : ∃ X, s.extract a (a + x.size) = X := ⟨_, rfl⟩
  rw [hXe] at hX ⊢
  have x0 : (0 : Int) < x.size := by omega
  have x0' : 0 < x.size := by omega
  have X0 : (0 : Int) < X.size := by omega
  have X0' : 0 < X.size := by omega
  have X1 : (1 : Int) ≤ X.size := by omega
  refine draw_s ?_
  cases q1 : (X == x)
  · have hS := isSmallR_c (byteAt x 0)
    cases q2 : isSmallI (byteAt x 0)
    · rw [q2] at hS
      simp -dsimp only [w1, hXe, q1, x0, x0', gate, decide_true, decide_false, Bool.not_true, Bool.not_false, bTT, bTF, bFT, bFF, ↓preB, postB, genB, ↓reduceIte, Nat.reduceEqDiff, Int.reduceToNat, Int.reduceLE, Int.reduceLT, Nat.reduceAdd, Nat.reduceLeDiff, intBin, strBin, unD, extractD, lit1, lit2, lit3, keptD, boxR, D.one, D.pub1, D.cells, splice, cutOwn]
      refine Fn.useS hS ?_
      simp -dsimp only [w1, hXe, q1, x0, x0', gate, decide_true, decide_false, Bool.not_true, Bool.not_false, bTT, bTF, bFT, bFF, ↓preB, postB, genB, ↓reduceIte, Nat.reduceEqDiff, Int.reduceToNat, Int.reduceLE, Int.reduceLT, Nat.reduceAdd, Nat.reduceLeDiff, intBin, strBin, unD, extractD, lit1, lit2, lit3, keptD, boxR, D.one, D.pub1, D.cells, splice, cutOwn]
      exact Ret.is rfl
    · rw [q2] at hS
      simp -dsimp only [w1, hXe, q1, x0, x0', gate, decide_true, decide_false, Bool.not_true, Bool.not_false, bTT, bTF, bFT, bFF, ↓preB, postB, genB, ↓reduceIte, Nat.reduceEqDiff, Int.reduceToNat, Int.reduceLE, Int.reduceLT, Nat.reduceAdd, Nat.reduceLeDiff, intBin, strBin, unD, extractD, lit1, lit2, lit3, keptD, boxR, D.one, D.pub1, D.cells, splice, cutOwn]
      refine Fn.useS hS ?_
      have hC := isCapR_c (byteAt X 0)
      cases q3 : isBigI (byteAt X 0)
      · rw [q3] at hC
        simp -dsimp only [w1, hXe, q1, x0, x0', X0, X0', gate, decide_true, decide_false, Bool.not_true, Bool.not_false, bTT, bTF, bFT, bFF, ↓preB, postB, genB, ↓reduceIte, Nat.reduceEqDiff, Int.reduceToNat, Int.reduceLE, Int.reduceLT, Nat.reduceAdd, Nat.reduceLeDiff, intBin, strBin, unD, extractD, lit1, lit2, lit3, keptD, boxR, D.one, D.pub1, D.cells, splice, cutOwn]
        refine Fn.useS hC ?_
        simp -dsimp only [w1, hXe, q1, x0, x0', X0, X0', gate, decide_true, decide_false, Bool.not_true, Bool.not_false, bTT, bTF, bFT, bFF, ↓preB, postB, genB, ↓reduceIte, Nat.reduceEqDiff, Int.reduceToNat, Int.reduceLE, Int.reduceLT, Nat.reduceAdd, Nat.reduceLeDiff, intBin, strBin, unD, extractD, lit1, lit2, lit3, keptD, boxR, D.one, D.pub1, D.cells, splice, cutOwn]
        exact Ret.is rfl
      · rw [q3] at hC
        simp -dsimp only [w1, hXe, q1, x0, x0', X0, X0', gate, decide_true, decide_false, Bool.not_true, Bool.not_false, bTT, bTF, bFT, bFF, ↓preB, postB, genB, ↓reduceIte, Nat.reduceEqDiff, Int.reduceToNat, Int.reduceLE, Int.reduceLT, Nat.reduceAdd, Nat.reduceLeDiff, intBin, strBin, unD, extractD, lit1, lit2, lit3, keptD, boxR, D.one, D.pub1, D.cells, splice, cutOwn]
        refine Fn.useS hC ?_
        simp -dsimp only [w1, hXe, q1, x0, x0', X0, X0', X1, gate, decide_true, decide_false, Bool.not_true, Bool.not_false, bTT, bTF, bFT, bFF, ↓preB, postB, genB, ↓reduceIte, Nat.reduceEqDiff, Int.reduceToNat, Int.reduceLE, Int.reduceLT, Nat.reduceAdd, Nat.reduceLeDiff, intBin, strBin, unD, extractD, lit1, lit2, lit3, keptD, boxR, D.one, D.pub1, D.cells, splice, cutOwn]
        refine ⟨by omega, Fn.useS (LowerR_c _) ?_⟩
        have hsz : (lowB (X.extract 0 1)).size + (X.extract 1 X.size).size ≤ big := by
          rw [lowB_size, ByteArray.size_extract, ByteArray.size_extract]
          simp only [big] at hb1 ⊢
          omega
        simp -dsimp only [w1, hXe, q1, x0, x0', X0, X0', X1, hsz, gate, decide_true, decide_false, Bool.not_true, Bool.not_false, bTT, bTF, bFT, bFF, ↓preB, postB, genB, ↓reduceIte, Nat.reduceEqDiff, Int.reduceToNat, Int.reduceLE, Int.reduceLT, Nat.reduceAdd, Nat.reduceLeDiff, intBin, strBin, unD, extractD, lit1, lit2, lit3, keptD, boxR, D.one, D.pub1, D.cells, splice, cutOwn]
        refine ⟨Int.le_refl _, ?_⟩
        cases (lowB (X.extract 0 1) ++ X.extract 1 X.size == x) <;> exact Ret.is rfl
  · simp -dsimp only [w1, hXe, q1, x0, x0', gate, decide_true, decide_false, Bool.not_true, Bool.not_false, bTT, bTF, bFT, bFF, ↓preB, postB, genB, ↓reduceIte, Nat.reduceEqDiff, Int.reduceToNat, Int.reduceLE, Int.reduceLT, Nat.reduceAdd, Nat.reduceLeDiff, intBin, strBin, unD, extractD, lit1, lit2, lit3, keptD, boxR, D.one, D.pub1, D.cells, splice, cutOwn]
    exact Ret.is rfl
theorem unitR_c (l : Wd) (s : ByteArray) (a : Nat) (ha : a ≤ s.size) (hs : s.size ≤ 1000000) : Fn Zs 53 [.str s, .int .i64 a, encSS l] (.int .i64 (unitW l (sfx s a) : Nat)) := by
  refine fn_of (Z := Zs) ok53 fun σ hcl hbl => ?_
  simp -dsimp only [L53, encSS, ↓preB, postB, genB, ↓reduceIte, Nat.reduceEqDiff, Int.reduceToNat, Int.reduceLE, Int.reduceLT, Nat.reduceAdd, Nat.reduceLeDiff, intBin, strBin, unD, extractD, lit1, lit2, lit3, keptD, boxR, D.one, D.pub1, D.cells, splice, cutOwn]
  obtain ⟨t, ht⟩ : ∃ t, t = sfx s a := ⟨_, rfl⟩
  rw [← ht]
  have hts : t.size = s.size - a := by rw [ht, sfx_size]
  have hta : ∀ i, byteAt t i = byteAt s (a + i) := fun i => by rw [ht, sfx_at]
  refine pwp_loopG (fun k env τ => k ≤ l.length ∧ unitW l t = (l.drop k).foldl (unitS t) ((l.take k).foldl (unitS t) 0) ∧ τ = σ ∧ env 8 = .int .i64 (k:Nat) ∧ env 7 = .int .i64 ((l.take k).foldl (unitS t) 0 : Nat) ∧ env 2 = encSS l ∧ env 1 = .int .i64 (a : Nat) ∧ env 0 = .str s) (fun k => l.length - k) 0 ?_ ?_
  · simp [upd_apply, envOf, encSS, unitW]
  · rintro k env τ ⟨hk, hp, rfl, h8, h7, h2, h1, h0⟩
    rcases Nat.lt_or_ge k l.length with hlt | hge
    · have hx : l[k]? = some l[k] := List.getElem?_eq_getElem hlt
      have hn : (k : Int) < l.length := by omega
      have hl0 : 0 < l.length := by omega
      rw [List.drop_eq_getElem_cons hlt, List.foldl_cons] at hp
      have htk : (l.take (k + 1)).foldl (unitS t) 0 = unitS t ((l.take k).foldl (unitS t) 0) l[k] := by
        rw [List.take_succ_eq_append_getElem hlt, List.foldl_append]; rfl
      rw [← htk] at hp
      generalize hb : (l.take k).foldl (unitS t) 0 = b at h7 htk
      generalize hxx : l[k] = x at hx htk
      rw [unitS_eq] at htk
      have nxt : l.length ≤ big → ∀ v : Nat, (if (decide (b < x.size) && matchU t x && (decide (x.size = t.size) || !isPartI (byteAt t x.size) || !isPartI (byteAt x (x.size - 1)))) = true then x.size else b) = v → ∃ y, (y ≤ l.length ∧ unitW l t = (l.drop y).foldl (unitS t) ((l.take y).foldl (unitS t) 0) ∧ IntKind.i64.wrap ((k : Int) + 1) = ((y : Nat) : Int) ∧ ((v : Nat) : Int) = (((l.take y).foldl (unitS t) 0 : Nat) : Int)) ∧ l.length - y < l.length - k := fun hlb v hv => ⟨k + 1, ⟨by omega, hp, wrap64_succ (by omega), by rw [htk, hv]⟩, by omega⟩
      by_cases c1 : (x.size : Int) ≤ b
      · simp -dsimp only [h8, h7, h2, h1, h0, hn, hlt, hx, hl0, c1, encSS, gate, decide_true, decide_false, Bool.not_true, Bool.not_false, bTT, bTF, bFT, bFF, ↓preB, postB, genB, ↓reduceIte, Nat.reduceEqDiff, Int.reduceToNat, Int.reduceLE, Int.reduceLT, Nat.reduceAdd, Nat.reduceLeDiff, intBin, strBin, unD, extractD, lit1, lit2, lit3, keptD, boxR, D.one, D.pub1, D.cells, splice, cutOwn]
        exact fun hlb _ => nxt hlb b (by rw [decide_eq_false (by omega), Bool.false_and, Bool.false_and, if_neg (by decide)])
      · have c2 : b < x.size := by omega
        rw [decide_eq_true c2, Bool.true_and] at nxt
        have hB := beginsR_c s x a ha (by omega) hs
        rw [← ht] at hB
        simp -dsimp only [h8, h7, h2, h1, h0, hn, hlt, hx, hl0, c1, encSS, gate, decide_true, decide_false, Bool.not_true, Bool.not_false, bTT, bTF, bFT, bFF, ↓preB, postB, genB, ↓reduceIte, Nat.reduceEqDiff, Int.reduceToNat, Int.reduceLE, Int.reduceLT, Nat.reduceAdd, Nat.reduceLeDiff, intBin, strBin, unD, extractD, lit1, lit2, lit3, keptD, boxR, D.one, D.pub1, D.cells, splice, cutOwn]
        intro hlb hxb
        refine Fn.use hB ?_
        cases q : matchU t x
        · simp -dsimp only [h8, h7, h2, h1, h0, hn, hlt, hx, hl0, c1, q, encSS, gate, decide_true, decide_false, Bool.not_true, Bool.not_false, bTT, bTF, bFT, bFF, ↓preB, postB, genB, ↓reduceIte, Nat.reduceEqDiff, Int.reduceToNat, Int.reduceLE, Int.reduceLT, Nat.reduceAdd, Nat.reduceLeDiff, intBin, strBin, unD, extractD, lit1, lit2, lit3, keptD, boxR, D.one, D.pub1, D.cells, splice, cutOwn]
          exact nxt hlb b (by rw [q]; rfl)
        rw [q, Bool.true_and] at nxt
        have hxt : x.size ≤ t.size := by
          simp only [matchU, Bool.and_eq_true, decide_eq_true_eq] at q
          exact q.1.1
        have w1 : IntKind.i64.wrap ((x.size : Int) - 1) = ((x.size - 1 : Nat) : Int) := by simp only [big] at hxb; rw [wrap64_in (by omega) (by omega)]; omega
        have w2 : IntKind.i64.wrap ((a : Int) + (x.size : Int)) = ((a + x.size : Nat) : Int) := by rw [wrap64_in (by omega) (by omega)]; omega
        have x1 : x.size - 1 < x.size := by omega
        by_cases e1 : x.size = t.size
        · have c3 : ¬ ((a + x.size : Nat) : Int) < s.size := by omega
          simp -dsimp only [h8, h7, h2, h1, h0, hn, hlt, hx, hl0, c1, c3, w1, w2, x1, q, encSS, gate, decide_true, decide_false, Bool.not_true, Bool.not_false, bTT, bTF, bFT, bFF, ↓preB, postB, genB, ↓reduceIte, Nat.reduceEqDiff, Int.reduceToNat, Int.reduceLE, Int.reduceLT, Nat.reduceAdd, Nat.reduceLeDiff, intBin, strBin, unD, extractD, lit1, lit2, lit3, keptD, boxR, D.one, D.pub1, D.cells, splice, cutOwn]
          exact fun _ => nxt hlb x.size (by rw [decide_eq_true e1]; rfl)
        · have c3 : ((a + x.size : Nat) : Int) < s.size := by omega
          have c4 : a + x.size < s.size := by omega
          rw [decide_eq_false e1, Bool.false_or, hta] at nxt
          simp -dsimp only [h8, h7, h2, h1, h0, hn, hlt, hx, hl0, c1, c3, c4, w1, w2, x1, q, encSS, gate, decide_true, decide_false, Bool.not_true, Bool.not_false, bTT, bTF, bFT, bFF, ↓preB, postB, genB, ↓reduceIte, Nat.reduceEqDiff, Int.reduceToNat, Int.reduceLE, Int.reduceLT, Nat.reduceAdd, Nat.reduceLeDiff, intBin, strBin, unD, extractD, lit1, lit2, lit3, keptD, boxR, D.one, D.pub1, D.cells, splice, cutOwn]
          intro hsb
          have hL := isLetterR_c (byteAt s (a + x.size))
          have hD := isDigitR_c (byteAt s (a + x.size))
          have hL2 := isLetterR_c (byteAt x (x.size - 1))
          have hD2 := isDigitR_c (byteAt x (x.size - 1))
          have hP : isPartI (byteAt s (a + x.size)) = (isLetterI (byteAt s (a + x.size)) || isDigitI (byteAt s (a + x.size))) := rfl
          have hP2 : isPartI (byteAt x (x.size - 1)) = (isLetterI (byteAt x (x.size - 1)) || isDigitI (byteAt x (x.size - 1))) := rfl
          rw [hP, hP2] at nxt
          refine Fn.use hL ?_
          cases p1 : isLetterI (byteAt s (a + x.size))
          · simp -dsimp only [h8, h7, h2, h1, h0, hn, hlt, hx, hl0, c1, c3, c4, w1, w2, x1, q, p1, encSS, gate, decide_true, decide_false, Bool.not_true, Bool.not_false, bTT, bTF, bFT, bFF, ↓preB, postB, genB, ↓reduceIte, Nat.reduceEqDiff, Int.reduceToNat, Int.reduceLE, Int.reduceLT, Nat.reduceAdd, Nat.reduceLeDiff, intBin, strBin, unD, extractD, lit1, lit2, lit3, keptD, boxR, D.one, D.pub1, D.cells, splice, cutOwn]
            refine Fn.use hD ?_
            cases p2 : isDigitI (byteAt s (a + x.size))
            · simp -dsimp only [h8, h7, h2, h1, h0, hn, hlt, hx, hl0, c1, c3, c4, w1, w2, x1, q, p1, p2, encSS, gate, decide_true, decide_false, Bool.not_true, Bool.not_false, bTT, bTF, bFT, bFF, ↓preB, postB, genB, ↓reduceIte, Nat.reduceEqDiff, Int.reduceToNat, Int.reduceLE, Int.reduceLT, Nat.reduceAdd, Nat.reduceLeDiff, intBin, strBin, unD, extractD, lit1, lit2, lit3, keptD, boxR, D.one, D.pub1, D.cells, splice, cutOwn]
              exact nxt hlb x.size (by rw [p1, p2]; rfl)
            · simp -dsimp only [h8, h7, h2, h1, h0, hn, hlt, hx, hl0, c1, c3, c4, w1, w2, x1, q, p1, p2, encSS, gate, decide_true, decide_false, Bool.not_true, Bool.not_false, bTT, bTF, bFT, bFF, ↓preB, postB, genB, ↓reduceIte, Nat.reduceEqDiff, Int.reduceToNat, Int.reduceLE, Int.reduceLT, Nat.reduceAdd, Nat.reduceLeDiff, intBin, strBin, unD, extractD, lit1, lit2, lit3, keptD, boxR, D.one, D.pub1, D.cells, splice, cutOwn]
              refine Fn.use hL2 ?_
              cases p3 : isLetterI (byteAt x (x.size - 1))
              · simp -dsimp only [h8, h7, h2, h1, h0, hn, hlt, hx, hl0, c1, c3, c4, w1, w2, x1, q, p1, p2, p3, encSS, gate, decide_true, decide_false, Bool.not_true, Bool.not_false, bTT, bTF, bFT, bFF, ↓preB, postB, genB, ↓reduceIte, Nat.reduceEqDiff, Int.reduceToNat, Int.reduceLE, Int.reduceLT, Nat.reduceAdd, Nat.reduceLeDiff, intBin, strBin, unD, extractD, lit1, lit2, lit3, keptD, boxR, D.one, D.pub1, D.cells, splice, cutOwn]
                refine Fn.use hD2 ?_
                cases p4 : isDigitI (byteAt x (x.size - 1))
                · simp -dsimp only [h8, h7, h2, h1, h0, hn, hlt, hx, hl0, c1, c3, c4, w1, w2, x1, q, p1, p2, p3, p4, encSS, gate, decide_true, decide_false, Bool.not_true, Bool.not_false, bTT, bTF, bFT, bFF, ↓preB, postB, genB, ↓reduceIte, Nat.reduceEqDiff, Int.reduceToNat, Int.reduceLE, Int.reduceLT, Nat.reduceAdd, Nat.reduceLeDiff, intBin, strBin, unD, extractD, lit1, lit2, lit3, keptD, boxR, D.one, D.pub1, D.cells, splice, cutOwn]
                  exact nxt hlb x.size (by rw [p3, p4, Bool.or_false, Bool.not_false, Bool.or_true]; rfl)
                · simp -dsimp only [h8, h7, h2, h1, h0, hn, hlt, hx, hl0, c1, c3, c4, w1, w2, x1, q, p1, p2, p3, p4, encSS, gate, decide_true, decide_false, Bool.not_true, Bool.not_false, bTT, bTF, bFT, bFF, ↓preB, postB, genB, ↓reduceIte, Nat.reduceEqDiff, Int.reduceToNat, Int.reduceLE, Int.reduceLT, Nat.reduceAdd, Nat.reduceLeDiff, intBin, strBin, unD, extractD, lit1, lit2, lit3, keptD, boxR, D.one, D.pub1, D.cells, splice, cutOwn]
                  exact nxt hlb b (by simp only [p1, p2, p3, p4]; rfl)
              · simp -dsimp only [h8, h7, h2, h1, h0, hn, hlt, hx, hl0, c1, c3, c4, w1, w2, x1, q, p1, p2, p3, encSS, gate, decide_true, decide_false, Bool.not_true, Bool.not_false, bTT, bTF, bFT, bFF, ↓preB, postB, genB, ↓reduceIte, Nat.reduceEqDiff, Int.reduceToNat, Int.reduceLE, Int.reduceLT, Nat.reduceAdd, Nat.reduceLeDiff, intBin, strBin, unD, extractD, lit1, lit2, lit3, keptD, boxR, D.one, D.pub1, D.cells, splice, cutOwn]
                exact nxt hlb b (by simp only [p1, p2, p3]; rfl)
          · simp -dsimp only [h8, h7, h2, h1, h0, hn, hlt, hx, hl0, c1, c3, c4, w1, w2, x1, q, p1, encSS, gate, decide_true, decide_false, Bool.not_true, Bool.not_false, bTT, bTF, bFT, bFF, ↓preB, postB, genB, ↓reduceIte, Nat.reduceEqDiff, Int.reduceToNat, Int.reduceLE, Int.reduceLT, Nat.reduceAdd, Nat.reduceLeDiff, intBin, strBin, unD, extractD, lit1, lit2, lit3, keptD, boxR, D.one, D.pub1, D.cells, splice, cutOwn]
            refine Fn.use hL2 ?_
            cases p3 : isLetterI (byteAt x (x.size - 1))
            · simp -dsimp only [h8, h7, h2, h1, h0, hn, hlt, hx, hl0, c1, c3, c4, w1, w2, x1, q, p1, p3, encSS, gate, decide_true, decide_false, Bool.not_true, Bool.not_false, bTT, bTF, bFT, bFF, ↓preB, postB, genB, ↓reduceIte, Nat.reduceEqDiff, Int.reduceToNat, Int.reduceLE, Int.reduceLT, Nat.reduceAdd, Nat.reduceLeDiff, intBin, strBin, unD, extractD, lit1, lit2, lit3, keptD, boxR, D.one, D.pub1, D.cells, splice, cutOwn]
              refine Fn.use hD2 ?_
              cases p4 : isDigitI (byteAt x (x.size - 1))
              · simp -dsimp only [h8, h7, h2, h1, h0, hn, hlt, hx, hl0, c1, c3, c4, w1, w2, x1, q, p1, p3, p4, encSS, gate, decide_true, decide_false, Bool.not_true, Bool.not_false, bTT, bTF, bFT, bFF, ↓preB, postB, genB, ↓reduceIte, Nat.reduceEqDiff, Int.reduceToNat, Int.reduceLE, Int.reduceLT, Nat.reduceAdd, Nat.reduceLeDiff, intBin, strBin, unD, extractD, lit1, lit2, lit3, keptD, boxR, D.one, D.pub1, D.cells, splice, cutOwn]
                exact nxt hlb x.size (by rw [p3, p4, Bool.or_false, Bool.not_false, Bool.or_true]; rfl)
              · simp -dsimp only [h8, h7, h2, h1, h0, hn, hlt, hx, hl0, c1, c3, c4, w1, w2, x1, q, p1, p3, p4, encSS, gate, decide_true, decide_false, Bool.not_true, Bool.not_false, bTT, bTF, bFT, bFF, ↓preB, postB, genB, ↓reduceIte, Nat.reduceEqDiff, Int.reduceToNat, Int.reduceLE, Int.reduceLT, Nat.reduceAdd, Nat.reduceLeDiff, intBin, strBin, unD, extractD, lit1, lit2, lit3, keptD, boxR, D.one, D.pub1, D.cells, splice, cutOwn]
                exact nxt hlb b (by simp only [p1, p3, p4]; rfl)
            · simp -dsimp only [h8, h7, h2, h1, h0, hn, hlt, hx, hl0, c1, c3, c4, w1, w2, x1, q, p1, p3, encSS, gate, decide_true, decide_false, Bool.not_true, Bool.not_false, bTT, bTF, bFT, bFF, ↓preB, postB, genB, ↓reduceIte, Nat.reduceEqDiff, Int.reduceToNat, Int.reduceLE, Int.reduceLT, Nat.reduceAdd, Nat.reduceLeDiff, intBin, strBin, unD, extractD, lit1, lit2, lit3, keptD, boxR, D.one, D.pub1, D.cells, splice, cutOwn]
              exact nxt hlb b (by simp only [p1, p3]; rfl)
    · have hn : ¬ (k : Int) < l.length := by omega
      rw [List.drop_of_length_le hge, List.take_of_length_le hge] at hp
      rw [List.take_of_length_le hge] at h7
      simp -dsimp only [h8, h7, h2, h1, h0, hn, encSS, gate, decide_true, decide_false, Bool.not_true, Bool.not_false, bTT, bTF, bFT, bFF, ↓preB, postB, genB, ↓reduceIte, Nat.reduceEqDiff, Int.reduceToNat, Int.reduceLE, Int.reduceLT, Nat.reduceAdd, Nat.reduceLeDiff, intBin, strBin, unD, extractD, lit1, lit2, lit3, keptD, boxR, D.one, D.pub1, D.cells, splice, cutOwn]
      exact fun _ => Ret.is (by rw [hp]; rfl)
theorem ares_one_cell {Z : Sys} {t a r off : Nat} {e : TypeId} {cs : List D} {d : D} {env : Env} {g : Nat → Option AO} {i : TInfo} (hT : Z.T t = some i) (ha : env a = .ptr r off) (hg : g r = some (.cells e cs)) (hp : pack i (cs.drop off) = some d) : ares Z [.cell a t] env g = some d := by
  simp only [ares, rvs, rv, hT, ha, hg, hp]
theorem packTk (a b k : Int) (s : ByteArray) : ∀ i, Zs.T 43 = some i → pack i ([D.int .i64 a, .int .i64 b, .int .i64 k, .str s].drop 0) = some (.agg [.int .i64 a, .int .i64 b, .int .i64 k, .str s]) := fun i hi => by
  rw [tz43] at hi; cases hi
  rfl
theorem tokenR_c (s : ByteArray) (f t : Nat) (k : Int) (h1 : f ≤ t) (h2 : t ≤ s.size) : Fn Zs 56 [.str s, .int .i64 f, .int .i64 t, .int .i64 k] (.agg (encTk ⟨f, t, k, s.extract f t⟩)) := by
  refine fn_of (Z := Zs) ok56 fun σ hcl hbl => ?_
  simp -dsimp only [L56, ↓preB, postB, genB, ↓reduceIte, Nat.reduceEqDiff, Int.reduceToNat, Int.reduceLE, Int.reduceLT, Nat.reduceAdd, Nat.reduceLeDiff, intBin, strBin, unD, extractD, lit1, lit2, lit3, keptD, boxR, D.one, D.pub1, D.cells, splice, cutOwn]
  have c1 : (f : Int) ≤ (t : Int) ∧ (t : Int) ≤ s.size := ⟨by omega, by omega⟩
  simp -dsimp only [c1, ab35, ↓preB, postB, genB, ↓reduceIte, Nat.reduceEqDiff, Int.reduceToNat, Int.reduceLE, Int.reduceLT, Nat.reduceAdd, Nat.reduceLeDiff, intBin, strBin, unD, extractD, lit1, lit2, lit3, keptD, boxR, D.one, D.pub1, D.cells, splice, cutOwn]
  refine ⟨_, ares_one_cell (r := σ.next) tz43 (by simp [upd_apply]) (Heap.new_same _ _) (packTk _ _ _ _ _ tz43), ?_⟩
  exact Ret.isH (HLe.self_new _ hcl) hcl rfl (.agg _ (bel_tk _))
end Go.Proofs.YtapkbkniooleaaaGreat.Vs
