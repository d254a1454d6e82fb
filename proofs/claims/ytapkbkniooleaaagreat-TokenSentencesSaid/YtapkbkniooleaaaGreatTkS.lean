/- numbers of Ytapkbkniooleaaa -/
import Derived.Test.YtapkbkniooleaaaGreatTkR
namespace Go.Proofs.YtapkbkniooleaaaGreat.Vs
set_option linter.unusedVariables false
set_option linter.unusedSimpArgs false
set_option maxRecDepth 100000
theorem cliticR_c (s : ByteArray) (l : Wd) (fr : Bool) : Fn Zs 70 [.str s, encSS l, .bool fr] (.int .i64 (edgeW (if fr = true then preW else sufW) l (lowB s) : Nat)) := by
  refine fn_of (Z := Zs) ok70 fun σ hcl hbl => ?_
  simp -dsimp only [L70, encSS, ↓preB, postB, genB, ↓reduceIte, Nat.reduceEqDiff, Int.reduceToNat, Int.reduceLE, Int.reduceLT, Nat.reduceAdd, Nat.reduceLeDiff, intBin, strBin, unD, extractD, lit1, lit2, lit3, keptD, boxR, D.one, D.pub1, D.cells, splice, cutOwn]
  obtain ⟨p, hp⟩ : ∃ p, p = (if fr = true then preW else sufW) := ⟨_, rfl⟩
  rw [← hp]
  refine Fn.use (LowerR_c s) ?_
  simp -dsimp only [↓preB, postB, genB, ↓reduceIte, Nat.reduceEqDiff, Int.reduceToNat, Int.reduceLE, Int.reduceLT, Nat.reduceAdd, Nat.reduceLeDiff, intBin, strBin, unD, extractD, lit1, lit2, lit3, keptD, boxR, D.one, D.pub1, D.cells, splice, cutOwn]
  generalize lowB s = t
  refine pwp_loopG (fun k env τ => k ≤ l.length ∧ edgeW p l t = (l.drop k).foldl (edgeS p t) ((l.take k).foldl (edgeS p t) 0) ∧ τ = σ ∧ env 8 = .int .i64 (k:Nat) ∧ env 7 = .int .i64 ((l.take k).foldl (edgeS p t) 0 : Nat) ∧ env 2 = .bool fr ∧ env 1 = encSS l ∧ env 0 = .str t) (fun k => l.length - k) 0 ?_ ?_
  · simp [upd_apply, envOf, encSS, edgeW]
  · rintro k env τ ⟨hk, hq, rfl, h8, h7, h2, h1, h0⟩
    rcases Nat.lt_or_ge k l.length with hlt | hge
    · have hx : l[k]? = some l[k] := List.getElem?_eq_getElem hlt
      have hn : (k : Int) < l.length := by omega
      have hl0 : 0 < l.length := by omega
      rw [List.drop_eq_getElem_cons hlt, List.foldl_cons] at hq
      have ht : (l.take (k + 1)).foldl (edgeS p t) 0 = edgeS p t ((l.take k).foldl (edgeS p t) 0) l[k] := by
        rw [List.take_succ_eq_append_getElem hlt, List.foldl_append]; rfl
      rw [← ht] at hq
      generalize hb : (l.take k).foldl (edgeS p t) 0 = b at h7 ht
      generalize hxx : l[k] = x at hx ht
      have hE : edgeS p t b x = if (decide (b < x.size) && decide (x.size < t.size) && p t x) = true then x.size else b := rfl
      rw [hE] at ht
      have nxt : l.length ≤ big → ∀ v : Nat, (if (decide (b < x.size) && decide (x.size < t.size) && p t x) = true then x.size else b) = v → ∃ y, (y ≤ l.length ∧ edgeW p l t = (l.drop y).foldl (edgeS p t) ((l.take y).foldl (edgeS p t) 0) ∧ IntKind.i64.wrap ((k : Int) + 1) = ((y : Nat) : Int) ∧ ((v : Nat) : Int) = (((l.take y).foldl (edgeS p t) 0 : Nat) : Int)) ∧ l.length - y < l.length - k := fun hlb v hv => ⟨k + 1, ⟨by omega, hq, wrap64_succ (by omega), by rw [ht, hv]⟩, by omega⟩
      by_cases c1 : (t.size : Int) ≤ x.size
      · simp -dsimp only [h8, h7, h2, h1, h0, hn, hlt, hx, hl0, c1, encSS, gate, decide_true, decide_false, Bool.not_true, Bool.not_false, bTT, bTF, bFT, bFF, ↓preB, postB, genB, ↓reduceIte, Nat.reduceEqDiff, Int.reduceToNat, Int.reduceLE, Int.reduceLT, Nat.reduceAdd, Nat.reduceLeDiff, intBin, strBin, unD, extractD, lit1, lit2, lit3, keptD, boxR, D.one, D.pub1, D.cells, splice, cutOwn]
        intro hlb hxb htb
        refine nxt hlb b ?_
        rw [decide_eq_false (p := x.size < t.size) (by omega), Bool.and_false, Bool.false_and, if_neg (by decide)]
      by_cases c2 : (x.size : Int) ≤ b
      · simp -dsimp only [h8, h7, h2, h1, h0, hn, hlt, hx, hl0, c1, c2, encSS, gate, decide_true, decide_false, Bool.not_true, Bool.not_false, bTT, bTF, bFT, bFF, ↓preB, postB, genB, ↓reduceIte, Nat.reduceEqDiff, Int.reduceToNat, Int.reduceLE, Int.reduceLT, Nat.reduceAdd, Nat.reduceLeDiff, intBin, strBin, unD, extractD, lit1, lit2, lit3, keptD, boxR, D.one, D.pub1, D.cells, splice, cutOwn]
        intro hlb hxb htb
        refine nxt hlb b ?_
        rw [decide_eq_false (p := b < x.size) (by omega), Bool.false_and, Bool.false_and, if_neg (by decide)]
      rw [decide_eq_true (p := b < x.size) (by omega), decide_eq_true (p := x.size < t.size) (by omega), Bool.true_and, Bool.true_and] at nxt
      simp -dsimp only [h8, h7, h2, h1, h0, hn, hlt, hx, hl0, c1, c2, encSS, gate, decide_true, decide_false, Bool.not_true, Bool.not_false, bTT, bTF, bFT, bFF, ↓preB, postB, genB, ↓reduceIte, Nat.reduceEqDiff, Int.reduceToNat, Int.reduceLE, Int.reduceLT, Nat.reduceAdd, Nat.reduceLeDiff, intBin, strBin, unD, extractD, lit1, lit2, lit3, keptD, boxR, D.one, D.pub1, D.cells, splice, cutOwn]
      intro hlb hxb htb
      refine draw_s ?_
      have c3 : (x.size : Int) ≤ t.size := by omega
      have c4 : (0 : Int) ≤ x.size := by omega
      cases fr
      · have e1 : p t x = (t.extract (t.size - x.size) t.size == x) := by rw [hp, if_neg (by decide), sufW, decide_eq_true (by omega), Bool.true_and]
        have w1 : IntKind.i64.wrap ((t.size : Int) - (x.size : Int)) = ((t.size - x.size : Nat) : Int) := by simp only [big] at htb; rw [wrap64_in (by omega) (by omega)]; omega
        have c5 : ((t.size - x.size : Nat) : Int) ≤ t.size := by omega
        rw [e1] at nxt
        cases q : (t.extract (t.size - x.size) t.size == x)
        · simp -dsimp only [h8, h7, h2, h1, h0, hn, hlt, hx, hl0, c1, c2, c3, c5, w1, q, encSS, gate, decide_true, decide_false, Bool.not_true, Bool.not_false, bTT, bTF, bFT, bFF, ↓preB, postB, genB, ↓reduceIte, Nat.reduceEqDiff, Int.reduceToNat, Int.reduceLE, Int.reduceLT, Nat.reduceAdd, Nat.reduceLeDiff, intBin, strBin, unD, extractD, lit1, lit2, lit3, keptD, boxR, D.one, D.pub1, D.cells, splice, cutOwn]
          exact ⟨by omega, nxt hlb b (by rw [q]; rfl)⟩
        · simp -dsimp only [h8, h7, h2, h1, h0, hn, hlt, hx, hl0, c1, c2, c3, c5, w1, q, encSS, gate, decide_true, decide_false, Bool.not_true, Bool.not_false, bTT, bTF, bFT, bFF, ↓preB, postB, genB, ↓reduceIte, Nat.reduceEqDiff, Int.reduceToNat, Int.reduceLE, Int.reduceLT, Nat.reduceAdd, Nat.reduceLeDiff, intBin, strBin, unD, extractD, lit1, lit2, lit3, keptD, boxR, D.one, D.pub1, D.cells, splice, cutOwn]
          exact ⟨by omega, nxt hlb x.size (by rw [q]; rfl)⟩
      · have e1 : p t x = (t.extract 0 x.size == x) := by rw [hp, if_pos rfl, preW, decide_eq_true (by omega), Bool.true_and]
        rw [e1] at nxt
        cases q : (t.extract 0 x.size == x)
        · simp -dsimp only [h8, h7, h2, h1, h0, hn, hlt, hx, hl0, c1, c2, c3, c4, q, encSS, gate, decide_true, decide_false, Bool.not_true, Bool.not_false, bTT, bTF, bFT, bFF, ↓preB, postB, genB, ↓reduceIte, Nat.reduceEqDiff, Int.reduceToNat, Int.reduceLE, Int.reduceLT, Nat.reduceAdd, Nat.reduceLeDiff, intBin, strBin, unD, extractD, lit1, lit2, lit3, keptD, boxR, D.one, D.pub1, D.cells, splice, cutOwn]
          exact ⟨by omega, nxt hlb b (by rw [q]; rfl)⟩
        · simp -dsimp only [h8, h7, h2, h1, h0, hn, hlt, hx, hl0, c1, c2, c3, c4, q, encSS, gate, decide_true, decide_false, Bool.not_true, Bool.not_false, bTT, bTF, bFT, bFF, ↓preB, postB, genB, ↓reduceIte, Nat.reduceEqDiff, Int.reduceToNat, Int.reduceLE, Int.reduceLT, Nat.reduceAdd, Nat.reduceLeDiff, intBin, strBin, unD, extractD, lit1, lit2, lit3, keptD, boxR, D.one, D.pub1, D.cells, splice, cutOwn]
          exact ⟨by omega, nxt hlb x.size (by rw [q]; rfl)⟩
    · have hn : ¬ (k : Int) < l.length := by omega
      rw [List.drop_of_length_le hge, List.take_of_length_le hge] at hq
      rw [List.take_of_length_le hge] at h7
      simp -dsimp only [h8, h7, h2, h1, h0, hn, encSS, gate, decide_true, decide_false, Bool.not_true, Bool.not_false, bTT, bTF, bFT, bFF, ↓preB, postB, genB, ↓reduceIte, Nat.reduceEqDiff, Int.reduceToNat, Int.reduceLE, Int.reduceLT, Nat.reduceAdd, Nat.reduceLeDiff, intBin, strBin, unD, extractD, lit1, lit2, lit3, keptD, boxR, D.one, D.pub1, D.cells, splice, cutOwn]
      exact fun _ => Ret.is (by rw [hq]; rfl)
theorem ext_ext (s : ByteArray) (a b i j : Nat) : (s.extract a b).extract i j = s.extract (a + i) (min (a + j) b) := by
  rw [tb_of s]
  generalize s.data.toList = l
  rw [tb_ext, tb_ext, tb_ext]
  congr 1
  rw [List.take_drop, List.take_take, List.drop_drop]
theorem Two.lit {Z : Sys} {σ0 σ : Heap} {e e' e2 t t2 : TypeId} {z z' n n' m : Nat} {cs cs' ys0 ys : List D} {d d' y : D} {it ie : TInfo} {K : D → Heap → Prop} {hK : Keep K} (h : Two σ0 e z n cs d e' z' n' cs' d' σ) (hc : Closed σ0) (ht : Z.T t = some it) (hd : it.d = .slice e2) (hie : Z.T e2 = some ie)
    (hz : ie.zero.cells.size = ie.size) (hz1 : ie.zeros.all D.one = true) (hpos : 0 < ie.size) (hcs : ys0.length = 1 * ie.size) (hf : fedBy Z σ.get t2 ie.size y = some (m, ys)) (hb : (1 + m) * ie.bytes ≤ 140737488355328) (hbig : 1 + m ≤ big)
    (k : ∀ o τ, Two σ0 e z n cs d e' z' n' cs' d' τ → K (.sl o (1 + m) (ys0 ++ ys)) τ) : kR (appendR Z 0 σ.get σ.next #[t, t2] (.sl .full 1 ys0) y) σ K hK := by
  have hlen := fedBy_len hf
  by_cases hm : m = 0
  · have hy : ys = [] := List.eq_nil_of_length_eq_zero (by rw [hlen, hm]; simp)
    subst hy; subst hm
    have : appendR Z 0 σ.get σ.next #[t, t2] (.sl .full 1 ys0) y = some (.sl .full 1 ys0, .keep) := by
      unfold appendR
      simp only [ht, hd, hie, hf]
      rw [if_pos ⟨hpos, hz, hz1⟩, if_pos ⟨hcs, by simpa using hb, by simpa using hbig⟩, if_pos trivial]
    rw [this]
    have := k .full σ h
    rw [List.append_nil] at this
    exact this
  · have : appendR Z 0 σ.get σ.next #[t, t2] (.sl .full 1 ys0) y = some (.sl (.tip σ.next ie.size) (1 + m) (ys0 ++ ys), .new (.tip e2 (ys0.length + ys.length))) := by
      unfold appendR
      simp only [ht, hd, hie, hf]
      rw [if_pos ⟨hpos, hz, hz1⟩, if_pos ⟨hcs, hb, hbig⟩, if_neg hm]
      simp
    rw [this]
    exact k _ _ (h.new hc _)
theorem cutR_c (c : Cut) (s : ByteArray) (f0 t0 : Nat) (h0 : f0 ≤ t0) (h1 : t0 ≤ s.size) (hs : s.size ≤ 1000000) : Fn Zs 57 [encC c, .str s, .int .i64 f0, .int .i64 t0] (.sl .no (cliticsW c.front c.back f0 (s.extract f0 t0)).length (encTks (cliticsW c.front c.back f0 (s.extract f0 t0)))) := by
  refine fn_of (Z := Zs) ok57 fun σ hcl hbl => ?_
  simp -dsimp only [L57, encC, ↓preB, postB, genB, ↓reduceIte, Nat.reduceEqDiff, Int.reduceToNat, Int.reduceLE, Int.reduceLT, Nat.reduceAdd, Nat.reduceLeDiff, intBin, strBin, unD, extractD, lit1, lit2, lit3, keptD, boxR, D.one, D.pub1, D.cells, splice, cutOwn]
  obtain ⟨H, hH⟩ : ∃ H, H = σ.new (.cells 24 (cellsC c)) := ⟨_, rfl⟩
  have hcl1 : Closed H := by rw [hH]; exact hcl.new (bel_C c)
  have hle1 : HLe σ H := by rw [hH]; exact HLe.self_new _ hcl
  have hg1 : H.get σ.next = some (.cells 24 (cellsC c)) := by rw [hH]; exact Heap.new_same _ _
  rw [← hH]
  clear hH
  have hlen : (cellsC c).length = 4 := rfl
  have htk : (cellsC c).take 4 = cellsC c := rfl
  have x2 : (cellsC c)[2]? = some (encSS c.front) := rfl
  have x3 : (cellsC c)[3]? = some (encSS c.back) := rfl
  have hF := fun f t => cliticR_c (s.extract f t) c.front true
  have hB := fun f t => cliticR_c (s.extract f t) c.back false
  simp only [if_true, Bool.false_eq_true, if_false] at hF hB
  have c1 : (f0 : Int) ≤ (t0 : Int) ∧ (t0 : Int) ≤ s.size := ⟨by omega, by omega⟩
  refine draw_s ?_
  simp -dsimp only [hg1, hlen, x2, c1, ↓preB, postB, genB, ↓reduceIte, Nat.reduceEqDiff, Int.reduceToNat, Int.reduceLE, Int.reduceLT, Nat.reduceAdd, Nat.reduceLeDiff, intBin, strBin, unD, extractD, lit1, lit2, lit3, keptD, boxR, D.one, D.pub1, D.cells, splice, cutOwn]
  refine Fn.useS (hF f0 t0) ?_
  simp -dsimp only [hg1, hlen, x2, c1, ↓preB, postB, genB, ↓reduceIte, Nat.reduceEqDiff, Int.reduceToNat, Int.reduceLE, Int.reduceLT, Nat.reduceAdd, Nat.reduceLeDiff, intBin, strBin, unD, extractD, lit1, lit2, lit3, keptD, boxR, D.one, D.pub1, D.cells, splice, cutOwn]
  obtain ⟨n0, hn0⟩ : ∃ n, n = t0 - f0 := ⟨_, rfl⟩
  have hsz : ∀ f t, t ≤ s.size → (s.extract f t).size = t - f := fun f t h => by rw [ByteArray.size_extract]; omega
  have hfr : ∀ k f, f ≤ t0 → frontW c.front (k + 1) f (s.extract f t0) = if edgeW preW c.front (lowB (s.extract f t0)) = 0 then ([], f, s.extract f t0) else
      (⟨f, (f + edgeW preW c.front (lowB (s.extract f t0)) : Nat), 4, s.extract f (f + edgeW preW c.front (lowB (s.extract f t0)))⟩ :: (frontW c.front k (f + edgeW preW c.front (lowB (s.extract f t0))) (s.extract (f + edgeW preW c.front (lowB (s.extract f t0))) t0)).1, (frontW c.front k (f + edgeW preW c.front (lowB (s.extract f t0))) (s.extract (f + edgeW preW c.front (lowB (s.extract f t0))) t0)).2) := fun k f hf => by
    have hn := edgeW_lt preW c.front (lowB (s.extract f t0))
    rw [lowB_size, hsz _ _ h1] at hn
    rw [frontW]
    simp only []
    split
    · rfl
    · rw [ext_ext, ext_ext, hsz _ _ h1, Nat.min_eq_left (show f + edgeW preW c.front (lowB (s.extract f t0)) ≤ t0 by omega), Nat.min_eq_right (show t0 ≤ f + (t0 - f) by omega)]
      rfl
  have hbk : ∀ k f t, f ≤ t → t ≤ s.size → backW c.back (k + 1) f (s.extract f t) = if edgeW sufW c.back (lowB (s.extract f t)) = 0 then ([], s.extract f t) else
      (⟨(t - edgeW sufW c.back (lowB (s.extract f t)) : Nat), (t : Nat), 5, s.extract (t - edgeW sufW c.back (lowB (s.extract f t))) t⟩ :: (backW c.back k f (s.extract f (t - edgeW sufW c.back (lowB (s.extract f t))))).1, (backW c.back k f (s.extract f (t - edgeW sufW c.back (lowB (s.extract f t))))).2) := fun k f t hf ht => by
    have hn := edgeW_lt sufW c.back (lowB (s.extract f t))
    rw [lowB_size, hsz _ _ ht] at hn
    rw [backW]
    simp only []
    split
    · rfl
    · rw [ext_ext, ext_ext, hsz _ _ ht, Nat.min_eq_left (show f + (t - f - edgeW sufW c.back (lowB (s.extract f t))) ≤ t by omega), Nat.min_eq_right (show t ≤ f + (t - f) by omega), Nat.add_zero,
        show f + (t - f - edgeW sufW c.back (lowB (s.extract f t))) = t - edgeW sufW c.back (lowB (s.extract f t)) by omega, show f + (t - f) = t by omega]
  refine pwp_loopJ 0 (fun e τ => ∃ A f, (frontW c.front n0 f0 (s.extract f0 t0)).1 = A ∧ (frontW c.front n0 f0 (s.extract f0 t0)).2 = (f, s.extract f t0) ∧ f0 ≤ f ∧ f ≤ t0 ∧ Two H 43 4 A.length (encTks A) (e 9) 43 4 0 [] (.sl .nil 0 []) τ ∧ A.length ≤ n0 ∧ e 10 = .sl .nil 0 [] ∧ e 4 = .ptr σ.next 0 ∧ e 3 = .int .i64 (t0 : Nat) ∧ e 2 = .int .i64 (f : Nat) ∧ e 1 = .str s)
    (fun (x : Nat × List Tok × Nat) e τ => (frontW c.front n0 f0 (s.extract f0 t0)).1 = x.2.1 ++ (frontW c.front x.1 x.2.2 (s.extract x.2.2 t0)).1 ∧ (frontW c.front n0 f0 (s.extract f0 t0)).2 = (frontW c.front x.1 x.2.2 (s.extract x.2.2 t0)).2 ∧ f0 ≤ x.2.2 ∧ x.2.2 ≤ t0 ∧ t0 - x.2.2 ≤ x.1 ∧ x.2.1.length + (t0 - x.2.2) ≤ n0 ∧ Two H 43 4 x.2.1.length (encTks x.2.1) (e 9) 43 4 0 [] (.sl .nil 0 []) τ ∧
      e 11 = .int .i64 (edgeW preW c.front (lowB (s.extract x.2.2 t0)) : Nat) ∧ e 10 = .sl .nil 0 [] ∧ e 4 = .ptr σ.next 0 ∧ e 3 = .int .i64 (t0 : Nat) ∧ e 2 = .int .i64 (x.2.2 : Nat) ∧ e 1 = .str s) (fun x => x.1) (n0, [], f0) ?_ ?_ ?_
  · simp only [upd_apply, envOf_apply, Nat.reduceEqDiff, if_true, if_false]
    exact ⟨rfl, (by first | trivial | rfl | omega), Nat.le_refl _, h0, by omega, by simp; omega, Two.start hcl1, (by first | trivial | rfl | omega), (by first | trivial | rfl | omega), (by first | trivial | rfl | omega), (by first | trivial | rfl | omega), (by first | trivial | rfl | omega), (by first | trivial | rfl | omega)⟩
  · rintro ⟨k, A, f⟩ e τ ⟨g1, g2, g3, g4, g5, g6, hT, e11, e10, e4, e3, e2, e1⟩
    simp only [] at g1 g2 g3 g4 g5 g6 hT e11 e2
    have hn := edgeW_lt preW c.front (lowB (s.extract f t0))
    rw [lowB_size, hsz _ _ h1] at hn
    have hF' := hF
    by_cases n1 : edgeW preW c.front (lowB (s.extract f t0)) = 0
    · have c2 : ¬ (0 : Int) < (edgeW preW c.front (lowB (s.extract f t0)) : Nat) := by omega
      simp -dsimp only [e11, e10, e4, e3, e2, e1, c2, exitR_exit, gate, decide_true, decide_false, Bool.not_true, Bool.not_false, bTT, bTF, bFT, bFF, ↓preB, postB, genB, ↓reduceIte, Nat.reduceEqDiff, Int.reduceToNat, Int.reduceLE, Int.reduceLT, Nat.reduceAdd, Nat.reduceLeDiff, intBin, strBin, unD, extractD, lit1, lit2, lit3, keptD, boxR, D.one, D.pub1, D.cells, splice, cutOwn]
      have : frontW c.front k f (s.extract f t0) = ([], f, s.extract f t0) := frontW_zero n1
      rw [this] at g1 g2
      exact ⟨A, f, by rw [g1, List.append_nil], g2, g3, g4, hT, by omega, (by first | trivial | rfl | omega)⟩
    · obtain ⟨k, rfl⟩ : ∃ j, k = j + 1 := ⟨k - 1, by omega⟩
      rw [hfr k f g4, if_neg n1] at g1 g2
      generalize edgeW preW c.front (lowB (s.extract f t0)) = n at *
      have c2 : (0 : Int) < (n : Nat) := by omega
      have w1 : IntKind.i64.wrap ((f : Int) + (n : Int)) = ((f + n : Nat) : Int) := by rw [wrap64_in (by omega) (by omega)]; omega
      simp -dsimp only [e11, e10, e4, e3, e2, e1, c2, w1, exitR_exit, gate, decide_true, decide_false, Bool.not_true, Bool.not_false, bTT, bTF, bFT, bFF, ↓preB, postB, genB, ↓reduceIte, Nat.reduceEqDiff, Int.reduceToNat, Int.reduceLE, Int.reduceLT, Nat.reduceAdd, Nat.reduceLeDiff, intBin, strBin, unD, extractD, lit1, lit2, lit3, keptD, boxR, D.one, D.pub1, D.cells, splice, cutOwn]
      have hK := tokenR_c s f (f + n) 4 (by omega) (by omega)
      simp only [encTk] at hK
      refine Fn.use hK ?_
      simp -dsimp only [e11, e10, e4, e3, e2, e1, c2, w1, bs27, exitR_exit, gate, decide_true, decide_false, Bool.not_true, Bool.not_false, bTT, bTF, bFT, bFF, ↓preB, postB, genB, ↓reduceIte, Nat.reduceEqDiff, Int.reduceToNat, Int.reduceLE, Int.reduceLT, Nat.reduceAdd, Nat.reduceLeDiff, intBin, strBin, unD, extractD, lit1, lit2, lit3, keptD, boxR, D.one, D.pub1, D.cells, splice, cutOwn]
      refine hT.append hcl1 tz39 rfl tz43 rfl rfl rfl (by decide) (by rw [encTks_len]; simp only []; omega) (fedBy_sl (m := 1) tz39 rfl rfl) (by decide) (by simp only []; omega) (by simp only [big]; omega) fun d6 τ6 hT6 _ => ?_
      have hg6 := hT6.le.get _ _ hg1
      have c3 : ((f + n : Nat) : Int) ≤ (t0 : Int) ∧ (t0 : Int) ≤ s.size := ⟨by omega, by omega⟩
      simp -dsimp only [e11, e10, e4, e3, e2, e1, c2, w1, exitR_exit, gate, decide_true, decide_false, Bool.not_true, Bool.not_false, bTT, bTF, bFT, bFF, ↓preB, postB, genB, ↓reduceIte, Nat.reduceEqDiff, Int.reduceToNat, Int.reduceLE, Int.reduceLT, Nat.reduceAdd, Nat.reduceLeDiff, intBin, strBin, unD, extractD, lit1, lit2, lit3, keptD, boxR, D.one, D.pub1, D.cells, splice, cutOwn]
      refine draw_s ?_
      simp -dsimp only [e11, e10, e4, e3, e2, e1, c2, c3, w1, hg6, hlen, x2, exitR_exit, gate, decide_true, decide_false, Bool.not_true, Bool.not_false, bTT, bTF, bFT, bFF, ↓preB, postB, genB, ↓reduceIte, Nat.reduceEqDiff, Int.reduceToNat, Int.reduceLE, Int.reduceLT, Nat.reduceAdd, Nat.reduceLeDiff, intBin, strBin, unD, extractD, lit1, lit2, lit3, keptD, boxR, D.one, D.pub1, D.cells, splice, cutOwn]
      refine Fn.useS (hF' (f + n) t0) ?_
      simp -dsimp only [e11, e10, e4, e3, e2, e1, c2, c3, w1, hg6, hlen, x2, exitR_exit, gate, decide_true, decide_false, Bool.not_true, Bool.not_false, bTT, bTF, bFT, bFF, ↓preB, postB, genB, ↓reduceIte, Nat.reduceEqDiff, Int.reduceToNat, Int.reduceLE, Int.reduceLT, Nat.reduceAdd, Nat.reduceLeDiff, intBin, strBin, unD, extractD, lit1, lit2, lit3, keptD, boxR, D.one, D.pub1, D.cells, splice, cutOwn]
      refine ⟨(k, A ++ [⟨(f : Nat), (f + n : Nat), 4, s.extract f (f + n)⟩], f + n), ⟨by rw [g1]; simp, g2, by simp only []; omega, by simp only []; omega, by simp only []; omega, by simp only [List.length_append, List.length_cons, List.length_nil]; omega, ?_, rfl, rfl⟩, Nat.lt_succ_self _⟩
      simp only [List.length_append, List.length_cons, List.length_nil, encTks_append]
      exact hT6
  rintro env τ ⟨A, f, g1, g2, g3, g4, hT, g6, e10, e4, e3, e2, e1⟩
  have hcw : cliticsW c.front c.back f0 (s.extract f0 t0) = A ++ ⟨(f : Nat), (f + (backW c.back (t0 - f) f (s.extract f t0)).2.size : Nat), 0, (backW c.back (t0 - f) f (s.extract f t0)).2⟩ :: (backW c.back (t0 - f) f (s.extract f t0)).1.reverse := by
    unfold cliticsW
    simp only [hsz f0 t0 h1, ← hn0, g1, g2, hsz f t0 h1]
  rw [hcw]
  have hgA := hT.le.get _ _ hg1
  have c2 : (f : Int) ≤ (t0 : Int) ∧ (t0 : Int) ≤ s.size := ⟨by omega, by omega⟩
  simp -dsimp only [e10, e4, e3, e2, e1, gate, decide_true, decide_false, Bool.not_true, Bool.not_false, bTT, bTF, bFT, bFF, ↓preB, postB, genB, ↓reduceIte, Nat.reduceEqDiff, Int.reduceToNat, Int.reduceLE, Int.reduceLT, Nat.reduceAdd, Nat.reduceLeDiff, intBin, strBin, unD, extractD, lit1, lit2, lit3, keptD, boxR, D.one, D.pub1, D.cells, splice, cutOwn]
  refine draw_s ?_
  simp -dsimp only [e10, e4, e3, e2, e1, c2, hgA, hlen, x3, gate, decide_true, decide_false, Bool.not_true, Bool.not_false, bTT, bTF, bFT, bFF, ↓preB, postB, genB, ↓reduceIte, Nat.reduceEqDiff, Int.reduceToNat, Int.reduceLE, Int.reduceLT, Nat.reduceAdd, Nat.reduceLeDiff, intBin, strBin, unD, extractD, lit1, lit2, lit3, keptD, boxR, D.one, D.pub1, D.cells, splice, cutOwn]
  refine Fn.useS (hB f t0) ?_
  simp -dsimp only [e10, e4, e3, e2, e1, c2, hgA, hlen, x3, gate, decide_true, decide_false, Bool.not_true, Bool.not_false, bTT, bTF, bFT, bFF, ↓preB, postB, genB, ↓reduceIte, Nat.reduceEqDiff, Int.reduceToNat, Int.reduceLE, Int.reduceLT, Nat.reduceAdd, Nat.reduceLeDiff, intBin, strBin, unD, extractD, lit1, lit2, lit3, keptD, boxR, D.one, D.pub1, D.cells, splice, cutOwn]
  clear hcw g1 g2 c2
  obtain ⟨n1, hn1⟩ : ∃ n, n = t0 - f := ⟨_, rfl⟩
  rw [← hn1]
  refine pwp_loopJ 2 (fun e τ => ∃ (B : List Tok) (t : Nat) (o : Own), (backW c.back n1 f (s.extract f t0)).1 = B ∧ (backW c.back n1 f (s.extract f t0)).2 = s.extract f t ∧ f ≤ t ∧ t ≤ t0 ∧ Two H 43 4 A.length (encTks A) (e 9) 43 4 0 [] (.sl .nil 0 []) τ ∧ B.length ≤ n1 ∧ e 10 = .sl o B.length (encTks B.reverse) ∧ e 3 = .int .i64 (t : Nat) ∧ e 2 = .int .i64 (f : Nat) ∧ e 1 = .str s)
    (fun (x : Nat × List Tok × Nat) e τ => (backW c.back n1 f (s.extract f t0)).1 = x.2.1 ++ (backW c.back x.1 f (s.extract f x.2.2)).1 ∧ (backW c.back n1 f (s.extract f t0)).2 = (backW c.back x.1 f (s.extract f x.2.2)).2 ∧ f ≤ x.2.2 ∧ x.2.2 ≤ t0 ∧ x.2.2 - f ≤ x.1 ∧ x.2.1.length + (x.2.2 - f) ≤ n1 ∧ Two H 43 4 A.length (encTks A) (e 9) 43 4 0 [] (.sl .nil 0 []) τ ∧
      e 12 = .int .i64 (edgeW sufW c.back (lowB (s.extract f x.2.2)) : Nat) ∧ (∃ o : Own, e 10 = .sl o x.2.1.length (encTks x.2.1.reverse)) ∧ e 4 = .ptr σ.next 0 ∧ e 3 = .int .i64 (x.2.2 : Nat) ∧ e 2 = .int .i64 (f : Nat) ∧ e 1 = .str s) (fun x => x.1) (n1, [], t0) ?_ ?_ ?_
  · simp only [upd_apply, e10, e4, e3, e2, e1, Nat.reduceEqDiff, if_true, if_false]
    exact ⟨rfl, (by first | trivial | rfl | omega), g4, Nat.le_refl _, by omega, by simp; omega, hT, (by first | trivial | rfl | omega), ⟨.nil, (by first | trivial | rfl | omega)⟩, (by first | trivial | rfl | omega), (by first | trivial | rfl | omega), (by first | trivial | rfl | omega), (by first | trivial | rfl | omega)⟩
  · clear e10 e4 e3 e2 e1 hT hgA
    rintro ⟨k, B, t⟩ e τ ⟨g1, g2, g3', g4', g5, g6', hT, e12, ⟨o, e10⟩, e4, e3, e2, e1⟩
    simp only [] at g1 g2 g3' g4' g5 g6' hT e12 e10 e3
    have hn := edgeW_lt sufW c.back (lowB (s.extract f t))
    rw [lowB_size, hsz _ _ (by omega)] at hn
    have hB' := hB
    by_cases nz : edgeW sufW c.back (lowB (s.extract f t)) = 0
    · have c2 : ¬ (0 : Int) < (edgeW sufW c.back (lowB (s.extract f t)) : Nat) := by omega
      simp -dsimp only [e12, e10, e4, e3, e2, e1, c2, exitR_exit, gate, decide_true, decide_false, Bool.not_true, Bool.not_false, bTT, bTF, bFT, bFF, ↓preB, postB, genB, ↓reduceIte, Nat.reduceEqDiff, Int.reduceToNat, Int.reduceLE, Int.reduceLT, Nat.reduceAdd, Nat.reduceLeDiff, intBin, strBin, unD, extractD, lit1, lit2, lit3, keptD, boxR, D.one, D.pub1, D.cells, splice, cutOwn]
      have : backW c.back k f (s.extract f t) = ([], s.extract f t) := backW_zero nz
      rw [this] at g1 g2
      exact ⟨B, t, o, by rw [g1, List.append_nil], g2, g3', g4', hT, by omega, (by first | trivial | rfl | omega), (by first | trivial | rfl | omega)⟩
    · obtain ⟨k, rfl⟩ : ∃ j, k = j + 1 := ⟨k - 1, by omega⟩
      rw [hbk k f t g3' (by omega), if_neg nz] at g1 g2
      generalize edgeW sufW c.back (lowB (s.extract f t)) = n at *
      have c2 : (0 : Int) < (n : Nat) := by omega
      have w1 : IntKind.i64.wrap ((t : Int) - (n : Int)) = ((t - n : Nat) : Int) := by rw [wrap64_in (by omega) (by omega)]; omega
      have hK := tokenR_c s (t - n) t 5 (by omega) (by omega)
      simp only [encTk] at hK
      simp -dsimp only [e12, e10, e4, e3, e2, e1, c2, w1, exitR_exit, gate, decide_true, decide_false, Bool.not_true, Bool.not_false, bTT, bTF, bFT, bFF, ↓preB, postB, genB, ↓reduceIte, Nat.reduceEqDiff, Int.reduceToNat, Int.reduceLE, Int.reduceLT, Nat.reduceAdd, Nat.reduceLeDiff, intBin, strBin, unD, extractD, lit1, lit2, lit3, keptD, boxR, D.one, D.pub1, D.cells, splice, cutOwn]
      refine Fn.use hK ?_
      simp -dsimp only [e12, e10, e4, e3, e2, e1, c2, w1, bs27, exitR_exit, gate, decide_true, decide_false, Bool.not_true, Bool.not_false, bTT, bTF, bFT, bFF, ↓preB, postB, genB, ↓reduceIte, Nat.reduceEqDiff, Int.reduceToNat, Int.reduceLE, Int.reduceLT, Nat.reduceAdd, Nat.reduceLeDiff, intBin, strBin, unD, extractD, lit1, lit2, lit3, keptD, boxR, D.one, D.pub1, D.cells, splice, cutOwn]
      refine hT.lit hcl1 tz39 rfl tz43 rfl rfl (by decide) rfl (fedBy_sl (m := B.length) tz39 rfl (by rw [encTks_len, List.length_reverse]; simp only []; omega)) (by simp only []; omega) (by simp only [big]; omega) fun o6 τ6 hT6 => ?_
      have hg6 := hT6.le.get _ _ hg1
      have c3 : (f : Int) ≤ ((t - n : Nat) : Int) ∧ ((t - n : Nat) : Int) ≤ s.size := ⟨by omega, by omega⟩
      simp -dsimp only [e12, e10, e4, e3, e2, e1, c2, w1, exitR_exit, gate, decide_true, decide_false, Bool.not_true, Bool.not_false, bTT, bTF, bFT, bFF, ↓preB, postB, genB, ↓reduceIte, Nat.reduceEqDiff, Int.reduceToNat, Int.reduceLE, Int.reduceLT, Nat.reduceAdd, Nat.reduceLeDiff, intBin, strBin, unD, extractD, lit1, lit2, lit3, keptD, boxR, D.one, D.pub1, D.cells, splice, cutOwn]
      refine draw_s ?_
      simp -dsimp only [e12, e10, e4, e3, e2, e1, c2, c3, w1, hg6, hlen, x3, exitR_exit, gate, decide_true, decide_false, Bool.not_true, Bool.not_false, bTT, bTF, bFT, bFF, ↓preB, postB, genB, ↓reduceIte, Nat.reduceEqDiff, Int.reduceToNat, Int.reduceLE, Int.reduceLT, Nat.reduceAdd, Nat.reduceLeDiff, intBin, strBin, unD, extractD, lit1, lit2, lit3, keptD, boxR, D.one, D.pub1, D.cells, splice, cutOwn]
      refine Fn.useS (hB' f (t - n)) ?_
      simp -dsimp only [e12, e10, e4, e3, e2, e1, c2, c3, w1, hg6, hlen, x3, exitR_exit, gate, decide_true, decide_false, Bool.not_true, Bool.not_false, bTT, bTF, bFT, bFF, ↓preB, postB, genB, ↓reduceIte, Nat.reduceEqDiff, Int.reduceToNat, Int.reduceLE, Int.reduceLT, Nat.reduceAdd, Nat.reduceLeDiff, intBin, strBin, unD, extractD, lit1, lit2, lit3, keptD, boxR, D.one, D.pub1, D.cells, splice, cutOwn]
      refine ⟨(k, B ++ [⟨(t - n : Nat), (t : Nat), 5, s.extract (t - n) t⟩], t - n), ⟨by rw [g1]; simp, g2, by simp only []; omega, by simp only []; omega, by simp only []; omega, by simp only [List.length_append, List.length_cons, List.length_nil]; omega, hT6, rfl, ⟨o6, ?_⟩, rfl⟩, Nat.lt_succ_self _⟩
      simp only [List.reverse_append, List.reverse_cons, List.reverse_nil, List.nil_append, List.singleton_append, List.cons_append, encTks_cons, encTk, List.length_append, List.length_cons, List.length_nil]
      rw [Nat.add_comm]
  clear e10 e4 e3 e2 e1 hT hgA
  rintro env τ ⟨B, t, o, g1, g2, g3', g4', hT, g6', e10, e3, e2, e1⟩
  rw [g1, g2, hsz f t (by omega)]
  have hK := tokenR_c s f t 0 (by omega) (by omega)
  simp only [encTk] at hK
  simp -dsimp only [e10, e3, e2, e1, gate, decide_true, decide_false, Bool.not_true, Bool.not_false, bTT, bTF, bFT, bFF, ↓preB, postB, genB, ↓reduceIte, Nat.reduceEqDiff, Int.reduceToNat, Int.reduceLE, Int.reduceLT, Nat.reduceAdd, Nat.reduceLeDiff, intBin, strBin, unD, extractD, lit1, lit2, lit3, keptD, boxR, D.one, D.pub1, D.cells, splice, cutOwn]
  refine Fn.use hK ?_
  simp -dsimp only [e10, e3, e2, e1, bs27, gate, decide_true, decide_false, Bool.not_true, Bool.not_false, bTT, bTF, bFT, bFF, ↓preB, postB, genB, ↓reduceIte, Nat.reduceEqDiff, Int.reduceToNat, Int.reduceLE, Int.reduceLT, Nat.reduceAdd, Nat.reduceLeDiff, intBin, strBin, unD, extractD, lit1, lit2, lit3, keptD, boxR, D.one, D.pub1, D.cells, splice, cutOwn]
  refine hT.append hcl1 tz39 rfl tz43 rfl rfl rfl (by decide) (by rw [encTks_len]; simp only []; omega) (fedBy_sl (m := 1) tz39 rfl rfl) (by decide) (by simp only []; omega) (by simp only [big]; omega) fun d6 τ6 hT6 _ => ?_
  simp -dsimp only [e10, e3, e2, e1, gate, decide_true, decide_false, Bool.not_true, Bool.not_false, bTT, bTF, bFT, bFF, ↓preB, postB, genB, ↓reduceIte, Nat.reduceEqDiff, Int.reduceToNat, Int.reduceLE, Int.reduceLT, Nat.reduceAdd, Nat.reduceLeDiff, intBin, strBin, unD, extractD, lit1, lit2, lit3, keptD, boxR, D.one, D.pub1, D.cells, splice, cutOwn]
  refine hT6.acc.append hcl1 tz39 rfl tz43 rfl rfl rfl (by decide) (by rw [List.length_append, encTks_len]; simp only [List.length_cons, List.length_nil]; omega) (fedBy_sl (m := B.length) tz39 rfl (by rw [encTks_len, List.length_reverse]; simp only []; omega)) (by simp only []; omega) (by simp only [big]; omega) fun d7 τ7 hA7 => ?_
  simp -dsimp only [↓preB, postB, genB, ↓reduceIte, Nat.reduceEqDiff, Int.reduceToNat, Int.reduceLE, Int.reduceLT, Nat.reduceAdd, Nat.reduceLeDiff, intBin, strBin, unD, extractD, lit1, lit2, lit3, keptD, boxR, D.one, D.pub1, D.cells, splice, cutOwn]
  have hft : f + (t - f) = t := by omega
  rw [hft]
  have eq1 : (A ++ (⟨f, t, 0, s.extract f t⟩ : Tok) :: B.reverse).length = A.length + 1 + B.length := by simp; omega
  have eq2 : encTks (A ++ (⟨f, t, 0, s.extract f t⟩ : Tok) :: B.reverse) = encTks A ++ [.int .i64 f, .int .i64 t, .int .i64 0, .str (s.extract f t)] ++ encTks B.reverse := by
    rw [encTks_append, encTks_cons, List.append_assoc]; rfl
  rw [eq1, eq2]
  refine Ret.less (hle1.trans hA7.le) hcl hA7.told (.no ?_)
  rw [← eq2]
  exact bel_tks _
end Go.Proofs.YtapkbkniooleaaaGreat.Vs
