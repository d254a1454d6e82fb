/- numbers of Ytapkbkniooleaaa -/
import Derived.Test.YtapkbkniooleaaaTkL
import Derived.Test.YtapkbkniooleaaaTkN
namespace Go.Proofs.Ytapkbkniooleaaa.Vs
set_option linter.unusedVariables false
set_option linter.unusedSimpArgs false
set_option maxRecDepth 100000
/-- What is found: how long it is, and its kind. -/
def bestS (b f : Nat × Int) : Nat × Int := if b.1 < f.1 then f else b
def bestW (c : Cut) (t : ByteArray) : Nat × Int := [(unitW c.words t, 3), (unitW c.short t, 3), (numW t, 1), (wordW t, 0), (1, 2)].foldl bestS (0, 2)
def someW (c : Cut) (s : ByteArray) (at' n : Nat) (k : Int) : List Tok := if k = 0 then cliticsW c.front c.back at' (s.extract at' (at' + n)) else [⟨at', (at' + n : Nat), k, s.extract at' (at' + n)⟩]
def cutW (c : Cut) (s : ByteArray) : Nat → Nat → List Tok
  | 0, a => []
  | k + 1, a => if a < s.size then (if isBlankI (byteAt s a) = true then cutW c s k (a + 1) else someW c s a (bestW c (sfx s a)).1 (bestW c (sfx s a)).2 ++ cutW c s k (a + (bestW c (sfx s a)).1)) else []
/-- The tokens of a text, and what is wrong. -/
def tokW (c : Cut) (s : ByteArray) : List Tok × Int := if valW c ≠ 0 then ([], valW c) else if 6000 < s.size then ([], 3) else if 200 < (cutW c s s.size 0).length then ([], 3) else (cutW c s s.size 0, 0)
def encTok (r : List Tok × Int) : D := .tup [.sl .no r.1.length (encTks r.1), .int .i64 r.2]
theorem cutW_step {c : Cut} {s : ByteArray} {k a : Nat} : cutW c s (k + 1) a = if a < s.size then (if isBlankI (byteAt s a) = true then cutW c s k (a + 1) else someW c s a (bestW c (sfx s a)).1 (bestW c (sfx s a)).2 ++ cutW c s k (a + (bestW c (sfx s a)).1)) else [] := rfl
def fnds (c : Cut) (t : ByteArray) : List (D × Nat × Int) := [(.iface 43 (encSS c.words), unitW c.words t, 3), (.iface 43 (encSS c.short), unitW c.short t, 3), (.iface 45 (.agg []), numW t, 1), (.iface 46 (.agg []), wordW t, 0), (.iface 47 (.agg []), 1, 2)]
def fndS (b f : D × Nat × Int) : D × Nat × Int := if b.2.1 < f.2.1 then f else b
def fndW (c : Cut) (t : ByteArray) (k : Nat) : D × Nat × Int := ((fnds c t).take k).foldl fndS (.iface 47 (.agg []), 0, 2)
theorem fndW_all (c : Cut) (t : ByteArray) : (fndW c t 5).2 = bestW c t := by
  have key : ∀ (l : List (D × Nat × Int)) (b : D × Nat × Int), (l.foldl fndS b).2 = (l.map (·.2)).foldl bestS b.2 := by
    intro l
    induction l with
    | nil => exact fun _ => rfl
    | cons x l ih =>
      intro b
      rw [List.foldl_cons, List.map_cons, List.foldl_cons, ih]
      congr 1
      unfold fndS bestS
      split <;> rfl
  exact key _ _
theorem fndW_succ (c : Cut) (t : ByteArray) {k : Nat} {x : D × Nat × Int} (h : (fnds c t)[k]? = some x) : fndW c t (k + 1) = fndS (fndW c t k) x := by
  unfold fndW
  rw [List.take_add_one, h, List.foldl_append]
  rfl
theorem fndW_kind (c : Cut) (t : ByteArray) (k : Nat) : Fn Zs 17 [(fndW c t k).1] (.int .i64 (fndW c t k).2.2) := by
  have key : ∀ (l : List (D × Nat × Int)) (b : D × Nat × Int), Fn Zs 17 [b.1] (.int .i64 b.2.2) → (∀ x ∈ l, Fn Zs 17 [x.1] (.int .i64 x.2.2)) → Fn Zs 17 [(l.foldl fndS b).1] (.int .i64 (l.foldl fndS b).2.2) := by
    intro l
    induction l with
    | nil => exact fun b h _ => h
    | cons x l ih =>
      intro b h hl
      refine ih _ ?_ fun y hy => hl y (List.mem_cons_of_mem _ hy)
      unfold fndS
      split
      · exact hl x List.mem_cons_self
      · exact h
  refine key _ _ kindOf_sign fun x hx => ?_
  have hx := List.mem_of_mem_take hx
  simp only [fnds, List.mem_cons, List.not_mem_nil, or_false] at hx
  rcases hx with rfl | rfl | rfl | rfl | rfl
  · exact kindOf_units _
  · exact kindOf_units _
  · exact kindOf_numbers
  · exact kindOf_wordlike
  · exact kindOf_sign
theorem bestS_ge {b f : Nat × Int} {n : Nat} (h : n ≤ b.1 ∨ n ≤ f.1) : n ≤ (bestS b f).1 := by
  unfold bestS
  split <;> omega
theorem bestS_le {b f : Nat × Int} {n : Nat} (h1 : b.1 ≤ n) (h2 : f.1 ≤ n) : (bestS b f).1 ≤ n := by
  unfold bestS
  split <;> omega
theorem bestW_pos (c : Cut) (t : ByteArray) : 1 ≤ (bestW c t).1 := by
  unfold bestW
  simp only [List.foldl_cons, List.foldl_nil]
  exact bestS_ge (.inr (Nat.le_refl _))
theorem bestW_le (c : Cut) {t : ByteArray} (h : 1 ≤ t.size) : (bestW c t).1 ≤ t.size := by
  unfold bestW
  simp only [List.foldl_cons, List.foldl_nil]
  exact bestS_le (bestS_le (bestS_le (bestS_le (bestS_le (Nat.zero_le _) (unitW_le _ _)) (unitW_le _ _)) (numW_le _)) (wordW_le _)) h
def fndD (c : Cut) : List D := [.iface 43 (encSS c.words), .iface 43 (encSS c.short), .iface 45 (.agg []), .iface 46 (.agg []), .iface 47 (.agg [])]
theorem frontW_len (l : List ByteArray) : ∀ (k f : Nat) (s : ByteArray), (frontW l k f s).1.length + (frontW l k f s).2.2.size ≤ s.size
  | 0, f, s => by simp [frontW]
  | k + 1, f, s => by
    have hn := edgeW_lt preW l (lowB s)
    rw [lowB_size] at hn
    by_cases h : edgeW preW l (lowB s) = 0
    · rw [frontW_zero h]; simp
    · have ih := frontW_len l k (f + edgeW preW l (lowB s)) (s.extract (edgeW preW l (lowB s)) s.size)
      simp only [frontW, if_neg h, List.length_cons]
      rw [ByteArray.size_extract] at ih
      omega
theorem backW_len (l : List ByteArray) : ∀ (k f : Nat) (s : ByteArray), (backW l k f s).1.length + (backW l k f s).2.size ≤ s.size
  | 0, f, s => by simp [backW]
  | k + 1, f, s => by
    have hn := edgeW_lt sufW l (lowB s)
    rw [lowB_size] at hn
    by_cases h : edgeW sufW l (lowB s) = 0
    · rw [backW_zero h]; simp
    · have ih := backW_len l k f (s.extract 0 (s.size - edgeW sufW l (lowB s)))
      simp only [backW, if_neg h, List.length_cons]
      rw [ByteArray.size_extract] at ih
      omega
theorem cliticsW_len (front back : Wd) (f : Nat) (s : ByteArray) : (cliticsW front back f s).length ≤ s.size + 1 := by
  have h1 := frontW_len front s.size f s
  have h2 := backW_len back (frontW front s.size f s).2.2.size (frontW front s.size f s).2.1 (frontW front s.size f s).2.2
  unfold cliticsW
  simp only [List.length_append, List.length_cons, List.length_reverse]
  omega
theorem ab45 : aBuilt Zs 45 [] = some [] := by rfl
theorem ab46 : aBuilt Zs 46 [] = some [] := by rfl
theorem ab47 : aBuilt Zs 47 [] = some [] := by rfl
theorem bs48 (a b c d e : TypeId) (x1 x2 x3 x4 x5 : D) (nx : Nat) : buildSliceR Zs 0 48 5 [(0, .iface a x1), (1, .iface b x2), (2, .iface c x3), (3, .iface d x4), (4, .iface e x5)] nx = some (.sl .full 5 [.iface a x1, .iface b x2, .iface c x3, .iface d x4, .iface e x5], .keep) := by rfl
theorem Two.acc {σ0 σ : Heap} {e e' : TypeId} {z z' n n' : Nat} {cs cs' : List D} {d d' : D} (h : Two σ0 e z n cs d e' z' n' cs' d' σ) : Acc e z σ0 n cs d σ := by
  rcases h.one with ⟨rfl, rfl, rfl⟩ | ⟨r, h1, h2, h3⟩
  · exact .nil h.le
  · exact .inr (.inr ⟨r, h2, h1, h3, h.le⟩)
theorem Tokens_c (c : Cut) (s : ByteArray) : Fn Zs 8 [encC c, .str s] (encTok (tokW c s)) := by
  refine fn_of (Z := Zs) ok8 fun σ hcl hbl => ?_
  simp -dsimp only [L8, encC, ↓preB, postB, genB, ↓reduceIte, Nat.reduceEqDiff, Int.reduceToNat, Int.reduceLE, Int.reduceLT, Nat.reduceAdd, Nat.reduceLeDiff, intBin, strBin, unD, extractD, lit1, lit2, lit3, keptD, boxR, D.one, D.pub1, D.cells, splice, cutOwn]
  obtain ⟨H, hH⟩ : ∃ H, H = σ.new (.cells 24 (cellsC c)) := ⟨_, rfl⟩
  have hcl1 : Closed H := by rw [hH]; exact hcl.new (bel_C c)
  have hle1 : HLe σ H := by rw [hH]; exact HLe.self_new _ hcl
  have hg1 : H.get σ.next = some (.cells 24 (cellsC c)) := by rw [hH]; exact Heap.new_same _ _
  rw [← hH]
  clear hH
  have hlen : (cellsC c).length = 4 := rfl
  have htk : (cellsC c).take 4 = cellsC c := rfl
  have none : ∀ (x : Int) (τ : Heap), HLe H τ → Ret σ (fun d τ => d = encTok ([], x) ∧ τ = σ) (.tup [.sl .nil 0 [], .int .i64 x]) τ := fun x τ h => Ret.less (hle1.trans h) hcl (.tup _ _ rfl fun i h1 h2 => by
    match i, h1, h2 with
    | 0, _, _ => exact .sl .nil .no 0 [] _ (.inl rfl) rfl fun i h => absurd h (Nat.not_lt_zero _)
    | 1, _, _ => exact .refl _) (.tup _ fun d hd => by
    simp only [List.mem_cons, List.not_mem_nil, or_false] at hd
    rcases hd with rfl | rfl
    · exact .sl _ _ _ (fun r z he => by cases he) (fun d hd => absurd hd List.not_mem_nil)
    · exact .int _ _)
  have hV := Validate_c c
  unfold encC at hV
  simp -dsimp only [hg1, hlen, htk, List.drop_zero, ↓preB, postB, genB, ↓reduceIte, Nat.reduceEqDiff, Int.reduceToNat, Int.reduceLE, Int.reduceLT, Nat.reduceAdd, Nat.reduceLeDiff, intBin, strBin, unD, extractD, lit1, lit2, lit3, keptD, boxR, D.one, D.pub1, D.cells, splice, cutOwn]
  refine Fn.use hV ?_
  by_cases v0 : valW c = 0
  · have c0 : (valW c != 0) = false := by rw [v0]; rfl
    simp -dsimp only [hg1, hlen, htk, c0, List.drop_zero, ↓preB, postB, genB, ↓reduceIte, Nat.reduceEqDiff, Int.reduceToNat, Int.reduceLE, Int.reduceLT, Nat.reduceAdd, Nat.reduceLeDiff, intBin, strBin, unD, extractD, lit1, lit2, lit3, keptD, boxR, D.one, D.pub1, D.cells, splice, cutOwn]
    intro hbs
    by_cases s0 : (6000 : Int) < s.size
    · have ht : tokW c s = ([], 3) := by unfold tokW; rw [if_neg (by omega), if_pos (by omega)]
      rw [ht]
      simp -dsimp only [hg1, hlen, htk, c0, s0, List.drop_zero, ↓preB, postB, genB, ↓reduceIte, Nat.reduceEqDiff, Int.reduceToNat, Int.reduceLE, Int.reduceLT, Nat.reduceAdd, Nat.reduceLeDiff, intBin, strBin, unD, extractD, lit1, lit2, lit3, keptD, boxR, D.one, D.pub1, D.cells, splice, cutOwn]
      exact none _ _ (HLe.refl _)
    have ht : tokW c s = if 200 < (cutW c s s.size 0).length then ([], 3) else (cutW c s s.size 0, 0) := by unfold tokW; rw [if_neg (by omega), if_neg (by omega)]
    simp -dsimp only [hg1, hlen, htk, c0, s0, List.drop_zero, ↓preB, postB, genB, ↓reduceIte, Nat.reduceEqDiff, Int.reduceToNat, Int.reduceLE, Int.reduceLT, Nat.reduceAdd, Nat.reduceLeDiff, intBin, strBin, unD, extractD, lit1, lit2, lit3, keptD, boxR, D.one, D.pub1, D.cells, splice, cutOwn]
    simp -dsimp only [hg1, hlen, htk, c0, s0, cellsC, List.getElem?_cons_zero, List.getElem?_cons_succ, ab45, ab46, ab47, Option.map_some, bs48, List.drop_zero, ↓preB, postB, genB, ↓reduceIte, Nat.reduceEqDiff, Int.reduceToNat, Int.reduceLE, Int.reduceLT, Nat.reduceAdd, Nat.reduceLeDiff, intBin, strBin, unD, extractD, lit1, lit2, lit3, keptD, boxR, D.one, D.pub1, D.cells, splice, cutOwn]
    rw [ht]
    obtain ⟨L, hL⟩ : ∃ L, L = cutW c s s.size 0 := ⟨_, rfl⟩
    rw [← hL]
    refine pwp_loopJ 0 (fun e τ => L.length ≤ 200 ∧ Acc 35 4 H L.length (encTks L) (e 8) τ) (fun (x : Nat × Nat × List Tok) env τ => L = x.2.2 ++ cutW c s x.1 x.2.1 ∧ x.2.1 ≤ s.size ∧ s.size ≤ x.1 + x.2.1 ∧ x.2.2.length ≤ 200 ∧ Acc 35 4 H x.2.2.length (encTks x.2.2) (env 8) τ ∧ env 7 = .sl .full 5 (fndD c) ∧ env 9 = .int .i64 (x.2.1 : Nat) ∧ env 1 = .str s ∧ env 2 = .ptr σ.next 0) (fun x => x.1) (s.size, 0, []) ?_ ?_ ?_
    · simp only [upd_apply, envOf_apply, Nat.reduceEqDiff, if_true, if_false]
      exact ⟨hL, Nat.zero_le _, Nat.le_refl _, Nat.zero_le _, .nil (HLe.refl _), (by first | trivial | rfl | omega), (by first | trivial | rfl | omega), (by first | trivial | rfl | omega), (by first | trivial | rfl | omega)⟩
    · rintro ⟨k, a, A⟩ env τ ⟨hp, h1, h2, hA, hacc, h7, h9, hs1, e2⟩
      simp only [] at hp h1 h2 hA hacc h9
      by_cases a0 : (a : Int) < s.size
      · have a1 : a < s.size := by omega
        obtain ⟨k, rfl⟩ : ∃ j, k = j + 1 := ⟨k - 1, by omega⟩
        rw [cutW_step, if_pos a1] at hp
        simp -dsimp only [h7, h9, hs1, e2, a0, a1, exitR_ret, gate, decide_true, decide_false, Bool.not_true, Bool.not_false, bTT, bTF, bFT, bFF, ↓preB, postB, genB, ↓reduceIte, Nat.reduceEqDiff, Int.reduceToNat, Int.reduceLE, Int.reduceLT, Nat.reduceAdd, Nat.reduceLeDiff, intBin, strBin, unD, extractD, lit1, lit2, lit3, keptD, boxR, D.one, D.pub1, D.cells, splice, cutOwn]
        intro _
        refine Fn.use (isBlank_c _) ?_
        cases q1 : isBlankI (byteAt s a)
        · rw [q1, if_neg (by decide)] at hp
          simp -dsimp only [h7, h9, hs1, e2, a0, a1, q1, exitR_ret, gate, decide_true, decide_false, Bool.not_true, Bool.not_false, bTT, bTF, bFT, bFF, ↓preB, postB, genB, ↓reduceIte, Nat.reduceEqDiff, Int.reduceToNat, Int.reduceLE, Int.reduceLT, Nat.reduceAdd, Nat.reduceLeDiff, intBin, strBin, unD, extractD, lit1, lit2, lit3, keptD, boxR, D.one, D.pub1, D.cells, splice, cutOwn]
          obtain ⟨t, htt⟩ : ∃ t, t = sfx s a := ⟨_, rfl⟩
          rw [← htt] at hp
          have hse : s.extract a s.size = t := htt.symm
          have hts : t.size = s.size - a := by rw [htt, sfx_size]
          have hpos := bestW_pos c t
          have hble := bestW_le c (t := t) (by omega)
          simp -dsimp only [ab47, Option.map_some, h7, h9, hs1, e2, a0, a1, q1, exitR_ret, gate, decide_true, decide_false, Bool.not_true, Bool.not_false, bTT, bTF, bFT, bFF, ↓preB, postB, genB, ↓reduceIte, Nat.reduceEqDiff, Int.reduceToNat, Int.reduceLE, Int.reduceLT, Nat.reduceAdd, Nat.reduceLeDiff, intBin, strBin, unD, extractD, lit1, lit2, lit3, keptD, boxR, D.one, D.pub1, D.cells, splice, cutOwn]
          intro _
          refine pwp_loopJ 2 (fun e τ' => τ' = τ ∧ e 10 = (fndW c t 5).1 ∧ e 11 = .int .i64 ((fndW c t 5).2.1 : Nat) ∧ e 8 = env 8 ∧ e 7 = .sl .full 5 (fndD c) ∧ e 9 = .int .i64 (a : Nat) ∧ e 1 = .str s ∧ e 2 = .ptr σ.next 0) (fun i e τ' => i ≤ 5 ∧ τ' = τ ∧ e 10 = (fndW c t i).1 ∧ e 11 = .int .i64 ((fndW c t i).2.1 : Nat) ∧ e 51 = .int .i64 (i : Nat) ∧ e 50 = .int .i64 5 ∧ e 49 = .sl .full 5 (fndD c) ∧ e 8 = env 8 ∧ e 7 = .sl .full 5 (fndD c) ∧ e 9 = .int .i64 (a : Nat) ∧ e 1 = .str s ∧ e 2 = .ptr σ.next 0) (fun i => 5 - i) 0 ?_ ?_ ?_
          · simp only [upd_apply, h7, h9, hs1, e2, Nat.reduceEqDiff, if_true, if_false]
            exact ⟨Nat.zero_le _, (by first | trivial | rfl | omega), (by first | trivial | rfl | omega), (by first | trivial | rfl | omega), (by first | trivial | rfl | omega), (by first | trivial | rfl | omega), (by first | trivial | rfl | omega), (by first | trivial | rfl | omega), (by first | trivial | rfl | omega), (by first | trivial | rfl | omega), (by first | trivial | rfl | omega), (by first | trivial | rfl | omega)⟩
          · clear h7 h9 hs1 e2
            rintro i e τ' ⟨hi, rfl, g10, g11, g51, g50, g49, g8, h7, h9, hs1, e2⟩
            rcases (show i = 5 ∨ i = 0 ∨ i = 1 ∨ i = 2 ∨ i = 3 ∨ i = 4 by omega) with rfl | rfl | rfl | rfl | rfl | rfl
            · simp -dsimp only [g51, g50, g49, g8, h7, h9, hs1, e2, g10, g11, exitR_exit, show ¬ (((5 : Nat) : Int) < 5) by decide, gate, decide_true, decide_false, Bool.not_true, Bool.not_false, bTT, bTF, bFT, bFF, ↓preB, postB, genB, ↓reduceIte, Nat.reduceEqDiff, Int.reduceToNat, Int.reduceLE, Int.reduceLT, Nat.reduceAdd, Nat.reduceLeDiff, intBin, strBin, unD, extractD, lit1, lit2, lit3, keptD, boxR, D.one, D.pub1, D.cells, splice, cutOwn]
            · have hF := fndW_succ c t (k := 0) rfl
              have hx : (fndD c)[0]? = some (.iface 43 (encSS c.words)) := rfl
              have hC := units_c c.words t
              generalize fndW c t 0 = b at g10 g11 hF
              have n1 : ((0 : Nat) : Int) < 5 := by decide
              have n2 : 0 < (fndD c).length := by show 0 < 5; decide
              have w1 : IntKind.i64.wrap (((0 : Nat) : Int) + 1) = ((1 : Nat) : Int) := by decide
              simp -dsimp only [g51, g50, g49, g10, g11, h7, h9, hs1, e2, hx, n1, n2, exitR_ret, gate, decide_true, decide_false, Bool.not_true, Bool.not_false, bTT, bTF, bFT, bFF, ↓preB, postB, genB, ↓reduceIte, Nat.reduceEqDiff, Int.reduceToNat, Int.reduceLE, Int.reduceLT, Nat.reduceAdd, Nat.reduceLeDiff, intBin, strBin, unD, extractD, lit1, lit2, lit3, keptD, boxR, D.one, D.pub1, D.cells, splice, cutOwn]
              refine ⟨by decide, draw_s ?_⟩
              have c2 : (a : Int) ≤ s.size := by omega
              have c3 : (0 : Int) ≤ (a : Int) := by omega
              simp -dsimp only [g51, g50, g49, g10, g11, h7, h9, hs1, e2, hx, n1, n2, c2, c3, hse, exitR_ret, gate, decide_true, decide_false, Bool.not_true, Bool.not_false, bTT, bTF, bFT, bFF, ↓preB, postB, genB, ↓reduceIte, Nat.reduceEqDiff, Int.reduceToNat, Int.reduceLE, Int.reduceLT, Nat.reduceAdd, Nat.reduceLeDiff, intBin, strBin, unD, extractD, lit1, lit2, lit3, keptD, boxR, D.one, D.pub1, D.cells, splice, cutOwn]
              refine ⟨Int.le_refl _, Fn.useS hC ?_⟩
              by_cases c4 : ((b.2.1 : Nat) : Int) < ((unitW c.words t : Nat) : Int)
              · have hF2 : fndW c t (0 + 1) = (.iface 43 (encSS c.words), unitW c.words t, 3) := by rw [hF, fndS, if_pos (by simp only []; omega)]
                simp -dsimp only [g51, g50, g49, g10, g11, g8, h7, h9, hs1, e2, hx, n1, n2, c2, c3, c4, hse, exitR_ret, gate, decide_true, decide_false, Bool.not_true, Bool.not_false, bTT, bTF, bFT, bFF, ↓preB, postB, genB, ↓reduceIte, Nat.reduceEqDiff, Int.reduceToNat, Int.reduceLE, Int.reduceLT, Nat.reduceAdd, Nat.reduceLeDiff, intBin, strBin, unD, extractD, lit1, lit2, lit3, keptD, boxR, D.one, D.pub1, D.cells, splice, cutOwn]
                exact ⟨1, ⟨by decide, by rw [hF2], by rw [hF2], w1⟩, by decide⟩
              · have hF2 : fndW c t (0 + 1) = b := by rw [hF, fndS, if_neg (by simp only []; omega)]
                simp -dsimp only [g51, g50, g49, g10, g11, g8, h7, h9, hs1, e2, hx, n1, n2, c2, c3, c4, hse, exitR_ret, gate, decide_true, decide_false, Bool.not_true, Bool.not_false, bTT, bTF, bFT, bFF, ↓preB, postB, genB, ↓reduceIte, Nat.reduceEqDiff, Int.reduceToNat, Int.reduceLE, Int.reduceLT, Nat.reduceAdd, Nat.reduceLeDiff, intBin, strBin, unD, extractD, lit1, lit2, lit3, keptD, boxR, D.one, D.pub1, D.cells, splice, cutOwn]
                exact ⟨1, ⟨by decide, by rw [hF2], by rw [hF2], w1⟩, by decide⟩
            · have hF := fndW_succ c t (k := 1) rfl
              have hx : (fndD c)[1]? = some (.iface 43 (encSS c.short)) := rfl
              have hC := units_c c.short t
              generalize fndW c t 1 = b at g10 g11 hF
              have n1 : ((1 : Nat) : Int) < 5 := by decide
              have n2 : 0 < (fndD c).length := by show 0 < 5; decide
              have w1 : IntKind.i64.wrap (((1 : Nat) : Int) + 1) = ((2 : Nat) : Int) := by decide
              simp -dsimp only [g51, g50, g49, g10, g11, h7, h9, hs1, e2, hx, n1, n2, exitR_ret, gate, decide_true, decide_false, Bool.not_true, Bool.not_false, bTT, bTF, bFT, bFF, ↓preB, postB, genB, ↓reduceIte, Nat.reduceEqDiff, Int.reduceToNat, Int.reduceLE, Int.reduceLT, Nat.reduceAdd, Nat.reduceLeDiff, intBin, strBin, unD, extractD, lit1, lit2, lit3, keptD, boxR, D.one, D.pub1, D.cells, splice, cutOwn]
              refine ⟨by decide, draw_s ?_⟩
              have c2 : (a : Int) ≤ s.size := by omega
              have c3 : (0 : Int) ≤ (a : Int) := by omega
              simp -dsimp only [g51, g50, g49, g10, g11, h7, h9, hs1, e2, hx, n1, n2, c2, c3, hse, exitR_ret, gate, decide_true, decide_false, Bool.not_true, Bool.not_false, bTT, bTF, bFT, bFF, ↓preB, postB, genB, ↓reduceIte, Nat.reduceEqDiff, Int.reduceToNat, Int.reduceLE, Int.reduceLT, Nat.reduceAdd, Nat.reduceLeDiff, intBin, strBin, unD, extractD, lit1, lit2, lit3, keptD, boxR, D.one, D.pub1, D.cells, splice, cutOwn]
              refine ⟨Int.le_refl _, Fn.useS hC ?_⟩
              by_cases c4 : ((b.2.1 : Nat) : Int) < ((unitW c.short t : Nat) : Int)
              · have hF2 : fndW c t (1 + 1) = (.iface 43 (encSS c.short), unitW c.short t, 3) := by rw [hF, fndS, if_pos (by simp only []; omega)]
                simp -dsimp only [g51, g50, g49, g10, g11, g8, h7, h9, hs1, e2, hx, n1, n2, c2, c3, c4, hse, exitR_ret, gate, decide_true, decide_false, Bool.not_true, Bool.not_false, bTT, bTF, bFT, bFF, ↓preB, postB, genB, ↓reduceIte, Nat.reduceEqDiff, Int.reduceToNat, Int.reduceLE, Int.reduceLT, Nat.reduceAdd, Nat.reduceLeDiff, intBin, strBin, unD, extractD, lit1, lit2, lit3, keptD, boxR, D.one, D.pub1, D.cells, splice, cutOwn]
                exact ⟨2, ⟨by decide, by rw [hF2], by rw [hF2], w1⟩, by decide⟩
              · have hF2 : fndW c t (1 + 1) = b := by rw [hF, fndS, if_neg (by simp only []; omega)]
                simp -dsimp only [g51, g50, g49, g10, g11, g8, h7, h9, hs1, e2, hx, n1, n2, c2, c3, c4, hse, exitR_ret, gate, decide_true, decide_false, Bool.not_true, Bool.not_false, bTT, bTF, bFT, bFF, ↓preB, postB, genB, ↓reduceIte, Nat.reduceEqDiff, Int.reduceToNat, Int.reduceLE, Int.reduceLT, Nat.reduceAdd, Nat.reduceLeDiff, intBin, strBin, unD, extractD, lit1, lit2, lit3, keptD, boxR, D.one, D.pub1, D.cells, splice, cutOwn]
                exact ⟨2, ⟨by decide, by rw [hF2], by rw [hF2], w1⟩, by decide⟩
            · have hF := fndW_succ c t (k := 2) rfl
              have hx : (fndD c)[2]? = some (.iface 45 (.agg [])) := rfl
              have hC := numbers_c t
              generalize fndW c t 2 = b at g10 g11 hF
              have n1 : ((2 : Nat) : Int) < 5 := by decide
              have n2 : 0 < (fndD c).length := by show 0 < 5; decide
              have w1 : IntKind.i64.wrap (((2 : Nat) : Int) + 1) = ((3 : Nat) : Int) := by decide
              simp -dsimp only [g51, g50, g49, g10, g11, h7, h9, hs1, e2, hx, n1, n2, exitR_ret, gate, decide_true, decide_false, Bool.not_true, Bool.not_false, bTT, bTF, bFT, bFF, ↓preB, postB, genB, ↓reduceIte, Nat.reduceEqDiff, Int.reduceToNat, Int.reduceLE, Int.reduceLT, Nat.reduceAdd, Nat.reduceLeDiff, intBin, strBin, unD, extractD, lit1, lit2, lit3, keptD, boxR, D.one, D.pub1, D.cells, splice, cutOwn]
              refine ⟨by decide, draw_s ?_⟩
              have c2 : (a : Int) ≤ s.size := by omega
              have c3 : (0 : Int) ≤ (a : Int) := by omega
              simp -dsimp only [g51, g50, g49, g10, g11, h7, h9, hs1, e2, hx, n1, n2, c2, c3, hse, exitR_ret, gate, decide_true, decide_false, Bool.not_true, Bool.not_false, bTT, bTF, bFT, bFF, ↓preB, postB, genB, ↓reduceIte, Nat.reduceEqDiff, Int.reduceToNat, Int.reduceLE, Int.reduceLT, Nat.reduceAdd, Nat.reduceLeDiff, intBin, strBin, unD, extractD, lit1, lit2, lit3, keptD, boxR, D.one, D.pub1, D.cells, splice, cutOwn]
              refine ⟨Int.le_refl _, Fn.useS hC ?_⟩
              by_cases c4 : ((b.2.1 : Nat) : Int) < ((numW t : Nat) : Int)
              · have hF2 : fndW c t (2 + 1) = (.iface 45 (.agg []), numW t, 1) := by rw [hF, fndS, if_pos (by simp only []; omega)]
                simp -dsimp only [g51, g50, g49, g10, g11, g8, h7, h9, hs1, e2, hx, n1, n2, c2, c3, c4, hse, exitR_ret, gate, decide_true, decide_false, Bool.not_true, Bool.not_false, bTT, bTF, bFT, bFF, ↓preB, postB, genB, ↓reduceIte, Nat.reduceEqDiff, Int.reduceToNat, Int.reduceLE, Int.reduceLT, Nat.reduceAdd, Nat.reduceLeDiff, intBin, strBin, unD, extractD, lit1, lit2, lit3, keptD, boxR, D.one, D.pub1, D.cells, splice, cutOwn]
                exact ⟨3, ⟨by decide, by rw [hF2], by rw [hF2], w1⟩, by decide⟩
              · have hF2 : fndW c t (2 + 1) = b := by rw [hF, fndS, if_neg (by simp only []; omega)]
                simp -dsimp only [g51, g50, g49, g10, g11, g8, h7, h9, hs1, e2, hx, n1, n2, c2, c3, c4, hse, exitR_ret, gate, decide_true, decide_false, Bool.not_true, Bool.not_false, bTT, bTF, bFT, bFF, ↓preB, postB, genB, ↓reduceIte, Nat.reduceEqDiff, Int.reduceToNat, Int.reduceLE, Int.reduceLT, Nat.reduceAdd, Nat.reduceLeDiff, intBin, strBin, unD, extractD, lit1, lit2, lit3, keptD, boxR, D.one, D.pub1, D.cells, splice, cutOwn]
                exact ⟨3, ⟨by decide, by rw [hF2], by rw [hF2], w1⟩, by decide⟩
            · have hF := fndW_succ c t (k := 3) rfl
              have hx : (fndD c)[3]? = some (.iface 46 (.agg [])) := rfl
              have hC := wordlike_c t
              generalize fndW c t 3 = b at g10 g11 hF
              have n1 : ((3 : Nat) : Int) < 5 := by decide
              have n2 : 0 < (fndD c).length := by show 0 < 5; decide
              have w1 : IntKind.i64.wrap (((3 : Nat) : Int) + 1) = ((4 : Nat) : Int) := by decide
              simp -dsimp only [g51, g50, g49, g10, g11, h7, h9, hs1, e2, hx, n1, n2, exitR_ret, gate, decide_true, decide_false, Bool.not_true, Bool.not_false, bTT, bTF, bFT, bFF, ↓preB, postB, genB, ↓reduceIte, Nat.reduceEqDiff, Int.reduceToNat, Int.reduceLE, Int.reduceLT, Nat.reduceAdd, Nat.reduceLeDiff, intBin, strBin, unD, extractD, lit1, lit2, lit3, keptD, boxR, D.one, D.pub1, D.cells, splice, cutOwn]
              refine ⟨by decide, draw_s ?_⟩
              have c2 : (a : Int) ≤ s.size := by omega
              have c3 : (0 : Int) ≤ (a : Int) := by omega
              simp -dsimp only [g51, g50, g49, g10, g11, h7, h9, hs1, e2, hx, n1, n2, c2, c3, hse, exitR_ret, gate, decide_true, decide_false, Bool.not_true, Bool.not_false, bTT, bTF, bFT, bFF, ↓preB, postB, genB, ↓reduceIte, Nat.reduceEqDiff, Int.reduceToNat, Int.reduceLE, Int.reduceLT, Nat.reduceAdd, Nat.reduceLeDiff, intBin, strBin, unD, extractD, lit1, lit2, lit3, keptD, boxR, D.one, D.pub1, D.cells, splice, cutOwn]
              refine ⟨Int.le_refl _, Fn.useS hC ?_⟩
              by_cases c4 : ((b.2.1 : Nat) : Int) < ((wordW t : Nat) : Int)
              · have hF2 : fndW c t (3 + 1) = (.iface 46 (.agg []), wordW t, 0) := by rw [hF, fndS, if_pos (by simp only []; omega)]
                simp -dsimp only [g51, g50, g49, g10, g11, g8, h7, h9, hs1, e2, hx, n1, n2, c2, c3, c4, hse, exitR_ret, gate, decide_true, decide_false, Bool.not_true, Bool.not_false, bTT, bTF, bFT, bFF, ↓preB, postB, genB, ↓reduceIte, Nat.reduceEqDiff, Int.reduceToNat, Int.reduceLE, Int.reduceLT, Nat.reduceAdd, Nat.reduceLeDiff, intBin, strBin, unD, extractD, lit1, lit2, lit3, keptD, boxR, D.one, D.pub1, D.cells, splice, cutOwn]
                exact ⟨4, ⟨by decide, by rw [hF2], by rw [hF2], w1⟩, by decide⟩
              · have hF2 : fndW c t (3 + 1) = b := by rw [hF, fndS, if_neg (by simp only []; omega)]
                simp -dsimp only [g51, g50, g49, g10, g11, g8, h7, h9, hs1, e2, hx, n1, n2, c2, c3, c4, hse, exitR_ret, gate, decide_true, decide_false, Bool.not_true, Bool.not_false, bTT, bTF, bFT, bFF, ↓preB, postB, genB, ↓reduceIte, Nat.reduceEqDiff, Int.reduceToNat, Int.reduceLE, Int.reduceLT, Nat.reduceAdd, Nat.reduceLeDiff, intBin, strBin, unD, extractD, lit1, lit2, lit3, keptD, boxR, D.one, D.pub1, D.cells, splice, cutOwn]
                exact ⟨4, ⟨by decide, by rw [hF2], by rw [hF2], w1⟩, by decide⟩
            · have hF := fndW_succ c t (k := 4) rfl
              have hx : (fndD c)[4]? = some (.iface 47 (.agg [])) := rfl
              have hC := sign_c t
              generalize fndW c t 4 = b at g10 g11 hF
              have n1 : ((4 : Nat) : Int) < 5 := by decide
              have n2 : 0 < (fndD c).length := by show 0 < 5; decide
              have w1 : IntKind.i64.wrap (((4 : Nat) : Int) + 1) = ((5 : Nat) : Int) := by decide
              simp -dsimp only [g51, g50, g49, g10, g11, h7, h9, hs1, e2, hx, n1, n2, exitR_ret, gate, decide_true, decide_false, Bool.not_true, Bool.not_false, bTT, bTF, bFT, bFF, ↓preB, postB, genB, ↓reduceIte, Nat.reduceEqDiff, Int.reduceToNat, Int.reduceLE, Int.reduceLT, Nat.reduceAdd, Nat.reduceLeDiff, intBin, strBin, unD, extractD, lit1, lit2, lit3, keptD, boxR, D.one, D.pub1, D.cells, splice, cutOwn]
              refine ⟨by decide, draw_s ?_⟩
              have c2 : (a : Int) ≤ s.size := by omega
              have c3 : (0 : Int) ≤ (a : Int) := by omega
              simp -dsimp only [g51, g50, g49, g10, g11, h7, h9, hs1, e2, hx, n1, n2, c2, c3, hse, exitR_ret, gate, decide_true, decide_false, Bool.not_true, Bool.not_false, bTT, bTF, bFT, bFF, ↓preB, postB, genB, ↓reduceIte, Nat.reduceEqDiff, Int.reduceToNat, Int.reduceLE, Int.reduceLT, Nat.reduceAdd, Nat.reduceLeDiff, intBin, strBin, unD, extractD, lit1, lit2, lit3, keptD, boxR, D.one, D.pub1, D.cells, splice, cutOwn]
              refine ⟨Int.le_refl _, Fn.useS hC ?_⟩
              by_cases c4 : ((b.2.1 : Nat) : Int) < 1
              · have hF2 : fndW c t (4 + 1) = (.iface 47 (.agg []), 1, 2) := by rw [hF, fndS, if_pos (by simp only []; omega)]
                simp -dsimp only [g51, g50, g49, g10, g11, g8, h7, h9, hs1, e2, hx, n1, n2, c2, c3, c4, hse, exitR_ret, gate, decide_true, decide_false, Bool.not_true, Bool.not_false, bTT, bTF, bFT, bFF, ↓preB, postB, genB, ↓reduceIte, Nat.reduceEqDiff, Int.reduceToNat, Int.reduceLE, Int.reduceLT, Nat.reduceAdd, Nat.reduceLeDiff, intBin, strBin, unD, extractD, lit1, lit2, lit3, keptD, boxR, D.one, D.pub1, D.cells, splice, cutOwn]
                exact ⟨5, ⟨by decide, by rw [hF2], by rw [hF2]; rfl, w1⟩, by decide⟩
              · have hF2 : fndW c t (4 + 1) = b := by rw [hF, fndS, if_neg (by simp only []; omega)]
                simp -dsimp only [g51, g50, g49, g10, g11, g8, h7, h9, hs1, e2, hx, n1, n2, c2, c3, c4, hse, exitR_ret, gate, decide_true, decide_false, Bool.not_true, Bool.not_false, bTT, bTF, bFT, bFF, ↓preB, postB, genB, ↓reduceIte, Nat.reduceEqDiff, Int.reduceToNat, Int.reduceLE, Int.reduceLT, Nat.reduceAdd, Nat.reduceLeDiff, intBin, strBin, unD, extractD, lit1, lit2, lit3, keptD, boxR, D.one, D.pub1, D.cells, splice, cutOwn]
                exact ⟨5, ⟨by decide, by rw [hF2], by rw [hF2], w1⟩, by decide⟩
          · clear h7 h9 hs1 e2
            rintro e τ' ⟨rfl, g10, g11, g8, h7, h9, hs1, e2⟩
            have hK := fndW_kind c t 5
            have hall := fndW_all c t
            have hn : (fndW c t 5).2.1 = (bestW c t).1 := congrArg (·.1) hall
            have hk : (fndW c t 5).2.2 = (bestW c t).2 := congrArg (·.2) hall
            rw [hk] at hK
            rw [hn] at g11
            clear hall hn hk
            generalize (bestW c t).1 = n at *
            generalize (bestW c t).2 = kd at *
            simp -dsimp only [g10, g11, g8, h7, h9, hs1, e2, gate, decide_true, decide_false, Bool.not_true, Bool.not_false, bTT, bTF, bFT, bFF, ↓preB, postB, genB, ↓reduceIte, Nat.reduceEqDiff, Int.reduceToNat, Int.reduceLE, Int.reduceLT, Nat.reduceAdd, Nat.reduceLeDiff, intBin, strBin, unD, extractD, lit1, lit2, lit3, keptD, boxR, D.one, D.pub1, D.cells, splice, cutOwn]
            refine Fn.use hK ?_
            have hle := hacc.le
            have hg := hle.get _ _ hg1
            have w1 : IntKind.i64.wrap ((a : Int) + (n : Int)) = ((a + n : Nat) : Int) := by rw [wrap64_in (by omega) (by omega)]; omega
            have c1 : (a : Int) ≤ ((a + n : Nat) : Int) ∧ ((a + n : Nat) : Int) ≤ s.size := ⟨by omega, by omega⟩
            by_cases k0 : kd = 0
            · have c0 : (kd == 0) = true := by rw [k0]; rfl
              simp -dsimp only [g10, g11, g8, h7, h9, hs1, e2, c0, w1, c1, gate, decide_true, decide_false, Bool.not_true, Bool.not_false, bTT, bTF, bFT, bFF, ↓preB, postB, genB, ↓reduceIte, Nat.reduceEqDiff, Int.reduceToNat, Int.reduceLE, Int.reduceLT, Nat.reduceAdd, Nat.reduceLeDiff, intBin, strBin, unD, extractD, lit1, lit2, lit3, keptD, boxR, D.one, D.pub1, D.cells, splice, cutOwn]
              have hp' : L = A ++ (cliticsW c.front c.back a (s.extract a (a + n)) ++ cutW c s k (a + n)) := by rw [hp, someW, if_pos k0]
              clear hp
              have hp := hp'
              clear hp'
              have hsz : (s.extract a (a + n)).size = n := by rw [ByteArray.size_extract]; omega
              have hcl := clitics_c c a (s.extract a (a + n)) (by omega) (by omega)
              unfold encC at hcl
              have hcl6 : (cliticsW c.front c.back a (s.extract a (a + n))).length ≤ 6001 := by
                have := cliticsW_len c.front c.back a (s.extract a (a + n))
                omega
              refine draw_t 10 (by decide) ?_
              simp -dsimp only [g10, g11, g8, h7, h9, hs1, e2, hg, hlen, htk, List.drop_zero, c0, w1, c1, gate, decide_true, decide_false, Bool.not_true, Bool.not_false, bTT, bTF, bFT, bFF, ↓preB, postB, genB, ↓reduceIte, Nat.reduceEqDiff, Int.reduceToNat, Int.reduceLE, Int.reduceLT, Nat.reduceAdd, Nat.reduceLeDiff, intBin, strBin, unD, extractD, lit1, lit2, lit3, keptD, boxR, D.one, D.pub1, D.cells, splice, cutOwn]
              refine Fn.useS hcl ?_
              simp -dsimp only [g10, g11, g8, h7, h9, hs1, e2, hg, hlen, htk, List.drop_zero, c0, w1, c1, gate, decide_true, decide_false, Bool.not_true, Bool.not_false, bTT, bTF, bFT, bFF, ↓preB, postB, genB, ↓reduceIte, Nat.reduceEqDiff, Int.reduceToNat, Int.reduceLE, Int.reduceLT, Nat.reduceAdd, Nat.reduceLeDiff, intBin, strBin, unD, extractD, lit1, lit2, lit3, keptD, boxR, D.one, D.pub1, D.cells, splice, cutOwn]
              refine hacc.append hcl1 tz27 rfl tz35 rfl rfl rfl (by decide) (by rw [encTks_len]; simp only []; omega) (fedBy_sl (m := (cliticsW c.front c.back a (s.extract a (a + n))).length) tz27 rfl (by rw [encTks_len]; simp only []; omega)) (by simp only []; omega) (by simp only [big]; omega) fun d6 τ6 hA6 => ?_
              obtain ⟨o, rfl⟩ := hA6.is
              have hlen6 : (A ++ cliticsW c.front c.back a (s.extract a (a + n))).length = A.length + (cliticsW c.front c.back a (s.extract a (a + n))).length := by rw [List.length_append]
              rw [← encTks_append, ← hlen6] at hA6
              rw [← encTks_append, ← hlen6]
              rw [← List.append_assoc] at hp
              by_cases c5 : (200 : Int) < ((A ++ cliticsW c.front c.back a (s.extract a (a + n))).length : Nat)
              · rw [if_pos (by rw [hp, List.length_append]; omega)]
                simp -dsimp only [g10, g11, g8, h7, h9, hs1, e2, c0, c5, w1, exitR_ret, gate, decide_true, decide_false, Bool.not_true, Bool.not_false, bTT, bTF, bFT, bFF, ↓preB, postB, genB, ↓reduceIte, Nat.reduceEqDiff, Int.reduceToNat, Int.reduceLE, Int.reduceLT, Nat.reduceAdd, Nat.reduceLeDiff, intBin, strBin, unD, extractD, lit1, lit2, lit3, keptD, boxR, D.one, D.pub1, D.cells, splice, cutOwn]
                exact fun _ => none _ _ hA6.le
              · simp -dsimp only [g10, g11, g8, h7, h9, hs1, e2, c0, c5, w1, exitR_ret, gate, decide_true, decide_false, Bool.not_true, Bool.not_false, bTT, bTF, bFT, bFF, ↓preB, postB, genB, ↓reduceIte, Nat.reduceEqDiff, Int.reduceToNat, Int.reduceLE, Int.reduceLT, Nat.reduceAdd, Nat.reduceLeDiff, intBin, strBin, unD, extractD, lit1, lit2, lit3, keptD, boxR, D.one, D.pub1, D.cells, splice, cutOwn]
                exact fun _ => ⟨(k, a + n, A ++ cliticsW c.front c.back a (s.extract a (a + n))), ⟨hp, by simp only []; omega, by simp only []; omega, by simp only []; omega, hA6, rfl⟩, Nat.lt_succ_self _⟩
            · have c0 : (kd == 0) = false := by simpa using k0
              simp -dsimp only [g10, g11, g8, h7, h9, hs1, e2, c0, w1, c1, ab35, bs27, gate, decide_true, decide_false, Bool.not_true, Bool.not_false, bTT, bTF, bFT, bFF, ↓preB, postB, genB, ↓reduceIte, Nat.reduceEqDiff, Int.reduceToNat, Int.reduceLE, Int.reduceLT, Nat.reduceAdd, Nat.reduceLeDiff, intBin, strBin, unD, extractD, lit1, lit2, lit3, keptD, boxR, D.one, D.pub1, D.cells, splice, cutOwn]
              have hp' : L = A ++ ([(⟨a, (a + n : Nat), kd, s.extract a (a + n)⟩ : Tok)] ++ cutW c s k (a + n)) := by rw [hp, someW, if_neg k0]
              clear hp
              have hp := hp'
              clear hp'
              refine hacc.append hcl1 tz27 rfl tz35 rfl rfl rfl (by decide) (by rw [encTks_len]; simp only []; omega) (fedBy_sl (m := 1) tz27 rfl rfl) (by simp only []; omega) (by simp only [big]; omega) fun d6 τ6 hA6 => ?_
              rw [show [D.int .i64 (a : Int), .int .i64 (a + n : Nat), .int .i64 kd, .str (s.extract a (a + n))] = encTks [(⟨a, (a + n : Nat), kd, s.extract a (a + n)⟩ : Tok)] from rfl] at *
              obtain ⟨o, rfl⟩ := hA6.is
              have hlen6 : (A ++ [(⟨a, (a + n : Nat), kd, s.extract a (a + n)⟩ : Tok)]).length = A.length + 1 := by rw [List.length_append]; rfl
              rw [← encTks_append, ← hlen6] at hA6
              rw [← encTks_append, ← hlen6]
              rw [← List.append_assoc] at hp
              by_cases c5 : (200 : Int) < ((A ++ [(⟨a, (a + n : Nat), kd, s.extract a (a + n)⟩ : Tok)]).length : Nat)
              · rw [if_pos (by rw [hp, List.length_append]; omega)]
                simp -dsimp only [g10, g11, g8, h7, h9, hs1, e2, c0, c5, w1, exitR_ret, gate, decide_true, decide_false, Bool.not_true, Bool.not_false, bTT, bTF, bFT, bFF, ↓preB, postB, genB, ↓reduceIte, Nat.reduceEqDiff, Int.reduceToNat, Int.reduceLE, Int.reduceLT, Nat.reduceAdd, Nat.reduceLeDiff, intBin, strBin, unD, extractD, lit1, lit2, lit3, keptD, boxR, D.one, D.pub1, D.cells, splice, cutOwn]
                exact fun _ => none _ _ hA6.le
              · simp -dsimp only [g10, g11, g8, h7, h9, hs1, e2, c0, c5, w1, exitR_ret, gate, decide_true, decide_false, Bool.not_true, Bool.not_false, bTT, bTF, bFT, bFF, ↓preB, postB, genB, ↓reduceIte, Nat.reduceEqDiff, Int.reduceToNat, Int.reduceLE, Int.reduceLT, Nat.reduceAdd, Nat.reduceLeDiff, intBin, strBin, unD, extractD, lit1, lit2, lit3, keptD, boxR, D.one, D.pub1, D.cells, splice, cutOwn]
                exact fun _ => ⟨(k, a + n, A ++ [(⟨a, (a + n : Nat), kd, s.extract a (a + n)⟩ : Tok)]), ⟨hp, by simp only []; omega, by simp only []; omega, by simp only []; omega, hA6, rfl⟩, Nat.lt_succ_self _⟩
        · rw [q1, if_pos rfl] at hp
          simp -dsimp only [h7, h9, hs1, e2, a0, a1, q1, exitR_ret, gate, decide_true, decide_false, Bool.not_true, Bool.not_false, bTT, bTF, bFT, bFF, ↓preB, postB, genB, ↓reduceIte, Nat.reduceEqDiff, Int.reduceToNat, Int.reduceLE, Int.reduceLT, Nat.reduceAdd, Nat.reduceLeDiff, intBin, strBin, unD, extractD, lit1, lit2, lit3, keptD, boxR, D.one, D.pub1, D.cells, splice, cutOwn]
          exact ⟨(k, a + 1, A), ⟨hp, by simp only []; omega, by simp only []; omega, hA, hacc, wrap64_succ (by simp only [big]; omega)⟩, Nat.lt_succ_self _⟩
      · have : cutW c s k a = [] := by
          cases k with
          | zero => rfl
          | succ k => rw [cutW_step, if_neg (by omega)]
        rw [this, List.append_nil] at hp
        simp -dsimp only [h7, h9, hs1, e2, a0, exitR_exit, gate, decide_true, decide_false, Bool.not_true, Bool.not_false, bTT, bTF, bFT, bFF, ↓preB, postB, genB, ↓reduceIte, Nat.reduceEqDiff, Int.reduceToNat, Int.reduceLE, Int.reduceLT, Nat.reduceAdd, Nat.reduceLeDiff, intBin, strBin, unD, extractD, lit1, lit2, lit3, keptD, boxR, D.one, D.pub1, D.cells, splice, cutOwn]
        rw [hp]
        exact fun _ => ⟨hA, hacc⟩
    · rintro env τ ⟨hA, hacc⟩
      rw [if_neg (by omega)]
      simp -dsimp only [↓preB, postB, genB, ↓reduceIte, Nat.reduceEqDiff, Int.reduceToNat, Int.reduceLE, Int.reduceLT, Nat.reduceAdd, Nat.reduceLeDiff, intBin, strBin, unD, extractD, lit1, lit2, lit3, keptD, boxR, D.one, D.pub1, D.cells, splice, cutOwn]
      refine Ret.less (hle1.trans hacc.le) hcl (.tup _ _ rfl fun i h1 h2 => by
        match i, h1, h2 with
        | 0, _, _ => exact hacc.told
        | 1, _, _ => exact .refl _) (.tup _ fun d hd => by
        simp only [List.mem_cons, List.not_mem_nil, or_false] at hd
        rcases hd with rfl | rfl
        · exact .no (bel_tks _)
        · exact .int _ _)
  · have c0 : (valW c != 0) = true := by simpa using v0
    have ht : tokW c s = ([], valW c) := by unfold tokW; rw [if_pos v0]
    rw [ht]
    simp -dsimp only [hg1, hlen, htk, c0, List.drop_zero, ↓preB, postB, genB, ↓reduceIte, Nat.reduceEqDiff, Int.reduceToNat, Int.reduceLE, Int.reduceLT, Nat.reduceAdd, Nat.reduceLeDiff, intBin, strBin, unD, extractD, lit1, lit2, lit3, keptD, boxR, D.one, D.pub1, D.cells, splice, cutOwn]
    exact none _ _ (HLe.refl _)
end Go.Proofs.Ytapkbkniooleaaa.Vs
