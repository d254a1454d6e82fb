/- numbers of Ythchlpikcpidaaa -/
/- The law GuessChances. -/
import Derived.Test.YthchlpikcpidaaaGuF9
namespace Go.Proofs.Ythchlpikcpidaaa.Vs
set_option linter.unusedVariables false
set_option linter.unusedSimpArgs false
set_option maxRecDepth 20000

theorem badLL_one (w : Wd) : badLL [w] = badW w := by
  rw [badLL_cons]
  cases h : (badW w != 0) with
  | true => rfl
  | false => have : badW w = 0 := by simpa using h
             rw [this]; rfl
theorem badW_drop {w : Wd} (h : badW w = 0) (k : Nat) : badW (w.drop k) = 0 := by
  have h60 := badW_len h
  unfold badW at h ⊢
  split at h
  · cases h
  · rename_i h1
    split at h
    · cases h
    · rename_i h2
      simp only [Bool.or_eq_true, decide_eq_true_eq, not_or, Bool.not_eq_true] at h1 h2
      have a1 := List.any_eq_false.1 h1.2
      have a2 := List.any_eq_false.1 h2
      have b1 : (w.drop k).any (fun s => decide (16 < s.size)) = false := List.any_eq_false.2 fun x hx => a1 x (List.mem_of_mem_drop hx)
      have b2 : (w.drop k).any (fun s => !(bytesOK s && !(s == ⟨#[]⟩))) = false := List.any_eq_false.2 fun x hx => a2 x (List.mem_of_mem_drop hx)
      rw [if_neg, if_neg]
      · rw [b2]; simp
      · rw [b1, Bool.or_false, decide_eq_true_eq, List.length_drop]; omega
theorem chF_congr {a b a' b' : Wd → Int} {w : Wd} : ∀ (k i : Nat) (n d : Int), (∀ j, i ≤ j → j < i + k → a (suf w j) = a' (suf w j) ∧ b (suf w j) = b' (suf w j)) → chF a b w k i n d = chF a' b' w k i n d
  | 0, i, n, d, _ => rfl
  | k + 1, i, n, d, h => by
    obtain ⟨h1, h2⟩ := h i (Nat.le_refl _) (by omega)
    simp only [chF]
    rw [h1, h2]
    split
    · rfl
    · exact chF_congr k (i + 1) _ _ fun j hj hj2 => h j (by omega) (by omega)
theorem chF_zero {a b : Wd → Int} {w : Wd} (ha : ∀ e, e.length ≤ 4 → a e = 0) : ∀ (k i : Nat) (d : Int), i + k ≤ 5 → i + k ≤ w.length + 1 → (chF a b w k i 0 d).1 = 0
  | 0, i, d, _, _ => rfl
  | k + 1, i, d, h5, hw => by
    simp only [chF]
    split
    · rfl
    · rw [ha _ (by rw [suf_len (by omega)]; omega), Int.zero_mul, Int.add_zero]
      exact chF_zero ha k (i + 1) _ (by omega) (by omega)
theorem leastV_zero {d : Int} (hd : 0 < d) : leastV 0 d = (0, 1) := by
  have hg : gcdI 0 d = d := by
    obtain ⟨m, rfl⟩ := Int.eq_ofNat_of_zero_le (Int.le_of_lt hd)
    simp [gcdI]
  rw [leastV, hg, Int.zero_tdiv, Int.tdiv_self (by omega)]
theorem tot_zero {l : List Smp} (hl : ∀ x ∈ l, fineS x) : tot l = 0 ↔ l = [] := by
  constructor
  · intro h
    cases l with
    | nil => rfl
    | cons x l =>
      have h1 := (hl x List.mem_cons_self).2.2
      have h2 : 0 ≤ tot l := cnt_nonneg _ _ fun y hy => (hl y (List.mem_cons_of_mem _ hy)).2.2
      rw [tot_cons] at h; omega
  · rintro rfl; rfl
section
variable {l : List Smp} (hl : ∀ x ∈ l, fineS x) (ht : tot l ≤ 1000)
include hl
theorem cf_tot : cfL l noB noB = tot l := by
  have := cfL_val hl (e := []) ⟨by simp, by simp, by simp⟩ (by simp) noB
  rw [keyB_nil] at this; exact this
theorem cf_tag (t : ByteArray) : cfL l noB t = cnt l [] t := by
  have := cfL_val hl (e := []) ⟨by simp, by simp, by simp⟩ (by simp) t
  rw [keyB_nil] at this; exact this
include ht
theorem gch_eq (w : Wd) (t : ByteArray) : gchD (cfL l noB noB == 0) w (cfL l) t = chanceD (decide (allR l = [])) w (fun e => tagV (allR l) e t) (fun e => cnt (allR l) e noB) := by
  have hF : Fine l := ⟨fun x hx => (hl x hx).2.2, ht⟩
  have hFR : Fine (allR l) := allR_fine hF.1 ht
  by_cases c1 : badW w = 0
  · have ha : askE (decide (allR l = [])) [w] = if decide (allR l = []) = true then 4 else 0 := askE_ok (by rw [badLL_one, c1])
    by_cases c2 : l = []
    · subst c2
      have e0 : allR [] = [] := rfl
      rw [e0] at ha ⊢
      rw [gchD, if_neg (fun h => h c1), if_pos (by rfl), chanceD, if_pos (by rw [ha]; simp), ha]
      rfl
    · have c2' : ¬ allR l = [] := fun h => c2 (allR_nil.1 h)
      have hz : (cfL l noB noB == 0) = false := by
        rw [cf_tot hl, beq_eq_false_iff_ne]; exact fun h => c2 ((tot_zero hl).1 h)
      have ha0 : askE (decide (allR l = [])) [w] = 0 := by rw [ha, if_neg (by simpa using c2')]
      have htp : 0 < tot (allR l) := tot_pos c2' hFR
      have hcd : chanceD (decide (allR l = [])) w (fun e => tagV (allR l) e t) (fun e => cnt (allR l) e noB) = .tup [.int .i64 (leastV (chV (fun e => tagV (allR l) e t) (fun e => cnt (allR l) e noB) w).1 (chV (fun e => tagV (allR l) e t) (fun e => cnt (allR l) e noB) w).2).1, .int .i64 (leastV (chV (fun e => tagV (allR l) e t) (fun e => cnt (allR l) e noB) w).1 (chV (fun e => tagV (allR l) e t) (fun e => cnt (allR l) e noB) w).2).2, .int .i64 0] := by rw [chanceD, if_neg (fun h => h ha0)]
      rw [hcd, gchD, if_neg (fun h => h c1), hz, if_neg (by simp)]
      have hbd := chF_bound (a := fun e => tagV (allR l) e t) (b := fun e => cnt (allR l) e noB) (w := w) (fun e => tag_ok hFR e t) (min w.length 4) 1 (tagV (allR l) [] t) (tot (allR l)) (by omega) (tag_ok hFR [] t).1 (tag_ok hFR [] t).2.1 (Int.le_trans (tag_ok hFR [] t).2.2 (by decide))
      by_cases c3 : (t == noB) = true ∨ cfL l noB t = 0
      · have hzero : ∀ e : Wd, e.length ≤ 4 → tagV (allR l) e t = 0 := fun e he => by
          unfold tagV
          split
          · rfl
          · rename_i h1
            have h2 : cnt l [] t = 0 := by
              rcases c3 with h | h
              · exact absurd h h1
              · rw [← cf_tag hl]; exact h
            rw [countV, if_pos he, cnt_allR]
            have h3 : cnt l e t ≤ cnt l [] t := cnt_le hF.1 fun x _ hx => (hit_less hx).1
            have h4 := (hF.le e t).1
            omega
        rw [if_pos c3]
        have hn : (chV (fun e => tagV (allR l) e t) (fun e => cnt (allR l) e noB) w).1 = 0 := by
          show (chF (fun e => tagV (allR l) e t) (fun e => cnt (allR l) e noB) w (min w.length 4) 1 (tagV (allR l) [] t) (cnt (allR l) [] noB)).1 = 0
          rw [hzero [] (by simp)]
          exact chF_zero hzero _ _ _ (by omega) (by omega)
        have hdp : 0 < (chV (fun e => tagV (allR l) e t) (fun e => cnt (allR l) e noB) w).2 := hbd.2.2.2 htp
        rw [hn, leastV_zero hdp]
      · rw [if_neg c3]
        have c3a : ¬ (t == noB) = true := fun h => c3 (.inl h)
        have hval : ∀ e : Wd, goodW e → e.length ≤ 4 → aF (cfL l) t e = tagV (allR l) e t ∧ aF (cfL l) noB e = cnt (allR l) e noB := fun e he h4 => by
          rw [aF, aF, cfL_val hl he h4, cfL_val hl he h4, tagV, if_neg c3a, countV, if_pos h4, cnt_allR, cnt_allR]
          exact ⟨rfl, rfl⟩
        have hg := badW_good c1
        have hch : chV (aF (cfL l) t) (aF (cfL l) noB) w = chV (fun e => tagV (allR l) e t) (fun e => cnt (allR l) e noB) w := by
          unfold chV
          obtain ⟨v1, v2⟩ := hval [] ⟨by simp, by simp, by simp⟩ (by simp)
          rw [v1, v2]
          refine chF_congr _ _ _ _ fun j hj hj2 => hval _ (hg.drop _) (by rw [suf_len (by omega)]; omega)
        rw [hch]
  · have hb : badLL [w] ≠ 0 := by rw [badLL_one]; exact c1
    rw [gchD, if_pos c1, chanceD, if_pos (by rw [askE_bad hb]; exact hb), askE_bad hb, badLL_one]
omit ht in
theorem gcount_eq (e : Wd) (t : ByteArray) : gcountV e (cfL l) t = countV (allR l) e t := by
  unfold gcountV countV
  by_cases h4 : e.length ≤ 4
  · rw [if_pos h4, cnt_allR]
    by_cases hb : badW e = 0
    · rw [if_pos ⟨h4, hb⟩, cfL_val hl (badW_good hb) h4]
    · rw [if_neg (fun h => hb h.2)]
      have : ∀ l : List Smp, (∀ x ∈ l, fineS x) → cnt l e t = 0 := fun l => by
        induction l with
        | nil => intro _; rfl
        | cons x l ih =>
          intro hl
          have hx := (hl x List.mem_cons_self).1
          have h1 : isEnd e x.word = false := by
            cases h : isEnd e x.word with
            | false => rfl
            | true =>
              obtain ⟨_, h2⟩ := isEnd_suf h
              exact absurd (by rw [h2]; exact badW_drop hx _) hb
          simp only [cnt, one, hit, h1, Bool.false_and, Bool.false_eq_true, if_false, Int.zero_add]
          exact ih fun y hy => hl y (List.mem_cons_of_mem _ hy)
      exact (this l hl).symm
  · rw [if_neg h4, if_neg (fun h => h4 h.1)]
end
theorem gch0_eq (w : Wd) (cf : CF) (t : ByteArray) (a b : Wd → Int) : gchD true w cf t = chanceD true w a b := by
  by_cases c1 : badW w = 0
  · have ha : askE true [w] = 4 := by rw [askE_ok (by rw [badLL_one, c1])]; rfl
    rw [gchD, if_neg (fun h => h c1), if_pos rfl, chanceD, if_pos (by rw [ha]; decide), ha]
  · have hb : badLL [w] ≠ 0 := by rw [badLL_one]; exact c1
    rw [gchD, if_pos c1, chanceD, if_pos (by rw [askE_bad hb]; exact hb), askE_bad hb, badLL_one]
theorem gchD_is (none : Bool) (w : Wd) (cf : CF) (t : ByteArray) : ∃ a b c, gchD none w cf t = .tup [.int .i64 a, .int .i64 b, .int .i64 c] := by
  unfold gchD
  split
  · exact ⟨_, _, _, rfl⟩
  · split
    · exact ⟨_, _, _, rfl⟩
    · split
      · exact ⟨_, _, _, rfl⟩
      · exact ⟨_, _, _, rfl⟩
theorem PG.more {σ0 σ σ' : Heap} {mf : ByteArray × ByteArray → Int} {cf : CF} {q : Nat} (h : PG σ0 mf cf q σ) (hle : HLe σ σ') : PG σ0 mf cf q σ' := by
  obtain ⟨r1, r2, M, E, A, hP, hM, hA⟩ := h
  exact ⟨r1, r2, M, E, A, hP.more hle, hM, hA⟩

/-! ### the document's example -/
def D.pub2 : D → D
  | .sl _ n cs => .sl .no n (cs.map D.pub1)
  | d => d
theorem Told.pub2 (σ τ : Heap) (d : D) : Told σ τ d d.pub2 := by
  cases d with
  | sl o n cs => exact .sl o .no n cs _ (.inl rfl) (by simp) fun i h1 h2 => by simp only [List.getElem_map]; exact .pub1 _ _ _
  | _ => exact .refl _
theorem Bel.pub2 {N : Nat} {d : D} (h : Bel N d) : Bel N d.pub2 := by
  cases h with
  | sl o n cs h1 h2 =>
    refine .sl _ _ _ (fun r z he => by cases he) fun d hd => ?_
    obtain ⟨x, hx, rfl⟩ := List.mem_map.1 hd
    exact Bel.pub1 (h2 x hx)
  | ptr r off h => exact .ptr r off h
  | «at» cs h => exact .at cs h
  | row r off n c z h => exact .row r off n c z h
  | map r h => exact .map r h
  | func f cs h => exact .func f cs h
  | agg cs h => exact .agg cs h
  | tup cs h => exact .tup cs h
  | iface t d h => exact .iface t d h
  | _ => constructor
theorem PCall.useP2 {Z : Sys} {f : FuncId} {ds ds' : List D} {σ : Heap} {K K' : D → Heap → Prop} {h : Keep K'} (c : PCall Z f ds' σ K) (he : ds.map D.pub2 = ds') (hk : ∀ d τ, K d τ → K' d τ) : kCall Z f ds σ K' h := by
  subst he
  exact PCall.args (c.mono hk) (by simp) fun i h1 h2 => by simp only [List.getElem_map]; exact ⟨.pub2 _ _ _, Bel.pub2⟩
def bA : ByteArray := ⟨#[97]⟩
def bB : ByteArray := ⟨#[98]⟩
def bN : ByteArray := ⟨#[78]⟩
def bV : ByteArray := ⟨#[86]⟩
def exL : List Smp := [⟨[bA], bN, 1⟩, ⟨[bB], bV, 1⟩]
theorem exL_ok : newE exL = 0 := by kernel_rfl
theorem exL_ch : gchD (cfL exL noB noB == 0) [bA] (cfL exL) bN = .tup [.int .i64 3, .int .i64 4, .int .i64 0] := by kernel_rfl
theorem bt51 (o : Own) (n : Nat) (cs : List D) (t : ByteArray) (k : Int) : aBuilt Zs 51 [(0, .sl o n cs), (1, .str t), (2, .int .i64 k)] = some [.sl o n cs, .str t, .int .i64 k] := by rfl
theorem bs22 (o o2 : Own) (n n2 nx : Nat) (cs cs2 : List D) (t t2 : ByteArray) (k k2 : Int) : buildSliceR Zs 0 22 2 [(0, .agg [.sl o n cs, .str t, .int .i64 k]), (1, .agg [.sl o2 n2 cs2, .str t2, .int .i64 k2])] nx = some (.sl .full 2 [.sl o n cs, .str t, .int .i64 k, .sl o2 n2 cs2, .str t2, .int .i64 k2], .keep) := by rfl
theorem known_c : Fn Zs 9 [] (.bool true) := by
  refine fn_of (Z := Zs) ok9 fun σ hcl hbl => ?_
  simp -dsimp only [L9, bt51, bs22, ↓preB, postB, genB, ↓reduceIte, Nat.reduceEqDiff, Int.reduceToNat, Int.reduceLE, Int.reduceLT, Nat.reduceAdd, Nat.reduceLeDiff, intBin, strBin, unD, extractD, lit1, lit2, lit3, keptD, boxR, D.one, D.pub1, D.cells, splice, cutOwn]
  refine PCall.useP2 (new_c exL σ) rfl ?_
  rintro d τ ⟨hle, ⟨h, _⟩ | ⟨_, q, rfl, hPG⟩⟩
  · exact absurd exL_ok h
  simp -dsimp only [↓preB, postB, genB, ↓reduceIte, Nat.reduceEqDiff, Int.reduceToNat, Int.reduceLE, Int.reduceLT, Nat.reduceAdd, Nat.reduceLeDiff, intBin, strBin, unD, extractD, lit1, lit2, lit3, keptD, boxR, D.one, D.pub1, D.cells, splice, cutOwn]
  have hfine := badS_ok (newE_fine exL_ok).2
  refine PCall.useP2 (Chance_c [bA] bN q (mfL exL) (cfL exL) (cfL_nice hfine.1 hfine.2) σ τ hPG) rfl ?_
  rintro d τ ⟨rfl, rfl⟩
  rw [exL_ch]
  simp -dsimp only [beq_self_eq_true, ↓preB, postB, genB, ↓reduceIte, Nat.reduceEqDiff, Int.reduceToNat, Int.reduceLE, Int.reduceLT, Nat.reduceAdd, Nat.reduceLeDiff, intBin, strBin, unD, extractD, lit1, lit2, lit3, keptD, boxR, D.one, D.pub1, D.cells, splice, cutOwn]
  exact Ret.less hle hcl (.refl _) (.bool _)

theorem chances_c (l : List Smp) (w : Wd) (t : ByteArray) : Fn Zs 3 [encS l, encSS w, .str t] (.bool true) := by
  refine fn_of (Z := Zs) ok3 fun σ hcl hbl => ?_
  simp -dsimp only [L3, ↓preB, postB, genB, ↓reduceIte, Nat.reduceEqDiff, Int.reduceToNat, Int.reduceLE, Int.reduceLT, Nat.reduceAdd, Nat.reduceLeDiff, intBin, strBin, unD, extractD, lit1, lit2, lit3, keptD, boxR, D.one, D.pub1, D.cells, splice, cutOwn]
  refine Says.use (over_c l) ?_
  rintro _ ⟨b, rfl⟩
  have fin : ∀ {P : D → Prop}, (P (.bool true)) → ∀ (K : D → Heap → Prop), True := fun _ _ => trivial
  cases b
  · simp -dsimp only [encSS, ↓preB, postB, genB, ↓reduceIte, Nat.reduceEqDiff, Int.reduceToNat, Int.reduceLE, Int.reduceLT, Nat.reduceAdd, Nat.reduceLeDiff, intBin, strBin, unD, extractD, lit1, lit2, lit3, keptD, boxR, D.one, D.pub1, D.cells, splice, cutOwn]
    refine Says.useP (IsLong_c [w]) rfl ?_
    rintro _ ⟨b, rfl⟩
    cases b
    · simp -dsimp only [↓preB, postB, genB, ↓reduceIte, Nat.reduceEqDiff, Int.reduceToNat, Int.reduceLE, Int.reduceLT, Nat.reduceAdd, Nat.reduceLeDiff, intBin, strBin, unD, extractD, lit1, lit2, lit3, keptD, boxR, D.one, D.pub1, D.cells, splice, cutOwn]
      intro hb
      by_cases c1 : (1000 : Int) < (t.size : Int)
      · simp -dsimp only [c1, ↓preB, postB, genB, ↓reduceIte, Nat.reduceEqDiff, Int.reduceToNat, Int.reduceLE, Int.reduceLT, Nat.reduceAdd, Nat.reduceLeDiff, intBin, strBin, unD, extractD, lit1, lit2, lit3, keptD, boxR, D.one, D.pub1, D.cells, splice, cutOwn]
        refine Fn.use known_c ?_
        simp -dsimp only [↓preB, postB, genB, ↓reduceIte, Nat.reduceEqDiff, Int.reduceToNat, Int.reduceLE, Int.reduceLT, Nat.reduceAdd, Nat.reduceLeDiff, intBin, strBin, unD, extractD, lit1, lit2, lit3, keptD, boxR, D.one, D.pub1, D.cells, splice, cutOwn]
        exact Ret.is rfl
      · simp -dsimp only [c1, ↓preB, postB, genB, ↓reduceIte, Nat.reduceEqDiff, Int.reduceToNat, Int.reduceLE, Int.reduceLT, Nat.reduceAdd, Nat.reduceLeDiff, intBin, strBin, unD, extractD, lit1, lit2, lit3, keptD, boxR, D.one, D.pub1, D.cells, splice, cutOwn]
        refine PCall.use (new_c l σ) ?_
        rintro d τ ⟨hle, ⟨h0, rfl⟩ | ⟨h0, q, rfl, hPG⟩⟩
        · simp -dsimp only [↓preB, postB, genB, ↓reduceIte, Nat.reduceEqDiff, Int.reduceToNat, Int.reduceLE, Int.reduceLT, Nat.reduceAdd, Nat.reduceLeDiff, intBin, strBin, unD, extractD, lit1, lit2, lit3, keptD, boxR, D.one, D.pub1, D.cells, splice, cutOwn]
          refine PCall.use (refNew_c l τ) ?_
          rintro d τ2 ⟨hle2, ⟨h1, rfl⟩ | ⟨h1, _⟩⟩
          · obtain ⟨x, y, z, hxyz⟩ := gchD_is true w (fun _ _ => 0) t
            have hr := gch0_eq w (fun _ _ => 0) t (fun _ => 0) (fun _ => 0)
            rw [hxyz] at hr
            simp -dsimp only [↓preB, postB, genB, ↓reduceIte, Nat.reduceEqDiff, Int.reduceToNat, Int.reduceLE, Int.reduceLT, Nat.reduceAdd, Nat.reduceLeDiff, intBin, strBin, unD, extractD, lit1, lit2, lit3, keptD, boxR, D.one, D.pub1, D.cells, splice, cutOwn]
            refine Fn.use (Chance0_c w t (fun _ _ => 0)) ?_
            rw [hxyz]
            simp -dsimp only [↓preB, postB, genB, ↓reduceIte, Nat.reduceEqDiff, Int.reduceToNat, Int.reduceLE, Int.reduceLT, Nat.reduceAdd, Nat.reduceLeDiff, intBin, strBin, unD, extractD, lit1, lit2, lit3, keptD, boxR, D.one, D.pub1, D.cells, splice, cutOwn]
            refine Fn.use (refChance0_c w t (fun _ => 0) (fun _ => 0)) ?_
            rw [← hr]
            simp -dsimp only [beq_self_eq_true, ↓preB, postB, genB, ↓reduceIte, Nat.reduceEqDiff, Int.reduceToNat, Int.reduceLE, Int.reduceLT, Nat.reduceAdd, Nat.reduceLeDiff, intBin, strBin, unD, extractD, lit1, lit2, lit3, keptD, boxR, D.one, D.pub1, D.cells, splice, cutOwn]
            refine Fn.use (Count0_c w t) ?_
            simp -dsimp only [↓preB, postB, genB, ↓reduceIte, Nat.reduceEqDiff, Int.reduceToNat, Int.reduceLE, Int.reduceLT, Nat.reduceAdd, Nat.reduceLeDiff, intBin, strBin, unD, extractD, lit1, lit2, lit3, keptD, boxR, D.one, D.pub1, D.cells, splice, cutOwn]
            refine Fn.use (refCount0_c w t) ?_
            simp -dsimp only [beq_self_eq_true, ↓preB, postB, genB, ↓reduceIte, Nat.reduceEqDiff, Int.reduceToNat, Int.reduceLE, Int.reduceLT, Nat.reduceAdd, Nat.reduceLeDiff, intBin, strBin, unD, extractD, lit1, lit2, lit3, keptD, boxR, D.one, D.pub1, D.cells, splice, cutOwn]
            refine Fn.use known_c ?_
            simp -dsimp only [↓preB, postB, genB, ↓reduceIte, Nat.reduceEqDiff, Int.reduceToNat, Int.reduceLE, Int.reduceLT, Nat.reduceAdd, Nat.reduceLeDiff, intBin, strBin, unD, extractD, lit1, lit2, lit3, keptD, boxR, D.one, D.pub1, D.cells, splice, cutOwn]
            exact Ret.less (hle.trans hle2) hcl (.refl _) (.bool _)
          · exact absurd h1 h0
        · simp -dsimp only [↓preB, postB, genB, ↓reduceIte, Nat.reduceEqDiff, Int.reduceToNat, Int.reduceLE, Int.reduceLT, Nat.reduceAdd, Nat.reduceLeDiff, intBin, strBin, unD, extractD, lit1, lit2, lit3, keptD, boxR, D.one, D.pub1, D.cells, splice, cutOwn]
          refine PCall.use (refNew_c l τ) ?_
          rintro d τ2 ⟨hle2, ⟨h1, _⟩ | ⟨_, q2, rfl, hRG⟩⟩
          · exact absurd h0 h1
          · obtain ⟨h200, hbs⟩ := newE_fine h0
            obtain ⟨hfine, htot⟩ := badS_ok hbs
            have hF : Fine (allR l) := allR_fine (fun x hx => (hfine x hx).2.2) htot
            have hlen : (allR l).length ≤ 100000 := by have := allR_len l; omega
            have hPG2 := hPG.more hle2
            obtain ⟨x, y, z, hxyz⟩ := gchD_is (cfL l noB noB == 0) w (cfL l) t
            have hr := gch_eq hfine htot w t
            rw [hxyz] at hr
            simp -dsimp only [↓preB, postB, genB, ↓reduceIte, Nat.reduceEqDiff, Int.reduceToNat, Int.reduceLE, Int.reduceLT, Nat.reduceAdd, Nat.reduceLeDiff, intBin, strBin, unD, extractD, lit1, lit2, lit3, keptD, boxR, D.one, D.pub1, D.cells, splice, cutOwn]
            refine PCall.use (Chance_c w t q (mfL l) (cfL l) (cfL_nice hfine htot) σ τ2 hPG2) ?_
            rintro _ τ3 ⟨rfl, hτ3⟩
            subst hτ3
            rw [hxyz]
            simp -dsimp only [↓preB, postB, genB, ↓reduceIte, Nat.reduceEqDiff, Int.reduceToNat, Int.reduceLE, Int.reduceLT, Nat.reduceAdd, Nat.reduceLeDiff, intBin, strBin, unD, extractD, lit1, lit2, lit3, keptD, boxR, D.one, D.pub1, D.cells, splice, cutOwn]
            refine PCall.use (refChance_c (allR l) q2 w t hlen hF τ3 hRG.at) ?_
            rintro _ τ4 ⟨rfl, hτ4⟩
            subst hτ4
            rw [← hr]
            simp -dsimp only [beq_self_eq_true, ↓preB, postB, genB, ↓reduceIte, Nat.reduceEqDiff, Int.reduceToNat, Int.reduceLE, Int.reduceLT, Nat.reduceAdd, Nat.reduceLeDiff, intBin, strBin, unD, extractD, lit1, lit2, lit3, keptD, boxR, D.one, D.pub1, D.cells, splice, cutOwn]
            refine PCall.use (Count_c w t q (mfL l) (cfL l) σ τ4 hPG2) ?_
            rintro _ τ5 ⟨rfl, hτ5⟩
            subst hτ5
            simp -dsimp only [↓preB, postB, genB, ↓reduceIte, Nat.reduceEqDiff, Int.reduceToNat, Int.reduceLE, Int.reduceLT, Nat.reduceAdd, Nat.reduceLeDiff, intBin, strBin, unD, extractD, lit1, lit2, lit3, keptD, boxR, D.one, D.pub1, D.cells, splice, cutOwn]
            refine PCall.use (refCount_c (allR l) q2 w t hlen hF τ5 hRG.at) ?_
            rintro _ τ6 ⟨rfl, hτ6⟩
            subst hτ6
            rw [gcount_eq hfine]
            simp -dsimp only [beq_self_eq_true, ↓preB, postB, genB, ↓reduceIte, Nat.reduceEqDiff, Int.reduceToNat, Int.reduceLE, Int.reduceLT, Nat.reduceAdd, Nat.reduceLeDiff, intBin, strBin, unD, extractD, lit1, lit2, lit3, keptD, boxR, D.one, D.pub1, D.cells, splice, cutOwn]
            refine Fn.use known_c ?_
            simp -dsimp only [↓preB, postB, genB, ↓reduceIte, Nat.reduceEqDiff, Int.reduceToNat, Int.reduceLE, Int.reduceLT, Nat.reduceAdd, Nat.reduceLeDiff, intBin, strBin, unD, extractD, lit1, lit2, lit3, keptD, boxR, D.one, D.pub1, D.cells, splice, cutOwn]
            exact Ret.less (hle.trans hle2) hcl (.refl _) (.bool _)
    · simp -dsimp only [↓preB, postB, genB, ↓reduceIte, Nat.reduceEqDiff, Int.reduceToNat, Int.reduceLE, Int.reduceLT, Nat.reduceAdd, Nat.reduceLeDiff, intBin, strBin, unD, extractD, lit1, lit2, lit3, keptD, boxR, D.one, D.pub1, D.cells, splice, cutOwn]
      refine Fn.use known_c ?_
      simp -dsimp only [↓preB, postB, genB, ↓reduceIte, Nat.reduceEqDiff, Int.reduceToNat, Int.reduceLE, Int.reduceLT, Nat.reduceAdd, Nat.reduceLeDiff, intBin, strBin, unD, extractD, lit1, lit2, lit3, keptD, boxR, D.one, D.pub1, D.cells, splice, cutOwn]
      exact Ret.is rfl
  · simp -dsimp only [↓preB, postB, genB, ↓reduceIte, Nat.reduceEqDiff, Int.reduceToNat, Int.reduceLE, Int.reduceLT, Nat.reduceAdd, Nat.reduceLeDiff, intBin, strBin, unD, extractD, lit1, lit2, lit3, keptD, boxR, D.one, D.pub1, D.cells, splice, cutOwn]
    refine Fn.use known_c ?_
    simp -dsimp only [↓preB, postB, genB, ↓reduceIte, Nat.reduceEqDiff, Int.reduceToNat, Int.reduceLE, Int.reduceLT, Nat.reduceAdd, Nat.reduceLeDiff, intBin, strBin, unD, extractD, lit1, lit2, lit3, keptD, boxR, D.one, D.pub1, D.cells, splice, cutOwn]
    exact Ret.is rfl
end Go.Proofs.Ythchlpikcpidaaa.Vs
