import Derived.Test.YthchlpikcpidaaaGuR5
import Derived.Test.YthchlpikcpidaaaDmTwo
/- numbers of Ythchlpikcpidaaa -/
namespace Go.Proofs.Ythchlpikcpidaaa.Vs
set_option linter.unusedVariables false
set_option linter.unusedSimpArgs false
set_option maxRecDepth 100000
theorem len_subM {α : Type} : ∀ {L M : List α}, L.Nodup → (∀ t ∈ L, t ∈ M) → L.length ≤ M.length
  | [], M, _, _ => Nat.zero_le _
  | a :: L, M, hn, hs => by
    rw [List.nodup_cons] at hn
    obtain ⟨M1, M2, rfl⟩ := List.append_of_mem (hs a List.mem_cons_self)
    have := len_subM (L := L) (M := M1 ++ M2) hn.2 fun t ht => by
      have h1 := hs t (List.mem_cons_of_mem _ ht)
      have hne : t ≠ a := fun e => hn.1 (e ▸ ht)
      simp only [List.mem_append, List.mem_cons] at h1 ⊢
      rcases h1 with h1 | h1 | h1
      · exact .inl h1
      · exact absurd h1 hne
      · exact .inr h1
    simp only [List.length_append, List.length_cons] at this ⊢
    omega
theorem big5 {l : List Smp} (hl : ∀ x ∈ l, fineS x) (h200 : l.length ≤ 200) : Big5 (cfL l) := fun L hn hL => by
  have := len_subM (L := L) (M := noB :: tagL l) hn fun t ht => by
    by_cases h : t = noB
    · exact List.mem_cons.2 (.inl h)
    · refine List.mem_cons.2 (.inr ?_)
      have := hL t ht
      rw [cf_tag hl] at this
      exact (cnt_tag (fun x hx => (hl x hx).2.2) h).1 this
  simp [tagL] at this
  omega
theorem some_tag {l : List Smp} (hl : ∀ x ∈ l, fineS x) (h : cfL l noB noB ≠ 0) : ∃ t, t ≠ noB ∧ cfL l noB t ≠ 0 := by
  cases l with
  | nil => exact absurd rfl h
  | cons x l =>
    have hx := hl x List.mem_cons_self
    have htn := nm_ne hx.2.1
    refine ⟨x.tag, htn, ?_⟩
    rw [cf_tag hl]
    exact (cnt_tag (fun x hx => (hl x hx).2.2) htn).2 (by simp [tagL])
end Go.Proofs.Ythchlpikcpidaaa.Vs

/- numbers of Ythchlpikcpidaaa -/
namespace Go.Proofs.Ythchlpikcpidaaa.Vs
set_option linter.unusedVariables false
set_option linter.unusedSimpArgs false
set_option maxRecDepth 100000
theorem PCall.cl {Z : Sys} {f : FuncId} {ds : List D} {σ : Heap} {K : D → Heap → Prop} (h : PCall Z f ds σ K) : PCall Z f ds σ (fun d τ => Closed τ ∧ K d τ) :=
  ⟨h.1, fun w s vs hs hv hW => (h.2 w s vs hs hv hW).mono fun e w' ⟨v, d, s', h1, h2, h3, h4, h5⟩ => ⟨v, d, s', h1, h2, h3, h4, h3.closed, h5⟩⟩
def smI : List ByteArray → (ByteArray → Int) → Int
  | [], _ => 0
  | t :: L, f => f t + smI L f
theorem smI_congr : ∀ {L : List ByteArray} {f g : ByteArray → Int}, (∀ t ∈ L, f t = g t) → smI L f = smI L g
  | [], _, _, _ => rfl
  | t :: L, f, g, h => by rw [smI, smI, h t List.mem_cons_self, smI_congr fun u hu => h u (List.mem_cons_of_mem _ hu)]
theorem smI_step : ∀ (L : List ByteArray) (f g : ByteArray → Int) (d : Int), smI L (fun t => f t * d + g t) = smI L f * d + smI L g
  | [], _, _, _ => by simp [smI]
  | t :: L, f, g, d => by rw [smI, smI, smI, smI_step L f g d, Int.add_mul]; omega
theorem smI_append : ∀ (L M : List ByteArray) (f : ByteArray → Int), smI (L ++ M) f = smI L f + smI M f
  | [], M, f => by simp [smI]
  | t :: L, M, f => by rw [List.cons_append, smI, smI, smI_append L M f]; omega
theorem chF_sum {a : ByteArray → Wd → Int} {b : Wd → Int} {w : Wd} (L : List ByteArray) : ∀ (k i : Nat) (n : ByteArray → Int) (d : Int), smI L (fun t => (chF (a t) b w k i (n t) d).1) = (chF (fun e => smI L (fun t => a t e)) b w k i (smI L n) d).1
  | 0, i, n, d => rfl
  | k + 1, i, n, d => by
    simp only [chF]
    split
    · rfl
    · rw [chF_sum L k (i + 1) (fun t => a t (suf w i) * d + n t) _, smI_step L (fun t => a t (suf w i)) n d]
theorem chF_den {a a' b : Wd → Int} {w : Wd} : ∀ (k i : Nat) (n n' d : Int), (chF a b w k i n d).2 = (chF a' b w k i n' d).2
  | 0, _, _, _, _ => rfl
  | k + 1, i, n, n', d => by
    simp only [chF]
    split
    · rfl
    · exact chF_den k (i + 1) _ _ _
theorem chF_full {a b : Wd → Int} {w : Wd} : ∀ (k i : Nat) (d : Int), (∀ j, i ≤ j → j < i + k → a (suf w j) = b (suf w j)) → (chF a b w k i d d).1 = (chF a b w k i d d).2
  | 0, _, _, _ => rfl
  | k + 1, i, d, h => by
    have h1 := h i (Nat.le_refl _) (by omega)
    simp only [chF]
    split
    · rfl
    · have e : a (suf w i) * d + d = d * (b (suf w i) + 1) := by rw [h1, Int.mul_add, Int.mul_one, Int.mul_comm]
      rw [e]
      exact chF_full k (i + 1) _ fun j hj hj2 => h j (by omega) (by omega)
theorem one_sum {L : List ByteArray} (hn : L.Nodup) (h0 : noB ∉ L) {x : Smp} (hx : x.tag ∈ L) (e : Wd) : smI L (fun t => one e t x) = one e noB x := by
  have hb : ∀ t, t ≠ noB → one e t x = if t = x.tag then one e noB x else 0 := fun t ht => by
    have htb : (t == noB) = false := by
      cases h : (t == noB) with
      | false => rfl
      | true => exact absurd (ba_eq h) ht
    simp only [one, hit, htb, Bool.false_or, ba_refl, Bool.true_or, Bool.and_true]
    by_cases h : t = x.tag
    · subst h; rw [ba_refl, Bool.and_true, if_pos rfl]
    · have : (t == x.tag) = false := by
        cases h2 : (t == x.tag) with
        | false => rfl
        | true => exact absurd (ba_eq h2) h
      rw [this, Bool.and_false, if_neg h]; rfl
  have hc : smI L (fun t => one e t x) = smI L (fun t => if t = x.tag then one e noB x else 0) := smI_congr fun t ht => hb t fun e2 => h0 (e2 ▸ ht)
  rw [hc]
  clear hc hb h0
  induction L with
  | nil => cases hx
  | cons t L ih =>
    rw [List.nodup_cons] at hn
    rw [smI]
    by_cases h : t = x.tag
    · subst h
      rw [if_pos rfl]
      have : smI L (fun u => if u = x.tag then one e noB x else 0) = smI L (fun _ => 0) := smI_congr fun u hu => if_neg (fun e2 : u = x.tag => hn.1 (by rw [← e2]; exact hu))
      rw [this]
      have hz : ∀ M : List ByteArray, smI M (fun _ => 0) = 0 := fun M => by
        induction M with
        | nil => rfl
        | cons _ _ ih => rw [smI, ih]; rfl
      rw [hz, Int.add_zero]
    · rw [if_neg h, Int.zero_add]
      exact ih hn.2 (by
        rcases List.mem_cons.1 hx with e2 | e2
        · exact absurd e2.symm h
        · exact e2)
theorem smI_add : ∀ (L : List ByteArray) (f g : ByteArray → Int), smI L (fun t => f t + g t) = smI L f + smI L g
  | [], _, _ => rfl
  | t :: L, f, g => by rw [smI, smI, smI, smI_add L f g]; omega
theorem cnt_sum {L : List ByteArray} (hn : L.Nodup) (h0 : noB ∉ L) (e : Wd) : ∀ (l : List Smp), (∀ x ∈ l, x.tag ∈ L) → smI L (fun t => cnt l e t) = cnt l e noB
  | [], _ => by
    have hz : ∀ M : List ByteArray, smI M (fun _ => 0) = 0 := fun M => by
      induction M with
      | nil => rfl
      | cons _ _ ih => rw [smI, ih]; rfl
    exact hz L
  | x :: l, h => by
    have ih := cnt_sum hn h0 e l fun y hy => h y (List.mem_cons_of_mem _ hy)
    simp only [cnt]
    rw [smI_add, ih, one_sum hn h0 (h x List.mem_cons_self)]
/-- All chances make 1. -/
theorem key_sum {l : List Smp} (hl : ∀ x ∈ l, fineS x) {w : Wd} (hw : goodW w) {L : List ByteArray} (hR : RankOf (cfL l) w L) (t0 : ByteArray) : smI L (keyT (cfL l) w) = denT (cfL l) w t0 := by
  have h0 : noB ∉ L := fun h => ((hR.mem noB).1 h).1 rfl
  have hin : ∀ x ∈ l, x.tag ∈ L := fun x hx => by
    have htn := nm_ne (hl x hx).2.1
    refine (hR.mem _).2 ⟨htn, ?_⟩
    rw [cf_tag hl]
    exact (cnt_tag (fun y hy => (hl y hy).2.2) htn).2 (List.mem_map.2 ⟨x, hx, rfl⟩)
  have hval : ∀ e : Wd, goodW e → e.length ≤ 4 → smI L (fun t => aF (cfL l) t e) = aF (cfL l) noB e := fun e he h4 => by
    have e1 : smI L (fun t => aF (cfL l) t e) = smI L (fun t => cnt l e t) := smI_congr fun t ht => cfL_val hl he h4 t
    rw [e1, cnt_sum hR.nodup h0 e l hin]
    exact (cfL_val hl he h4 noB).symm
  show smI L (fun t => (chV (aF (cfL l) t) (aF (cfL l) noB) w).1) = _
  unfold chV
  rw [chF_sum (a := fun t => aF (cfL l) t) L (min w.length 4) 1 (fun t => aF (cfL l) t []) (aF (cfL l) noB []), hval [] ⟨by simp, by simp, by simp⟩ (by simp), chF_full]
  · exact chF_den _ _ _ _ _
  · exact fun j hj hj2 => hval _ (hw.drop _) (by rw [suf_len (by omega)]; omega)
theorem leastV_nat (n d : Nat) : leastV (n : Int) (d : Int) = (((n / Nat.gcd n d : Nat) : Int), ((d / Nat.gcd n d : Nat) : Int)) := by
  simp only [leastV, gcdI, Int.toNat_natCast]
  rw [← Int.ofNat_tdiv, ← Int.ofNat_tdiv]
/-- One part, over what all denominators divide. -/
theorem part_is {n D A M : Nat} (hD : 0 < D) (hAM : A * M = D) (hdv : D / Nat.gcd n D ∣ A) : n / Nat.gcd n D * (A / (D / Nat.gcd n D)) * M = n := by
  have hg : 0 < Nat.gcd n D := Nat.gcd_pos_of_pos_right _ hD
  obtain ⟨m, hm⟩ := hdv
  have hgn := Nat.div_mul_cancel (Nat.gcd_dvd_left n D)
  have hgd := Nat.div_mul_cancel (Nat.gcd_dvd_right n D)
  generalize Nat.gcd n D = g at *
  generalize n / g = u at *
  generalize hv : D / g = v at *
  have hv0 : 0 < v := by
    rcases Nat.eq_zero_or_pos v with h | h
    · subst h; omega
    · exact h
  rw [hm, Nat.mul_div_cancel_left m hv0]
  have : v * (m * M) = v * g := by rw [← Nat.mul_assoc, ← hm, hAM, hgd]
  have h2 : m * M = g := Nat.eq_of_mul_eq_mul_left hv0 this
  rw [Nat.mul_assoc, h2, hgn]
theorem lcm_step {A D n : Nat} (hA : A ∣ D) : A / Nat.gcd A (D / Nat.gcd n D) * (D / Nat.gcd n D) = Nat.lcm A (D / Nat.gcd n D) ∧ Nat.lcm A (D / Nat.gcd n D) ∣ D := by
  have h1 : D / Nat.gcd n D ∣ D := Nat.div_dvd_of_dvd (Nat.gcd_dvd_right n D)
  refine ⟨?_, Nat.lcm_dvd hA h1⟩
  unfold Nat.lcm
  rw [Nat.mul_comm A, Nat.mul_div_assoc _ (Nat.gcd_dvd_left A _), Nat.mul_comm]
end Go.Proofs.Ythchlpikcpidaaa.Vs

/- numbers of Ythchlpikcpidaaa -/
namespace Go.Proofs.Ythchlpikcpidaaa.Vs
set_option linter.unusedVariables false
set_option linter.unusedSimpArgs false
set_option maxRecDepth 100000
theorem wdiv {a b : Nat} (h : a ≤ 4611686018427387904) : IntKind.i64.wrap ((a : Int).tdiv (b : Int)) = ((a / b : Nat) : Int) := by
  have h2 := Nat.div_le_self a b
  rw [← Int.ofNat_tdiv]
  generalize a / b = c at *
  rw [wrap64_in (by omega) (by omega)]
theorem smI_nat {L : List ByteArray} {f : ByteArray → Nat} : ∃ s : Nat, smI L (fun t => (f t : Int)) = (s : Int) := by
  induction L with
  | nil => exact ⟨0, rfl⟩
  | cons t L ih => obtain ⟨s, hs⟩ := ih; exact ⟨f t + s, by rw [smI, hs]; push_cast; rfl⟩
set_option maxHeartbeats 2000000 in
theorem sums_c (l : List Smp) (w : Wd) : Fn Zs 4 [encS l, encSS w] (.bool true) := by
  refine fn_of (Z := Zs) ok4 fun σ hcl hbl => ?_
  simp -dsimp only [L4, ↓preB, postB, genB, ↓reduceIte, Nat.reduceEqDiff, Int.reduceToNat, Int.reduceLE, Int.reduceLT, Nat.reduceAdd, Nat.reduceLeDiff, intBin, strBin, unD, extractD, lit1, lit2, lit3, keptD, boxR, D.one, D.pub1, D.cells, splice, cutOwn]
  refine Says.use (over_c l) ?_
  rintro _ ⟨b, rfl⟩
  cases b
  · simp -dsimp only [encSS, gate, uTT, uTF, uFT, uFF, ↓preB, postB, genB, ↓reduceIte, Nat.reduceEqDiff, Int.reduceToNat, Int.reduceLE, Int.reduceLT, Nat.reduceAdd, Nat.reduceLeDiff, intBin, strBin, unD, extractD, lit1, lit2, lit3, keptD, boxR, D.one, D.pub1, D.cells, splice, cutOwn]
    refine Says.useP (IsLong_c [w]) rfl ?_
    rintro _ ⟨b, rfl⟩
    cases b
    · simp -dsimp only [↓preB, postB, genB, ↓reduceIte, Nat.reduceEqDiff, Int.reduceToNat, Int.reduceLE, Int.reduceLT, Nat.reduceAdd, Nat.reduceLeDiff, intBin, strBin, unD, extractD, lit1, lit2, lit3, keptD, boxR, D.one, D.pub1, D.cells, splice, cutOwn]
      refine PCall.use (PCall.cl (new_c l σ)) ?_
      rintro d τ ⟨hclτ, hle, ⟨h0, rfl⟩ | ⟨h0, q, rfl, hPG⟩⟩
      · simp -dsimp only [↓preB, postB, genB, ↓reduceIte, Nat.reduceEqDiff, Int.reduceToNat, Int.reduceLE, Int.reduceLT, Nat.reduceAdd, Nat.reduceLeDiff, intBin, strBin, unD, extractD, lit1, lit2, lit3, keptD, boxR, D.one, D.pub1, D.cells, splice, cutOwn]
        refine Fn.use (Rank0_c w) ?_
        have e1 : ((if badW w ≠ 0 then badW w else 4 : Int) != 0) = true := by
          split
          · simpa using ‹badW w ≠ 0›
          · rfl
        simp -dsimp only [e1, ↓preB, postB, genB, ↓reduceIte, Nat.reduceEqDiff, Int.reduceToNat, Int.reduceLE, Int.reduceLT, Nat.reduceAdd, Nat.reduceLeDiff, intBin, strBin, unD, extractD, lit1, lit2, lit3, keptD, boxR, D.one, D.pub1, D.cells, splice, cutOwn]
        refine Fn.use known_c ?_
        simp -dsimp only [↓preB, postB, genB, ↓reduceIte, Nat.reduceEqDiff, Int.reduceToNat, Int.reduceLE, Int.reduceLT, Nat.reduceAdd, Nat.reduceLeDiff, intBin, strBin, unD, extractD, lit1, lit2, lit3, keptD, boxR, D.one, D.pub1, D.cells, splice, cutOwn]
        exact Ret.less hle hcl (.refl _) (.bool _)
      · obtain ⟨h200, hbs⟩ := newE_fine h0
        obtain ⟨hfine, htot⟩ := badS_ok hbs
        have hnc := cfL_nice hfine htot
        have hb5 := big5 hfine h200
        have hst := some_tag hfine
        have fin : ∀ s, HLe σ s → Ret σ (fun d τ => d = .bool true ∧ τ = σ) (.bool true) s := fun s hs => Ret.less hs hcl (.refl _) (.bool _)
        simp -dsimp only [↓preB, postB, genB, ↓reduceIte, Nat.reduceEqDiff, Int.reduceToNat, Int.reduceLE, Int.reduceLT, Nat.reduceAdd, Nat.reduceLeDiff, intBin, strBin, unD, extractD, lit1, lit2, lit3, keptD, boxR, D.one, D.pub1, D.cells, splice, cutOwn]
        refine PCall.use (Rank_p w q (mfL l) (cfL l) hnc hb5 σ τ hPG hst) ?_
        rintro d1 τ3 ⟨hτ3, hd1⟩
        subst hτ3
        rcases hd1 with ⟨c1, rfl⟩ | ⟨c1, c2, rfl⟩ | ⟨c1, c2, L, hR, hL0, rfl⟩
        · have e1 : (badW w != 0) = true := by simpa using c1
          simp -dsimp only [e1, ↓preB, postB, genB, ↓reduceIte, Nat.reduceEqDiff, Int.reduceToNat, Int.reduceLE, Int.reduceLT, Nat.reduceAdd, Nat.reduceLeDiff, intBin, strBin, unD, extractD, lit1, lit2, lit3, keptD, boxR, D.one, D.pub1, D.cells, splice, cutOwn]
          refine Fn.use known_c ?_
          simp -dsimp only [↓preB, postB, genB, ↓reduceIte, Nat.reduceEqDiff, Int.reduceToNat, Int.reduceLE, Int.reduceLT, Nat.reduceAdd, Nat.reduceLeDiff, intBin, strBin, unD, extractD, lit1, lit2, lit3, keptD, boxR, D.one, D.pub1, D.cells, splice, cutOwn]
          exact fin _ hle
        · have e1 : ((4 : Int) != 0) = true := rfl
          simp -dsimp only [e1, ↓preB, postB, genB, ↓reduceIte, Nat.reduceEqDiff, Int.reduceToNat, Int.reduceLE, Int.reduceLT, Nat.reduceAdd, Nat.reduceLeDiff, intBin, strBin, unD, extractD, lit1, lit2, lit3, keptD, boxR, D.one, D.pub1, D.cells, splice, cutOwn]
          refine Fn.use known_c ?_
          simp -dsimp only [↓preB, postB, genB, ↓reduceIte, Nat.reduceEqDiff, Int.reduceToNat, Int.reduceLE, Int.reduceLT, Nat.reduceAdd, Nat.reduceLeDiff, intBin, strBin, unD, extractD, lit1, lit2, lit3, keptD, boxR, D.one, D.pub1, D.cells, splice, cutOwn]
          exact fin _ hle
        · have e0 : ((0 : Int) != 0) = false := rfl
          have hgw := badW_good c1
          simp -dsimp only [e0, encSS, ↓preB, postB, genB, ↓reduceIte, Nat.reduceEqDiff, Int.reduceToNat, Int.reduceLE, Int.reduceLT, Nat.reduceAdd, Nat.reduceLeDiff, intBin, strBin, unD, extractD, lit1, lit2, lit3, keptD, boxR, D.one, D.pub1, D.cells, splice, cutOwn]
          -- numbers
          obtain ⟨Dn, hDe⟩ : ∃ Dn : Nat, denT (cfL l) w noB = (Dn : Int) := ⟨(denT (cfL l) w noB).toNat, by have := (ch_bound hnc w noB); unfold denT; omega⟩
          have hDt : ∀ t, denT (cfL l) w t = (Dn : Int) := fun t => by rw [← hDe]; exact chF_den _ _ _ _ _
          have hDp : 0 < Dn := by have := (ch_bound hnc w noB).2.2.2 (by have := (hnc noB noB).1; omega); unfold denT at hDe; omega
          have hDb : Dn ≤ 1005010010005001 := by have := (ch_bound hnc w noB).2.2.1; unfold denT at hDe; omega
          obtain ⟨nT, hnT⟩ : ∃ nT : ByteArray → Nat, ∀ t, keyT (cfL l) w t = (nT t : Int) := ⟨fun t => (keyT (cfL l) w t).toNat, fun t => (Int.toNat_of_nonneg (ch_bound hnc w t).1).symm⟩
          have hnD : ∀ t, nT t ≤ Dn := fun t => by have := (ch_bound hnc w t).2.1; have h1 := hnT t; have h2 := hDt t; unfold keyT at h1; unfold denT at h2; omega
          have hsum : smI L (fun t => (nT t : Int)) = (Dn : Int) := by
            have := key_sum hfine hgw hR noB
            rw [hDe] at this
            rw [← this]
            exact smI_congr fun t _ => (hnT t).symm
          have hdesc : L.Pairwise fun a b => nT b ≤ nT a := hR.so.imp fun {a b} h => by
            have h1 := hnT a
            have h2 := hnT b
            rcases h with h | ⟨h, _⟩ <;> omega
          have hg0 : ∀ t, 0 < Nat.gcd (nT t) Dn := fun t => Nat.gcd_pos_of_pos_right _ hDp
          obtain ⟨uT, huT⟩ : ∃ uT : ByteArray → Nat, ∀ t, uT t = nT t / Nat.gcd (nT t) Dn := ⟨_, fun _ => rfl⟩
          obtain ⟨vT, hvT⟩ : ∃ vT : ByteArray → Nat, ∀ t, vT t = Dn / Nat.gcd (nT t) Dn := ⟨_, fun _ => rfl⟩
          have huv : ∀ t, uT t ≤ vT t := fun t => by rw [huT, hvT]; exact Nat.div_le_div_right (hnD t)
          have hv1 : ∀ t, 1 ≤ vT t := fun t => by rw [hvT]; exact Nat.div_pos (Nat.le_of_dvd hDp (Nat.gcd_dvd_right _ _)) (hg0 t)
          have hvD : ∀ t, vT t ≤ Dn := fun t => by rw [hvT]; exact Nat.div_le_self _ _
          have hch : ∀ t ∈ L, gchD (cfL l noB noB == 0) w (cfL l) t = .tup [.int .i64 (uT t : Nat), .int .i64 (vT t : Nat), .int .i64 0] := fun t htL => by
            obtain ⟨h1, h2⟩ := (hR.mem t).1 htL
            have hz : (cfL l noB noB == 0) = false := by simpa using c2
            rw [gchD, if_neg (fun h => h c1), hz, if_neg (by simp), if_neg (fun h => h.elim (fun h => h1 (ba_eq h)) h2)]
            have k1 := hnT t
            have k2 := hDt t
            unfold keyT at k1
            unfold denT at k2
            rw [k1, k2, leastV_nat, huT, hvT]
          have hLl : L.length ≤ 100000 := hb5 L hR.nodup fun t ht => ((hR.mem t).1 ht).2
          refine pwp_loopJ 0 (fun env s => (∃ A : Nat, 0 < A ∧ A ∣ Dn ∧ (∀ t ∈ L, vT t ∣ A) ∧ HLe τ3 s ∧ env 9 = .int .i64 (A : Nat) ∧ ∃ o1 o2, env 10 = .sl o1 L.length (L.map fun t => .int .i64 (uT t : Nat)) ∧ env 11 = .sl o2 L.length (L.map fun t => .int .i64 (vT t : Nat))) ∧ env 7 = .sl .no L.length (L.map .str) ∧ env 5 = .ptr q 0)
            (fun (x : Nat × Nat) env s => (x.1 ≤ L.length ∧ 0 < x.2 ∧ x.2 ∣ Dn ∧ (∀ t ∈ L.take x.1, vT t ∣ x.2) ∧ ∃ d1 d2, Two τ3 3 1 x.1 ((L.take x.1).map fun t => .int .i64 (uT t : Nat)) d1 3 1 x.1 ((L.take x.1).map fun t => .int .i64 (vT t : Nat)) d2 s ∧ env 10 = d1 ∧ env 11 = d2) ∧ env 9 = .int .i64 (x.2 : Nat) ∧ env 12 = .int .i64 (x.1 : Nat) ∧ env 7 = .sl .no L.length (L.map .str) ∧ env 5 = .ptr q 0 ∧ env 1 = .sl .no w.length (w.map .str)) (fun x => L.length - x.1) (0, 1) ?_ ?_ ?_
          · simp only [upd_apply, envOf_apply, Nat.reduceEqDiff, if_true, if_false]
            exact ⟨⟨Nat.zero_le _, by decide, Nat.one_dvd _, fun t ht => (by cases ht), _, _, Two.start hclτ, rfl, rfl⟩, by simp [envOf, encSS]⟩
          · rintro ⟨i, A⟩ env s ⟨⟨hi, hA0, hAD, hAv, d1, d2, hTw, h10, h11⟩, h9, h12, h7, h5, h1⟩
            simp only at hi hA0 hAD hAv hTw h9 h12
            by_cases ci : i < L.length
            · have hx : L[i]? = some L[i] := List.getElem?_eq_getElem ci
              have hlp : 0 < L.length := by omega
              have wi : IntKind.i64.wrap ((i : Int) + 1) = ((i + 1 : Nat) : Int) := wrap64_succ (by simp only [big]; omega)
              have hAb : A ≤ Dn := Nat.le_of_dvd hDp hAD
              have hch1 := hch L[i] (List.getElem_mem ci)
              have b1 := hv1 L[i]
              have b2 := huv L[i]
              have b3 := hvD L[i]
              have f1 : ¬ ((vT L[i] : Int) < 1) := by omega
              have f2 : ¬ ((uT L[i] : Int) < 0) := by omega
              have f3 : ¬ (vT L[i] < uT L[i]) := by omega
              simp -dsimp only [h10, h11, h9, h12, h7, h5, h1, ci, hx, hlp, List.getElem?_map, exitR_exit, exitR_ret, ↓preB, postB, genB, ↓reduceIte, Nat.reduceEqDiff, Int.reduceToNat, Int.reduceLE, Int.reduceLT, Nat.reduceAdd, Nat.reduceLeDiff, intBin, strBin, unD, extractD, lit1, lit2, lit3, keptD, boxR, D.one, D.pub1, D.cells, splice, cutOwn]
              intro _
              refine PCall.use (Chance_c w L[i] q (mfL l) (cfL l) hnc σ s (hPG.more hTw.le)) ?_
              rintro _ _ ⟨rfl, rfl⟩
              rename_i s
              rw [hch1]
              simp -dsimp only [h10, h11, h9, h12, h7, h5, h1, e0, f1, f2, f3, gate, uTT, uTF, uFT, uFF, decide_true, decide_false, exitR_exit, exitR_ret, ↓preB, postB, genB, ↓reduceIte, Nat.reduceEqDiff, Int.reduceToNat, Int.reduceLE, Int.reduceLT, Nat.reduceAdd, Nat.reduceLeDiff, intBin, strBin, unD, extractD, lit1, lit2, lit3, keptD, boxR, D.one, D.pub1, D.cells, splice, cutOwn]
              refine hTw.append (m := 1) (ys := [.int .i64 (uT L[i] : Nat)]) hclτ tz40 rfl tz3 rfl rfl rfl (by decide) (by simp; omega) (fedBy_sl (m := 1) tz40 rfl rfl) (by decide) (by simp only []; omega) (by simp only [big]; omega) fun e1 s2 hT2 _ => ?_
              simp -dsimp only [h10, h11, h9, h12, h7, h5, h1, exitR_exit, exitR_ret, ↓preB, postB, genB, ↓reduceIte, Nat.reduceEqDiff, Int.reduceToNat, Int.reduceLE, Int.reduceLT, Nat.reduceAdd, Nat.reduceLeDiff, intBin, strBin, unD, extractD, lit1, lit2, lit3, keptD, boxR, D.one, D.pub1, D.cells, splice, cutOwn]
              refine hT2.swap.append (m := 1) (ys := [.int .i64 (vT L[i] : Nat)]) hclτ tz40 rfl tz3 rfl rfl rfl (by decide) (by simp; omega) (fedBy_sl (m := 1) tz40 rfl rfl) (by decide) (by simp only []; omega) (by simp only [big]; omega) fun e2 s3 hT3 _ => ?_
              have hT4 := hT3.swap
              obtain ⟨v, hv⟩ : ∃ v, v = vT L[i] := ⟨_, rfl⟩
              rw [← hv] at b1 b3
              simp -dsimp only [← hv, h10, h11, h9, h12, h7, h5, h1, exitR_exit, exitR_ret, ↓preB, postB, genB, ↓reduceIte, Nat.reduceEqDiff, Int.reduceToNat, Int.reduceLE, Int.reduceLT, Nat.reduceAdd, Nat.reduceLeDiff, intBin, strBin, unD, extractD, lit1, lit2, lit3, keptD, boxR, D.one, D.pub1, D.cells, splice, cutOwn]
              refine pwp_loopJ 2 (fun env s' => s' = s3 ∧ env 16 = .int .i64 (Nat.gcd A v : Nat) ∧ env 9 = .int .i64 (A : Nat) ∧ env 10 = e1 ∧ env 11 = e2 ∧ env 14 = .int .i64 (v : Nat) ∧ env 12 = .int .i64 (i : Nat) ∧ env 7 = .sl .no L.length (L.map .str) ∧ env 5 = .ptr q 0 ∧ env 1 = .sl .no w.length (w.map .str))
                (fun (p : Nat × Nat) env s' => (Nat.gcd p.1 p.2 = Nat.gcd A v ∧ s' = s3) ∧ env 16 = .int .i64 (p.1 : Nat) ∧ env 17 = .int .i64 (p.2 : Nat) ∧ env 9 = .int .i64 (A : Nat) ∧ env 10 = e1 ∧ env 11 = e2 ∧ env 14 = .int .i64 (v : Nat) ∧ env 12 = .int .i64 (i : Nat) ∧ env 7 = .sl .no L.length (L.map .str) ∧ env 5 = .ptr q 0 ∧ env 1 = .sl .no w.length (w.map .str)) (fun p => p.2) (A, v) ?_ ?_ ?_
              · simp only [upd_apply, h9, h12, h7, h5, h1, Nat.reduceEqDiff, if_true, if_false]
                exact ⟨⟨trivial, trivial⟩, by simp [← hv]⟩
              · rintro ⟨x, y⟩ env s' ⟨⟨hgc, rfl⟩, h16, h17, h9, h10, h11, h14, h12, h7, h5, h1⟩
                simp only at hgc h16 h17
                by_cases cy : y = 0
                · subst cy
                  rw [Nat.gcd_zero_right] at hgc
                  subst hgc
                  have g1 : (((0 : Nat) : Int) != 0) = false := rfl
                  simp -dsimp only [h16, h17, h9, h10, h11, h14, h12, h7, h5, h1, g1, exitR_exit, exitR_ret, ↓preB, postB, genB, ↓reduceIte, Nat.reduceEqDiff, Int.reduceToNat, Int.reduceLE, Int.reduceLT, Nat.reduceAdd, Nat.reduceLeDiff, intBin, strBin, unD, extractD, lit1, lit2, lit3, keptD, boxR, D.one, D.pub1, D.cells, splice, cutOwn]
                · have g1 : ((y : Int) != 0) = true := by rw [bne_iff_ne]; omega
                  have g2 : ¬ ((y : Int) = 0) := by omega
                  have g3 : (x : Int).tmod (y : Int) = ((x % y : Nat) : Int) := (Int.ofNat_tmod x y).symm
                  simp -dsimp only [h16, h17, h9, h10, h11, h14, h12, h7, h5, h1, g1, exitR_exit, exitR_ret, ↓preB, postB, genB, ↓reduceIte, Nat.reduceEqDiff, Int.reduceToNat, Int.reduceLE, Int.reduceLT, Nat.reduceAdd, Nat.reduceLeDiff, intBin, strBin, unD, extractD, lit1, lit2, lit3, keptD, boxR, D.one, D.pub1, D.cells, splice, cutOwn]
                  refine draw_s ?_
                  simp -dsimp only [h16, h17, h9, h10, h11, h14, h12, h7, h5, h1, g2, g3, exitR_exit, exitR_ret, ↓preB, postB, genB, ↓reduceIte, Nat.reduceEqDiff, Int.reduceToNat, Int.reduceLE, Int.reduceLT, Nat.reduceAdd, Nat.reduceLeDiff, intBin, strBin, unD, extractD, lit1, lit2, lit3, keptD, boxR, D.one, D.pub1, D.cells, splice, cutOwn]
                  exact ⟨(y, x % y), ⟨by simp only []; rw [← hgc, Nat.gcd_comm x y, Nat.gcd_rec y x, Nat.gcd_comm], rfl, rfl⟩, Nat.mod_lt _ (by omega)⟩
              · clear h10 h11 h9 h12 h7 h5 h1
                rintro env s' ⟨rfl, h16, h9, h10, h11, h14, h12, h7, h5, h1⟩
                have hgp : 0 < Nat.gcd A v := Nat.gcd_pos_of_pos_left _ hA0
                have q1 : ¬ (((Nat.gcd A v : Nat) : Int) = 0) := by omega
                have q2 : ¬ ((v : Int) = 0) := by omega
                have w1 := wdiv (a := A) (b := Nat.gcd A v) (by omega)
                have w2 := wdiv (a := 4611686018427387904) (b := v) (by omega)
                obtain ⟨l1, l2⟩ := lcm_step (n := nT L[i]) hAD
                rw [← hvT, ← hv] at l1 l2
                have hlb : Nat.lcm A v ≤ Dn := Nat.le_of_dvd hDp l2
                have w3 : IntKind.i64.wrap (((A / Nat.gcd A v : Nat) : Int) * (v : Int)) = ((Nat.lcm A v : Nat) : Int) := by
                  rw [← Int.natCast_mul, l1, wrap64_in (by omega) (by omega)]
                have w2' : IntKind.i64.wrap ((4611686018427387904 : Int).tdiv (v : Int)) = ((4611686018427387904 / v : Nat) : Int) := w2
                simp -dsimp only [h16, h9, h10, h11, h14, h12, h7, h5, h1, ↓preB, postB, genB, ↓reduceIte, Nat.reduceEqDiff, Int.reduceToNat, Int.reduceLE, Int.reduceLT, Nat.reduceAdd, Nat.reduceLeDiff, intBin, strBin, unD, extractD, lit1, lit2, lit3, keptD, boxR, D.one, D.pub1, D.cells, splice, cutOwn]
                refine draw_s ?_
                by_cases cb : 4611686018427387904 / v < A / Nat.gcd A v
                · simp -dsimp only [h16, h9, h10, h11, h14, h12, h7, h5, h1, q1, q2, w1, w2', cb, ↓preB, postB, genB, ↓reduceIte, Nat.reduceEqDiff, Int.reduceToNat, Int.reduceLE, Int.reduceLT, Nat.reduceAdd, Nat.reduceLeDiff, intBin, strBin, unD, extractD, lit1, lit2, lit3, keptD, boxR, D.one, D.pub1, D.cells, splice, cutOwn]
                  refine Fn.use known_c ?_
                  simp -dsimp only [exitR_exit, exitR_ret, ↓preB, postB, genB, ↓reduceIte, Nat.reduceEqDiff, Int.reduceToNat, Int.reduceLE, Int.reduceLT, Nat.reduceAdd, Nat.reduceLeDiff, intBin, strBin, unD, extractD, lit1, lit2, lit3, keptD, boxR, D.one, D.pub1, D.cells, splice, cutOwn]
                  exact fin _ (hle.trans hT4.le)
                · simp -dsimp only [h16, h9, h10, h11, h14, h12, h7, h5, h1, q1, q2, w1, w2', w3, wi, cb, ↓preB, postB, genB, ↓reduceIte, Nat.reduceEqDiff, Int.reduceToNat, Int.reduceLE, Int.reduceLT, Nat.reduceAdd, Nat.reduceLeDiff, intBin, strBin, unD, extractD, lit1, lit2, lit3, keptD, boxR, D.one, D.pub1, D.cells, splice, cutOwn]
                  have hlp0 : 0 < Nat.lcm A v := Nat.pos_of_dvd_of_pos l2 hDp
                  refine ⟨(i + 1, Nat.lcm A v), ⟨⟨by simp only []; omega, hlp0, l2, fun t ht => ?_, e1, e2, ?_, rfl, rfl⟩, rfl, rfl⟩, by simp only []; omega⟩
                  · simp only at ht ⊢
                    rw [List.take_succ_eq_append_getElem ci, List.mem_append] at ht
                    rcases ht with ht | ht
                    · exact Nat.dvd_trans (hAv t ht) (Nat.dvd_lcm_left A v)
                    · simp at ht; subst ht; rw [← hv]; exact Nat.dvd_lcm_right A v
                  · simp only []
                    rw [List.take_succ_eq_append_getElem ci, List.map_append, List.map_append]
                    exact hT4
            · have hiL : i = L.length := by omega
              subst hiL
              simp -dsimp only [h10, h11, h9, h12, h7, h5, h1, Nat.lt_irrefl, exitR_exit, exitR_ret, ↓preB, postB, genB, ↓reduceIte, Nat.reduceEqDiff, Int.reduceToNat, Int.reduceLE, Int.reduceLT, Nat.reduceAdd, Nat.reduceLeDiff, intBin, strBin, unD, extractD, lit1, lit2, lit3, keptD, boxR, D.one, D.pub1, D.cells, splice, cutOwn]
              intro _
              rw [List.take_length] at hTw hAv
              obtain ⟨o1, rfl⟩ := hTw.one.is
              obtain ⟨o2, rfl⟩ := hTw.two.is
              exact ⟨A, hA0, hAD, hAv, hTw.le, rfl, o1, o2, rfl, rfl⟩
          · rintro env s ⟨⟨A, hA0, hAD, hAv, hles, h9, o1, o2, h10, h11⟩, h7, h5⟩
            obtain ⟨M, hAM⟩ := hAD
            have hM0 : 0 < M := by
              rcases Nat.eq_zero_or_pos M with h | h
              · subst h; omega
              · exact h
            have hADb : A ≤ Dn := by rw [hAM]; exact Nat.le_mul_of_pos_right A hM0
            obtain ⟨val, hval⟩ : ∃ val : ByteArray → Nat, ∀ t, val t = uT t * (A / vT t) := ⟨_, fun _ => rfl⟩
            have hvM : ∀ t ∈ L, val t * M = nT t := fun t ht => by
              rw [hval, huT, hvT]
              exact part_is hDp hAM.symm (by rw [← hvT]; exact hAv t ht)
            have hsv : smI L (fun t => (val t : Int)) = (A : Int) := by
              have h1 : smI L (fun t => (val t : Int)) * (M : Int) = (A : Int) * (M : Int) := by
                have h2 := smI_step L (fun t => (val t : Int)) (fun _ => 0) (M : Int)
                have h3 : smI L (fun _ => (0 : Int)) = 0 := by
                  clear h2 hsum hvM hch hdesc hAv hLl hL0 hR h10 h11 h7
                  induction L with
                  | nil => rfl
                  | cons _ _ ih => rw [smI, ih]; rfl
                rw [h3, Int.add_zero] at h2
                rw [← h2, ← Int.natCast_mul, ← hAM, ← hsum]
                refine smI_congr fun t ht => ?_
                rw [Int.add_zero, ← Int.natCast_mul, hvM t ht]
              exact Int.eq_of_mul_eq_mul_right (by omega) h1
            have hvle : ∀ i (hi : i < L.length) (h0 : 0 < i), val L[i] ≤ val (L[i - 1]'(by omega)) := fun i hi h0 => by
              have h1 := List.pairwise_iff_getElem.1 hdesc (i - 1) i (by omega) hi (by omega)
              have h2 := hvM _ (List.getElem_mem hi)
              have h3 := hvM _ (List.getElem_mem (show i - 1 < L.length by omega))
              rw [← h2, ← h3] at h1
              exact Nat.le_of_mul_le_mul_right h1 hM0
            have hpart : ∀ i, i ≤ L.length → ∃ S : Nat, smI (L.take i) (fun t => (val t : Int)) = (S : Int) ∧ S ≤ A := fun i hi => by
              obtain ⟨S, hS⟩ := smI_nat (L := L.take i) (f := val)
              obtain ⟨S2, hS2⟩ := smI_nat (L := L.drop i) (f := val)
              have := smI_append (L.take i) (L.drop i) (fun t => (val t : Int))
              rw [List.take_append_drop, hsv, hS, hS2] at this
              exact ⟨S, hS, by omega⟩
            simp -dsimp only [h9, h10, h11, h7, h5, ↓preB, postB, genB, ↓reduceIte, Nat.reduceEqDiff, Int.reduceToNat, Int.reduceLE, Int.reduceLT, Nat.reduceAdd, Nat.reduceLeDiff, intBin, strBin, unD, extractD, lit1, lit2, lit3, keptD, boxR, D.one, D.pub1, D.cells, splice, cutOwn]
            refine pwp_loopG (fun (i : Nat) env s' => (i ≤ L.length ∧ s' = s) ∧ env 18 = .int .i64 (smI (L.take i) (fun t => (val t : Int))) ∧ env 19 = .int .i64 (i : Nat) ∧ env 9 = .int .i64 (A : Nat) ∧ env 10 = .sl o1 L.length (L.map fun t => .int .i64 (uT t : Nat)) ∧ env 11 = .sl o2 L.length (L.map fun t => .int .i64 (vT t : Nat)) ∧ env 7 = .sl .no L.length (L.map .str) ∧ env 5 = .ptr q 0) (fun i => L.length - i) 0 ?_ ?_
            · simp only [upd_apply, h9, h10, h11, h7, h5, Nat.reduceEqDiff, if_true, if_false]
              exact ⟨⟨Nat.zero_le _, trivial⟩, by simp [smI]⟩
            · clear h9 h10 h11 h7 h5
              rintro i env s' ⟨⟨hi, rfl⟩, h18, h19, h9, h10, h11, h7, h5⟩
              by_cases ci : i < L.length
              · have hx : L[i]? = some L[i] := List.getElem?_eq_getElem ci
                have hlp : 0 < L.length := by omega
                have wi : IntKind.i64.wrap ((i : Int) + 1) = ((i + 1 : Nat) : Int) := wrap64_succ (by simp only [big]; omega)
                obtain ⟨S, hS, hSA⟩ := hpart i hi
                obtain ⟨S1, hS1, hS1A⟩ := hpart (i + 1) (by omega)
                have hnext : S1 = S + val L[i] := by
                  rw [List.take_succ_eq_append_getElem ci, smI_append, hS] at hS1
                  simp only [smI] at hS1
                  omega
                have q2 : ¬ ((vT L[i] : Int) = 0) := by have := hv1 L[i]; omega
                have w1 := wdiv (a := A) (b := vT L[i]) (by omega)
                have w2 : IntKind.i64.wrap ((uT L[i] : Int) * ((A / vT L[i] : Nat) : Int)) = ((val L[i] : Nat) : Int) := by
                  rw [← Int.natCast_mul, ← hval, wrap64_in (by omega) (by omega)]
                have w3 : IntKind.i64.wrap ((S : Int) + ((val L[i] : Nat) : Int)) = ((S1 : Nat) : Int) := by
                  rw [hnext, wrap64_in (by omega) (by omega)]; omega
                rw [hS] at h18
                simp -dsimp only [h18, h19, h9, h10, h11, h7, h5, ci, ↓preB, postB, genB, ↓reduceIte, Nat.reduceEqDiff, Int.reduceToNat, Int.reduceLE, Int.reduceLT, Nat.reduceAdd, Nat.reduceLeDiff, intBin, strBin, unD, extractD, lit1, lit2, lit3, keptD, boxR, D.one, D.pub1, D.cells, splice, cutOwn]
                intro _
                refine draw_s ?_
                simp -dsimp only [h18, h19, h9, h10, h11, h7, h5, ci, hx, hlp, q2, w1, w2, w3, List.getElem?_map, ↓preB, postB, genB, ↓reduceIte, Nat.reduceEqDiff, Int.reduceToNat, Int.reduceLE, Int.reduceLT, Nat.reduceAdd, Nat.reduceLeDiff, intBin, strBin, unD, extractD, lit1, lit2, lit3, keptD, boxR, D.one, D.pub1, D.cells, splice, cutOwn]
                by_cases i0 : i = 0
                · have c0 : ¬ ((0 : Int) < (i : Int)) := by omega
                  refine draw_p _ rfl rfl rfl rfl ?_
                  simp only [List.filterMap_cons, List.filterMap_nil, List.getElem?_cons_succ, List.getElem?_cons_zero, pOps, keepKind, hfKind, Bool.or_false, Bool.or_true, Bool.false_eq_true, if_true, if_false]
                  simp -dsimp only [h18, h19, h9, h10, h11, h7, h5, ci, hx, hlp, wi, c0, gate, uTT, uTF, uFT, uFF, decide_true, decide_false, List.getElem?_map, ↓preB, postB, genB, ↓reduceIte, Nat.reduceEqDiff, Int.reduceToNat, Int.reduceLE, Int.reduceLT, Nat.reduceAdd, Nat.reduceLeDiff, intBin, strBin, unD, extractD, lit1, lit2, lit3, keptD, boxR, D.one, D.pub1, D.cells, splice, cutOwn]
                  exact ⟨i + 1, ⟨by omega, hS1.symm, rfl⟩, by omega⟩
                · have hi1 : 0 < i := by omega
                  have hi1' : (0 : Int) < (i : Int) := by omega
                  have hx1 : L[i - 1]? = some (L[i - 1]'(by omega)) := List.getElem?_eq_getElem (by omega)
                  have ci1 : ((i - 1 : Nat) : Int) < (L.length : Int) := by omega
                  have ci1' : i - 1 < L.length := by omega
                  have wm := wsub (a := i) (b := 1) (by omega) (by simp only [big]; omega)
                  have wm' : IntKind.i64.wrap ((i : Int) - 1) = ((i - 1 : Nat) : Int) := wm
                  have q3 : ¬ ((vT (L[i - 1]'ci1') : Int) = 0) := by have := hv1 (L[i - 1]'ci1'); omega
                  have w4 := wdiv (a := A) (b := vT (L[i - 1]'ci1')) (by omega)
                  have hva : val (L[i - 1]'ci1') ≤ A := by
                    obtain ⟨S2, hS2, hS2A⟩ := hpart (i - 1) (by omega)
                    have h5 := hS
                    have e9 : i = (i - 1) + 1 := by omega
                    rw [e9, List.take_succ_eq_append_getElem ci1', smI_append, hS2] at h5
                    simp only [smI] at h5
                    omega
                  have w5 : IntKind.i64.wrap ((uT (L[i - 1]'ci1') : Int) * ((A / vT (L[i - 1]'ci1') : Nat) : Int)) = ((val (L[i - 1]'ci1') : Nat) : Int) := by
                    rw [← Int.natCast_mul, ← hval, wrap64_in (by omega) (by omega)]
                  have hle2 := hvle i ci hi1
                  have c5 : ¬ (val (L[i - 1]'ci1') < val L[i]) := by omega
                  refine draw_p _ rfl rfl rfl rfl ?_
                  simp only [List.filterMap_cons, List.filterMap_nil, List.getElem?_cons_succ, List.getElem?_cons_zero, pOps, keepKind, hfKind, Bool.or_false, Bool.or_true, Bool.false_eq_true, if_true, if_false]
                  simp -dsimp only [h18, h19, h9, h10, h11, h7, h5, ci, hx, hx1, hlp, wi, hi1, hi1', ci1, ci1', wm', q2, q3, w1, w2, w4, w5, c5, gate, uTT, uTF, uFT, uFF, decide_true, decide_false, List.getElem?_map, ↓preB, postB, genB, ↓reduceIte, Nat.reduceEqDiff, Int.reduceToNat, Int.reduceLE, Int.reduceLT, Nat.reduceAdd, Nat.reduceLeDiff, intBin, strBin, unD, extractD, lit1, lit2, lit3, keptD, boxR, D.one, D.pub1, D.cells, splice, cutOwn]
                  exact ⟨i + 1, ⟨by omega, hS1.symm, rfl⟩, by omega⟩
              · have hiL : i = L.length := by omega
                subst hiL
                rw [List.take_length, hsv] at h18
                have hTl : ∀ L2 : List ByteArray, TagsOf (cfL l noB) L2 → L2.length = L.length := fun L2 h2 => by
                  have hn2 : L2.Nodup := h2.so.imp fun {a b} h e => by subst e; rw [strLt_irrefl] at h; cases h
                  have hp2 : L2.Perm L := by
                    rw [List.perm_ext_iff_of_nodup hn2 hR.nodup]
                    exact fun t => by rw [h2.mem, hR.mem]
                  exact hp2.length_eq
                simp -dsimp only [h18, h19, h9, h10, h11, h7, h5, Nat.lt_irrefl, beq_self_eq_true, gate, uTT, uTF, uFT, uFF, ↓preB, postB, genB, ↓reduceIte, Nat.reduceEqDiff, Int.reduceToNat, Int.reduceLE, Int.reduceLT, Nat.reduceAdd, Nat.reduceLeDiff, intBin, strBin, unD, extractD, lit1, lit2, lit3, keptD, boxR, D.one, D.pub1, D.cells, splice, cutOwn]
                intro _ _
                refine PCall.use (Tags_p q (mfL l) (cfL l) hnc hb5 σ s' (hPG.more hles) c2 (hst c2)) ?_
                rintro d2 τ4 ⟨hle4, L2, x, js, hT2, hL20, rfl, g1, g2, g3⟩
                have hl2 := hTl L2 hT2
                simp -dsimp only [h18, h19, h9, h10, h11, h7, h5, hl2, beq_self_eq_true, gate, uTT, uTF, uFT, uFF, ↓preB, postB, genB, ↓reduceIte, Nat.reduceEqDiff, Int.reduceToNat, Int.reduceLE, Int.reduceLT, Nat.reduceAdd, Nat.reduceLeDiff, intBin, strBin, unD, extractD, lit1, lit2, lit3, keptD, boxR, D.one, D.pub1, D.cells, splice, cutOwn]
                intro _
                refine Fn.use known_c ?_
                simp -dsimp only [↓preB, postB, genB, ↓reduceIte, Nat.reduceEqDiff, Int.reduceToNat, Int.reduceLE, Int.reduceLT, Nat.reduceAdd, Nat.reduceLeDiff, intBin, strBin, unD, extractD, lit1, lit2, lit3, keptD, boxR, D.one, D.pub1, D.cells, splice, cutOwn]
                exact fin _ ((hle.trans hles).trans hle4)
    · simp -dsimp only [↓preB, postB, genB, ↓reduceIte, Nat.reduceEqDiff, Int.reduceToNat, Int.reduceLE, Int.reduceLT, Nat.reduceAdd, Nat.reduceLeDiff, intBin, strBin, unD, extractD, lit1, lit2, lit3, keptD, boxR, D.one, D.pub1, D.cells, splice, cutOwn]
      refine Fn.use known_c ?_
      simp -dsimp only [↓preB, postB, genB, ↓reduceIte, Nat.reduceEqDiff, Int.reduceToNat, Int.reduceLE, Int.reduceLT, Nat.reduceAdd, Nat.reduceLeDiff, intBin, strBin, unD, extractD, lit1, lit2, lit3, keptD, boxR, D.one, D.pub1, D.cells, splice, cutOwn]
      exact Ret.is rfl
  · simp -dsimp only [gate, uTT, uTF, uFT, uFF, ↓preB, postB, genB, ↓reduceIte, Nat.reduceEqDiff, Int.reduceToNat, Int.reduceLE, Int.reduceLT, Nat.reduceAdd, Nat.reduceLeDiff, intBin, strBin, unD, extractD, lit1, lit2, lit3, keptD, boxR, D.one, D.pub1, D.cells, splice, cutOwn]
    refine Fn.use known_c ?_
    simp -dsimp only [↓preB, postB, genB, ↓reduceIte, Nat.reduceEqDiff, Int.reduceToNat, Int.reduceLE, Int.reduceLT, Nat.reduceAdd, Nat.reduceLeDiff, intBin, strBin, unD, extractD, lit1, lit2, lit3, keptD, boxR, D.one, D.pub1, D.cells, splice, cutOwn]
    exact Ret.is rfl
end Go.Proofs.Ythchlpikcpidaaa.Vs
