import Derived.Test.YthchlpikcpidaaaGuA1
/- numbers of Ythchlpikcpidaaa -/
namespace Go.Proofs.Ythchlpikcpidaaa.Vs
set_option linter.unusedVariables false
set_option linter.unusedSimpArgs false
set_option maxRecDepth 20000
def Fine (L : List Smp) : Prop := (∀ x ∈ L, 1 ≤ x.many) ∧ tot L ≤ 1000
theorem hit_all {e : Wd} {t : ByteArray} {x : Smp} (_ : hit e t x = true) : hit [] noB x = true := by
  have h0 : (noB == noB) = true := ba_refl _
  simp [hit, isEnd_nil, h0]
theorem Fine.le {L : List Smp} (h : Fine L) (e : Wd) (t : ByteArray) : 0 ≤ cnt L e t ∧ cnt L e t ≤ 1000 :=
  ⟨cnt_nonneg _ _ h.1, Int.le_trans (cnt_le h.1 fun x _ hx => hit_all hx) h.2⟩
theorem Fine.take {L : List Smp} (h : Fine L) (k : Nat) : Fine (L.take k) := by
  refine ⟨fun x hx => h.1 x (List.mem_of_mem_take hx), ?_⟩
  have h1 := cnt_append (L.take k) (L.drop k) [] noB
  rw [List.take_append_drop] at h1
  have h2 : 0 ≤ cnt (L.drop k) [] noB := cnt_nonneg _ _ fun x hx => h.1 x (List.mem_of_mem_drop hx)
  have := h.2
  unfold tot at *
  omega
def countV (L : List Smp) (e : Wd) (t : ByteArray) : Int := if e.length ≤ 4 then cnt L e t else 0
theorem take_snoc {α : Type} {L : List α} {k : Nat} (h : k < L.length) : L.take (k + 1) = L.take k ++ [L[k]] := by
  rw [List.take_add_one, List.getElem?_eq_getElem h]; rfl

theorem refCount_c (L : List Smp) (q : Nat) (e : Wd) (t : ByteArray) (hL : L.length ≤ 100000) (hF : Fine L) (σ : Heap) (h : RGat L q σ) : PCall Zs 15 [.ptr q 0, encSS e, .str t] σ (fun d τ => d = .int .i64 (countV L e t) ∧ τ = σ) := by
  obtain ⟨d, hq, hd⟩ := h
  refine pcall_of (Z := Zs) ok15 fun hcl hbl => ?_
  simp -dsimp only [L15, ↓preB, postB, genB, ↓reduceIte, Nat.reduceEqDiff, Int.reduceToNat, Int.reduceLE, Int.reduceLT, Nat.reduceAdd, Nat.reduceLeDiff, intBin, strBin, unD, extractD, lit1, lit2, lit3, keptD, boxR, D.one, D.pub1, D.cells, splice, cutOwn]
  by_cases he : e.length ≤ 4
  · have he' : (e.length : Int) ≤ 4 := by omega
    refine pwp_loopG (fun k env s => k ≤ L.length ∧ s = σ ∧ env 8 = .int .i64 (k:Nat) ∧ env 7 = .int .i64 (cnt (L.take k) e t) ∧ env 0 = .ptr q 0 ∧ env 1 = encSS e ∧ env 2 = .str t) (fun k => L.length - k) 0 ?_ ?_
    · simp [upd_apply, envOf, cnt]
    · rintro k env s ⟨hk, rfl, h8, h7, h0, h1, h2⟩
      rcases hd with ⟨rfl, rfl⟩ | ⟨hne, r, js, hrq, rfl, hr⟩
      · simp -dsimp only [h8, h7, h0, h1, h2, encSS, hq, he', List.length_nil, Nat.not_lt_zero, ↓preB, postB, genB, ↓reduceIte, Nat.reduceEqDiff, Int.reduceToNat, Int.reduceLE, Int.reduceLT, Nat.reduceAdd, Nat.reduceLeDiff, intBin, strBin, unD, extractD, lit1, lit2, lit3, keptD, boxR, D.one, D.pub1, D.cells, splice, cutOwn]
        intros
        exact Ret.is (by simp [countV, he])
      · rcases Nat.lt_or_ge k L.length with hlt | hge
        · obtain ⟨d0, d1, d2⟩ := cellsS_j hlt js
          have hsn := take_snoc hlt
          have hb := (hF.take k).le e t
          have hb2 := (hF.take (k + 1)).le e t
          rw [hsn, cnt_append, cnt_one] at hb2
          have next : ∀ n : Int, n = one e t L[k] → IntKind.i64.wrap (cnt (L.take k) e t + n) = cnt (L.take (k + 1)) e t := fun n hn => by
            rw [hsn, cnt_append, cnt_one, hn, wrap64_in (by omega) (by omega)]
          simp -dsimp only [h8, h7, h0, h1, h2, encSS, hq, hr, he', hlt, d0, d1, d2, ↓preB, postB, genB, ↓reduceIte, Nat.reduceEqDiff, Int.reduceToNat, Int.reduceLE, Int.reduceLT, Nat.reduceAdd, Nat.reduceLeDiff, intBin, strBin, unD, extractD, lit1, lit2, lit3, keptD, boxR, D.one, D.pub1, D.cells, splice, cutOwn]
          intro hbe hbL
          have hwk : IntKind.i64.wrap ((k : Int) + 1) = ((k + 1 : Nat) : Int) := wrap64_succ (by simp only [big] at *; omega)
          refine Fn.use (isEnding_c e L[k].word) ?_
          have zero : one e t L[k] = 0 → ∃ y, (y ≤ L.length ∧ IntKind.i64.wrap ((k : Int) + 1) = (y : Int) ∧ cnt (L.take k) e t = cnt (L.take y) e t) ∧ L.length - y < L.length - k := fun h0 => by
            refine ⟨k + 1, ⟨by omega, hwk, ?_⟩, by omega⟩
            rw [hsn, cnt_append, cnt_one, h0]; simp
          have more : one e t L[k] = L[k].many → ∃ y, (y ≤ L.length ∧ IntKind.i64.wrap ((k : Int) + 1) = (y : Int) ∧ IntKind.i64.wrap (cnt (L.take k) e t + L[k].many) = cnt (L.take y) e t) ∧ L.length - y < L.length - k := fun h0 =>
            ⟨k + 1, ⟨by omega, hwk, next _ h0.symm⟩, by omega⟩
          cases c1 : isEnd e L[k].word
          · simp -dsimp only [h8, h7, h0, h1, h2, encSS, hq, hr, he', hlt, d0, d1, d2, c1, ↓preB, postB, genB, ↓reduceIte, Nat.reduceEqDiff, Int.reduceToNat, Int.reduceLE, Int.reduceLT, Nat.reduceAdd, Nat.reduceLeDiff, intBin, strBin, unD, extractD, lit1, lit2, lit3, keptD, boxR, D.one, D.pub1, D.cells, splice, cutOwn]
            exact zero (by simp [one, hit, c1])
          · cases c2 : (t == (⟨#[]⟩ : ByteArray))
            · cases c3 : (t == L[k].tag)
              · simp -dsimp only [h8, h7, h0, h1, h2, encSS, hq, hr, he', hlt, d0, d1, d2, c1, c2, c3, ↓preB, postB, genB, ↓reduceIte, Nat.reduceEqDiff, Int.reduceToNat, Int.reduceLE, Int.reduceLT, Nat.reduceAdd, Nat.reduceLeDiff, intBin, strBin, unD, extractD, lit1, lit2, lit3, keptD, boxR, D.one, D.pub1, D.cells, splice, cutOwn]
                exact zero (by simp [one, hit, c1, noB, c2, c3])
              · simp -dsimp only [h8, h7, h0, h1, h2, encSS, hq, hr, he', hlt, d0, d1, d2, c1, c2, c3, ↓preB, postB, genB, ↓reduceIte, Nat.reduceEqDiff, Int.reduceToNat, Int.reduceLE, Int.reduceLT, Nat.reduceAdd, Nat.reduceLeDiff, intBin, strBin, unD, extractD, lit1, lit2, lit3, keptD, boxR, D.one, D.pub1, D.cells, splice, cutOwn]
                exact more (by simp [one, hit, c1, noB, c2, c3])
            · simp -dsimp only [h8, h7, h0, h1, h2, encSS, hq, hr, he', hlt, d0, d1, d2, c1, c2, ↓preB, postB, genB, ↓reduceIte, Nat.reduceEqDiff, Int.reduceToNat, Int.reduceLE, Int.reduceLT, Nat.reduceAdd, Nat.reduceLeDiff, intBin, strBin, unD, extractD, lit1, lit2, lit3, keptD, boxR, D.one, D.pub1, D.cells, splice, cutOwn]
              exact more (by simp [one, hit, c1, noB, c2])
        · rw [List.take_of_length_le hge] at h7
          simp -dsimp only [h8, h7, h0, h1, h2, encSS, hq, hr, he', Nat.not_lt.2 hge, ↓preB, postB, genB, ↓reduceIte, Nat.reduceEqDiff, Int.reduceToNat, Int.reduceLE, Int.reduceLT, Nat.reduceAdd, Nat.reduceLeDiff, intBin, strBin, unD, extractD, lit1, lit2, lit3, keptD, boxR, D.one, D.pub1, D.cells, splice, cutOwn]
          intros
          exact Ret.is (by rw [countV, if_pos he])
  · have he' : ¬ (e.length : Int) ≤ 4 := by omega
    refine pwp_loop1 ?_
    simp -dsimp only [encSS, hq, he', ↓preB, postB, genB, ↓reduceIte, Nat.reduceEqDiff, Int.reduceToNat, Int.reduceLE, Int.reduceLT, Nat.reduceAdd, Nat.reduceLeDiff, intBin, strBin, unD, extractD, lit1, lit2, lit3, keptD, boxR, D.one, D.pub1, D.cells, splice, cutOwn]
    intros
    exact Ret.is (by rw [countV, if_neg he])
theorem refAll_c (L : List Smp) (q : Nat) (hL : L.length ≤ 100000) (hF : Fine L) (σ : Heap) (h : RGat L q σ) : PCall Zs 46 [.ptr q 0] σ (fun d τ => d = .int .i64 (tot L) ∧ τ = σ) := by
  refine pcall_of (Z := Zs) ok46 fun hcl hbl => ?_
  simp -dsimp only [L46, ↓preB, postB, genB, ↓reduceIte, Nat.reduceEqDiff, Int.reduceToNat, Int.reduceLE, Int.reduceLT, Nat.reduceAdd, Nat.reduceLeDiff, intBin, strBin, unD, extractD, lit1, lit2, lit3, keptD, boxR, D.one, D.pub1, D.cells, splice, cutOwn]
  refine PCall.useP (refCount_c L q [] noB hL hF σ h) rfl ?_
  rintro _ _ ⟨rfl, rfl⟩
  simp -dsimp only [↓preB, postB, genB, ↓reduceIte, Nat.reduceEqDiff, Int.reduceToNat, Int.reduceLE, Int.reduceLT, Nat.reduceAdd, Nat.reduceLeDiff, intBin, strBin, unD, extractD, lit1, lit2, lit3, keptD, boxR, D.one, D.pub1, D.cells, splice, cutOwn]
  exact Ret.is (by simp [countV, tot])
def tagV (L : List Smp) (e : Wd) (t : ByteArray) : Int := if (t == noB) = true then 0 else countV L e t
theorem tagged_c (L : List Smp) (q : Nat) (e : Wd) (t : ByteArray) (hL : L.length ≤ 100000) (hF : Fine L) (σ : Heap) (h : RGat L q σ) : PCall Zs 52 [.ptr q 0, encSS e, .str t] σ (fun d τ => d = .int .i64 (tagV L e t) ∧ τ = σ) := by
  refine pcall_of (Z := Zs) ok52 fun hcl hbl => ?_
  simp -dsimp only [L52, ↓preB, postB, genB, ↓reduceIte, Nat.reduceEqDiff, Int.reduceToNat, Int.reduceLE, Int.reduceLT, Nat.reduceAdd, Nat.reduceLeDiff, intBin, strBin, unD, extractD, lit1, lit2, lit3, keptD, boxR, D.one, D.pub1, D.cells, splice, cutOwn]
  cases c1 : (t == (⟨#[]⟩ : ByteArray))
  · simp -dsimp only [c1, ↓preB, postB, genB, ↓reduceIte, Nat.reduceEqDiff, Int.reduceToNat, Int.reduceLE, Int.reduceLT, Nat.reduceAdd, Nat.reduceLeDiff, intBin, strBin, unD, extractD, lit1, lit2, lit3, keptD, boxR, D.one, D.pub1, D.cells, splice, cutOwn]
    refine PCall.use (refCount_c L q e t hL hF σ h) ?_
    rintro _ _ ⟨rfl, rfl⟩
    simp -dsimp only [c1, ↓preB, postB, genB, ↓reduceIte, Nat.reduceEqDiff, Int.reduceToNat, Int.reduceLE, Int.reduceLT, Nat.reduceAdd, Nat.reduceLeDiff, intBin, strBin, unD, extractD, lit1, lit2, lit3, keptD, boxR, D.one, D.pub1, D.cells, splice, cutOwn]
    exact Ret.is (by rw [tagV, if_neg (by rw [noB, c1]; simp)])
  · simp -dsimp only [c1, ↓preB, postB, genB, ↓reduceIte, Nat.reduceEqDiff, Int.reduceToNat, Int.reduceLE, Int.reduceLT, Nat.reduceAdd, Nat.reduceLeDiff, intBin, strBin, unD, extractD, lit1, lit2, lit3, keptD, boxR, D.one, D.pub1, D.cells, splice, cutOwn]
    exact Ret.is (by rw [tagV, if_pos (by rw [noB, c1])])

def suf (w : Wd) (i : Nat) : Wd := w.drop (w.length - i)
def chF (a b : Wd → Int) (w : Wd) : Nat → Nat → Int → Int → Int × Int
  | 0, _, n, d => (n, d)
  | k + 1, i, n, d => if b (suf w i) = 0 then (n, d) else chF a b w k (i + 1) (a (suf w i) * d + n) (d * (b (suf w i) + 1))
def bnd : Nat → Int
  | 0 => 1
  | i + 1 => bnd i * 1001
theorem bnd_le {i : Nat} (h : i ≤ 5) : bnd i ≤ 1005010010005001 := by
  have : i = 0 ∨ i = 1 ∨ i = 2 ∨ i = 3 ∨ i = 4 ∨ i = 5 := by omega
  rcases this with rfl | rfl | rfl | rfl | rfl | rfl <;> decide
theorem chstep {n d a b : Int} {i : Nat} (h0 : 0 ≤ n) (h1 : n ≤ d) (h2 : d ≤ bnd i) (ha : 0 ≤ a) (hab : a ≤ b) (hb : b ≤ 1000) : 0 ≤ a * d ∧ 0 ≤ a * d + n ∧ a * d + n ≤ d * (b + 1) ∧ d * (b + 1) ≤ bnd (i + 1) := by
  have hd : 0 ≤ d := Int.le_trans h0 h1
  have q1 : 0 ≤ a * d := Int.mul_nonneg ha hd
  have q2 : a * d ≤ b * d := Int.mul_le_mul_of_nonneg_right hab hd
  have q3 : d * (b + 1) = b * d + d := by rw [Int.mul_add, Int.mul_one, Int.mul_comm]
  have q4 : d * (b + 1) ≤ d * 1001 := Int.mul_le_mul_of_nonneg_left (by omega) hd
  have q5 : d * 1001 ≤ bnd i * 1001 := Int.mul_le_mul_of_nonneg_right h2 (by decide)
  refine ⟨q1, by omega, by omega, ?_⟩
  show _ ≤ bnd i * 1001
  omega
/-- A chance, not in least terms. -/
def chV (a b : Wd → Int) (w : Wd) : Int × Int := chF a b w (min w.length 4) 1 (a []) (b [])
theorem chF_bound {a b : Wd → Int} {w : Wd} (hab : ∀ e, 0 ≤ a e ∧ a e ≤ b e ∧ b e ≤ 1000) : ∀ (k i : Nat) (n d : Int), i + k ≤ 5 → 0 ≤ n → n ≤ d → d ≤ bnd i → 0 ≤ (chF a b w k i n d).1 ∧ (chF a b w k i n d).1 ≤ (chF a b w k i n d).2 ∧ (chF a b w k i n d).2 ≤ 1005010010005001 ∧ (0 < d → 0 < (chF a b w k i n d).2)
  | 0, i, n, d, hi, h0, h1, h2 => ⟨h0, h1, Int.le_trans h2 (bnd_le (by omega)), id⟩
  | k + 1, i, n, d, hi, h0, h1, h2 => by
    simp only [chF]
    split
    · exact ⟨h0, h1, Int.le_trans h2 (bnd_le (by omega)), id⟩
    · obtain ⟨x1, x2, x3⟩ := hab (suf w i)
      obtain ⟨_, q1, q2, q3⟩ := chstep h0 h1 h2 x1 x2 x3
      obtain ⟨r1, r2, r3, r4⟩ := chF_bound hab k (i + 1) _ _ (by omega) q1 q2 q3
      refine ⟨r1, r2, r3, fun hd => r4 ?_⟩
      exact Int.mul_pos hd (by omega)
theorem wsub {a b : Nat} (h : b ≤ a) (ha : a ≤ big) : IntKind.i64.wrap ((a : Int) - (b : Int)) = ((a - b : Nat) : Int) := by
  simp only [big] at ha
  rw [wrap64_in (by omega) (by omega)]; omega
theorem tag_ok {L : List Smp} (hF : Fine L) (e : Wd) (t : ByteArray) : 0 ≤ tagV L e t ∧ tagV L e t ≤ cnt L e noB ∧ cnt L e noB ≤ 1000 := by
  have h1 := hF.le e t
  have h2 := hF.le e noB
  have h3 : cnt L e t ≤ cnt L e noB := cnt_le hF.1 fun x _ hx => (hit_less hx).2
  refine ⟨?_, ?_, h2.2⟩
  · unfold tagV countV; split <;> (try split) <;> omega
  · unfold tagV countV; split <;> (try split) <;> omega
theorem suf_len {w : Wd} {i : Nat} (h : i ≤ w.length) : (suf w i).length = i := by rw [suf, List.length_drop]; omega

theorem refchance_c (L : List Smp) (q : Nat) (w : Wd) (t : ByteArray) (hL : L.length ≤ 100000) (hF : Fine L) (σ : Heap) (h : RGat L q σ) : PCall Zs 33 [.ptr q 0, encSS w, .str t] σ (fun d τ => d = .tup [.int .i64 (chV (fun e => tagV L e t) (fun e => cnt L e noB) w).1, .int .i64 (chV (fun e => tagV L e t) (fun e => cnt L e noB) w).2] ∧ τ = σ) := by
  refine pcall_of (Z := Zs) ok33 fun hcl hbl => ?_
  simp -dsimp only [L33, ↓preB, postB, genB, ↓reduceIte, Nat.reduceEqDiff, Int.reduceToNat, Int.reduceLE, Int.reduceLT, Nat.reduceAdd, Nat.reduceLeDiff, intBin, strBin, unD, extractD, lit1, lit2, lit3, keptD, boxR, D.one, D.pub1, D.cells, splice, cutOwn]
  refine PCall.useP (tagged_c L q [] t hL hF σ h) rfl ?_
  rintro _ _ ⟨rfl, rfl⟩
  simp -dsimp only [↓preB, postB, genB, ↓reduceIte, Nat.reduceEqDiff, Int.reduceToNat, Int.reduceLE, Int.reduceLT, Nat.reduceAdd, Nat.reduceLeDiff, intBin, strBin, unD, extractD, lit1, lit2, lit3, keptD, boxR, D.one, D.pub1, D.cells, splice, cutOwn]
  refine PCall.use (refAll_c L q hL hF _ h) ?_
  rintro _ _ ⟨rfl, rfl⟩
  simp -dsimp only [↓preB, postB, genB, ↓reduceIte, Nat.reduceEqDiff, Int.reduceToNat, Int.reduceLE, Int.reduceLT, Nat.reduceAdd, Nat.reduceLeDiff, intBin, strBin, unD, extractD, lit1, lit2, lit3, keptD, boxR, D.one, D.pub1, D.cells, splice, cutOwn]
  rename_i s0
  generalize hR : chV (fun e => tagV L e t) (fun e => cnt L e noB) w = R
  have h00 := tag_ok hF [] t
  refine pwp_loopG (fun (x : Nat × Int × Int) env s => 1 ≤ x.1 ∧ x.1 ≤ 5 ∧ x.1 ≤ w.length + 1 ∧ chF (fun e => tagV L e t) (fun e => cnt L e noB) w (min w.length 4 + 1 - x.1) x.1 x.2.1 x.2.2 = R ∧ 0 ≤ x.2.1 ∧ x.2.1 ≤ x.2.2 ∧ x.2.2 ≤ bnd x.1 ∧ s = s0 ∧ env 10 = .int .i64 (x.1:Nat) ∧ env 8 = .int .i64 x.2.1 ∧ env 9 = .int .i64 x.2.2 ∧ env 0 = .ptr q 0 ∧ env 1 = encSS w ∧ env 2 = .str t) (fun x => 5 - x.1) (1, tagV L [] t, tot L) ?_ ?_
  · simp only [upd_apply, envOf, Nat.reduceEqDiff, if_true, if_false]
    have hb1 : tot L ≤ bnd 1 := Int.le_trans h00.2.2 (by decide)
    have hR' : chF (fun e => tagV L e t) (fun e => cnt L e noB) w (min w.length 4 + 1 - 1) 1 (tagV L [] t) (tot L) = R := hR
    have hR2 : chF (fun e => tagV L e t) (fun e => cnt L e noB) w (min w.length 4) 1 (tagV L [] t) (tot L) = R := hR
    simp [hR2, hb1, h00.1, show tagV L [] t ≤ tot L from h00.2.1]
  · rintro ⟨i, n, d⟩ env s ⟨hi1, hi5, hiw, hp, hn0, hnd, hdb, rfl, h10, h8, h9, h0, h1, h2⟩
    simp only at hi1 hi5 hiw hp hn0 hnd hdb h10 h8 h9
    by_cases c1 : (i : Int) ≤ 4
    · by_cases c2 : i ≤ w.length
      · have c2' : (i : Int) ≤ (w.length : Int) := by omega
        have hk : min w.length 4 + 1 - i = (min w.length 4 + 1 - (i + 1)) + 1 := by omega
        rw [hk] at hp
        simp only [chF] at hp
        obtain ⟨x1, x2, x3⟩ := tag_ok hF (suf w i) t
        have hsl := suf_len c2
        have hcv : countV L (suf w i) noB = cnt L (suf w i) noB := by rw [countV, if_pos (by omega)]
        obtain ⟨q0, q1, q2, q3⟩ := chstep hn0 hnd hdb x1 x2 x3
        have q4 := bnd_le (i := i + 1) (by omega)
        simp -dsimp only [h10, h8, h9, h0, h1, h2, encSS, c1, c2', ↓preB, postB, genB, ↓reduceIte, Nat.reduceEqDiff, Int.reduceToNat, Int.reduceLE, Int.reduceLT, Nat.reduceAdd, Nat.reduceLeDiff, intBin, strBin, unD, extractD, lit1, lit2, lit3, keptD, boxR, D.one, D.pub1, D.cells, splice, cutOwn]
        intro hbw
        have hws := wsub c2 hbw
        have hle : w.length - i ≤ w.length := Nat.sub_le _ _
        have hle2 : ((w.length - i : Nat) : Int) ≤ (w.length : Int) := by omega
        have hsuf : D.sl .no (w.length - (w.length - i)) (((w.map D.str).drop (w.length - i)).take (w.length - (w.length - i))) = encSS (suf w i) := encSS_drop w _ hle
        simp -dsimp only [h10, h8, h9, h0, h1, h2, encSS, c1, c2', hws, hle2, hsuf, ↓preB, postB, genB, ↓reduceIte, Nat.reduceEqDiff, Int.reduceToNat, Int.reduceLE, Int.reduceLT, Nat.reduceAdd, Nat.reduceLeDiff, intBin, strBin, unD, extractD, lit1, lit2, lit3, keptD, boxR, D.one, D.pub1, D.cells, splice, cutOwn]
        intro _
        refine ⟨by omega, PCall.use (refCount_c L q (suf w i) noB hL hF s h) ?_⟩
        rintro _ _ ⟨rfl, rfl⟩
        rw [hcv]
        by_cases c3 : cnt L (suf w i) noB = 0
        · have c3' : (cnt L (suf w i) noB == 0) = true := by simpa using c3
          rw [if_pos c3] at hp
          simp -dsimp only [h10, h8, h9, h0, h1, h2, encSS, c3', hws, hsuf, ↓preB, postB, genB, ↓reduceIte, Nat.reduceEqDiff, Int.reduceToNat, Int.reduceLE, Int.reduceLT, Nat.reduceAdd, Nat.reduceLeDiff, intBin, strBin, unD, extractD, lit1, lit2, lit3, keptD, boxR, D.one, D.pub1, D.cells, splice, cutOwn]
          exact Ret.is (by rw [← hp])
        · have c3' : (cnt L (suf w i) noB == 0) = false := by simpa using c3
          rw [if_neg c3] at hp
          simp -dsimp only [h10, h8, h9, h0, h1, h2, encSS, c3', hws, hsuf, ↓preB, postB, genB, ↓reduceIte, Nat.reduceEqDiff, Int.reduceToNat, Int.reduceLE, Int.reduceLT, Nat.reduceAdd, Nat.reduceLeDiff, intBin, strBin, unD, extractD, lit1, lit2, lit3, keptD, boxR, D.one, D.pub1, D.cells, splice, cutOwn]
          refine PCall.use (tagged_c L q (suf w i) t hL hF _ h) ?_
          rintro _ _ ⟨rfl, rfl⟩
          have w1 : IntKind.i64.wrap (tagV L (suf w i) t * d) = tagV L (suf w i) t * d := wrap64_in (by omega) (by omega)
          have w2 : IntKind.i64.wrap (tagV L (suf w i) t * d + n) = tagV L (suf w i) t * d + n := wrap64_in (by omega) (by omega)
          have w3 : IntKind.i64.wrap (cnt L (suf w i) noB + 1) = cnt L (suf w i) noB + 1 := wrap64_in (by omega) (by omega)
          have w4 : IntKind.i64.wrap (d * (cnt L (suf w i) noB + 1)) = d * (cnt L (suf w i) noB + 1) := wrap64_in (by omega) (by omega)
          simp -dsimp only [h10, h8, h9, h0, h1, h2, encSS, c3', hws, hsuf, w1, w2, w3, w4, ↓preB, postB, genB, ↓reduceIte, Nat.reduceEqDiff, Int.reduceToNat, Int.reduceLE, Int.reduceLT, Nat.reduceAdd, Nat.reduceLeDiff, intBin, strBin, unD, extractD, lit1, lit2, lit3, keptD, boxR, D.one, D.pub1, D.cells, splice, cutOwn]
          exact ⟨(i + 1, _, _), ⟨by simp only; omega, by simp only; omega, by simp only; omega, hp, q1, q2, q3, wrap64_succ (by simp only [big]; omega), rfl, rfl⟩, by simp only; omega⟩
      · have c2' : ¬ (i : Int) ≤ (w.length : Int) := by omega
        have hk : min w.length 4 + 1 - i = 0 := by omega
        rw [hk, chF] at hp
        simp -dsimp only [h10, h8, h9, h0, h1, h2, encSS, c1, c2', ↓preB, postB, genB, ↓reduceIte, Nat.reduceEqDiff, Int.reduceToNat, Int.reduceLE, Int.reduceLT, Nat.reduceAdd, Nat.reduceLeDiff, intBin, strBin, unD, extractD, lit1, lit2, lit3, keptD, boxR, D.one, D.pub1, D.cells, splice, cutOwn]
        intros
        exact Ret.is (by rw [← hp])
    · have hk : min w.length 4 + 1 - i = 0 := by omega
      rw [hk, chF] at hp
      simp -dsimp only [h10, h8, h9, h0, h1, h2, encSS, c1, ↓preB, postB, genB, ↓reduceIte, Nat.reduceEqDiff, Int.reduceToNat, Int.reduceLE, Int.reduceLT, Nat.reduceAdd, Nat.reduceLeDiff, intBin, strBin, unD, extractD, lit1, lit2, lit3, keptD, boxR, D.one, D.pub1, D.cells, splice, cutOwn]
      intros
      exact Ret.is (by rw [← hp])

/-- Why a chance is not told. -/
def askE (none : Bool) (l : List Wd) : Int := if badLL l ≠ 0 then badLL l else if none then 4 else 0
theorem askE_bad {none : Bool} {l : List Wd} (h : badLL l ≠ 0) : askE none l = badLL l := by rw [askE, if_pos h]
theorem askE_ok {none : Bool} {l : List Wd} (h : badLL l = 0) : askE none l = if none then 4 else 0 := by rw [askE, if_neg (fun h' => h' h)]
theorem asked_c (L : List Smp) (q : Nat) (l : List Wd) (σ : Heap) (h : RGat L q σ) : PCall Zs 32 [.ptr q 0, encLL l] σ (fun d τ => d = .int .i64 (askE (decide (L = [])) l) ∧ τ = σ) := by
  obtain ⟨d, hq, hd⟩ := h
  refine pcall_of (Z := Zs) ok32 fun hcl hbl => ?_
  simp -dsimp only [L32, encLL, ↓preB, postB, genB, ↓reduceIte, Nat.reduceEqDiff, Int.reduceToNat, Int.reduceLE, Int.reduceLT, Nat.reduceAdd, Nat.reduceLeDiff, intBin, strBin, unD, extractD, lit1, lit2, lit3, keptD, boxR, D.one, D.pub1, D.cells, splice, cutOwn]
  refine pwp_loopG (fun k env s => k ≤ l.length ∧ badLL (l.drop k) = badLL l ∧ s = σ ∧ env 5 = .int .i64 (k:Nat) ∧ env 0 = .ptr q 0 ∧ env 1 = encLL l) (fun k => l.length - k) 0 ?_ ?_
  · simp [upd_apply, envOf, encLL]
  · rintro k env s ⟨hk, hp, rfl, h5, h0, h1⟩
    rcases Nat.lt_or_ge k l.length with hlt | hge
    · have hx : l[k]? = some l[k] := List.getElem?_eq_getElem hlt
      have hlp : 0 < l.length := by omega
      rw [List.drop_eq_getElem_cons hlt, badLL_cons] at hp
      simp -dsimp only [h5, h0, h1, encLL, hlt, hx, hlp, ↓preB, postB, genB, ↓reduceIte, Nat.reduceEqDiff, Int.reduceToNat, Int.reduceLE, Int.reduceLT, Nat.reduceAdd, Nat.reduceLeDiff, intBin, strBin, unD, extractD, lit1, lit2, lit3, keptD, boxR, D.one, D.pub1, D.cells, splice, cutOwn]
      intro hb
      refine Fn.use (refValidateWord_c _) ?_
      cases c1 : (badW l[k] != 0)
      · rw [c1] at hp
        simp -dsimp only [h5, h0, h1, encLL, hlt, hx, hlp, c1, ↓preB, postB, genB, ↓reduceIte, Nat.reduceEqDiff, Int.reduceToNat, Int.reduceLE, Int.reduceLT, Nat.reduceAdd, Nat.reduceLeDiff, intBin, strBin, unD, extractD, lit1, lit2, lit3, keptD, boxR, D.one, D.pub1, D.cells, splice, cutOwn]
        exact ⟨k + 1, ⟨by omega, by simpa using hp, wrap64_succ (by simp only [big] at *; omega)⟩, by omega⟩
      · rw [c1] at hp
        have hb0 : badW l[k] ≠ 0 := by simpa using c1
        have e1 : badLL l = badW l[k] := by rw [← hp]; rfl
        simp -dsimp only [h5, h0, h1, encLL, hlt, hx, hlp, c1, ↓preB, postB, genB, ↓reduceIte, Nat.reduceEqDiff, Int.reduceToNat, Int.reduceLE, Int.reduceLT, Nat.reduceAdd, Nat.reduceLeDiff, intBin, strBin, unD, extractD, lit1, lit2, lit3, keptD, boxR, D.one, D.pub1, D.cells, splice, cutOwn]
        exact Ret.is (by rw [askE_bad (by rw [e1]; exact hb0), e1])
    · rw [List.drop_of_length_le hge] at hp
      have hz : badLL l = 0 := by rw [← hp]; rfl
      rw [askE_ok hz]
      rcases hd with ⟨rfl, rfl⟩ | ⟨hne, r, js, hrq, rfl, hr⟩
      · simp -dsimp only [h5, h0, h1, encLL, Nat.not_lt.2 hge, hq, beq_self_eq_true, ↓preB, postB, genB, ↓reduceIte, Nat.reduceEqDiff, Int.reduceToNat, Int.reduceLE, Int.reduceLT, Nat.reduceAdd, Nat.reduceLeDiff, intBin, strBin, unD, extractD, lit1, lit2, lit3, keptD, boxR, D.one, D.pub1, D.cells, splice, cutOwn]
        intros
        exact Ret.is (by simp)
      · have hl : ((L.length : Int) == 0) = false := by
          have : 0 < L.length := List.length_pos_iff.2 hne
          rw [beq_eq_false_iff_ne]; omega
        simp -dsimp only [h5, h0, h1, encLL, Nat.not_lt.2 hge, hq, hl, ↓preB, postB, genB, ↓reduceIte, Nat.reduceEqDiff, Int.reduceToNat, Int.reduceLE, Int.reduceLT, Nat.reduceAdd, Nat.reduceLeDiff, intBin, strBin, unD, extractD, lit1, lit2, lit3, keptD, boxR, D.one, D.pub1, D.cells, splice, cutOwn]
        intros
        exact Ret.is (by simp [hne])
theorem asked0_c (l : List Wd) : Fn Zs 32 [.nilptr, encLL l] (.int .i64 (askE true l)) := by
  refine fn_of (Z := Zs) ok32 fun σ hcl hbl => ?_
  simp -dsimp only [L32, encLL, ↓preB, postB, genB, ↓reduceIte, Nat.reduceEqDiff, Int.reduceToNat, Int.reduceLE, Int.reduceLT, Nat.reduceAdd, Nat.reduceLeDiff, intBin, strBin, unD, extractD, lit1, lit2, lit3, keptD, boxR, D.one, D.pub1, D.cells, splice, cutOwn]
  refine pwp_loopG (fun k env s => k ≤ l.length ∧ badLL (l.drop k) = badLL l ∧ s = σ ∧ env 5 = .int .i64 (k:Nat) ∧ env 0 = .nilptr ∧ env 1 = encLL l) (fun k => l.length - k) 0 ?_ ?_
  · simp [upd_apply, envOf, encLL]
  · rintro k env s ⟨hk, hp, rfl, h5, h0, h1⟩
    rcases Nat.lt_or_ge k l.length with hlt | hge
    · have hx : l[k]? = some l[k] := List.getElem?_eq_getElem hlt
      have hlp : 0 < l.length := by omega
      rw [List.drop_eq_getElem_cons hlt, badLL_cons] at hp
      simp -dsimp only [h5, h0, h1, encLL, hlt, hx, hlp, ↓preB, postB, genB, ↓reduceIte, Nat.reduceEqDiff, Int.reduceToNat, Int.reduceLE, Int.reduceLT, Nat.reduceAdd, Nat.reduceLeDiff, intBin, strBin, unD, extractD, lit1, lit2, lit3, keptD, boxR, D.one, D.pub1, D.cells, splice, cutOwn]
      intro hb
      refine Fn.use (refValidateWord_c _) ?_
      cases c1 : (badW l[k] != 0)
      · rw [c1] at hp
        simp -dsimp only [h5, h0, h1, encLL, hlt, hx, hlp, c1, ↓preB, postB, genB, ↓reduceIte, Nat.reduceEqDiff, Int.reduceToNat, Int.reduceLE, Int.reduceLT, Nat.reduceAdd, Nat.reduceLeDiff, intBin, strBin, unD, extractD, lit1, lit2, lit3, keptD, boxR, D.one, D.pub1, D.cells, splice, cutOwn]
        exact ⟨k + 1, ⟨by omega, by simpa using hp, wrap64_succ (by simp only [big] at *; omega)⟩, by omega⟩
      · rw [c1] at hp
        have hb0 : badW l[k] ≠ 0 := by simpa using c1
        have e1 : badLL l = badW l[k] := by rw [← hp]; rfl
        simp -dsimp only [h5, h0, h1, encLL, hlt, hx, hlp, c1, ↓preB, postB, genB, ↓reduceIte, Nat.reduceEqDiff, Int.reduceToNat, Int.reduceLE, Int.reduceLT, Nat.reduceAdd, Nat.reduceLeDiff, intBin, strBin, unD, extractD, lit1, lit2, lit3, keptD, boxR, D.one, D.pub1, D.cells, splice, cutOwn]
        exact Ret.is (by rw [askE_bad (by rw [e1]; exact hb0), e1])
    · rw [List.drop_of_length_le hge] at hp
      have hz : badLL l = 0 := by rw [← hp]; rfl
      rw [askE_ok hz]
      simp -dsimp only [h5, h0, h1, encLL, Nat.not_lt.2 hge, ↓preB, postB, genB, ↓reduceIte, Nat.reduceEqDiff, Int.reduceToNat, Int.reduceLE, Int.reduceLT, Nat.reduceAdd, Nat.reduceLeDiff, intBin, strBin, unD, extractD, lit1, lit2, lit3, keptD, boxR, D.one, D.pub1, D.cells, splice, cutOwn]
      intros
      exact Ret.is (by simp)

def gcdI (a b : Int) : Int := (Nat.gcd a.toNat b.toNat : Nat)
theorem gcd_step {a b : Int} (ha : 0 ≤ a) (hb : 0 < b) : gcdI b (a.tmod b) = gcdI a b ∧ 0 ≤ a.tmod b ∧ a.tmod b < b := by
  obtain ⟨m, rfl⟩ := Int.eq_ofNat_of_zero_le ha
  obtain ⟨n, rfl⟩ := Int.eq_ofNat_of_zero_le (Int.le_of_lt hb)
  have e : (m : Int).tmod (n : Int) = ((m % n : Nat) : Int) := by rw [Int.ofNat_tmod]
  refine ⟨?_, by rw [e]; omega, ?_⟩
  · rw [e]
    simp only [gcdI, Int.toNat_natCast]
    rw [Nat.gcd_comm m n, Nat.gcd_rec n m, Nat.gcd_comm]
  · rw [e]
    have := Nat.mod_lt m (show 0 < n by omega)
    omega
theorem gcd_zero {a : Int} (ha : 0 ≤ a) : gcdI a 0 = a := by
  obtain ⟨m, rfl⟩ := Int.eq_ofNat_of_zero_le ha
  simp [gcdI]
theorem gcd_pos {a b : Int} (hb : 0 < b) : 0 < gcdI a b := by
  have : 0 < Nat.gcd a.toNat b.toNat := Nat.gcd_pos_of_pos_right _ (by omega)
  unfold gcdI
  omega
def leastV (n d : Int) : Int × Int := (n.tdiv (gcdI n d), d.tdiv (gcdI n d))
theorem tdiv_in {n g : Int} (h0 : 0 ≤ n) (h1 : n ≤ 1005010010005001) (hg : 0 < g) : IntKind.i64.wrap (n.tdiv g) = n.tdiv g := by
  have h2 : 0 ≤ n.tdiv g := Int.tdiv_nonneg h0 (by omega)
  have h3 : n.tdiv g ≤ n := Int.tdiv_le_self _ h0
  exact wrap64_in (by omega) (by omega)
end Go.Proofs.Ythchlpikcpidaaa.Vs

/- numbers of Ythchlpikcpidaaa -/
namespace Go.Proofs.Ythchlpikcpidaaa.Vs
set_option linter.unusedVariables false
set_option linter.unusedSimpArgs false
set_option maxRecDepth 20000
/-- The reference's guesser, made over a heap. -/
def RGo (σ0 : Heap) (L : List Smp) (q : Nat) (σ : Heap) : Prop := HLe σ0 σ ∧ σ0.get q = none ∧ q < σ.next ∧ ∃ d, σ.get q = some (.cells 60 [d]) ∧ ((L = [] ∧ d = .sl .nil 0 []) ∨ (L ≠ [] ∧ ∃ r js, r ≠ q ∧ σ0.get r = none ∧ d = .row r 0 L.length none 3 ∧ σ.get r = some (.cells 51 (cellsS L ++ js))))
theorem RGo.at {σ0 σ : Heap} {L : List Smp} {q : Nat} (h : RGo σ0 L q σ) : RGat L q σ := by
  obtain ⟨_, _, _, d, hq, hd⟩ := h
  refine ⟨d, hq, ?_⟩
  rcases hd with h | ⟨h1, r, js, h2, _, h3, h4⟩
  · exact .inl h
  · exact .inr ⟨h1, r, js, h2, h3, h4⟩
theorem RGo.less {σ0 σ σ' : Heap} {L : List Smp} {q : Nat} (h : RGo σ0 L q σ) (hle : HLe σ σ') : RGo σ0 L q σ' := by
  obtain ⟨h1, h2, h3, d, hq, hd⟩ := h
  refine ⟨h1.trans hle, h2, Nat.lt_of_lt_of_le h3 hle.next, d, hle.get _ _ hq, ?_⟩
  rcases hd with h | ⟨h1, r, js, h2, h2', h3, h4⟩
  · exact .inl h
  · exact .inr ⟨h1, r, js, h2, h2', h3, hle.get _ _ h4⟩
theorem bsS1 (o : Own) (n nx : Nat) (cs : List D) (t : ByteArray) (k : IntKind) (x : Int) : buildSliceR Zs 0 22 1 [(0, .agg [.sl o n cs, .str t, .int k x])] nx = some (.sl .full 1 [.sl o n cs, .str t, .int k x], .keep) := by rfl
section
variable {g : Nat → Option AO} {r n a : Nat} {k : IntKind}
theorem rowHi (h : a ≤ n) : sliceD Zs g 22 (.row r 0 n none 3) none (some (.int k a)) none = some (.row r 0 a none 3) := by
  unfold sliceD
  simp only [tz22, tz51, bound, Option.map_some, Option.map_none, Int.toNat_natCast]
  rw [if_pos ⟨by omega, by omega, .inl (by omega), trivial⟩]
  simp
theorem rowLo (h : a ≤ n) : sliceD Zs g 22 (.row r 0 n none 3) (some (.int k a)) none none = some (.row r (0 + a * 3) (n - a) none 3) := by
  unfold sliceD
  simp only [tz22, tz51, bound, Option.map_some, Option.map_none, Int.toNat_natCast]
  rw [if_pos ⟨by omega, by omega, .inl (by omega), trivial⟩]
theorem nilHi : sliceD Zs g 22 (.sl .nil 0 []) none (some (.int k ((0 : Nat) : Int))) none = some (.sl .nil 0 []) := by rfl
theorem nilLo : sliceD Zs g 22 (.sl .nil 0 []) (some (.int k ((0 : Nat) : Int))) none none = some (.sl .nil 0 []) := by rfl
theorem fedRow22 {off : Nat} {e : TypeId} {cs : List D} {c : Option Nat} (hg : g r = some (.cells e cs)) (hl : off + n * 3 ≤ cs.length) : fedBy Zs g 22 3 (.row r off n c 3) = some (n, (cs.drop off).take (n * 3)) := by
  simp [fedBy, tz22, hg, hl]
theorem fedNil22 : fedBy Zs g 22 3 (.sl .nil 0 []) = some (0, []) := by rfl
end
theorem rparts_ok {σ0 σ : Heap} {L : List Smp} {q i : Nat} {d : D} (hd : (L = [] ∧ d = .sl .nil 0 []) ∨ (L ≠ [] ∧ ∃ r js, r ≠ q ∧ σ0.get r = none ∧ d = .row r 0 L.length none 3 ∧ σ.get r = some (.cells 51 (cellsS L ++ js)))) (hi : i ≤ L.length) :
    ∃ y1 y2, (∀ g, sliceD Zs g 22 d none (some (.int .i64 (i : Int))) none = some y1) ∧ (∀ g, sliceD Zs g 22 d (some (.int .i64 (i : Int))) none none = some y2) ∧
      ∀ g : Nat → Option AO, (∀ r o, σ.get r = some o → g r = some o) → fedBy Zs g 22 3 y1 = some (i, cellsS (L.take i)) ∧ fedBy Zs g 22 3 y2 = some (L.length - i, cellsS (L.drop i)) := by
  rcases hd with ⟨rfl, rfl⟩ | ⟨hne, r, js, _, _, rfl, hr⟩
  · have : i = 0 := by simpa using hi
    subst this
    exact ⟨_, _, fun g => nilHi, fun g => nilLo, fun g _ => ⟨fedNil22, fedNil22⟩⟩
  · refine ⟨_, _, fun g => rowHi hi, fun g => rowLo hi, fun g hg => ?_⟩
    have hl := cellsS_len L
    have hc : (cellsS L ++ js).length = L.length * 3 + js.length := by rw [List.length_append, hl]
    constructor
    · rw [fedRow22 (hg _ _ hr) (by omega), List.drop_zero, List.take_append_of_le_length (by omega), cellsS_take]
    · rw [fedRow22 (hg _ _ hr) (by omega), Nat.zero_add, List.drop_append_of_le_length (by omega), cellsS_drop, List.take_append_of_le_length (by rw [cellsS_len, List.length_drop]; omega), List.take_of_length_le (by rw [cellsS_len, List.length_drop]; omega)]
theorem cellsS_set : ∀ {L : List Smp} {i : Nat} (n : Int), i < L.length → (cellsS L).set (i * 3 + 2) (.int .i64 ((L[i]?.map (·.many)).getD 0 + n)) = cellsS (L.modify i fun y => moreS y n)
  | [], i, n, h => by simp at h
  | x :: L, 0, n, h => by simp [cellsS, moreS]
  | x :: L, i + 1, n, h => by
    have ih := cellsS_set (L := L) (i := i) n (by simpa using h)
    rw [show (i + 1) * 3 + 2 = (i * 3 + 2) + 3 by omega]
    simp only [cellsS, List.set_cons_succ, List.modify_succ_cons, List.getElem?_cons_succ, ih]

theorem heap_set_self {σ : Heap} {q : Nat} {o : AO} (h : σ.get q = some o) : σ.set q o = σ := by
  cases σ with
  | mk n g =>
    simp only [Heap.set, Heap.mk.injEq, true_and]
    funext i
    split
    · rename_i hi; rw [hi]; exact h.symm
    · rfl
def noRoom (L : List Smp) (x : Smp) : Prop := 1000 < tot L + x.many ∨ (findR L x).2 = false ∧ 200 ≤ L.length
theorem take_c (L : List Smp) (q : Nat) (x : Smp) (hL : L.length ≤ 200) (hF : Fine L) (hx : 1 ≤ x.many) (hx2 : x.many ≤ 1000) (hw : x.word.length ≤ 60) (σ0 σ : Heap) (h : RGo σ0 L q σ) :
    PCall Zs 27 [.ptr q 0, aggS x] σ (fun d τ => (noRoom L x ∧ d = .int .i64 3 ∧ HLe σ0 τ) ∨ (¬ noRoom L x ∧ d = .int .i64 0 ∧ RGo σ0 (takeR L x) q τ)) := by
  refine pcall_of (Z := Zs) ok27 fun hcl hbl => ?_
  simp -dsimp only [L27, aggS, encSS, ↓preB, postB, genB, ↓reduceIte, Nat.reduceEqDiff, Int.reduceToNat, Int.reduceLE, Int.reduceLT, Nat.reduceAdd, Nat.reduceLeDiff, intBin, strBin, unD, extractD, lit1, lit2, lit3, keptD, boxR, D.one, D.pub1, D.cells, splice, cutOwn]
  have hle1 : HLe σ (σ.new (.cells 51 [encSS x.word, .str x.tag, .int .i64 x.many])) := HLe.self_new _ hcl
  have h1 := h.less hle1
  have g3 : (σ.new (.cells 51 [encSS x.word, .str x.tag, .int .i64 x.many])).get σ.next = some (.cells 51 [encSS x.word, .str x.tag, .int .i64 x.many]) := Heap.new_same _ _
  have hn1 : (σ.new (.cells 51 [encSS x.word, .str x.tag, .int .i64 x.many])).next = σ.next + 1 := rfl
  refine PCall.use (find_c L q x (by omega) _ h1.at) ?_
  rintro _ _ ⟨rfl, rfl⟩
  have hb0 := hF.le [] noB
  have hwt : IntKind.i64.wrap (tot L + x.many) = tot L + x.many := wrap64_in (by unfold tot; omega) (by unfold tot; omega)
  obtain ⟨s1, hs1⟩ : ∃ s1, σ.new (.cells 51 [encSS x.word, .str x.tag, .int .i64 x.many]) = s1 := ⟨_, rfl⟩
  have hs1' : σ.new (.cells 51 [.sl .no x.word.length (x.word.map .str), .str x.tag, .int .i64 x.many]) = s1 := hs1
  rw [hs1] at hle1 h1 g3 hn1
  simp -dsimp only [hs1', ↓preB, postB, genB, ↓reduceIte, Nat.reduceEqDiff, Int.reduceToNat, Int.reduceLE, Int.reduceLT, Nat.reduceAdd, Nat.reduceLeDiff, intBin, strBin, unD, extractD, lit1, lit2, lit3, keptD, boxR, D.one, D.pub1, D.cells, splice, cutOwn]
  refine draw_s ?_
  simp -dsimp only [g3, encSS, ↓preB, postB, genB, ↓reduceIte, Nat.reduceEqDiff, Int.reduceToNat, Int.reduceLE, Int.reduceLT, Nat.reduceAdd, Nat.reduceLeDiff, intBin, strBin, unD, extractD, lit1, lit2, lit3, keptD, boxR, D.one, D.pub1, D.cells, splice, cutOwn]
  refine ⟨_, refAll_c L q (by omega) hF s1 h1.at, ?_⟩
  obtain ⟨b1, b2, b3, d, hq, hd⟩ := id h1
  have hnx : σ.next ≤ s1.next := by omega
  have hlen : ∀ g, lenD Zs g #[22] d = some (.int .i64 (L.length : Int)) := by
    rcases hd with ⟨rfl, rfl⟩ | ⟨_, r, js, _, _, rfl, _⟩ <;> intro g <;> simp [lenD, tz22]
  by_cases c1 : 1000 < tot L + x.many
  · simp -dsimp only [g3, hwt, c1, ↓preB, postB, genB, ↓reduceIte, Nat.reduceEqDiff, Int.reduceToNat, Int.reduceLE, Int.reduceLT, Nat.reduceAdd, Nat.reduceLeDiff, intBin, strBin, unD, extractD, lit1, lit2, lit3, keptD, boxR, D.one, D.pub1, D.cells, splice, cutOwn]
    exact Ret.now hnx (.inl ⟨.inl c1, rfl, b1⟩)
  cases c2 : (findR L x).2
  · by_cases c3 : 200 ≤ L.length
    · have c3' : (200 : Int) ≤ (L.length : Int) := by omega
      simp -dsimp only [g3, hwt, c1, c2, hq, hlen, c3', ↓preB, postB, genB, ↓reduceIte, Nat.reduceEqDiff, Int.reduceToNat, Int.reduceLE, Int.reduceLT, Nat.reduceAdd, Nat.reduceLeDiff, intBin, strBin, unD, extractD, lit1, lit2, lit3, keptD, boxR, D.one, D.pub1, D.cells, splice, cutOwn]
      exact Ret.now hnx (.inl ⟨.inr ⟨c2, c3⟩, rfl, b1⟩)
    have c3' : ¬ (200 : Int) ≤ (L.length : Int) := by omega
    have hnr : ¬ noRoom L x := fun h => h.elim c1 fun h => c3 h.2
    have hlt1 : ∀ r o, s1.get r = some o → r < s1.next := by
      rw [← hs1]
      intro r o hr
      rw [Heap.new_get] at hr
      rw [Heap.next_new]
      split at hr
      · omega
      · have := hcl.lt r o hr; omega
    simp -dsimp only [g3, hwt, c1, c2, hq, hlen, c3', encSS, ↓preB, postB, genB, ↓reduceIte, Nat.reduceEqDiff, Int.reduceToNat, Int.reduceLE, Int.reduceLT, Nat.reduceAdd, Nat.reduceLeDiff, intBin, strBin, unD, extractD, lit1, lit2, lit3, keptD, boxR, D.one, D.pub1, D.cells, splice, cutOwn]
    refine app_copy tz23 rfl tz9 rfl rfl (by decide) (fedBy_sl tz23 rfl (by simp)) (by simp only []; omega) (by simp only [big]; omega) ?_
    have hself : s1.set σ.next (.cells 51 [.sl .no x.word.length (x.word.map .str), .str x.tag, .int .i64 x.many]) = s1 := heap_set_self g3
    obtain ⟨y1, y2, e1, e2, e3⟩ := rparts_ok hd (findR_le L x)
    simp -dsimp only [g3, hself, hq, e1, encSS, ↓preB, postB, genB, ↓reduceIte, Nat.reduceEqDiff, Int.reduceToNat, Int.reduceLE, Int.reduceLT, Nat.reduceAdd, Nat.reduceLeDiff, intBin, strBin, unD, extractD, lit1, lit2, lit3, keptD, boxR, D.one, D.pub1, D.cells, splice, cutOwn]
    refine AccR.appendAny (AccR.nil (HLe.refl s1)) hlt1 tz22 rfl tz51 rfl rfl rfl (by decide) (e3 _ fun _ _ h => h).1 (by have := findR_le L x; simp only []; omega) (by have := findR_le L x; simp only [big]; omega) fun d1 s2 hA1 => ?_
    have g32 := hA1.le.get _ _ g3
    simp -dsimp only [g32, encSS, bsS1, ↓preB, postB, genB, ↓reduceIte, Nat.reduceEqDiff, Int.reduceToNat, Int.reduceLE, Int.reduceLT, Nat.reduceAdd, Nat.reduceLeDiff, intBin, strBin, unD, extractD, lit1, lit2, lit3, keptD, boxR, D.one, D.pub1, D.cells, splice, cutOwn]
    refine hA1.appendAny hlt1 tz22 rfl tz51 rfl rfl rfl (by decide) (fedBy_sl (m := 1) tz22 rfl rfl) (by have := findR_le L x; simp only []; omega) (by have := findR_le L x; simp only [big]; omega) fun d2 s3 hA2 => ?_
    have hq3 := hA2.le.get _ _ hq
    simp -dsimp only [hq3, e2, ↓preB, postB, genB, ↓reduceIte, Nat.reduceEqDiff, Int.reduceToNat, Int.reduceLE, Int.reduceLT, Nat.reduceAdd, Nat.reduceLeDiff, intBin, strBin, unD, extractD, lit1, lit2, lit3, keptD, boxR, D.one, D.pub1, D.cells, splice, cutOwn]
    refine hA2.appendAny hlt1 tz22 rfl tz51 rfl rfl rfl (by decide) (e3 _ fun r o h => hA2.le.get r o h).2 (by have := findR_le L x; simp only []; omega) (by have := findR_le L x; simp only [big]; omega) fun d3 s4 hA3 => ?_
    obtain ⟨r', js', f1, f2, rfl, f3⟩ := hA3.row (by omega)
    have hq4 := hA3.le.get _ _ hq
    simp -dsimp only [hq4, ↓preB, postB, genB, ↓reduceIte, Nat.reduceEqDiff, Int.reduceToNat, Int.reduceLE, Int.reduceLT, Nat.reduceAdd, Nat.reduceLeDiff, intBin, strBin, unD, extractD, lit1, lit2, lit3, keptD, boxR, D.one, D.pub1, D.cells, splice, cutOwn]
    have hrq : r' ≠ q := fun e => by rw [e, hq] at f1; cases f1
    have hlen2 : 0 + (findR L x).1 + 1 + (L.length - (findR L x).1) = (takeR L x).length := by
      rw [takeR_len, c2]; have := findR_le L x; simp; omega
    have hcells : [] ++ cellsS (L.take (findR L x).1) ++ [.sl .no x.word.length (x.word.map .str), .str x.tag, .int .i64 x.many] ++ cellsS (L.drop (findR L x).1) = cellsS (takeR L x) := by
      rw [takeR, c2, if_neg (by simp), cellsS_append]
      simp [cellsS, encSS]
    refine Ret.now (by rw [Heap.next_set]; exact Nat.le_trans hnx hA3.le.next) (.inr ⟨hnr, rfl, ?_, b2, ?_, _, Heap.set_same _ _ _, .inr ⟨takeR_ne _ _, r', js', hrq, ?_, ?_, ?_⟩⟩)
    · exact (b1.trans hA3.le).set _ b2
    · rw [Heap.next_set]; exact Nat.lt_of_lt_of_le b3 hA3.le.next
    · cases hz : σ0.get r' with
      | none => rfl
      | some o => rw [b1.get _ _ hz] at f1; cases f1
    · rw [← hlen2, Nat.zero_add]
    · rw [Heap.set_ne _ _ hrq, f3, hcells]
  · have hlt := findR_lt c2
    rcases hd with ⟨rfl, rfl⟩ | ⟨hne, r, js, hrq, hr0, rfl, hr⟩
    · simp at hlt
    have hnr : ¬ noRoom L x := fun h => h.elim c1 fun h => by rw [c2] at h; cases h.1
    obtain ⟨d0, d1, d2⟩ := cellsS_j hlt js
    have hl := cellsS_len L
    have hc : (cellsS L ++ js).length = L.length * 3 + js.length := by rw [List.length_append, hl]
    have hm1 : 1 ≤ L[(findR L x).1].many := hF.1 _ (List.getElem_mem hlt)
    have hm2 : L[(findR L x).1].many ≤ 1000 := by
      have h1 := (hF.take ((findR L x).1 + 1)).2
      rw [take_snoc hlt, tot, cnt_append, cnt_one, one_all] at h1
      have h2 := ((hF.take (findR L x).1).le [] noB).1
      omega
    have hwm : IntKind.i64.wrap (L[(findR L x).1].many + x.many) = L[(findR L x).1].many + x.many := wrap64_in (by omega) (by omega)
    simp -dsimp only [g3, hwt, c1, c2, hq, encSS, ↓preB, postB, genB, ↓reduceIte, Nat.reduceEqDiff, Int.reduceToNat, Int.reduceLE, Int.reduceLT, Nat.reduceAdd, Nat.reduceLeDiff, intBin, strBin, unD, extractD, lit1, lit2, lit3, keptD, boxR, D.one, D.pub1, D.cells, splice, cutOwn]
    refine draw_t 13 (by decide) ?_
    simp -dsimp only [g3, hwt, c1, c2, hq, hr, hlt, d2, hwm, encSS, ↓preB, postB, genB, ↓reduceIte, Nat.reduceEqDiff, Int.reduceToNat, Int.reduceLE, Int.reduceLT, Nat.reduceAdd, Nat.reduceLeDiff, intBin, strBin, unD, extractD, lit1, lit2, lit3, keptD, boxR, D.one, D.pub1, D.cells, splice, cutOwn]
    refine ⟨by omega, ?_⟩
    rw [splice_one (by omega)]
    have hset : (cellsS L ++ js).set ((findR L x).1 * 3 + 2) (.int .i64 (L[(findR L x).1].many + x.many)) = cellsS (takeR L x) ++ js := by
      rw [List.set_append_left _ _ (by omega)]
      congr 1
      have := cellsS_set x.many hlt
      rw [List.getElem?_eq_getElem hlt] at this
      rw [takeR, c2, if_pos rfl]
      exact this
    rw [hset]
    have hlen2 : L.length = (takeR L x).length := by rw [takeR_len, c2]; rfl
    refine Ret.now (by rw [Heap.next_set]; exact hnx) (.inr ⟨hnr, rfl, b1.set _ hr0, b2, by rw [Heap.next_set]; exact b3, _, by rw [Heap.set_ne _ _ (Ne.symm hrq)]; exact hq, .inr ⟨takeR_ne _ _, r, js, hrq, hr0, by rw [hlen2], Heap.set_same _ _ _⟩⟩)

theorem sumE_big : ∀ {l : List Smp} (a : Int), l.any (fun x => decide (1000 < x.many)) = true → sumE l a = 3
  | [], a, h => by simp at h
  | x :: l, a, h => by
    simp only [sumE]
    split
    · rfl
    · rename_i h1
      split
      · rfl
      · rw [List.any_cons, decide_eq_false h1, Bool.false_or] at h
        exact sumE_big _ h
theorem rowsE_bad {l : List Smp} (h : rowsE l ≠ 0) : newE l = rowsE l := by
  unfold rowsE at h ⊢
  unfold newE badS
  split
  · rfl
  · rename_i h1
    rw [if_neg h1] at h
    split
    · rfl
    · rename_i h2
      rw [if_neg h2] at h
      split
      · rfl
      · rename_i h3
        rw [if_neg h3] at h
        split
        · rename_i h4; exact sumE_big 0 h4
        · rename_i h4; rw [if_neg h4] at h; exact absurd rfl h
theorem rowsE_ok {l : List Smp} (h : rowsE l = 0) : l.length ≤ 200 ∧ (∀ x ∈ l, fineS x ∧ x.many ≤ 1000) ∧ newE l = sumE l 0 := by
  unfold rowsE at h
  split at h
  · cases h
  · rename_i h1
    split at h
    · rename_i h2; exact absurd h h2
    · rename_i h2
      split at h
      · cases h
      · rename_i h3
        split at h
        · cases h
        · rename_i h4
          have e1 : newE l = sumE l 0 := by unfold newE badS; rw [if_neg h1, if_neg h2, if_neg h3]
          refine ⟨by omega, fun x hx => ?_, e1⟩
          have a1 : badW x.word = 0 := badLL_zero (Classical.not_not.1 h2) _ (List.mem_map.2 ⟨x, hx, rfl⟩)
          have a2 : oddS x = false := by
            simp only [Bool.not_eq_true, List.any_eq_false] at h3
            simpa using h3 x hx
          have a3 : ¬ 1000 < x.many := by
            simp only [Bool.not_eq_true, List.any_eq_false] at h4
            simpa using h4 x hx
          simp only [oddS, Bool.or_eq_false_iff, Bool.not_eq_false', decide_eq_false_iff_not] at a2
          exact ⟨⟨a1, a2.1, by omega⟩, by omega⟩
theorem allR_len (l : List Smp) : (allR l).length ≤ l.length := by
  have : ∀ (l L : List Smp), (l.foldl takeR L).length ≤ L.length + l.length := fun l => by
    induction l with
    | nil => intro L; simp
    | cons x l ih =>
      intro L
      rw [List.foldl_cons]
      have h1 := ih (takeR L x)
      have h2 := takeR_len L x
      simp only [List.length_cons]
      split at h2 <;> omega
  simpa [allR] using this l []
theorem takeR_pos : ∀ {L : List Smp} {x : Smp}, (∀ y ∈ L, 1 ≤ y.many) → 1 ≤ x.many → ∀ y ∈ takeR L x, 1 ≤ y.many
  | [], x, _, hx, y, hy => by
    simp [takeR, findR] at hy
    subst hy; exact hx
  | z :: L, x, h, hx, y, hy => by
    have hz := h z List.mem_cons_self
    have hL : ∀ y ∈ L, 1 ≤ y.many := fun y hy => h y (List.mem_cons_of_mem _ hy)
    rw [takeR_cons] at hy
    split at hy
    · rcases List.mem_cons.1 hy with rfl | hy
      · simp only [moreS]; omega
      · exact hL y hy
    · split at hy
      · rcases List.mem_cons.1 hy with rfl | hy
        · exact hx
        · exact h y hy
      · rcases List.mem_cons.1 hy with rfl | hy
        · exact hz
        · exact takeR_pos hL hx y hy
theorem allR_pos {l : List Smp} (h : ∀ y ∈ l, 1 ≤ y.many) : ∀ y ∈ allR l, 1 ≤ y.many := by
  have : ∀ (l L : List Smp), (∀ y ∈ L, 1 ≤ y.many) → (∀ y ∈ l, 1 ≤ y.many) → ∀ y ∈ l.foldl takeR L, 1 ≤ y.many := fun l => by
    induction l with
    | nil => intro L hL _; exact hL
    | cons x l ih =>
      intro L hL hl
      rw [List.foldl_cons]
      exact ih _ (takeR_pos hL (hl x List.mem_cons_self)) fun y hy => hl y (List.mem_cons_of_mem _ hy)
  exact this l [] (fun y hy => by cases hy) h
theorem allR_fine {l : List Smp} (h : ∀ y ∈ l, 1 ≤ y.many) (h2 : tot l ≤ 1000) : Fine (allR l) := ⟨allR_pos h, by rw [tot, cnt_allR]; exact h2⟩
theorem tot_take {l : List Smp} {k : Nat} (h : k < l.length) : tot (l.take (k + 1)) = tot (l.take k) + l[k].many := by
  rw [take_snoc h, tot, cnt_append, cnt_one, one_all]; rfl

theorem refNew_c (l : List Smp) (σ : Heap) : PCall Zs 11 [encS l] σ (fun d τ => HLe σ τ ∧ ((newE l ≠ 0 ∧ d = .tup [.nilptr, .int .i64 (newE l)]) ∨ (newE l = 0 ∧ ∃ q, d = .tup [.ptr q 0, .int .i64 0] ∧ RGo σ (allR l) q τ))) := by
  refine pcall_of (Z := Zs) ok11 fun hcl hbl => ?_
  simp -dsimp only [L11, ↓preB, postB, genB, ↓reduceIte, Nat.reduceEqDiff, Int.reduceToNat, Int.reduceLE, Int.reduceLT, Nat.reduceAdd, Nat.reduceLeDiff, intBin, strBin, unD, extractD, lit1, lit2, lit3, keptD, boxR, D.one, D.pub1, D.cells, splice, cutOwn]
  refine Fn.use (rows_c l) ?_
  by_cases c0 : rowsE l = 0
  · obtain ⟨h200, hfine, hnew⟩ := rowsE_ok c0
    have c0' : (rowsE l != 0) = false := by simpa using c0
    have hpos1 : ∀ x ∈ l, 1 ≤ x.many := fun x hx => (hfine x hx).1.2.2
    have hb60 : aBuilt Zs 60 [] = some [.sl .nil 0 []] := by rfl
    simp -dsimp only [c0', hb60, ↓preB, postB, genB, ↓reduceIte, Nat.reduceEqDiff, Int.reduceToNat, Int.reduceLE, Int.reduceLT, Nat.reduceAdd, Nat.reduceLeDiff, intBin, strBin, unD, extractD, lit1, lit2, lit3, keptD, boxR, D.one, D.pub1, D.cells, splice, cutOwn]
    refine pwp_loopG (fun k env s => k ≤ l.length ∧ RGo σ (allR (l.take k)) σ.next s ∧ tot (l.take k) ≤ 1000 ∧ sumE (l.drop k) (tot (l.take k)) = sumE l 0 ∧ env 6 = .int .i64 (k:Nat) ∧ env 5 = .ptr σ.next 0 ∧ env 0 = encS l) (fun k => l.length - k) 0 ?_ ?_
    · have hR : RGo σ [] σ.next (σ.new (.cells 60 [.sl .nil 0 []])) := ⟨HLe.self_new _ hcl, hcl.none (Nat.le_refl _), by rw [Heap.next_new]; omega, _, Heap.new_same _ _, .inl ⟨rfl, rfl⟩⟩
      simp only [upd_apply, envOf_apply, Nat.reduceEqDiff, if_true, if_false]
      refine ⟨Nat.zero_le _, hR, ?_, ?_, ?_⟩
      · simp [tot, cnt]
      · simp [tot, cnt]
      · simp
    · rintro k env s ⟨hk, hR, ht, hp, h6, h5, h0⟩
      rcases Nat.lt_or_ge k l.length with hlt | hge
      · have hd := cellsS_at hlt
        have hposc := cellsS_pos hlt
        obtain ⟨hfk, hmk⟩ := hfine _ (List.getElem_mem hlt)
        have hFk : Fine (allR (l.take k)) := allR_fine (fun y hy => hpos1 y (List.mem_of_mem_take hy)) ht
        have hlk := allR_len (l.take k)
        have hlk2 : (l.take k).length ≤ k := List.length_take_le _ _
        simp -dsimp only [h6, h5, h0, encS, hlt, hd, hposc, ↓preB, postB, genB, ↓reduceIte, Nat.reduceEqDiff, Int.reduceToNat, Int.reduceLE, Int.reduceLT, Nat.reduceAdd, Nat.reduceLeDiff, intBin, strBin, unD, extractD, lit1, lit2, lit3, keptD, boxR, D.one, D.pub1, D.cells, splice, cutOwn]
        intro hbig
        refine PCall.use (take_c (allR (l.take k)) σ.next l[k] (by omega) hFk hfk.2.2 hmk (badW_len hfk.1) σ s hR) ?_
        rw [List.drop_eq_getElem_cons hlt, sumE, if_neg (by omega)] at hp
        have htot : tot (allR (l.take k)) = tot (l.take k) := by rw [tot, cnt_allR]; rfl
        rintro d τ (⟨hn, rfl, hle⟩ | ⟨hn, rfl, hR'⟩)
        · have hov : 1000 < tot (l.take k) + l[k].many := by
            rcases hn with hn | ⟨_, hn⟩
            · rw [htot] at hn; exact hn
            · omega
          rw [if_pos hov] at hp
          have e1 : newE l = 3 := by rw [hnew, ← hp]
          simp -dsimp only [h6, h5, h0, encS, hlt, hd, hposc, ↓preB, postB, genB, ↓reduceIte, Nat.reduceEqDiff, Int.reduceToNat, Int.reduceLE, Int.reduceLT, Nat.reduceAdd, Nat.reduceLeDiff, intBin, strBin, unD, extractD, lit1, lit2, lit3, keptD, boxR, D.one, D.pub1, D.cells, splice, cutOwn]
          exact Ret.now hle.next ⟨hle, .inl ⟨by rw [e1]; decide, by rw [e1]⟩⟩
        · have hov : ¬ 1000 < tot (l.take k) + l[k].many := fun h => hn (.inl (by rw [htot]; exact h))
          rw [if_neg hov] at hp
          simp -dsimp only [h6, h5, h0, encS, hlt, hd, hposc, ↓preB, postB, genB, ↓reduceIte, Nat.reduceEqDiff, Int.reduceToNat, Int.reduceLE, Int.reduceLT, Nat.reduceAdd, Nat.reduceLeDiff, intBin, strBin, unD, extractD, lit1, lit2, lit3, keptD, boxR, D.one, D.pub1, D.cells, splice, cutOwn]
          refine ⟨k + 1, ⟨by omega, ?_, ?_, ?_, wrap64_succ (by omega)⟩, by omega⟩
          · rw [take_snoc hlt, allR_snoc]; exact hR'
          · rw [tot_take hlt]; omega
          · rw [tot_take hlt]; exact hp
      · rw [List.drop_of_length_le hge, sumE] at hp
        rw [List.take_of_length_le hge] at hR
        have e1 : newE l = 0 := by rw [hnew, ← hp]
        simp -dsimp only [h6, h5, h0, encS, Nat.not_lt.2 hge, ↓preB, postB, genB, ↓reduceIte, Nat.reduceEqDiff, Int.reduceToNat, Int.reduceLE, Int.reduceLT, Nat.reduceAdd, Nat.reduceLeDiff, intBin, strBin, unD, extractD, lit1, lit2, lit3, keptD, boxR, D.one, D.pub1, D.cells, splice, cutOwn]
        intros
        exact Ret.now hR.1.next ⟨hR.1, .inr ⟨e1, _, rfl, hR⟩⟩
  · have c0' : (rowsE l != 0) = true := by simpa using c0
    simp -dsimp only [c0', ↓preB, postB, genB, ↓reduceIte, Nat.reduceEqDiff, Int.reduceToNat, Int.reduceLE, Int.reduceLT, Nat.reduceAdd, Nat.reduceLeDiff, intBin, strBin, unD, extractD, lit1, lit2, lit3, keptD, boxR, D.one, D.pub1, D.cells, splice, cutOwn]
    exact Ret.now (Nat.le_refl _) ⟨HLe.refl _, .inl ⟨by rw [rowsE_bad c0]; exact c0, by rw [rowsE_bad c0]⟩⟩
end Go.Proofs.Ythchlpikcpidaaa.Vs
