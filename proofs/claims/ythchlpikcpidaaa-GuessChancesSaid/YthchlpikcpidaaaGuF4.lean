/- numbers of Ythchlpikcpidaaa -/
/- The reference's counts and chances. -/
import Derived.Test.YthchlpikcpidaaaGuF3
namespace Go.Proofs.Ythchlpikcpidaaa.Vs
set_option linter.unusedVariables false
set_option linter.unusedSimpArgs false
set_option maxRecDepth 20000

def Fine (L : List Smp) : Prop := (∀ x ∈ L, 1 ≤ x.many) ∧ tot L ≤ 1000
theorem hit_all {e : Wd} {t : ByteArray} {x : Smp} (_ : hit e t x = true) : hit [] noB x = true := by
  have h0 : (noB == noB) = true := ba_refl _
  simp [hit, isEnd_nil, h0]
theorem Fine.le {L : List Smp} (h : Fine L) (e : Wd) (t : ByteArray) : 0 ≤ cnt L e t ∧ cnt L e t ≤ 1000 :=
  ⟨cnt_nonneg _ _ h.1, Int.le_trans (cnt_le h.1 fun x _ hx => hit_all hx) h.2⟩
theorem Fine.take {L : List Smp} (h : Fine L) (k : Nat) : Fine (L.take k) := by
  refine ⟨fun x hx => h.1 x (List.mem_of_mem_take hx), ?_⟩
  have h1 := cnt_append (L.take k) (L.drop k) [] noB
  rw [List.take_append_drop] at h1
  have h2 : 0 ≤ cnt (L.drop k) [] noB := cnt_nonneg _ _ fun x hx => h.1 x (List.mem_of_mem_drop hx)
  have := h.2
  unfold tot at *
  omega
def countV (L : List Smp) (e : Wd) (t : ByteArray) : Int := if e.length ≤ 4 then cnt L e t else 0
theorem take_snoc {α : Type} {L : List α} {k : Nat} (h : k < L.length) : L.take (k + 1) = L.take k ++ [L[k]] := by
  rw [List.take_add_one, List.getElem?_eq_getElem h]; rfl

theorem refCount_c (L : List Smp) (q : Nat) (e : Wd) (t : ByteArray) (hL : L.length ≤ 100000) (hF : Fine L) (σ : Heap) (h : RGat L q σ) : PCall Zs 15 [.ptr q 0, encSS e, .str t] σ (fun d τ => d = .int .i64 (countV L e t) ∧ τ = σ) := by
  obtain ⟨d, hq, hd⟩ := h
  refine pcall_of (Z := Zs) ok15 fun hcl hbl => ?_
  simp -dsimp only [L15, ↓preB, postB, genB, ↓reduceIte, Nat.reduceEqDiff, Int.reduceToNat, Int.reduceLE, Int.reduceLT, Nat.reduceAdd, Nat.reduceLeDiff, intBin, strBin, unD, extractD, lit1, lit2, lit3, keptD, boxR, D.one, D.pub1, D.cells, splice, cutOwn]
  by_cases he : e.length ≤ 4
  · have he' : (e.length : Int) ≤ 4 := by omega
    refine pwp_loopG (fun k env s => k ≤ L.length ∧ s = σ ∧ env 8 = .int .i64 (k:Nat) ∧ env 7 = .int .i64 (cnt (L.take k) e t) ∧ env 0 = .ptr q 0 ∧ env 1 = encSS e ∧ env 2 = .str t) (fun k => L.length - k) 0 ?_ ?_
    · simp [upd_apply, envOf, cnt]
    · rintro k env s ⟨hk, rfl, h8, h7, h0, h1, h2⟩
      rcases hd with ⟨rfl, rfl⟩ | ⟨hne, r, js, hrq, rfl, hr⟩
      · simp -dsimp only [h8, h7, h0, h1, h2, encSS, hq, he', List.length_nil, Nat.not_lt_zero, ↓preB, postB, genB, ↓reduceIte, Nat.reduceEqDiff, Int.reduceToNat, Int.reduceLE, Int.reduceLT, Nat.reduceAdd, Nat.reduceLeDiff, intBin, strBin, unD, extractD, lit1, lit2, lit3, keptD, boxR, D.one, D.pub1, D.cells, splice, cutOwn]
        intros
        exact Ret.is (by simp [countV, he])
      · rcases Nat.lt_or_ge k L.length with hlt | hge
        · obtain ⟨d0, d1, d2⟩ := cellsS_j hlt js
          have hsn := take_snoc hlt
          have hb := (hF.take k).le e t
          have hb2 := (hF.take (k + 1)).le e t
          rw [hsn, cnt_append, cnt_one] at hb2
          have next : ∀ n : Int, n = one e t L[k] → IntKind.i64.wrap (cnt (L.take k) e t + n) = cnt (L.take (k + 1)) e t := fun n hn => by
            rw [hsn, cnt_append, cnt_one, hn, wrap64_in (by omega) (by omega)]
          simp -dsimp only [h8, h7, h0, h1, h2, encSS, hq, hr, he', hlt, d0, d1, d2, ↓preB, postB, genB, ↓reduceIte, Nat.reduceEqDiff, Int.reduceToNat, Int.reduceLE, Int.reduceLT, Nat.reduceAdd, Nat.reduceLeDiff, intBin, strBin, unD, extractD, lit1, lit2, lit3, keptD, boxR, D.one, D.pub1, D.cells, splice, cutOwn]
          intro hbe hbL
          have hwk : IntKind.i64.wrap ((k : Int) + 1) = ((k + 1 : Nat) : Int) := wrap64_succ (by simp only [big] at *; omega)
          refine Fn.use (isEnding_c e L[k].word) ?_
          have zero : one e t L[k] = 0 → ∃ y, (y ≤ L.length ∧ IntKind.i64.wrap ((k : Int) + 1) = (y : Int) ∧ cnt (L.take k) e t = cnt (L.take y) e t) ∧ L.length - y < L.length - k := fun h0 => by
            refine ⟨k + 1, ⟨by omega, hwk, ?_⟩, by omega⟩
            rw [hsn, cnt_append, cnt_one, h0]; simp
          have more : one e t L[k] = L[k].many → ∃ y, (y ≤ L.length ∧ IntKind.i64.wrap ((k : Int) + 1) = (y : Int) ∧ IntKind.i64.wrap (cnt (L.take k) e t + L[k].many) = cnt (L.take y) e t) ∧ L.length - y < L.length - k := fun h0 =>
            ⟨k + 1, ⟨by omega, hwk, next _ h0.symm⟩, by omega⟩
          cases c1 : isEnd e L[k].word
          · simp -dsimp only [h8, h7, h0, h1, h2, encSS, hq, hr, he', hlt, d0, d1, d2, c1, ↓preB, postB, genB, ↓reduceIte, Nat.reduceEqDiff, Int.reduceToNat, Int.reduceLE, Int.reduceLT, Nat.reduceAdd, Nat.reduceLeDiff, intBin, strBin, unD, extractD, lit1, lit2, lit3, keptD, boxR, D.one, D.pub1, D.cells, splice, cutOwn]
            exact zero (by simp [one, hit, c1])
          · cases c2 : (t == (⟨#[]⟩ : ByteArray))
            · cases c3 : (t == L[k].tag)
              · simp -dsimp only [h8, h7, h0, h1, h2, encSS, hq, hr, he', hlt, d0, d1, d2, c1, c2, c3, ↓preB, postB, genB, ↓reduceIte, Nat.reduceEqDiff, Int.reduceToNat, Int.reduceLE, Int.reduceLT, Nat.reduceAdd, Nat.reduceLeDiff, intBin, strBin, unD, extractD, lit1, lit2, lit3, keptD, boxR, D.one, D.pub1, D.cells, splice, cutOwn]
                exact zero (by simp [one, hit, c1, noB, c2, c3])
              · simp -dsimp only [h8, h7, h0, h1, h2, encSS, hq, hr, he', hlt, d0, d1, d2, c1, c2, c3, ↓preB, postB, genB, ↓reduceIte, Nat.reduceEqDiff, Int.reduceToNat, Int.reduceLE, Int.reduceLT, Nat.reduceAdd, Nat.reduceLeDiff, intBin, strBin, unD, extractD, lit1, lit2, lit3, keptD, boxR, D.one, D.pub1, D.cells, splice, cutOwn]
                exact more (by simp [one, hit, c1, noB, c2, c3])
            · simp -dsimp only [h8, h7, h0, h1, h2, encSS, hq, hr, he', hlt, d0, d1, d2, c1, c2, ↓preB, postB, genB, ↓reduceIte, Nat.reduceEqDiff, Int.reduceToNat, Int.reduceLE, Int.reduceLT, Nat.reduceAdd, Nat.reduceLeDiff, intBin, strBin, unD, extractD, lit1, lit2, lit3, keptD, boxR, D.one, D.pub1, D.cells, splice, cutOwn]
              exact more (by simp [one, hit, c1, noB, c2])
        · rw [List.take_of_length_le hge] at h7
          simp -dsimp only [h8, h7, h0, h1, h2, encSS, hq, hr, he', Nat.not_lt.2 hge, ↓preB, postB, genB, ↓reduceIte, Nat.reduceEqDiff, Int.reduceToNat, Int.reduceLE, Int.reduceLT, Nat.reduceAdd, Nat.reduceLeDiff, intBin, strBin, unD, extractD, lit1, lit2, lit3, keptD, boxR, D.one, D.pub1, D.cells, splice, cutOwn]
          intros
          exact Ret.is (by rw [countV, if_pos he])
  · have he' : ¬ (e.length : Int) ≤ 4 := by omega
    refine pwp_loop1 ?_
    simp -dsimp only [encSS, hq, he', ↓preB, postB, genB, ↓reduceIte, Nat.reduceEqDiff, Int.reduceToNat, Int.reduceLE, Int.reduceLT, Nat.reduceAdd, Nat.reduceLeDiff, intBin, strBin, unD, extractD, lit1, lit2, lit3, keptD, boxR, D.one, D.pub1, D.cells, splice, cutOwn]
    intros
    exact Ret.is (by rw [countV, if_neg he])
/-- Of no guesser there is nothing. -/
theorem refCount0_c (e : Wd) (t : ByteArray) : Fn Zs 15 [.nilptr, encSS e, .str t] (.int .i64 0) := by
  refine fn_of (Z := Zs) ok15 fun σ hcl hbl => ?_
  simp -dsimp only [L15, ↓preB, postB, genB, ↓reduceIte, Nat.reduceEqDiff, Int.reduceToNat, Int.reduceLE, Int.reduceLT, Nat.reduceAdd, Nat.reduceLeDiff, intBin, strBin, unD, extractD, lit1, lit2, lit3, keptD, boxR, D.one, D.pub1, D.cells, splice, cutOwn]
  refine pwp_loop1 ?_
  simp -dsimp only [encSS, ↓preB, postB, genB, ↓reduceIte, Nat.reduceEqDiff, Int.reduceToNat, Int.reduceLE, Int.reduceLT, Nat.reduceAdd, Nat.reduceLeDiff, intBin, strBin, unD, extractD, lit1, lit2, lit3, keptD, boxR, D.one, D.pub1, D.cells, splice, cutOwn]
  intros
  exact Ret.is rfl
theorem refAll_c (L : List Smp) (q : Nat) (hL : L.length ≤ 100000) (hF : Fine L) (σ : Heap) (h : RGat L q σ) : PCall Zs 46 [.ptr q 0] σ (fun d τ => d = .int .i64 (tot L) ∧ τ = σ) := by
  refine pcall_of (Z := Zs) ok46 fun hcl hbl => ?_
  simp -dsimp only [L46, ↓preB, postB, genB, ↓reduceIte, Nat.reduceEqDiff, Int.reduceToNat, Int.reduceLE, Int.reduceLT, Nat.reduceAdd, Nat.reduceLeDiff, intBin, strBin, unD, extractD, lit1, lit2, lit3, keptD, boxR, D.one, D.pub1, D.cells, splice, cutOwn]
  refine PCall.useP (refCount_c L q [] noB hL hF σ h) rfl ?_
  rintro _ _ ⟨rfl, rfl⟩
  simp -dsimp only [↓preB, postB, genB, ↓reduceIte, Nat.reduceEqDiff, Int.reduceToNat, Int.reduceLE, Int.reduceLT, Nat.reduceAdd, Nat.reduceLeDiff, intBin, strBin, unD, extractD, lit1, lit2, lit3, keptD, boxR, D.one, D.pub1, D.cells, splice, cutOwn]
  exact Ret.is (by simp [countV, tot])
def tagV (L : List Smp) (e : Wd) (t : ByteArray) : Int := if (t == noB) = true then 0 else countV L e t
theorem tagged_c (L : List Smp) (q : Nat) (e : Wd) (t : ByteArray) (hL : L.length ≤ 100000) (hF : Fine L) (σ : Heap) (h : RGat L q σ) : PCall Zs 52 [.ptr q 0, encSS e, .str t] σ (fun d τ => d = .int .i64 (tagV L e t) ∧ τ = σ) := by
  refine pcall_of (Z := Zs) ok52 fun hcl hbl => ?_
  simp -dsimp only [L52, ↓preB, postB, genB, ↓reduceIte, Nat.reduceEqDiff, Int.reduceToNat, Int.reduceLE, Int.reduceLT, Nat.reduceAdd, Nat.reduceLeDiff, intBin, strBin, unD, extractD, lit1, lit2, lit3, keptD, boxR, D.one, D.pub1, D.cells, splice, cutOwn]
  cases c1 : (t == (⟨#[]⟩ : ByteArray))
  · simp -dsimp only [c1, ↓preB, postB, genB, ↓reduceIte, Nat.reduceEqDiff, Int.reduceToNat, Int.reduceLE, Int.reduceLT, Nat.reduceAdd, Nat.reduceLeDiff, intBin, strBin, unD, extractD, lit1, lit2, lit3, keptD, boxR, D.one, D.pub1, D.cells, splice, cutOwn]
    refine PCall.use (refCount_c L q e t hL hF σ h) ?_
    rintro _ _ ⟨rfl, rfl⟩
    simp -dsimp only [c1, ↓preB, postB, genB, ↓reduceIte, Nat.reduceEqDiff, Int.reduceToNat, Int.reduceLE, Int.reduceLT, Nat.reduceAdd, Nat.reduceLeDiff, intBin, strBin, unD, extractD, lit1, lit2, lit3, keptD, boxR, D.one, D.pub1, D.cells, splice, cutOwn]
    exact Ret.is (by rw [tagV, if_neg (by rw [noB, c1]; simp)])
  · simp -dsimp only [c1, ↓preB, postB, genB, ↓reduceIte, Nat.reduceEqDiff, Int.reduceToNat, Int.reduceLE, Int.reduceLT, Nat.reduceAdd, Nat.reduceLeDiff, intBin, strBin, unD, extractD, lit1, lit2, lit3, keptD, boxR, D.one, D.pub1, D.cells, splice, cutOwn]
    exact Ret.is (by rw [tagV, if_pos (by rw [noB, c1])])

/-! ### chances -/
def suf (w : Wd) (i : Nat) : Wd := w.drop (w.length - i)
def chF (a b : Wd → Int) (w : Wd) : Nat → Nat → Int → Int → Int × Int
  | 0, _, n, d => (n, d)
  | k + 1, i, n, d => if b (suf w i) = 0 then (n, d) else chF a b w k (i + 1) (a (suf w i) * d + n) (d * (b (suf w i) + 1))
def bnd : Nat → Int
  | 0 => 1
  | i + 1 => bnd i * 1001
theorem bnd_le {i : Nat} (h : i ≤ 5) : bnd i ≤ 1005010010005001 := by
  have : i = 0 ∨ i = 1 ∨ i = 2 ∨ i = 3 ∨ i = 4 ∨ i = 5 := by omega
  rcases this with rfl | rfl | rfl | rfl | rfl | rfl <;> decide
theorem chstep {n d a b : Int} {i : Nat} (h0 : 0 ≤ n) (h1 : n ≤ d) (h2 : d ≤ bnd i) (ha : 0 ≤ a) (hab : a ≤ b) (hb : b ≤ 1000) : 0 ≤ a * d ∧ 0 ≤ a * d + n ∧ a * d + n ≤ d * (b + 1) ∧ d * (b + 1) ≤ bnd (i + 1) := by
  have hd : 0 ≤ d := Int.le_trans h0 h1
  have q1 : 0 ≤ a * d := Int.mul_nonneg ha hd
  have q2 : a * d ≤ b * d := Int.mul_le_mul_of_nonneg_right hab hd
  have q3 : d * (b + 1) = b * d + d := by rw [Int.mul_add, Int.mul_one, Int.mul_comm]
  have q4 : d * (b + 1) ≤ d * 1001 := Int.mul_le_mul_of_nonneg_left (by omega) hd
  have q5 : d * 1001 ≤ bnd i * 1001 := Int.mul_le_mul_of_nonneg_right h2 (by decide)
  refine ⟨q1, by omega, by omega, ?_⟩
  show _ ≤ bnd i * 1001
  omega
/-- A chance, not in least terms. -/
def chV (a b : Wd → Int) (w : Wd) : Int × Int := chF a b w (min w.length 4) 1 (a []) (b [])
theorem chF_bound {a b : Wd → Int} {w : Wd} (hab : ∀ e, 0 ≤ a e ∧ a e ≤ b e ∧ b e ≤ 1000) : ∀ (k i : Nat) (n d : Int), i + k ≤ 5 → 0 ≤ n → n ≤ d → d ≤ bnd i → 0 ≤ (chF a b w k i n d).1 ∧ (chF a b w k i n d).1 ≤ (chF a b w k i n d).2 ∧ (chF a b w k i n d).2 ≤ 1005010010005001 ∧ (0 < d → 0 < (chF a b w k i n d).2)
  | 0, i, n, d, hi, h0, h1, h2 => ⟨h0, h1, Int.le_trans h2 (bnd_le (by omega)), id⟩
  | k + 1, i, n, d, hi, h0, h1, h2 => by
    simp only [chF]
    split
    · exact ⟨h0, h1, Int.le_trans h2 (bnd_le (by omega)), id⟩
    · obtain ⟨x1, x2, x3⟩ := hab (suf w i)
      obtain ⟨_, q1, q2, q3⟩ := chstep h0 h1 h2 x1 x2 x3
      obtain ⟨r1, r2, r3, r4⟩ := chF_bound hab k (i + 1) _ _ (by omega) q1 q2 q3
      refine ⟨r1, r2, r3, fun hd => r4 ?_⟩
      exact Int.mul_pos hd (by omega)
theorem wsub {a b : Nat} (h : b ≤ a) (ha : a ≤ big) : IntKind.i64.wrap ((a : Int) - (b : Int)) = ((a - b : Nat) : Int) := by
  simp only [big] at ha
  rw [wrap64_in (by omega) (by omega)]; omega
theorem tag_ok {L : List Smp} (hF : Fine L) (e : Wd) (t : ByteArray) : 0 ≤ tagV L e t ∧ tagV L e t ≤ cnt L e noB ∧ cnt L e noB ≤ 1000 := by
  have h1 := hF.le e t
  have h2 := hF.le e noB
  have h3 : cnt L e t ≤ cnt L e noB := cnt_le hF.1 fun x _ hx => (hit_less hx).2
  refine ⟨?_, ?_, h2.2⟩
  · unfold tagV countV; split <;> (try split) <;> omega
  · unfold tagV countV; split <;> (try split) <;> omega
theorem suf_len {w : Wd} {i : Nat} (h : i ≤ w.length) : (suf w i).length = i := by rw [suf, List.length_drop]; omega

theorem refchance_c (L : List Smp) (q : Nat) (w : Wd) (t : ByteArray) (hL : L.length ≤ 100000) (hF : Fine L) (σ : Heap) (h : RGat L q σ) : PCall Zs 33 [.ptr q 0, encSS w, .str t] σ (fun d τ => d = .tup [.int .i64 (chV (fun e => tagV L e t) (fun e => cnt L e noB) w).1, .int .i64 (chV (fun e => tagV L e t) (fun e => cnt L e noB) w).2] ∧ τ = σ) := by
  refine pcall_of (Z := Zs) ok33 fun hcl hbl => ?_
  simp -dsimp only [L33, ↓preB, postB, genB, ↓reduceIte, Nat.reduceEqDiff, Int.reduceToNat, Int.reduceLE, Int.reduceLT, Nat.reduceAdd, Nat.reduceLeDiff, intBin, strBin, unD, extractD, lit1, lit2, lit3, keptD, boxR, D.one, D.pub1, D.cells, splice, cutOwn]
  refine PCall.useP (tagged_c L q [] t hL hF σ h) rfl ?_
  rintro _ _ ⟨rfl, rfl⟩
  simp -dsimp only [↓preB, postB, genB, ↓reduceIte, Nat.reduceEqDiff, Int.reduceToNat, Int.reduceLE, Int.reduceLT, Nat.reduceAdd, Nat.reduceLeDiff, intBin, strBin, unD, extractD, lit1, lit2, lit3, keptD, boxR, D.one, D.pub1, D.cells, splice, cutOwn]
  refine PCall.use (refAll_c L q hL hF _ h) ?_
  rintro _ _ ⟨rfl, rfl⟩
  simp -dsimp only [↓preB, postB, genB, ↓reduceIte, Nat.reduceEqDiff, Int.reduceToNat, Int.reduceLE, Int.reduceLT, Nat.reduceAdd, Nat.reduceLeDiff, intBin, strBin, unD, extractD, lit1, lit2, lit3, keptD, boxR, D.one, D.pub1, D.cells, splice, cutOwn]
  rename_i s0
  generalize hR : chV (fun e => tagV L e t) (fun e => cnt L e noB) w = R
  have h00 := tag_ok hF [] t
  refine pwp_loopG (fun (x : Nat × Int × Int) env s => 1 ≤ x.1 ∧ x.1 ≤ 5 ∧ x.1 ≤ w.length + 1 ∧ chF (fun e => tagV L e t) (fun e => cnt L e noB) w (min w.length 4 + 1 - x.1) x.1 x.2.1 x.2.2 = R ∧ 0 ≤ x.2.1 ∧ x.2.1 ≤ x.2.2 ∧ x.2.2 ≤ bnd x.1 ∧ s = s0 ∧ env 10 = .int .i64 (x.1:Nat) ∧ env 8 = .int .i64 x.2.1 ∧ env 9 = .int .i64 x.2.2 ∧ env 0 = .ptr q 0 ∧ env 1 = encSS w ∧ env 2 = .str t) (fun x => 5 - x.1) (1, tagV L [] t, tot L) ?_ ?_
  · simp only [upd_apply, envOf, Nat.reduceEqDiff, if_true, if_false]
    have hb1 : tot L ≤ bnd 1 := Int.le_trans h00.2.2 (by decide)
    have hR' : chF (fun e => tagV L e t) (fun e => cnt L e noB) w (min w.length 4 + 1 - 1) 1 (tagV L [] t) (tot L) = R := hR
    have hR2 : chF (fun e => tagV L e t) (fun e => cnt L e noB) w (min w.length 4) 1 (tagV L [] t) (tot L) = R := hR
    simp [hR2, hb1, h00.1, show tagV L [] t ≤ tot L from h00.2.1]
  · rintro ⟨i, n, d⟩ env s ⟨hi1, hi5, hiw, hp, hn0, hnd, hdb, rfl, h10, h8, h9, h0, h1, h2⟩
    simp only at hi1 hi5 hiw hp hn0 hnd hdb h10 h8 h9
    by_cases c1 : (i : Int) ≤ 4
    · by_cases c2 : i ≤ w.length
      · have c2' : (i : Int) ≤ (w.length : Int) := by omega
        have hk : min w.length 4 + 1 - i = (min w.length 4 + 1 - (i + 1)) + 1 := by omega
        rw [hk] at hp
        simp only [chF] at hp
        obtain ⟨x1, x2, x3⟩ := tag_ok hF (suf w i) t
        have hsl := suf_len c2
        have hcv : countV L (suf w i) noB = cnt L (suf w i) noB := by rw [countV, if_pos (by omega)]
        obtain ⟨q0, q1, q2, q3⟩ := chstep hn0 hnd hdb x1 x2 x3
        have q4 := bnd_le (i := i + 1) (by omega)
        simp -dsimp only [h10, h8, h9, h0, h1, h2, encSS, c1, c2', ↓preB, postB, genB, ↓reduceIte, Nat.reduceEqDiff, Int.reduceToNat, Int.reduceLE, Int.reduceLT, Nat.reduceAdd, Nat.reduceLeDiff, intBin, strBin, unD, extractD, lit1, lit2, lit3, keptD, boxR, D.one, D.pub1, D.cells, splice, cutOwn]
        intro hbw
        have hws := wsub c2 hbw
        have hle : w.length - i ≤ w.length := Nat.sub_le _ _
        have hle2 : ((w.length - i : Nat) : Int) ≤ (w.length : Int) := by omega
        have hsuf : D.sl .no (w.length - (w.length - i)) (((w.map D.str).drop (w.length - i)).take (w.length - (w.length - i))) = encSS (suf w i) := encSS_drop w _ hle
        simp -dsimp only [h10, h8, h9, h0, h1, h2, encSS, c1, c2', hws, hle2, hsuf, ↓preB, postB, genB, ↓reduceIte, Nat.reduceEqDiff, Int.reduceToNat, Int.reduceLE, Int.reduceLT, Nat.reduceAdd, Nat.reduceLeDiff, intBin, strBin, unD, extractD, lit1, lit2, lit3, keptD, boxR, D.one, D.pub1, D.cells, splice, cutOwn]
        intro _
        refine ⟨by omega, PCall.use (refCount_c L q (suf w i) noB hL hF s h) ?_⟩
        rintro _ _ ⟨rfl, rfl⟩
        rw [hcv]
        by_cases c3 : cnt L (suf w i) noB = 0
        · have c3' : (cnt L (suf w i) noB == 0) = true := by simpa using c3
          rw [if_pos c3] at hp
          simp -dsimp only [h10, h8, h9, h0, h1, h2, encSS, c3', hws, hsuf, ↓preB, postB, genB, ↓reduceIte, Nat.reduceEqDiff, Int.reduceToNat, Int.reduceLE, Int.reduceLT, Nat.reduceAdd, Nat.reduceLeDiff, intBin, strBin, unD, extractD, lit1, lit2, lit3, keptD, boxR, D.one, D.pub1, D.cells, splice, cutOwn]
          exact Ret.is (by rw [← hp])
        · have c3' : (cnt L (suf w i) noB == 0) = false := by simpa using c3
          rw [if_neg c3] at hp
          simp -dsimp only [h10, h8, h9, h0, h1, h2, encSS, c3', hws, hsuf, ↓preB, postB, genB, ↓reduceIte, Nat.reduceEqDiff, Int.reduceToNat, Int.reduceLE, Int.reduceLT, Nat.reduceAdd, Nat.reduceLeDiff, intBin, strBin, unD, extractD, lit1, lit2, lit3, keptD, boxR, D.one, D.pub1, D.cells, splice, cutOwn]
          refine PCall.use (tagged_c L q (suf w i) t hL hF _ h) ?_
          rintro _ _ ⟨rfl, rfl⟩
          have w1 : IntKind.i64.wrap (tagV L (suf w i) t * d) = tagV L (suf w i) t * d := wrap64_in (by omega) (by omega)
          have w2 : IntKind.i64.wrap (tagV L (suf w i) t * d + n) = tagV L (suf w i) t * d + n := wrap64_in (by omega) (by omega)
          have w3 : IntKind.i64.wrap (cnt L (suf w i) noB + 1) = cnt L (suf w i) noB + 1 := wrap64_in (by omega) (by omega)
          have w4 : IntKind.i64.wrap (d * (cnt L (suf w i) noB + 1)) = d * (cnt L (suf w i) noB + 1) := wrap64_in (by omega) (by omega)
          simp -dsimp only [h10, h8, h9, h0, h1, h2, encSS, c3', hws, hsuf, w1, w2, w3, w4, ↓preB, postB, genB, ↓reduceIte, Nat.reduceEqDiff, Int.reduceToNat, Int.reduceLE, Int.reduceLT, Nat.reduceAdd, Nat.reduceLeDiff, intBin, strBin, unD, extractD, lit1, lit2, lit3, keptD, boxR, D.one, D.pub1, D.cells, splice, cutOwn]
          exact ⟨(i + 1, _, _), ⟨by simp only; omega, by simp only; omega, by simp only; omega, hp, q1, q2, q3, wrap64_succ (by simp only [big]; omega), rfl, rfl⟩, by simp only; omega⟩
      · have c2' : ¬ (i : Int) ≤ (w.length : Int) := by omega
        have hk : min w.length 4 + 1 - i = 0 := by omega
        rw [hk, chF] at hp
        simp -dsimp only [h10, h8, h9, h0, h1, h2, encSS, c1, c2', ↓preB, postB, genB, ↓reduceIte, Nat.reduceEqDiff, Int.reduceToNat, Int.reduceLE, Int.reduceLT, Nat.reduceAdd, Nat.reduceLeDiff, intBin, strBin, unD, extractD, lit1, lit2, lit3, keptD, boxR, D.one, D.pub1, D.cells, splice, cutOwn]
        intros
        exact Ret.is (by rw [← hp])
    · have hk : min w.length 4 + 1 - i = 0 := by omega
      rw [hk, chF] at hp
      simp -dsimp only [h10, h8, h9, h0, h1, h2, encSS, c1, ↓preB, postB, genB, ↓reduceIte, Nat.reduceEqDiff, Int.reduceToNat, Int.reduceLE, Int.reduceLT, Nat.reduceAdd, Nat.reduceLeDiff, intBin, strBin, unD, extractD, lit1, lit2, lit3, keptD, boxR, D.one, D.pub1, D.cells, splice, cutOwn]
      intros
      exact Ret.is (by rw [← hp])

/-- Why a chance is not told. -/
def askE (none : Bool) (l : List Wd) : Int := if badLL l ≠ 0 then badLL l else if none then 4 else 0
theorem askE_bad {none : Bool} {l : List Wd} (h : badLL l ≠ 0) : askE none l = badLL l := by rw [askE, if_pos h]
theorem askE_ok {none : Bool} {l : List Wd} (h : badLL l = 0) : askE none l = if none then 4 else 0 := by rw [askE, if_neg (fun h' => h' h)]
theorem asked_c (L : List Smp) (q : Nat) (l : List Wd) (σ : Heap) (h : RGat L q σ) : PCall Zs 32 [.ptr q 0, encLL l] σ (fun d τ => d = .int .i64 (askE (decide (L = [])) l) ∧ τ = σ) := by
  obtain ⟨d, hq, hd⟩ := h
  refine pcall_of (Z := Zs) ok32 fun hcl hbl => ?_
  simp -dsimp only [L32, encLL, ↓preB, postB, genB, ↓reduceIte, Nat.reduceEqDiff, Int.reduceToNat, Int.reduceLE, Int.reduceLT, Nat.reduceAdd, Nat.reduceLeDiff, intBin, strBin, unD, extractD, lit1, lit2, lit3, keptD, boxR, D.one, D.pub1, D.cells, splice, cutOwn]
  refine pwp_loopG (fun k env s => k ≤ l.length ∧ badLL (l.drop k) = badLL l ∧ s = σ ∧ env 5 = .int .i64 (k:Nat) ∧ env 0 = .ptr q 0 ∧ env 1 = encLL l) (fun k => l.length - k) 0 ?_ ?_
  · simp [upd_apply, envOf, encLL]
  · rintro k env s ⟨hk, hp, rfl, h5, h0, h1⟩
    rcases Nat.lt_or_ge k l.length with hlt | hge
    · have hx : l[k]? = some l[k] := List.getElem?_eq_getElem hlt
      have hlp : 0 < l.length := by omega
      rw [List.drop_eq_getElem_cons hlt, badLL_cons] at hp
      simp -dsimp only [h5, h0, h1, encLL, hlt, hx, hlp, ↓preB, postB, genB, ↓reduceIte, Nat.reduceEqDiff, Int.reduceToNat, Int.reduceLE, Int.reduceLT, Nat.reduceAdd, Nat.reduceLeDiff, intBin, strBin, unD, extractD, lit1, lit2, lit3, keptD, boxR, D.one, D.pub1, D.cells, splice, cutOwn]
      intro hb
      refine Fn.use (refValidateWord_c _) ?_
      cases c1 : (badW l[k] != 0)
      · rw [c1] at hp
        simp -dsimp only [h5, h0, h1, encLL, hlt, hx, hlp, c1, ↓preB, postB, genB, ↓reduceIte, Nat.reduceEqDiff, Int.reduceToNat, Int.reduceLE, Int.reduceLT, Nat.reduceAdd, Nat.reduceLeDiff, intBin, strBin, unD, extractD, lit1, lit2, lit3, keptD, boxR, D.one, D.pub1, D.cells, splice, cutOwn]
        exact ⟨k + 1, ⟨by omega, by simpa using hp, wrap64_succ (by simp only [big] at *; omega)⟩, by omega⟩
      · rw [c1] at hp
        have hb0 : badW l[k] ≠ 0 := by simpa using c1
        have e1 : badLL l = badW l[k] := by rw [← hp]; rfl
        simp -dsimp only [h5, h0, h1, encLL, hlt, hx, hlp, c1, ↓preB, postB, genB, ↓reduceIte, Nat.reduceEqDiff, Int.reduceToNat, Int.reduceLE, Int.reduceLT, Nat.reduceAdd, Nat.reduceLeDiff, intBin, strBin, unD, extractD, lit1, lit2, lit3, keptD, boxR, D.one, D.pub1, D.cells, splice, cutOwn]
        exact Ret.is (by rw [askE_bad (by rw [e1]; exact hb0), e1])
    · rw [List.drop_of_length_le hge] at hp
      have hz : badLL l = 0 := by rw [← hp]; rfl
      rw [askE_ok hz]
      rcases hd with ⟨rfl, rfl⟩ | ⟨hne, r, js, hrq, rfl, hr⟩
      · simp -dsimp only [h5, h0, h1, encLL, Nat.not_lt.2 hge, hq, beq_self_eq_true, ↓preB, postB, genB, ↓reduceIte, Nat.reduceEqDiff, Int.reduceToNat, Int.reduceLE, Int.reduceLT, Nat.reduceAdd, Nat.reduceLeDiff, intBin, strBin, unD, extractD, lit1, lit2, lit3, keptD, boxR, D.one, D.pub1, D.cells, splice, cutOwn]
        intros
        exact Ret.is (by simp)
      · have hl : ((L.length : Int) == 0) = false := by
          have : 0 < L.length := List.length_pos_iff.2 hne
          rw [beq_eq_false_iff_ne]; omega
        simp -dsimp only [h5, h0, h1, encLL, Nat.not_lt.2 hge, hq, hl, ↓preB, postB, genB, ↓reduceIte, Nat.reduceEqDiff, Int.reduceToNat, Int.reduceLE, Int.reduceLT, Nat.reduceAdd, Nat.reduceLeDiff, intBin, strBin, unD, extractD, lit1, lit2, lit3, keptD, boxR, D.one, D.pub1, D.cells, splice, cutOwn]
        intros
        exact Ret.is (by simp [hne])
theorem asked0_c (l : List Wd) : Fn Zs 32 [.nilptr, encLL l] (.int .i64 (askE true l)) := by
  refine fn_of (Z := Zs) ok32 fun σ hcl hbl => ?_
  simp -dsimp only [L32, encLL, ↓preB, postB, genB, ↓reduceIte, Nat.reduceEqDiff, Int.reduceToNat, Int.reduceLE, Int.reduceLT, Nat.reduceAdd, Nat.reduceLeDiff, intBin, strBin, unD, extractD, lit1, lit2, lit3, keptD, boxR, D.one, D.pub1, D.cells, splice, cutOwn]
  refine pwp_loopG (fun k env s => k ≤ l.length ∧ badLL (l.drop k) = badLL l ∧ s = σ ∧ env 5 = .int .i64 (k:Nat) ∧ env 0 = .nilptr ∧ env 1 = encLL l) (fun k => l.length - k) 0 ?_ ?_
  · simp [upd_apply, envOf, encLL]
  · rintro k env s ⟨hk, hp, rfl, h5, h0, h1⟩
    rcases Nat.lt_or_ge k l.length with hlt | hge
    · have hx : l[k]? = some l[k] := List.getElem?_eq_getElem hlt
      have hlp : 0 < l.length := by omega
      rw [List.drop_eq_getElem_cons hlt, badLL_cons] at hp
      simp -dsimp only [h5, h0, h1, encLL, hlt, hx, hlp, ↓preB, postB, genB, ↓reduceIte, Nat.reduceEqDiff, Int.reduceToNat, Int.reduceLE, Int.reduceLT, Nat.reduceAdd, Nat.reduceLeDiff, intBin, strBin, unD, extractD, lit1, lit2, lit3, keptD, boxR, D.one, D.pub1, D.cells, splice, cutOwn]
      intro hb
      refine Fn.use (refValidateWord_c _) ?_
      cases c1 : (badW l[k] != 0)
      · rw [c1] at hp
        simp -dsimp only [h5, h0, h1, encLL, hlt, hx, hlp, c1, ↓preB, postB, genB, ↓reduceIte, Nat.reduceEqDiff, Int.reduceToNat, Int.reduceLE, Int.reduceLT, Nat.reduceAdd, Nat.reduceLeDiff, intBin, strBin, unD, extractD, lit1, lit2, lit3, keptD, boxR, D.one, D.pub1, D.cells, splice, cutOwn]
        exact ⟨k + 1, ⟨by omega, by simpa using hp, wrap64_succ (by simp only [big] at *; omega)⟩, by omega⟩
      · rw [c1] at hp
        have hb0 : badW l[k] ≠ 0 := by simpa using c1
        have e1 : badLL l = badW l[k] := by rw [← hp]; rfl
        simp -dsimp only [h5, h0, h1, encLL, hlt, hx, hlp, c1, ↓preB, postB, genB, ↓reduceIte, Nat.reduceEqDiff, Int.reduceToNat, Int.reduceLE, Int.reduceLT, Nat.reduceAdd, Nat.reduceLeDiff, intBin, strBin, unD, extractD, lit1, lit2, lit3, keptD, boxR, D.one, D.pub1, D.cells, splice, cutOwn]
        exact Ret.is (by rw [askE_bad (by rw [e1]; exact hb0), e1])
    · rw [List.drop_of_length_le hge] at hp
      have hz : badLL l = 0 := by rw [← hp]; rfl
      rw [askE_ok hz]
      simp -dsimp only [h5, h0, h1, encLL, Nat.not_lt.2 hge, ↓preB, postB, genB, ↓reduceIte, Nat.reduceEqDiff, Int.reduceToNat, Int.reduceLE, Int.reduceLT, Nat.reduceAdd, Nat.reduceLeDiff, intBin, strBin, unD, extractD, lit1, lit2, lit3, keptD, boxR, D.one, D.pub1, D.cells, splice, cutOwn]
      intros
      exact Ret.is (by simp)

/-! ### least terms -/
def gcdI (a b : Int) : Int := (Nat.gcd a.toNat b.toNat : Nat)
theorem gcd_step {a b : Int} (ha : 0 ≤ a) (hb : 0 < b) : gcdI b (a.tmod b) = gcdI a b ∧ 0 ≤ a.tmod b ∧ a.tmod b < b := by
  obtain ⟨m, rfl⟩ := Int.eq_ofNat_of_zero_le ha
  obtain ⟨n, rfl⟩ := Int.eq_ofNat_of_zero_le (Int.le_of_lt hb)
  have e : (m : Int).tmod (n : Int) = ((m % n : Nat) : Int) := by rw [Int.ofNat_tmod]
  refine ⟨?_, by rw [e]; omega, ?_⟩
  · rw [e]
    simp only [gcdI, Int.toNat_natCast]
    rw [Nat.gcd_comm m n, Nat.gcd_rec n m, Nat.gcd_comm]
  · rw [e]
    have := Nat.mod_lt m (show 0 < n by omega)
    omega
theorem gcd_zero {a : Int} (ha : 0 ≤ a) : gcdI a 0 = a := by
  obtain ⟨m, rfl⟩ := Int.eq_ofNat_of_zero_le ha
  simp [gcdI]
theorem gcd_pos {a b : Int} (hb : 0 < b) : 0 < gcdI a b := by
  have : 0 < Nat.gcd a.toNat b.toNat := Nat.gcd_pos_of_pos_right _ (by omega)
  unfold gcdI
  omega
def leastV (n d : Int) : Int × Int := (n.tdiv (gcdI n d), d.tdiv (gcdI n d))
theorem tdiv_in {n g : Int} (h0 : 0 ≤ n) (h1 : n ≤ 1005010010005001) (hg : 0 < g) : IntKind.i64.wrap (n.tdiv g) = n.tdiv g := by
  have h2 : 0 ≤ n.tdiv g := Int.tdiv_nonneg h0 (by omega)
  have h3 : n.tdiv g ≤ n := Int.tdiv_le_self _ h0
  exact wrap64_in (by omega) (by omega)
/-- What is told of a tag's chance. -/
def chanceD (none : Bool) (w : Wd) (a b : Wd → Int) : D :=
  if askE none [w] ≠ 0 then .tup [.int .i64 0, .int .i64 0, .int .i64 (askE none [w])]
  else .tup [.int .i64 (leastV (chV a b w).1 (chV a b w).2).1, .int .i64 (leastV (chV a b w).1 (chV a b w).2).2, .int .i64 0]
theorem tot_pos {L : List Smp} (h : L ≠ []) (hF : Fine L) : 0 < tot L := by
  cases L with
  | nil => exact absurd rfl h
  | cons x L =>
    rw [tot_cons]
    have h1 := hF.1 x List.mem_cons_self
    have h2 : 0 ≤ tot L := cnt_nonneg _ _ fun y hy => hF.1 y (List.mem_cons_of_mem _ hy)
    omega
theorem refChance_c (L : List Smp) (q : Nat) (w : Wd) (t : ByteArray) (hL : L.length ≤ 100000) (hF : Fine L) (σ : Heap) (h : RGat L q σ) : PCall Zs 13 [.ptr q 0, encSS w, .str t] σ (fun d τ => d = chanceD (decide (L = [])) w (fun e => tagV L e t) (fun e => cnt L e noB) ∧ τ = σ) := by
  refine pcall_of (Z := Zs) ok13 fun hcl hbl => ?_
  simp -dsimp only [L13, encSS, ↓preB, postB, genB, ↓reduceIte, Nat.reduceEqDiff, Int.reduceToNat, Int.reduceLE, Int.reduceLT, Nat.reduceAdd, Nat.reduceLeDiff, intBin, strBin, unD, extractD, lit1, lit2, lit3, keptD, boxR, D.one, D.pub1, D.cells, splice, cutOwn]
  refine PCall.useP (asked_c L q [w] σ h) rfl ?_
  rintro _ _ ⟨rfl, rfl⟩
  by_cases c1 : askE (decide (L = [])) [w] = 0
  · have c1' : (askE (decide (L = [])) [w] != 0) = false := by simpa using c1
    have hne : L ≠ [] := fun e => by
      subst e
      unfold askE at c1
      split at c1
      · rename_i h1; exact h1 c1
      · simp at c1
    simp -dsimp only [c1', ↓preB, postB, genB, ↓reduceIte, Nat.reduceEqDiff, Int.reduceToNat, Int.reduceLE, Int.reduceLT, Nat.reduceAdd, Nat.reduceLeDiff, intBin, strBin, unD, extractD, lit1, lit2, lit3, keptD, boxR, D.one, D.pub1, D.cells, splice, cutOwn]
    refine PCall.use (refchance_c L q w t hL hF _ h) ?_
    rintro _ _ ⟨rfl, rfl⟩
    rename_i s0
    have hres : chanceD (decide (L = [])) w (fun e => tagV L e t) (fun e => cnt L e noB) = _ := if_neg (fun h => h c1)
    rw [hres]
    have hbd := chF_bound (a := fun e => tagV L e t) (b := fun e => cnt L e noB) (w := w) (fun e => tag_ok hF e t) (min w.length 4) 1 (tagV L [] t) (tot L) (by omega) (tag_ok hF [] t).1 (tag_ok hF [] t).2.1 (Int.le_trans (tag_ok hF [] t).2.2 (by decide))
    change 0 ≤ (chV (fun e => tagV L e t) (fun e => cnt L e noB) w).1 ∧ (chV (fun e => tagV L e t) (fun e => cnt L e noB) w).1 ≤ (chV (fun e => tagV L e t) (fun e => cnt L e noB) w).2 ∧ (chV (fun e => tagV L e t) (fun e => cnt L e noB) w).2 ≤ 1005010010005001 ∧ (0 < tot L → 0 < (chV (fun e => tagV L e t) (fun e => cnt L e noB) w).2) at hbd
    generalize chV (fun e => tagV L e t) (fun e => cnt L e noB) w = R at *
    obtain ⟨n, d⟩ := R
    obtain ⟨b0, b1, b2, b3⟩ := hbd
    have b4 := b3 (tot_pos hne hF)
    simp only at b0 b1 b2 b4 ⊢
    simp -dsimp only [↓preB, postB, genB, ↓reduceIte, Nat.reduceEqDiff, Int.reduceToNat, Int.reduceLE, Int.reduceLT, Nat.reduceAdd, Nat.reduceLeDiff, intBin, strBin, unD, extractD, lit1, lit2, lit3, keptD, boxR, D.one, D.pub1, D.cells, splice, cutOwn]
    have hg := gcd_pos (a := n) b4
    refine pwp_loopG (fun (x : Int × Int) env s => 0 ≤ x.1 ∧ 0 ≤ x.2 ∧ gcdI x.1 x.2 = gcdI n d ∧ s = s0 ∧ env 12 = .int .i64 x.1 ∧ env 13 = .int .i64 x.2 ∧ env 10 = .int .i64 n ∧ env 11 = .int .i64 d) (fun x => x.2.toNat) (n, d) ?_ ?_
    · simp [upd_apply, envOf, b0]; omega
    · rintro ⟨x, y⟩ env s ⟨hx, hy, hp, rfl, h12, h13, h10, h11⟩
      simp only at hx hy hp h12 h13
      by_cases c2 : y = 0
      · subst c2
        rw [gcd_zero hx] at hp
        subst hp
        have hg0 : ¬ gcdI n d = 0 := by omega
        have w1 := tdiv_in b0 (by omega) hg
        have w2 := tdiv_in (n := d) (by omega) b2 hg
        simp -dsimp only [h12, h13, h10, h11, bne_self_eq_false, ↓preB, postB, genB, ↓reduceIte, Nat.reduceEqDiff, Int.reduceToNat, Int.reduceLE, Int.reduceLT, Nat.reduceAdd, Nat.reduceLeDiff, intBin, strBin, unD, extractD, lit1, lit2, lit3, keptD, boxR, D.one, D.pub1, D.cells, splice, cutOwn]
        refine draw_s ?_
        simp -dsimp only [h12, h13, h10, h11, hg0, w1, w2, ↓preB, postB, genB, ↓reduceIte, Nat.reduceEqDiff, Int.reduceToNat, Int.reduceLE, Int.reduceLT, Nat.reduceAdd, Nat.reduceLeDiff, intBin, strBin, unD, extractD, lit1, lit2, lit3, keptD, boxR, D.one, D.pub1, D.cells, splice, cutOwn]
        exact Ret.is rfl
      · have c2' : (y != 0) = true := by simpa using c2
        obtain ⟨g1, g2, g3⟩ := gcd_step hx (show 0 < y by omega)
        simp -dsimp only [h12, h13, h10, h11, c2', c2, ↓preB, postB, genB, ↓reduceIte, Nat.reduceEqDiff, Int.reduceToNat, Int.reduceLE, Int.reduceLT, Nat.reduceAdd, Nat.reduceLeDiff, intBin, strBin, unD, extractD, lit1, lit2, lit3, keptD, boxR, D.one, D.pub1, D.cells, splice, cutOwn]
        refine draw_s ?_
        simp -dsimp only [h12, h13, h10, h11, c2', c2, ↓preB, postB, genB, ↓reduceIte, Nat.reduceEqDiff, Int.reduceToNat, Int.reduceLE, Int.reduceLT, Nat.reduceAdd, Nat.reduceLeDiff, intBin, strBin, unD, extractD, lit1, lit2, lit3, keptD, boxR, D.one, D.pub1, D.cells, splice, cutOwn]
        exact ⟨(y, x.tmod y), ⟨hy, g2, by rw [g1, hp], rfl, rfl⟩, by simp only; omega⟩
  · have c1' : (askE (decide (L = [])) [w] != 0) = true := by simpa using c1
    simp -dsimp only [c1', ↓preB, postB, genB, ↓reduceIte, Nat.reduceEqDiff, Int.reduceToNat, Int.reduceLE, Int.reduceLT, Nat.reduceAdd, Nat.reduceLeDiff, intBin, strBin, unD, extractD, lit1, lit2, lit3, keptD, boxR, D.one, D.pub1, D.cells, splice, cutOwn]
    exact Ret.is (by rw [chanceD, if_pos c1])
theorem refChance0_c (w : Wd) (t : ByteArray) (a b : Wd → Int) : Fn Zs 13 [.nilptr, encSS w, .str t] (chanceD true w a b) := by
  refine fn_of (Z := Zs) ok13 fun σ hcl hbl => ?_
  simp -dsimp only [L13, encSS, ↓preB, postB, genB, ↓reduceIte, Nat.reduceEqDiff, Int.reduceToNat, Int.reduceLE, Int.reduceLT, Nat.reduceAdd, Nat.reduceLeDiff, intBin, strBin, unD, extractD, lit1, lit2, lit3, keptD, boxR, D.one, D.pub1, D.cells, splice, cutOwn]
  refine Fn.useP (asked0_c [w]) rfl ?_
  have c1 : askE true [w] ≠ 0 := by
    unfold askE
    split
    · assumption
    · simp
  have c1' : (askE true [w] != 0) = true := by simpa using c1
  simp -dsimp only [c1', ↓preB, postB, genB, ↓reduceIte, Nat.reduceEqDiff, Int.reduceToNat, Int.reduceLE, Int.reduceLT, Nat.reduceAdd, Nat.reduceLeDiff, intBin, strBin, unD, extractD, lit1, lit2, lit3, keptD, boxR, D.one, D.pub1, D.cells, splice, cutOwn]
  exact Ret.is (by rw [chanceD, if_pos c1])
end Go.Proofs.Ythchlpikcpidaaa.Vs
