/- numbers of Ythchlpikcpidaaa -/
/- The program's guesser: counts and chances. -/
import Derived.Test.YthchlpikcpidaaaGuF8
namespace Go.Proofs.Ythchlpikcpidaaa.Vs
set_option linter.unusedVariables false
set_option linter.unusedSimpArgs false
set_option maxRecDepth 20000

theorem PGA.cnt0 {E : EL} {A : AF} {cf : CF} (h : PGA E A cf) {e : ByteArray} (he : lkp E e = none) (t : ByteArray) : cf e t = 0 := (h e).1 he t
theorem PGA.val {E : EL} {A : AF} {cf : CF} (h : PGA E A cf) {e : ByteArray} {r : Nat} (he : lkp E e = some r) (t : ByteArray) : (lkp (A e) t).getD 0 = cf e t := ((h e).2 (by rw [he]; simp)).1.val t
theorem PGA.pos {E : EL} {A : AF} {cf : CF} (h : PGA E A cf) (hn : Nice cf) {e : ByteArray} {r : Nat} (he : lkp E e = some r) : cf e noB ≠ 0 := fun h0 => by
  obtain ⟨h1, h2⟩ := (h e).2 (by rw [he]; simp)
  refine h2 (h1.empty.2 fun t => ?_)
  have := hn e t
  omega
/-- What stands in the maps for an ending and a tag. -/
theorem PGx.two {σ0 σ : Heap} {q r1 r2 : Nat} {M : ML} {E : EL} {A : AF} {cf : CF} (h : PGx σ0 σ q r1 r2 M E A) (hA : PGA E A cf) (e t : ByteArray) :
    ∃ d, lookupD Zs σ.get 54 (.map r2) (.str e) false = some d ∧ lookupD Zs σ.get 63 d (.str t) false = some (.int .i64 (cf e t)) := by
  have h2 := h.lk2 e
  cases he : lkp E e with
  | none =>
    rw [he] at h2
    exact ⟨_, h2, by rw [lk_nil, hA.cnt0 he]⟩
  | some r =>
    rw [he] at h2
    exact ⟨_, h2, by rw [h.lk3 he, hA.val he]⟩

theorem all_c (q : Nat) (mf : ByteArray × ByteArray → Int) (cf : CF) (σ0 σ : Heap) (h : PG σ0 mf cf q σ) : PCall Zs 51 [.ptr q 0] σ (fun d τ => d = .int .i64 (cf noB noB) ∧ τ = σ) := by
  obtain ⟨r1, r2, M, E, A, hP, hM, hA⟩ := h
  obtain ⟨d, h1, h2⟩ := hP.two hA noB noB
  replace h1 : lookupD Zs σ.get 54 (.map r2) (.str ⟨#[]⟩) false = some d := h1
  replace h2 : lookupD Zs σ.get 63 d (.str ⟨#[]⟩) false = some (.int .i64 (cf noB noB)) := h2
  refine pcall_of (Z := Zs) ok51 fun hcl hbl => ?_
  simp -dsimp only [L51, hP.hq, h1, h2, ↓preB, postB, genB, ↓reduceIte, Nat.reduceEqDiff, Int.reduceToNat, Int.reduceLE, Int.reduceLT, Nat.reduceAdd, Nat.reduceLeDiff, intBin, strBin, unD, extractD, lit1, lit2, lit3, keptD, boxR, D.one, D.pub1, D.cells, splice, cutOwn]
  exact Ret.is rfl
theorem none0_c : Fn Zs 29 [.nilptr] (.bool true) := by
  refine fn_of (Z := Zs) ok29 fun σ hcl hbl => ?_
  simp -dsimp only [L29, ↓preB, postB, genB, ↓reduceIte, Nat.reduceEqDiff, Int.reduceToNat, Int.reduceLE, Int.reduceLT, Nat.reduceAdd, Nat.reduceLeDiff, intBin, strBin, unD, extractD, lit1, lit2, lit3, keptD, boxR, D.one, D.pub1, D.cells, splice, cutOwn]
  exact Ret.is rfl
theorem none_c (q : Nat) (mf : ByteArray × ByteArray → Int) (cf : CF) (σ0 σ : Heap) (h : PG σ0 mf cf q σ) : PCall Zs 29 [.ptr q 0] σ (fun d τ => d = .bool (cf noB noB == 0) ∧ τ = σ) := by
  refine pcall_of (Z := Zs) ok29 fun hcl hbl => ?_
  simp -dsimp only [L29, ↓preB, postB, genB, ↓reduceIte, Nat.reduceEqDiff, Int.reduceToNat, Int.reduceLE, Int.reduceLT, Nat.reduceAdd, Nat.reduceLeDiff, intBin, strBin, unD, extractD, lit1, lit2, lit3, keptD, boxR, D.one, D.pub1, D.cells, splice, cutOwn]
  refine PCall.use (all_c q mf cf σ0 σ h) ?_
  rintro _ _ ⟨rfl, rfl⟩
  simp -dsimp only [↓preB, postB, genB, ↓reduceIte, Nat.reduceEqDiff, Int.reduceToNat, Int.reduceLE, Int.reduceLT, Nat.reduceAdd, Nat.reduceLeDiff, intBin, strBin, unD, extractD, lit1, lit2, lit3, keptD, boxR, D.one, D.pub1, D.cells, splice, cutOwn]
  exact Ret.is rfl

theorem ares_cell {Z : Sys} {t a r off : Nat} {e : TypeId} {cs : List D} {d : D} {env : Env} {g : Nat → Option AO} {i : TInfo} (hT : Z.T t = some i) (ha : env a = .ptr r off) (hg : g r = some (.cells e cs)) (hp : pack i (cs.drop off) = some d) : ares Z [.cell a t] env g = some d := by
  simp only [ares, rvs, rv, hT, ha, hg, hp]
theorem pack65 (a b : Int) : ∀ i, Zs.T 65 = some i → pack i ([D.int .i64 a, .int .i64 b].drop 0) = some (.agg [.int .i64 a, .int .i64 b]) := fun i hi => by
  rw [tz65] at hi; cases hi; rfl
theorem bel_two (N : Nat) (a b : Int) : Bel N (.agg [.int .i64 a, .int .i64 b]) := .agg _ fun d hd => by
  simp only [List.mem_cons, List.not_mem_nil, or_false] at hd
  rcases hd with rfl | rfl <;> exact .int _ _
theorem least_c (n d : Int) (h0 : 0 ≤ n) (h1 : n ≤ d) (hd : 0 < d) (h2 : d ≤ 1005010010005001) : Fn Zs 31 [.agg [.int .i64 n, .int .i64 d]] (.agg [.int .i64 (leastV n d).1, .int .i64 (leastV n d).2]) := by
  refine fn_of (Z := Zs) ok31 fun σ hcl hbl => ?_
  simp -dsimp only [L31, ↓preB, postB, genB, ↓reduceIte, Nat.reduceEqDiff, Int.reduceToNat, Int.reduceLE, Int.reduceLT, Nat.reduceAdd, Nat.reduceLeDiff, intBin, strBin, unD, extractD, lit1, lit2, lit3, keptD, boxR, D.one, D.pub1, D.cells, splice, cutOwn]
  have hg := gcd_pos (a := n) hd
  have f0 : ∀ o, ((σ.new (.cells 65 [.int .i64 n, .int .i64 d])).new o).get σ.next = some (.cells 65 [.int .i64 n, .int .i64 d]) := fun o => by
    rw [Heap.new_ne _ _ (by rw [Heap.next_new]; omega), Heap.new_same]
  have hn1 : (σ.new (.cells 65 [.int .i64 n, .int .i64 d])).next = σ.next + 1 := rfl
  have hle : HLe σ ((σ.new (.cells 65 [.int .i64 n, .int .i64 d])).new (.cells 65 [.int .i64 0, .int .i64 0])) := (HLe.self_new _ hcl).new' _ hcl
  have f1 : ((σ.new (.cells 65 [.int .i64 n, .int .i64 d])).new (.cells 65 [.int .i64 0, .int .i64 0])).get (σ.next + 1) = some (.cells 65 [.int .i64 0, .int .i64 0]) := by
    rw [← hn1, Heap.new_same]
  obtain ⟨s2, hs2⟩ : ∃ s2, (σ.new (.cells 65 [.int .i64 n, .int .i64 d])).new (.cells 65 [.int .i64 0, .int .i64 0]) = s2 := ⟨_, rfl⟩
  have f2 := f0 (.cells 65 [.int .i64 0, .int .i64 0])
  rw [hs2] at hle f1 f2
  refine draw_s ?_
  simp -dsimp only [hs2, hn1, f2, ↓preB, postB, genB, ↓reduceIte, Nat.reduceEqDiff, Int.reduceToNat, Int.reduceLE, Int.reduceLT, Nat.reduceAdd, Nat.reduceLeDiff, intBin, strBin, unD, extractD, lit1, lit2, lit3, keptD, boxR, D.one, D.pub1, D.cells, splice, cutOwn]
  refine pwp_loopG (fun (x : Int × Int) env s => 0 ≤ x.1 ∧ 0 ≤ x.2 ∧ gcdI x.1 x.2 = gcdI n d ∧ s = s2 ∧ env 3 = .int .i64 x.1 ∧ env 4 = .int .i64 x.2 ∧ env 1 = .ptr σ.next 0 ∧ env 2 = .ptr (σ.next + 1) 0) (fun x => x.2.toNat) (n, d) ?_ ?_
  · simp only [upd_apply, envOf_apply, Nat.reduceEqDiff, if_true, if_false]
    exact ⟨h0, by omega, by first | rfl | trivial, by first | rfl | trivial | exact hs2, by first | rfl | trivial, by first | rfl | trivial, by first | rfl | trivial, by first | rfl | trivial⟩
  · rintro ⟨x, y⟩ env s ⟨hx, hy, hp, rfl, h3, h4, e1, e2⟩
    simp only at hx hy hp h3 h4
    by_cases c2 : y = 0
    · subst c2
      rw [gcd_zero hx] at hp
      subst hp
      have hg0 : ¬ gcdI n d = 0 := by omega
      have w1 := tdiv_in h0 (by omega) hg
      have w2 := tdiv_in (n := d) (by omega) h2 hg
      have bt65 : ∀ a b : Int, aBuilt Zs 65 [(0, .int .i64 a), (1, .int .i64 b)] = some [.int .i64 a, .int .i64 b] := fun _ _ => by rfl
      simp -dsimp only [h3, h4, e1, e2, bne_self_eq_false, ↓preB, postB, genB, ↓reduceIte, Nat.reduceEqDiff, Int.reduceToNat, Int.reduceLE, Int.reduceLT, Nat.reduceAdd, Nat.reduceLeDiff, intBin, strBin, unD, extractD, lit1, lit2, lit3, keptD, boxR, D.one, D.pub1, D.cells, splice, cutOwn]
      refine draw_t 9 (by decide) ?_
      simp -dsimp only [h3, h4, e1, e2, f1, f2, hg0, w1, w2, bt65, ↓preB, postB, genB, ↓reduceIte, Nat.reduceEqDiff, Int.reduceToNat, Int.reduceLE, Int.reduceLT, Nat.reduceAdd, Nat.reduceLeDiff, intBin, strBin, unD, extractD, lit1, lit2, lit3, keptD, boxR, D.one, D.pub1, D.cells, splice, cutOwn]
      refine ⟨_, ares_cell (r := σ.next + 1) tz65 (by simp [upd_apply, e2]) (Heap.set_same _ _ _) (pack65 _ _ _ tz65), ?_⟩
      exact Ret.told σ _ (Nat.le_refl _) (hle.set_out _ hcl (by omega)) hcl (.refl _) (bel_two _ _ _) ⟨rfl, rfl⟩
    · have c2' : (y != 0) = true := by simpa using c2
      obtain ⟨g1, g2, g3⟩ := gcd_step hx (show 0 < y by omega)
      simp -dsimp only [h3, h4, e1, e2, c2', c2, ↓preB, postB, genB, ↓reduceIte, Nat.reduceEqDiff, Int.reduceToNat, Int.reduceLE, Int.reduceLT, Nat.reduceAdd, Nat.reduceLeDiff, intBin, strBin, unD, extractD, lit1, lit2, lit3, keptD, boxR, D.one, D.pub1, D.cells, splice, cutOwn]
      refine draw_s ?_
      simp -dsimp only [h3, h4, e1, e2, c2', c2, ↓preB, postB, genB, ↓reduceIte, Nat.reduceEqDiff, Int.reduceToNat, Int.reduceLE, Int.reduceLT, Nat.reduceAdd, Nat.reduceLeDiff, intBin, strBin, unD, extractD, lit1, lit2, lit3, keptD, boxR, D.one, D.pub1, D.cells, splice, cutOwn]
      exact ⟨(y, x.tmod y), ⟨hy, g2, by rw [g1, hp], rfl, rfl⟩, by simp only; omega⟩

/-- A tag's chance, not in least terms, out of the counts. -/
def aF (cf : CF) (t : ByteArray) : Wd → Int := fun e => cf (keyB e sp) t
theorem aF_ok {cf : CF} (hn : Nice cf) (t : ByteArray) (e : Wd) : 0 ≤ aF cf t e ∧ aF cf t e ≤ aF cf noB e ∧ aF cf noB e ≤ 1000 := hn _ _
theorem aF_nil (cf : CF) (t : ByteArray) : aF cf t [] = cf noB t := by rw [aF, keyB_nil]
theorem chance_c (w : Wd) (t : ByteArray) (hw : goodW w) (q : Nat) (mf : ByteArray × ByteArray → Int) (cf : CF) (hn : Nice cf) (σ0 σ : Heap) (h : PG σ0 mf cf q σ) :
    PCall Zs 30 [.ptr q 0, encSS w, .str t] σ (fun d τ => d = .agg [.int .i64 (chV (aF cf t) (aF cf noB) w).1, .int .i64 (chV (aF cf t) (aF cf noB) w).2] ∧ τ = σ) := by
  have hPG := h
  obtain ⟨r1, r2, M, E, A, hP, hM, hA⟩ := h
  refine pcall_of (Z := Zs) ok30 fun hcl hbl => ?_
  simp -dsimp only [L30, encSS, ↓preB, postB, genB, ↓reduceIte, Nat.reduceEqDiff, Int.reduceToNat, Int.reduceLE, Int.reduceLT, Nat.reduceAdd, Nat.reduceLeDiff, intBin, strBin, unD, extractD, lit1, lit2, lit3, keptD, boxR, D.one, D.pub1, D.cells, splice, cutOwn]
  have hle1 : HLe σ (σ.new (.cells 65 [.int .i64 0, .int .i64 0])) := HLe.self_new _ hcl
  have hn1 : (σ.new (.cells 65 [.int .i64 0, .int .i64 0])).next = σ.next + 1 := rfl
  have f0 : (σ.new (.cells 65 [.int .i64 0, .int .i64 0])).get σ.next = some (.cells 65 [.int .i64 0, .int .i64 0]) := Heap.new_same _ _
  obtain ⟨s1, hs1⟩ : ∃ s1, σ.new (.cells 65 [.int .i64 0, .int .i64 0]) = s1 := ⟨_, rfl⟩
  rw [hs1] at hle1 hn1 f0
  have hle2 : ∀ o, HLe σ (s1.new o) := fun o => hle1.new' o hcl
  have hP1 := hP.more hle1
  obtain ⟨d0, k1, k2⟩ := hP1.two hA noB t
  have hP2 := hP.more (hle2 (.cells 65 [.int .i64 0, .int .i64 0]))
  obtain ⟨d1, k3, k4⟩ := hP2.two hA noB t
  have hd : d1 = d0 := by
    have q1 := hP1.lk2 noB
    have q2 := hP2.lk2 noB
    rw [k1] at q1
    rw [k3] at q2
    exact (Option.some.inj q2).trans (Option.some.inj q1).symm
  subst hd
  replace k1 : lookupD Zs s1.get 54 (.map r2) (.str ⟨#[]⟩) false = some d1 := k1
  replace k3 : lookupD Zs (s1.new (.cells 65 [.int .i64 0, .int .i64 0])).get 54 (.map r2) (.str ⟨#[]⟩) false = some d1 := k3
  refine draw_a 11 10 (s1.new (.cells 65 [.int .i64 0, .int .i64 0])) (by decide) (by decide) (by decide) ?_
  simp -dsimp only [hs1, hP1.hq, hP2.hq, k1, k2, k3, k4, actOps_nil, actOps_act, actOps_hf, actOps_two, actOp_alloc, actOp_mapEntry, actOp_makeMap, actOp_box, kAct_some, hfB, ne_eq, eq_self, ↓preB, postB, genB, ↓reduceIte, Nat.reduceEqDiff, Int.reduceToNat, Int.reduceLE, Int.reduceLT, Nat.reduceAdd, Nat.reduceLeDiff, intBin, strBin, unD, extractD, lit1, lit2, lit3, keptD, boxR, D.one, D.pub1, D.cells, splice, cutOwn]
  refine ⟨_, all_c q mf cf σ0 _ ⟨r1, r2, M, E, A, hP1, hM, hA⟩, ?_⟩
  simp -dsimp only [hs1, hP1.hq, hP2.hq, k1, k2, k3, k4, actOps_nil, actOps_act, actOps_hf, actOps_two, actOp_alloc, actOp_mapEntry, actOp_makeMap, actOp_box, kAct_some, hfB, ne_eq, eq_self, ↓preB, postB, genB, ↓reduceIte, Nat.reduceEqDiff, Int.reduceToNat, Int.reduceLE, Int.reduceLT, Nat.reduceAdd, Nat.reduceLeDiff, intBin, strBin, unD, extractD, lit1, lit2, lit3, keptD, boxR, D.one, D.pub1, D.cells, splice, cutOwn]
  refine ⟨_, all_c q mf cf σ0 _ ⟨r1, r2, M, E, A, hP2, hM, hA⟩, ?_⟩
  have bt65 : ∀ a b : Int, aBuilt Zs 65 [(0, .int .i64 a), (1, .int .i64 b)] = some [.int .i64 a, .int .i64 b] := fun _ _ => by rfl
  have g1 : ∀ o, (s1.new o).get (σ.next + 1) = some o := fun o => by rw [← hn1, Heap.new_same]
  simp -dsimp only [hs1, hn1, hP1.hq, hP2.hq, k1, k2, k3, k4, bt65, g1, actOps_nil, actOps_act, actOps_hf, actOps_two, actOp_alloc, actOp_mapEntry, actOp_makeMap, actOp_box, kAct_some, hfB, ne_eq, eq_self, ↓preB, postB, genB, ↓reduceIte, Nat.reduceEqDiff, Int.reduceToNat, Int.reduceLE, Int.reduceLT, Nat.reduceAdd, Nat.reduceLeDiff, intBin, strBin, unD, extractD, lit1, lit2, lit3, keptD, boxR, D.one, D.pub1, D.cells, splice, cutOwn]
  generalize hR : chV (aF cf t) (aF cf noB) w = R
  have h00 := aF_ok hn t []
  rw [aF_nil, aF_nil] at h00
  have hw60 := hw.1
  refine pwp_loopG (fun (x : Nat × Int × Int) env s => 1 ≤ x.1 ∧ x.1 ≤ 5 ∧ x.1 ≤ w.length + 1 ∧ chF (aF cf t) (aF cf noB) w (min w.length 4 + 1 - x.1) x.1 x.2.1 x.2.2 = R ∧ 0 ≤ x.2.1 ∧ x.2.1 ≤ x.2.2 ∧ x.2.2 ≤ bnd x.1 ∧ HLe σ s ∧ s.get σ.next = some (.cells 65 [.int .i64 0, .int .i64 0]) ∧ s.get (σ.next + 1) = some (.cells 65 [.int .i64 x.2.1, .int .i64 x.2.2]) ∧ env 8 = .int .i64 (x.1:Nat) ∧ env 7 = .ptr (σ.next + 1) 0 ∧ env 6 = .ptr σ.next 0 ∧ env 0 = .ptr q 0 ∧ env 1 = encSS w ∧ env 2 = .str t) (fun x => 5 - x.1) (1, cf noB t, cf noB noB) ?_ ?_
  · have hb1 : cf noB noB ≤ bnd 1 := Int.le_trans h00.2.2 (by decide)
    have hR2 : chF (aF cf t) (aF cf noB) w (min w.length 4) 1 (cf noB t) (cf noB noB) = R := by rw [← hR, chV, aF_nil, aF_nil]
    have g2 : ∀ o, (s1.new o).get σ.next = some (.cells 65 [.int .i64 0, .int .i64 0]) := fun o => by rw [Heap.new_ne _ _ (by omega)]; exact f0
    have g3 : (s1.new (.cells 65 [.int .i64 0, .int .i64 0])).set (σ.next + 1) (.cells 65 [.int .i64 (cf noB t), .int .i64 (cf noB noB)]) = s1.new (.cells 65 [.int .i64 (cf noB t), .int .i64 (cf noB noB)]) := by rw [← hn1, Heap.new_set]
    simp only [upd_apply, envOf_apply, Nat.reduceEqDiff, if_true, if_false, g3, g1, g2]
    exact ⟨Nat.le_refl _, by omega, by omega, hR2, h00.1, h00.2.1, hb1, hle2 _, by first | rfl | trivial, by first | rfl | trivial, by first | rfl | trivial, by first | rfl | trivial, by first | rfl | trivial, by first | rfl | trivial, by first | rfl | trivial, by first | rfl | trivial⟩
  · rintro ⟨i, n, d⟩ env s ⟨hi1, hi5, hiw, hp, hn0, hnd, hdb, hle, f6, f7, h8, h7, h6, h0, h1, h2⟩
    simp only at hi1 hi5 hiw hp hn0 hnd hdb f7 h8
    have hPs := hP.more hle
    have hmin : (if (4 : Int) < (w.length : Int) then (4 : Int) else (w.length : Int)) = ((min w.length 4 : Nat) : Int) := by split <;> omega
    have fin : (n, d) = R → Ret σ (fun d' τ => d' = .agg [.int .i64 R.1, .int .i64 R.2] ∧ τ = σ) (.agg [.int .i64 n, .int .i64 d]) (s.set σ.next (.cells 65 [.int .i64 n, .int .i64 d])) := fun e => by
      subst e
      exact Ret.told σ _ (Nat.le_refl _) (hle.set_out _ hcl (Nat.le_refl _)) hcl (.refl _) (bel_two _ _ _) ⟨rfl, rfl⟩
    by_cases c2 : i ≤ min w.length 4
    · have c2' : (i : Int) ≤ ((min w.length 4 : Nat) : Int) := by omega
      have hil : i ≤ w.length := by omega
      have hk : min w.length 4 + 1 - i = (min w.length 4 + 1 - (i + 1)) + 1 := by omega
      rw [hk] at hp
      simp only [chF] at hp
      obtain ⟨x1, x2, x3⟩ := aF_ok hn t (suf w i)
      obtain ⟨q0, q1, q2, q3⟩ := chstep hn0 hnd hdb x1 x2 x3
      have q4 := bnd_le (i := i + 1) (by omega)
      have hws := wsub hil (show w.length ≤ big by simp only [big]; omega)
      have hle2' : ((w.length - i : Nat) : Int) ≤ (w.length : Int) := by omega
      have hsuf : D.sl .no (w.length - (w.length - i)) (((w.map D.str).drop (w.length - i)).take (w.length - (w.length - i))) = encSS (suf w i) := encSS_drop w _ (Nat.sub_le _ _)
      simp -dsimp only [h8, h7, h6, h0, h1, h2, encSS, hmin, c2', ↓preB, postB, genB, ↓reduceIte, Nat.reduceEqDiff, Int.reduceToNat, Int.reduceLE, Int.reduceLT, Nat.reduceAdd, Nat.reduceLeDiff, intBin, strBin, unD, extractD, lit1, lit2, lit3, keptD, boxR, D.one, D.pub1, D.cells, splice, cutOwn]
      intros
      refine draw_s ?_
      have hl2 := hPs.lk2 (keyB (suf w i) sp)
      simp -dsimp only [h8, h7, h6, h0, h1, h2, encSS, hPs.hq, hws, hle2', hsuf, ↓preB, postB, genB, ↓reduceIte, Nat.reduceEqDiff, Int.reduceToNat, Int.reduceLE, Int.reduceLT, Nat.reduceAdd, Nat.reduceLeDiff, intBin, strBin, unD, extractD, lit1, lit2, lit3, keptD, boxR, D.one, D.pub1, D.cells, splice, cutOwn]
      refine ⟨by omega, Fn.useS (gkey_c _ (hw.drop _)) ?_⟩
      cases hE : lkp E (keyB (suf w i) sp) with
      | none =>
        rw [hE] at hl2
        have hz : aF cf noB (suf w i) = 0 := hA.cnt0 hE noB
        rw [if_pos hz] at hp
        simp -dsimp only [h8, h7, h6, h0, h1, h2, encSS, hPs.hq, hl2, f6, f7, ↓preB, postB, genB, ↓reduceIte, Nat.reduceEqDiff, Int.reduceToNat, Int.reduceLE, Int.reduceLT, Nat.reduceAdd, Nat.reduceLeDiff, intBin, strBin, unD, extractD, lit1, lit2, lit3, keptD, boxR, D.one, D.pub1, D.cells, splice, cutOwn]
        refine ⟨_, ares_cell (r := σ.next) tz65 (by simp [upd_apply, h6]) (Heap.set_same _ _ _) (pack65 _ _ _ tz65), fin hp⟩
      | some r =>
        rw [hE] at hl2
        have hz : ¬ aF cf noB (suf w i) = 0 := hA.pos hn hE
        rw [if_neg hz] at hp
        have l3 := hPs.lk3 hE t
        rw [hA.val hE] at l3
        have l4 := hPs.lk3 hE noB
        rw [hA.val hE] at l4
        replace l4 : lookupD Zs s.get 63 (.map r) (.str ⟨#[]⟩) false = some (.int .i64 (cf (keyB (suf w i) sp) noB)) := l4
        have w1 : IntKind.i64.wrap (aF cf t (suf w i) * d) = aF cf t (suf w i) * d := wrap64_in (by omega) (by omega)
        have w2 : IntKind.i64.wrap (aF cf t (suf w i) * d + n) = aF cf t (suf w i) * d + n := wrap64_in (by omega) (by omega)
        have w3 : IntKind.i64.wrap (aF cf noB (suf w i) + 1) = aF cf noB (suf w i) + 1 := wrap64_in (by omega) (by omega)
        have w4 : IntKind.i64.wrap (d * (aF cf noB (suf w i) + 1)) = d * (aF cf noB (suf w i) + 1) := wrap64_in (by omega) (by omega)
        unfold aF at w1 w2 w3 w4
        simp -dsimp only [h8, h7, h6, h0, h1, h2, encSS, hPs.hq, hl2, l3, l4, f6, f7, bt65, w1, w2, w3, w4, ↓preB, postB, genB, ↓reduceIte, Nat.reduceEqDiff, Int.reduceToNat, Int.reduceLE, Int.reduceLT, Nat.reduceAdd, Nat.reduceLeDiff, intBin, strBin, unD, extractD, lit1, lit2, lit3, keptD, boxR, D.one, D.pub1, D.cells, splice, cutOwn]
        refine ⟨(i + 1, _, _), ⟨by simp only; omega, by simp only; omega, by simp only; omega, hp, q1, q2, q3, hle.set_out _ hcl (by omega), ?_, rfl, wrap64_succ (by simp only [big]; omega)⟩, by simp only; omega⟩
        rw [Heap.set_ne _ _ (by omega)]; exact f6
    · have c2' : ¬ (i : Int) ≤ ((min w.length 4 : Nat) : Int) := by omega
      have hk : min w.length 4 + 1 - i = 0 := by omega
      rw [hk, chF] at hp
      simp -dsimp only [h8, h7, h6, h0, h1, h2, encSS, hmin, c2', f6, f7, ↓preB, postB, genB, ↓reduceIte, Nat.reduceEqDiff, Int.reduceToNat, Int.reduceLE, Int.reduceLT, Nat.reduceAdd, Nat.reduceLeDiff, intBin, strBin, unD, extractD, lit1, lit2, lit3, keptD, boxR, D.one, D.pub1, D.cells, splice, cutOwn]
      intros
      refine ⟨_, ares_cell (r := σ.next) tz65 (by simp [upd_apply, h6]) (Heap.set_same _ _ _) (pack65 _ _ _ tz65), fin hp⟩

/-- What the program tells of a tag's chance. -/
def gchD (none : Bool) (w : Wd) (cf : CF) (t : ByteArray) : D :=
  if badW w ≠ 0 then .tup [.int .i64 0, .int .i64 0, .int .i64 (badW w)]
  else if none = true then .tup [.int .i64 0, .int .i64 0, .int .i64 4]
  else if (t == noB) = true ∨ cf noB t = 0 then .tup [.int .i64 0, .int .i64 1, .int .i64 0]
  else .tup [.int .i64 (leastV (chV (aF cf t) (aF cf noB) w).1 (chV (aF cf t) (aF cf noB) w).2).1, .int .i64 (leastV (chV (aF cf t) (aF cf noB) w).1 (chV (aF cf t) (aF cf noB) w).2).2, .int .i64 0]
theorem Chance0_c (w : Wd) (t : ByteArray) (cf : CF) : Fn Zs 12 [.nilptr, encSS w, .str t] (gchD true w cf t) := by
  refine fn_of (Z := Zs) ok12 fun σ hcl hbl => ?_
  simp -dsimp only [L12, ↓preB, postB, genB, ↓reduceIte, Nat.reduceEqDiff, Int.reduceToNat, Int.reduceLE, Int.reduceLT, Nat.reduceAdd, Nat.reduceLeDiff, intBin, strBin, unD, extractD, lit1, lit2, lit3, keptD, boxR, D.one, D.pub1, D.cells, splice, cutOwn]
  refine Fn.use (symsValidateWord_c w) ?_
  by_cases c1 : badW w = 0
  · have c1' : (badW w != 0) = false := by simpa using c1
    simp -dsimp only [c1', ↓preB, postB, genB, ↓reduceIte, Nat.reduceEqDiff, Int.reduceToNat, Int.reduceLE, Int.reduceLT, Nat.reduceAdd, Nat.reduceLeDiff, intBin, strBin, unD, extractD, lit1, lit2, lit3, keptD, boxR, D.one, D.pub1, D.cells, splice, cutOwn]
    refine Fn.use none0_c ?_
    simp -dsimp only [↓preB, postB, genB, ↓reduceIte, Nat.reduceEqDiff, Int.reduceToNat, Int.reduceLE, Int.reduceLT, Nat.reduceAdd, Nat.reduceLeDiff, intBin, strBin, unD, extractD, lit1, lit2, lit3, keptD, boxR, D.one, D.pub1, D.cells, splice, cutOwn]
    exact Ret.is (by rw [gchD, if_neg (fun h => h c1), if_pos rfl])
  · have c1' : (badW w != 0) = true := by simpa using c1
    simp -dsimp only [c1', ↓preB, postB, genB, ↓reduceIte, Nat.reduceEqDiff, Int.reduceToNat, Int.reduceLE, Int.reduceLT, Nat.reduceAdd, Nat.reduceLeDiff, intBin, strBin, unD, extractD, lit1, lit2, lit3, keptD, boxR, D.one, D.pub1, D.cells, splice, cutOwn]
    exact Ret.is (by rw [gchD, if_pos c1])
theorem ch_bound {cf : CF} (hn : Nice cf) (w : Wd) (t : ByteArray) : 0 ≤ (chV (aF cf t) (aF cf noB) w).1 ∧ (chV (aF cf t) (aF cf noB) w).1 ≤ (chV (aF cf t) (aF cf noB) w).2 ∧ (chV (aF cf t) (aF cf noB) w).2 ≤ 1005010010005001 ∧ (0 < cf noB noB → 0 < (chV (aF cf t) (aF cf noB) w).2) := by
  have h := chF_bound (a := aF cf t) (b := aF cf noB) (w := w) (aF_ok hn t) (min w.length 4) 1 (aF cf t []) (aF cf noB []) (by omega) (aF_ok hn t []).1 (aF_ok hn t []).2.1 (Int.le_trans (aF_ok hn t []).2.2 (by decide))
  rw [aF_nil cf noB] at h
  unfold chV
  rw [aF_nil cf noB]
  exact h
theorem Chance_c (w : Wd) (t : ByteArray) (q : Nat) (mf : ByteArray × ByteArray → Int) (cf : CF) (hn : Nice cf) (σ0 σ : Heap) (h : PG σ0 mf cf q σ) :
    PCall Zs 12 [.ptr q 0, encSS w, .str t] σ (fun d τ => d = gchD (cf noB noB == 0) w cf t ∧ τ = σ) := by
  have hPG := h
  obtain ⟨r1, r2, M, E, A, hP, hM, hA⟩ := h
  obtain ⟨d1, k1, k2⟩ := hP.two hA noB t
  replace k1 : lookupD Zs σ.get 54 (.map r2) (.str ⟨#[]⟩) false = some d1 := k1
  refine pcall_of (Z := Zs) ok12 fun hcl hbl => ?_
  simp -dsimp only [L12, ↓preB, postB, genB, ↓reduceIte, Nat.reduceEqDiff, Int.reduceToNat, Int.reduceLE, Int.reduceLT, Nat.reduceAdd, Nat.reduceLeDiff, intBin, strBin, unD, extractD, lit1, lit2, lit3, keptD, boxR, D.one, D.pub1, D.cells, splice, cutOwn]
  refine Fn.use (symsValidateWord_c w) ?_
  by_cases c1 : badW w = 0
  · have c1' : (badW w != 0) = false := by simpa using c1
    simp -dsimp only [c1', ↓preB, postB, genB, ↓reduceIte, Nat.reduceEqDiff, Int.reduceToNat, Int.reduceLE, Int.reduceLT, Nat.reduceAdd, Nat.reduceLeDiff, intBin, strBin, unD, extractD, lit1, lit2, lit3, keptD, boxR, D.one, D.pub1, D.cells, splice, cutOwn]
    refine PCall.use (none_c q mf cf σ0 σ hPG) ?_
    rintro _ τ ⟨rfl, hτ⟩
    subst hτ
    cases c2 : (cf noB noB == 0)
    · have c2' : cf noB noB ≠ 0 := by simpa using c2
      have last : ¬ ((t == noB) = true ∨ cf noB t = 0) → kCall Zs 30 [.ptr q 0, encSS w, .str t] τ (fun d σ' => d = .agg [.int .i64 (chV (aF cf t) (aF cf noB) w).1, .int .i64 (chV (aF cf t) (aF cf noB) w).2] ∧ σ' = τ) ⟨⟩ := fun _ => PCall.use (chance_c w t (badW_good c1) q mf cf hn σ0 τ hPG) fun _ _ h => h
      have hgd : ¬ ((t == noB) = true ∨ cf noB t = 0) → gchD false w cf t = .tup [.int .i64 (leastV (chV (aF cf t) (aF cf noB) w).1 (chV (aF cf t) (aF cf noB) w).2).1, .int .i64 (leastV (chV (aF cf t) (aF cf noB) w).1 (chV (aF cf t) (aF cf noB) w).2).2, .int .i64 0] := fun h => by
        rw [gchD, if_neg (fun h => h c1), if_neg (by simp), if_neg h]
      obtain ⟨b0, b1, b2, b3⟩ := ch_bound hn w t
      have b4 := b3 (by have := hn noB noB; omega)
      have f0 : ∀ o, (τ.new o).get τ.next = some o := fun o => Heap.new_same _ _
      cases c3 : (t == (⟨#[]⟩ : ByteArray))
      · by_cases c4 : cf noB t = 0
        · have c4' : (cf noB t == 0) = true := by simpa using c4
          simp -dsimp only [hP.hq, k1, k2, c2, c3, c4', ↓preB, postB, genB, ↓reduceIte, Nat.reduceEqDiff, Int.reduceToNat, Int.reduceLE, Int.reduceLT, Nat.reduceAdd, Nat.reduceLeDiff, intBin, strBin, unD, extractD, lit1, lit2, lit3, keptD, boxR, D.one, D.pub1, D.cells, splice, cutOwn]
          exact Ret.is (by rw [gchD, if_neg (fun h => h c1), if_neg (by simp), if_pos (.inr c4)])
        · have c4' : (cf noB t == 0) = false := by simpa using c4
          have hno : ¬ ((t == noB) = true ∨ cf noB t = 0) := fun h => h.elim (fun h => by rw [noB, c3] at h; cases h) c4
          simp -dsimp only [hP.hq, k1, k2, c2, c3, c4', ↓preB, postB, genB, ↓reduceIte, Nat.reduceEqDiff, Int.reduceToNat, Int.reduceLE, Int.reduceLT, Nat.reduceAdd, Nat.reduceLeDiff, intBin, strBin, unD, extractD, lit1, lit2, lit3, keptD, boxR, D.one, D.pub1, D.cells, splice, cutOwn]
          refine PCall.use (chance_c w t (badW_good c1) q mf cf hn σ0 τ hPG) ?_
          rintro _ τ2 ⟨rfl, hτ2⟩
          subst hτ2
          simp -dsimp only [↓preB, postB, genB, ↓reduceIte, Nat.reduceEqDiff, Int.reduceToNat, Int.reduceLE, Int.reduceLT, Nat.reduceAdd, Nat.reduceLeDiff, intBin, strBin, unD, extractD, lit1, lit2, lit3, keptD, boxR, D.one, D.pub1, D.cells, splice, cutOwn]
          refine Fn.use (least_c _ _ b0 b1 b4 b2) ?_
          simp -dsimp only [↓preB, postB, genB, ↓reduceIte, Nat.reduceEqDiff, Int.reduceToNat, Int.reduceLE, Int.reduceLT, Nat.reduceAdd, Nat.reduceLeDiff, intBin, strBin, unD, extractD, lit1, lit2, lit3, keptD, boxR, D.one, D.pub1, D.cells, splice, cutOwn]
          refine draw_s ?_
          simp -dsimp only [f0, ↓preB, postB, genB, ↓reduceIte, Nat.reduceEqDiff, Int.reduceToNat, Int.reduceLE, Int.reduceLT, Nat.reduceAdd, Nat.reduceLeDiff, intBin, strBin, unD, extractD, lit1, lit2, lit3, keptD, boxR, D.one, D.pub1, D.cells, splice, cutOwn]
          exact Ret.told τ2 _ (Nat.le_refl _) (HLe.self_new _ hcl) hcl (.refl _) (.tup3 (.int _ _) (.int _ _) (.int _ _)) ⟨by rw [hgd hno], rfl⟩
      · simp -dsimp only [hP.hq, k1, k2, c2, c3, ↓preB, postB, genB, ↓reduceIte, Nat.reduceEqDiff, Int.reduceToNat, Int.reduceLE, Int.reduceLT, Nat.reduceAdd, Nat.reduceLeDiff, intBin, strBin, unD, extractD, lit1, lit2, lit3, keptD, boxR, D.one, D.pub1, D.cells, splice, cutOwn]
        exact Ret.is (by rw [gchD, if_neg (fun h => h c1), if_neg (by simp), if_pos (.inl (by rw [noB, c3]))])
    · simp -dsimp only [c2, ↓preB, postB, genB, ↓reduceIte, Nat.reduceEqDiff, Int.reduceToNat, Int.reduceLE, Int.reduceLT, Nat.reduceAdd, Nat.reduceLeDiff, intBin, strBin, unD, extractD, lit1, lit2, lit3, keptD, boxR, D.one, D.pub1, D.cells, splice, cutOwn]
      exact Ret.is (by rw [gchD, if_neg (fun h => h c1), if_pos rfl])
  · have c1' : (badW w != 0) = true := by simpa using c1
    simp -dsimp only [c1', ↓preB, postB, genB, ↓reduceIte, Nat.reduceEqDiff, Int.reduceToNat, Int.reduceLE, Int.reduceLT, Nat.reduceAdd, Nat.reduceLeDiff, intBin, strBin, unD, extractD, lit1, lit2, lit3, keptD, boxR, D.one, D.pub1, D.cells, splice, cutOwn]
    exact Ret.is (by rw [gchD, if_pos c1])

def gcountV (e : Wd) (cf : CF) (t : ByteArray) : Int := if e.length ≤ 4 ∧ badW e = 0 then cf (keyB e sp) t else 0
theorem Count0_c (e : Wd) (t : ByteArray) : Fn Zs 14 [.nilptr, encSS e, .str t] (.int .i64 0) := by
  refine fn_of (Z := Zs) ok14 fun σ hcl hbl => ?_
  simp -dsimp only [L14, ↓preB, postB, genB, ↓reduceIte, Nat.reduceEqDiff, Int.reduceToNat, Int.reduceLE, Int.reduceLT, Nat.reduceAdd, Nat.reduceLeDiff, intBin, strBin, unD, extractD, lit1, lit2, lit3, keptD, boxR, D.one, D.pub1, D.cells, splice, cutOwn]
  exact Ret.is rfl
theorem Count_c (e : Wd) (t : ByteArray) (q : Nat) (mf : ByteArray × ByteArray → Int) (cf : CF) (σ0 σ : Heap) (h : PG σ0 mf cf q σ) :
    PCall Zs 14 [.ptr q 0, encSS e, .str t] σ (fun d τ => d = .int .i64 (gcountV e cf t) ∧ τ = σ) := by
  obtain ⟨r1, r2, M, E, A, hP, hM, hA⟩ := h
  obtain ⟨d1, k1, k2⟩ := hP.two hA (keyB e sp) t
  refine pcall_of (Z := Zs) ok14 fun hcl hbl => ?_
  simp -dsimp only [L14, encSS, ↓preB, postB, genB, ↓reduceIte, Nat.reduceEqDiff, Int.reduceToNat, Int.reduceLE, Int.reduceLT, Nat.reduceAdd, Nat.reduceLeDiff, intBin, strBin, unD, extractD, lit1, lit2, lit3, keptD, boxR, D.one, D.pub1, D.cells, splice, cutOwn]
  intro hb
  by_cases c1 : (4 : Int) < (e.length : Int)
  · simp -dsimp only [c1, ↓preB, postB, genB, ↓reduceIte, Nat.reduceEqDiff, Int.reduceToNat, Int.reduceLE, Int.reduceLT, Nat.reduceAdd, Nat.reduceLeDiff, intBin, strBin, unD, extractD, lit1, lit2, lit3, keptD, boxR, D.one, D.pub1, D.cells, splice, cutOwn]
    exact Ret.is (by rw [gcountV, if_neg (fun h => by have := h.1; omega)])
  · simp -dsimp only [c1, ↓preB, postB, genB, ↓reduceIte, Nat.reduceEqDiff, Int.reduceToNat, Int.reduceLE, Int.reduceLT, Nat.reduceAdd, Nat.reduceLeDiff, intBin, strBin, unD, extractD, lit1, lit2, lit3, keptD, boxR, D.one, D.pub1, D.cells, splice, cutOwn]
    refine Fn.use (symsValidateWord_c e) ?_
    by_cases c2 : badW e = 0
    · have c2' : (badW e != 0) = false := by simpa using c2
      simp -dsimp only [c1, c2', ↓preB, postB, genB, ↓reduceIte, Nat.reduceEqDiff, Int.reduceToNat, Int.reduceLE, Int.reduceLT, Nat.reduceAdd, Nat.reduceLeDiff, intBin, strBin, unD, extractD, lit1, lit2, lit3, keptD, boxR, D.one, D.pub1, D.cells, splice, cutOwn]
      refine draw_s ?_
      simp -dsimp only [hP.hq, encSS, ↓preB, postB, genB, ↓reduceIte, Nat.reduceEqDiff, Int.reduceToNat, Int.reduceLE, Int.reduceLT, Nat.reduceAdd, Nat.reduceLeDiff, intBin, strBin, unD, extractD, lit1, lit2, lit3, keptD, boxR, D.one, D.pub1, D.cells, splice, cutOwn]
      refine Fn.useS (gkey_c _ (badW_good c2)) ?_
      simp -dsimp only [hP.hq, k1, k2, ↓preB, postB, genB, ↓reduceIte, Nat.reduceEqDiff, Int.reduceToNat, Int.reduceLE, Int.reduceLT, Nat.reduceAdd, Nat.reduceLeDiff, intBin, strBin, unD, extractD, lit1, lit2, lit3, keptD, boxR, D.one, D.pub1, D.cells, splice, cutOwn]
      exact Ret.is (by rw [gcountV, if_pos ⟨by omega, c2⟩])
    · have c2' : (badW e != 0) = true := by simpa using c2
      simp -dsimp only [c1, c2', ↓preB, postB, genB, ↓reduceIte, Nat.reduceEqDiff, Int.reduceToNat, Int.reduceLE, Int.reduceLT, Nat.reduceAdd, Nat.reduceLeDiff, intBin, strBin, unD, extractD, lit1, lit2, lit3, keptD, boxR, D.one, D.pub1, D.cells, splice, cutOwn]
      exact Ret.is (by rw [gcountV, if_neg (fun h => c2 h.2)])
end Go.Proofs.Ythchlpikcpidaaa.Vs
