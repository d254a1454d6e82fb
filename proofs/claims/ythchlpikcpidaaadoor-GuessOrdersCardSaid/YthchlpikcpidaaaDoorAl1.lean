import Derived.Test.YthchlpikcpidaaaDoorAlB
import Derived.Test.YthchlpikcpidaaaDoorBkA
import Derived.Test.YthchlpikcpidaaaDoorDmMapR
import Derived.Test.YthchlpikcpidaaaDoorDmLib2
import Derived.Test.YthchlpikcpidaaaDoorGuD1
import Derived.Test.YthchlpikcpidaaaDoorLoopJ
/- numbers of YthchlpikcpidaaaDoor -/
namespace Go.Proofs.YthchlpikcpidaaaDoor.Vs
open Go.Shelf Go.RowKit Go.Sort
set_option linter.unusedVariables false
set_option linter.unusedSimpArgs false
set_option maxRecDepth 100000
theorem back_c (w : Wd) (hw : goodW w) : Fn Zs 18 [.str (keyB w sp)] (encSS w) := by
  refine fn_of (Z := Zs) ok18 fun σ hcl hbl => ?_
  simp -dsimp only [L18, ↓preB, postB, genB, ↓reduceIte, Nat.reduceEqDiff, Int.reduceToNat, Int.reduceLE, Int.reduceLT, Nat.reduceAdd, Nat.reduceLeDiff, intBin, strBin, unD, extractD, lit1, lit2, lit3, keptD, boxR, D.one, D.pub1, D.cells, splice, cutOwn]
  by_cases h0 : w = []
  · have hk : (keyB w sp == (⟨#[]⟩ : ByteArray)) = true := (keyB_empty hw).2 h0
    simp -dsimp only [hk, ↓preB, postB, genB, ↓reduceIte, Nat.reduceEqDiff, Int.reduceToNat, Int.reduceLE, Int.reduceLT, Nat.reduceAdd, Nat.reduceLeDiff, intBin, strBin, unD, extractD, lit1, lit2, lit3, keptD, boxR, D.one, D.pub1, D.cells, splice, cutOwn]
    subst h0
    exact Ret.less (HLe.refl _) hcl (.sl .nil .no 0 [] [] (.inl rfl) rfl (fun i h => by cases h)) (Bel.no (bel_strs []))
  · have hk : (keyB w sp == (⟨#[]⟩ : ByteArray)) = false := by
      cases h : (keyB w sp == (⟨#[]⟩ : ByteArray)) with
      | false => rfl
      | true => exact absurd ((keyB_empty hw).1 h) h0
    simp -dsimp only [hk, ↓preB, postB, genB, ↓reduceIte, Nat.reduceEqDiff, Int.reduceToNat, Int.reduceLE, Int.reduceLT, Nat.reduceAdd, Nat.reduceLeDiff, intBin, strBin, unD, extractD, lit1, lit2, lit3, keptD, boxR, D.one, D.pub1, D.cells, splice, cutOwn]
    refine Fn.use (Split_c w h0 hw) ?_
    simp -dsimp only [↓preB, postB, genB, ↓reduceIte, Nat.reduceEqDiff, Int.reduceToNat, Int.reduceLE, Int.reduceLT, Nat.reduceAdd, Nat.reduceLeDiff, intBin, strBin, unD, extractD, lit1, lit2, lit3, keptD, boxR, D.one, D.pub1, D.cells, splice, cutOwn]
    exact Ret.is rfl
theorem len0A_c : Fn Zs 32 [.int .u64 0] (.int .i64 0) := by
  obtain ⟨fn, cc, hf, hb, _, _, _, hn, _⟩ := ok32.ok
  refine fn_below (Z := Zs) ⟨fn, hf, by rw [hb]; rfl, hn⟩ fun W s vs hv hW => ?_
  obtain ⟨v0, rfl⟩ : ∃ a, vs = #[a] := by
    obtain ⟨l⟩ := vs
    match l, hv.1 with
    | [a], _ => exact ⟨a, rfl⟩
  have e0 : V W (Lim s) v0 (.int .u64 0) := hv.2 0 (by simp)
  cases e0
  refine ⟨.int .i64 0, fun w' => .int _ _, ?_⟩
  have L := Tryd.sort19
  refine (Go.Proofs.Any.bits_Len (Go.Proofs.SlLaysF0.n15.bits (P := Tryd.prog) (ρ := Tryd.sort19_ren) { L with }) 0 W (by omega) (by omega)).mono ?_
  rintro e w' ⟨rfl, rfl⟩
  exact ⟨by rfl, Below.refl _ _⟩
noncomputable def Tb0 : Tab Zs := tabOf Zs fnL fnL_ok (fun _ _ => none) (fun _ _ _ h => by cases h)
theorem pdqNilA_c : Fn Zs 31 [.sl .nil 0 [], .int .i64 0, .int .i64 0, .int .i64 0, .func 20 []] (.tup []) := run_ok (T := Tb0) (n := 200) (by kernel_rfl) (by kernel_rfl) (by kernel_rfl)
theorem sortNilA_c : Fn Zs 19 [.sl .nil 0 [], .func 20 []] (.tup []) := by
  refine fn_of (Z := Zs) ok19 fun σ hcl hbl => ?_
  simp -dsimp only [L19, ↓preB, postB, genB, ↓reduceIte, Nat.reduceEqDiff, Int.reduceToNat, Int.reduceLE, Int.reduceLT, Nat.reduceAdd, Nat.reduceLeDiff, intBin, strBin, unD, extractD, lit1, lit2, lit3, keptD, boxR, D.one, D.pub1, D.cells, splice, cutOwn]
  intro _
  refine Fn.use len0A_c ?_
  simp -dsimp only [↓preB, postB, genB, ↓reduceIte, Nat.reduceEqDiff, Int.reduceToNat, Int.reduceLE, Int.reduceLT, Nat.reduceAdd, Nat.reduceLeDiff, intBin, strBin, unD, extractD, lit1, lit2, lit3, keptD, boxR, D.one, D.pub1, D.cells, splice, cutOwn]
  refine Fn.use pdqNilA_c ?_
  simp -dsimp only [↓preB, postB, genB, ↓reduceIte, Nat.reduceEqDiff, Int.reduceToNat, Int.reduceLE, Int.reduceLT, Nat.reduceAdd, Nat.reduceLeDiff, intBin, strBin, unD, extractD, lit1, lit2, lit3, keptD, boxR, D.one, D.pub1, D.cells, splice, cutOwn]
  exact Ret.is rfl
/-- The word of a key. -/
noncomputable def wordOf (k : ByteArray) : Wd := by
  classical
  exact if h : ∃ w, goodW w ∧ k = keyB w sp then h.choose else []
theorem wordOf_ok {k : ByteArray} (h : ∃ w, goodW w ∧ k = keyB w sp) : goodW (wordOf k) ∧ k = keyB (wordOf k) sp := by
  unfold wordOf
  rw [dif_pos h]
  exact h.choose_spec
noncomputable def smpOf (p : (ByteArray × ByteArray) × Int) : Smp := ⟨wordOf p.1.1, p.1.2, p.2⟩
theorem bel_cellsS {N : Nat} : ∀ l : List Smp, ∀ d ∈ cellsS l, Bel N d
  | [], d, h => by cases h
  | x :: l, d, h => by
    simp only [cellsS, List.mem_cons] at h
    rcases h with rfl | rfl | rfl | h
    · exact Bel.no (bel_strs _)
    · exact .str _
    · exact .int _ _
    · exact bel_cellsS l d h
end Go.Proofs.YthchlpikcpidaaaDoor.Vs

/- numbers of YthchlpikcpidaaaDoor -/
namespace Go.Proofs.YthchlpikcpidaaaDoor.Vs
open Go.Shelf Go.RowKit Go.Sort
set_option linter.unusedVariables false
set_option linter.unusedSimpArgs false
set_option maxRecDepth 100000
theorem new_ltA {σ : Heap} (h : ∀ r o, σ.get r = some o → r < σ.next) (o : AO) : ∀ r x, (σ.new o).get r = some x → r < (σ.new o).next := fun r x hr => by
  rw [Heap.new_get] at hr
  rw [Heap.next_new]
  split at hr
  · omega
  · have := h r x hr; omega
theorem HLe.new_of {σ : Heap} (h : ∀ r o, σ.get r = some o → r < σ.next) (o : AO) : HLe σ (σ.new o) := (HLe.refl _).new o h
theorem AccR.appendLt {Z : Sys} {t t2 e : TypeId} {it ie : TInfo} {n m : Nat} {σ0 σ : Heap} {cs ys : List D} {d y : D} {K : D → Heap → Prop} {hK : Keep K} {z : Nat} (h : AccR e z σ0 n cs d σ) (hs : ∀ r o, σ.get r = some o → r < σ.next) (hc : ∀ r o, σ0.get r = some o → r < σ0.next) (ht : Z.T t = some it) (hd : it.d = .slice e) (hie : Z.T e = some ie) (hsz : ie.size = z)
    (hz : ie.zero.cells.size = ie.size) (hz1 : ie.zeros.all D.one = true) (hpos : 0 < ie.size) (hf : fedBy Z σ.get t2 ie.size y = some (m, ys)) (hm : m ≠ 0) (hb : (n + m) * ie.bytes ≤ 140737488355328) (hbig : n + m ≤ big)
    (k : ∀ d' σ', AccR e z σ0 (n + m) (cs ++ ys) d' σ' → (∀ r o, σ'.get r = some o → r < σ'.next) → K d' σ') : kR (appendR Z 1 σ.get σ.next #[t, t2] d y) σ K hK := by
  subst hsz
  have hlen := fedBy_len hf
  obtain ⟨hle, hcs, hd'⟩ := h
  have hl2 : (cs ++ ys).length = (n + m) * ie.size := by rw [List.length_append, hcs, hlen, Nat.add_mul]
  have new0 : σ0.get σ.next = none := by
    cases hx : σ0.get σ.next with
    | none => rfl
    | some o => have := hc _ o hx; have := hle.next; omega
  rcases hd' with ⟨rfl, rfl⟩ | ⟨q, js, h1, h1', rfl, h2⟩
  · have hc0 : cs = [] := List.eq_nil_of_length_eq_zero (by simpa using hcs)
    subst hc0
    refine app_row_nil ht hd hie hz hz1 hpos hf hm (by simpa using hb) (by simpa using hbig) ?_
    rw [show m = 0 + m by omega]
    refine k _ _ ⟨hle.new _ hc, hl2, .inr ⟨σ.next, [], new0, by simp [Heap.new], rfl, by simp [Heap.new]⟩⟩ (new_ltA hs _)
  · have hn : n * ie.size ≤ (cs ++ js).length := by rw [List.length_append, hcs]; omega
    refine app_row ht hd hie hz hz1 hpos hf hm h2 hn hb hbig (fun hr => ?_) (fun hr => ?_)
    · refine k _ _ ⟨hle.set _ h1, hl2, .inr ⟨q, js.drop ys.length, h1, h1', rfl, ?_⟩⟩ (fun r o hr => ?_)
      · rw [Heap.set_same]
        congr 2
        have e1 : (cs ++ js).take (n * ie.size) = cs := by rw [← hcs]; simp
        have e2 : (cs ++ js).drop (n * ie.size + ys.length) = js.drop ys.length := by rw [← hcs]; simp
        simp only [splice, e1, e2, List.append_assoc]
      · rw [Heap.next_set]
        by_cases hrq : r = q
        · rw [hrq]; exact h1'
        · rw [Heap.set_ne _ _ hrq] at hr; exact hs r o hr
    · have e1 : (cs ++ js).take (n * ie.size) = cs := by rw [← hcs]; simp
      rw [e1] at *
      refine k _ _ ⟨(hle.set_del h1).new _ hc, hl2, .inr ⟨σ.next, [], new0, by simp [Heap.new, Heap.del], rfl, by simp [Heap.new, Heap.del]⟩⟩ (new_ltA (fun r o hr => ?_) _)
      simp only [Heap.del] at hr ⊢
      split at hr
      · cases hr
      · exact hs r o hr
theorem cellsS_snocA (l : List Smp) (x : Smp) : cellsS (l ++ [x]) = cellsS l ++ [encSS x.word, .str x.tag, .int .i64 x.many] := by rw [cellsS_append]; rfl
theorem bs22A (o : Own) (n nx : Nat) (cs : List D) (t : ByteArray) (k : IntKind) (x : Int) : buildSliceR Zs 0 22 1 [(0, .agg [.sl o n cs, .str t, .int k x])] nx = some (.sl .full 1 [.sl o n cs, .str t, .int k x], .keep) := by rfl
theorem All_p (q : Nat) (mf : ByteArray × ByteArray → Int) (cf : CF) (hgood : ∀ k, mf k ≠ 0 → ∃ w, goodW w ∧ k.1 = keyB w sp) (hbig : ∀ L : List (ByteArray × ByteArray), L.Nodup → (∀ k ∈ L, mf k ≠ 0) → L.length ≤ 100000) (σ0 σ : Heap) (h : PG σ0 mf cf q σ) :
    PCall Zs 9 [.ptr q 0] σ (fun d τ => τ = σ ∧ ∃ S, AllOf mf S ∧ d = encS S) := by
  have hPG := h
  obtain ⟨r1, r2, M, E, A, hP, hM, hA⟩ := h
  obtain ⟨es, clk, hg, hm⟩ := hP.h1
  have hr1 : r1 < σ.next := hP.l1
  have hMN : M.length ≤ 100000 := by
    have := hbig (M.map Prod.fst) hM.1 fun k hk => by
      obtain ⟨p, hp, rfl⟩ := List.mem_map.1 hk
      rw [hM.2.2 p.1, mem_lkp hM.1 (show (p.1, p.2) ∈ M from hp)]
      exact hM.2.1 p hp
    rwa [List.length_map] at this
  have hwd : ∀ p ∈ M, goodW (wordOf p.1.1) ∧ p.1.1 = keyB (wordOf p.1.1) sp ∧ mf p.1 = p.2 ∧ p.2 ≠ 0 := fun p hp => by
    have h1 := hM.2.2 p.1
    rw [mem_lkp hM.1 (show (p.1, p.2) ∈ M from hp)] at h1
    have h2 := hM.2.1 p hp
    have h3 := wordOf_ok (hgood p.1 (by rw [h1]; exact h2))
    exact ⟨h3.1, h3.2, h1, h2⟩
  refine pcall_of (Z := Zs) ok9 fun hcl hbl => ?_
  simp -dsimp only [L9, ↓preB, postB, genB, ↓reduceIte, Nat.reduceEqDiff, Int.reduceToNat, Int.reduceLE, Int.reduceLT, Nat.reduceAdd, Nat.reduceLeDiff, intBin, strBin, unD, extractD, lit1, lit2, lit3, keptD, boxR, D.one, D.pub1, D.cells, splice, cutOwn]
  have hrg := range_is (Z := Zs) tz40 rfl hg
  simp -dsimp only [hP.hq, hrg, ↓preB, postB, genB, ↓reduceIte, Nat.reduceEqDiff, Int.reduceToNat, Int.reduceLE, Int.reduceLT, Nat.reduceAdd, Nat.reduceLeDiff, intBin, strBin, unD, extractD, lit1, lit2, lit3, keptD, boxR, D.one, D.pub1, D.cells, splice, cutOwn]
  have hlt : ∀ r o, σ.get r = some o → r < σ.next := hcl.lt
  have hne1 : r1 ≠ σ.next := by omega
  refine pwp_loopJ 0 (fun env s => ∃ d, M.length + 1 ≤ s.next + M.length + 1 ∧ ∃ done : List ((ByteArray × ByteArray) × Int), done.Perm M ∧ AccR 25 3 σ done.length (cellsS (done.map smpOf)) d s ∧ env 3 = d ∧ (done = [] → d = .sl .nil 0 []))
    (fun (x : List ((ByteArray × ByteArray) × Int)) env s => (∃ seen d, IterIs es M seen x ∧ AccR 25 3 (σ.new (.miter (some r1) clk seen clk)) x.length (cellsS (x.map smpOf)) d s ∧ env 3 = d ∧ (∀ r o, s.get r = some o → r < s.next) ∧ (x = [] → d = .sl .nil 0 [])) ∧ env 12 = .ptr σ.next 0) (fun x => M.length - x.length) [] ?_ ?_ ?_
  · simp only [upd_apply, envOf_apply, Nat.reduceEqDiff, if_true, if_false]
    exact ⟨⟨[], _, IterIs.nil _ _, AccR.nil (HLe.refl _), rfl, new_ltA hlt _, fun _ => rfl⟩, trivial⟩
  · rintro x env s ⟨⟨seen, d, hI, hAcc, h3, hsl, hx0⟩, h12⟩
    have hit : s.get σ.next = some (.miter (some r1) clk seen clk) := hAcc.le.get _ _ (Heap.new_same _ _)
    have hgr : s.get r1 = some (.map es clk) := hAcc.le.get _ _ (by rw [Heap.new_ne _ _ hne1]; exact hg)
    have hxl := hI.le
    simp -dsimp only [h12, ↓preB, postB, genB, ↓reduceIte, Nat.reduceEqDiff, Int.reduceToNat, Int.reduceLE, Int.reduceLT, Nat.reduceAdd, Nat.reduceLeDiff, intBin, strBin, unD, extractD, lit1, lit2, lit3, keptD, boxR, D.one, D.pub1, D.cells, splice, cutOwn]
    refine next_go hit hne1 hgr hm hI (fun hp => ?_) (fun p seen' hp hlen hI' hent => ?_)
    · simp -dsimp only [exitR_exit, exitR_ret, ↓preB, postB, genB, ↓reduceIte, Nat.reduceEqDiff, Int.reduceToNat, Int.reduceLE, Int.reduceLT, Nat.reduceAdd, Nat.reduceLeDiff, intBin, strBin, unD, extractD, lit1, lit2, lit3, keptD, boxR, D.one, D.pub1, D.cells, splice, cutOwn]
      refine ⟨d, by omega, x, hp, ?_, h3, hx0⟩
      obtain ⟨a1, a2, a3⟩ := hAcc
      refine ⟨(HLe.self_new _ hcl).trans a1, a2, ?_⟩
      rcases a3 with a3 | ⟨q0, js, b1, b2, b3, b4⟩
      · exact .inl a3
      · refine .inr ⟨q0, js, ?_, b2, b3, b4⟩
        rw [Heap.new_get] at b1
        split at b1
        · cases b1
        · exact b1
    · have hset := hAcc.set (x := .miter (some r1) clk seen' clk) (Heap.new_same σ _)
      have hAcc2 := hset.2
      rw [Heap.new_set] at hAcc2
      clear hset
      obtain ⟨hw1, hw2, hw3, hw4⟩ := hwd p hp
      have hsl2 : ∀ r o, (s.set σ.next (.miter (some r1) clk seen' clk)).get r = some o → r < (s.set σ.next (.miter (some r1) clk seen' clk)).next := fun r o hr => by
        rw [Heap.next_set]
        by_cases h : r = σ.next
        · rw [h]; exact hsl _ _ hit
        · rw [Heap.set_ne _ _ h] at hr; exact hsl r o hr
      generalize s.set σ.next (.miter (some r1) clk seen' clk) = s2 at *
      have henc : encK p.1 = .agg [.str (keyB (wordOf p.1.1) sp), .str p.1.2] := by rw [← hw2]; rfl
      rw [henc] at hent
      simp -dsimp only [henc, h3, h12, hent, exitR_exit, exitR_ret, ↓preB, postB, genB, ↓reduceIte, Nat.reduceEqDiff, Int.reduceToNat, Int.reduceLE, Int.reduceLT, Nat.reduceAdd, Nat.reduceLeDiff, intBin, strBin, unD, extractD, lit1, lit2, lit3, keptD, boxR, D.one, D.pub1, D.cells, splice, cutOwn]
      refine draw_t 9 (by decide) ?_
      simp -dsimp only [h3, h12, ↓preB, postB, genB, ↓reduceIte, Nat.reduceEqDiff, Int.reduceToNat, Int.reduceLE, Int.reduceLT, Nat.reduceAdd, Nat.reduceLeDiff, intBin, strBin, unD, extractD, lit1, lit2, lit3, keptD, boxR, D.one, D.pub1, D.cells, splice, cutOwn]
      refine Fn.useS (back_c _ hw1) ?_
      simp -dsimp only [h3, h12, encSS, bs22A, ↓preB, postB, genB, ↓reduceIte, Nat.reduceEqDiff, Int.reduceToNat, Int.reduceLE, Int.reduceLT, Nat.reduceAdd, Nat.reduceLeDiff, intBin, strBin, unD, extractD, lit1, lit2, lit3, keptD, boxR, D.one, D.pub1, D.cells, splice, cutOwn]
      refine (hAcc2.mono (HLe.new_of hsl2 _)).appendLt (hK := ⟨⟩) (m := 1) (ys := [encSS (wordOf p.1.1), .str p.1.2, .int .i64 p.2]) (new_ltA hsl2 _) (new_ltA hlt _) tz22 rfl tz25 rfl rfl rfl (by decide) (fedBy_sl (m := 1) tz22 rfl rfl) (by decide) (by simp only []; omega) (by simp only [big]; omega) fun d1 s3 hA1 hsl3 => ?_
      simp -dsimp only [h12, ↓preB, postB, genB, ↓reduceIte, Nat.reduceEqDiff, Int.reduceToNat, Int.reduceLE, Int.reduceLT, Nat.reduceAdd, Nat.reduceLeDiff, intBin, strBin, unD, extractD, lit1, lit2, lit3, keptD, boxR, D.one, D.pub1, D.cells, splice, cutOwn]
      refine ⟨x ++ [p], ⟨seen', d1, hI', ?_, rfl, hsl3, fun h => absurd h (by simp)⟩, by simp only [List.length_append, List.length_cons, List.length_nil]; omega⟩
      rw [List.map_append, List.map_cons, List.map_nil, cellsS_snocA, List.length_append]
      exact hA1
  · rintro env s ⟨d, _, done, hp, hAcc, h3, hd0⟩
    have hdm : ∀ x ∈ done.map smpOf, goodW x.word ∧ mf (keyS x) = x.many ∧ x.many ≠ 0 := fun x hx => by
      obtain ⟨p, hp1, rfl⟩ := List.mem_map.1 hx
      obtain ⟨g1, g2, g3, g4⟩ := hwd p (hp.mem_iff.1 hp1)
      refine ⟨g1, ?_, g4⟩
      show mf (keyB (wordOf p.1.1) sp, p.1.2) = p.2
      rw [← g2]; exact g3
    have hks : ∀ l : List ((ByteArray × ByteArray) × Int), (∀ p ∈ l, p ∈ M) → (l.map smpOf).map keyS = l.map Prod.fst := fun l hl => by
      rw [List.map_map]
      refine List.map_congr_left fun p hpl => ?_
      obtain ⟨g1, g2, _⟩ := hwd p (hl p hpl)
      show (keyB (wordOf p.1.1) sp, p.1.2) = p.1
      rw [← g2]
    have hdn : ((done.map smpOf).map keyS).Nodup := by
      rw [hks done fun p h => hp.mem_iff.1 h]
      exact (hp.map _).nodup_iff.2 hM.1
    have hda : ∀ k, mf k ≠ 0 → ∃ x ∈ done.map smpOf, keyS x = k := fun k hk => by
      have h1 := hM.2.2 k
      cases hl : lkp M k with
      | none => rw [hl] at h1; exact absurd h1 hk
      | some v =>
        have h2 := lkp_mem hl
        obtain ⟨g1, g2, _⟩ := hwd _ h2
        refine ⟨smpOf (k, v), List.mem_map.2 ⟨_, hp.mem_iff.2 h2, rfl⟩, ?_⟩
        show (keyB (wordOf k.1) sp, k.2) = k
        simp only at g2
        rw [← g2]
    have hln : (done.map smpOf).length = done.length := by simp
    have hl100 : done.length ≤ 100000 := by rw [hp.length_eq]; exact hMN
    rw [← hln] at hAcc
    have hd0' : done.map smpOf = [] → d = .sl .nil 0 [] := fun h => hd0 (List.map_eq_nil_iff.1 h)
    generalize done.map smpOf = L at *
    have key : PCall Zs 19 [d, .func 20 []] s (fun r τ' => r = .tup [] ∧ ∃ out : List Smp, AllOf mf out ∧ HLe σ τ' ∧ Told τ' σ d (encS out)) := by
      rcases hAcc.2.2 with ⟨g, g0⟩ | ⟨x, js, b1, b2, b3, b4⟩
      · have ht0 : L = [] := List.eq_nil_of_length_eq_zero g0
        subst ht0
        rw [g]
        refine (sortNilA_c s).mono fun r τ' ⟨h1, h2⟩ => ⟨h1, [], all_sorted (.refl _) (fun i j hj => by cases hj) hdn hdm hda, by rw [h2]; exact hAcc.le, .sl .nil .no 0 [] [] (.inl rfl) rfl (fun i h => by cases h)⟩
      · by_cases ht0 : L = []
        · subst ht0
          rw [hd0' rfl] at b3
          cases b3
        rw [b3]
        refine (sortS_p L ht0 (by omega) (fun r hr => by have := (hdm r hr).1.1; omega) js (c := none) b4).mono fun r τ' ⟨h1, out, h2, h3, h4⟩ => ⟨h1, out, all_sorted h2 h3 hdn hdm hda, ?_, ?_⟩
        · rw [h4]; exact hAcc.le.set _ b1
        · have hro := cellsS_len out
          rw [encS, ← h2.length_eq]
          refine .row x 0 out.length none 3 25 (cellsS out ++ js) (cellsS out) (by rw [h4]; exact Heap.set_same _ _ _) b1 (by rw [List.length_append]; omega) (by omega) fun i h1 h2 => ?_
          simp only [Nat.zero_add]
          rw [List.getElem_append_left h2]
          exact .refl _
    simp -dsimp only [h3, ↓preB, postB, genB, ↓reduceIte, Nat.reduceEqDiff, Int.reduceToNat, Int.reduceLE, Int.reduceLT, Nat.reduceAdd, Nat.reduceLeDiff, intBin, strBin, unD, extractD, lit1, lit2, lit3, keptD, boxR, D.one, D.pub1, D.cells, splice, cutOwn]
    refine PCall.use key ?_
    rintro _ τ' ⟨rfl, S, hS, hle, ht⟩
    simp -dsimp only [h3, ↓preB, postB, genB, ↓reduceIte, Nat.reduceEqDiff, Int.reduceToNat, Int.reduceLE, Int.reduceLT, Nat.reduceAdd, Nat.reduceLeDiff, intBin, strBin, unD, extractD, lit1, lit2, lit3, keptD, boxR, D.one, D.pub1, D.cells, splice, cutOwn]
    exact Ret.told σ (encS S) (Nat.le_refl _) hle hcl ht (Bel.no (bel_cellsS S)) ⟨rfl, S, hS, rfl⟩
end Go.Proofs.YthchlpikcpidaaaDoor.Vs

/- numbers of YthchlpikcpidaaaDoor -/
namespace Go.Proofs.YthchlpikcpidaaaDoor.Vs
set_option linter.unusedVariables false
set_option linter.unusedSimpArgs false
set_option maxRecDepth 100000
theorem PCall.full {Z : Sys} {f : FuncId} {ds : List D} {σ : Heap} {K : D → Heap → Prop} (h : PCall Z f ds σ K) : PCall Z f ds σ (fun d τ => σ.next ≤ τ.next ∧ Closed τ ∧ K d τ) :=
  ⟨h.1, fun w s vs hs hv hW => (h.2 w s vs hs hv hW).mono fun e w' ⟨v, d, s', h1, h2, h3, h4, h5⟩ => ⟨v, d, s', h1, h2, h3, h4, hs ▸ h4.next, h3.closed, h5⟩⟩
theorem bt48 (a b : ByteArray) : aBuilt Zs 48 [(0, .str a), (1, .str b)] = some [.str a, .str b] := by rfl
theorem Add_p (x : Smp) (B : Nat) (mf : ByteArray × ByteArray → Int) (cf : CF) (q : Nat) (hmf : ∀ k, -1000 ≤ mf k ∧ mf k ≤ 1000) (hcf : ∀ e t, -1000 ≤ cf e t ∧ cf e t ≤ 1000)
    (hB : ∀ L : List (ByteArray × ByteArray), L.Nodup → (∀ k ∈ L, mf k ≠ 0) → L.length ≤ B) (σ0 σ : Heap) (hc0 : ∀ r o, σ0.get r = some o → r < σ0.next) (h : PG σ0 mf cf q σ) :
    PCall Zs 7 [.ptr q 0, aggS x] σ (fun d τ => ∃ e, d = .int .i64 e ∧ ((e ≠ 0 ∧ PG σ0 mf cf q τ ∧ (badS [x] ≠ 0 ∨ 1000 < cf noB noB + x.many ∨ 200 ≤ B)) ∨
      (e = 0 ∧ badS [x] = 0 ∧ fineS x ∧ x.many ≤ 1000 ∧ cf noB noB + x.many ≤ 1000 ∧ PG σ0 (addAt mf (keyB x.word sp, x.tag) x.many) (putF cf x.word x.tag x.many (min x.word.length 4 + 1)) q τ))) := by
  refine pcall_of (Z := Zs) ok7 fun hcl hbl => ?_
  simp -dsimp only [L7, aggS, ↓preB, postB, genB, ↓reduceIte, Nat.reduceEqDiff, Int.reduceToNat, Int.reduceLE, Int.reduceLT, Nat.reduceAdd, Nat.reduceLeDiff, intBin, strBin, unD, extractD, lit1, lit2, lit3, keptD, boxR, D.one, D.pub1, D.cells, splice, cutOwn]
  have hbx : (σ.new (.cells 25 [encSS x.word, .str x.tag, .int .i64 x.many])).get σ.next = some (.cells 25 [encSS x.word, .str x.tag, .int .i64 x.many]) := Heap.new_same _ _
  have hPG1 : PG σ0 mf cf q (σ.new (.cells 25 [encSS x.word, .str x.tag, .int .i64 x.many])) := h.more (HLe.new_of hcl.lt _)
  simp -dsimp only [encSS, bs22A, ↓preB, postB, genB, ↓reduceIte, Nat.reduceEqDiff, Int.reduceToNat, Int.reduceLE, Int.reduceLT, Nat.reduceAdd, Nat.reduceLeDiff, intBin, strBin, unD, extractD, lit1, lit2, lit3, keptD, boxR, D.one, D.pub1, D.cells, splice, cutOwn]
  refine Fn.useP (checked_c [x]) rfl ?_
  by_cases c1 : badS [x] = 0
  case neg =>
    have c1' : (badS [x] != 0) = true := by simpa using c1
    simp -dsimp only [c1', ↓preB, postB, genB, ↓reduceIte, Nat.reduceEqDiff, Int.reduceToNat, Int.reduceLE, Int.reduceLT, Nat.reduceAdd, Nat.reduceLeDiff, intBin, strBin, unD, extractD, lit1, lit2, lit3, keptD, boxR, D.one, D.pub1, D.cells, splice, cutOwn]
    exact Ret.now (by rw [Heap.next_new]; omega) ⟨_, rfl, .inl ⟨c1, hPG1, .inl c1⟩⟩
  have c1' : (badS [x] != 0) = false := by simpa using c1
  obtain ⟨hfx, htx⟩ := badS_ok c1
  have hfx := hfx x (by simp)
  have hxm : x.many ≤ 1000 := by rw [tot, cnt_one, one_all] at htx; exact htx
  simp -dsimp only [c1', ↓preB, postB, genB, ↓reduceIte, Nat.reduceEqDiff, Int.reduceToNat, Int.reduceLE, Int.reduceLT, Nat.reduceAdd, Nat.reduceLeDiff, intBin, strBin, unD, extractD, lit1, lit2, lit3, keptD, boxR, D.one, D.pub1, D.cells, splice, cutOwn]
  obtain ⟨r1, r2, M, E, A, hP, hM, hA⟩ := hPG1
  have hPG2 : PG σ0 mf cf q (σ.new (.cells 25 [encSS x.word, .str x.tag, .int .i64 x.many])) := ⟨r1, r2, M, E, A, hP, hM, hA⟩
  have hk := hP.lk1 (keyB x.word sp, x.tag)
  rw [← hM.2.2] at hk
  simp only [encSS] at hk hbx hP hPG2
  refine draw_s ?_
  simp -dsimp only [hP.hq, hbx, encSS, ↓preB, postB, genB, ↓reduceIte, Nat.reduceEqDiff, Int.reduceToNat, Int.reduceLE, Int.reduceLT, Nat.reduceAdd, Nat.reduceLeDiff, intBin, strBin, unD, extractD, lit1, lit2, lit3, keptD, boxR, D.one, D.pub1, D.cells, splice, cutOwn]
  refine ⟨_, all_c q mf cf σ0 _ hPG2, ?_⟩
  have hcb := hcf noB noB
  have hx1 := hfx.2.2
  have hwr : IntKind.i64.wrap (cf noB noB + x.many) = cf noB noB + x.many := wrap64_in (by omega) (by omega)
  by_cases c2 : 1000 < cf noB noB + x.many
  · simp -dsimp only [hP.hq, hbx, hwr, c2, encSS, ↓preB, postB, genB, ↓reduceIte, Nat.reduceEqDiff, Int.reduceToNat, Int.reduceLE, Int.reduceLT, Nat.reduceAdd, Nat.reduceLeDiff, intBin, strBin, unD, extractD, lit1, lit2, lit3, keptD, boxR, D.one, D.pub1, D.cells, splice, cutOwn]
    exact Ret.now (by rw [Heap.next_new]; omega) ⟨_, rfl, .inl ⟨by decide, hPG2, .inr (.inl trivial)⟩⟩
  simp -dsimp only [hP.hq, hbx, hwr, c2, encSS, ↓preB, postB, genB, ↓reduceIte, Nat.reduceEqDiff, Int.reduceToNat, Int.reduceLE, Int.reduceLT, Nat.reduceAdd, Nat.reduceLeDiff, intBin, strBin, unD, extractD, lit1, lit2, lit3, keptD, boxR, D.one, D.pub1, D.cells, splice, cutOwn]
  refine Fn.useS (gkey_c x.word (badW_good hfx.1)) ?_
  obtain ⟨es, clk, hg, hm⟩ := hP.h1
  have hput := (put_c x x.many mf cf q (badW_good hfx.1) ⟨by omega, hxm⟩ hmf hcf σ0 _ hc0 hPG2).full
  by_cases c3 : (mf (keyB x.word sp, x.tag) == 0) = true
  · by_cases c4 : (200 : Int) ≤ M.length
    · simp -dsimp only [hP.hq, hbx, hwr, c2, hk, bt48, c3, hg, hm.len, c4, encSS, ↓preB, postB, genB, ↓reduceIte, Nat.reduceEqDiff, Int.reduceToNat, Int.reduceLE, Int.reduceLT, Nat.reduceAdd, Nat.reduceLeDiff, intBin, strBin, unD, extractD, lit1, lit2, lit3, keptD, boxR, D.one, D.pub1, D.cells, splice, cutOwn]
      refine Ret.now (by rw [Heap.next_new]; omega) ⟨_, rfl, .inl ⟨by decide, hPG2, .inr (.inr ?_)⟩⟩
      have := hB (M.map Prod.fst) hM.1 fun k hk => by
        obtain ⟨p, hp, rfl⟩ := List.mem_map.1 hk
        rw [hM.2.2 p.1, mem_lkp hM.1 (show (p.1, p.2) ∈ M from hp)]
        exact hM.2.1 p hp
      rw [List.length_map] at this
      omega
    · simp -dsimp only [hP.hq, hbx, hwr, c2, hk, bt48, c3, hg, hm.len, c4, encSS, ↓preB, postB, genB, ↓reduceIte, Nat.reduceEqDiff, Int.reduceToNat, Int.reduceLE, Int.reduceLT, Nat.reduceAdd, Nat.reduceLeDiff, intBin, strBin, unD, extractD, lit1, lit2, lit3, keptD, boxR, D.one, D.pub1, D.cells, splice, cutOwn]
      refine PCall.use hput ?_
      rintro d τ ⟨hn, hct, hτ⟩
      simp -dsimp only [↓preB, postB, genB, ↓reduceIte, Nat.reduceEqDiff, Int.reduceToNat, Int.reduceLE, Int.reduceLT, Nat.reduceAdd, Nat.reduceLeDiff, intBin, strBin, unD, extractD, lit1, lit2, lit3, keptD, boxR, D.one, D.pub1, D.cells, splice, cutOwn]
      exact Ret.now (by rw [Heap.next_new] at hn; omega) ⟨_, rfl, .inr ⟨rfl, c1, hfx, hxm, by omega, hτ⟩⟩
  · rw [Bool.not_eq_true] at c3
    simp -dsimp only [hP.hq, hbx, hwr, c2, hk, bt48, c3, encSS, ↓preB, postB, genB, ↓reduceIte, Nat.reduceEqDiff, Int.reduceToNat, Int.reduceLE, Int.reduceLT, Nat.reduceAdd, Nat.reduceLeDiff, intBin, strBin, unD, extractD, lit1, lit2, lit3, keptD, boxR, D.one, D.pub1, D.cells, splice, cutOwn]
    refine PCall.use hput ?_
    rintro d τ ⟨hn, hct, hτ⟩
    simp -dsimp only [↓preB, postB, genB, ↓reduceIte, Nat.reduceEqDiff, Int.reduceToNat, Int.reduceLE, Int.reduceLT, Nat.reduceAdd, Nat.reduceLeDiff, intBin, strBin, unD, extractD, lit1, lit2, lit3, keptD, boxR, D.one, D.pub1, D.cells, splice, cutOwn]
    exact Ret.now (by rw [Heap.next_new] at hn; omega) ⟨_, rfl, .inr ⟨rfl, c1, hfx, hxm, by omega, hτ⟩⟩
theorem Drop_p (x : Smp) (mf : ByteArray × ByteArray → Int) (cf : CF) (q : Nat) (hmf : ∀ k, -1000 ≤ mf k ∧ mf k ≤ 1000) (hcf : ∀ e t, -1000 ≤ cf e t ∧ cf e t ≤ 1000)
    (σ0 σ : Heap) (hc0 : ∀ r o, σ0.get r = some o → r < σ0.next) (h : PG σ0 mf cf q σ) :
    PCall Zs 10 [.ptr q 0, aggS x] σ (fun d τ => ∃ e, d = .int .i64 e ∧ ((e ≠ 0 ∧ PG σ0 mf cf q τ ∧ (badS [x] ≠ 0 ∨ mf (keyB x.word sp, x.tag) < x.many)) ∨
      (e = 0 ∧ fineS x ∧ x.many ≤ mf (keyB x.word sp, x.tag) ∧ PG σ0 (addAt mf (keyB x.word sp, x.tag) (-x.many)) (putF cf x.word x.tag (-x.many) (min x.word.length 4 + 1)) q τ))) := by
  refine pcall_of (Z := Zs) ok10 fun hcl hbl => ?_
  simp -dsimp only [L10, aggS, ↓preB, postB, genB, ↓reduceIte, Nat.reduceEqDiff, Int.reduceToNat, Int.reduceLE, Int.reduceLT, Nat.reduceAdd, Nat.reduceLeDiff, intBin, strBin, unD, extractD, lit1, lit2, lit3, keptD, boxR, D.one, D.pub1, D.cells, splice, cutOwn]
  have hbx : (σ.new (.cells 25 [encSS x.word, .str x.tag, .int .i64 x.many])).get σ.next = some (.cells 25 [encSS x.word, .str x.tag, .int .i64 x.many]) := Heap.new_same _ _
  have hPG1 : PG σ0 mf cf q (σ.new (.cells 25 [encSS x.word, .str x.tag, .int .i64 x.many])) := h.more (HLe.new_of hcl.lt _)
  simp -dsimp only [encSS, bs22A, ↓preB, postB, genB, ↓reduceIte, Nat.reduceEqDiff, Int.reduceToNat, Int.reduceLE, Int.reduceLT, Nat.reduceAdd, Nat.reduceLeDiff, intBin, strBin, unD, extractD, lit1, lit2, lit3, keptD, boxR, D.one, D.pub1, D.cells, splice, cutOwn]
  refine Fn.useP (checked_c [x]) rfl ?_
  by_cases c1 : badS [x] = 0
  case neg =>
    have c1' : (badS [x] != 0) = true := by simpa using c1
    simp -dsimp only [c1', ↓preB, postB, genB, ↓reduceIte, Nat.reduceEqDiff, Int.reduceToNat, Int.reduceLE, Int.reduceLT, Nat.reduceAdd, Nat.reduceLeDiff, intBin, strBin, unD, extractD, lit1, lit2, lit3, keptD, boxR, D.one, D.pub1, D.cells, splice, cutOwn]
    exact Ret.now (by rw [Heap.next_new]; omega) ⟨_, rfl, .inl ⟨c1, hPG1, .inl c1⟩⟩
  have c1' : (badS [x] != 0) = false := by simpa using c1
  obtain ⟨hfx, htx⟩ := badS_ok c1
  have hfx := hfx x (by simp)
  have hxm : x.many ≤ 1000 := by rw [tot, cnt_one, one_all] at htx; exact htx
  have hx1 := hfx.2.2
  simp -dsimp only [c1', ↓preB, postB, genB, ↓reduceIte, Nat.reduceEqDiff, Int.reduceToNat, Int.reduceLE, Int.reduceLT, Nat.reduceAdd, Nat.reduceLeDiff, intBin, strBin, unD, extractD, lit1, lit2, lit3, keptD, boxR, D.one, D.pub1, D.cells, splice, cutOwn]
  obtain ⟨r1, r2, M, E, A, hP, hM, hA⟩ := hPG1
  have hPG2 : PG σ0 mf cf q (σ.new (.cells 25 [encSS x.word, .str x.tag, .int .i64 x.many])) := ⟨r1, r2, M, E, A, hP, hM, hA⟩
  have hk := hP.lk1 (keyB x.word sp, x.tag)
  rw [← hM.2.2] at hk
  simp only [encSS] at hk hbx hP hPG2
  refine draw_s ?_
  simp -dsimp only [hP.hq, hbx, encSS, ↓preB, postB, genB, ↓reduceIte, Nat.reduceEqDiff, Int.reduceToNat, Int.reduceLE, Int.reduceLT, Nat.reduceAdd, Nat.reduceLeDiff, intBin, strBin, unD, extractD, lit1, lit2, lit3, keptD, boxR, D.one, D.pub1, D.cells, splice, cutOwn]
  refine Fn.useS (gkey_c x.word (badW_good hfx.1)) ?_
  have hput := (put_c x (-x.many) mf cf q (badW_good hfx.1) ⟨by omega, by omega⟩ hmf hcf σ0 _ hc0 hPG2).full
  have hwr : IntKind.i64.wrap (0 - x.many) = -x.many := by rw [Int.zero_sub]; exact wrap64_in (by omega) (by omega)
  by_cases c3 : mf (keyB x.word sp, x.tag) < x.many
  · simp -dsimp only [hP.hq, hbx, hk, bt48, c3, encSS, ↓preB, postB, genB, ↓reduceIte, Nat.reduceEqDiff, Int.reduceToNat, Int.reduceLE, Int.reduceLT, Nat.reduceAdd, Nat.reduceLeDiff, intBin, strBin, unD, extractD, lit1, lit2, lit3, keptD, boxR, D.one, D.pub1, D.cells, splice, cutOwn]
    exact Ret.now (by rw [Heap.next_new]; omega) ⟨_, rfl, .inl ⟨by decide, hPG2, .inr trivial⟩⟩
  · simp -dsimp only [hP.hq, hbx, hk, bt48, c3, hwr, encSS, ↓preB, postB, genB, ↓reduceIte, Nat.reduceEqDiff, Int.reduceToNat, Int.reduceLE, Int.reduceLT, Nat.reduceAdd, Nat.reduceLeDiff, intBin, strBin, unD, extractD, lit1, lit2, lit3, keptD, boxR, D.one, D.pub1, D.cells, splice, cutOwn]
    refine PCall.use hput ?_
    rintro d τ ⟨hn, hct, hτ⟩
    simp -dsimp only [↓preB, postB, genB, ↓reduceIte, Nat.reduceEqDiff, Int.reduceToNat, Int.reduceLE, Int.reduceLT, Nat.reduceAdd, Nat.reduceLeDiff, intBin, strBin, unD, extractD, lit1, lit2, lit3, keptD, boxR, D.one, D.pub1, D.cells, splice, cutOwn]
    exact Ret.now (by rw [Heap.next_new] at hn; omega) ⟨_, rfl, .inr ⟨rfl, hfx, by omega, hτ⟩⟩
end Go.Proofs.YthchlpikcpidaaaDoor.Vs
