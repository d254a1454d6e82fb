/- numbers of Ythchlpikcpidaaa -/
import Derived.Test.YthchlpikcpidaaaDmMapR
import Derived.Test.YthchlpikcpidaaaGuD1
import Derived.Test.YthchlpikcpidaaaSsH
import Derived.Test.YthchlpikcpidaaaLoopJ
namespace Go.Proofs.Ythchlpikcpidaaa.Vs
set_option linter.unusedVariables false
set_option linter.unusedSimpArgs false
set_option maxRecDepth 100000
/-- The tags in order. -/
structure TagsOf (f : ByteArray → Int) (L : List ByteArray) : Prop where
  so : L.Pairwise fun a b => strLt a b = true
  mem : ∀ t, t ∈ L ↔ (t ≠ noB ∧ f t ≠ 0)
theorem TagsOf.one {f : ByteArray → Int} {L M : List ByteArray} (h : TagsOf f L) (k : TagsOf f M) : L = M := by
  have nd : ∀ {l : List ByteArray}, l.Pairwise (fun a b => strLt a b = true) → l.Nodup := fun h => h.imp fun {a b} h e => by subst e; rw [strLt_irrefl] at h; cases h
  refine sorted_one (T := fun a b => strLt a b = true) (fun a h => by rw [strLt_irrefl] at h; cases h) (fun h1 h2 => strLt_trans h1 h2) ?_ h.so k.so
  rw [List.perm_ext_iff_of_nodup (nd h.so) (nd k.so)]
  exact fun t => by rw [h.mem, k.mem]
/-- What was collected, sorted. -/
theorem tags_sorted {f : ByteArray → Int} {l : List ByteArray} (hn : l.Nodup) (hm : ∀ t, t ∈ l ↔ (t ≠ noB ∧ f t ≠ 0)) : TagsOf f (sortB l) := by
  have hp := sortB_perm l
  have hnd : (sortB l).Nodup := hp.nodup_iff.2 hn
  refine ⟨?_, fun t => by rw [hp.mem_iff, hm]⟩
  refine (List.Pairwise.and (sortB_sorted l) hnd).imp ?_
  rintro a b ⟨h1, h2⟩
  rcases strLt_tri a b with h | h | h
  · exact h
  · exact absurd h h2
  · rw [h] at h1; cases h1
theorem new_ltG {σ : Heap} (h : ∀ r o, σ.get r = some o → r < σ.next) (o : AO) : ∀ r x, (σ.new o).get r = some x → r < (σ.new o).next := fun r x hr => by
  rw [Heap.new_get] at hr
  rw [Heap.next_new]
  split at hr
  · omega
  · have := h r x hr; omega
def nz (p : ByteArray × Int) : Bool := !(p.1 == noB)
theorem Tags_p (q : Nat) (mf : ByteArray × ByteArray → Int) (cf : CF) (hn : Nice cf) (hbig : ∀ L : List ByteArray, L.Nodup → (∀ t ∈ L, cf noB t ≠ 0) → L.length ≤ 100000) (σ0 σ : Heap) (h : PG σ0 mf cf q σ) (hne : cf noB noB ≠ 0) (ht : ∃ t, t ≠ noB ∧ cf noB t ≠ 0) :
    PCall Zs 17 [.ptr q 0] σ (fun d τ => HLe σ τ ∧ ∃ L x js, TagsOf (cf noB) L ∧ L ≠ [] ∧ d = .row x 0 L.length none 1 ∧ σ.get x = none ∧ x < τ.next ∧ τ.get x = some (.cells 9 (cellsT L js))) := by
  have hPG := h
  obtain ⟨r1, r2, M, E, A, hP, hM, hA⟩ := h
  have hE0 : lkp E noB ≠ none := fun he => hne ((hA noB).1 he noB)
  obtain ⟨rm, hrm⟩ : ∃ rm, lkp E noB = some rm := by cases hx : lkp E noB with | none => exact absurd hx hE0 | some rm => exact ⟨rm, rfl⟩
  have hk2 := hP.lk2 noB
  rw [hrm] at hk2
  replace hk2 : lookupD Zs σ.get 54 (.map r2) (.str ⟨#[]⟩) false = some (.map rm) := hk2
  obtain ⟨hC, hAne⟩ := (hA noB).2 hE0
  obtain ⟨e0, e1, _, _, _, es, clk, hg, hm⟩ := hP.hE _ (lkp_mem hrm)
  simp only at e0 e1 hg hm
  have hcn : (cf noB noB == 0) = false := by simpa using hne
  refine pcall_of (Z := Zs) ok17 fun hcl hbl => ?_
  simp -dsimp only [L17, ↓preB, postB, genB, ↓reduceIte, Nat.reduceEqDiff, Int.reduceToNat, Int.reduceLE, Int.reduceLT, Nat.reduceAdd, Nat.reduceLeDiff, intBin, strBin, unD, extractD, lit1, lit2, lit3, keptD, boxR, D.one, D.pub1, D.cells, splice, cutOwn]
  refine PCall.use (none_c q mf cf σ0 σ hPG) ?_
  rintro _ _ ⟨rfl, rfl⟩
  have hrg := range_is (Z := Zs) tz63 rfl hg
  simp -dsimp only [hcn, hP.hq, hk2, hrg, ↓preB, postB, genB, ↓reduceIte, Nat.reduceEqDiff, Int.reduceToNat, Int.reduceLE, Int.reduceLT, Nat.reduceAdd, Nat.reduceLeDiff, intBin, strBin, unD, extractD, lit1, lit2, lit3, keptD, boxR, D.one, D.pub1, D.cells, splice, cutOwn]
  rename_i τ
  have hlt : ∀ r o, τ.get r = some o → r < τ.next := hcl.lt
  have hrmlt : rm < τ.next := e1
  have hne1 : rm ≠ τ.next := by omega
  have hAN : (A noB).length ≤ 100001 := by
    have hnd := hC.1
    have h1 := hbig (((A noB).map Prod.fst).filter fun t => !(t == noB)) (List.Pairwise.filter _ hnd) (fun t ht => by
      obtain ⟨h1, h2⟩ := List.mem_filter.1 ht
      obtain ⟨p, hp, rfl⟩ := List.mem_map.1 h1
      have h3 := hC.2.2 p.1
      rw [mem_lkp hnd (show (p.1, p.2) ∈ A noB from hp)] at h3
      rw [h3]; exact hC.2.1 p hp)
    have h2 : ((A noB).map Prod.fst).length ≤ (((A noB).map Prod.fst).filter fun t => !(t == noB)).length + 1 := by
      generalize (A noB).map Prod.fst = K at hnd
      clear h1
      induction K with
      | nil => simp
      | cons a K ih =>
        rw [List.nodup_cons] at hnd
        cases ha : (a == noB) with
        | false => rw [List.filter_cons, ha]; simp only [Bool.not_false, if_true, List.length_cons]; have := ih hnd.2; omega
        | true =>
          have hb := ba_eq ha
          subst hb
          have : (K.filter fun t => !(t == noB)) = K := List.filter_eq_self.2 fun t ht => by
            cases h : (t == noB) with
            | false => rfl
            | true => exact absurd (ba_eq h ▸ ht) hnd.1
          rw [List.filter_cons, ha, this]
          simp
    rw [List.length_map] at h2
    omega
  refine pwp_loopJ 0 (fun env s => (∃ d, (A noB).length + 1 ≤ s.next + (A noB).length + 1 ∧ ∃ done : List (ByteArray × Int), done.Perm (A noB) ∧ AccR 9 1 τ (done.filter nz).length ((done.filter nz).map fun p => .str p.1) d s ∧ env 3 = d))
    (fun (x : List (ByteArray × Int)) env s => (∃ seen d, IterIs es (A noB) seen x ∧ AccR 9 1 (τ.new (.miter (some rm) clk seen clk)) (x.filter nz).length ((x.filter nz).map fun p => .str p.1) d s ∧ env 3 = d) ∧ env 12 = .ptr τ.next 0) (fun x => (A noB).length - x.length) [] ?_ ?_ ?_
  · simp only [upd_apply, envOf_apply, Nat.reduceEqDiff, if_true, if_false]
    exact ⟨⟨[], _, IterIs.nil _ _, AccR.nil (HLe.refl _), rfl⟩, trivial⟩
  · rintro x env s ⟨⟨seen, d, hI, hAcc, h3⟩, h12⟩
    have hit : s.get τ.next = some (.miter (some rm) clk seen clk) := hAcc.le.get _ _ (Heap.new_same _ _)
    have hgr : s.get rm = some (.map es clk) := hAcc.le.get _ _ (by rw [Heap.new_ne _ _ hne1]; exact hg)
    have hxl := hI.le
    have hfl : (x.filter nz).length ≤ x.length := List.length_filter_le _ _
    simp -dsimp only [h12, ↓preB, postB, genB, ↓reduceIte, Nat.reduceEqDiff, Int.reduceToNat, Int.reduceLE, Int.reduceLT, Nat.reduceAdd, Nat.reduceLeDiff, intBin, strBin, unD, extractD, lit1, lit2, lit3, keptD, boxR, D.one, D.pub1, D.cells, splice, cutOwn]
    refine next_go hit hne1 hgr hm hI (fun hp => ?_) (fun p seen' hp hlen hI' hent => ?_)
    · simp -dsimp only [exitR_exit, exitR_ret, ↓preB, postB, genB, ↓reduceIte, Nat.reduceEqDiff, Int.reduceToNat, Int.reduceLE, Int.reduceLT, Nat.reduceAdd, Nat.reduceLeDiff, intBin, strBin, unD, extractD, lit1, lit2, lit3, keptD, boxR, D.one, D.pub1, D.cells, splice, cutOwn]
      refine ⟨d, by omega, x, hp, ?_, h3⟩
      obtain ⟨a1, a2, a3⟩ := hAcc
      refine ⟨(HLe.self_new _ hcl).trans a1, a2, ?_⟩
      rcases a3 with a3 | ⟨q0, js, b1, b2, b3, b4⟩
      · exact .inl a3
      · refine .inr ⟨q0, js, ?_, b2, b3, b4⟩
        rw [Heap.new_get] at b1
        split at b1
        · cases b1
        · exact b1
    · have hset := hAcc.set (x := .miter (some rm) clk seen' clk) (Heap.new_same τ _)
      have hAcc2 := hset.2
      rw [Heap.new_set] at hAcc2
      clear hset
      generalize s.set τ.next (.miter (some rm) clk seen' clk) = s2 at *
      cases hb : (p.1 == (⟨#[]⟩ : ByteArray))
      · simp -dsimp only [h3, h12, hent, hb, exitR_exit, exitR_ret, Bool.not_false, ↓preB, postB, genB, ↓reduceIte, Nat.reduceEqDiff, Int.reduceToNat, Int.reduceLE, Int.reduceLT, Nat.reduceAdd, Nat.reduceLeDiff, intBin, strBin, unD, extractD, lit1, lit2, lit3, keptD, boxR, D.one, D.pub1, D.cells, splice, cutOwn]
        have hnzp : nz p = true := by unfold nz noB; rw [hb]; rfl
        refine hAcc2.appendAny (m := 1) (ys := [.str p.1]) (new_ltG hlt _) tz23 rfl tz9 rfl rfl rfl (by decide) (fedBy_sl (m := 1) tz23 rfl rfl) (by simp only []; omega) (by simp only [big]; omega) fun d1 s3 hA1 => ?_
        simp -dsimp only [h12, ↓preB, postB, genB, ↓reduceIte, Nat.reduceEqDiff, Int.reduceToNat, Int.reduceLE, Int.reduceLT, Nat.reduceAdd, Nat.reduceLeDiff, intBin, strBin, unD, extractD, lit1, lit2, lit3, keptD, boxR, D.one, D.pub1, D.cells, splice, cutOwn]
        refine ⟨x ++ [p], ⟨seen', d1, hI', ?_, rfl⟩, by simp only [List.length_append, List.length_cons, List.length_nil]; omega⟩
        rw [List.filter_append, List.filter_cons, hnzp]
        simpa using hA1
      · simp -dsimp only [h3, h12, hent, hb, exitR_exit, exitR_ret, Bool.not_true, ↓preB, postB, genB, ↓reduceIte, Nat.reduceEqDiff, Int.reduceToNat, Int.reduceLE, Int.reduceLT, Nat.reduceAdd, Nat.reduceLeDiff, intBin, strBin, unD, extractD, lit1, lit2, lit3, keptD, boxR, D.one, D.pub1, D.cells, splice, cutOwn]
        have hnzp : nz p = false := by unfold nz noB; rw [hb]; rfl
        refine ⟨x ++ [p], ⟨seen', d, hI', ?_, rfl⟩, by simp only [List.length_append, List.length_cons, List.length_nil]; omega⟩
        rw [List.filter_append, List.filter_cons, hnzp]
        simpa using hAcc2
  · rintro env s ⟨d, _, done, hp, hAcc, h3⟩
    have hlen : (done.filter nz).length = ((done.filter nz).map Prod.fst).length := by rw [List.length_map]
    have hmm : (done.filter nz).map (fun p => D.str p.1) = ((done.filter nz).map Prod.fst).map D.str := by rw [List.map_map]; rfl
    rw [hmm, hlen] at hAcc
    have hmem : ∀ t, t ∈ (done.filter nz).map Prod.fst ↔ (t ≠ noB ∧ cf noB t ≠ 0) := fun t => by
      have hv := hC.2.2 t
      constructor
      · intro h
        obtain ⟨p, hp1, rfl⟩ := List.mem_map.1 h
        obtain ⟨h1, h2⟩ := List.mem_filter.1 hp1
        have h3 := hp.mem_iff.1 h1
        have h4 := mem_lkp hC.1 (show (p.1, p.2) ∈ A noB from h3)
        rw [h4] at hv
        refine ⟨fun e => ?_, by rw [hv]; exact hC.2.1 p h3⟩
        unfold nz at h2
        rw [e] at h2
        cases h2
      · rintro ⟨h1, h2⟩
        cases hl : lkp (A noB) t with
        | none => rw [hl] at hv; exact absurd hv h2
        | some v =>
          refine List.mem_map.2 ⟨(t, v), List.mem_filter.2 ⟨hp.mem_iff.2 (lkp_mem hl), ?_⟩, rfl⟩
          unfold nz
          cases hb : (t == noB) with
          | true => exact absurd (ba_eq hb) h1
          | false => rfl
    have hnd : ((done.filter nz).map Prod.fst).Nodup := by
      have h1 : (done.map Prod.fst).Nodup := (hp.map _).nodup_iff.2 hC.1
      exact h1.sublist ((List.filter_sublist).map _)
    have hT := tags_sorted hnd hmem
    have hlb := hbig _ hnd fun t h => ((hmem t).1 h).2
    obtain ⟨t0, ht0⟩ := ht
    have hl0 : (done.filter nz).map Prod.fst ≠ [] := List.ne_nil_of_mem ((hmem t0).2 ht0)
    generalize (done.filter nz).map Prod.fst = L at *
    obtain ⟨x, js, b1, b2, rfl, b4⟩ := hAcc.row (by have := List.length_pos_iff.2 hl0; omega)
    have hs := sort_p L hl0 hlb js x none (n := L.length) rfl (σ := s) b4
    simp -dsimp only [h3, ↓preB, postB, genB, ↓reduceIte, Nat.reduceEqDiff, Int.reduceToNat, Int.reduceLE, Int.reduceLT, Nat.reduceAdd, Nat.reduceLeDiff, intBin, strBin, unD, extractD, lit1, lit2, lit3, keptD, boxR, D.one, D.pub1, D.cells, splice, cutOwn]
    refine PCall.use hs ?_
    rintro _ _ ⟨rfl, rfl⟩
    simp -dsimp only [h3, ↓preB, postB, genB, ↓reduceIte, Nat.reduceEqDiff, Int.reduceToNat, Int.reduceLE, Int.reduceLT, Nat.reduceAdd, Nat.reduceLeDiff, intBin, strBin, unD, extractD, lit1, lit2, lit3, keptD, boxR, D.one, D.pub1, D.cells, splice, cutOwn]
    have hxn : sortB L ≠ [] := fun e => hl0 (by have := (sortB_perm L).length_eq; rw [e] at this; exact List.eq_nil_of_length_eq_zero this.symm)
    refine Ret.now hAcc.le.next ⟨hAcc.le.set _ b1, sortB L, x, js, hT, hxn, by rw [(sortB_perm L).length_eq], b1, b2, Heap.set_same _ _ _⟩
end Go.Proofs.Ythchlpikcpidaaa.Vs
