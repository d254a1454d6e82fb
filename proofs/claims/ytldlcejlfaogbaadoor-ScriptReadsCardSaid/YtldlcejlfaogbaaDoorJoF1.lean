/- numbers of YtldlcejlfaogbaaDoor -/
/- What waits of a word, and what is fed; two words one behind the other. -/
import Derived.Test.YtldlcejlfaogbaaDoorJoinA
import Derived.Test.YtldlcejlfaogbaaDoorDmLib2
import Derived.Test.YtldlcejlfaogbaaDoorDmMap
namespace Go.Proofs.YtldlcejlfaogbaaDoor.Vs
set_option linter.unusedVariables false
set_option linter.unusedSimpArgs false
set_option maxRecDepth 20000

theorem waitsR_p (w : Wd) (r : Sh) {σ : Heap} {q : Nat} (hq : σ.get q = some (.cells 29 [encSS w])) : PCall Zs 102 [encR r, .ptr q 0] σ (fun d τ => d = .bool (waitsR w r) ∧ τ = σ) := by
  refine pcall_of (Z := Zs) ok102 fun hcl hbl => ?_
  simp -dsimp only [L102, encR, encSS, ↓preB, postB, genB, ↓reduceIte, Nat.reduceEqDiff, Int.reduceToNat, Int.reduceLE, Int.reduceLT, Nat.reduceAdd, Nat.reduceLeDiff, intBin, strBin, unD, extractD, lit1, lit2, lit3, keptD, boxR, D.one, D.pub1, D.cells, splice, cutOwn]
  intro hb
  have hne : q ≠ σ.next := Nat.ne_of_lt (hcl.lt q _ hq)
  have hq' : ∀ o, (σ.new o).get q = some (.cells 29 [encSS w]) := fun o => by
    rw [Heap.new_ne (h := hne)]; exact hq
  have hle := HLe.self_new (σ := σ) (.cells 46 [encSS r.From, encSS r.To]) hcl
  simp -dsimp only [hq', List.getElem?_cons_zero, encSS, ↓preB, postB, genB, ↓reduceIte, Nat.reduceEqDiff, Int.reduceToNat, Int.reduceLE, Int.reduceLT, Nat.reduceAdd, Nat.reduceLeDiff, intBin, strBin, unD, extractD, lit1, lit2, lit3, keptD, boxR, D.one, D.pub1, D.cells, splice, cutOwn]
  intro hb3
  by_cases hc : w.length < r.From.length
  · have h0 : decide (w.length < r.From.length) = true := decide_eq_true hc
    simp -dsimp only [hq', h0, hc, gate, beq_self_eq_true, List.getElem?_cons_zero, encSS, ↓preB, postB, genB, ↓reduceIte, Nat.reduceEqDiff, Int.reduceToNat, Int.reduceLE, Int.reduceLT, Nat.reduceAdd, Nat.reduceLeDiff, intBin, strBin, unD, extractD, lit1, lit2, lit3, keptD, boxR, D.one, D.pub1, D.cells, splice, cutOwn]
    refine Fn.use (begins_c r.From w) ?_
    simp -dsimp only [↓preB, postB, genB, ↓reduceIte, Nat.reduceEqDiff, Int.reduceToNat, Int.reduceLE, Int.reduceLT, Nat.reduceAdd, Nat.reduceLeDiff, intBin, strBin, unD, extractD, lit1, lit2, lit3, keptD, boxR, D.one, D.pub1, D.cells, splice, cutOwn]
    exact Ret.isH hle hcl (by rw [if_pos hc, waitsR, h0, Bool.true_and]) (.bool _)
  · have h0 : decide (w.length < r.From.length) = false := decide_eq_false hc
    simp -dsimp only [hq', h0, hc, gate, show (false == true) = false from rfl, List.getElem?_cons_zero, encSS, ↓preB, postB, genB, ↓reduceIte, Nat.reduceEqDiff, Int.reduceToNat, Int.reduceLE, Int.reduceLT, Nat.reduceAdd, Nat.reduceLeDiff, intBin, strBin, unD, extractD, lit1, lit2, lit3, keptD, boxR, D.one, D.pub1, D.cells, splice, cutOwn]
    exact Ret.isH hle hcl (by rw [waitsR, h0, Bool.false_and]) (.bool _)
theorem waits_c (t : List Sh) (w : Wd) : Fn Zs 79 [encT t, encSS w] (.bool (waitsW t w)) := by
  refine fn_of (Z := Zs) ok79 fun σ hcl hbl => ?_
  simp -dsimp only [L79, encSS, ↓preB, postB, genB, ↓reduceIte, Nat.reduceEqDiff, Int.reduceToNat, Int.reduceLE, Int.reduceLT, Nat.reduceAdd, Nat.reduceLeDiff, intBin, strBin, unD, extractD, lit1, lit2, lit3, keptD, boxR, D.one, D.pub1, D.cells, splice, cutOwn]
  have hget : (σ.new (.cells 29 [encSS w])).get σ.next = some (.cells 29 [encSS w]) := Heap.new_same _ _
  refine PCall.use (containsSh_p t (waitsR w) 102 [.ptr σ.next 0] (fun r hr => waitsR_p w r hget)) ?_
  rintro d τ ⟨rfl, rfl⟩
  simp -dsimp only [↓preB, postB, genB, ↓reduceIte, Nat.reduceEqDiff, Int.reduceToNat, Int.reduceLE, Int.reduceLT, Nat.reduceAdd, Nat.reduceLeDiff, intBin, strBin, unD, extractD, lit1, lit2, lit3, keptD, boxR, D.one, D.pub1, D.cells, splice, cutOwn]
  exact Ret.isH (HLe.self_new _ hcl) hcl rfl (.bool _)
theorem Grow_p (k : Nat) (hk : k ≤ 100000) {σ : Heap} : PCall Zs 80 [.sl .nil 0 [], .int .i64 k] σ (fun d τ => (k = 0 ∧ d = .sl .nil 0 [] ∧ τ = σ) ∨ (k ≠ 0 ∧ d = .row σ.next 0 0 none 1 ∧ τ = σ.new (.cells 9 (List.replicate k (.str ⟨#[]⟩))))) := by
  refine pcall_of (Z := Zs) ok80 fun hcl hbl => ?_
  simp -dsimp only [L80, ↓preB, postB, genB, ↓reduceIte, Nat.reduceEqDiff, Int.reduceToNat, Int.reduceLE, Int.reduceLT, Nat.reduceAdd, Nat.reduceLeDiff, intBin, strBin, unD, extractD, lit1, lit2, lit3, keptD, boxR, D.one, D.pub1, D.cells, splice, cutOwn]
  have h1 : ¬ ((k : Int) < 0) := by omega
  have h2 : IntKind.i64.wrap ((k : Int) - IntKind.i64.wrap (0 - ((0 : Nat) : Int))) = (k : Int) := by
    rw [show IntKind.i64.wrap (0 - ((0 : Nat) : Int)) = 0 by decide, Int.sub_zero]
    exact wrap64_in (by omega) (by omega)
  simp -dsimp only [h1, h2, if_false, ↓preB, postB, genB, ↓reduceIte, Nat.reduceEqDiff, Int.reduceToNat, Int.reduceLE, Int.reduceLT, Nat.reduceAdd, Nat.reduceLeDiff, intBin, strBin, unD, extractD, lit1, lit2, lit3, keptD, boxR, D.one, D.pub1, D.cells, splice, cutOwn]
  intro _
  by_cases h0 : k = 0
  · subst h0
    simp -dsimp only [Int.natCast_zero, Int.lt_irrefl, if_false, ↓preB, postB, genB, ↓reduceIte, Nat.reduceEqDiff, Int.reduceToNat, Int.reduceLE, Int.reduceLT, Nat.reduceAdd, Nat.reduceLeDiff, intBin, strBin, unD, extractD, lit1, lit2, lit3, keptD, boxR, D.one, D.pub1, D.cells, splice, cutOwn]
    exact Ret.now (Nat.le_refl _) (.inl ⟨rfl, rfl⟩)
  · have h3 : (0 : Int) < k := by omega
    simp -dsimp only [h3, h2, if_true, ↓preB, postB, genB, ↓reduceIte, Nat.reduceEqDiff, Int.reduceToNat, Int.reduceLE, Int.reduceLT, Nat.reduceAdd, Nat.reduceLeDiff, intBin, strBin, unD, extractD, lit1, lit2, lit3, keptD, boxR, D.one, D.pub1, D.cells, splice, cutOwn]
    refine ⟨by decide, ?_⟩
    have ha : appendZ Zs σ.next #[29, 3] (D.sl Own.nil (0 - 0) (List.take (0 - 0) [])) (D.int IntKind.i64 ↑k) = some (.row σ.next 0 k none 1, .new (.cells 9 (List.replicate k (.str ⟨#[]⟩)))) := by
      show appendZ Zs σ.next #[29, 3] (D.sl Own.nil 0 []) (D.int IntKind.i64 ↑k) = _
      unfold appendZ
      simp only [tz29, tz3, tz9]
      rw [if_pos ⟨by decide, by decide, by decide, by omega, by simp only [Int.toNat_natCast]; omega, by simp only [Int.toNat_natCast, big]; omega⟩]
      simp only [Int.toNat_natCast]
      rw [litZero_one (z0 := .str ⟨#[]⟩) rfl, Nat.mul_one]
    rw [ha]
    have hs : sliceD Zs (σ.new (.cells 9 (List.replicate k (.str ⟨#[]⟩)))).get 29 (.row σ.next 0 k none 1) none (some (.int .i64 ((0 : Nat) : Int))) none = some (.row σ.next 0 0 none 1) := by
      unfold sliceD
      simp only [tz29, tz9, bound, Option.map_some]
      simp
    simp -dsimp only [kR, hs, ↓preB, postB, genB, ↓reduceIte, Nat.reduceEqDiff, Int.reduceToNat, Int.reduceLE, Int.reduceLT, Nat.reduceAdd, Nat.reduceLeDiff, intBin, strBin, unD, extractD, lit1, lit2, lit3, keptD, boxR, D.one, D.pub1, D.cells, splice, cutOwn]
    intro _
    exact Ret.now (Nat.le_succ _) (.inr ⟨h0, rfl, rfl⟩)
theorem fed_p (t : List Sh) (w : Wd) (h1 : ∀ r ∈ t, r.From ≠ []) (h2 : ∀ r ∈ t, r.To.length ≤ 60) (h3 : w.length ≤ 1000) {σ : Heap} : PCall Zs 54 [encT t, encSS w] σ (fun d τ => (∃ c, d = .tup [encSS (fedW t w).1, encSS (fedW t w).2, .bool c]) ∧ τ = σ) := by
  refine pcall_of (Z := Zs) ok54 fun hcl hbl => ?_
  simp -dsimp only [L54, encT, ↓preB, postB, genB, ↓reduceIte, Nat.reduceEqDiff, Int.reduceToNat, Int.reduceLE, Int.reduceLT, Nat.reduceAdd, Nat.reduceLeDiff, intBin, strBin, unD, extractD, lit1, lit2, lit3, keptD, boxR, D.one, D.pub1, D.cells, splice, cutOwn]
  refine pwp_loopG (fun (x : Wd × Wd × Bool) env s => (x.2.1.length + 60 * x.1.length ≤ 60 * w.length ∧ x.2.1 ++ (fedW t x.1).1 = (fedW t w).1 ∧ (fedW t x.1).2 = (fedW t w).2) ∧ Acc 9 1 σ x.2.1.length (x.2.1.map .str) (env 4) s ∧ env 6 = .bool x.2.2 ∧ env 1 = encSS x.1 ∧ env 0 = encT t) (fun x => x.1.length) (w, [], true) ?_ ?_
  · simp only [upd_apply, envOf_apply, encT, Nat.reduceEqDiff, if_true, if_false]
    exact ⟨⟨by simp, by simp, trivial⟩, Acc.nil (HLe.refl _), trivial, rfl, rfl⟩
  · rintro ⟨rest, out, cl⟩ env s ⟨⟨hsz, hp1, hp2⟩, hA, h6, h1', h0⟩
    simp only at hsz hp1 hp2 hA h6 h1'
    have fin : rest.length = 0 ∨ waitsW t rest = true → Ret σ (fun d τ => (∃ c, d = .tup [encSS (fedW t w).1, encSS (fedW t w).2, .bool c]) ∧ τ = σ) (.tup [env 4, encSS rest, .bool cl]) s := fun hc => by
      rw [fedW_stop hc] at hp1 hp2
      rw [List.append_nil] at hp1
      simp only at hp2
      rw [← hp1, ← hp2]
      exact Ret.told σ (.tup [encSS out, encSS rest, .bool cl]) (Nat.le_refl _) hA.le hcl (.tup3 hA.told (.refl _) (.refl _)) (.tup3 (.no (bel_strs _)) (.no (bel_strs _)) (.bool _)) ⟨⟨cl, rfl⟩, rfl⟩
    by_cases hr : rest.length = 0
    · have hneg : decide ((0 : Int) < rest.length) = false := decide_eq_false (by omega)
      have hneg' : ¬ ((0 : Int) < rest.length) := by omega
      simp -dsimp only [h6, h1', h0, hneg, hneg', encSS, encT, gate, show (false == true) = false from rfl, ↓preB, postB, genB, ↓reduceIte, Nat.reduceEqDiff, Int.reduceToNat, Int.reduceLE, Int.reduceLT, Nat.reduceAdd, Nat.reduceLeDiff, intBin, strBin, unD, extractD, lit1, lit2, lit3, keptD, boxR, D.one, D.pub1, D.cells, splice, cutOwn]
      intros
      exact fin (.inl hr)
    · have hpos : decide ((0 : Int) < rest.length) = true := decide_eq_true (by omega)
      have hpos' : (0 : Int) < rest.length := by omega
      simp -dsimp only [h6, h1', h0, hpos, hpos', encSS, encT, gate, beq_self_eq_true, ↓preB, postB, genB, ↓reduceIte, Nat.reduceEqDiff, Int.reduceToNat, Int.reduceLE, Int.reduceLT, Nat.reduceAdd, Nat.reduceLeDiff, intBin, strBin, unD, extractD, lit1, lit2, lit3, keptD, boxR, D.one, D.pub1, D.cells, splice, cutOwn]
      intro hbig
      refine Fn.use (waits_c t rest) ?_
      by_cases hw : waitsW t rest = true
      · simp -dsimp only [h6, h1', h0, hpos, hpos', hw, encSS, encT, gate, beq_self_eq_true, ↓preB, postB, genB, ↓reduceIte, Nat.reduceEqDiff, Int.reduceToNat, Int.reduceLE, Int.reduceLT, Nat.reduceAdd, Nat.reduceLeDiff, intBin, strBin, unD, extractD, lit1, lit2, lit3, keptD, boxR, D.one, D.pub1, D.cells, splice, cutOwn]
        exact fin (.inr hw)
      · have hr' : rest ≠ [] := fun e => hr (by rw [e]; rfl)
        have hw' : waitsW t rest = false := by simpa using hw
        obtain ⟨hs1, hs2⟩ := stepN_pos h1 hr'
        have hst := stepTo_le (t := t) (w := rest) h2
        rw [fedW_go h1 (by rintro (h | h); exact hr h; exact hw h)] at hp1 hp2
        simp only at hp1 hp2
        simp -dsimp only [h6, h1', h0, hpos, hpos', hw', encSS, encT, gate, beq_self_eq_true, ↓preB, postB, genB, ↓reduceIte, Nat.reduceEqDiff, Int.reduceToNat, Int.reduceLE, Int.reduceLT, Nat.reduceAdd, Nat.reduceLeDiff, intBin, strBin, unD, extractD, lit1, lit2, lit3, keptD, boxR, D.one, D.pub1, D.cells, splice, cutOwn]
        refine Fn.use (step_c t rest hr') ?_
        simp -dsimp only [h6, h1', h0, hpos, hpos', hw', encSS, encT, gate, beq_self_eq_true, ↓preB, postB, genB, ↓reduceIte, Nat.reduceEqDiff, Int.reduceToNat, Int.reduceLE, Int.reduceLT, Nat.reduceAdd, Nat.reduceLeDiff, intBin, strBin, unD, extractD, lit1, lit2, lit3, keptD, boxR, D.one, D.pub1, D.cells, splice, cutOwn]
        refine hA.append hcl tz29 rfl tz9 rfl rfl rfl (by decide) (by simp) (fedBy_sl tz29 rfl (by simp)) (by simp only []; omega) (by simp only [big]; omega) fun d' s' hA' => ?_
        have hfin : ∃ y : Wd × Wd × Bool, (((y.2.1.length + 60 * y.1.length ≤ 60 * w.length ∧ y.2.1 ++ (fedW t y.1).1 = (fedW t w).1 ∧ (fedW t y.1).2 = (fedW t w).2)) ∧
            Acc 9 1 σ y.2.1.length (y.2.1.map .str) d' s' ∧ D.bool (cl && decide (0 ≤ optI (fitW t rest))) = .bool y.2.2 ∧ D.sl .no (rest.length - stepN t rest) (((rest.map D.str).drop (stepN t rest)).take (rest.length - stepN t rest)) = encSS y.1 ∧ encT t = encT t) ∧ y.1.length < rest.length := by
          refine ⟨(rest.drop (stepN t rest), out ++ stepTo t rest, cl && decide (0 ≤ optI (fitW t rest))), ⟨⟨?_, ?_, ?_⟩, ?_, rfl, ?_, rfl⟩, ?_⟩
          · simp only [List.length_append, List.length_drop]; omega
          · rw [← hp1, List.append_assoc]
          · exact hp2
          · simpa using hA'
          · exact encSS_drop rest _ hs2
          · simp only [List.length_drop]; omega
        cases cl
        · simp -dsimp only [h6, h1', h0, hpos', encSS, encT, ↓preB, postB, genB, ↓reduceIte, Nat.reduceEqDiff, Int.reduceToNat, Int.reduceLE, Int.reduceLT, Nat.reduceAdd, Nat.reduceLeDiff, intBin, strBin, unD, extractD, lit1, lit2, lit3, keptD, boxR, D.one, D.pub1, D.cells, splice, cutOwn]
          refine ⟨⟨by omega, by omega⟩, ?_⟩
          obtain ⟨y, ⟨hq, hA2, hb2, he, _⟩, hlt⟩ := hfin
          exact ⟨y, ⟨hq, hA2, by simpa using hb2, he⟩, hlt⟩
        · simp -dsimp only [h6, h1', h0, hpos', encSS, encT, ↓preB, postB, genB, ↓reduceIte, Nat.reduceEqDiff, Int.reduceToNat, Int.reduceLE, Int.reduceLT, Nat.reduceAdd, Nat.reduceLeDiff, intBin, strBin, unD, extractD, lit1, lit2, lit3, keptD, boxR, D.one, D.pub1, D.cells, splice, cutOwn]
          refine ⟨⟨by omega, by omega⟩, ?_⟩
          obtain ⟨y, ⟨hq, hA2, hb2, he, _⟩, hlt⟩ := hfin
          exact ⟨y, ⟨hq, hA2, by simpa using hb2, he⟩, hlt⟩
/-- Of a row of a given room, what is filled and that nothing else is changed. -/
def Room (σ0 : Heap) (k n : Nat) (cs : List D) (d : D) (σ : Heap) : Prop :=
  HLe σ0 σ ∧ cs.length = n ∧ n ≤ k ∧ ((k = 0 ∧ d = .sl .nil 0 []) ∨ (k ≠ 0 ∧ ∃ q js, σ0.next ≤ q ∧ q < σ.next ∧ d = .row q 0 n none 1 ∧ σ.get q = some (.cells 9 (cs ++ js)) ∧ n + js.length = k))
theorem Room.append {σ0 σ : Heap} {k n : Nat} {w : Wd} {cs : List D} {d : D} (h : Room σ0 k n cs d σ) (hc : Closed σ0) (hk : n + w.length ≤ k) (hk2 : k ≤ 100000) {K : D → Heap → Prop} {hK : Keep K} (kk : ∀ d' σ', Room σ0 k (n + w.length) (cs ++ w.map .str) d' σ' → K d' σ') :
    kR (appendR Zs 0 σ.get σ.next #[29, 29] d (encSS w)) σ K hK := by
  obtain ⟨hle, hl, hn, hd⟩ := h
  have hf : fedBy Zs σ.get 29 1 (encSS w) = some (w.length, w.map .str) := fedBy_sl tz29 rfl (by simp)
  rcases hd with ⟨h0, rfl⟩ | ⟨h0, q, js, hq0, hq, rfl, hg, hj⟩
  · have hw : w = [] := List.eq_nil_of_length_eq_zero (by omega)
    have hn0 : n = 0 := by omega
    subst hw; subst hn0
    have hcs : cs = [] := List.eq_nil_of_length_eq_zero hl
    subst hcs
    have : appendR Zs 0 σ.get σ.next #[29, 29] (.sl .nil 0 []) (encSS []) = some (.sl .nil 0 [], .keep) := by
      unfold appendR
      simp only [tz29, tz9, hf]
      rfl
    rw [this]
    exact kk _ _ ⟨hle, rfl, hn, .inl ⟨h0, rfl⟩⟩
  · by_cases hw : w.length = 0
    · have hw : w = [] := List.eq_nil_of_length_eq_zero hw
      subst hw
      have : appendR Zs 0 σ.get σ.next #[29, 29] (.row q 0 n none 1) (encSS []) = some (.row q 0 n none 1, .keep) := by
        unfold appendR
        simp only [tz29, tz9, hf, hg]
        rw [if_pos ⟨by decide, by decide, by decide⟩, if_pos ⟨trivial, trivial, by simp only [List.length_append]; omega, by simp only [List.length_nil]; omega, by simp only [List.length_nil, big]; omega⟩, if_pos (by rfl)]
      rw [this]
      exact kk _ _ ⟨hle, by simpa using hl, hn, .inr ⟨h0, q, js, hq0, hq, rfl, by rw [List.map_nil, List.append_nil]; exact hg, hj⟩⟩
    · refine app_row (m := w.length) tz29 rfl tz9 rfl rfl (by decide) hf hw hg (by simp only [List.length_append]; omega) (by simp only []; omega) (by simp only [big]; omega) (fun _ => ?_) (fun h => absurd (by simp only [List.length_append]; omega) h)
      have hsp : splice (cs ++ js) (n * 1) (w.map D.str) = cs ++ w.map .str ++ js.drop w.length := by
        simp only [splice, Nat.mul_one]
        rw [← hl, List.take_left, List.length_map, List.drop_append, List.drop_of_length_le (by omega), List.nil_append]
        congr 2
        omega
      refine kk _ _ ⟨hle.set_out _ hc hq0, by simp [hl], hk, .inr ⟨h0, q, js.drop w.length, hq0, hq, rfl, ?_, by simp; omega⟩⟩
      rw [Heap.set_same]
      rw [← hsp]
theorem Room.told {σ0 σ : Heap} {k n : Nat} {cs : List D} {d : D} (h : Room σ0 k n cs d σ) (hc : Closed σ0) : Told σ σ0 d (.sl .no n cs) := by
  obtain ⟨hle, hl, hn, hd⟩ := h
  rcases hd with ⟨h0, rfl⟩ | ⟨h0, q, js, hq0, hq, rfl, hg, hj⟩
  · have hn0 : n = 0 := by omega
    subst hn0
    have hcs : cs = [] := List.eq_nil_of_length_eq_zero hl
    subst hcs
    exact .sl .nil .no 0 [] [] (.inl rfl) rfl (fun i h => by cases h)
  · refine .row q 0 n none 1 9 (cs ++ js) cs hg (hc.none hq0) (by simp only [List.length_append]; omega) (by omega) fun i h1 h2 => ?_
    simp only [Nat.zero_add]
    rw [List.getElem_append_left h2]
    exact .refl _
theorem take_fl {l : List Wd} {k : Nat} (h : k < l.length) : (l.take (k + 1)).flatten = (l.take k).flatten ++ l[k] := by
  rw [List.take_succ_eq_append_getElem h, List.flatten_append]
  simp
theorem fl_le (l : List Wd) (k : Nat) : (l.take k).flatten.length ≤ l.flatten.length := by
  have : l.flatten = (l.take k).flatten ++ (l.drop k).flatten := by rw [← List.flatten_append, List.take_append_drop]
  rw [this, List.length_append]
  omega
theorem Concat_c (l : List Wd) (hl : l.flatten.length ≤ 100000) : Fn Zs 55 [encLL l] (encSS l.flatten) := by
  refine fn_of (Z := Zs) ok55 fun σ hcl hbl => ?_
  simp -dsimp only [L55, encLL, ↓preB, postB, genB, ↓reduceIte, Nat.reduceEqDiff, Int.reduceToNat, Int.reduceLE, Int.reduceLT, Nat.reduceAdd, Nat.reduceLeDiff, intBin, strBin, unD, extractD, lit1, lit2, lit3, keptD, boxR, D.one, D.pub1, D.cells, splice, cutOwn]
  intro hbig
  refine pwp_loopG (fun k env s => k ≤ l.length ∧ env 3 = .int .i64 ((l.take k).flatten.length : Nat) ∧ s = σ ∧ env 11 = .int .i64 (k:Nat) ∧ env 10 = .int .i64 l.length ∧ env 9 = encLL l ∧ env 0 = encLL l ∧ env 2 = .sl .nil 0 []) (fun k => l.length - k) 0 ?_ ?_
  · simp [upd_apply, envOf_apply, encLL]
  · rintro k env s ⟨hk, h3, rfl, h11, h10, h9, h0, h2⟩
    rcases Nat.lt_or_ge k l.length with hlt | hge
    · have hx : l[k]? = some l[k] := List.getElem?_eq_getElem hlt
      have hlp : 0 < l.length := by omega
      have h4 := take_fl hlt
      have h5 := fl_le l (k + 1)
      have h6 := fl_le l k
      rw [h4, List.length_append] at h5
      have h7 : IntKind.i64.wrap (((l.take k).flatten.length : Nat) + (l[k].length : Int)) = ((l.take (k + 1)).flatten.length : Nat) := by
        rw [h4, List.length_append, wrap64_in (by omega) (by omega)]
        omega
      have h8 : ¬ (((l.take (k + 1)).flatten.length : Int) < 0) := by omega
      simp -dsimp only [h3, h11, h10, h9, h0, h2, encLL, encSS, hlt, hx, hlp, h7, h8, ↓preB, postB, genB, ↓reduceIte, Nat.reduceEqDiff, Int.reduceToNat, Int.reduceLE, Int.reduceLT, Nat.reduceAdd, Nat.reduceLeDiff, intBin, strBin, unD, extractD, lit1, lit2, lit3, keptD, boxR, D.one, D.pub1, D.cells, splice, cutOwn]
      intros
      exact ⟨k + 1, ⟨by omega, rfl, wrap64_succ (by omega)⟩, by omega⟩
    · have hkl : k = l.length := by omega
      subst hkl
      rw [List.take_length] at h3
      simp -dsimp only [h3, h11, h10, h9, h0, h2, encLL, Nat.lt_irrefl, ↓preB, postB, genB, ↓reduceIte, Nat.reduceEqDiff, Int.reduceToNat, Int.reduceLE, Int.reduceLT, Nat.reduceAdd, Nat.reduceLeDiff, intBin, strBin, unD, extractD, lit1, lit2, lit3, keptD, boxR, D.one, D.pub1, D.cells, splice, cutOwn]
      refine PCall.use (Grow_p l.flatten.length hl) fun d τ hd => ?_
      have hR : Room s l.flatten.length 0 [] d τ := by
        rcases hd with ⟨e0, rfl, rfl⟩ | ⟨e0, rfl, rfl⟩
        · exact ⟨HLe.refl _, rfl, Nat.zero_le _, .inl ⟨e0, rfl⟩⟩
        · exact ⟨HLe.self_new _ hcl, rfl, Nat.zero_le _, .inr ⟨e0, _, List.replicate l.flatten.length (.str ⟨#[]⟩), Nat.le_refl _, Nat.lt_succ_self _, rfl, Heap.new_same _ _, by simp⟩⟩
      simp -dsimp only [h3, h11, h10, h9, h0, h2, encLL, ↓preB, postB, genB, ↓reduceIte, Nat.reduceEqDiff, Int.reduceToNat, Int.reduceLE, Int.reduceLT, Nat.reduceAdd, Nat.reduceLeDiff, intBin, strBin, unD, extractD, lit1, lit2, lit3, keptD, boxR, D.one, D.pub1, D.cells, splice, cutOwn]
      intro _
      refine pwp_loopG (fun k env τ => k ≤ l.length ∧ Room s l.flatten.length (l.take k).flatten.length ((l.take k).flatten.map .str) (env 6) τ ∧ env 27 = .int .i64 (k:Nat) ∧ env 26 = .int .i64 l.length ∧ env 25 = encLL l ∧ env 2 = .sl .nil 0 []) (fun k => l.length - k) 0 ?_ ?_
      · simp only [upd_apply, encLL, h2, Nat.reduceEqDiff, if_true, if_false]
        exact ⟨Nat.zero_le _, hR, rfl, trivial, trivial, trivial⟩
      · rintro k env τ ⟨hk, hR, h27, h26, h25, h2⟩
        rcases Nat.lt_or_ge k l.length with hlt | hge
        · have hx : l[k]? = some l[k] := List.getElem?_eq_getElem hlt
          have hlp : 0 < l.length := by omega
          have h4 := take_fl hlt
          have h5 := fl_le l (k + 1)
          rw [h4, List.length_append] at h5
          simp -dsimp only [h27, h26, h25, h2, encLL, hlt, hx, hlp, ↓preB, postB, genB, ↓reduceIte, Nat.reduceEqDiff, Int.reduceToNat, Int.reduceLE, Int.reduceLT, Nat.reduceAdd, Nat.reduceLeDiff, intBin, strBin, unD, extractD, lit1, lit2, lit3, keptD, boxR, D.one, D.pub1, D.cells, splice, cutOwn]
          refine hR.append hcl (w := l[k]) (by omega) hl fun d' τ' hR' => ?_
          simp -dsimp only [h27, h26, h25, h2, encLL, hlt, hx, hlp, ↓preB, postB, genB, ↓reduceIte, Nat.reduceEqDiff, Int.reduceToNat, Int.reduceLE, Int.reduceLT, Nat.reduceAdd, Nat.reduceLeDiff, intBin, strBin, unD, extractD, lit1, lit2, lit3, keptD, boxR, D.one, D.pub1, D.cells, splice, cutOwn]
          exact ⟨k + 1, ⟨by omega, by rw [h4, List.length_append, List.map_append]; exact hR', wrap64_succ (by omega)⟩, by omega⟩
        · have hkl : k = l.length := by omega
          subst hkl
          rw [List.take_length] at hR
          simp -dsimp only [h27, h26, h25, h2, encLL, Nat.lt_irrefl, ↓preB, postB, genB, ↓reduceIte, Nat.reduceEqDiff, Int.reduceToNat, Int.reduceLE, Int.reduceLT, Nat.reduceAdd, Nat.reduceLeDiff, intBin, strBin, unD, extractD, lit1, lit2, lit3, keptD, boxR, D.one, D.pub1, D.cells, splice, cutOwn]
          exact Ret.less hR.1 hcl (hR.told hcl) (.no (bel_strs _))
end Go.Proofs.YtldlcejlfaogbaaDoor.Vs
