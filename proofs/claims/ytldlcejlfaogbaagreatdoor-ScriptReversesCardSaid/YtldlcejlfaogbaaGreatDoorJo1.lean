import Derived.Test.YtldlcejlfaogbaaGreatDoorJoinA
import Derived.Test.YtldlcejlfaogbaaGreatDoorDmLib2
import Derived.Test.YtldlcejlfaogbaaGreatDoorDmMap
import Derived.Shelf.Strings.Split
import Derived.Test.YtldlcejlfaogbaaGreatDoorNewS
/- numbers of YtldlcejlfaogbaaDoor -/
namespace Go.Proofs.YtldlcejlfaogbaaGreatDoor.Vs
set_option linter.unusedVariables false
set_option linter.unusedSimpArgs false
set_option maxRecDepth 20000
theorem waitsR_p (w : Wd) (r : Sh) {σ : Heap} {q : Nat} (hq : σ.get q = some (.cells 23 [encSS w])) : PCall Zs 146 [encR r, .ptr q 0] σ (fun d τ => d = .bool (waitsR w r) ∧ τ = σ) := by
  refine pcall_of (Z := Zs) ok146 fun hcl hbl => ?_
  simp -dsimp only [L146, encR, encSS, ↓preB, postB, genB, ↓reduceIte, Nat.reduceEqDiff, Int.reduceToNat, Int.reduceLE, Int.reduceLT, Nat.reduceAdd, Nat.reduceLeDiff, intBin, strBin, unD, extractD, lit1, lit2, lit3, keptD, boxR, D.one, D.pub1, D.cells, splice, cutOwn]
  intro hb
  have hne : q ≠ σ.next := Nat.ne_of_lt (hcl.lt q _ hq)
  have hq' : ∀ o, (σ.new o).get q = some (.cells 23 [encSS w]) := fun o => by
    rw [Heap.new_ne (h := hne)]; exact hq
  have hle := HLe.self_new (σ := σ) (.cells 67 [encSS r.From, encSS r.To]) hcl
  simp -dsimp only [hq', List.getElem?_cons_zero, encSS, ↓preB, postB, genB, ↓reduceIte, Nat.reduceEqDiff, Int.reduceToNat, Int.reduceLE, Int.reduceLT, Nat.reduceAdd, Nat.reduceLeDiff, intBin, strBin, unD, extractD, lit1, lit2, lit3, keptD, boxR, D.one, D.pub1, D.cells, splice, cutOwn]
  intro hb3
  by_cases hc : w.length < r.From.length
  · have h0 : decide (w.length < r.From.length) = true := decide_eq_true hc
    simp -dsimp only [hq', h0, hc, gate, beq_self_eq_true, List.getElem?_cons_zero, encSS, ↓preB, postB, genB, ↓reduceIte, Nat.reduceEqDiff, Int.reduceToNat, Int.reduceLE, Int.reduceLT, Nat.reduceAdd, Nat.reduceLeDiff, intBin, strBin, unD, extractD, lit1, lit2, lit3, keptD, boxR, D.one, D.pub1, D.cells, splice, cutOwn]
    refine Fn.use (begins_c r.From w) ?_
    simp -dsimp only [↓preB, postB, genB, ↓reduceIte, Nat.reduceEqDiff, Int.reduceToNat, Int.reduceLE, Int.reduceLT, Nat.reduceAdd, Nat.reduceLeDiff, intBin, strBin, unD, extractD, lit1, lit2, lit3, keptD, boxR, D.one, D.pub1, D.cells, splice, cutOwn]
    exact Ret.isH hle hcl (by rw [if_pos hc, waitsR, h0, Bool.true_and]) (.bool _)
  · have h0 : decide (w.length < r.From.length) = false := decide_eq_false hc
    simp -dsimp only [hq', h0, hc, gate, show (false == true) = false from rfl, List.getElem?_cons_zero, encSS, ↓preB, postB, genB, ↓reduceIte, Nat.reduceEqDiff, Int.reduceToNat, Int.reduceLE, Int.reduceLT, Nat.reduceAdd, Nat.reduceLeDiff, intBin, strBin, unD, extractD, lit1, lit2, lit3, keptD, boxR, D.one, D.pub1, D.cells, splice, cutOwn]
    exact Ret.isH hle hcl (by rw [waitsR, h0, Bool.false_and]) (.bool _)
theorem waits_c (t : List Sh) (w : Wd) : Fn Zs 98 [encT t, encSS w] (.bool (waitsW t w)) := by
  refine fn_of (Z := Zs) ok98 fun σ hcl hbl => ?_
  simp -dsimp only [L98, encSS, ↓preB, postB, genB, ↓reduceIte, Nat.reduceEqDiff, Int.reduceToNat, Int.reduceLE, Int.reduceLT, Nat.reduceAdd, Nat.reduceLeDiff, intBin, strBin, unD, extractD, lit1, lit2, lit3, keptD, boxR, D.one, D.pub1, D.cells, splice, cutOwn]
  have hget : (σ.new (.cells 23 [encSS w])).get σ.next = some (.cells 23 [encSS w]) := Heap.new_same _ _
  refine PCall.use (containsSh_p t (waitsR w) 146 [.ptr σ.next 0] (fun r hr => waitsR_p w r hget)) ?_
  rintro d τ ⟨rfl, rfl⟩
  simp -dsimp only [↓preB, postB, genB, ↓reduceIte, Nat.reduceEqDiff, Int.reduceToNat, Int.reduceLE, Int.reduceLT, Nat.reduceAdd, Nat.reduceLeDiff, intBin, strBin, unD, extractD, lit1, lit2, lit3, keptD, boxR, D.one, D.pub1, D.cells, splice, cutOwn]
  exact Ret.isH (HLe.self_new _ hcl) hcl rfl (.bool _)
theorem Grow_p (k : Nat) (hk : k ≤ 100000) {σ : Heap} : PCall Zs 161 [.sl .nil 0 [], .int .i64 k] σ (fun d τ => (k = 0 ∧ d = .sl .nil 0 [] ∧ τ = σ) ∨ (k ≠ 0 ∧ d = .row σ.next 0 0 none 1 ∧ τ = σ.new (.cells 9 (List.replicate k (.str ⟨#[]⟩))))) := by
  refine pcall_of (Z := Zs) ok161 fun hcl hbl => ?_
  simp -dsimp only [L161, ↓preB, postB, genB, ↓reduceIte, Nat.reduceEqDiff, Int.reduceToNat, Int.reduceLE, Int.reduceLT, Nat.reduceAdd, Nat.reduceLeDiff, intBin, strBin, unD, extractD, lit1, lit2, lit3, keptD, boxR, D.one, D.pub1, D.cells, splice, cutOwn]
  have h1 : ¬ ((k : Int) < 0) := by omega
  have h2 : IntKind.i64.wrap ((k : Int) - IntKind.i64.wrap (0 - ((0 : Nat) : Int))) = (k : Int) := by
    rw [show IntKind.i64.wrap (0 - ((0 : Nat) : Int)) = 0 by decide, Int.sub_zero]
    exact wrap64_in (by omega) (by omega)
  simp -dsimp only [h1, h2, if_false, ↓preB, postB, genB, ↓reduceIte, Nat.reduceEqDiff, Int.reduceToNat, Int.reduceLE, Int.reduceLT, Nat.reduceAdd, Nat.reduceLeDiff, intBin, strBin, unD, extractD, lit1, lit2, lit3, keptD, boxR, D.one, D.pub1, D.cells, splice, cutOwn]
  intro _
  by_cases h0 : k = 0
  · subst h0
    simp -dsimp only [Int.natCast_zero, Int.lt_irrefl, if_false, ↓preB, postB, genB, ↓reduceIte, Nat.reduceEqDiff, Int.reduceToNat, Int.reduceLE, Int.reduceLT, Nat.reduceAdd, Nat.reduceLeDiff, intBin, strBin, unD, extractD, lit1, lit2, lit3, keptD, boxR, D.one, D.pub1, D.cells, splice, cutOwn]
    exact Ret.now (Nat.le_refl _) (.inl ⟨rfl, rfl⟩)
  · have h3 : (0 : Int) < k := by omega
    simp -dsimp only [h3, h2, if_true, ↓preB, postB, genB, ↓reduceIte, Nat.reduceEqDiff, Int.reduceToNat, Int.reduceLE, Int.reduceLT, Nat.reduceAdd, Nat.reduceLeDiff, intBin, strBin, unD, extractD, lit1, lit2, lit3, keptD, boxR, D.one, D.pub1, D.cells, splice, cutOwn]
    refine ⟨by decide, ?_⟩
    have ha : appendZ Zs σ.next #[23, 3] (D.sl Own.nil (0 - 0) (List.take (0 - 0) [])) (D.int IntKind.i64 ↑k) = some (.row σ.next 0 k none 1, .new (.cells 9 (List.replicate k (.str ⟨#[]⟩)))) := by
      show appendZ Zs σ.next #[23, 3] (D.sl Own.nil 0 []) (D.int IntKind.i64 ↑k) = _
      unfold appendZ
      simp only [tz23, tz3, tz9]
      rw [if_pos ⟨by decide, by decide, by decide, by omega, by simp only [Int.toNat_natCast]; omega, by simp only [Int.toNat_natCast, big]; omega⟩]
      simp only [Int.toNat_natCast]
      rw [litZero_one (z0 := .str ⟨#[]⟩) rfl, Nat.mul_one]
    rw [ha]
    have hs : sliceD Zs (σ.new (.cells 9 (List.replicate k (.str ⟨#[]⟩)))).get 23 (.row σ.next 0 k none 1) none (some (.int .i64 ((0 : Nat) : Int))) none = some (.row σ.next 0 0 none 1) := by
      unfold sliceD
      simp only [tz23, tz9, bound, Option.map_some]
      simp
    simp -dsimp only [kR, hs, ↓preB, postB, genB, ↓reduceIte, Nat.reduceEqDiff, Int.reduceToNat, Int.reduceLE, Int.reduceLT, Nat.reduceAdd, Nat.reduceLeDiff, intBin, strBin, unD, extractD, lit1, lit2, lit3, keptD, boxR, D.one, D.pub1, D.cells, splice, cutOwn]
    intro _
    exact Ret.now (Nat.le_succ _) (.inr ⟨h0, rfl, rfl⟩)
theorem fed_p (t : List Sh) (w : Wd) (h1 : ∀ r ∈ t, r.From ≠ []) (h2 : ∀ r ∈ t, r.To.length ≤ 60) (h3 : w.length ≤ 1000) {σ : Heap} : PCall Zs 44 [encT t, encSS w] σ (fun d τ => (∃ c, d = .tup [encSS (fedW t w).1, encSS (fedW t w).2, .bool c]) ∧ τ = σ) := by
  refine pcall_of (Z := Zs) ok44 fun hcl hbl => ?_
  simp -dsimp only [L44, encT, ↓preB, postB, genB, ↓reduceIte, Nat.reduceEqDiff, Int.reduceToNat, Int.reduceLE, Int.reduceLT, Nat.reduceAdd, Nat.reduceLeDiff, intBin, strBin, unD, extractD, lit1, lit2, lit3, keptD, boxR, D.one, D.pub1, D.cells, splice, cutOwn]
  refine pwp_loopG (fun (x : Wd × Wd × Bool) env s => (x.2.1.length + 60 * x.1.length ≤ 60 * w.length ∧ x.2.1 ++ (fedW t x.1).1 = (fedW t w).1 ∧ (fedW t x.1).2 = (fedW t w).2) ∧ Acc 9 1 σ x.2.1.length (x.2.1.map .str) (env 4) s ∧ env 6 = .bool x.2.2 ∧ env 1 = encSS x.1 ∧ env 0 = encT t) (fun x => x.1.length) (w, [], true) ?_ ?_
  · simp only [upd_apply, envOf_apply, encT, Nat.reduceEqDiff, if_true, if_false]
    exact ⟨⟨by simp, by simp, trivial⟩, Acc.nil (HLe.refl _), trivial, rfl, rfl⟩
  · rintro ⟨rest, out, cl⟩ env s ⟨⟨hsz, hp1, hp2⟩, hA, h6, h1', h0⟩
    simp only at hsz hp1 hp2 hA h6 h1'
    have fin : rest.length = 0 ∨ waitsW t rest = true → Ret σ (fun d τ => (∃ c, d = .tup [encSS (fedW t w).1, encSS (fedW t w).2, .bool c]) ∧ τ = σ) (.tup [env 4, encSS rest, .bool cl]) s := fun hc => by
      rw [fedW_stop hc] at hp1 hp2
      rw [List.append_nil] at hp1
      simp only at hp2
      rw [← hp1, ← hp2]
      exact Ret.told σ (.tup [encSS out, encSS rest, .bool cl]) (Nat.le_refl _) hA.le hcl (.tup3 hA.told (.refl _) (.refl _)) (.tup3 (.no (bel_strs _)) (.no (bel_strs _)) (.bool _)) ⟨⟨cl, rfl⟩, rfl⟩
    by_cases hr : rest.length = 0
    · have hneg : decide ((0 : Int) < rest.length) = false := decide_eq_false (by omega)
      have hneg' : ¬ ((0 : Int) < rest.length) := by omega
      simp -dsimp only [h6, h1', h0, hneg, hneg', encSS, encT, gate, show (false == true) = false from rfl, ↓preB, postB, genB, ↓reduceIte, Nat.reduceEqDiff, Int.reduceToNat, Int.reduceLE, Int.reduceLT, Nat.reduceAdd, Nat.reduceLeDiff, intBin, strBin, unD, extractD, lit1, lit2, lit3, keptD, boxR, D.one, D.pub1, D.cells, splice, cutOwn]
      intros
      exact fin (.inl hr)
    · have hpos : decide ((0 : Int) < rest.length) = true := decide_eq_true (by omega)
      have hpos' : (0 : Int) < rest.length := by omega
      simp -dsimp only [h6, h1', h0, hpos, hpos', encSS, encT, gate, beq_self_eq_true, ↓preB, postB, genB, ↓reduceIte, Nat.reduceEqDiff, Int.reduceToNat, Int.reduceLE, Int.reduceLT, Nat.reduceAdd, Nat.reduceLeDiff, intBin, strBin, unD, extractD, lit1, lit2, lit3, keptD, boxR, D.one, D.pub1, D.cells, splice, cutOwn]
      intro hbig
      refine Fn.use (waits_c t rest) ?_
      by_cases hw : waitsW t rest = true
      · simp -dsimp only [h6, h1', h0, hpos, hpos', hw, encSS, encT, gate, beq_self_eq_true, ↓preB, postB, genB, ↓reduceIte, Nat.reduceEqDiff, Int.reduceToNat, Int.reduceLE, Int.reduceLT, Nat.reduceAdd, Nat.reduceLeDiff, intBin, strBin, unD, extractD, lit1, lit2, lit3, keptD, boxR, D.one, D.pub1, D.cells, splice, cutOwn]
        exact fin (.inr hw)
      · have hr' : rest ≠ [] := fun e => hr (by rw [e]; rfl)
        have hw' : waitsW t rest = false := by simpa using hw
        obtain ⟨hs1, hs2⟩ := stepN_pos h1 hr'
        have hst := stepTo_le (t := t) (w := rest) h2
        rw [fedW_go h1 (by rintro (h | h); exact hr h; exact hw h)] at hp1 hp2
        simp only at hp1 hp2
        simp -dsimp only [h6, h1', h0, hpos, hpos', hw', encSS, encT, gate, beq_self_eq_true, ↓preB, postB, genB, ↓reduceIte, Nat.reduceEqDiff, Int.reduceToNat, Int.reduceLE, Int.reduceLT, Nat.reduceAdd, Nat.reduceLeDiff, intBin, strBin, unD, extractD, lit1, lit2, lit3, keptD, boxR, D.one, D.pub1, D.cells, splice, cutOwn]
        refine Fn.use (step_c t rest hr') ?_
        simp -dsimp only [h6, h1', h0, hpos, hpos', hw', encSS, encT, gate, beq_self_eq_true, ↓preB, postB, genB, ↓reduceIte, Nat.reduceEqDiff, Int.reduceToNat, Int.reduceLE, Int.reduceLT, Nat.reduceAdd, Nat.reduceLeDiff, intBin, strBin, unD, extractD, lit1, lit2, lit3, keptD, boxR, D.one, D.pub1, D.cells, splice, cutOwn]
        refine hA.append hcl tz23 rfl tz9 rfl rfl rfl (by decide) (by simp) (fedBy_sl tz23 rfl (by simp)) (by simp only []; omega) (by simp only [big]; omega) fun d' s' hA' => ?_
        have hfin : ∃ y : Wd × Wd × Bool, (((y.2.1.length + 60 * y.1.length ≤ 60 * w.length ∧ y.2.1 ++ (fedW t y.1).1 = (fedW t w).1 ∧ (fedW t y.1).2 = (fedW t w).2)) ∧
            Acc 9 1 σ y.2.1.length (y.2.1.map .str) d' s' ∧ D.bool (cl && decide (0 ≤ optI (fitW t rest))) = .bool y.2.2 ∧ D.sl .no (rest.length - stepN t rest) (((rest.map D.str).drop (stepN t rest)).take (rest.length - stepN t rest)) = encSS y.1 ∧ encT t = encT t) ∧ y.1.length < rest.length := by
          refine ⟨(rest.drop (stepN t rest), out ++ stepTo t rest, cl && decide (0 ≤ optI (fitW t rest))), ⟨⟨?_, ?_, ?_⟩, ?_, rfl, ?_, rfl⟩, ?_⟩
          · simp only [List.length_append, List.length_drop]; omega
          · rw [← hp1, List.append_assoc]
          · exact hp2
          · simpa using hA'
          · exact encSS_drop rest _ hs2
          · simp only [List.length_drop]; omega
        cases cl
        · simp -dsimp only [h6, h1', h0, hpos', encSS, encT, ↓preB, postB, genB, ↓reduceIte, Nat.reduceEqDiff, Int.reduceToNat, Int.reduceLE, Int.reduceLT, Nat.reduceAdd, Nat.reduceLeDiff, intBin, strBin, unD, extractD, lit1, lit2, lit3, keptD, boxR, D.one, D.pub1, D.cells, splice, cutOwn]
          refine ⟨⟨by omega, by omega⟩, ?_⟩
          obtain ⟨y, ⟨hq, hA2, hb2, he, _⟩, hlt⟩ := hfin
          exact ⟨y, ⟨hq, hA2, by simpa using hb2, he⟩, hlt⟩
        · simp -dsimp only [h6, h1', h0, hpos', encSS, encT, ↓preB, postB, genB, ↓reduceIte, Nat.reduceEqDiff, Int.reduceToNat, Int.reduceLE, Int.reduceLT, Nat.reduceAdd, Nat.reduceLeDiff, intBin, strBin, unD, extractD, lit1, lit2, lit3, keptD, boxR, D.one, D.pub1, D.cells, splice, cutOwn]
          refine ⟨⟨by omega, by omega⟩, ?_⟩
          obtain ⟨y, ⟨hq, hA2, hb2, he, _⟩, hlt⟩ := hfin
          exact ⟨y, ⟨hq, hA2, by simpa using hb2, he⟩, hlt⟩
/-- Of a row of a given room, what is filled and that nothing else is changed. -/
def Room (σ0 : Heap) (k n : Nat) (cs : List D) (d : D) (σ : Heap) : Prop :=
  HLe σ0 σ ∧ cs.length = n ∧ n ≤ k ∧ ((k = 0 ∧ d = .sl .nil 0 []) ∨ (k ≠ 0 ∧ ∃ q js, σ0.next ≤ q ∧ q < σ.next ∧ d = .row q 0 n none 1 ∧ σ.get q = some (.cells 9 (cs ++ js)) ∧ n + js.length = k))
theorem Room.append {σ0 σ : Heap} {k n : Nat} {w : Wd} {cs : List D} {d : D} (h : Room σ0 k n cs d σ) (hc : Closed σ0) (hk : n + w.length ≤ k) (hk2 : k ≤ 100000) {K : D → Heap → Prop} {hK : Keep K} (kk : ∀ d' σ', Room σ0 k (n + w.length) (cs ++ w.map .str) d' σ' → K d' σ') :
    kR (appendR Zs 0 σ.get σ.next #[23, 23] d (encSS w)) σ K hK := by
  obtain ⟨hle, hl, hn, hd⟩ := h
  have hf : fedBy Zs σ.get 23 1 (encSS w) = some (w.length, w.map .str) := fedBy_sl tz23 rfl (by simp)
  rcases hd with ⟨h0, rfl⟩ | ⟨h0, q, js, hq0, hq, rfl, hg, hj⟩
  · have hw : w = [] := List.eq_nil_of_length_eq_zero (by omega)
    have hn0 : n = 0 := by omega
    subst hw; subst hn0
    have hcs : cs = [] := List.eq_nil_of_length_eq_zero hl
    subst hcs
    have : appendR Zs 0 σ.get σ.next #[23, 23] (.sl .nil 0 []) (encSS []) = some (.sl .nil 0 [], .keep) := by
      unfold appendR
      simp only [tz23, tz9, hf]
      rfl
    rw [this]
    exact kk _ _ ⟨hle, rfl, hn, .inl ⟨h0, rfl⟩⟩
  · by_cases hw : w.length = 0
    · have hw : w = [] := List.eq_nil_of_length_eq_zero hw
      subst hw
      have : appendR Zs 0 σ.get σ.next #[23, 23] (.row q 0 n none 1) (encSS []) = some (.row q 0 n none 1, .keep) := by
        unfold appendR
        simp only [tz23, tz9, hf, hg]
        rw [if_pos ⟨by decide, by decide, by decide⟩, if_pos ⟨trivial, trivial, by simp only [List.length_append]; omega, by simp only [List.length_nil]; omega, by simp only [List.length_nil, big]; omega⟩, if_pos (by rfl)]
      rw [this]
      exact kk _ _ ⟨hle, by simpa using hl, hn, .inr ⟨h0, q, js, hq0, hq, rfl, by rw [List.map_nil, List.append_nil]; exact hg, hj⟩⟩
    · refine app_row (m := w.length) tz23 rfl tz9 rfl rfl (by decide) hf hw hg (by simp only [List.length_append]; omega) (by simp only []; omega) (by simp only [big]; omega) (fun _ => ?_) (fun h => absurd (by simp only [List.length_append]; omega) h)
      have hsp : splice (cs ++ js) (n * 1) (w.map D.str) = cs ++ w.map .str ++ js.drop w.length := by
        simp only [splice, Nat.mul_one]
        rw [← hl, List.take_left, List.length_map, List.drop_append, List.drop_of_length_le (by omega), List.nil_append]
        congr 2
        omega
      refine kk _ _ ⟨hle.set_out _ hc hq0, by simp [hl], hk, .inr ⟨h0, q, js.drop w.length, hq0, hq, rfl, ?_, by simp; omega⟩⟩
      rw [Heap.set_same]
      rw [← hsp]
theorem Room.told {σ0 σ : Heap} {k n : Nat} {cs : List D} {d : D} (h : Room σ0 k n cs d σ) (hc : Closed σ0) : Told σ σ0 d (.sl .no n cs) := by
  obtain ⟨hle, hl, hn, hd⟩ := h
  rcases hd with ⟨h0, rfl⟩ | ⟨h0, q, js, hq0, hq, rfl, hg, hj⟩
  · have hn0 : n = 0 := by omega
    subst hn0
    have hcs : cs = [] := List.eq_nil_of_length_eq_zero hl
    subst hcs
    exact .sl .nil .no 0 [] [] (.inl rfl) rfl (fun i h => by cases h)
  · refine .row q 0 n none 1 9 (cs ++ js) cs hg (hc.none hq0) (by simp only [List.length_append]; omega) (by omega) fun i h1 h2 => ?_
    simp only [Nat.zero_add]
    rw [List.getElem_append_left h2]
    exact .refl _
theorem take_fl {l : List Wd} {k : Nat} (h : k < l.length) : (l.take (k + 1)).flatten = (l.take k).flatten ++ l[k] := by
  rw [List.take_succ_eq_append_getElem h, List.flatten_append]
  simp
theorem fl_le (l : List Wd) (k : Nat) : (l.take k).flatten.length ≤ l.flatten.length := by
  have : l.flatten = (l.take k).flatten ++ (l.drop k).flatten := by rw [← List.flatten_append, List.take_append_drop]
  rw [this, List.length_append]
  omega
theorem Concat_c (l : List Wd) (hl : l.flatten.length ≤ 100000) : Fn Zs 114 [encLL l] (encSS l.flatten) := by
  refine fn_of (Z := Zs) ok114 fun σ hcl hbl => ?_
  simp -dsimp only [L114, encLL, ↓preB, postB, genB, ↓reduceIte, Nat.reduceEqDiff, Int.reduceToNat, Int.reduceLE, Int.reduceLT, Nat.reduceAdd, Nat.reduceLeDiff, intBin, strBin, unD, extractD, lit1, lit2, lit3, keptD, boxR, D.one, D.pub1, D.cells, splice, cutOwn]
  intro hbig
  refine pwp_loopG (fun k env s => k ≤ l.length ∧ env 3 = .int .i64 ((l.take k).flatten.length : Nat) ∧ s = σ ∧ env 11 = .int .i64 (k:Nat) ∧ env 10 = .int .i64 l.length ∧ env 9 = encLL l ∧ env 0 = encLL l ∧ env 2 = .sl .nil 0 []) (fun k => l.length - k) 0 ?_ ?_
  · simp [upd_apply, envOf_apply, encLL]
  · rintro k env s ⟨hk, h3, rfl, h11, h10, h9, h0, h2⟩
    rcases Nat.lt_or_ge k l.length with hlt | hge
    · have hx : l[k]? = some l[k] := List.getElem?_eq_getElem hlt
      have hlp : 0 < l.length := by omega
      have h4 := take_fl hlt
      have h5 := fl_le l (k + 1)
      have h6 := fl_le l k
      rw [h4, List.length_append] at h5
      have h7 : IntKind.i64.wrap (((l.take k).flatten.length : Nat) + (l[k].length : Int)) = ((l.take (k + 1)).flatten.length : Nat) := by
        rw [h4, List.length_append, wrap64_in (by omega) (by omega)]
        omega
      have h8 : ¬ (((l.take (k + 1)).flatten.length : Int) < 0) := by omega
      simp -dsimp only [h3, h11, h10, h9, h0, h2, encLL, encSS, hlt, hx, hlp, h7, h8, ↓preB, postB, genB, ↓reduceIte, Nat.reduceEqDiff, Int.reduceToNat, Int.reduceLE, Int.reduceLT, Nat.reduceAdd, Nat.reduceLeDiff, intBin, strBin, unD, extractD, lit1, lit2, lit3, keptD, boxR, D.one, D.pub1, D.cells, splice, cutOwn]
      intros
      exact ⟨k + 1, ⟨by omega, rfl, wrap64_succ (by omega)⟩, by omega⟩
    · have hkl : k = l.length := by omega
      subst hkl
      rw [List.take_length] at h3
      simp -dsimp only [h3, h11, h10, h9, h0, h2, encLL, Nat.lt_irrefl, ↓preB, postB, genB, ↓reduceIte, Nat.reduceEqDiff, Int.reduceToNat, Int.reduceLE, Int.reduceLT, Nat.reduceAdd, Nat.reduceLeDiff, intBin, strBin, unD, extractD, lit1, lit2, lit3, keptD, boxR, D.one, D.pub1, D.cells, splice, cutOwn]
      refine PCall.use (Grow_p l.flatten.length hl) fun d τ hd => ?_
      have hR : Room s l.flatten.length 0 [] d τ := by
        rcases hd with ⟨e0, rfl, rfl⟩ | ⟨e0, rfl, rfl⟩
        · exact ⟨HLe.refl _, rfl, Nat.zero_le _, .inl ⟨e0, rfl⟩⟩
        · exact ⟨HLe.self_new _ hcl, rfl, Nat.zero_le _, .inr ⟨e0, _, List.replicate l.flatten.length (.str ⟨#[]⟩), Nat.le_refl _, Nat.lt_succ_self _, rfl, Heap.new_same _ _, by simp⟩⟩
      simp -dsimp only [h3, h11, h10, h9, h0, h2, encLL, ↓preB, postB, genB, ↓reduceIte, Nat.reduceEqDiff, Int.reduceToNat, Int.reduceLE, Int.reduceLT, Nat.reduceAdd, Nat.reduceLeDiff, intBin, strBin, unD, extractD, lit1, lit2, lit3, keptD, boxR, D.one, D.pub1, D.cells, splice, cutOwn]
      intro _
      refine pwp_loopG (fun k env τ => k ≤ l.length ∧ Room s l.flatten.length (l.take k).flatten.length ((l.take k).flatten.map .str) (env 6) τ ∧ env 27 = .int .i64 (k:Nat) ∧ env 26 = .int .i64 l.length ∧ env 25 = encLL l ∧ env 2 = .sl .nil 0 []) (fun k => l.length - k) 0 ?_ ?_
      · simp only [upd_apply, encLL, h2, Nat.reduceEqDiff, if_true, if_false]
        exact ⟨Nat.zero_le _, hR, rfl, trivial, trivial, trivial⟩
      · rintro k env τ ⟨hk, hR, h27, h26, h25, h2⟩
        rcases Nat.lt_or_ge k l.length with hlt | hge
        · have hx : l[k]? = some l[k] := List.getElem?_eq_getElem hlt
          have hlp : 0 < l.length := by omega
          have h4 := take_fl hlt
          have h5 := fl_le l (k + 1)
          rw [h4, List.length_append] at h5
          simp -dsimp only [h27, h26, h25, h2, encLL, hlt, hx, hlp, ↓preB, postB, genB, ↓reduceIte, Nat.reduceEqDiff, Int.reduceToNat, Int.reduceLE, Int.reduceLT, Nat.reduceAdd, Nat.reduceLeDiff, intBin, strBin, unD, extractD, lit1, lit2, lit3, keptD, boxR, D.one, D.pub1, D.cells, splice, cutOwn]
          refine hR.append hcl (w := l[k]) (by omega) hl fun d' τ' hR' => ?_
          simp -dsimp only [h27, h26, h25, h2, encLL, hlt, hx, hlp, ↓preB, postB, genB, ↓reduceIte, Nat.reduceEqDiff, Int.reduceToNat, Int.reduceLE, Int.reduceLT, Nat.reduceAdd, Nat.reduceLeDiff, intBin, strBin, unD, extractD, lit1, lit2, lit3, keptD, boxR, D.one, D.pub1, D.cells, splice, cutOwn]
          exact ⟨k + 1, ⟨by omega, by rw [h4, List.length_append, List.map_append]; exact hR', wrap64_succ (by omega)⟩, by omega⟩
        · have hkl : k = l.length := by omega
          subst hkl
          rw [List.take_length] at hR
          simp -dsimp only [h27, h26, h25, h2, encLL, Nat.lt_irrefl, ↓preB, postB, genB, ↓reduceIte, Nat.reduceEqDiff, Int.reduceToNat, Int.reduceLE, Int.reduceLT, Nat.reduceAdd, Nat.reduceLeDiff, intBin, strBin, unD, extractD, lit1, lit2, lit3, keptD, boxR, D.one, D.pub1, D.cells, splice, cutOwn]
          exact Ret.less hR.1 hcl (hR.told hcl) (.no (bel_strs _))
end Go.Proofs.YtldlcejlfaogbaaGreatDoor.Vs

/- numbers of YtldlcejlfaogbaaDoor -/
namespace Go.Proofs.YtldlcejlfaogbaaGreatDoor.Vs
open Go.Shelf Go.RowKit
set_option linter.unusedVariables false
set_option linter.unusedSimpArgs false
set_option maxRecDepth 100000
theorem blankAt {x T : List UInt8} (hx : ∀ b ∈ x, b ≠ 32) : Lib.indexByte (x ++ 32 :: T) 32 = x.length := by
  induction x with
  | nil => rfl
  | cons b x ih =>
    have hb : (b == 32) = false := by simpa using hx b (by simp)
    have ih := ih fun c hc => hx c (List.mem_cons_of_mem _ hc)
    rw [List.cons_append, Lib.indexByte, hb, ih, if_neg (by simp), if_neg (by simp)]
    simp
theorem join_tail (x : List UInt8) (y : List UInt8) (r : List (List UInt8)) : Lib.join (x :: y :: r) [32] = x ++ 32 :: Lib.join (y :: r) [32] := by
  simp [Lib.join, List.intercalate, List.intersperse]
theorem split_join : ∀ (xs : List (List UInt8)), xs ≠ [] → (∀ x ∈ xs, ∀ b ∈ x, b ≠ 32) → (Lib.join xs [32]).count 32 = xs.length - 1 ∧ Lib.splitK [32] 0 (xs.length - 1) (Lib.join xs [32]) = xs
  | [], h, _ => absurd rfl h
  | [x], _, h => by
    rw [Lib.join_one]
    refine ⟨?_, rfl⟩
    show List.count 32 x = 0
    rw [List.count_eq_zero]
    exact fun hm => h x (by simp) 32 hm rfl
  | x :: y :: r, _, h => by
    obtain ⟨h1, h2⟩ := split_join (y :: r) (by simp) fun z hz => h z (List.mem_cons_of_mem _ hz)
    have hx := h x (by simp)
    have h3 : x.count 32 = 0 := List.count_eq_zero.2 fun hm => hx 32 hm rfl
    have hi := blankAt (T := Lib.join (y :: r) [32]) hx
    rw [join_tail]
    refine ⟨?_, ?_⟩
    · rw [List.count_append, h3, List.count_cons_self, h1]
      simp
    · have e : (x :: y :: r).length - 1 = ((y :: r).length - 1) + 1 := by simp
      rw [e, Lib.splitK, Lib.index_one, hi, if_neg (by simp)]
      simp only [Int.toNat_natCast, Nat.add_zero, List.length_singleton]
      rw [List.take_left, show x.length + 1 = x.length + 1 from rfl, List.drop_append, List.drop_of_length_le (by omega), List.nil_append, show x.length + 1 - x.length = 1 by omega, List.drop_one, List.tail_cons, h2]
theorem split_key (w : Wd) (h0 : w ≠ []) (hw : goodW w) : Lib.splitB sp 0 (Lib.countB (keyB w sp) sp) (keyB w sp) = w := by
  have inj : ∀ {a b : ByteArray}, a.data.toList = b.data.toList → a = b := fun {a b} h => by cases a; cases b; congr 1; exact Array.toList_inj.1 h
  have inj2 : ∀ {a b : Wd}, a.map (·.data.toList) = b.map (·.data.toList) → a = b := fun {a} => by
    induction a with
    | nil => intro b h; cases b with
      | nil => rfl
      | cons => cases h
    | cons x a ih => intro b h; cases b with
      | nil => cases h
      | cons y b =>
        simp only [List.map_cons, List.cons.injEq] at h
        rw [inj h.1, ih h.2]
  refine inj2 ?_
  rw [Lib.splitB_data]
  have ek : (keyB w sp).data.toList = Lib.join (w.map (·.data.toList)) [32] := by simp [keyB, sp]
  obtain ⟨h1, h2⟩ := split_join (w.map (·.data.toList)) (by simpa using h0) fun x hx => by
    obtain ⟨s, hs, rfl⟩ := List.mem_map.1 hx
    exact (hw.2.2 s hs).2
  have ec : Lib.countB (keyB w sp) sp = (w.map (·.data.toList)).length - 1 := by
    show Lib.count (keyB w sp).data.toList [32] = _
    rw [Lib.count_one, ek, h1]
  rw [ec, ek]
  exact h2
theorem keyB_size {w : Wd} (hw : goodW w) : (keyB w sp).size ≤ 1920 := by
  have h1 : (keyB w sp).size = (Lib.join (w.map (·.data.toList)) [32]).length := by rw [Lib.size_eq]; simp [keyB, sp]
  have := join_len [32] (by simp) (w.map (·.data.toList)) fun x hx => by
    obtain ⟨s, hs, rfl⟩ := List.mem_map.1 hx
    simpa using hw.2.1 s hs
  rw [List.length_map] at this
  have := hw.1
  omega
theorem genSplit_c (w : Wd) (h0 : w ≠ []) (hw : goodW w) : Fn Zs 127 [.str (keyB w sp), .str sp, .int .i64 0, .int .i64 (-1)] (encSS w) := by
  obtain ⟨fn, c, hf, hb, _, _, _, hn, _⟩ := ok127.ok
  refine fn_new (Z := Zs) ⟨fn, hf, by rw [hb]; rfl, hn⟩ fun W s' vs hv hW => ?_
  obtain ⟨v0, v1, v2, v3, rfl⟩ : ∃ a b c d, vs = #[a, b, c, d] := by
    obtain ⟨l⟩ := vs
    match l, hv.1 with
    | [a, b, c, d], _ => exact ⟨a, b, c, d, rfl⟩
  have e0 : V W (Lim s') v0 (.str (keyB w sp)) := hv.2 0 (by simp)
  have e1 : V W (Lim s') v1 (.str sp) := hv.2 1 (by simp)
  have e2 : V W (Lim s') v2 (.int .i64 0) := hv.2 2 (by simp)
  have e3 : V W (Lim s') v3 (.int .i64 (-1)) := hv.2 3 (by simp)
  cases e0; cases e1; cases e2; cases e3
  have hsz := keyB_size hw
  have hsp := split_key w h0 hw
  have hle := Lib.countB_le sp (by decide) (keyB w sp).size (keyB w sp) (Nat.le_refl _)
  have hlen := Lib.splitB_all sp (by decide) 0 _ (keyB w sp) rfl
  have L := Tryz.lays221
  have key := Any.strings_genSplit_core Tryz.lays221 (by kernel_rfl) (keyB w sp) sp 0 (-1) (Lib.countB (keyB w sp) sp + 1) W (by omega) (by decide) (by decide)
    (fun x c hx => by
      refine (Any.strings_Index_one { L with } x 32 (W.alloc (.cells c (Tryz.lays221_ren.t 9)))).mono ?_
      rintro e w' ⟨rfl, rfl⟩
      exact ⟨by rw [← Lib.index_one]; rfl, rfl⟩)
    (by
      refine (Any.strings_Count_one { L with } (keyB w sp) 32 W).mono ?_
      rintro e w' ⟨rfl, rfl⟩
      refine ⟨?_, rfl⟩
      show _ = Ending.returned (Value.int .i64 ((Lib.count (keyB w sp).data.toList [32] : Nat) : Int))
      rw [Lib.count_one]
      rfl) (by decide) (by decide) (by rw [if_pos (by decide)]; omega)
  rw [Nat.add_sub_cancel] at key
  have e2 : Lib.cellsOf (Lib.splitB sp 0 (Lib.countB (keyB w sp) sp) (keyB w sp)) (Lib.countB (keyB w sp) sp + 1) = ((Lib.splitB sp 0 (Lib.countB (keyB w sp) sp) (keyB w sp)).map Value.string).toArray := by rw [← hlen]; exact Lib.cellsOf_full _
  rw [e2, ← hlen, hsp] at key
  refine key.mono ?_
  rintro e w' ⟨rfl, rfl⟩
  refine ⟨_, rfl, V_new_strs hW (Tryz.lays221_ren.t 9) w (by have := hw.1; simp only [big]; omega) (fun x hx => by have := hw.2.1 x hx; simp only [big]; omega), (Below.refl _ _).alloc (Nat.le_refl _) _⟩
theorem Split_c (w : Wd) (h0 : w ≠ []) (hw : goodW w) : Fn Zs 75 [.str (keyB w sp), .str sp] (encSS w) := by
  refine fn_of (Z := Zs) ok75 fun σ hcl hbl => ?_
  simp -dsimp only [L75, ↓preB, postB, genB, ↓reduceIte, Nat.reduceEqDiff, Int.reduceToNat, Int.reduceLE, Int.reduceLT, Nat.reduceAdd, Nat.reduceLeDiff, intBin, strBin, unD, extractD, lit1, lit2, lit3, keptD, boxR, D.one, D.pub1, D.cells, splice, cutOwn]
  refine Fn.use (genSplit_c w h0 hw) ?_
  simp -dsimp only [↓preB, postB, genB, ↓reduceIte, Nat.reduceEqDiff, Int.reduceToNat, Int.reduceLE, Int.reduceLT, Nat.reduceAdd, Nat.reduceLeDiff, intBin, strBin, unD, extractD, lit1, lit2, lit3, keptD, boxR, D.one, D.pub1, D.cells, splice, cutOwn]
  exact Ret.is rfl
theorem keyB_empty {w : Wd} (hw : goodW w) : ((keyB w sp == ⟨#[]⟩) = true ↔ w = []) := by
  refine ⟨fun h => ?_, fun h => by subst h; rfl⟩
  have h := ba_eq h
  exact keyB_inj hw ⟨by simp, by simp, by simp⟩ (by rw [h]; rfl)
theorem word_c (w : Wd) (hw : goodW w) : Fn Zs 41 [.str (keyB w sp)] (encSS w) := by
  refine fn_of (Z := Zs) ok41 fun σ hcl hbl => ?_
  simp -dsimp only [L41, ↓preB, postB, genB, ↓reduceIte, Nat.reduceEqDiff, Int.reduceToNat, Int.reduceLE, Int.reduceLT, Nat.reduceAdd, Nat.reduceLeDiff, intBin, strBin, unD, extractD, lit1, lit2, lit3, keptD, boxR, D.one, D.pub1, D.cells, splice, cutOwn]
  have e := keyB_empty hw
  split
  · rename_i hc
    have := e.1 hc
    subst this
    exact Ret.less (HLe.refl _) hcl (.sl .nil .no 0 [] [] (.inl rfl) rfl (fun i h => by cases h)) (.no (by simp))
  · rename_i hc
    refine Fn.use (Split_c w (fun h => hc (e.2 h)) hw) ?_
    simp -dsimp only [↓preB, postB, genB, ↓reduceIte, Nat.reduceEqDiff, Int.reduceToNat, Int.reduceLE, Int.reduceLT, Nat.reduceAdd, Nat.reduceLeDiff, intBin, strBin, unD, extractD, lit1, lit2, lit3, keptD, boxR, D.one, D.pub1, D.cells, splice, cutOwn]
    exact Ret.is rfl
end Go.Proofs.YtldlcejlfaogbaaGreatDoor.Vs

/- numbers of YtldlcejlfaogbaaDoor -/
namespace Go.Proofs.YtldlcejlfaogbaaGreatDoor.Vs
set_option linter.unusedVariables false
set_option linter.unusedSimpArgs false
set_option maxRecDepth 20000
theorem shiftF_le {t : List Sh} (h1 : ∀ r ∈ t, r.From ≠ []) (h2 : ∀ r ∈ t, r.To.length ≤ 60) : ∀ (n : Nat) (w : Wd), (shiftF t n w).1.length ≤ 60 * w.length
  | 0, w => by simp [shiftF]
  | n + 1, w => by
    by_cases hw : w.length = 0
    · simp [shiftF, hw]
    · have hw' : w ≠ [] := fun e => hw (by rw [e]; rfl)
      obtain ⟨hs1, hs2⟩ := stepN_pos h1 hw'
      have hst := stepTo_le (t := t) (w := w) h2
      have ih := shiftF_le h1 h2 n (w.drop (stepN t w))
      rw [List.length_drop] at ih
      simp only [shiftF, hw, if_false, List.length_append]
      omega
theorem shiftW_le {t : List Sh} (h1 : ∀ r ∈ t, r.From ≠ []) (h2 : ∀ r ∈ t, r.To.length ≤ 60) (w : Wd) : (shiftW t w).1.length ≤ 60 * w.length := shiftF_le h1 h2 _ w
theorem fedW_le {t : List Sh} (h1 : ∀ r ∈ t, r.From ≠ []) (h2 : ∀ r ∈ t, r.To.length ≤ 60) (w : Wd) : (fedW t w).1.length ≤ 60 * w.length := by
  have key : ∀ (n : Nat) (w : Wd), w.length ≤ n → (fedW t w).1.length ≤ 60 * w.length := fun n => by
    induction n with
    | zero =>
      intro w hw
      have : w = [] := List.eq_nil_of_length_eq_zero (by omega)
      subst this
      simp [fedW, fedF]
    | succ n ih =>
      intro w hw
      by_cases hc : w.length = 0 ∨ waitsW t w = true
      · rw [fedW_stop hc]; simp
      · have hw' : w ≠ [] := fun e => hc (.inl (by rw [e]; rfl))
        obtain ⟨hs1, hs2⟩ := stepN_pos h1 hw'
        have hst := stepTo_le (t := t) (w := w) h2
        have ih := ih (w.drop (stepN t w)) (by rw [List.length_drop]; omega)
        rw [fedW_go h1 hc, List.length_append]
        rw [List.length_drop] at ih
        omega
  exact key _ w (Nat.le_refl _)
theorem rest_len {t : List Sh} (ht : ∀ r ∈ t, r.From.length ≤ 60) {w : Wd} (h : w.length = 0 ∨ waitsW t w = true) : w.length ≤ 59 := by
  rcases h with h | h
  · omega
  · obtain ⟨r, hr, hw⟩ := List.any_eq_true.1 h
    simp only [waitsR, Bool.and_eq_true, decide_eq_true_eq] at hw
    have := ht r hr
    omega
/-- The symbols of a word alone. -/
def goodL (w : Wd) : Prop := (∀ s ∈ w, s.size ≤ 16) ∧ ∀ s ∈ w, goodS s
theorem goodL.app {a b : Wd} (h : goodL a) (k : goodL b) : goodL (a ++ b) := ⟨fun s hs => (List.mem_append.1 hs).elim (h.1 s) (k.1 s), fun s hs => (List.mem_append.1 hs).elim (h.2 s) (k.2 s)⟩
theorem goodW.l {w : Wd} (h : goodW w) : goodL w := ⟨h.2.1, h.2.2⟩
theorem nextJ_good {t : List Sh} (h1 : ∀ r ∈ t, r.From ≠ []) (h60 : ∀ r ∈ t, r.From.length ≤ 60) {left w : Wd} (hl : goodW left) (hw : goodW w) : goodW (nextJ t left w) := by
  obtain ⟨h, k, e⟩ := fedW_left h1 _ (left ++ w) (Nat.le_refl _)
  have hg := hl.l.app hw.l
  refine ⟨by have := rest_len h60 h; unfold nextJ; omega, fun s hs => ?_, fun s hs => ?_⟩
  · unfold nextJ at hs; rw [e] at hs; exact hg.1 s (List.mem_of_mem_drop hs)
  · unfold nextJ at hs; rw [e] at hs; exact hg.2 s (List.mem_of_mem_drop hs)
theorem ba_dec (a b : ByteArray) : (a == b) = decide (a = b) := by
  cases h : (a == b) with
  | true => rw [ba_eq h]; simp
  | false =>
    symm
    rw [decide_eq_false_iff_not]
    rintro rfl
    rw [ba_refl] at h
    cases h
theorem keyStr : KeyOf Zs 9 D.str := by
  constructor
  · intro k; simp [keyFits, tz9, plainKeyT]
  · intro a b
    simp only [keyEq, tz9, plainKeyT, eqS, if_true, ba_dec]
def seenM (todo : List Wd) : List (ByteArray × Bool) := todo.map fun w => (keyB w sp, true)
theorem seenM_keys (todo : List Wd) : (seenM todo).map Prod.fst = todo.map fun w => keyB w sp := by simp [seenM]
theorem seenM_out {todo : List Wd} (hg : ∀ w ∈ todo, goodW w) {n : Wd} (hn : goodW n) (hm : n ∉ todo) : lkp (seenM todo) (keyB n sp) = none := by
  refine lkp_none.2 ?_
  rw [seenM_keys]
  intro h
  obtain ⟨w, hw, he⟩ := List.mem_map.1 h
  exact hm (keyB_inj (hg w hw) hn he ▸ hw)
theorem seenM_in {todo : List Wd} {n : Wd} (hm : n ∈ todo) : lkp (seenM todo) (keyB n sp) = some true := by
  cases h : lkp (seenM todo) (keyB n sp) with
  | none =>
    refine absurd (lkp_none.1 h) ?_
    rw [seenM_keys]
    exact fun hc => hc (List.mem_map.2 ⟨n, hm, rfl⟩)
  | some v =>
    have := lkp_mem h
    obtain ⟨w, hw, he⟩ := List.mem_map.1 this
    rw [← (Prod.mk.inj he).2]
theorem seenM_add {todo : List Wd} (hg : ∀ w ∈ todo, goodW w) {n : Wd} (hn : goodW n) (hm : n ∉ todo) : insA (seenM todo) (keyB n sp) true = seenM (todo ++ [n]) := by
  have h := seenM_out hg hn hm
  cases hf : findA (seenM todo) (keyB n sp) 0 with
  | none => rw [(findA_none hf).2]; simp [seenM]
  | some q =>
    obtain ⟨i, v⟩ := q
    obtain ⟨_, _, h3, _⟩ := findA_some hf
    rw [h] at h3; cases h3
/-- The heap of the search: the map of what is seen, and the texts of what there is to do. -/
def JoHeap (σ : Heap) (todo : List Wd) (d : D) (s : Heap) : Prop :=
  ∃ es clk, MapIs D.str D.bool (seenM todo) es clk ∧ Acc 9 1 (σ.new (.map es clk)) todo.length (todo.map fun w => .str (keyB w sp)) d s
theorem JoHeap.le {σ : Heap} (hc : Closed σ) {todo : List Wd} {d : D} {s : Heap} (h : JoHeap σ todo d s) : HLe σ s := by
  obtain ⟨es, clk, _, hA⟩ := h
  exact (HLe.self_new _ hc).trans hA.le
theorem JoHeap.look {σ : Heap} {todo : List Wd} {d : D} {s : Heap} (h : JoHeap σ todo d s) (k : ByteArray) : lookupD Zs s.get 160 (.map σ.next) (.str k) false = some (((lkp (seenM todo) k).map D.bool).getD (.bool false)) := by
  obtain ⟨es, clk, hm, hA⟩ := h
  exact lookup_is (z := .bool false) keyStr tz160 rfl tz4 rfl (hA.le.get _ _ (Heap.new_same _ _)) hm k
theorem closed_seen {σ : Heap} (hc : Closed σ) {m : List (ByteArray × Bool)} {es : List ME} {clk : Nat} (h : MapIs D.str D.bool m es clk) : Closed (σ.new (.map es clk)) := by
  refine hc.new fun e he => ?_
  have : (e.key, e.val) ∈ m.map (fun p => (D.str p.1, D.bool p.2)) := by rw [← h.1]; exact List.mem_map.2 ⟨e, he, rfl⟩
  obtain ⟨p, _, hp⟩ := List.mem_map.1 this
  have e1 := (Prod.mk.inj hp).1
  have e2 := (Prod.mk.inj hp).2
  rw [← e1, ← e2]
  exact ⟨.str _, .bool _⟩
theorem joins_c (l : List Wd) (t : List Sh) (h1 : ∀ r ∈ t, r.From ≠ []) (h2 : ∀ r ∈ t, r.To.length ≤ 60) (h60 : ∀ r ∈ t, r.From.length ≤ 60) (h24 : t.length ≤ 24) (hl : ∀ w ∈ l, goodW w) : Fn Zs 62 [encLL l, encT t] (.bool (joinsW t l)) := by
  refine fn_of (Z := Zs) ok62 fun σ hcl hbl => ?_
  simp -dsimp only [L62, encLL, encT, ↓preB, postB, genB, ↓reduceIte, Nat.reduceEqDiff, Int.reduceToNat, Int.reduceLE, Int.reduceLT, Nat.reduceAdd, Nat.reduceLeDiff, intBin, strBin, unD, extractD, lit1, lit2, lit3, keptD, boxR, D.one, D.pub1, D.cells, splice, cutOwn]
  refine mapUpdate_go (encv := D.bool) keyStr tz160 rfl (Heap.new_same _ _) MapIs.nil ⟨#[]⟩ true fun es clk hm => ?_
  have e0 : insA ([] : List (ByteArray × Bool)) ⟨#[]⟩ true = seenM [[]] := by rfl
  rw [e0] at hm
  simp -dsimp only [Heap.new_set, ↓preB, postB, genB, ↓reduceIte, Nat.reduceEqDiff, Int.reduceToNat, Int.reduceLE, Int.reduceLT, Nat.reduceAdd, Nat.reduceLeDiff, intBin, strBin, unD, extractD, lit1, lit2, lit3, keptD, boxR, D.one, D.pub1, D.cells, splice, cutOwn]
  have hJ0 : JoHeap σ [[]] (.sl .full 1 [.str ⟨#[]⟩]) (σ.new (.map es clk)) := ⟨es, clk, hm, Acc.full (HLe.refl _)⟩
  have g0 : goodW [] := ⟨by simp, by simp, by simp⟩
  refine pwp_loopG (fun (x : Nat × List Wd) env s => (JoHeap σ x.2 (env 6) s ∧ x.1 ≤ x.2.length ∧ TodoJ t x.2 ∧ (∀ w ∈ x.2, goodW w) ∧ outJ t l (2000 - x.1) x.1 x.2 = joinsW t l) ∧ env 7 = .int .i64 (x.1 : Nat) ∧ env 5 = .map σ.next ∧ env 0 = encLL l ∧ env 1 = encT t) (fun x => 1441 - x.1) (0, [[]]) ?_ ?_
  · simp only [upd_apply, envOf_apply, encLL, encT, Nat.reduceEqDiff, if_true, if_false]
    exact ⟨⟨hJ0, by simp, TodoJ.init t, fun w hw => by simp at hw; subst hw; exact g0, rfl⟩, by simp⟩
  · rintro ⟨i, todo⟩ env s ⟨⟨hJ, hi, hT, hg, hp⟩, h7, h5, h0, h1'⟩
    simp only at hJ hi hT hg hp h7
    have hlen := hT.len h60 h24
    obtain ⟨o, ho⟩ : ∃ o, env 6 = .sl o todo.length (todo.map fun w => .str (keyB w sp)) := by
      obtain ⟨_, _, _, hA⟩ := hJ
      exact hA.is
    rcases Nat.lt_or_ge i todo.length with hlt | hge
    · have hx : todo[i]? = some todo[i] := List.getElem?_eq_getElem hlt
      have hlp : 0 < todo.length := by omega
      have hgl := hg _ (List.getElem_mem hlt)
      generalize todo[i] = left at hx hgl
      simp -dsimp only [ho, h7, h5, h0, h1', encLL, encT, hlt, hx, hlp, List.getElem?_map, ↓preB, postB, genB, ↓reduceIte, Nat.reduceEqDiff, Int.reduceToNat, Int.reduceLE, Int.reduceLT, Nat.reduceAdd, Nat.reduceLeDiff, intBin, strBin, unD, extractD, lit1, lit2, lit3, keptD, boxR, D.one, D.pub1, D.cells, splice, cutOwn]
      intro hb
      refine Fn.use (word_c left hgl) ?_
      simp -dsimp only [ho, h7, h5, h0, h1', encLL, encT, hlt, hx, hlp, ↓preB, postB, genB, ↓reduceIte, Nat.reduceEqDiff, Int.reduceToNat, Int.reduceLE, Int.reduceLT, Nat.reduceAdd, Nat.reduceLeDiff, intBin, strBin, unD, extractD, lit1, lit2, lit3, keptD, boxR, D.one, D.pub1, D.cells, splice, cutOwn]
      refine Fn.use (shifted_c t left h1 h2 (by have := hgl.1; omega)) ?_
      simp -dsimp only [ho, h7, h5, h0, h1', encLL, encT, hlt, hx, hlp, ↓preB, postB, genB, ↓reduceIte, Nat.reduceEqDiff, Int.reduceToNat, Int.reduceLE, Int.reduceLT, Nat.reduceAdd, Nat.reduceLeDiff, intBin, strBin, unD, extractD, lit1, lit2, lit3, keptD, boxR, D.one, D.pub1, D.cells, splice, cutOwn]
      intro hb2
      have hpo : outJ t l (2000 - i) i todo = match inJ t left l todo with | none => false | some todo' => outJ t l (2000 - (i + 1)) (i + 1) todo' := by
        obtain ⟨f, hf⟩ : ∃ f, 2000 - i = f + 1 := ⟨1999 - i, by omega⟩
        have hf2 : 2000 - (i + 1) = f := by omega
        rw [hf, hf2, outJ, hx]
        rfl
      rw [hpo] at hp
      refine pwp_loopG (fun (x : Nat × List Wd) env s => (JoHeap σ x.2 (env 6) s ∧ x.1 ≤ l.length ∧ i < x.2.length ∧ TodoJ t x.2 ∧ (∀ w ∈ x.2, goodW w) ∧ inJ t left (l.drop x.1) x.2 = inJ t left l todo) ∧ env 43 = .int .i64 (x.1 : Nat) ∧ env 42 = .int .i64 l.length ∧ env 41 = encLL l ∧ env 9 = encSS (shiftW t left).1 ∧ env 8 = encSS left ∧ env 7 = .int .i64 (i : Nat) ∧ env 5 = .map σ.next ∧ env 0 = encLL l ∧ env 1 = encT t) (fun x => l.length - x.1) (0, todo) ?_ ?_
      · simp only [upd_apply, h7, h5, h0, h1', encLL, encT, Nat.reduceEqDiff, if_true, if_false]
        exact ⟨⟨hJ, Nat.zero_le _, hlt, hT, hg, by rw [List.drop_zero]⟩, by simp [encSS]⟩
      · clear hJ hi hT hg hlt hlp hlen ho h7 h5 h0 h1' hx
        rintro ⟨k, td⟩ env s ⟨⟨hJ, hk, hi, hT, hg, hq⟩, h43, h42, h41, h9, h8, h7, h5, h0, h1'⟩
        simp only at hJ hk hi hT hg hq h43
        have hlen := hT.len h60 h24
        rcases Nat.lt_or_ge k l.length with hkl | hkl
        · have hx : l[k]? = some l[k] := List.getElem?_eq_getElem hkl
          have hlp : 0 < l.length := by omega
          have hgw := hl _ (List.getElem_mem hkl)
          rw [List.drop_eq_getElem_cons hkl, inJ] at hq
          generalize l[k] = w at hx hgw hq
          have hgn := nextJ_good h1 h60 hgl hgw
          have hnok := nextJ_ok h1 left w
          have hlw : (left ++ w).length ≤ 120 := by rw [List.length_append]; have := hgl.1; have := hgw.1; omega
          have b1 := shiftW_le h1 h2 left
          have b2 := shiftW_le h1 h2 w
          have b3 := shiftW_le h1 h2 (nextJ t left w)
          have b4 := fedW_le h1 h2 (left ++ w)
          have hgl1 := hgl.1
          have hgw1 := hgw.1
          have hgn1 := hgn.1
          have fl2 : ∀ a b : Wd, [a, b].flatten = a ++ b := fun a b => by simp
          simp -dsimp only [h43, h42, h41, h9, h8, h7, h5, h0, h1', encLL, encSS, hkl, hx, hlp, ↓preB, postB, genB, ↓reduceIte, Nat.reduceEqDiff, Int.reduceToNat, Int.reduceLE, Int.reduceLT, Nat.reduceAdd, Nat.reduceLeDiff, intBin, strBin, unD, extractD, lit1, lit2, lit3, keptD, boxR, D.one, D.pub1, D.cells, splice, cutOwn]
          refine Fn.useP (Concat_c [left, w] (by rw [fl2]; omega)) (by rfl) ?_
          rw [fl2]
          simp -dsimp only [h43, h42, h41, h9, h8, h7, h5, h0, h1', encLL, hkl, hx, hlp, ↓preB, postB, genB, ↓reduceIte, Nat.reduceEqDiff, Int.reduceToNat, Int.reduceLE, Int.reduceLT, Nat.reduceAdd, Nat.reduceLeDiff, intBin, strBin, unD, extractD, lit1, lit2, lit3, keptD, boxR, D.one, D.pub1, D.cells, splice, cutOwn]
          refine PCall.use (fed_p t (left ++ w) h1 h2 (by omega)) ?_
          rintro d τ ⟨⟨c, rfl⟩, rfl⟩
          simp -dsimp only [h43, h42, h41, h9, h8, h7, h5, h0, h1', encLL, hkl, hx, hlp, ↓preB, postB, genB, ↓reduceIte, Nat.reduceEqDiff, Int.reduceToNat, Int.reduceLE, Int.reduceLT, Nat.reduceAdd, Nat.reduceLeDiff, intBin, strBin, unD, extractD, lit1, lit2, lit3, keptD, boxR, D.one, D.pub1, D.cells, splice, cutOwn]
          refine Fn.use (shifted_c t w h1 h2 (by omega)) ?_
          simp -dsimp only [h43, h42, h41, h9, h8, h7, h5, h0, h1', encLL, hkl, hx, hlp, ↓preB, postB, genB, ↓reduceIte, Nat.reduceEqDiff, Int.reduceToNat, Int.reduceLE, Int.reduceLT, Nat.reduceAdd, Nat.reduceLeDiff, intBin, strBin, unD, extractD, lit1, lit2, lit3, keptD, boxR, D.one, D.pub1, D.cells, splice, cutOwn]
          refine Fn.use (shifted_c t (nextJ t left w) h1 h2 (by omega)) ?_
          simp -dsimp only [h43, h42, h41, h9, h8, h7, h5, h0, h1', encLL, hkl, hx, hlp, ↓preB, postB, genB, ↓reduceIte, Nat.reduceEqDiff, Int.reduceToNat, Int.reduceLE, Int.reduceLT, Nat.reduceAdd, Nat.reduceLeDiff, intBin, strBin, unD, extractD, lit1, lit2, lit3, keptD, boxR, D.one, D.pub1, D.cells, splice, cutOwn]
          simp -dsimp only [encSS, ↓preB, postB, genB, ↓reduceIte, Nat.reduceEqDiff, Int.reduceToNat, Int.reduceLE, Int.reduceLT, Nat.reduceAdd, Nat.reduceLeDiff, intBin, strBin, unD, extractD, lit1, lit2, lit3, keptD, boxR, D.one, D.pub1, D.cells, splice, cutOwn]
          refine Fn.useP (Concat_c [(shiftW t left).1, (shiftW t w).1] (by rw [fl2, List.length_append]; omega)) (by rfl) ?_
          rw [fl2]
          simp -dsimp only [h43, h42, h41, h9, h8, h7, h5, h0, h1', encLL, encSS, hkl, hx, hlp, ↓preB, postB, genB, ↓reduceIte, Nat.reduceEqDiff, Int.reduceToNat, Int.reduceLE, Int.reduceLT, Nat.reduceAdd, Nat.reduceLeDiff, intBin, strBin, unD, extractD, lit1, lit2, lit3, keptD, boxR, D.one, D.pub1, D.cells, splice, cutOwn]
          refine Fn.useP (Concat_c [(fedW t (left ++ w)).1, (shiftW t (nextJ t left w)).1] (by rw [fl2, List.length_append]; omega)) (by rfl) ?_
          rw [fl2]
          simp -dsimp only [h43, h42, h41, h9, h8, h7, h5, h0, h1', encLL, hkl, hx, hlp, ↓preB, postB, genB, ↓reduceIte, Nat.reduceEqDiff, Int.reduceToNat, Int.reduceLE, Int.reduceLT, Nat.reduceAdd, Nat.reduceLeDiff, intBin, strBin, unD, extractD, lit1, lit2, lit3, keptD, boxR, D.one, D.pub1, D.cells, splice, cutOwn]
          refine Fn.use (Equal_c _ _) ?_
          have hst : eqW ((shiftW t left).1 ++ (shiftW t w).1) ((fedW t (left ++ w)).1 ++ (shiftW t (nextJ t left w)).1) = stepJ t left w := rfl
          rw [hst]
          cases hs : stepJ t left w with
          | false =>
            rw [if_neg (by rw [hs]; decide)] at hq
            rw [← hq] at hp
            simp -dsimp only [h43, h42, h41, h9, h8, h7, h5, h0, h1', encLL, hkl, hx, hlp, ↓preB, postB, genB, ↓reduceIte, Nat.reduceEqDiff, Int.reduceToNat, Int.reduceLE, Int.reduceLT, Nat.reduceAdd, Nat.reduceLeDiff, intBin, strBin, unD, extractD, lit1, lit2, lit3, keptD, boxR, D.one, D.pub1, D.cells, splice, cutOwn]
            exact Ret.isH (hJ.le hcl) hcl (by rw [← hp]) (.bool _)
          | true =>
            rw [if_pos hs] at hq
            simp -dsimp only [h43, h42, h41, h9, h8, h7, h5, h0, h1', encLL, hkl, hx, hlp, ↓preB, postB, genB, ↓reduceIte, Nat.reduceEqDiff, Int.reduceToNat, Int.reduceLE, Int.reduceLT, Nat.reduceAdd, Nat.reduceLeDiff, intBin, strBin, unD, extractD, lit1, lit2, lit3, keptD, boxR, D.one, D.pub1, D.cells, splice, cutOwn]
            refine Fn.use (key_c (nextJ t left w) hgn) ?_
            simp -dsimp only [h43, h42, h41, h9, h8, h7, h5, h0, h1', encLL, hkl, hx, hlp, hJ.look, ↓preB, postB, genB, ↓reduceIte, Nat.reduceEqDiff, Int.reduceToNat, Int.reduceLE, Int.reduceLT, Nat.reduceAdd, Nat.reduceLeDiff, intBin, strBin, unD, extractD, lit1, lit2, lit3, keptD, boxR, D.one, D.pub1, D.cells, splice, cutOwn]
            by_cases hm : nextJ t left w ∈ td
            · rw [seenM_in hm]
              have ha : addJ td (nextJ t left w) = td := by unfold addJ; rw [if_pos (anyEq.2 hm)]
              rw [ha] at hq
              simp -dsimp only [h43, h42, h41, h9, h8, h7, h5, h0, h1', encLL, hkl, hx, hlp, Option.getD_some, Bool.not_true, ↓preB, postB, genB, ↓reduceIte, Nat.reduceEqDiff, Int.reduceToNat, Int.reduceLE, Int.reduceLT, Nat.reduceAdd, Nat.reduceLeDiff, intBin, strBin, unD, extractD, lit1, lit2, lit3, keptD, boxR, D.one, D.pub1, D.cells, splice, cutOwn]
              exact ⟨(k + 1, td), ⟨⟨hJ, by simp only []; omega, hi, hT, hg, hq⟩, wrap64_succ (by omega)⟩, by simp only []; omega⟩
            · rw [seenM_out hg hgn hm]
              have ha : addJ td (nextJ t left w) = td ++ [nextJ t left w] := by unfold addJ; rw [if_neg fun h => hm (anyEq.1 h)]
              rw [ha] at hq
              simp -dsimp only [h43, h42, h41, h9, h8, h7, h5, h0, h1', encLL, hkl, hx, hlp, Option.getD_none, Option.map_none, Bool.not_false, ↓preB, postB, genB, ↓reduceIte, Nat.reduceEqDiff, Int.reduceToNat, Int.reduceLE, Int.reduceLT, Nat.reduceAdd, Nat.reduceLeDiff, intBin, strBin, unD, extractD, lit1, lit2, lit3, keptD, boxR, D.one, D.pub1, D.cells, splice, cutOwn]
              obtain ⟨es2, clk2, hm2, hA⟩ := hJ
              refine mapUpdate_go (encv := D.bool) keyStr tz160 rfl (hA.le.get _ _ (Heap.new_same _ _)) hm2 (keyB (nextJ t left w) sp) true fun es3 clk3 hm3 => ?_
              rw [seenM_add hg hgn hm] at hm3
              have hA2 := (hA.set (x := .map es3 clk3) (closed_seen hcl hm2) (Heap.new_same _ _)).2
              rw [Heap.new_set] at hA2
              simp -dsimp only [h43, h42, h41, h9, h8, h7, h5, h0, h1', encLL, hkl, hx, hlp, ↓preB, postB, genB, ↓reduceIte, Nat.reduceEqDiff, Int.reduceToNat, Int.reduceLE, Int.reduceLT, Nat.reduceAdd, Nat.reduceLeDiff, intBin, strBin, unD, extractD, lit1, lit2, lit3, keptD, boxR, D.one, D.pub1, D.cells, splice, cutOwn]
              refine hA2.append (closed_seen hcl hm3) tz23 rfl tz9 rfl rfl rfl (by decide) (by simp) (fedBy_sl tz23 rfl rfl) (by simp only []; omega) (by simp only [big]; omega) fun d' s' hA' => ?_
              simp -dsimp only [h43, h42, h41, h9, h8, h7, h5, h0, h1', encLL, hkl, hx, hlp, ↓preB, postB, genB, ↓reduceIte, Nat.reduceEqDiff, Int.reduceToNat, Int.reduceLE, Int.reduceLT, Nat.reduceAdd, Nat.reduceLeDiff, intBin, strBin, unD, extractD, lit1, lit2, lit3, keptD, boxR, D.one, D.pub1, D.cells, splice, cutOwn]
              have hT' := hT.add hnok
              rw [ha] at hT'
              refine ⟨(k + 1, td ++ [nextJ t left w]), ⟨⟨⟨es3, clk3, hm3, by simpa using hA'⟩, by simp only []; omega, by simp only [List.length_append]; omega, hT', fun x hx => ?_, hq⟩, wrap64_succ (by omega)⟩, by simp only []; omega⟩
              rcases List.mem_append.1 hx with hx | hx
              · exact hg x hx
              · simp at hx; subst hx; exact hgn
        · have hkl : k = l.length := by omega
          subst hkl
          rw [List.drop_length, inJ] at hq
          rw [← hq] at hp
          simp -dsimp only [h43, h42, h41, h9, h8, h7, h5, h0, h1', encLL, Nat.lt_irrefl, ↓preB, postB, genB, ↓reduceIte, Nat.reduceEqDiff, Int.reduceToNat, Int.reduceLE, Int.reduceLT, Nat.reduceAdd, Nat.reduceLeDiff, intBin, strBin, unD, extractD, lit1, lit2, lit3, keptD, boxR, D.one, D.pub1, D.cells, splice, cutOwn]
          refine ⟨(i + 1, td), ⟨⟨hJ, by simp only []; omega, hT, hg, hp⟩, wrap64_succ (by simp only [big]; omega)⟩, by simp only []; omega⟩
    · have hil : i = todo.length := by omega
      subst hil
      rw [← hp]
      simp -dsimp only [ho, h7, h5, h0, h1', encLL, Nat.lt_irrefl, ↓preB, postB, genB, ↓reduceIte, Nat.reduceEqDiff, Int.reduceToNat, Int.reduceLE, Int.reduceLT, Nat.reduceAdd, Nat.reduceLeDiff, intBin, strBin, unD, extractD, lit1, lit2, lit3, keptD, boxR, D.one, D.pub1, D.cells, splice, cutOwn]
      intro _
      refine Ret.isH (hJ.le hcl) hcl ?_ (.bool _)
      have : outJ t l (2000 - todo.length) todo.length todo = true := by
        cases h : 2000 - todo.length with
        | zero => rfl
        | succ f => rw [outJ, List.getElem?_eq_none (Nat.le_refl _)]
      rw [this]
end Go.Proofs.YtldlcejlfaogbaaGreatDoor.Vs
