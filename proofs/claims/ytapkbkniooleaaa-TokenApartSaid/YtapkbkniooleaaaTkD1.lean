import Derived.Test.YtapkbkniooleaaaTkA1
import Derived.Test.YtapkbkniooleaaaDmTwo
import Derived.Test.YtapkbkniooleaaaFnB
/- numbers of Ytapkbkniooleaaa -/
namespace Go.Proofs.Ytapkbkniooleaaa.Vs
set_option linter.unusedVariables false
set_option linter.unusedSimpArgs false
set_option maxRecDepth 100000
theorem encTks_len (l : List Tok) : (encTks l).length = 4 * l.length := by
  induction l with
  | nil => rfl
  | cons t l ih => rw [encTks, List.flatMap_cons, List.length_append, ← encTks, ih, List.length_cons]; simp [encTk]; omega
theorem encTks_cons (t : Tok) (l : List Tok) : encTks (t :: l) = encTk t ++ encTks l := rfl
theorem encTks_append (a b : List Tok) : encTks (a ++ b) = encTks a ++ encTks b := by simp [encTks]
theorem encTks_drop : ∀ (k : Nat) (l : List Tok), (encTks l).drop (4 * k) = encTks (l.drop k)
  | 0, l => rfl
  | k + 1, [] => rfl
  | k + 1, t :: l => by
    rw [encTks_cons, List.drop_succ_cons, ← encTks_drop k l, show 4 * (k + 1) = 4 * k + 4 by omega, ← List.drop_drop, List.drop_drop]
    rw [show 4 * k + 4 = (encTk t).length + 4 * k by simp [encTk]; omega, List.drop_append, List.drop_of_length_le (by omega), Nat.add_sub_cancel_left]
    rfl
theorem encTks_take : ∀ (k : Nat) (l : List Tok), (encTks l).take (4 * k) = encTks (l.take k)
  | 0, l => rfl
  | k + 1, [] => rfl
  | k + 1, t :: l => by
    rw [encTks_cons, List.take_succ_cons, encTks_cons, ← encTks_take k l, show 4 * (k + 1) = (encTk t).length + 4 * k by simp [encTk]; omega, List.take_append, List.take_of_length_le (by omega), Nat.add_sub_cancel_left]
theorem encTks_at {l : List Tok} {k : Nat} (h : k < l.length) (js : List D) : ((encTks l ++ js).drop (k * 4)).take 4 = encTk l[k] := by
  rw [List.drop_append, show k * 4 = 4 * k by omega, encTks_drop, List.drop_eq_getElem_cons h, encTks_cons]
  simp [encTk]
theorem encTks_set {l : List Tok} {k : Nat} (h : k < l.length) (js : List D) (t : Tok) : (encTks l ++ js).take (k * 4) ++ encTk t ++ (encTks l ++ js).drop (k * 4 + 4) = encTks (l.set k t) ++ js := by
  have h1 : k * 4 ≤ (encTks l).length := by rw [encTks_len]; omega
  have h2 : k * 4 + 4 ≤ (encTks l).length := by rw [encTks_len]; omega
  rw [List.take_append_of_le_length h1, List.drop_append_of_le_length h2, show k * 4 = 4 * k by omega, encTks_take, show 4 * k + 4 = 4 * (k + 1) by omega, encTks_drop, List.set_eq_take_append_cons_drop, if_pos h, encTks_append, encTks_cons]
  simp only [List.append_assoc]
/-- Half turned round. -/
def Half (l : List Tok) (k : Nat) (L : List Tok) : Prop := L.length = l.length ∧ ∀ (j : Nat) (h : j < l.length) (h' : j < L.length), L[j] = if j < k ∨ l.length - k ≤ j then l[l.length - 1 - j]'(by omega) else l[j]
theorem Half.start (l : List Tok) : Half l 0 l := ⟨rfl, fun j h h' => by rw [if_neg (by omega)]⟩
theorem Half.step {l L : List Tok} {k : Nat} (h : Half l k L) (hk : 2 * k + 1 < l.length) (h1 : k < L.length) (h2 : l.length - 1 - k < L.length) :
    Half l (k + 1) ((L.set k L[l.length - 1 - k]).set (l.length - 1 - k) L[k]) := by
  obtain ⟨hl, hh⟩ := h
  refine ⟨by simp [hl], fun j hj hj' => ?_⟩
  rw [List.getElem_set]
  split
  · rename_i e
    subst e
    rw [hh k (by omega) h1, if_neg (by omega), if_pos (by omega)]
    congr 1
    omega
  · rename_i e
    rw [List.getElem_set]
    split
    · rename_i e2
      subst e2
      rw [hh _ (by omega) h2, if_neg (by omega), if_pos (by omega)]
    · rename_i e2
      rw [hh j hj (by omega)]
      by_cases c : j < k ∨ l.length - k ≤ j
      · rw [if_pos c, if_pos (by omega)]
      · rw [if_neg c, if_neg (by omega)]
theorem Half.done {l L : List Tok} {k : Nat} (h : Half l k L) (hk : l.length ≤ 2 * k + 1) : L = l.reverse := by
  obtain ⟨hl, hh⟩ := h
  refine List.ext_getElem (by simp [hl]) fun j h1 h2 => ?_
  rw [List.getElem_reverse, hh j (by omega) h1]
  split
  · rfl
  · congr 1
    omega
theorem Heap.set_id {σ : Heap} {r : Nat} {o : AO} (h : σ.get r = some o) : σ = σ.set r o := by
  cases σ with
  | mk get next =>
    simp only [Heap.set]
    congr 1
    funext i
    split
    · rename_i e; subst e; exact h
    · rfl
theorem Reverse_nil (σ : Heap) : PCall Zs 38 [.sl .nil 0 []] σ (fun d τ => d = .tup [] ∧ τ = σ) := by
  refine pcall_of (Z := Zs) ok38 fun hcl hbl => ?_
  simp -dsimp only [L38, ↓preB, postB, genB, ↓reduceIte, Nat.reduceEqDiff, Int.reduceToNat, Int.reduceLE, Int.reduceLT, Nat.reduceAdd, Nat.reduceLeDiff, intBin, strBin, unD, extractD, lit1, lit2, lit3, keptD, boxR, D.one, D.pub1, D.cells, splice, cutOwn]
  intros
  refine pwp_loop1 ?_
  have e : IntKind.i64.wrap (((0 : Nat) : Int) - 1) = -1 := by decide
  have e2 : ¬ (0 : Int) < -1 := by decide
  simp -dsimp only [e, e2, ↓preB, postB, genB, ↓reduceIte, Nat.reduceEqDiff, Int.reduceToNat, Int.reduceLE, Int.reduceLT, Nat.reduceAdd, Nat.reduceLeDiff, intBin, strBin, unD, extractD, lit1, lit2, lit3, keptD, boxR, D.one, D.pub1, D.cells, splice, cutOwn]
  exact Ret.is rfl
theorem Reverse_p (l : List Tok) (r : Nat) (js : List D) (σ : Heap) (hr : σ.get r = some (.cells 35 (encTks l ++ js))) (hrn : r < σ.next) : PCall Zs 38 [.row r 0 l.length none 4] σ (fun d τ => d = .tup [] ∧ τ = σ.set r (.cells 35 (encTks l.reverse ++ js))) := by
  refine pcall_of (Z := Zs) ok38 fun hcl hbl => ?_
  simp -dsimp only [L38, ↓preB, postB, genB, ↓reduceIte, Nat.reduceEqDiff, Int.reduceToNat, Int.reduceLE, Int.reduceLT, Nat.reduceAdd, Nat.reduceLeDiff, intBin, strBin, unD, extractD, lit1, lit2, lit3, keptD, boxR, D.one, D.pub1, D.cells, splice, cutOwn]
  intro hbig
  simp only [big] at hbig
  have w0 : IntKind.i64.wrap ((l.length : Int) - 1) = (l.length : Int) - 1 - (0 : Nat) := by rw [wrap64_in (by omega) (by omega)]; simp
  refine pwp_loopG (fun (x : Nat × List Tok) env s => 2 * x.1 ≤ l.length ∧ Half l x.1 x.2 ∧ s = σ.set r (.cells 35 (encTks x.2 ++ js)) ∧ env 2 = .int .i64 (x.1 : Nat) ∧ env 3 = .int .i64 ((l.length : Int) - 1 - (x.1 : Nat)) ∧ env 0 = .row r 0 l.length none 4) (fun x => l.length - x.1) (0, l) ?_ ?_
  · simp only [upd_apply, envOf_apply, Nat.reduceEqDiff, if_true, if_false]
    exact ⟨by omega, Half.start l, Heap.set_id hr, rfl, by rw [w0], rfl⟩
  · rintro ⟨k, L⟩ env s ⟨hk, hH, rfl, h2, h3, h0⟩
    simp only [] at hk hH h2 h3
    have hL := hH.1
    by_cases hlt : (k : Int) < (l.length : Int) - 1 - (k : Nat)
    · have h1 : 2 * k + 1 < l.length := by omega
      simp -dsimp only [h0, h2, h3, hlt, ↓preB, postB, genB, ↓reduceIte, Nat.reduceEqDiff, Int.reduceToNat, Int.reduceLE, Int.reduceLT, Nat.reduceAdd, Nat.reduceLeDiff, intBin, strBin, unD, extractD, lit1, lit2, lit3, keptD, boxR, D.one, D.pub1, D.cells, splice, cutOwn]
      refine draw_p _ rfl rfl rfl rfl ?_
      simp only [List.filterMap_cons, List.filterMap_nil, List.getElem?_cons_succ, List.getElem?_cons_zero, pOps, keepKind, hfKind, Bool.or_false, Bool.or_true, Bool.false_eq_true, if_true, if_false]
      simp -dsimp only [h0, h2, h3, hlt, ↓preB, postB, genB, ↓reduceIte, Nat.reduceEqDiff, Int.reduceToNat, Int.reduceLE, Int.reduceLT, Nat.reduceAdd, Nat.reduceLeDiff, intBin, strBin, unD, extractD, lit1, lit2, lit3, keptD, boxR, D.one, D.pub1, D.cells, splice, cutOwn]
      have hj : ((l.length : Int) - 1 - (k : Nat)) = ((l.length - 1 - k : Nat) : Int) := by omega
      have hkL : k < L.length := by omega
      have hqL : l.length - 1 - k < L.length := by omega
      have hst := hH.step h1 hkL hqL
      have hlen : (encTks L ++ js).length = 4 * L.length + js.length := by rw [List.length_append, encTks_len]
      have hlen2 : (encTks (L.set k L[l.length - 1 - k]) ++ js).length = 4 * L.length + js.length := by rw [List.length_append, encTks_len, List.length_set]
      have h4 : ∀ t, (encTk t).length = 4 := fun _ => rfl
      simp only [hj, Int.toNat_natCast, encTks_at hkL, encTks_at hqL, h4, encTks_set hkL, encTks_set (l := L.set k L[l.length - 1 - k]) (by rw [List.length_set]; exact hqL), hlen, hlen2]
      exact ⟨⟨by omega, by omega⟩, by omega, by omega, by omega, by omega, ⟨trivial, by omega⟩, ⟨by omega, by omega⟩, ⟨trivial, by omega⟩, (k + 1, _), ⟨by simp only []; omega, hst, rfl, wrap64_succ (by simp only [big]; omega), by rw [wrap64_in (by omega) (by omega)]; simp only []; omega⟩, by simp only []; omega⟩
    · simp -dsimp only [h0, h2, h3, hlt, ↓preB, postB, genB, ↓reduceIte, Nat.reduceEqDiff, Int.reduceToNat, Int.reduceLE, Int.reduceLT, Nat.reduceAdd, Nat.reduceLeDiff, intBin, strBin, unD, extractD, lit1, lit2, lit3, keptD, boxR, D.one, D.pub1, D.cells, splice, cutOwn]
      have := hH.done (by omega)
      subst this
      exact Ret.now (Nat.le_refl _) ⟨rfl, rfl⟩
end Go.Proofs.Ytapkbkniooleaaa.Vs

/- numbers of Ytapkbkniooleaaa -/
namespace Go.Proofs.Ytapkbkniooleaaa.Vs
set_option linter.unusedVariables false
set_option linter.unusedSimpArgs false
set_option maxRecDepth 100000
/-- Two alike, side by side. -/
def Adj (cs : Wd) : Prop := ∃ j, 1 ≤ j ∧ ∃ h : j < cs.length, cs[j] = cs[j - 1]'(by omega)
section
variable {g : Nat → Option AO} {r off a n : Nat} {k : IntKind}
theorem s22Lo (h : a ≤ n) : sliceD Zs g 22 (.row r off n none 1) (some (.int k a)) none none = some (.row r (off + a) (n - a) none 1) := by
  unfold sliceD
  simp only [tz22, tz9, bound, Option.map_some, Option.map_none, Int.toNat_natCast]
  rw [if_pos ⟨by omega, by omega, .inl (by omega), trivial⟩, Nat.mul_one]
theorem s22Hi (h : a ≤ n) : sliceD Zs g 22 (.row r off n none 1) none (some (.int k a)) none = some (.row r off a none 1) := by
  unfold sliceD
  simp only [tz22, tz9, bound, Option.map_some, Option.map_none, Int.toNat_natCast]
  rw [if_pos ⟨by omega, by omega, .inl (by omega), trivial⟩]
  simp
theorem clr22 {e : TypeId} {cs : List D} (hg : g r = some (.cells e cs)) (hf : off + n ≤ cs.length) : clearR Zs g #[22] (.row r off n none 1) = some (.put r (.cells e (splice cs off (List.replicate n (.str ⟨#[]⟩))))) := by
  have e1 : ∀ m, litZero (TInfo.mk .string 1 16 (.string ⟨#[]⟩) false false) m = List.replicate m (.str ⟨#[]⟩) := fun m => litZero_one rfl m
  simp only [clearR, List.getElem?_toArray, List.getElem?_cons_zero, tz22, tz9, Option.map_some, hg]
  rw [if_pos (by refine ⟨?_, ?_, ?_, ?_, ?_⟩ <;> first | trivial | rfl | omega), Nat.mul_one, e1]
end
theorem Compact_nil (σ : Heap) : PCall Zs 27 [.sl .nil 0 []] σ (fun d τ => d = .sl .nil 0 [] ∧ τ = σ) := by
  refine pcall_of (Z := Zs) ok27 fun hcl hbl => ?_
  simp -dsimp only [L27, ↓preB, postB, genB, ↓reduceIte, Nat.reduceEqDiff, Int.reduceToNat, Int.reduceLE, Int.reduceLT, Nat.reduceAdd, Nat.reduceLeDiff, intBin, strBin, unD, extractD, lit1, lit2, lit3, keptD, boxR, D.one, D.pub1, D.cells, splice, cutOwn]
  intros
  have e : ((0 : Nat) : Int) < 2 := by decide
  simp -dsimp only [e, ↓preB, postB, genB, ↓reduceIte, Nat.reduceEqDiff, Int.reduceToNat, Int.reduceLE, Int.reduceLT, Nat.reduceAdd, Nat.reduceLeDiff, intBin, strBin, unD, extractD, lit1, lit2, lit3, keptD, boxR, D.one, D.pub1, D.cells, splice, cutOwn]
  exact Ret.is rfl
theorem Compact_p (cs : Wd) (r : Nat) (σ : Heap) (hn : cs.length ≤ 1000000000) (hr : σ.get r = some (.cells 9 (cs.map .str))) (hrn : r < σ.next) :
    PCall Zs 27 [.row r 0 cs.length none 1] σ (fun d τ => ∃ m, d = .row r 0 m none 1 ∧ ((m = cs.length ∧ ¬ Adj cs) ∨ (m < cs.length ∧ Adj cs)) ∧ τ.next = σ.next ∧ ∀ q, q ≠ r → τ.get q = σ.get q) := by
  refine pcall_of (Z := Zs) ok27 fun hcl hbl => ?_
  simp -dsimp only [L27, ↓preB, postB, genB, ↓reduceIte, Nat.reduceEqDiff, Int.reduceToNat, Int.reduceLE, Int.reduceLT, Nat.reduceAdd, Nat.reduceLeDiff, intBin, strBin, unD, extractD, lit1, lit2, lit3, keptD, boxR, D.one, D.pub1, D.cells, splice, cutOwn]
  intro hbig
  by_cases h2 : (cs.length : Int) < 2
  · simp -dsimp only [h2, ↓preB, postB, genB, ↓reduceIte, Nat.reduceEqDiff, Int.reduceToNat, Int.reduceLE, Int.reduceLT, Nat.reduceAdd, Nat.reduceLeDiff, intBin, strBin, unD, extractD, lit1, lit2, lit3, keptD, boxR, D.one, D.pub1, D.cells, splice, cutOwn]
    exact Ret.now (Nat.le_refl _) ⟨cs.length, rfl, .inl ⟨rfl, fun ⟨j, h1, h3, _⟩ => by omega⟩, rfl, fun _ _ => rfl⟩
  simp -dsimp only [h2, ↓preB, postB, genB, ↓reduceIte, Nat.reduceEqDiff, Int.reduceToNat, Int.reduceLE, Int.reduceLT, Nat.reduceAdd, Nat.reduceLeDiff, intBin, strBin, unD, extractD, lit1, lit2, lit3, keptD, boxR, D.one, D.pub1, D.cells, splice, cutOwn]
  refine pwp_loopG (fun (k : Nat) env s => 1 ≤ k ∧ k ≤ cs.length ∧ (∀ j (h1 : 1 ≤ j) (hj : j < k) (h : j < cs.length), cs[j] ≠ cs[j - 1]) ∧ s = σ ∧ env 3 = .int .i64 (k : Nat) ∧ env 0 = .row r 0 cs.length none 1) (fun k => cs.length - k) 1 ?_ ?_
  · simp only [upd_apply, envOf_apply, Nat.reduceEqDiff, if_true, if_false]
    exact ⟨Nat.le_refl _, by omega, fun j h1 hj h => by omega, trivial, rfl, rfl⟩
  · rintro k env s ⟨hk1, hkn, hp, rfl, h3, h0⟩
    rcases Nat.lt_or_ge k cs.length with hlt | hge
    · have hc : (k : Int) < cs.length := by omega
      have w1 : IntKind.i64.wrap ((k : Int) - 1) = ((k - 1 : Nat) : Int) := by rw [wrap64_in (by omega) (by omega)]; omega
      have hx : cs[k]? = some cs[k] := List.getElem?_eq_getElem hlt
      have hy : cs[k - 1]? = some cs[k - 1] := List.getElem?_eq_getElem (by omega)
      have hlt' : k - 1 < cs.length := by omega
      simp -dsimp only [h3, h0, hc, ↓preB, postB, genB, ↓reduceIte, Nat.reduceEqDiff, Int.reduceToNat, Int.reduceLE, Int.reduceLT, Nat.reduceAdd, Nat.reduceLeDiff, intBin, strBin, unD, extractD, lit1, lit2, lit3, keptD, boxR, D.one, D.pub1, D.cells, splice, cutOwn]
      intro _
      refine draw_s ?_
      simp -dsimp only [h3, h0, hc, hr, w1, hx, hy, hlt, hlt', Nat.zero_add, List.getElem?_map, Option.map_some, ↓preB, postB, genB, ↓reduceIte, Nat.reduceEqDiff, Int.reduceToNat, Int.reduceLE, Int.reduceLT, Nat.reduceAdd, Nat.reduceLeDiff, intBin, strBin, unD, extractD, lit1, lit2, lit3, keptD, boxR, D.one, D.pub1, D.cells, splice, cutOwn]
      have hsl := s22Lo (g := s.get) (r := r) (off := 0) (a := k) (n := cs.length) (k := .i64) hkn
      cases he : (cs[k] == cs[k - 1])
      · simp -dsimp only [h3, h0, hc, hr, hsl, he, Bool.false_eq_true, if_false, ↓preB, postB, genB, ↓reduceIte, Nat.reduceEqDiff, Int.reduceToNat, Int.reduceLE, Int.reduceLT, Nat.reduceAdd, Nat.reduceLeDiff, intBin, strBin, unD, extractD, lit1, lit2, lit3, keptD, boxR, D.one, D.pub1, D.cells, splice, cutOwn]
        have hne : cs[k] ≠ cs[k - 1] := fun e => by rw [e, ba_refl] at he; cases he
        refine ⟨k + 1, ⟨by omega, by omega, fun j h1 hj h => ?_, wrap64_succ (by simp only [big]; omega)⟩, by omega⟩
        by_cases e : j = k
        · subst e; exact hne
        · exact hp j h1 (by omega) h
      · have hadj : Adj cs := ⟨k, hk1, hlt, ba_eq he⟩
        simp -dsimp only [h3, h0, hc, hr, hsl, he, if_true, Nat.zero_add, ↓preB, postB, genB, ↓reduceIte, Nat.reduceEqDiff, Int.reduceToNat, Int.reduceLE, Int.reduceLT, Nat.reduceAdd, Nat.reduceLeDiff, intBin, strBin, unD, extractD, lit1, lit2, lit3, keptD, boxR, D.one, D.pub1, D.cells, splice, cutOwn]
        refine pwp_loopG (fun (x : Nat × Nat × Wd) env τ => 1 ≤ x.1 ∧ x.1 ≤ cs.length - k ∧ k ≤ x.2.1 ∧ x.2.1 + 1 ≤ k + x.1 ∧ x.2.2.length = cs.length ∧ τ = s.set r (.cells 9 (x.2.2.map .str)) ∧ env 5 = .int .i64 (x.1 : Nat) ∧ env 3 = .int .i64 (x.2.1 : Nat) ∧ env 4 = .row r k (cs.length - k) none 1 ∧ env 0 = .row r 0 cs.length none 1) (fun x => cs.length - x.1) (1, k, cs) ?_ ?_
        · simp only [upd_apply, h3, h0, Nat.reduceEqDiff, if_true, if_false]
          exact ⟨Nat.le_refl _, by omega, Nat.le_refl _, Nat.le_refl _, by first | trivial | rfl, Heap.set_id hr, by first | trivial | rfl, by first | trivial | rfl, by first | trivial | rfl, by first | trivial | rfl⟩
        · rintro ⟨j, q, ws⟩ env τ ⟨g1, g2, g3, g4, g5, rfl, h5, h3, h4, h0⟩
          simp only [] at g1 g2 g3 g4 g5 h5 h3
          have hget : (s.set r (.cells 9 (ws.map .str))).get r = some (.cells 9 (ws.map .str)) := Heap.set_same _ _ _
          rcases Nat.lt_or_ge j (cs.length - k) with jlt | jge
          · have hcj : (j : Int) < ((cs.length - k : Nat) : Int) := by omega
            have w2 : IntKind.i64.wrap ((j : Int) - 1) = ((j - 1 : Nat) : Int) := by rw [wrap64_in (by omega) (by omega)]; omega
            have jx : ws[k + j]? = some ws[k + j] := List.getElem?_eq_getElem (by omega)
            have jy : ws[k + (j - 1)]? = some ws[k + (j - 1)] := List.getElem?_eq_getElem (by omega)
            have jlt' : j - 1 < cs.length - k := by omega
            simp -dsimp only [h5, h3, h4, h0, hcj, ↓preB, postB, genB, ↓reduceIte, Nat.reduceEqDiff, Int.reduceToNat, Int.reduceLE, Int.reduceLT, Nat.reduceAdd, Nat.reduceLeDiff, intBin, strBin, unD, extractD, lit1, lit2, lit3, keptD, boxR, D.one, D.pub1, D.cells, splice, cutOwn]
            intro _
            refine draw_s ?_
            simp -dsimp only [h5, h3, h4, h0, hcj, hget, w2, jx, jy, jlt, jlt', List.getElem?_map, Option.map_some, ↓preB, postB, genB, ↓reduceIte, Nat.reduceEqDiff, Int.reduceToNat, Int.reduceLE, Int.reduceLT, Nat.reduceAdd, Nat.reduceLeDiff, intBin, strBin, unD, extractD, lit1, lit2, lit3, keptD, boxR, D.one, D.pub1, D.cells, splice, cutOwn]
            cases hb : (ws[k + j] == ws[k + (j - 1)])
            · simp only [Bool.not_false, if_true]
              have hwq : IntKind.i64.wrap ((q : Int) + 1) = ((q + 1 : Nat) : Int) := wrap64_succ (by simp only [big]; omega)
              have hwj : IntKind.i64.wrap ((j : Int) + 1) = ((j + 1 : Nat) : Int) := wrap64_succ (by simp only [big]; omega)
              refine ⟨by omega, by omega, (j + 1, q + 1, ws.set q ws[k + j]), ⟨by simp only []; omega, by simp only []; omega, by simp only []; omega, by simp only []; omega, by simp only [List.length_set]; omega, ?_, hwj, hwq⟩, by simp only []; omega⟩
              simp only []
              rw [splice_one (by rw [List.length_map]; omega), List.map_set]
            · simp only [Bool.not_true, Bool.false_eq_true, if_false]
              exact ⟨(j + 1, q, ws), ⟨by simp only []; omega, by simp only []; omega, by simp only []; omega, by simp only []; omega, g5, rfl, wrap64_succ (by simp only [big]; omega), rfl⟩, by simp only []; omega⟩
          · have hcj : ¬ (j : Int) < ((cs.length - k : Nat) : Int) := by omega
            simp -dsimp only [h5, h3, h4, h0, hcj, ↓preB, postB, genB, ↓reduceIte, Nat.reduceEqDiff, Int.reduceToNat, Int.reduceLE, Int.reduceLT, Nat.reduceAdd, Nat.reduceLeDiff, intBin, strBin, unD, extractD, lit1, lit2, lit3, keptD, boxR, D.one, D.pub1, D.cells, splice, cutOwn]
            have hq1 : q ≤ cs.length := by omega
            have sl1 := s22Lo (g := (s.set r (.cells 9 (ws.map .str))).get) (r := r) (off := 0) (a := q) (n := cs.length) (k := .i64) hq1
            have cl1 := clr22 (g := (s.set r (.cells 9 (ws.map .str))).get) (r := r) (off := q) (n := cs.length - q) hget (by rw [List.length_map]; omega)
            intro _
            simp -dsimp only [h5, h3, h4, h0, sl1, cl1, fun g => s22Hi (g := g) (r := r) (off := 0) (a := q) (n := cs.length) (k := .i64) hq1, ↓preB, postB, genB, ↓reduceIte, Nat.reduceEqDiff, Int.reduceToNat, Int.reduceLE, Int.reduceLT, Nat.reduceAdd, Nat.reduceLeDiff, intBin, strBin, unD, extractD, lit1, lit2, lit3, keptD, boxR, D.one, D.pub1, D.cells, splice, cutOwn]
            exact Ret.now (Nat.le_refl _) ⟨q, rfl, .inr ⟨by omega, hadj⟩, rfl, fun q' hq => by rw [Heap.set_ne _ _ hq]⟩
    · have hc : ¬ (k : Int) < cs.length := by omega
      simp -dsimp only [h3, h0, hc, ↓preB, postB, genB, ↓reduceIte, Nat.reduceEqDiff, Int.reduceToNat, Int.reduceLE, Int.reduceLT, Nat.reduceAdd, Nat.reduceLeDiff, intBin, strBin, unD, extractD, lit1, lit2, lit3, keptD, boxR, D.one, D.pub1, D.cells, splice, cutOwn]
      intros
      exact Ret.now (Nat.le_refl _) ⟨cs.length, rfl, .inl ⟨rfl, fun ⟨j, h1, h3, h4⟩ => hp j h1 (by omega) h3 h4⟩, rfl, fun _ _ => rfl⟩
end Go.Proofs.Ytapkbkniooleaaa.Vs
