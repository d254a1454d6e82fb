/- What the functions on words that begin with others come to. -/
import Derived.Test.YtldlcejlfaogbaaGreatDoorFnB
namespace Go.Proofs.YtldlcejlfaogbaaGreatDoor.Vs
set_option linter.unusedVariables false
set_option linter.unusedSimpArgs false
set_option maxRecDepth 20000
theorem bl_irrefl : ∀ l : List UInt8, Op.bytesLess l l = false
  | [] => rfl
  | x :: l => by
    have := bl_irrefl l
    simp [Op.bytesLess, this]
theorem strLt_irrefl (s : ByteArray) : strLt s s = false := bl_irrefl _

theorem ordW_eqW : ∀ (a b : Wd), (ordW a b == 0) = eqW a b
  | [], [] => rfl
  | [], _ :: _ => rfl
  | _ :: _, [] => rfl
  | x :: a, y :: b => by
    have ih := ordW_eqW a b
    simp only [ordW, eqW]
    cases c2 : (x == y)
    · cases c1 : strLt x y <;> simp
    · have := ba_eq c2
      subst this
      simp [strLt_irrefl, ih]

theorem Same_c (a b : Wd) : Fn Zs 15 [encSS a, encSS b] (.bool (eqW a b)) := by
  refine fn_of (Z := Zs) ok15 fun σ hcl hbl => ?_
  simp -dsimp only [L15, ↓preB, postB, genB, ↓reduceIte, Nat.reduceEqDiff, Int.reduceToNat, Int.reduceLE, Int.reduceLT, Nat.reduceAdd, Nat.reduceLeDiff, intBin, strBin, unD, extractD, lit1, lit2, lit3, keptD, boxR, D.one, D.pub1, D.cells, splice, cutOwn]
  refine Fn.use (Order_c a b) ?_
  simp -dsimp only [↓preB, postB, genB, ↓reduceIte, Nat.reduceEqDiff, Int.reduceToNat, Int.reduceLE, Int.reduceLT, Nat.reduceAdd, Nat.reduceLeDiff, intBin, strBin, unD, extractD, lit1, lit2, lit3, keptD, boxR, D.one, D.pub1, D.cells, splice, cutOwn]
  exact Ret.is (by rw [← ordW_eqW])

theorem Compare_c (a b : Wd) : Fn Zs 61 [encSS a, encSS b] (.int .i64 (ordW a b)) := by
  refine fn_of (Z := Zs) ok61 fun σ hcl hbl => ?_
  simp -dsimp only [L61, encSS, ↓preB, postB, genB, ↓reduceIte, Nat.reduceEqDiff, Int.reduceToNat, Int.reduceLE, Int.reduceLT, Nat.reduceAdd, Nat.reduceLeDiff, intBin, strBin, unD, extractD, lit1, lit2, lit3, keptD, boxR, D.one, D.pub1, D.cells, splice, cutOwn]
  intro hbig
  refine pwp_loopG (fun k env s => k ≤ a.length ∧ k ≤ b.length ∧ ordW (a.drop k) (b.drop k) = ordW a b ∧ s = σ ∧ env 11 = .int .i64 (k:Nat) ∧ env 10 = .int .i64 a.length ∧ env 9 = encSS a ∧ env 0 = encSS a ∧ env 1 = encSS b) (fun k => a.length - k) 0 ?_ ?_
  · simp [upd_apply, envOf, encSS]
  · rintro k env s ⟨hk, hk', hp, rfl, h11, h10, h9, h0, h1⟩
    rcases Nat.lt_or_ge k a.length with hlt | hge
    · have hx : a[k]? = some a[k] := List.getElem?_eq_getElem hlt
      rcases Nat.lt_or_ge k b.length with hlt' | hge'
      · have hy : b[k]? = some b[k] := List.getElem?_eq_getElem hlt'
        have hn : ¬ (b.length ≤ k) := by omega
        rw [List.drop_eq_getElem_cons hlt, List.drop_eq_getElem_cons hlt', ordW_cons] at hp
        simp -dsimp only [h11, h10, h9, h0, h1, encSS, hlt, hx, hlt', hy, hn, Int.ofNat_le, ↓preB, postB, genB, ↓reduceIte, Nat.reduceEqDiff, Int.reduceToNat, Int.reduceLE, Int.reduceLT, Nat.reduceAdd, Nat.reduceLeDiff, intBin, strBin, unD, extractD, lit1, lit2, lit3, keptD, boxR, D.one, D.pub1, D.cells, splice, cutOwn]
        refine ⟨by omega, fun hb2 => ⟨by omega, Fn.use (cmp_c _ _) ?_⟩⟩
        by_cases c1 : cmpS a[k] b[k] = 0
        · have c2 : (cmpS a[k] b[k] != 0) = false := by simp [c1]
          simp -dsimp only [h11, h10, h9, h0, h1, encSS, hlt, hx, hlt', hy, hn, c2, ↓preB, postB, genB, ↓reduceIte, Nat.reduceEqDiff, Int.reduceToNat, Int.reduceLE, Int.reduceLT, Nat.reduceAdd, Nat.reduceLeDiff, intBin, strBin, unD, extractD, lit1, lit2, lit3, keptD, boxR, D.one, D.pub1, D.cells, splice, cutOwn]
          rw [if_pos c1] at hp
          exact ⟨k + 1, ⟨by omega, by omega, hp, wrap64_succ (by omega)⟩, by omega⟩
        · have c2 : (cmpS a[k] b[k] != 0) = true := by simp [c1]
          simp -dsimp only [h11, h10, h9, h0, h1, encSS, hlt, hx, hlt', hy, hn, c2, ↓preB, postB, genB, ↓reduceIte, Nat.reduceEqDiff, Int.reduceToNat, Int.reduceLE, Int.reduceLT, Nat.reduceAdd, Nat.reduceLeDiff, intBin, strBin, unD, extractD, lit1, lit2, lit3, keptD, boxR, D.one, D.pub1, D.cells, splice, cutOwn]
          rw [if_neg c1] at hp
          exact Ret.is (by rw [← hp])
      · have hn : b.length ≤ k := by omega
        simp -dsimp only [h11, h10, h9, h0, h1, encSS, hlt, hx, hn, Int.ofNat_le, ↓preB, postB, genB, ↓reduceIte, Nat.reduceEqDiff, Int.reduceToNat, Int.reduceLE, Int.reduceLT, Nat.reduceAdd, Nat.reduceLeDiff, intBin, strBin, unD, extractD, lit1, lit2, lit3, keptD, boxR, D.one, D.pub1, D.cells, splice, cutOwn]
        refine ⟨by omega, fun _ => Ret.is ?_⟩
        rw [← hp, List.drop_of_length_le hge', List.drop_eq_getElem_cons hlt]; rfl
    · by_cases hl : a.length < b.length
      · simp -dsimp only [h11, h10, h9, h0, h1, encSS, Nat.not_lt.2 hge, hl, ↓preB, postB, genB, ↓reduceIte, Nat.reduceEqDiff, Int.reduceToNat, Int.reduceLE, Int.reduceLT, Nat.reduceAdd, Nat.reduceLeDiff, intBin, strBin, unD, extractD, lit1, lit2, lit3, keptD, boxR, D.one, D.pub1, D.cells, splice, cutOwn]
        intros
        refine Ret.is ?_
        rw [← hp, List.drop_of_length_le hge, List.drop_eq_getElem_cons (by omega : k < b.length)]; rfl
      · simp -dsimp only [h11, h10, h9, h0, h1, encSS, Nat.not_lt.2 hge, hl, ↓preB, postB, genB, ↓reduceIte, Nat.reduceEqDiff, Int.reduceToNat, Int.reduceLE, Int.reduceLT, Nat.reduceAdd, Nat.reduceLeDiff, intBin, strBin, unD, extractD, lit1, lit2, lit3, keptD, boxR, D.one, D.pub1, D.cells, splice, cutOwn]
        intros
        refine Ret.is ?_
        rw [← hp, List.drop_of_length_le hge, List.drop_of_length_le (by omega)]; rfl

theorem eqW_len : ∀ {a b : Wd}, a.length ≠ b.length → eqW a b = false
  | [], [], h => absurd rfl h
  | [], _ :: _, _ => rfl
  | _ :: _, [], _ => rfl
  | x :: a, y :: b, h => by simp only [eqW, eqW_len (a := a) (b := b) (by simpa using h), Bool.and_false]

theorem Equal_c (a b : Wd) : Fn Zs 79 [encSS a, encSS b] (.bool (eqW a b)) := by
  refine fn_of (Z := Zs) ok79 fun σ hcl hbl => ?_
  simp -dsimp only [L79, encSS, ↓preB, postB, genB, ↓reduceIte, Nat.reduceEqDiff, Int.reduceToNat, Int.reduceLE, Int.reduceLT, Nat.reduceAdd, Nat.reduceLeDiff, intBin, strBin, unD, extractD, lit1, lit2, lit3, keptD, boxR, D.one, D.pub1, D.cells, splice, cutOwn]
  by_cases hne : a.length = b.length
  · have c0 : ((a.length : Int) != (b.length : Int)) = false := by simp [hne]
    simp -dsimp only [encSS, c0, ↓preB, postB, genB, ↓reduceIte, Nat.reduceEqDiff, Int.reduceToNat, Int.reduceLE, Int.reduceLT, Nat.reduceAdd, Nat.reduceLeDiff, intBin, strBin, unD, extractD, lit1, lit2, lit3, keptD, boxR, D.one, D.pub1, D.cells, splice, cutOwn]
    intro hb1 hb2 hb3
    refine pwp_loopG (fun k env s => k ≤ a.length ∧ eqW (a.drop k) (b.drop k) = eqW a b ∧ s = σ ∧ env 13 = .int .i64 (k:Nat) ∧ env 12 = .int .i64 a.length ∧ env 0 = encSS a ∧ env 1 = encSS b) (fun k => a.length - k) 0 ?_ ?_
    · simp [upd_apply, envOf, encSS]
    · rintro k env s ⟨hk, hp, rfl, h13, h12, h0, h1⟩
      rcases Nat.lt_or_ge k a.length with hlt | hge
      · have hlt' : k < b.length := by omega
        have hx : a[k]? = some a[k] := List.getElem?_eq_getElem hlt
        have hy : b[k]? = some b[k] := List.getElem?_eq_getElem hlt'
        rw [List.drop_eq_getElem_cons hlt, List.drop_eq_getElem_cons hlt', eqW] at hp
        simp -dsimp only [h13, h12, h0, h1, encSS, hlt, hx, hlt', hy, ↓preB, postB, genB, ↓reduceIte, Nat.reduceEqDiff, Int.reduceToNat, Int.reduceLE, Int.reduceLT, Nat.reduceAdd, Nat.reduceLeDiff, intBin, strBin, unD, extractD, lit1, lit2, lit3, keptD, boxR, D.one, D.pub1, D.cells, splice, cutOwn]
        refine draw_s ?_
        cases c1 : (a[k] == b[k])
        · simp -dsimp only [h13, h12, h0, h1, encSS, hlt, hx, hlt', hy, c1, ↓preB, postB, genB, ↓reduceIte, Nat.reduceEqDiff, Int.reduceToNat, Int.reduceLE, Int.reduceLT, Nat.reduceAdd, Nat.reduceLeDiff, intBin, strBin, unD, extractD, lit1, lit2, lit3, keptD, boxR, D.one, D.pub1, D.cells, splice, cutOwn]
          exact ⟨by omega, by omega, Ret.is (by rw [← hp, c1]; rfl)⟩
        · simp -dsimp only [h13, h12, h0, h1, encSS, hlt, hx, hlt', hy, c1, ↓preB, postB, genB, ↓reduceIte, Nat.reduceEqDiff, Int.reduceToNat, Int.reduceLE, Int.reduceLT, Nat.reduceAdd, Nat.reduceLeDiff, intBin, strBin, unD, extractD, lit1, lit2, lit3, keptD, boxR, D.one, D.pub1, D.cells, splice, cutOwn]
          refine ⟨by omega, by omega, k + 1, ⟨by omega, ?_, wrap64_succ (by omega)⟩, by omega⟩
          rw [← hp, c1]; simp
      · simp -dsimp only [h13, h12, h0, h1, encSS, Nat.not_lt.2 hge, ↓preB, postB, genB, ↓reduceIte, Nat.reduceEqDiff, Int.reduceToNat, Int.reduceLE, Int.reduceLT, Nat.reduceAdd, Nat.reduceLeDiff, intBin, strBin, unD, extractD, lit1, lit2, lit3, keptD, boxR, D.one, D.pub1, D.cells, splice, cutOwn]
        refine Ret.is ?_
        rw [← hp, List.drop_of_length_le hge, List.drop_of_length_le (by omega)]; rfl
  · have c0 : ((a.length : Int) != (b.length : Int)) = true := by simp; omega
    simp -dsimp only [encSS, c0, ↓preB, postB, genB, ↓reduceIte, Nat.reduceEqDiff, Int.reduceToNat, Int.reduceLE, Int.reduceLT, Nat.reduceAdd, Nat.reduceLeDiff, intBin, strBin, unD, extractD, lit1, lit2, lit3, keptD, boxR, D.one, D.pub1, D.cells, splice, cutOwn]
    intros
    exact Ret.is (by rw [eqW_len hne])

theorem begW_take : ∀ (w x : Wd), begW w x = (decide (x.length ≤ w.length) && eqW (w.take x.length) x)
  | w, [] => by cases w <;> simp [begW, eqW]
  | [], _ :: _ => by simp [begW]
  | a :: w, x :: xs => by
    simp only [begW, begW_take w xs, List.length_cons, List.take_succ_cons, eqW, Nat.add_le_add_iff_right]
    cases (a == x) <;> cases decide (xs.length ≤ w.length) <;> simp

theorem encSS_take (w : Wd) (n : Nat) (h : n ≤ w.length) : D.sl .no n ((w.map D.str).take n) = encSS (w.take n) := by
  simp only [encSS, List.map_take, List.length_take, Nat.min_eq_left h]

theorem begins_c (w x : Wd) : Fn Zs 83 [encSS w, encSS x] (.bool (begW w x)) := by
  refine fn_of (Z := Zs) ok83 fun σ hcl hbl => ?_
  simp -dsimp only [L83, encSS, ↓preB, postB, genB, ↓reduceIte, Nat.reduceEqDiff, Int.reduceToNat, Int.reduceLE, Int.reduceLT, Nat.reduceAdd, Nat.reduceLeDiff, intBin, strBin, unD, extractD, lit1, lit2, lit3, keptD, boxR, D.one, D.pub1, D.cells, splice, cutOwn]
  by_cases c : x.length ≤ w.length
  · simp -dsimp only [encSS, c, Int.ofNat_le, ↓preB, postB, genB, ↓reduceIte, Nat.reduceEqDiff, Int.reduceToNat, Int.reduceLE, Int.reduceLT, Nat.reduceAdd, Nat.reduceLeDiff, intBin, strBin, unD, extractD, lit1, lit2, lit3, keptD, boxR, D.one, D.pub1, D.cells, splice, cutOwn]
    intros
    rw [Nat.sub_zero, encSS_take w _ c]
    refine ⟨by omega, Fn.use (Equal_c (w.take x.length) x) ?_⟩
    simp -dsimp only [encSS, c, Int.ofNat_le, ↓preB, postB, genB, ↓reduceIte, Nat.reduceEqDiff, Int.reduceToNat, Int.reduceLE, Int.reduceLT, Nat.reduceAdd, Nat.reduceLeDiff, intBin, strBin, unD, extractD, lit1, lit2, lit3, keptD, boxR, D.one, D.pub1, D.cells, splice, cutOwn]
    exact Ret.is (by rw [begW_take]; simp [c])
  · simp -dsimp only [encSS, c, Int.ofNat_le, ↓preB, postB, genB, ↓reduceIte, Nat.reduceEqDiff, Int.reduceToNat, Int.reduceLE, Int.reduceLT, Nat.reduceAdd, Nat.reduceLeDiff, intBin, strBin, unD, extractD, lit1, lit2, lit3, keptD, boxR, D.one, D.pub1, D.cells, splice, cutOwn]
    intros
    exact Ret.is (by rw [begW_take]; simp [c])

theorem refBegins_c (w x : Wd) : Fn Zs 65 [encSS w, encSS x] (.bool (begW w x)) := by
  refine fn_of (Z := Zs) ok65 fun σ hcl hbl => ?_
  simp -dsimp only [L65, encSS, ↓preB, postB, genB, ↓reduceIte, Nat.reduceEqDiff, Int.reduceToNat, Int.reduceLE, Int.reduceLT, Nat.reduceAdd, Nat.reduceLeDiff, intBin, strBin, unD, extractD, lit1, lit2, lit3, keptD, boxR, D.one, D.pub1, D.cells, splice, cutOwn]
  by_cases c : x.length ≤ w.length
  · simp -dsimp only [encSS, c, Int.ofNat_le, ↓preB, postB, genB, ↓reduceIte, Nat.reduceEqDiff, Int.reduceToNat, Int.reduceLE, Int.reduceLT, Nat.reduceAdd, Nat.reduceLeDiff, intBin, strBin, unD, extractD, lit1, lit2, lit3, keptD, boxR, D.one, D.pub1, D.cells, splice, cutOwn]
    intros
    rw [Nat.sub_zero, encSS_take w _ c]
    refine ⟨by omega, Fn.use (Same_c (w.take x.length) x) ?_⟩
    simp -dsimp only [encSS, c, Int.ofNat_le, ↓preB, postB, genB, ↓reduceIte, Nat.reduceEqDiff, Int.reduceToNat, Int.reduceLE, Int.reduceLT, Nat.reduceAdd, Nat.reduceLeDiff, intBin, strBin, unD, extractD, lit1, lit2, lit3, keptD, boxR, D.one, D.pub1, D.cells, splice, cutOwn]
    exact Ret.is (by rw [begW_take]; simp [c])
  · simp -dsimp only [encSS, c, Int.ofNat_le, ↓preB, postB, genB, ↓reduceIte, Nat.reduceEqDiff, Int.reduceToNat, Int.reduceLE, Int.reduceLT, Nat.reduceAdd, Nat.reduceLeDiff, intBin, strBin, unD, extractD, lit1, lit2, lit3, keptD, boxR, D.one, D.pub1, D.cells, splice, cutOwn]
    intros
    exact Ret.is (by rw [begW_take]; simp [c])

structure Sh where
  From : Wd
  To : Wd
def rowsD : List Sh → List D
  | [] => []
  | r :: t => encSS r.From :: encSS r.To :: rowsD t
def encT (t : List Sh) : D := .sl .no t.length (rowsD t)
theorem rowsD_len : ∀ t : List Sh, (rowsD t).length = t.length * 2
  | [] => rfl
  | r :: t => by simp only [rowsD, List.length_cons, rowsD_len t]; omega
theorem rowsD_drop : ∀ (t : List Sh) (k : Nat), (rowsD t).drop (k * 2) = rowsD (t.drop k)
  | t, 0 => by simp
  | [], k + 1 => by simp [rowsD]
  | r :: t, k + 1 => by
    rw [Nat.succ_mul, rowsD]
    simp [rowsD_drop t k]
theorem rowsD_at {t : List Sh} {k : Nat} (h : k < t.length) : (rowsD t).drop (k * 2) = encSS t[k].From :: encSS t[k].To :: rowsD (t.drop (k + 1)) := by
  rw [rowsD_drop, List.drop_eq_getElem_cons h, rowsD]

/-- The row with the longest From that a word begins with. -/
def longer (t : List Sh) (b : Option Nat) (n : Nat) : Bool := match b with | none => true | some j => decide (((t[j]?).map (·.From.length)).getD 0 < n)
def bestI (t : List Sh) (b : Option Nat) (k : Nat) (w : Wd) : Option Nat :=
  match t[k]? with
  | none => b
  | some r => if (begW w r.From && longer t b r.From.length) = true then some k else b
def fitFrom (t : List Sh) (w : Wd) : Nat → Option Nat → Nat → Option Nat
  | 0, b, _ => b
  | n + 1, b, k => fitFrom t w n (bestI t b k w) (k + 1)
def fitW (t : List Sh) (w : Wd) : Option Nat := fitFrom t w t.length none 0
def optI (b : Option Nat) : Int := match b with | some i => i | none => -1
theorem optI_none : optI none = -1 := rfl
theorem optI_some {j : Nat} : optI (some j) = (j : Int) := rfl
theorem neg1 : ((-1 : Int) < 0) = True := by simp
theorem natneg {j : Nat} : ((j : Int) < 0) = False := by simp

theorem row_c (t : List Sh) (w : Wd) : Fn Zs 53 [encT t, encSS w] (.int .i64 (optI (fitW t w))) := by
  refine fn_of (Z := Zs) ok53 fun σ hcl hbl => ?_
  simp -dsimp only [L53, encT, ↓preB, postB, genB, ↓reduceIte, Nat.reduceEqDiff, Int.reduceToNat, Int.reduceLE, Int.reduceLT, Nat.reduceAdd, Nat.reduceLeDiff, intBin, strBin, unD, extractD, lit1, lit2, lit3, keptD, boxR, D.one, D.pub1, D.cells, splice, cutOwn]
  refine pwp_loopG (fun k env s => k ≤ t.length ∧ (∃ b, (∀ j, b = some j → j < k) ∧ env 5 = .int .i64 (optI b) ∧ fitFrom t w (t.length - k) b k = fitW t w) ∧ s = σ ∧ env 6 = .int .i64 (k:Nat) ∧ env 0 = encT t ∧ env 1 = encSS w) (fun k => t.length - k) 0 ?_ ?_
  · simp only [upd_apply, envOf_apply, encT, Nat.reduceEqDiff, if_true, if_false]
    exact ⟨Nat.zero_le _, ⟨none, by simp, rfl, rfl⟩, trivial, rfl, rfl, rfl⟩
  · rintro k env s ⟨hk, ⟨b, hb, h5, hp⟩, rfl, h6, h0, h1⟩
    rcases Nat.lt_or_ge k t.length with hlt | hge
    · have hd := rowsD_at hlt
      have hpos : 0 < (rowsD t).length := by rw [rowsD_len]; omega
      rw [show t.length - k = (t.length - (k + 1)) + 1 by omega, fitFrom] at hp
      have hx : t[k]? = some t[k] := List.getElem?_eq_getElem hlt
      simp -dsimp only [h5, h6, h0, h1, encT, hlt, hd, ↓preB, postB, genB, ↓reduceIte, Nat.reduceEqDiff, Int.reduceToNat, Int.reduceLE, Int.reduceLT, Nat.reduceAdd, Nat.reduceLeDiff, intBin, strBin, unD, extractD, lit1, lit2, lit3, keptD, boxR, D.one, D.pub1, D.cells, splice, cutOwn]
      intro hbig
      refine draw_s ?_
      simp -dsimp only [h5, h6, h0, h1, encT, hlt, hd, ↓preB, postB, genB, ↓reduceIte, Nat.reduceEqDiff, Int.reduceToNat, Int.reduceLE, Int.reduceLT, Nat.reduceAdd, Nat.reduceLeDiff, intBin, strBin, unD, extractD, lit1, lit2, lit3, keptD, boxR, D.one, D.pub1, D.cells, splice, cutOwn]
      refine ⟨hpos, Fn.useS (refBegins_c w _) ?_⟩
      have hnext : ∀ c : Bool, (begW w t[k].From && longer t b t[k].From.length) = c → bestI t b k w = if c = true then some k else b := fun c hc => by
        simp only [bestI, hx, hc]
      cases c1 : begW w t[k].From
      · simp -dsimp only [h5, h6, h0, h1, encT, hlt, hd, ↓preB, postB, genB, ↓reduceIte, Nat.reduceEqDiff, Int.reduceToNat, Int.reduceLE, Int.reduceLT, Nat.reduceAdd, Nat.reduceLeDiff, intBin, strBin, unD, extractD, lit1, lit2, lit3, keptD, boxR, D.one, D.pub1, D.cells, splice, cutOwn]
        rw [hnext false (by rw [c1]; rfl)] at hp
        exact ⟨k + 1, ⟨by omega, ⟨b, fun j hj => by have := hb j hj; omega, rfl, hp⟩, wrap64_succ (by omega)⟩, by omega⟩
      · cases b with
        | none =>
          simp -dsimp only [h5, h6, h0, h1, encT, hlt, hd, optI_none, neg1, ↓preB, postB, genB, ↓reduceIte, Nat.reduceEqDiff, Int.reduceToNat, Int.reduceLE, Int.reduceLT, Nat.reduceAdd, Nat.reduceLeDiff, intBin, strBin, unD, extractD, lit1, lit2, lit3, keptD, boxR, D.one, D.pub1, D.cells, splice, cutOwn]
          rw [hnext true (by rw [c1]; rfl)] at hp
          exact ⟨k + 1, ⟨by omega, ⟨some k, fun j hj => by cases hj; omega, rfl, hp⟩, wrap64_succ (by omega)⟩, by omega⟩
        | some j =>
          have hj := hb j rfl
          have hjt : j < t.length := by omega
          have hdj := rowsD_at hjt
          have hlj : longer t (some j) t[k].From.length = decide (t[j].From.length < t[k].From.length) := by simp [longer, hjt]
          by_cases c2 : t[j].From.length < t[k].From.length
          · simp -dsimp only [h5, h6, h0, h1, encT, encSS, hlt, hjt, hd, hdj, optI_some, natneg, hpos, c2, ↓preB, postB, genB, ↓reduceIte, Nat.reduceEqDiff, Int.reduceToNat, Int.reduceLE, Int.reduceLT, Nat.reduceAdd, Nat.reduceLeDiff, intBin, strBin, unD, extractD, lit1, lit2, lit3, keptD, boxR, D.one, D.pub1, D.cells, splice, cutOwn]
            rw [hnext true (by rw [c1, hlj]; simp [c2])] at hp
            exact ⟨k + 1, ⟨by omega, ⟨some k, fun j hj => by cases hj; omega, rfl, hp⟩, wrap64_succ (by omega)⟩, by omega⟩
          · simp -dsimp only [h5, h6, h0, h1, encT, encSS, hlt, hjt, hd, hdj, optI_some, natneg, hpos, c2, ↓preB, postB, genB, ↓reduceIte, Nat.reduceEqDiff, Int.reduceToNat, Int.reduceLE, Int.reduceLT, Nat.reduceAdd, Nat.reduceLeDiff, intBin, strBin, unD, extractD, lit1, lit2, lit3, keptD, boxR, D.one, D.pub1, D.cells, splice, cutOwn]
            rw [hnext false (by rw [c1, hlj]; simp; omega)] at hp
            exact ⟨k + 1, ⟨by omega, ⟨some j, fun j' hj' => by cases hj'; omega, rfl, hp⟩, wrap64_succ (by omega)⟩, by omega⟩
    · simp -dsimp only [h5, h6, h0, h1, encT, Nat.not_lt.2 hge, ↓preB, postB, genB, ↓reduceIte, Nat.reduceEqDiff, Int.reduceToNat, Int.reduceLE, Int.reduceLT, Nat.reduceAdd, Nat.reduceLeDiff, intBin, strBin, unD, extractD, lit1, lit2, lit3, keptD, boxR, D.one, D.pub1, D.cells, splice, cutOwn]
      intros
      refine Ret.is ?_
      rw [← hp, show t.length - k = 0 by omega]; rfl
end Go.Proofs.YtldlcejlfaogbaaGreatDoor.Vs
