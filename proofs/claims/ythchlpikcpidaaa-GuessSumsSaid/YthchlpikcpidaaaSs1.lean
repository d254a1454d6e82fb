/- Stable sorting by slices.SortStableFunc: the plain law of symMerge: two sorted rows behind one another are cut at one place each, turned round in the middle, and each half is merged by itself. No program in sight. -/
namespace Go.Proofs.Ythchlpikcpidaaa.Vs
section
variable {α : Type} {T : α → α → Prop}
/-- Two merged halves make one. -/
theorem merge_halves {X1 X2 Y1 Y2 Z1 Z2 : List α} (hX : (X1 ++ X2).Pairwise T) (hY : (Y1 ++ Y2).Pairwise T)
    (h1 : ∀ x ∈ X1, ∀ y ∈ Y2, T x y) (h2 : ∀ y ∈ Y1, ∀ x ∈ X2, T y x) (p1 : Z1.Perm (X1 ++ Y1)) (s1 : Z1.Pairwise T) (p2 : Z2.Perm (X2 ++ Y2)) (s2 : Z2.Pairwise T) :
    (Z1 ++ Z2).Pairwise T ∧ (Z1 ++ Z2).Perm ((X1 ++ X2) ++ (Y1 ++ Y2)) := by
  rw [List.pairwise_append] at hX hY
  refine ⟨List.pairwise_append.2 ⟨s1, s2, fun a ha b hb => ?_⟩, ?_⟩
  · have ha' := List.mem_append.1 (p1.mem_iff.1 ha)
    have hb' := List.mem_append.1 (p2.mem_iff.1 hb)
    rcases ha' with ha' | ha' <;> rcases hb' with hb' | hb'
    · exact hX.2.2 a ha' b hb'
    · exact h1 a ha' b hb'
    · exact h2 a ha' b hb'
    · exact hY.2.2 a ha' b hb'
  · refine (p1.append p2).trans ?_
    have e1 : (X1 ++ Y1 ++ (X2 ++ Y2)).Perm (X1 ++ (X2 ++ (Y1 ++ Y2))) := by
      rw [List.append_assoc]
      refine (List.Perm.append_left X1 ?_)
      rw [← List.append_assoc, ← List.append_assoc]
      exact (List.perm_append_comm).append_right Y2
    rw [List.append_assoc X1 X2]
    exact e1
/-- In a sorted row what stands earlier is less. -/
theorem sorted_at {l : List α} (h : l.Pairwise T) {i j : Nat} (hij : i < j) (hj : j < l.length) : T (l[i]'(by omega)) l[j] := List.pairwise_iff_getElem.1 h i j (by omega) hj hij
/-- Cut at the places that the search has found: X before i, Y before j: all of X's first part is less than Y's second, all of Y's first part less than X's second. -/
theorem cut_cross (tr : ∀ {a b c : α}, T a b → T b c → T a c) {X Y : List α} (hX : X.Pairwise T) (hY : Y.Pairwise T) {i j : Nat} (hi : i ≤ X.length) (hj : j ≤ Y.length)
    (h1 : ∀ (a : 0 < i) (b : j < Y.length), T (X[i - 1]'(by omega)) Y[j]) (h2 : ∀ (a : 0 < j) (b : i < X.length), T (Y[j - 1]'(by omega)) X[i]) :
    (∀ x ∈ X.take i, ∀ y ∈ Y.drop j, T x y) ∧ (∀ y ∈ Y.take j, ∀ x ∈ X.drop i, T y x) := by
  have one : ∀ {X Y : List α}, X.Pairwise T → Y.Pairwise T → ∀ {i j : Nat}, i ≤ X.length → j ≤ Y.length → (∀ (a : 0 < i) (hi : i - 1 < X.length) (b : j < Y.length), T X[i - 1] Y[j]) → ∀ x ∈ X.take i, ∀ y ∈ Y.drop j, T x y := by
    intro X Y hX hY i j hi hj h x hx y hy
    obtain ⟨p, hp, rfl⟩ := List.getElem_of_mem hx
    obtain ⟨q, hq, rfl⟩ := List.getElem_of_mem hy
    rw [List.length_take] at hp
    rw [List.length_drop] at hq
    rw [List.getElem_take, List.getElem_drop]
    have hm := h (by omega) (by omega) (by omega)
    have a1 : p = i - 1 ∨ T (X[p]'(by omega)) (X[i - 1]'(by omega)) := by
      by_cases c : p = i - 1
      · exact .inl c
      · exact .inr (sorted_at hX (by omega) (by omega))
    have a2 : q = 0 ∨ T (Y[j]'(by omega)) (Y[j + q]'(by omega)) := by
      by_cases c : q = 0
      · exact .inl c
      · exact .inr (sorted_at hY (by omega) (by omega))
    have m1 : T (X[p]'(by omega)) (Y[j]'(by omega)) := by
      rcases a1 with a1 | a1
      · subst a1; exact hm
      · exact tr a1 hm
    rcases a2 with a2 | a2
    · subst a2; exact m1
    · exact tr m1 a2
  exact ⟨one hX hY hi hj fun a _ b => h1 a b, one hY hX hj hi fun a _ b => h2 a b⟩
/-- A row of one put into a sorted row. -/
theorem insert_one (tr : ∀ {a b c : α}, T a b → T b c → T a c) {Y : List α} (hY : Y.Pairwise T) (x : α) {j : Nat} (hj : j ≤ Y.length) (h1 : ∀ (a : 0 < j), T (Y[j - 1]'(by omega)) x) (h2 : ∀ (b : j < Y.length), T x Y[j]) :
    (Y.take j ++ x :: Y.drop j).Pairwise T ∧ (Y.take j ++ x :: Y.drop j).Perm (x :: Y) := by
  have c1 := cut_cross (T := T) tr (X := [x]) (Y := Y) (List.pairwise_singleton T x) hY (i := 0) (j := j) (Nat.zero_le _) hj (fun a => absurd a (Nat.lt_irrefl _)) (by intro a b; exact h1 a)
  have c2 := cut_cross (T := T) tr (X := [x]) (Y := Y) (List.pairwise_singleton T x) hY (i := 1) (j := j) (Nat.le_refl _) hj (by intro a b; exact h2 b) (by intro a b; exact absurd b (by simp))
  have hp := hY
  rw [← List.take_append_drop j Y, List.pairwise_append] at hp
  refine ⟨List.pairwise_append.2 ⟨hp.1, List.pairwise_cons.2 ⟨fun y hy => c2.1 x (by simp) y hy, hp.2.1⟩, fun a ha b hb => ?_⟩, ?_⟩
  · rcases List.mem_cons.1 hb with rfl | hb
    · exact c1.2 a ha b (by simp)
    · exact hp.2.2 a ha b hb
  · have e := (List.perm_middle (a := x) (l₁ := Y.take j) (l₂ := Y.drop j))
    rwa [List.take_append_drop] at e
/-- What is sorted and of the same things is the same. -/
theorem sorted_one (ir : ∀ a : α, ¬ T a a) (tr : ∀ {a b c : α}, T a b → T b c → T a c) : ∀ {l m : List α}, l.Perm m → l.Pairwise T → m.Pairwise T → l = m
  | [], m, hp, _, _ => (List.Perm.nil_eq hp)
  | x :: l, [], hp, _, _ => by have := hp.length_eq; simp at this
  | x :: l, y :: m, hp, hl, hm => by
    rw [List.pairwise_cons] at hl hm
    have hx := List.mem_cons.1 (hp.mem_iff.1 (List.mem_cons_self (a := x) (l := l)))
    have hy := List.mem_cons.1 (hp.mem_iff.2 (List.mem_cons_self (a := y) (l := m)))
    have e : x = y := by
      rcases hx with hx | hx
      · exact hx
      · rcases hy with hy | hy
        · exact hy.symm
        · exact absurd (tr (hl.1 y hy) (hm.1 x hx)) (ir x)
    subst e
    rw [sorted_one ir tr (List.Perm.cons_inv hp) hl.2 hm.2]
/-- Two ranges of one length, changed with one another. -/
def swapR (l : List α) (x y n : Nat) : List α := l.take x ++ (l.drop y).take n ++ (l.drop (x + n)).take (y - (x + n)) ++ (l.drop x).take n ++ l.drop (y + n)
theorem swapR_is (P A M B S : List α) (h : A.length = B.length) : swapR (P ++ (A ++ (M ++ (B ++ S)))) P.length (P.length + (A.length + M.length)) A.length = P ++ (B ++ (M ++ (A ++ S))) := by
  have e1 : (P ++ (A ++ (M ++ (B ++ S)))).take P.length = P := List.take_left
  have e2 : (P ++ (A ++ (M ++ (B ++ S)))).drop (P.length + (A.length + M.length)) = B ++ S := by
    rw [← List.drop_drop, List.drop_left, ← List.drop_drop, List.drop_left, List.drop_left]
  have e3 : (P ++ (A ++ (M ++ (B ++ S)))).drop (P.length + A.length) = M ++ (B ++ S) := by
    rw [← List.drop_drop, List.drop_left, List.drop_left]
  have e4 : (P ++ (A ++ (M ++ (B ++ S)))).drop P.length = A ++ (M ++ (B ++ S)) := List.drop_left
  have e5 : (P ++ (A ++ (M ++ (B ++ S)))).drop (P.length + (A.length + M.length) + A.length) = S := by
    rw [← List.drop_drop, e2, h, List.drop_left]
  unfold swapR
  rw [e1, e2, e3, e4, e5, show P.length + (A.length + M.length) - (P.length + A.length) = M.length by omega, List.take_left, List.take_left, show (B ++ S).take A.length = B by rw [h, List.take_left]]
  simp only [List.append_assoc]
/-- A row turned round at a place, as rotate does it: i symbols before it and j behind it are left. -/
def rotF : Nat → List α → Nat → Nat → Nat → List α
  | 0, l, _, _, _ => l
  | f + 1, l, m, i, j => if i = j then swapR l (m - i) m i else if j < i then rotF f (swapR l (m - i) m j) m (i - j) j else rotF f (swapR l (m - i) (m + j - i) i) m i (j - i)
theorem rotF_is : ∀ (f : Nat) (P U V S : List α) (m : Nat), m = P.length + U.length → 0 < U.length → 0 < V.length → U.length + V.length ≤ f → rotF f (P ++ (U ++ (V ++ S))) m U.length V.length = P ++ (V ++ (U ++ S))
  | 0, P, U, V, S, m, hm, hu, hv, hf => by omega
  | f + 1, P, U, V, S, m, hm, hu, hv, hf => by
    rw [rotF]
    by_cases c : U.length = V.length
    · rw [if_pos c]
      have h := swapR_is P U [] V S c
      simp only [List.length_nil, Nat.add_zero, List.nil_append] at h
      rw [show m - U.length = P.length by omega, hm, h]
    rw [if_neg c]
    by_cases c2 : V.length < U.length
    · rw [if_pos c2]
      have hU : U = U.take V.length ++ U.drop V.length := (List.take_append_drop ..).symm
      have l1 : (U.take V.length).length = V.length := by rw [List.length_take]; omega
      have l2 : (U.drop V.length).length = U.length - V.length := List.length_drop ..
      generalize U.take V.length = A at *
      generalize U.drop V.length = B at *
      have h := swapR_is P A B V S l1
      have e : P.length + (A.length + B.length) = m := by rw [hm, hU, List.length_append]
      rw [e, l1] at h
      rw [show m - U.length = P.length by omega, hU, List.append_assoc A B, h]
      have ih := rotF_is f (P ++ V) B A S m (by rw [List.length_append]; omega) (by omega) (by omega) (by omega)
      rw [l1] at ih
      rw [← hU, ← l2]
      simp only [List.append_assoc] at ih ⊢
      rw [ih, hU]
      simp only [List.append_assoc]
    · rw [if_neg c2]
      have hV : V = V.take (V.length - U.length) ++ V.drop (V.length - U.length) := (List.take_append_drop ..).symm
      have l1 : (V.take (V.length - U.length)).length = V.length - U.length := by rw [List.length_take]; omega
      have l2 : (V.drop (V.length - U.length)).length = U.length := by rw [List.length_drop]; omega
      generalize V.take (V.length - U.length) = C at *
      generalize V.drop (V.length - U.length) = D at *
      have h := swapR_is P U C D S (by omega)
      have e : P.length + (U.length + C.length) = m + V.length - U.length := by omega
      rw [e] at h
      rw [show m - U.length = P.length by omega]
      have ih := rotF_is f P D C (U ++ S) m (by omega) (by omega) (by omega) (by omega)
      rw [l1, l2] at ih
      have hl : P ++ (U ++ (V ++ S)) = P ++ (U ++ (C ++ (D ++ S))) := by rw [hV]; simp only [List.append_assoc]
      rw [hl, h, ih, hV]
      simp only [List.append_assoc]
end
end Go.Proofs.Ythchlpikcpidaaa.Vs

/- Stable sorting by slices.SortStableFunc, plain: exchanged ranges step by step, exchanged neighbours, runs of one size, and what is sorted when all runs are one. No program in sight. -/
namespace Go.Proofs.Ythchlpikcpidaaa.Vs
section
variable {α : Type}
theorem swapR_len {l : List α} {a b k : Nat} (h1 : a + k ≤ b) (h2 : b + k ≤ l.length) : (swapR l a b k).length = l.length := by
  unfold swapR
  simp only [List.length_append, List.length_take, List.length_drop]
  omega
theorem swapR_get {l : List α} {a b k : Nat} (h1 : a + k ≤ b) (h2 : b + k ≤ l.length) (j : Nat) : (swapR l a b k)[j]? = if a ≤ j ∧ j < a + k then l[b + (j - a)]? else if b ≤ j ∧ j < b + k then l[a + (j - b)]? else l[j]? := by
  unfold swapR
  simp only [List.getElem?_append, List.length_append, List.length_take, List.length_drop, List.getElem?_take, List.getElem?_drop]
  repeat' split
  all_goals first
    | omega
    | rfl
    | (congr 1; omega)
    | (rw [List.getElem?_eq_none (by omega), List.getElem?_eq_none (by omega)])
theorem swapR_zero (l : List α) (a b : Nat) (h : a ≤ b) (h2 : b ≤ l.length) : swapR l a b 0 = l := by
  apply List.ext_getElem?
  intro j
  rw [swapR_get (by omega) (by omega), if_neg (by omega), if_neg (by omega)]
theorem swapR_at {l : List α} {a b i : Nat} (h1 : a + i < b) (h2 : b + i < l.length) : (swapR l a b i)[a + i]? = l[a + i]? ∧ (swapR l a b i)[b + i]? = l[b + i]? := by
  constructor
  · rw [swapR_get (by omega) (by omega), if_neg (by omega), if_neg (by omega)]
  · rw [swapR_get (by omega) (by omega), if_neg (by omega), if_neg (by omega)]
theorem swapR_step {l : List α} {a b i : Nat} (h1 : a + i < b) (h2 : b + i < l.length) : ((swapR l a b i).set (a + i) (l[b + i])).set (b + i) (l[a + i]'(by omega)) = swapR l a b (i + 1) := by
  have hl := swapR_len (l := l) (a := a) (b := b) (k := i) (by omega) (by omega)
  apply List.ext_getElem?
  intro j
  rw [List.getElem?_set, List.getElem?_set, List.length_set, hl, swapR_get (by omega) (by omega), swapR_get (by omega) (by omega)]
  by_cases c1 : j = b + i
  · subst c1
    rw [if_pos rfl, if_pos (by omega), if_neg (by omega), if_pos (by omega), List.getElem?_eq_getElem (by omega)]
    congr 2; omega
  · rw [if_neg (fun e => c1 e.symm)]
    by_cases c2 : j = a + i
    · subst c2
      rw [if_pos rfl, if_pos (by omega), if_pos (by omega), List.getElem?_eq_getElem (by omega)]
      congr 2; omega
    · rw [if_neg (fun e => c2 e.symm)]
      repeat' split
      all_goals first
        | omega
        | rfl
theorem set_two (A B : List α) (x y : α) : ((A ++ x :: y :: B).set A.length y).set (A.length + 1) x = A ++ y :: x :: B := by
  rw [List.set_append_right _ _ (Nat.le_refl _), Nat.sub_self, List.set_cons_zero, List.set_append_right _ _ (by omega), show A.length + 1 - A.length = 1 by omega, List.set_cons_succ, List.set_cons_zero]
theorem set_two' (A B : List α) (x y : α) : ((A ++ x :: y :: B).set (A.length + 1) x).set A.length y = A ++ y :: x :: B := by
  rw [List.set_comm _ _ (by omega)]; exact set_two A B x y
theorem get_two (A B : List α) (x y : α) : (A ++ x :: y :: B)[A.length]? = some x ∧ (A ++ x :: y :: B)[A.length + 1]? = some y := by
  constructor
  · rw [List.getElem?_append_right (Nat.le_refl _), Nat.sub_self]; rfl
  · rw [List.getElem?_append_right (by omega), show A.length + 1 - A.length = 1 by omega]; rfl
variable {T : α → α → Prop}
/-- Run number k of size s. -/
def chunk (s k : Nat) (l : List α) : List α := (l.drop (k * s)).take s
/-- The runs of size s of l are those of o, each one sorted. -/
def goodC (T : α → α → Prop) (o l : List α) (s k : Nat) : Prop := (chunk s k l).Pairwise T ∧ (chunk s k l).Perm (chunk s k o)
theorem chunk_far {s k : Nat} {l : List α} (h : l.length ≤ k * s) : chunk s k l = [] := by
  unfold chunk; rw [List.drop_eq_nil_of_le h, List.take_nil]
theorem chunk_two (s k : Nat) (l : List α) : chunk (2 * s) k l = chunk s (2 * k) l ++ chunk s (2 * k + 1) l := by
  unfold chunk
  have e1 : k * (2 * s) = 2 * k * s := by rw [Nat.mul_comm 2 k, Nat.mul_assoc]
  have e2 : (2 * k + 1) * s = 2 * k * s + s := by rw [Nat.add_mul, Nat.one_mul]
  rw [e1, e2, ← List.drop_drop, show 2 * s = s + s by omega, List.take_add]
theorem goodC_whole {o l : List α} {s : Nat} (hl : l.length = o.length) (hs : o.length ≤ s) (h : goodC T o l s 0) : l.Pairwise T ∧ l.Perm o := by
  have e1 : chunk s 0 l = l := by unfold chunk; rw [Nat.zero_mul, List.drop_zero, List.take_of_length_le (by omega)]
  have e2 : chunk s 0 o = o := by unfold chunk; rw [Nat.zero_mul, List.drop_zero, List.take_of_length_le (by omega)]
  obtain ⟨h1, h2⟩ := h
  rw [e1] at h1 h2
  rw [e2] at h2
  exact ⟨h1, h2⟩
/-- A run that is put in place: the others stay. -/
theorem chunk_put {s k j : Nat} (hs : 0 < s) {P X Z S : List α} (hP : P.length = k * s) (hX : X.length = Z.length) (hXs : X.length ≤ s) (hS : X.length = s ∨ S = []) (hj : j ≠ k) : chunk s j (P ++ (Z ++ S)) = chunk s j (P ++ (X ++ S)) := by
  unfold chunk
  rcases Nat.lt_or_gt_of_ne hj with h | h
  · have hle : j * s + s ≤ P.length := by
      rw [hP, ← Nat.succ_mul]; exact Nat.mul_le_mul_right s h
    rw [List.drop_append_of_le_length (by omega), List.drop_append_of_le_length (by omega), List.take_append_of_le_length (by rw [List.length_drop]; omega), List.take_append_of_le_length (by rw [List.length_drop]; omega)]
  · have hge : P.length + s ≤ j * s := by
      rw [hP, ← Nat.succ_mul]; exact Nat.mul_le_mul_right s h
    rcases hS with hS | hS
    · have e : ∀ Y : List α, Y.length = s → (P ++ (Y ++ S)).drop (j * s) = S.drop (j * s - (P.length + s)) := fun Y hY => by
        rw [← List.append_assoc, List.drop_append, List.drop_eq_nil_of_le (by rw [List.length_append]; omega), List.nil_append, List.length_append, hY]
      rw [e Z (by omega), e X hS]
    · subst hS
      rw [List.drop_eq_nil_of_le (by simp only [List.length_append, List.length_nil]; omega), List.drop_eq_nil_of_le (by simp only [List.length_append, List.length_nil]; omega)]
theorem chunk_here {s k : Nat} {P X S : List α} (hP : P.length = k * s) (hXs : X.length ≤ s) (hS : X.length = s ∨ S = []) : chunk s k (P ++ (X ++ S)) = X := by
  unfold chunk
  rw [← hP, List.drop_left]
  rcases hS with hS | hS
  · rw [List.take_append_of_le_length (by omega), List.take_of_length_le (by omega)]
  · subst hS; rw [List.append_nil, List.take_of_length_le hXs]
/-- A row as what is ahead of a run, the run, and what is behind it. -/
theorem chunk_parts (s k : Nat) (l : List α) (h : k * s ≤ l.length) : ∃ P S, l = P ++ (chunk s k l ++ S) ∧ P.length = k * s ∧ (chunk s k l).length ≤ s ∧ ((chunk s k l).length = s ∨ S = []) ∧ (chunk s k l).length = min s (l.length - k * s) := by
  refine ⟨l.take (k * s), (l.drop (k * s)).drop s, ?_, by rw [List.length_take]; omega, ?_, ?_, ?_⟩
  · unfold chunk; rw [List.take_append_drop, List.take_append_drop]
  · unfold chunk; rw [List.length_take]; omega
  · by_cases h2 : s ≤ l.length - k * s
    · left; unfold chunk; rw [List.length_take, List.length_drop]; omega
    · right; exact List.drop_eq_nil_of_le (by rw [List.length_drop]; omega)
  · unfold chunk; rw [List.length_take, List.length_drop]
theorem goodC_far {o l : List α} {s k : Nat} (hl : l.length = o.length) (h : o.length ≤ k * s) : goodC T o l s k := by
  unfold goodC
  rw [chunk_far (l := l) (by omega), chunk_far h]
  exact ⟨List.Pairwise.nil, .refl _⟩
theorem chunk_behind {s j : Nat} {P X Z S : List α} (hX : X.length = Z.length) (h : P.length + X.length ≤ j * s) : chunk s j (P ++ (Z ++ S)) = chunk s j (P ++ (X ++ S)) := by
  have e : ∀ Y : List α, Y.length = X.length → (P ++ (Y ++ S)).drop (j * s) = S.drop (j * s - (P.length + X.length)) := fun Y hY => by
    rw [← List.append_assoc, List.drop_append, List.drop_eq_nil_of_le (by rw [List.length_append]; omega), List.nil_append, List.length_append, hY]
  unfold chunk
  rw [e Z hX.symm, e X rfl]
/-- What stands in a later run came later in the first row. -/
theorem chunk_cross {C : α → α → Prop} {o : List α} (ho : o.Pairwise C) {s k : Nat} {x y : α} (hx : x ∈ chunk s (2 * k) o) (hy : y ∈ chunk s (2 * k + 1) o) : C x y := by
  have e : (chunk s (2 * k) o ++ chunk s (2 * k + 1) o).Pairwise C := by
    rw [← chunk_two]
    unfold chunk
    exact (ho.sublist ((List.take_sublist _ _).trans (List.drop_sublist _ _)))
  exact (List.pairwise_append.1 e).2.2 x hx y hy
theorem chunk_sub {C : α → α → Prop} {o : List α} (ho : o.Pairwise C) (s k : Nat) : (chunk s k o).Pairwise C := by
  unfold chunk
  exact (ho.sublist ((List.take_sublist _ _).trans (List.drop_sublist _ _)))
/-- One of two, put between. -/
theorem insert_mid (tr : ∀ {a b c : α}, T a b → T b c → T a c) {Z1 Z2 : List α} (h : (Z1 ++ Z2).Pairwise T) (x : α) (h1 : ∀ z ∈ Z2, T x z) (h2 : ∀ z, Z1.getLast? = some z → T z x) : (Z1 ++ x :: Z2).Pairwise T := by
  rw [List.pairwise_append] at h ⊢
  have h2' : ∀ z ∈ Z1, T z x := fun z hz => by
    cases hl : Z1.getLast? with
    | none => rw [List.getLast?_eq_none_iff] at hl; subst hl; cases hz
    | some u =>
      have hu := h2 u hl
      obtain ⟨Z0, rfl⟩ := List.getLast?_eq_some_iff.1 hl
      rcases List.mem_append.1 hz with hz | hz
      · exact tr ((List.pairwise_append.1 h.1).2.2 z hz u (by simp)) hu
      · simp at hz; subst hz; exact hu
  refine ⟨h.1, List.pairwise_cons.2 ⟨h1, h.2.1⟩, fun a ha b hb => ?_⟩
  rcases List.mem_cons.1 hb with rfl | hb
  · exact h2' a ha
  · exact h.2.2 a ha b hb
end
end Go.Proofs.Ythchlpikcpidaaa.Vs
