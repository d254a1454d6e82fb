/- numbers of YtldlcejlfaogbaaDoor -/
import Derived.Lib.Split
import Derived.Test.YtldlcejlfaogbaaGreatDoorOrdW
import Derived.Test.YtldlcejlfaogbaaGreatDoorFnI
import Derived.Test.YtldlcejlfaogbaaGreatDoorFnD1
namespace Go.Proofs.YtldlcejlfaogbaaGreatDoor.Vs
set_option linter.unusedVariables false
set_option linter.unusedSimpArgs false
set_option maxRecDepth 20000
def insAt (l : List Sh) (x : Sh) : Nat → Nat
  | 0 => 0
  | n + 1 => match l[n]? with
    | some y => if 0 < ordW y.From x.From then insAt l x n else n + 1
    | none => n + 1
def insT (l : List Sh) (x : Sh) : List Sh := l.take (insAt l x l.length) ++ x :: l.drop (insAt l x l.length)
def srtT (t : List Sh) : List Sh := t.foldl insT []
abbrev sortedP (t : List Sh) : Prop := t.Pairwise fun a b => ltW b.From a.From = false
theorem insAt_le (l : List Sh) (x : Sh) : ∀ n, insAt l x n ≤ n
  | 0 => Nat.le_refl _
  | n + 1 => by
    rw [insAt]
    split
    · split
      · exact Nat.le_succ_of_le (insAt_le l x n)
      · exact Nat.le_refl _
    · exact Nat.le_refl _
theorem ord_flip (a b : Wd) : (0 < ordW a b) ↔ ltW b a = true := by
  induction a generalizing b with
  | nil => cases b <;> simp [ordW, ltW]
  | cons x a ih =>
    cases b with
    | nil => simp [ordW, ltW]
    | cons y b =>
      rw [ltW_cons, ordW]
      cases h1 : strLt x y with
      | true =>
        have h2 := strLt_asymm h1
        have h3 : (y == x) = false := by
          cases h : (y == x) with
          | false => rfl
          | true => rw [ba_eq h, strLt_irrefl] at h1; cases h1
        simp [h2, h3]
      | false =>
        cases h2 : (x == y) with
        | true =>
          have e := ba_eq h2
          subst e
          simp [strLt_irrefl, ba_refl, ih]
        | false =>
          have h3 : strLt y x = true := by
            rcases strLt_tri x y with h | h | h
            · rw [h1] at h; cases h
            · rw [h, ba_refl] at h2; cases h2
            · exact h
          simp [h3]
theorem insAt_spec (l : List Sh) (x : Sh) : ∀ n, n ≤ l.length → (∀ j (hj : j < l.length), j < n → insAt l x n ≤ j → ltW x.From l[j].From = true) ∧ (∀ (h : insAt l x n ≠ 0) (h2 : insAt l x n - 1 < l.length), ltW x.From (l[insAt l x n - 1]).From = false)
  | 0, _ => ⟨fun j hj h => absurd h (Nat.not_lt_zero _), fun h => absurd rfl h⟩
  | n + 1, hn => by
    have hx : l[n]? = some l[n] := List.getElem?_eq_getElem (by omega)
    rw [insAt, hx]
    simp only
    by_cases hc : 0 < ordW l[n].From x.From
    · simp only [hc, if_true]
      obtain ⟨h1, h2⟩ := insAt_spec l x n (by omega)
      refine ⟨fun j hj hjn hle => ?_, h2⟩
      rcases Nat.lt_succ_iff_lt_or_eq.1 hjn with h | rfl
      · exact h1 j hj h hle
      · exact (ord_flip _ _).1 hc
    · simp only [hc, if_false]
      refine ⟨fun j hj hjn hle => absurd hle (by omega), fun _ h2 => ?_⟩
      have : ¬ (ltW x.From l[n].From = true) := fun h => hc ((ord_flip _ _).2 h)
      simpa using this
theorem not_lt_trans {a b c : Wd} (h1 : ltW b a = false) (h2 : ltW c b = false) : ltW c a = false := by
  cases h : ltW c a with
  | false => rfl
  | true =>
    rcases ltW_tri a b with g | g | g
    · rw [ltW_trans h g] at h2; cases h2
    · rw [← g, h] at h2; cases h2
    · rw [g] at h1; cases h1
theorem not_lt_of {a b : Wd} (h : ltW a b = true) : ltW b a = false := by
  cases g : ltW b a with
  | false => rfl
  | true => have := ltW_trans h g; rw [ltW_irrefl] at this; cases this
theorem insT_perm (l : List Sh) (x : Sh) : (insT l x).Perm (x :: l) := by
  unfold insT
  have h := List.take_append_drop (insAt l x l.length) l
  refine List.perm_middle.trans ?_
  rw [h]
theorem insT_sorted {l : List Sh} (x : Sh) (h : sortedP l) : sortedP (insT l x) := by
  obtain ⟨h1, h2⟩ := insAt_spec l x l.length (Nat.le_refl _)
  have hle := insAt_le l x l.length
  unfold insT
  generalize insAt l x l.length = a at *
  have hg := List.pairwise_iff_getElem.1 h
  have h2' : ∀ i (hi : i < l.length), i < a → ltW x.From l[i].From = false := fun i hi hia => by
    have h3 := h2 (by omega) (by omega)
    by_cases he : i = a - 1
    · subst he; exact h3
    · exact not_lt_trans (hg i (a - 1) hi (by omega) (by omega)) h3
  refine List.pairwise_append.2 ⟨h.sublist (List.take_sublist _ _), List.pairwise_cons.2 ⟨fun y hy => ?_, h.sublist (List.drop_sublist _ _)⟩, fun y hy z hz => ?_⟩
  · obtain ⟨j, hj, rfl⟩ := List.getElem_of_mem hy
    rw [List.getElem_drop]
    rw [List.length_drop] at hj
    exact not_lt_of (h1 (a + j) (by omega) (by omega) (by omega))
  · obtain ⟨i, hi, rfl⟩ := List.getElem_of_mem hy
    rw [List.length_take] at hi
    rw [List.getElem_take]
    rcases List.mem_cons.1 hz with rfl | hz
    · exact h2' i (by omega) (by omega)
    · obtain ⟨j, hj, rfl⟩ := List.getElem_of_mem hz
      rw [List.length_drop] at hj
      rw [List.getElem_drop]
      exact hg i (a + j) (by omega) (by omega) (by omega)
theorem srt_both : ∀ (t l : List Sh), sortedP l → sortedP (t.foldl insT l) ∧ (t.foldl insT l).Perm (t ++ l)
  | [], l, h => ⟨h, .refl _⟩
  | x :: t, l, h => by
    obtain ⟨h1, h2⟩ := srt_both t (insT l x) (insT_sorted x h)
    refine ⟨h1, h2.trans ?_⟩
    refine (List.Perm.append_left t (insT_perm l x)).trans ?_
    exact List.perm_middle
theorem srtT_sorted (t : List Sh) : sortedP (srtT t) := (srt_both t [] List.Pairwise.nil).1
theorem srtT_perm (t : List Sh) : (srtT t).Perm t := by
  have := (srt_both t [] List.Pairwise.nil).2
  rwa [List.append_nil] at this
def apartF (t : List Sh) : Prop := ∀ x ∈ t, ∀ y ∈ t, x.From = y.From → x = y
theorem sorted_unique : ∀ {a b : List Sh}, a.Perm b → sortedP a → sortedP b → apartF a → a = b
  | [], b, hp, _, _, _ => (List.Perm.nil_eq hp)
  | x :: a, [], hp, _, _, _ => by have := hp.length_eq; simp at this
  | x :: a, y :: b, hp, ha, hb, hi => by
    have hxb : x ∈ y :: b := hp.mem_iff.1 (by simp)
    have hya : y ∈ x :: a := hp.mem_iff.2 (by simp)
    have e : x = y := by
      rcases List.mem_cons.1 hxb with h | h
      · exact h
      · rcases List.mem_cons.1 hya with g | g
        · exact g.symm
        · have h1 := (List.pairwise_cons.1 hb).1 x h
          have h2 := (List.pairwise_cons.1 ha).1 y g
          refine hi x (by simp) y hya ?_
          rcases ltW_tri x.From y.From with k | k | k
          · rw [k] at h1; cases h1
          · exact k
          · rw [k] at h2; cases h2
    subst e
    rw [sorted_unique (List.Perm.cons_inv hp) (List.pairwise_cons.1 ha).2 (List.pairwise_cons.1 hb).2 fun u hu v hv => hi u (List.mem_cons_of_mem _ hu) v (List.mem_cons_of_mem _ hv)]
end Go.Proofs.YtldlcejlfaogbaaGreatDoor.Vs
