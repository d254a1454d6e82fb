/- numbers of Ythchlpikcpidaaa -/
import Derived.Test.YthchlpikcpidaaaDoorOrdW
import Derived.Test.YthchlpikcpidaaaDoorGuD1
import Derived.Test.YthchlpikcpidaaaDoorSsA
namespace Go.Proofs.YthchlpikcpidaaaDoor.Vs
open Go.Sort
set_option linter.unusedVariables false
set_option linter.unusedSimpArgs false
/-- The order of words: shorter ones first. -/
def ltC (a b : Wd) : Bool := decide (a.length < b.length) || (decide (a.length = b.length) && ltW a b)
theorem ltC_cmp (a b : Wd) : ltC a b = decide (cmpW a b < 0) := by
  unfold ltC cmpW ltW
  by_cases h1 : a.length < b.length
  · rw [if_pos h1, decide_eq_true h1]; rfl
  · rw [if_neg h1, decide_eq_false h1, Bool.false_or]
    by_cases h2 : b.length < a.length
    · rw [if_pos h2, decide_eq_false (by omega)]; rfl
    · rw [if_neg h2, decide_eq_true (by omega), Bool.true_and]
theorem ltC_irrefl (a : Wd) : ltC a a = false := by simp [ltC, ltW_irrefl]
theorem ltC_trans {a b c : Wd} (h1 : ltC a b = true) (h2 : ltC b c = true) : ltC a c = true := by
  unfold ltC at *
  simp only [Bool.or_eq_true, Bool.and_eq_true, decide_eq_true_eq] at *
  rcases h1 with h1 | ⟨h1, g1⟩ <;> rcases h2 with h2 | ⟨h2, g2⟩
  · exact .inl (by omega)
  · exact .inl (by omega)
  · exact .inl (by omega)
  · exact .inr ⟨by omega, ltW_trans g1 g2⟩
theorem ltC_tri (a b : Wd) : ltC a b = true ∨ a = b ∨ ltC b a = true := by
  unfold ltC
  simp only [Bool.or_eq_true, Bool.and_eq_true, decide_eq_true_eq]
  rcases Nat.lt_trichotomy a.length b.length with h | h | h
  · exact .inl (.inl h)
  · rcases ltW_tri a b with g | g | g
    · exact .inl (.inr ⟨h, g⟩)
    · exact .inr (.inl g)
    · exact .inr (.inr (.inr ⟨h.symm, g⟩))
  · exact .inr (.inr (.inl h))
theorem cmpW_self (a : Wd) : cmpW a a = 0 := by
  unfold cmpW
  rw [if_neg (Nat.lt_irrefl _), if_neg (Nat.lt_irrefl _)]
  have := ordW_eqW a a
  rw [eqW_iff.2 rfl] at this
  simpa using this
/-- The order of samples. -/
def ltS (x y : Smp) : Bool := ltC x.word y.word || (eqW x.word y.word && strLt x.tag y.tag)
theorem ltS_irrefl (x : Smp) : ltS x x = false := by simp [ltS, ltC_irrefl, strLt_irrefl]
theorem ltS_trans {x y z : Smp} (h1 : ltS x y = true) (h2 : ltS y z = true) : ltS x z = true := by
  unfold ltS at *
  simp only [Bool.or_eq_true, Bool.and_eq_true] at *
  rcases h1 with h1 | ⟨h1, g1⟩ <;> rcases h2 with h2 | ⟨h2, g2⟩
  · exact .inl (ltC_trans h1 h2)
  · rw [eqW_iff.1 h2] at h1; exact .inl h1
  · rw [← eqW_iff.1 h1] at h2; exact .inl h2
  · exact .inr ⟨by rw [eqW_iff.1 h1]; exact h2, strLt_trans g1 g2⟩
theorem ltS_tri (x y : Smp) : ltS x y = true ∨ (x.word = y.word ∧ x.tag = y.tag) ∨ ltS y x = true := by
  unfold ltS
  simp only [Bool.or_eq_true, Bool.and_eq_true]
  rcases ltC_tri x.word y.word with h | h | h
  · exact .inl (.inl h)
  · rcases strLt_tri x.tag y.tag with g | g | g
    · exact .inl (.inr ⟨eqW_iff.2 h, g⟩)
    · exact .inr (.inl ⟨h, g⟩)
    · exact .inr (.inr (.inr ⟨eqW_iff.2 h.symm, g⟩))
  · exact .inr (.inr (.inl h))
theorem ltS_swo {α : Type} (f : α → Smp) : SWO (fun x y : α => ltS (f x) (f y)) := ⟨fun x => ltS_irrefl _, fun x y z h1 h2 => ltS_trans h1 h2, fun x y z h1 h2 => by
  cases h : ltS (f x) (f z) with
  | false => rfl
  | true =>
    rcases ltS_tri (f x) (f y) with g | ⟨g1, g2⟩ | g
    · rw [h1] at g; cases g
    · have : ltS (f y) (f z) = true := by
        unfold ltS at h ⊢
        rw [← g1, ← g2]; exact h
      rw [h2] at this; cases this
    · have := ltS_trans g h
      rw [h2] at this; cases this⟩
def keyS (x : Smp) : ByteArray × ByteArray := (keyB x.word sp, x.tag)
/-- The row of samples of what is counted. -/
structure AllOf (mf : ByteArray × ByteArray → Int) (S : List Smp) : Prop where
  so : S.Pairwise fun x y => ltS x y = true
  here : ∀ x ∈ S, goodW x.word ∧ mf (keyS x) = x.many ∧ x.many ≠ 0
  all : ∀ k, mf k ≠ 0 → ∃ x ∈ S, keyS x = k
theorem AllOf.congr {mf mf' : ByteArray × ByteArray → Int} {S : List Smp} (h : AllOf mf S) (e : ∀ k, mf k = mf' k) : AllOf mf' S := by
  have : mf = mf' := funext e
  rw [← this]; exact h
theorem AllOf.one {mf : ByteArray × ByteArray → Int} {S S' : List Smp} (h : AllOf mf S) (k : AllOf mf S') : S = S' := by
  have sub : ∀ {S S' : List Smp}, AllOf mf S → AllOf mf S' → ∀ x ∈ S, x ∈ S' := fun {S S'} h k x hx => by
    obtain ⟨g1, g2, g3⟩ := h.here x hx
    obtain ⟨y, hy, hk⟩ := k.all (keyS x) (by rw [g2]; exact g3)
    obtain ⟨p1, p2, p3⟩ := k.here y hy
    simp only [keyS, Prod.mk.injEq] at hk
    have hw := keyB_inj p1 g1 hk.1
    have hm : y.many = x.many := by
      rw [← p2, ← g2]
      simp only [keyS, hw, hk.2]
    have : y = x := by cases x; cases y; simp only at hw hm hk; rw [hw, hm, hk.2]
    exact this ▸ hy
  have nd : ∀ {S : List Smp}, AllOf mf S → S.Nodup := fun h => h.so.imp fun {a b} h e => by subst e; rw [ltS_irrefl] at h; cases h
  refine sorted_one (T := fun x y => ltS x y = true) (fun a h => by rw [ltS_irrefl] at h; cases h) (fun h1 h2 => ltS_trans h1 h2) ?_ h.so k.so
  rw [List.perm_ext_iff_of_nodup (nd h) (nd k)]
  exact fun x => ⟨sub h k x, sub k h x⟩
/-- What was collected, sorted. -/
theorem all_sorted {mf : ByteArray × ByteArray → Int} {l S : List Smp} (hp : S.Perm l) (hs : ∀ i j (hj : j < S.length) (h : i < j), ltS S[j] (S[i]'(by omega)) = false) (hn : (l.map keyS).Nodup)
    (h1 : ∀ x ∈ l, goodW x.word ∧ mf (keyS x) = x.many ∧ x.many ≠ 0) (h2 : ∀ k, mf k ≠ 0 → ∃ x ∈ l, keyS x = k) : AllOf mf S := by
  have hnS : (S.map keyS).Nodup := (hp.map _).nodup_iff.2 hn
  refine ⟨?_, fun x hx => h1 x (hp.mem_iff.1 hx), fun k hk => ?_⟩
  · rw [List.pairwise_iff_getElem]
    intro i j hi hj hij
    rcases ltS_tri S[i] S[j] with h | ⟨g1, g2⟩ | h
    · exact h
    · exfalso
      have := List.pairwise_iff_getElem.1 hnS i j (by simpa using hi) (by simpa using hj) hij
      simp only [List.getElem_map] at this
      exact this (by simp only [keyS, g1, g2])
    · rw [hs i j hj hij] at h; cases h
  · obtain ⟨x, hx, e⟩ := h2 k hk
    exact ⟨x, hp.mem_iff.2 hx, e⟩
end Go.Proofs.YthchlpikcpidaaaDoor.Vs
