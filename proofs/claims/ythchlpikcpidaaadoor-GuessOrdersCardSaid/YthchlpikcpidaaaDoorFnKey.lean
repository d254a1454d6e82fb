/- Words as keys. -/
import Derived.Test.YthchlpikcpidaaaDoorShJoin
namespace Go.Proofs.YthchlpikcpidaaaDoor.Vs
set_option linter.unusedVariables false
set_option linter.unusedSimpArgs false
set_option maxRecDepth 20000
def sp : ByteArray := ⟨#[32]⟩
def goodS (s : ByteArray) : Prop := s.data.toList ≠ [] ∧ ∀ b ∈ s.data.toList, b ≠ 32
def goodW (w : Wd) : Prop := w.length ≤ 60 ∧ (∀ s ∈ w, s.size ≤ 16) ∧ ∀ s ∈ w, goodS s
theorem goodW.drop {w : Wd} (h : goodW w) (n : Nat) : goodW (w.drop n) := ⟨by rw [List.length_drop]; have := h.1; omega, fun s hs => h.2.1 s (List.mem_of_mem_drop hs), fun s hs => h.2.2 s (List.mem_of_mem_drop hs)⟩
theorem badW_good {w : Wd} (h : badW w = 0) : goodW w := by
  have h60 := badW_len h
  unfold badW at h
  split at h
  · cases h
  · rename_i h1
    split at h
    · cases h
    · rename_i h2
      simp only [Bool.or_eq_true, decide_eq_true_eq, not_or, Bool.not_eq_true] at h1
      have a1 := List.any_eq_false.1 h1.2
      have a2 : ∀ s ∈ w, bytesOK s = true ∧ (s == ⟨#[]⟩) = false := by simpa using h2
      refine ⟨h60, fun s hs => ?_, fun s hs => ?_⟩
      · have := a1 s hs; simp only [decide_eq_true_eq] at this; omega
      · obtain ⟨h3, h4⟩ := a2 s hs
        constructor
        · intro he
          have : s = ⟨#[]⟩ := by
            cases s with | mk d => congr 1; exact Array.toList_inj.1 he
          rw [this] at h4
          revert h4; decide
        · intro b hb e
          subst e
          obtain ⟨i, hi, hbi⟩ := List.getElem_of_mem hb
          have h5 := List.all_eq_true.1 h3 i (List.mem_range.2 (by simpa using hi))
          have : byteAt s i = 32 := by
            unfold byteAt
            rw [List.getD_eq_getElem?_getD, List.getElem?_eq_getElem hi, hbi]
            rfl
          rw [this] at h5
          revert h5; decide
theorem tw_append {x T : List UInt8} (hx : ∀ b ∈ x, b ≠ 32) (hT : T = [] ∨ ∃ T', T = 32 :: T') : (x ++ T).takeWhile (fun b => b != 32) = x := by
  induction x with
  | nil =>
    rcases hT with rfl | ⟨T', rfl⟩
    · rfl
    · simp
  | cons b x ih =>
    have hb := hx b (by simp)
    have : (b != 32) = true := by simpa using hb
    simp only [List.cons_append, List.takeWhile_cons, this, if_true]
    rw [ih fun c hc => hx c (List.mem_cons_of_mem _ hc)]
theorem join_inj : ∀ {xs ys : List (List UInt8)}, (∀ x ∈ xs, x ≠ [] ∧ ∀ b ∈ x, b ≠ 32) → (∀ x ∈ ys, x ≠ [] ∧ ∀ b ∈ x, b ≠ 32) → Lib.join xs [32] = Lib.join ys [32] → xs = ys := by
  have tail : ∀ (x : List UInt8) (r : List (List UInt8)), ∃ T, Lib.join (x :: r) [32] = x ++ T ∧ ((r = [] ∧ T = []) ∨ (r ≠ [] ∧ T = 32 :: Lib.join r [32])) := fun x r => by
    cases r with
    | nil => exact ⟨[], by rw [Lib.join_one, List.append_nil], .inl ⟨rfl, rfl⟩⟩
    | cons y r => exact ⟨32 :: Lib.join (y :: r) [32], by simp [Lib.join, List.intercalate, List.intersperse], .inr ⟨by simp, rfl⟩⟩
  intro xs
  induction xs with
  | nil =>
    intro ys _ hy h
    cases ys with
    | nil => rfl
    | cons y t =>
      obtain ⟨T, h1, _⟩ := tail y t
      rw [h1] at h
      have h0 : y ++ T = [] := by rw [← h]; simp [Lib.join]
      exact absurd (List.append_eq_nil_iff.1 h0).1 (hy y (by simp)).1
  | cons x r ih =>
    intro ys hx hy h
    cases ys with
    | nil =>
      obtain ⟨T, h1, _⟩ := tail x r
      rw [h1] at h
      have h0 : x ++ T = [] := by rw [h]; simp [Lib.join]
      exact absurd (List.append_eq_nil_iff.1 h0).1 (hx x (by simp)).1
    | cons y t =>
      obtain ⟨T, h1, hT⟩ := tail x r
      obtain ⟨U, h2, hU⟩ := tail y t
      rw [h1, h2] at h
      have a1 := tw_append (T := T) (hx x (by simp)).2 (by rcases hT with ⟨_, h⟩ | ⟨_, h⟩; exact .inl h; exact .inr ⟨_, h⟩)
      have a2 := tw_append (T := U) (hy y (by simp)).2 (by rcases hU with ⟨_, h⟩ | ⟨_, h⟩; exact .inl h; exact .inr ⟨_, h⟩)
      rw [h, a2] at a1
      subst a1
      have hTU := List.append_cancel_left h
      rcases hT with ⟨e1, e2⟩ | ⟨e1, e2⟩ <;> rcases hU with ⟨g1, g2⟩ | ⟨g1, g2⟩
      · rw [e1, g1]
      · rw [e2, g2] at hTU; cases hTU
      · rw [e2, g2] at hTU; cases hTU
      · rw [e2, g2] at hTU
        rw [ih (fun z hz => hx z (List.mem_cons_of_mem _ hz)) (fun z hz => hy z (List.mem_cons_of_mem _ hz)) (List.cons.inj hTU).2]
theorem keyB_inj {w v : Wd} (hw : goodW w) (hv : goodW v) (h : keyB w sp = keyB v sp) : w = v := by
  have h1 : Lib.join (w.map (·.data.toList)) [32] = Lib.join (v.map (·.data.toList)) [32] := by
    have := congrArg (fun b : ByteArray => b.data.toList) h
    simpa [keyB, sp] using this
  have h2 := join_inj (fun x hx => by obtain ⟨s, hs, rfl⟩ := List.mem_map.1 hx; exact hw.2.2 s hs) (fun x hx => by obtain ⟨s, hs, rfl⟩ := List.mem_map.1 hx; exact hv.2.2 s hs) h1
  have inj : ∀ {a b : ByteArray}, a.data.toList = b.data.toList → a = b := fun {a b} h => by cases a; cases b; congr 1; exact Array.toList_inj.1 h
  clear h h1 hw hv
  induction w generalizing v with
  | nil => cases v with
    | nil => rfl
    | cons => cases h2
  | cons a w ih => cases v with
    | nil => cases h2
    | cons b v =>
      simp only [List.map_cons, List.cons.injEq] at h2
      rw [inj h2.1, ih h2.2]
end Go.Proofs.YthchlpikcpidaaaDoor.Vs
