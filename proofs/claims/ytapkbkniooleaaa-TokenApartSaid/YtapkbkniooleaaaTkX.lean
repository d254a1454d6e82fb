/- Tokens lie one behind the other, with blanks alone between them. -/
import Derived.Test.YtapkbkniooleaaaTkT
namespace Go.Proofs.Ytapkbkniooleaaa.Vs
set_option linter.unusedVariables false
set_option linter.unusedSimpArgs false
def Blanks (s : ByteArray) (a b : Nat) : Prop := ∀ i, a ≤ i → i < b → isBlankI (byteAt s i) = true
/-- From one place to another: tokens of the text, and blanks. -/
def Seg (s : ByteArray) : Nat → List Tok → Nat → Prop
  | a, [], b => a ≤ b ∧ Blanks s a b
  | a, t :: l, b => ∃ f e : Nat, t.fr = f ∧ t.to = e ∧ a ≤ f ∧ Blanks s a f ∧ f < e ∧ e ≤ s.size ∧ t.text = s.extract f e ∧ 0 ≤ t.kind ∧ t.kind ≤ 5 ∧ Seg s e l b
theorem Blanks.nil (s : ByteArray) (a : Nat) : Blanks s a a := fun i h1 h2 => absurd h2 (by omega)
theorem Blanks.app {s : ByteArray} {a b c : Nat} (h1 : Blanks s a b) (h2 : Blanks s b c) : Blanks s a c := fun i g1 g2 => by
  rcases Nat.lt_or_ge i b with h | h
  · exact h1 i g1 h
  · exact h2 i h g2
theorem Seg.le {s : ByteArray} : ∀ {l : List Tok} {a b : Nat}, Seg s a l b → a ≤ b
  | [], _, _, h => h.1
  | t :: l, _, _, ⟨f, e, _, _, h1, _, h2, _, _, _, _, h⟩ => by have := Seg.le h; omega
theorem Seg.pre {s : ByteArray} {a a' b : Nat} (h0 : a ≤ a') (hb : Blanks s a a') : ∀ {l : List Tok}, Seg s a' l b → Seg s a l b
  | [], h => ⟨by have := h.1; omega, hb.app h.2⟩
  | t :: l, ⟨f, e, h1, h2, h3, h4, h⟩ => ⟨f, e, h1, h2, by omega, hb.app h4, h⟩
theorem Seg.app {s : ByteArray} {b c : Nat} {y : List Tok} (hy : Seg s b y c) : ∀ {x : List Tok} {a : Nat}, Seg s a x b → Seg s a (x ++ y) c
  | [], a, h => hy.pre h.1 h.2
  | t :: l, a, ⟨f, e, h1, h2, h3, h4, h5, h6, h7, h8, h9, h⟩ => ⟨f, e, h1, h2, h3, h4, h5, h6, h7, h8, h9, Seg.app hy h⟩
theorem Seg.one {s : ByteArray} {f e : Nat} {k : Int} (h1 : f < e) (h2 : e ≤ s.size) (h3 : 0 ≤ k) (h4 : k ≤ 5) : Seg s f [⟨f, e, k, s.extract f e⟩] e :=
  ⟨f, e, rfl, rfl, Nat.le_refl _, .nil s f, h1, h2, rfl, h3, h4, Nat.le_refl _, .nil s e⟩
theorem exsz {s : ByteArray} {f t : Nat} (h : t ≤ s.size) : (s.extract f t).size = t - f := by rw [ByteArray.size_extract]; omega
theorem front_seg (s : ByteArray) (l : List ByteArray) (t : Nat) (ht : t ≤ s.size) : ∀ (k f : Nat), f < t → ∃ f', (frontW l k f (s.extract f t)).2 = (f', s.extract f' t) ∧ f ≤ f' ∧ f' < t ∧ Seg s f (frontW l k f (s.extract f t)).1 f'
  | 0, f, hf => ⟨f, rfl, Nat.le_refl _, hf, Nat.le_refl _, .nil s f⟩
  | k + 1, f, hf => by
    have hn := edgeW_lt preW l (lowB (s.extract f t))
    rw [lowB_size, exsz ht] at hn
    by_cases h0 : edgeW preW l (lowB (s.extract f t)) = 0
    · rw [frontW_zero h0]; exact ⟨f, rfl, Nat.le_refl _, hf, Nat.le_refl _, .nil s f⟩
    · simp only [frontW, if_neg h0]
      generalize edgeW preW l (lowB (s.extract f t)) = n at *
      rw [ext_ext, ext_ext, exsz ht, Nat.add_zero, Nat.min_eq_left (show f + n ≤ t by omega), Nat.min_eq_right (show t ≤ f + (t - f) by omega)]
      obtain ⟨f', h1, h2, h3, h4⟩ := front_seg s l t ht k (f + n) (by omega)
      exact ⟨f', h1, by omega, h3, Seg.app (x := [⟨f, (f + n : Nat), 4, s.extract f (f + n)⟩]) h4 (Seg.one (by omega) (by omega) (by decide) (by decide))⟩
theorem back_seg (s : ByteArray) (l : List ByteArray) (f : Nat) : ∀ (k t : Nat), t ≤ s.size → f < t → ∃ t', (backW l k f (s.extract f t)).2 = s.extract f t' ∧ f < t' ∧ t' ≤ t ∧ Seg s t' (backW l k f (s.extract f t)).1.reverse t
  | 0, t, ht, hf => ⟨t, rfl, hf, Nat.le_refl _, Nat.le_refl _, .nil s t⟩
  | k + 1, t, ht, hf => by
    have hn := edgeW_lt sufW l (lowB (s.extract f t))
    rw [lowB_size, exsz ht] at hn
    by_cases h0 : edgeW sufW l (lowB (s.extract f t)) = 0
    · rw [backW_zero h0]; exact ⟨t, rfl, hf, Nat.le_refl _, Nat.le_refl _, .nil s t⟩
    · simp only [backW, if_neg h0]
      generalize edgeW sufW l (lowB (s.extract f t)) = n at *
      rw [ext_ext, ext_ext, exsz ht, Nat.add_zero, show f + (t - f - n) = t - n by omega, show f + (t - f) = t by omega, Nat.min_self, Nat.min_eq_left (show t - n ≤ t by omega)]
      obtain ⟨t', h1, h2, h3, h4⟩ := back_seg s l f k (t - n) (by omega) (by omega)
      refine ⟨t', h1, h2, by omega, ?_⟩
      rw [List.reverse_cons]
      exact Seg.app (Seg.one (by omega) ht (by decide) (by decide)) h4
theorem clitics_seg (s : ByteArray) (front back : Wd) (f t : Nat) (hf : f < t) (ht : t ≤ s.size) : Seg s f (cliticsW front back f (s.extract f t)) t := by
  obtain ⟨f', h1, h2, h3, h4⟩ := front_seg s front t ht (s.extract f t).size f hf
  obtain ⟨t', g1, g2, g3, g4⟩ := back_seg s back f' (s.extract f' t).size t ht h3
  have e : cliticsW front back f (s.extract f t) = (frontW front (s.extract f t).size f (s.extract f t)).1 ++ (⟨f', (t' : Nat), 0, s.extract f' t'⟩ :: (backW back (s.extract f' t).size f' (s.extract f' t)).1.reverse) := by
    unfold cliticsW
    simp only [h1, g1]
    congr 3
    rw [exsz (by omega)]
    congr 1
    omega
  rw [e]
  exact Seg.app (Seg.app (x := [⟨f', (t' : Nat), 0, s.extract f' t'⟩]) g4 (Seg.one g2 (by omega) (by decide) (by decide))) h4
theorem kindN_in (u n w : Nat) : 0 ≤ kindN u n w ∧ kindN u n w ≤ 5 := by
  unfold kindN
  split
  · decide
  · split
    · decide
    · split <;> decide
theorem cut_seg (c : Cut) (s : ByteArray) : ∀ k a, a ≤ s.size → s.size ≤ k + a → Seg s a (cutW c s k a) s.size
  | 0, a, h1, h2 => ⟨h1, fun i g1 g2 => absurd g2 (by omega)⟩
  | k + 1, a, h1, h2 => by
    rw [cutW_step]
    split
    · rename_i h
      split
      · rename_i hb
        refine (cut_seg c s k (a + 1) (by omega) (by omega)).pre (by omega) fun i g1 g2 => ?_
        have : i = a := by omega
        subst this
        exact hb
      · have hp := bestW_pos c (sfx s a)
        have hl := bestW_le c (t := sfx s a) (by rw [sfx_size]; omega)
        rw [sfx_size] at hl
        refine Seg.app (cut_seg c s k (a + (bestW c (sfx s a)).1) (by omega) (by omega)) ?_
        unfold someW
        split
        · exact clitics_seg s _ _ _ _ (by omega) (by omega)
        · have hk : 0 ≤ (bestW c (sfx s a)).2 ∧ (bestW c (sfx s a)).2 ≤ 5 := by rw [bestW_is]; exact kindN_in _ _ _
          exact Seg.one (by omega) (by omega) hk.1 hk.2
    · exact ⟨h1, fun i g1 g2 => absurd g2 (by omega)⟩
theorem Seg.head {s : ByteArray} {a b : Nat} : ∀ {l : List Tok}, Seg s a l b → ∀ {t : Tok} {r : List Tok}, l = t :: r → (a : Int) ≤ t.fr
  | [], _, _, _, h => by cases h
  | t :: l, ⟨f, e, h1, h2, h3, _⟩, _, _, h => by cases h; omega
end Go.Proofs.Ytapkbkniooleaaa.Vs
