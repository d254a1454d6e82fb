/- Tokens, in plain words: numbers, words, units. -/
import Derived.Test.YtapkbkniooleaaaTkA1
namespace Go.Proofs.Ytapkbkniooleaaa.Vs
set_option linter.unusedVariables false
def sfx (s : ByteArray) (a : Nat) : ByteArray := s.extract a s.size
theorem sfx_size (s : ByteArray) (a : Nat) : (sfx s a).size = s.size - a := by simp [sfx, ByteArray.size_extract]
theorem sfx_list (s : ByteArray) (a : Nat) : (sfx s a).data.toList = s.data.toList.drop a := by
  have h : (s.data.toList.take s.data.toList.length).drop a = s.data.toList.drop a := by rw [List.take_of_length_le (Nat.le_refl _)]
  rw [← h, List.drop_take]
  simp only [sfx, ByteArray.data_extract, Array.toList_extract, List.extract_eq_take_drop]
  rfl
theorem sfx_at (s : ByteArray) (a i : Nat) : byteAt (sfx s a) i = byteAt s (a + i) := by
  unfold byteAt
  rw [sfx_list, List.getD_eq_getElem?_getD, List.getElem?_drop, ← List.getD_eq_getElem?_getD]
def isDotI (n : Int) : Bool := n == 46 || n == 44
def isJoinI (n : Int) : Bool := n == 39 || n == 45
def digG (s : ByteArray) : Nat → Nat → Nat
  | 0, n => n
  | k + 1, n => if decide (n < s.size) && isDigitI (byteAt s n) then digG s k (n + 1) else n
/-- Where digits end that begin at a place. -/
def digW (s : ByteArray) (n : Nat) : Nat := digG s (s.size - n) n
def numG (s : ByteArray) : Nat → Nat → Nat
  | 0, e => e
  | k + 1, e => if decide (e < s.size) && isDotI (byteAt s e) && decide (e + 1 < digW s (e + 1)) then numG s k (digW s (e + 1)) else e
/-- How long the number is with which a text begins. -/
def numW (s : ByteArray) : Nat := if digW s 0 = 0 then 0 else if decide (numG s s.size (digW s 0) < s.size) && isLetterI (byteAt s (numG s s.size (digW s 0))) then 0 else numG s s.size (digW s 0)
def wordG (s : ByteArray) : Nat → Nat → Nat
  | 0, e => e
  | k + 1, e => if decide (e < s.size) then (if isPartI (byteAt s e) then wordG s k (e + 1) else if isJoinI (byteAt s e) && decide (e + 1 < s.size) && isPartI (byteAt s (e + 1)) then wordG s k (e + 2) else e) else e
/-- How long the word is with which a text begins. -/
def wordW (s : ByteArray) : Nat := if decide (0 < s.size) && isLetterI (byteAt s 0) then wordG s s.size 1 else 0
def matchU (t x : ByteArray) : Bool := decide (x.size ≤ t.size) && (t.extract 1 x.size == x.extract 1 x.size) && (byteAt t 0 == byteAt x 0 || (isSmallI (byteAt x 0) && byteAt t 0 == byteAt x 0 - 32))
def unitS (t : ByteArray) (b : Nat) (x : ByteArray) : Nat := if decide (b < x.size) && matchU t x && (decide (x.size = t.size) || !isPartI (byteAt t x.size) || !isPartI (byteAt x (x.size - 1))) then x.size else b
/-- How long the longest unit is with which a text begins. -/
def unitW (l : List ByteArray) (t : ByteArray) : Nat := l.foldl (unitS t) 0

theorem digW_end {s : ByteArray} {k : Nat} (h : s.size ≤ k) : digW s k = k := by
  unfold digW
  rw [Nat.sub_eq_zero_of_le h]
  rfl
theorem digW_step {s : ByteArray} {k : Nat} (h : k < s.size) : digW s k = if isDigitI (byteAt s k) = true then digW s (k + 1) else k := by
  unfold digW
  rw [show s.size - k = (s.size - (k + 1)) + 1 by omega, digG, decide_eq_true h, Bool.true_and]
theorem digG_le (s : ByteArray) : ∀ k n, n ≤ s.size → digG s k n ≤ s.size
  | 0, n, h => h
  | k + 1, n, h => by
    rw [digG]
    split
    · rename_i hc
      simp only [Bool.and_eq_true, decide_eq_true_eq] at hc
      exact digG_le s k _ (by omega)
    · exact h
theorem digW_le {s : ByteArray} {n : Nat} (h : n ≤ s.size) : digW s n ≤ s.size := digG_le s _ n h
theorem digG_sfx (s : ByteArray) (a : Nat) : ∀ k n, a + digG (sfx s a) k n = digG s k (a + n)
  | 0, n => rfl
  | k + 1, n => by
    have e : decide (n < (sfx s a).size) = decide (a + n < s.size) := by rw [sfx_size]; exact decide_eq_decide.2 (by omega)
    rw [digG, digG, sfx_at, e]
    split
    · rw [digG_sfx s a k (n + 1)]; rfl
    · rfl
theorem digW_sfx (s : ByteArray) (a n : Nat) : a + digW (sfx s a) n = digW s (a + n) := by
  unfold digW
  rw [digG_sfx, sfx_size, Nat.sub_sub]
theorem numG_step {s : ByteArray} {k e : Nat} : numG s (k + 1) e = if (decide (e < s.size) && isDotI (byteAt s e) && decide (e + 1 < digW s (e + 1))) = true then numG s k (digW s (e + 1)) else e := rfl
theorem numG_le (s : ByteArray) : ∀ k e, e ≤ s.size → numG s k e ≤ s.size
  | 0, e, h => h
  | k + 1, e, h => by
    rw [numG_step]
    split
    · rename_i hc
      simp only [Bool.and_eq_true, decide_eq_true_eq] at hc
      exact numG_le s k _ (digW_le (by omega))
    · exact h
theorem numW_le (s : ByteArray) : numW s ≤ s.size := by
  unfold numW
  split
  · omega
  · split
    · omega
    · exact numG_le s _ _ (digW_le (Nat.zero_le _))
theorem wordG_step {s : ByteArray} {k e : Nat} : wordG s (k + 1) e = if decide (e < s.size) = true then (if isPartI (byteAt s e) = true then wordG s k (e + 1) else if (isJoinI (byteAt s e) && decide (e + 1 < s.size) && isPartI (byteAt s (e + 1))) = true then wordG s k (e + 2) else e) else e := rfl
theorem wordG_le (s : ByteArray) : ∀ k e, e ≤ s.size → wordG s k e ≤ s.size
  | 0, e, h => h
  | k + 1, e, h => by
    rw [wordG_step]
    split
    · rename_i h1
      have h1 := of_decide_eq_true h1
      split
      · exact wordG_le s k _ (by omega)
      · split
        · rename_i hc
          simp only [Bool.and_eq_true, decide_eq_true_eq] at hc
          exact wordG_le s k _ (by omega)
        · exact h
    · exact h
theorem wordW_le (s : ByteArray) : wordW s ≤ s.size := by
  unfold wordW
  split
  · rename_i hc
    simp only [Bool.and_eq_true, decide_eq_true_eq] at hc
    exact wordG_le s _ _ (by omega)
  · omega
theorem unitS_le {t : ByteArray} {b : Nat} {x : ByteArray} (h : b ≤ t.size) : unitS t b x ≤ t.size := by
  unfold unitS
  split
  · rename_i hc
    simp only [matchU, Bool.and_eq_true, decide_eq_true_eq] at hc
    exact hc.1.2.1.1
  · exact h
theorem unitW_le (l : List ByteArray) (t : ByteArray) : unitW l t ≤ t.size := by
  have key : ∀ (l : List ByteArray) (b : Nat), b ≤ t.size → l.foldl (unitS t) b ≤ t.size := by
    intro l
    induction l with
    | nil => exact fun b h => h
    | cons x l ih => exact fun b h => ih _ (unitS_le h)
  exact key l 0 (Nat.zero_le _)
/-- A loop's exits, joined. -/
def exitR (id : Nat) (R : Env → Heap → Prop) (Q : Ex → Env → Heap → Prop) : Ex → Env → Heap → Prop
  | .exit i, e, s => if i = id then R e s else Q (.exit i) e s
  | x, e, s => Q x e s
theorem exitR_exit {id i : Nat} {R : Env → Heap → Prop} {Q : Ex → Env → Heap → Prop} {e : Env} {s : Heap} : exitR id R Q (.exit i) e s = if i = id then R e s else Q (.exit i) e s := (rfl)
theorem exitR_ret {id : Nat} {R : Env → Heap → Prop} {Q : Ex → Env → Heap → Prop} {e : Env} {s : Heap} : exitR id R Q .ret e s = Q .ret e s := (rfl)
theorem pwp_loopJ {α : Type} {Z : Sys} {Q : Ex → Env → Heap → Prop} {env : Env} {σ : Heap} {a : LCode} (id : Nat) (R : Env → Heap → Prop) (I : α → Env → Heap → Prop) (μ : α → Nat) (x0 : α) (h0 : I x0 env σ)
    (h : ∀ x env' σ', I x env' σ' → pwp Z a (Ex.then (fun e s => ∃ y, I y e s ∧ μ y < μ x) (exitR id R Q)) env' σ') (h2 : ∀ e s, R e s → Q (.exit id) e s) {k : Keep (a, Q, env, σ)} : kLoop Z a Q env σ k := by
  refine pwp_loopG I μ x0 h0 fun x env' σ' hI => pwp_mono a (fun q e s hq => ?_) (h x env' σ' hI)
  cases q with
  | normal => exact hq
  | ret => exact hq
  | exit i =>
    simp only [Ex.then, exitR] at hq ⊢
    split at hq
    · rename_i hi
      subst hi
      exact h2 e s hq
    · exact hq
/-- A region that only looks, and what holds behind it. -/
theorem draw_sR {Z : Sys} {l : List LOp} {ts pl : List Nat} {Q : Ex → Env → Heap → Prop} {env : Env} {σ : Heap} {h : Keep (l, true, ts, pl, Q, env, σ)} (R : Env → Prop) (hs : sOps Z σ l R env) (hq : ∀ e, R e → Q .normal e σ) : kDraw Z l true ts pl Q env σ h :=
  .inr (.inl ⟨rfl, aStillsM _ hq (sOps_ok l hs)⟩)
end Go.Proofs.Ytapkbkniooleaaa.Vs
