/- Two tables joined, plain: what waits, what is written, which rests there are. -/
import Derived.Test.YtldlcejlfaogbaaGreatDoorFnD1
import Derived.Test.YtldlcejlfaogbaaGreatDoorCodeA
import Derived.Test.YtldlcejlfaogbaaGreatDoorFnKey
import Derived.Test.YtldlcejlfaogbaaGreatDoorFnJ
namespace Go.Proofs.YtldlcejlfaogbaaGreatDoor.Vs
set_option linter.unusedVariables false
set_option linter.unusedSimpArgs false
set_option maxRecDepth 20000
def waitsR (w : Wd) (r : Sh) : Bool := decide (w.length < r.From.length) && begW r.From w
def waitsW (t : List Sh) (w : Wd) : Bool := t.any (waitsR w)
def fedF (t : List Sh) : Nat → Wd → Wd × Wd
  | 0, w => ([], w)
  | n + 1, w => if w.length = 0 ∨ waitsW t w = true then ([], w) else (stepTo t w ++ (fedF t n (w.drop (stepN t w))).1, (fedF t n (w.drop (stepN t w))).2)
def fedW (t : List Sh) (w : Wd) : Wd × Wd := fedF t w.length w
theorem fedF_more {t : List Sh} (ht : ∀ r ∈ t, r.From ≠ []) : ∀ (n : Nat) (w : Wd), w.length ≤ n → fedF t n w = fedW t w := by
  have key : ∀ (n m : Nat) (w : Wd), w.length ≤ n → w.length ≤ m → fedF t n w = fedF t m w := fun n => by
    induction n with
    | zero =>
      intro m w h1 h2
      have : w = [] := List.eq_nil_of_length_eq_zero (by omega)
      subst this
      cases m <;> simp [fedF]
    | succ n ih =>
      intro m w h1 h2
      cases m with
      | zero =>
        have : w = [] := List.eq_nil_of_length_eq_zero (by omega)
        subst this
        simp [fedF]
      | succ m =>
        simp only [fedF]
        split
        · rfl
        · rename_i hc
          have hw : w ≠ [] := fun e => hc (.inl (by rw [e]; rfl))
          have hs := stepN_pos ht hw
          rw [ih m (w.drop (stepN t w)) (by rw [List.length_drop]; omega) (by rw [List.length_drop]; omega)]
  exact fun n w h => key n w.length w h (Nat.le_refl _)
theorem fedW_stop {t : List Sh} {w : Wd} (h : w.length = 0 ∨ waitsW t w = true) : fedW t w = ([], w) := by
  unfold fedW
  cases hl : w.length with
  | zero => rfl
  | succ n => simp only [fedF]; rw [if_pos h]
theorem fedW_go {t : List Sh} (ht : ∀ r ∈ t, r.From ≠ []) {w : Wd} (h : ¬ (w.length = 0 ∨ waitsW t w = true)) : fedW t w = (stepTo t w ++ (fedW t (w.drop (stepN t w))).1, (fedW t (w.drop (stepN t w))).2) := by
  have hw : w ≠ [] := fun e => h (.inl (by rw [e]; rfl))
  have hs := stepN_pos ht hw
  have e : fedW t w = fedF t ((w.length - 1) + 1) w := by
    unfold fedW
    congr 1
    omega
  rw [e]
  simp only [fedF]
  rw [if_neg h, fedF_more ht _ _ (by rw [List.length_drop]; omega)]
theorem fedW_left {t : List Sh} (ht : ∀ r ∈ t, r.From ≠ []) : ∀ (n : Nat) (w : Wd), w.length ≤ n → ((fedW t w).2.length = 0 ∨ waitsW t (fedW t w).2 = true) ∧ ∃ k, (fedW t w).2 = w.drop k
  | 0, w, h => by
    have : w = [] := List.eq_nil_of_length_eq_zero (by omega)
    subst this
    exact ⟨.inl rfl, 0, rfl⟩
  | n + 1, w, h => by
    by_cases hc : w.length = 0 ∨ waitsW t w = true
    · rw [fedW_stop hc]; exact ⟨hc, 0, by simp⟩
    · have hw : w ≠ [] := fun e => hc (.inl (by rw [e]; rfl))
      have hs := stepN_pos ht hw
      rw [fedW_go ht hc]
      obtain ⟨h1, k, h2⟩ := fedW_left ht n (w.drop (stepN t w)) (by rw [List.length_drop]; omega)
      exact ⟨h1, stepN t w + k, by rw [h2, List.drop_drop]⟩
/-- What a table makes of words, one behind the other and apart. -/
def stepJ (t : List Sh) (left w : Wd) : Bool := eqW ((shiftW t left).1 ++ (shiftW t w).1) ((fedW t (left ++ w)).1 ++ (shiftW t (fedW t (left ++ w)).2).1)
def nextJ (t : List Sh) (left w : Wd) : Wd := (fedW t (left ++ w)).2
def addJ (todo : List Wd) (n : Wd) : List Wd := if todo.any (fun x => eqW x n) = true then todo else todo ++ [n]
theorem anyEq {todo : List Wd} {n : Wd} : todo.any (fun x => eqW x n) = true ↔ n ∈ todo := by
  rw [List.any_eq_true]
  exact ⟨fun ⟨x, hx, h⟩ => by rw [← eqW_iff.1 h]; exact hx, fun h => ⟨n, h, eqW_iff.2 rfl⟩⟩
def inJ (t : List Sh) (left : Wd) : List Wd → List Wd → Option (List Wd)
  | [], todo => some todo
  | w :: l, todo => if stepJ t left w = true then inJ t left l (addJ todo (nextJ t left w)) else none
def outJ (t : List Sh) (l : List Wd) : Nat → Nat → List Wd → Bool
  | 0, _, _ => true
  | f + 1, i, todo => match todo[i]? with
    | none => true
    | some left => match inJ t left l todo with
      | none => false
      | some todo' => outJ t l f (i + 1) todo'
def joinsW (t : List Sh) (l : List Wd) : Bool := outJ t l 2000 0 [[]]

def prefs (t : List Sh) : List Wd := [] :: t.flatMap fun r => (List.range r.From.length).map fun j => r.From.take j
theorem prefs_len {t : List Sh} (h : ∀ r ∈ t, r.From.length ≤ 60) : (prefs t).length ≤ 1 + 60 * t.length := by
  unfold prefs
  rw [List.length_cons]
  have : ∀ t : List Sh, (∀ r ∈ t, r.From.length ≤ 60) → (t.flatMap fun r => (List.range r.From.length).map fun j => r.From.take j).length ≤ 60 * t.length := fun t => by
    induction t with
    | nil => intro _; simp
    | cons r t ih =>
      intro h
      rw [List.flatMap_cons, List.length_append, List.length_map, List.length_range, List.length_cons]
      have h1 := h r List.mem_cons_self
      have h2 := ih fun r hr => h r (List.mem_cons_of_mem _ hr)
      omega
  have := this t h
  omega
theorem waits_pref {t : List Sh} {w : Wd} (h : w.length = 0 ∨ waitsW t w = true) : w ∈ prefs t := by
  rcases h with h | h
  · rw [List.eq_nil_of_length_eq_zero h]; exact List.mem_cons_self
  · obtain ⟨r, hr, hw⟩ := List.any_eq_true.1 h
    simp only [waitsR, Bool.and_eq_true, decide_eq_true_eq] at hw
    refine List.mem_cons_of_mem _ (List.mem_flatMap.2 ⟨r, hr, List.mem_map.2 ⟨w.length, List.mem_range.2 hw.1, ?_⟩⟩)
    have := hw.2
    rw [begW_take, Bool.and_eq_true] at this
    exact eqW_iff.1 this.2
structure TodoJ (t : List Sh) (todo : List Wd) : Prop where
  nd : todo.Nodup
  sub : ∀ w ∈ todo, w.length = 0 ∨ waitsW t w = true
theorem TodoJ.len {t : List Sh} {todo : List Wd} (h : TodoJ t todo) (ht : ∀ r ∈ t, r.From.length ≤ 60) (h24 : t.length ≤ 24) : todo.length ≤ 1441 := by
  have h1 := nodup_len h.nd fun w hw => waits_pref (h.sub w hw)
  have h2 := prefs_len ht
  omega
theorem TodoJ.add {t : List Sh} {todo : List Wd} (h : TodoJ t todo) {n : Wd} (hn : n.length = 0 ∨ waitsW t n = true) : TodoJ t (addJ todo n) := by
  unfold addJ
  split
  · exact h
  · rename_i hm
    refine ⟨?_, fun w hw => ?_⟩
    · rw [List.nodup_append]
      exact ⟨h.nd, by simp, fun a ha b hb => by simp at hb; subst hb; exact fun e => hm (anyEq.2 (e ▸ ha))⟩
    · rcases List.mem_append.1 hw with hw | hw
      · exact h.sub w hw
      · simp at hw; subst hw; exact hn
theorem TodoJ.init (t : List Sh) : TodoJ t [[]] := ⟨by simp, fun w hw => by simp at hw; subst hw; exact .inl rfl⟩
theorem nextJ_ok {t : List Sh} (ht : ∀ r ∈ t, r.From ≠ []) (left w : Wd) : (nextJ t left w).length = 0 ∨ waitsW t (nextJ t left w) = true := (fedW_left ht _ _ (Nat.le_refl _)).1

end Go.Proofs.YtldlcejlfaogbaaGreatDoor.Vs
