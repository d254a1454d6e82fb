/- The order of words is a total order. -/
import Derived.Sort.Walk0
import Derived.Sort.Statements
import Derived.Test.YthchlpikcpidaaaDoorFnC
namespace Go.Proofs.YthchlpikcpidaaaDoor.Vs
open Go.Sort
set_option linter.unusedVariables false
set_option linter.unusedSimpArgs false
theorem ba_ext' {a b : ByteArray} (h : a.data.toList = b.data.toList) : a = b := by cases a; cases b; congr 1; exact Array.toList_inj.1 h
theorem u8_tri (a b : UInt8) : a < b ∨ a = b ∨ b < a := by
  rcases Nat.lt_trichotomy a.toNat b.toNat with h | h | h
  · exact .inl h
  · exact .inr (.inl (UInt8.toNat_inj.1 h))
  · exact .inr (.inr h)
theorem bl_tri : ∀ a b : List UInt8, Op.bytesLess a b = true ∨ a = b ∨ Op.bytesLess b a = true
  | [], [] => .inr (.inl rfl)
  | [], b :: y => .inl rfl
  | a :: x, [] => .inr (.inr rfl)
  | a :: x, b :: y => by
    rcases u8_tri a b with h | h | h
    · exact .inl (by simp [Op.bytesLess, h])
    · subst h
      rcases bl_tri x y with h | h | h
      · exact .inl (by simp [Op.bytesLess, h])
      · exact .inr (.inl (by rw [h]))
      · exact .inr (.inr (by simp [Op.bytesLess, h]))
    · exact .inr (.inr (by simp [Op.bytesLess, h]))
theorem bl_trans : ∀ {a b c : List UInt8}, Op.bytesLess a b = true → Op.bytesLess b c = true → Op.bytesLess a c = true
  | _, [], _, h, _ => by cases ‹List UInt8› <;> simp [Op.bytesLess] at h
  | _, _ :: _, [], _, h => by simp [Op.bytesLess] at h
  | [], _ :: _, _ :: _, _, _ => rfl
  | a :: x, b :: y, c :: z, h1, h2 => by
    simp only [Op.bytesLess, Bool.or_eq_true, decide_eq_true_eq, Bool.and_eq_true, beq_iff_eq] at h1 h2 ⊢
    rcases h1 with h1 | ⟨rfl, h1⟩
    · rcases h2 with h2 | ⟨rfl, h2⟩
      · exact .inl (Nat.lt_trans (m := b.toNat) h1 h2)
      · exact .inl h1
    · rcases h2 with h2 | ⟨rfl, h2⟩
      · exact .inl h2
      · exact .inr ⟨rfl, bl_trans h1 h2⟩
theorem strLt_tri (a b : ByteArray) : strLt a b = true ∨ a = b ∨ strLt b a = true := by
  rcases bl_tri a.data.toList b.data.toList with h | h | h
  · exact .inl h
  · exact .inr (.inl (ba_ext' h))
  · exact .inr (.inr h)
theorem strLt_trans {a b c : ByteArray} (h1 : strLt a b = true) (h2 : strLt b c = true) : strLt a c = true := bl_trans h1 h2
/-- Less, as a relation. -/
def ltW (a b : Wd) : Bool := decide (ordW a b < 0)
theorem ltW_cons {x y : ByteArray} {a b : Wd} : ltW (x :: a) (y :: b) = (strLt x y || ((x == y) && ltW a b)) := by
  unfold ltW
  rw [ordW]
  cases h1 : strLt x y
  · cases h2 : (x == y) <;> simp
  · simp
theorem ltW_tri : ∀ a b : Wd, ltW a b = true ∨ a = b ∨ ltW b a = true
  | [], [] => .inr (.inl rfl)
  | [], b :: y => .inl rfl
  | a :: x, [] => .inr (.inr rfl)
  | a :: x, b :: y => by
    rw [ltW_cons, ltW_cons]
    rcases strLt_tri a b with h | h | h
    · exact .inl (by rw [h]; rfl)
    · subst h
      rcases ltW_tri x y with h | h | h
      · exact .inl (by rw [ba_refl, h]; simp)
      · exact .inr (.inl (by rw [h]))
      · exact .inr (.inr (by rw [ba_refl, h]; simp))
    · exact .inr (.inr (by rw [h]; rfl))
theorem ltW_irrefl : ∀ a : Wd, ltW a a = false
  | [] => rfl
  | x :: a => by rw [ltW_cons, strLt_irrefl, ltW_irrefl a]; simp
theorem ltW_trans : ∀ {a b c : Wd}, ltW a b = true → ltW b c = true → ltW a c = true
  | a, [], c, h, _ => by cases a <;> simp [ltW, ordW] at h
  | a, _ :: _, [], _, h => by simp [ltW, ordW] at h
  | [], _ :: _, _ :: _, _, _ => rfl
  | a :: x, b :: y, c :: z, h1, h2 => by
    rw [ltW_cons] at h1 h2 ⊢
    simp only [Bool.or_eq_true, Bool.and_eq_true] at h1 h2 ⊢
    rcases h1 with h1 | ⟨e1, h1⟩
    · rcases h2 with h2 | ⟨e2, h2⟩
      · exact .inl (strLt_trans h1 h2)
      · rw [← ba_eq e2]; exact .inl h1
    · rcases h2 with h2 | ⟨e2, h2⟩
      · rw [ba_eq e1]; exact .inl h2
      · exact .inr ⟨by rw [ba_eq e1]; exact e2, ltW_trans h1 h2⟩
end Go.Proofs.YthchlpikcpidaaaDoor.Vs
