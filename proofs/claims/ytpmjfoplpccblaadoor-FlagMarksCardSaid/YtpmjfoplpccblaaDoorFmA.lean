/- numbers of YtpmjfoplpccblaaDoor -/
import Derived.Lib.SlTrimSet
import Derived.Test.YtpmjfoplpccblaaDoorLawReadsA
import Derived.Test.YtpmjfoplpccblaaDoorRdF1
namespace Go.Proofs.YtpmjfoplpccblaaDoor.Vs
set_option linter.unusedVariables false
set_option linter.unusedSimpArgs false
set_option maxRecDepth 20000
def abc : List UInt8 := [97, 98, 99, 100, 101, 102, 103, 104, 105, 106, 107, 108, 109, 110, 111, 112, 113, 114, 115, 116, 117, 118, 119, 120, 121, 122]
def isAz (c : UInt8) : Bool := decide (97 ≤ c.toNat) && decide (c.toNat ≤ 122)
theorem abc_all : ∀ n, n < 256 → abc.contains (UInt8.ofNat n) = (decide (97 ≤ n) && decide (n ≤ 122)) := by decide
theorem abc_is (c : UInt8) : abc.contains c = isAz c := by
  have h := abc_all c.toNat c.toNat_lt
  rw [UInt8.ofNat_toNat] at h
  exact h
theorem drop_all {α : Type} {p : α → Bool} : ∀ {l : List α}, (∀ y ∈ l.dropWhile p, p y = true) → ∀ y ∈ l, p y = true
  | [], _, y, hy => by cases hy
  | a :: t, h, y, hy => by
    cases ha : p a with
    | true =>
      rw [List.dropWhile_cons, if_pos ha] at h
      rcases List.mem_cons.1 hy with rfl | hy
      · exact ha
      · exact drop_all h y hy
    | false =>
      rw [List.dropWhile_cons, if_neg (by rw [ha]; decide)] at h
      have := h a (by simp)
      rw [ha] at this
      cases this
theorem drop_nil {α : Type} {p : α → Bool} {l : List α} (h : ∀ y ∈ l, p y = true) : l.dropWhile p = [] := by
  induction l with
  | nil => rfl
  | cons a t ih =>
    rw [List.dropWhile_cons, if_pos (h a (by simp))]
    exact ih fun y hy => h y (List.mem_cons_of_mem _ hy)
theorem trim_nil (l : List UInt8) : decide (Lib.trimS l abc = []) = l.all isAz := by
  apply Bool.eq_iff_iff.2
  rw [decide_eq_true_iff, List.all_eq_true]
  unfold Lib.trimS Lib.trimLeftS Lib.trimRightS
  constructor
  · intro h c hc
    have h1 : ∀ y ∈ (l.reverse.dropWhile (abc.contains ·)).reverse, abc.contains y = true := drop_all (p := (abc.contains ·)) (by rw [h]; intro y hy; cases hy)
    have h2 : ∀ y ∈ l.reverse, abc.contains y = true := drop_all (p := (abc.contains ·)) fun y hy => h1 y (List.mem_reverse.2 hy)
    rw [← abc_is]
    exact h2 c (List.mem_reverse.2 hc)
  · intro h
    have h1 : l.reverse.dropWhile (abc.contains ·) = [] := drop_nil fun y hy => by
      show abc.contains y = true
      rw [abc_is]; exact h y (List.mem_reverse.1 hy)
    rw [h1]; rfl
def partL (x : List UInt8) : Bool := !decide (x = []) && (decide (x.length ≤ 5) && x.all isAz)
def okK (k : UInt8) (v : List UInt8) : Bool := if k = 80 ∨ k = 78 ∨ k = 85 then !decide (v = []) else if k = 67 then decide (v = []) else decide (k = 82) || decide (k = 68)
def bodyMk (k : UInt8) (mid : List UInt8) : Bool := partL (headL 46 mid) && ((!decide (46 ∈ mid) || partL (tailL 46 mid)) && okK k (tailL 46 mid))
def midL (l : List UInt8) : List UInt8 := (l.take (l.length - 1)).drop 3
def frame (l : List UInt8) : Bool := decide (5 ≤ l.length) && (decide (l[0]? = some 64) && (decide (l[2]? = some 46) && decide (l[l.length - 1]? = some 64)))
def isMk (l : List UInt8) : Bool := frame l && bodyMk (l.getD 1 0) (midL l)
theorem part_no (x : List UInt8) (h : (46 : UInt8) ∈ x) : partL x = false := by
  have : x.all isAz = false := List.all_eq_false.2 ⟨46, h, by decide⟩
  unfold partL
  rw [this]; simp
/-- By the pieces. -/
def bodyRf (k : UInt8) (mid : List UInt8) : Bool := match cutL 46 mid with
  | [f] => partL f && okK k []
  | [f, v] => partL f && (partL v && okK k v)
  | _ => false
theorem body_eq (k : UInt8) (mid : List UInt8) : bodyRf k mid = bodyMk k mid := by
  unfold bodyRf bodyMk
  rw [cutL_head]
  by_cases h : (46 : UInt8) ∈ mid
  · rw [if_pos h, cutL_head, decide_eq_true h]
    by_cases h2 : (46 : UInt8) ∈ tailL 46 mid
    · rw [if_pos h2, part_no _ h2]
      obtain ⟨y, L, hL⟩ := List.exists_cons_of_ne_nil (cutL_ne 46 (tailL 46 (tailL 46 mid)))
      rw [hL]
      simp
    · rw [if_neg h2, (headL_not 46 h2).1]
      simp
  · rw [if_neg h, decide_eq_false h, (headL_not 46 h).2]
    simp
def upAt (l : Wd) (j : Nat) : Bool := decide (j = 0) || strLt (l.getD (j - 1) ⟨#[]⟩) (l.getD j ⟨#[]⟩)
def ascB (l : Wd) : Bool := (List.range l.length).all (upAt l)
def badS (l : Wd) : Int := if decide (40 < l.length) || l.any (fun s => decide (16 < s.size)) then 3 else if l.all symOK && ascB l then 0 else 1
def cntW : Wd → Nat → Nat
  | [], n => n
  | s :: w, n => if n ≤ 16384 then cntW w (n + 1 + s.size) else n
theorem cntW_ge : ∀ (w : Wd) (n : Nat), n ≤ cntW w n
  | [], n => Nat.le_refl _
  | s :: w, n => by
    rw [cntW]
    split
    · have := cntW_ge w (n + 1 + s.size); omega
    · exact Nat.le_refl _
theorem cntW_small : ∀ {w : Wd} {n : Nat}, cntW w n ≤ 16384 → n + w.length ≤ 16384 ∧ ∀ s ∈ w, s.size ≤ 16384
  | [], n, h => ⟨by simpa [cntW] using h, fun s hs => by cases hs⟩
  | s :: w, n, h => by
    have h0 := cntW_ge (s :: w) n
    have hn : n ≤ 16384 := Nat.le_trans h0 h
    rw [cntW, if_pos hn] at h
    obtain ⟨h1, h2⟩ := cntW_small h
    have h3 := cntW_ge w (n + 1 + s.size)
    refine ⟨by simp only [List.length_cons]; omega, fun x hx => ?_⟩
    rcases List.mem_cons.1 hx with rfl | hx
    · omega
    · exact h2 x hx
/-- The value that the program's reading of a mark hands back. -/
def mkParts (l : List UInt8) : Bool := frame l && (partL (headL 46 (midL l)) && (!decide (46 ∈ midL l) || partL (tailL 46 (midL l))))
theorem isMk_parts (l : List UInt8) : isMk l = (mkParts l && okK (l.getD 1 0) (tailL 46 (midL l))) := by
  unfold isMk mkParts bodyMk
  cases frame l <;> cases partL (headL 46 (midL l)) <;> cases (!decide (46 ∈ midL l) || partL (tailL 46 (midL l))) <;> rfl
end Go.Proofs.YtpmjfoplpccblaaDoor.Vs
