/- Samples and their counts, plain: how often a tag stood with an ending, and what stays of it when samples are put together. -/
import Derived.Test.YthchlpikcpidaaaDoorFnBx
import Derived.Test.YthchlpikcpidaaaDoorDmMap
namespace Go.Proofs.YthchlpikcpidaaaDoor.Vs
set_option linter.unusedVariables false
set_option linter.unusedSimpArgs false
structure Smp where
  word : Wd
  tag : ByteArray
  many : Int
def noB : ByteArray := ⟨#[]⟩
def isEnd (e w : Wd) : Bool := decide (e.length ≤ w.length) && eqW (w.drop (w.length - e.length)) e
theorem isEnd_nil (w : Wd) : isEnd [] w = true := by simp [isEnd, eqW]
def hit (e : Wd) (t : ByteArray) (x : Smp) : Bool := isEnd e x.word && (t == noB || t == x.tag)
def one (e : Wd) (t : ByteArray) (x : Smp) : Int := if hit e t x then x.many else 0
def cnt : List Smp → Wd → ByteArray → Int
  | [], _, _ => 0
  | x :: l, e, t => one e t x + cnt l e t
theorem cnt_append : ∀ (a b : List Smp) (e : Wd) (t : ByteArray), cnt (a ++ b) e t = cnt a e t + cnt b e t
  | [], b, e, t => by simp [cnt]
  | x :: a, b, e, t => by simp only [List.cons_append, cnt, cnt_append a b e t]; omega
theorem cnt_one (x : Smp) (e : Wd) (t : ByteArray) : cnt [x] e t = one e t x := by simp [cnt]

def letB (c : Int) : Bool := (decide (97 ≤ c) && decide (c ≤ 122)) || (decide (65 ≤ c) && decide (c ≤ 90))
def digB (c : Int) : Bool := decide (48 ≤ c) && decide (c ≤ 57)
def namC (s : ByteArray) (i : Nat) : Bool := letB (byteAt s i) || (decide (i ≠ 0) && digB (byteAt s i))
def isNm (s : ByteArray) : Bool := (List.range s.size).all (namC s) && (decide (1 ≤ s.size) && decide (s.size ≤ 12))

/-- What is wrong with samples by their sizes. -/
def sumE : List Smp → Int → Int
  | [], _ => 0
  | x :: l, a => if 1000 < x.many then 3 else if 1000 < a + x.many then 3 else sumE l (a + x.many)
def oddS (x : Smp) : Bool := !(isNm x.tag) || decide (x.many < 1)
/-- What is wrong with samples. -/
def badS (l : List Smp) : Int := if badLL (l.map (·.word)) ≠ 0 then badLL (l.map (·.word)) else if l.any oddS then 1 else sumE l 0
def newE (l : List Smp) : Int := if 200 < l.length then 3 else badS l

def fineS (x : Smp) : Prop := badW x.word = 0 ∧ isNm x.tag = true ∧ 1 ≤ x.many
theorem badS_fine {l : List Smp} (h : badS l = 0) : ∀ x ∈ l, fineS x := fun x hx => by
  unfold badS at h
  split at h
  · rename_i h1; exact absurd h h1
  · rename_i h1
    split at h
    · cases h
    · rename_i h2
      have h3 : badW x.word = 0 := badLL_zero (Classical.not_not.1 h1) _ (List.mem_map.2 ⟨x, hx, rfl⟩)
      have h4 : oddS x = false := by
        simp only [Bool.not_eq_true, List.any_eq_false] at h2
        simpa using h2 x hx
      simp only [oddS, Bool.or_eq_false_iff, Bool.not_eq_false', decide_eq_false_iff_not] at h4
      exact ⟨h3, h4.1, by omega⟩
theorem newE_fine {l : List Smp} (h : newE l = 0) : l.length ≤ 200 ∧ badS l = 0 := by
  unfold newE at h
  split at h
  · cases h
  · exact ⟨by omega, h⟩
def tot (l : List Smp) : Int := cnt l [] noB
theorem one_all (x : Smp) : one [] noB x = x.many := by
  have h : (noB == noB) = true := ba_refl _
  simp [one, hit, isEnd_nil, h]
theorem tot_cons (x : Smp) (l : List Smp) : tot (x :: l) = x.many + tot l := by simp only [tot, cnt, one_all]
theorem sumE_tot : ∀ {l : List Smp} {a : Int}, (∀ x ∈ l, 1 ≤ x.many) → 0 ≤ a → a ≤ 1000 → (sumE l a = 0 ↔ a + tot l ≤ 1000)
  | [], a, _, _, h => by simp [sumE, tot, cnt]; omega
  | x :: l, a, hm, h0, h1 => by
    have hx := hm x List.mem_cons_self
    have hl : ∀ y ∈ l, 1 ≤ y.many := fun y hy => hm y (List.mem_cons_of_mem _ hy)
    have h0l : 0 ≤ tot l := by
      have : ∀ l : List Smp, (∀ y ∈ l, 1 ≤ y.many) → 0 ≤ tot l := fun l => by
        induction l with
        | nil => intro _; simp [tot, cnt]
        | cons y l ih => intro h; rw [tot_cons]; have := h y List.mem_cons_self; have := ih fun z hz => h z (List.mem_cons_of_mem _ hz); omega
      exact this l hl
    rw [tot_cons]
    simp only [sumE]
    split
    · omega
    · split
      · omega
      · rw [sumE_tot hl (by omega) (by omega)]; omega
theorem cnt_nonneg : ∀ {l : List Smp} (e : Wd) (t : ByteArray), (∀ x ∈ l, 1 ≤ x.many) → 0 ≤ cnt l e t
  | [], e, t, _ => by simp [cnt]
  | x :: l, e, t, h => by
    have h1 := h x List.mem_cons_self
    have h2 := cnt_nonneg (l := l) e t fun y hy => h y (List.mem_cons_of_mem _ hy)
    simp only [cnt, one]
    split <;> omega
/-- With more asked there is less. -/
theorem cnt_le : ∀ {l : List Smp} {e e' : Wd} {t t' : ByteArray}, (∀ x ∈ l, 1 ≤ x.many) → (∀ x ∈ l, hit e t x = true → hit e' t' x = true) → cnt l e t ≤ cnt l e' t'
  | [], e, e', t, t', _, _ => by simp [cnt]
  | x :: l, e, e', t, t', h, hh => by
    have h1 := h x List.mem_cons_self
    have h2 := cnt_le (l := l) (e := e) (e' := e') (t := t) (t' := t') (fun y hy => h y (List.mem_cons_of_mem _ hy)) fun y hy => hh y (List.mem_cons_of_mem _ hy)
    have h3 := hh x List.mem_cons_self
    simp only [cnt, one]
    cases hq : hit e t x with
    | false => split <;> simp_all <;> omega
    | true => rw [h3 hq]; simp; omega
theorem hit_less {e : Wd} {t : ByteArray} {x : Smp} (h : hit e t x = true) : hit [] t x = true ∧ hit e noB x = true := by
  have h0 : (noB == noB) = true := ba_refl _
  simp only [hit, Bool.and_eq_true] at h ⊢
  exact ⟨⟨isEnd_nil _, h.2⟩, h.1, by simp [h0]⟩

def cmpW (a b : Wd) : Int := if a.length < b.length then -1 else if b.length < a.length then 1 else ordW a b
theorem ordW_zero : ∀ {a b : Wd}, ordW a b = 0 → a = b
  | [], [], _ => rfl
  | [], _ :: _, h => by cases h
  | _ :: _, [], h => by cases h
  | x :: a, y :: b, h => by
    simp only [ordW] at h
    split at h
    · cases h
    · split at h
      · rename_i hq; rw [ba_eq hq, ordW_zero h]
      · cases h
theorem cmpW_zero {a b : Wd} (h : cmpW a b = 0) : a = b := by
  unfold cmpW at h
  split at h
  · cases h
  · split at h
    · cases h
    · exact ordW_zero h
end Go.Proofs.YthchlpikcpidaaaDoor.Vs
