import Derived.Test.YtapkbkniooleaaaFnA
/- numbers of Ytapkbkniooleaaa -/
namespace Go.Proofs.Ytapkbkniooleaaa.Vs
set_option linter.unusedVariables false
structure Tok where
  fr : Int
  to : Int
  kind : Int
  text : ByteArray
def encTk (t : Tok) : List D := [.int .i64 t.fr, .int .i64 t.to, .int .i64 t.kind, .str t.text]
def encTks (l : List Tok) : List D := l.flatMap encTk
def lowB (s : ByteArray) : ByteArray := ⟨s.data.map fun b => if 65 ≤ b ∧ b ≤ 90 then b + 32 else b⟩
def preW (s x : ByteArray) : Bool := decide (x.size ≤ s.size) && s.extract 0 x.size == x
def sufW (s x : ByteArray) : Bool := decide (x.size ≤ s.size) && s.extract (s.size - x.size) s.size == x
def edgeS (p : ByteArray → ByteArray → Bool) (s : ByteArray) (b : Nat) (x : ByteArray) : Nat := if decide (b < x.size) && decide (x.size < s.size) && p s x then x.size else b
/-- The longest of a list that stands at an edge, something being left. -/
def edgeW (p : ByteArray → ByteArray → Bool) (l : List ByteArray) (s : ByteArray) : Nat := l.foldl (edgeS p s) 0
def frontW (l : List ByteArray) : Nat → Nat → ByteArray → List Tok × Nat × ByteArray
  | 0, f, s => ([], f, s)
  | k + 1, f, s =>
    let n := edgeW preW l (lowB s)
    if n = 0 then ([], f, s) else
      let r := frontW l k (f + n) (s.extract n s.size)
      (⟨f, (f + n : Nat), 4, s.extract 0 n⟩ :: r.1, r.2)
def backW (l : List ByteArray) : Nat → Nat → ByteArray → List Tok × ByteArray
  | 0, f, s => ([], s)
  | k + 1, f, s =>
    let n := edgeW sufW l (lowB s)
    if n = 0 then ([], s) else
      let r := backW l k f (s.extract 0 (s.size - n))
      (⟨(f + (s.size - n) : Nat), (f + s.size : Nat), 5, s.extract (s.size - n) s.size⟩ :: r.1, r.2)
def cliticsW (front back : List ByteArray) (f : Nat) (s : ByteArray) : List Tok :=
  let a := frontW front s.size f s
  let b := backW back a.2.2.size a.2.1 a.2.2
  a.1 ++ ⟨a.2.1, (a.2.1 + b.2.size : Nat), 0, b.2⟩ :: b.1.reverse
end Go.Proofs.Ytapkbkniooleaaa.Vs

/- numbers of Ytapkbkniooleaaa -/
namespace Go.Proofs.Ytapkbkniooleaaa.Vs
set_option linter.unusedVariables false
set_option linter.unusedSimpArgs false
set_option maxRecDepth 100000
def isBlankI (n : Int) : Bool := decide (n = 9) || decide (n = 10) || decide (n = 13) || decide (n = 32)
def isBigI (n : Int) : Bool := decide (65 ≤ n) && decide (n ≤ 90)
def isSmallI (n : Int) : Bool := decide (97 ≤ n) && decide (n ≤ 122)
def isDigitI (n : Int) : Bool := decide (48 ≤ n) && decide (n ≤ 57)
def isLetterI (n : Int) : Bool := isBigI n || isSmallI n || decide (127 < n)
def isPartI (n : Int) : Bool := isLetterI n || isDigitI n
theorem bFF : (false == false) = true := rfl
theorem bTT : (true == true) = true := rfl
theorem bTF : (true == false) = false := rfl
theorem bFT : (false == true) = false := rfl
theorem eqb {a b : Int} : (a == b) = decide (a = b) := rfl
theorem isBig_c (n : Int) : Fn Zs 53 [.int .u8 n] (.bool (isBigI n)) := by
  refine fn_of (Z := Zs) ok53 fun σ hcl hbl => ?_
  simp -dsimp only [L53, ↓preB, postB, genB, ↓reduceIte, Nat.reduceEqDiff, Int.reduceToNat, Int.reduceLE, Int.reduceLT, Nat.reduceAdd, Nat.reduceLeDiff, intBin, strBin, unD, extractD, lit1, lit2, lit3, keptD, boxR, D.one, D.pub1, D.cells, splice, cutOwn]
  by_cases e1 : (65 : Int) ≤ n
  · by_cases e2 : n ≤ 90
    · simp -dsimp only [e1, e2, gate, decide_true, bTT, ↓preB, postB, genB, ↓reduceIte, Nat.reduceEqDiff, Int.reduceToNat, Int.reduceLE, Int.reduceLT, Nat.reduceAdd, Nat.reduceLeDiff, intBin, strBin, unD, extractD, lit1, lit2, lit3, keptD, boxR, D.one, D.pub1, D.cells, splice, cutOwn]
      intros
      exact Ret.is (by simp [isBigI, e1, e2])
    · simp -dsimp only [e1, e2, gate, decide_true, decide_false, bTT, ↓preB, postB, genB, ↓reduceIte, Nat.reduceEqDiff, Int.reduceToNat, Int.reduceLE, Int.reduceLT, Nat.reduceAdd, Nat.reduceLeDiff, intBin, strBin, unD, extractD, lit1, lit2, lit3, keptD, boxR, D.one, D.pub1, D.cells, splice, cutOwn]
      intros
      exact Ret.is (by simp [isBigI, e1, e2])
  · simp -dsimp only [e1, gate, decide_false, bFT, ↓preB, postB, genB, ↓reduceIte, Nat.reduceEqDiff, Int.reduceToNat, Int.reduceLE, Int.reduceLT, Nat.reduceAdd, Nat.reduceLeDiff, intBin, strBin, unD, extractD, lit1, lit2, lit3, keptD, boxR, D.one, D.pub1, D.cells, splice, cutOwn]
    intros
    exact Ret.is (by simp [isBigI, e1])
theorem isSmall_c (n : Int) : Fn Zs 45 [.int .u8 n] (.bool (isSmallI n)) := by
  refine fn_of (Z := Zs) ok45 fun σ hcl hbl => ?_
  simp -dsimp only [L45, ↓preB, postB, genB, ↓reduceIte, Nat.reduceEqDiff, Int.reduceToNat, Int.reduceLE, Int.reduceLT, Nat.reduceAdd, Nat.reduceLeDiff, intBin, strBin, unD, extractD, lit1, lit2, lit3, keptD, boxR, D.one, D.pub1, D.cells, splice, cutOwn]
  by_cases e1 : (97 : Int) ≤ n
  · by_cases e2 : n ≤ 122
    · simp -dsimp only [e1, e2, gate, decide_true, bTT, ↓preB, postB, genB, ↓reduceIte, Nat.reduceEqDiff, Int.reduceToNat, Int.reduceLE, Int.reduceLT, Nat.reduceAdd, Nat.reduceLeDiff, intBin, strBin, unD, extractD, lit1, lit2, lit3, keptD, boxR, D.one, D.pub1, D.cells, splice, cutOwn]
      intros
      exact Ret.is (by simp [isSmallI, e1, e2])
    · simp -dsimp only [e1, e2, gate, decide_true, decide_false, bTT, ↓preB, postB, genB, ↓reduceIte, Nat.reduceEqDiff, Int.reduceToNat, Int.reduceLE, Int.reduceLT, Nat.reduceAdd, Nat.reduceLeDiff, intBin, strBin, unD, extractD, lit1, lit2, lit3, keptD, boxR, D.one, D.pub1, D.cells, splice, cutOwn]
      intros
      exact Ret.is (by simp [isSmallI, e1, e2])
  · simp -dsimp only [e1, gate, decide_false, bFT, ↓preB, postB, genB, ↓reduceIte, Nat.reduceEqDiff, Int.reduceToNat, Int.reduceLE, Int.reduceLT, Nat.reduceAdd, Nat.reduceLeDiff, intBin, strBin, unD, extractD, lit1, lit2, lit3, keptD, boxR, D.one, D.pub1, D.cells, splice, cutOwn]
    intros
    exact Ret.is (by simp [isSmallI, e1])
theorem isDigit_c (n : Int) : Fn Zs 113 [.int .u8 n] (.bool (isDigitI n)) := by
  refine fn_of (Z := Zs) ok113 fun σ hcl hbl => ?_
  simp -dsimp only [L113, ↓preB, postB, genB, ↓reduceIte, Nat.reduceEqDiff, Int.reduceToNat, Int.reduceLE, Int.reduceLT, Nat.reduceAdd, Nat.reduceLeDiff, intBin, strBin, unD, extractD, lit1, lit2, lit3, keptD, boxR, D.one, D.pub1, D.cells, splice, cutOwn]
  by_cases e1 : (48 : Int) ≤ n
  · by_cases e2 : n ≤ 57
    · simp -dsimp only [e1, e2, gate, decide_true, bTT, ↓preB, postB, genB, ↓reduceIte, Nat.reduceEqDiff, Int.reduceToNat, Int.reduceLE, Int.reduceLT, Nat.reduceAdd, Nat.reduceLeDiff, intBin, strBin, unD, extractD, lit1, lit2, lit3, keptD, boxR, D.one, D.pub1, D.cells, splice, cutOwn]
      intros
      exact Ret.is (by simp [isDigitI, e1, e2])
    · simp -dsimp only [e1, e2, gate, decide_true, decide_false, bTT, ↓preB, postB, genB, ↓reduceIte, Nat.reduceEqDiff, Int.reduceToNat, Int.reduceLE, Int.reduceLT, Nat.reduceAdd, Nat.reduceLeDiff, intBin, strBin, unD, extractD, lit1, lit2, lit3, keptD, boxR, D.one, D.pub1, D.cells, splice, cutOwn]
      intros
      exact Ret.is (by simp [isDigitI, e1, e2])
  · simp -dsimp only [e1, gate, decide_false, bFT, ↓preB, postB, genB, ↓reduceIte, Nat.reduceEqDiff, Int.reduceToNat, Int.reduceLE, Int.reduceLT, Nat.reduceAdd, Nat.reduceLeDiff, intBin, strBin, unD, extractD, lit1, lit2, lit3, keptD, boxR, D.one, D.pub1, D.cells, splice, cutOwn]
    intros
    exact Ret.is (by simp [isDigitI, e1])
theorem isBlank_c (n : Int) : Fn Zs 16 [.int .u8 n] (.bool (isBlankI n)) := by
  refine fn_of (Z := Zs) ok16 fun σ hcl hbl => ?_
  simp -dsimp only [L16, ↓preB, postB, genB, ↓reduceIte, Nat.reduceEqDiff, Int.reduceToNat, Int.reduceLE, Int.reduceLT, Nat.reduceAdd, Nat.reduceLeDiff, intBin, strBin, unD, extractD, lit1, lit2, lit3, keptD, boxR, D.one, D.pub1, D.cells, splice, cutOwn]
  by_cases e1 : n = 9
  · simp -dsimp only [eqb, e1, gate, decide_true, bTF, ↓preB, postB, genB, ↓reduceIte, Nat.reduceEqDiff, Int.reduceToNat, Int.reduceLE, Int.reduceLT, Nat.reduceAdd, Nat.reduceLeDiff, intBin, strBin, unD, extractD, lit1, lit2, lit3, keptD, boxR, D.one, D.pub1, D.cells, splice, cutOwn]
    intros
    exact Ret.is (by simp [isBlankI])
  by_cases e2 : n = 10
  · simp -dsimp only [eqb, e1, e2, gate, decide_true, decide_false, bTF, bFF, ↓preB, postB, genB, ↓reduceIte, Nat.reduceEqDiff, Int.reduceToNat, Int.reduceLE, Int.reduceLT, Nat.reduceAdd, Nat.reduceLeDiff, intBin, strBin, unD, extractD, lit1, lit2, lit3, keptD, boxR, D.one, D.pub1, D.cells, splice, cutOwn]
    intros
    exact Ret.is (by simp [isBlankI])
  by_cases e3 : n = 13
  · simp -dsimp only [eqb, e1, e2, e3, gate, decide_true, decide_false, bTF, bFF, ↓preB, postB, genB, ↓reduceIte, Nat.reduceEqDiff, Int.reduceToNat, Int.reduceLE, Int.reduceLT, Nat.reduceAdd, Nat.reduceLeDiff, intBin, strBin, unD, extractD, lit1, lit2, lit3, keptD, boxR, D.one, D.pub1, D.cells, splice, cutOwn]
    intros
    exact Ret.is (by simp [isBlankI])
  simp -dsimp only [eqb, e1, e2, e3, gate, decide_true, decide_false, bTF, bFF, ↓preB, postB, genB, ↓reduceIte, Nat.reduceEqDiff, Int.reduceToNat, Int.reduceLE, Int.reduceLT, Nat.reduceAdd, Nat.reduceLeDiff, intBin, strBin, unD, extractD, lit1, lit2, lit3, keptD, boxR, D.one, D.pub1, D.cells, splice, cutOwn]
  intros
  exact Ret.is (by simp [isBlankI, e1, e2, e3])
theorem isLetter_c (n : Int) : Fn Zs 112 [.int .u8 n] (.bool (isLetterI n)) := by
  refine fn_of (Z := Zs) ok112 fun σ hcl hbl => ?_
  simp -dsimp only [L112, ↓preB, postB, genB, ↓reduceIte, Nat.reduceEqDiff, Int.reduceToNat, Int.reduceLE, Int.reduceLT, Nat.reduceAdd, Nat.reduceLeDiff, intBin, strBin, unD, extractD, lit1, lit2, lit3, keptD, boxR, D.one, D.pub1, D.cells, splice, cutOwn]
  refine Fn.use (isBig_c n) ?_
  cases e1 : isBigI n
  · simp -dsimp only [e1, gate, bFF, ↓preB, postB, genB, ↓reduceIte, Nat.reduceEqDiff, Int.reduceToNat, Int.reduceLE, Int.reduceLT, Nat.reduceAdd, Nat.reduceLeDiff, intBin, strBin, unD, extractD, lit1, lit2, lit3, keptD, boxR, D.one, D.pub1, D.cells, splice, cutOwn]
    intros
    refine Fn.use (isSmall_c n) ?_
    cases e2 : isSmallI n
    · simp -dsimp only [e1, e2, gate, bFF, ↓preB, postB, genB, ↓reduceIte, Nat.reduceEqDiff, Int.reduceToNat, Int.reduceLE, Int.reduceLT, Nat.reduceAdd, Nat.reduceLeDiff, intBin, strBin, unD, extractD, lit1, lit2, lit3, keptD, boxR, D.one, D.pub1, D.cells, splice, cutOwn]
      intros
      exact Ret.is (by simp [isLetterI, e1, e2])
    · simp -dsimp only [e1, e2, gate, bTF, ↓preB, postB, genB, ↓reduceIte, Nat.reduceEqDiff, Int.reduceToNat, Int.reduceLE, Int.reduceLT, Nat.reduceAdd, Nat.reduceLeDiff, intBin, strBin, unD, extractD, lit1, lit2, lit3, keptD, boxR, D.one, D.pub1, D.cells, splice, cutOwn]
      intros
      exact Ret.is (by simp [isLetterI, e1, e2])
  · simp -dsimp only [e1, gate, bTF, ↓preB, postB, genB, ↓reduceIte, Nat.reduceEqDiff, Int.reduceToNat, Int.reduceLE, Int.reduceLT, Nat.reduceAdd, Nat.reduceLeDiff, intBin, strBin, unD, extractD, lit1, lit2, lit3, keptD, boxR, D.one, D.pub1, D.cells, splice, cutOwn]
    intros
    exact Ret.is (by simp [isLetterI, e1])
theorem isPart_c (n : Int) : Fn Zs 111 [.int .u8 n] (.bool (isPartI n)) := by
  refine fn_of (Z := Zs) ok111 fun σ hcl hbl => ?_
  simp -dsimp only [L111, ↓preB, postB, genB, ↓reduceIte, Nat.reduceEqDiff, Int.reduceToNat, Int.reduceLE, Int.reduceLT, Nat.reduceAdd, Nat.reduceLeDiff, intBin, strBin, unD, extractD, lit1, lit2, lit3, keptD, boxR, D.one, D.pub1, D.cells, splice, cutOwn]
  refine Fn.use (isLetter_c n) ?_
  cases e1 : isLetterI n
  · simp -dsimp only [e1, gate, bFF, ↓preB, postB, genB, ↓reduceIte, Nat.reduceEqDiff, Int.reduceToNat, Int.reduceLE, Int.reduceLT, Nat.reduceAdd, Nat.reduceLeDiff, intBin, strBin, unD, extractD, lit1, lit2, lit3, keptD, boxR, D.one, D.pub1, D.cells, splice, cutOwn]
    intros
    refine Fn.use (isDigit_c n) ?_
    simp -dsimp only [e1, gate, bFF, ↓preB, postB, genB, ↓reduceIte, Nat.reduceEqDiff, Int.reduceToNat, Int.reduceLE, Int.reduceLT, Nat.reduceAdd, Nat.reduceLeDiff, intBin, strBin, unD, extractD, lit1, lit2, lit3, keptD, boxR, D.one, D.pub1, D.cells, splice, cutOwn]
    intros
    exact Ret.is (by simp [isPartI, e1])
  · simp -dsimp only [e1, gate, bTF, ↓preB, postB, genB, ↓reduceIte, Nat.reduceEqDiff, Int.reduceToNat, Int.reduceLE, Int.reduceLT, Nat.reduceAdd, Nat.reduceLeDiff, intBin, strBin, unD, extractD, lit1, lit2, lit3, keptD, boxR, D.one, D.pub1, D.cells, splice, cutOwn]
    intros
    exact Ret.is (by simp [isPartI, e1])
theorem preC_c (s x : ByteArray) : Fn Zs 54 [.str s, .str x] (.bool (preW s x)) := by
  refine fn_of (Z := Zs) ok54 fun σ hcl hbl => ?_
  simp -dsimp only [L54, ↓preB, postB, genB, ↓reduceIte, Nat.reduceEqDiff, Int.reduceToNat, Int.reduceLE, Int.reduceLT, Nat.reduceAdd, Nat.reduceLeDiff, intBin, strBin, unD, extractD, lit1, lit2, lit3, keptD, boxR, D.one, D.pub1, D.cells, splice, cutOwn]
  by_cases e1 : (x.size : Int) ≤ s.size
  · have h1 : x.size ≤ s.size := by omega
    simp -dsimp only [e1, gate, decide_true, bTT, ↓preB, postB, genB, ↓reduceIte, Nat.reduceEqDiff, Int.reduceToNat, Int.reduceLE, Int.reduceLT, Nat.reduceAdd, Nat.reduceLeDiff, intBin, strBin, unD, extractD, lit1, lit2, lit3, keptD, boxR, D.one, D.pub1, D.cells, splice, cutOwn]
    intros
    exact ⟨by omega, Ret.is (by simp [preW, h1])⟩
  · have h1 : ¬ x.size ≤ s.size := by omega
    simp -dsimp only [e1, gate, decide_false, bFT, ↓preB, postB, genB, ↓reduceIte, Nat.reduceEqDiff, Int.reduceToNat, Int.reduceLE, Int.reduceLT, Nat.reduceAdd, Nat.reduceLeDiff, intBin, strBin, unD, extractD, lit1, lit2, lit3, keptD, boxR, D.one, D.pub1, D.cells, splice, cutOwn]
    intros
    exact Ret.is (by simp [preW, h1])
theorem sufC_c (s x : ByteArray) : Fn Zs 55 [.str s, .str x] (.bool (sufW s x)) := by
  refine fn_of (Z := Zs) ok55 fun σ hcl hbl => ?_
  simp -dsimp only [L55, ↓preB, postB, genB, ↓reduceIte, Nat.reduceEqDiff, Int.reduceToNat, Int.reduceLE, Int.reduceLT, Nat.reduceAdd, Nat.reduceLeDiff, intBin, strBin, unD, extractD, lit1, lit2, lit3, keptD, boxR, D.one, D.pub1, D.cells, splice, cutOwn]
  by_cases e1 : (x.size : Int) ≤ s.size
  · have h1 : x.size ≤ s.size := by omega
    have h2 : IntKind.i64.wrap ((s.size : Int) - (x.size : Int)) = ((s.size - x.size : Nat) : Int) ∨ big < s.size := by
      by_cases hb : s.size ≤ big
      · left
        simp only [big] at hb
        rw [wrap64_in (by omega) (by omega)]
        omega
      · right; omega
    simp -dsimp only [e1, gate, decide_true, bTT, ↓preB, postB, genB, ↓reduceIte, Nat.reduceEqDiff, Int.reduceToNat, Int.reduceLE, Int.reduceLT, Nat.reduceAdd, Nat.reduceLeDiff, intBin, strBin, unD, extractD, lit1, lit2, lit3, keptD, boxR, D.one, D.pub1, D.cells, splice, cutOwn]
    intros
    rcases h2 with h2 | h2
    · have h3 : s.size - x.size ≤ s.size := by omega
      simp -dsimp only [h2, h3, e1, gate, decide_true, bTT, ↓preB, postB, genB, ↓reduceIte, Nat.reduceEqDiff, Int.reduceToNat, Int.reduceLE, Int.reduceLT, Nat.reduceAdd, Nat.reduceLeDiff, intBin, strBin, unD, extractD, lit1, lit2, lit3, keptD, boxR, D.one, D.pub1, D.cells, splice, cutOwn]
      exact ⟨by omega, Ret.is (by simp [sufW, h1])⟩
    · omega
  · have h1 : ¬ x.size ≤ s.size := by omega
    simp -dsimp only [e1, gate, decide_false, bFT, ↓preB, postB, genB, ↓reduceIte, Nat.reduceEqDiff, Int.reduceToNat, Int.reduceLE, Int.reduceLT, Nat.reduceAdd, Nat.reduceLeDiff, intBin, strBin, unD, extractD, lit1, lit2, lit3, keptD, boxR, D.one, D.pub1, D.cells, splice, cutOwn]
    intros
    exact Ret.is (by simp [sufW, h1])
theorem HasPrefix_c (s x : ByteArray) : Fn Zs 36 [.str s, .str x] (.bool (preW s x)) := by
  refine fn_of (Z := Zs) ok36 fun σ hcl hbl => ?_
  simp -dsimp only [L36, ↓preB, postB, genB, ↓reduceIte, Nat.reduceEqDiff, Int.reduceToNat, Int.reduceLE, Int.reduceLT, Nat.reduceAdd, Nat.reduceLeDiff, intBin, strBin, unD, extractD, lit1, lit2, lit3, keptD, boxR, D.one, D.pub1, D.cells, splice, cutOwn]
  refine Fn.use (preC_c s x) ?_
  simp -dsimp only [↓preB, postB, genB, ↓reduceIte, Nat.reduceEqDiff, Int.reduceToNat, Int.reduceLE, Int.reduceLT, Nat.reduceAdd, Nat.reduceLeDiff, intBin, strBin, unD, extractD, lit1, lit2, lit3, keptD, boxR, D.one, D.pub1, D.cells, splice, cutOwn]
  exact Ret.is rfl
theorem HasSuffix_c (s x : ByteArray) : Fn Zs 37 [.str s, .str x] (.bool (sufW s x)) := by
  refine fn_of (Z := Zs) ok37 fun σ hcl hbl => ?_
  simp -dsimp only [L37, ↓preB, postB, genB, ↓reduceIte, Nat.reduceEqDiff, Int.reduceToNat, Int.reduceLE, Int.reduceLT, Nat.reduceAdd, Nat.reduceLeDiff, intBin, strBin, unD, extractD, lit1, lit2, lit3, keptD, boxR, D.one, D.pub1, D.cells, splice, cutOwn]
  refine Fn.use (sufC_c s x) ?_
  simp -dsimp only [↓preB, postB, genB, ↓reduceIte, Nat.reduceEqDiff, Int.reduceToNat, Int.reduceLE, Int.reduceLT, Nat.reduceAdd, Nat.reduceLeDiff, intBin, strBin, unD, extractD, lit1, lit2, lit3, keptD, boxR, D.one, D.pub1, D.cells, splice, cutOwn]
  exact Ret.is rfl
theorem edge_c (f : FuncId) (p : ByteArray → ByteArray → Bool) (hpp : ∀ s x, Fn Zs f [.str s, .str x] (.bool (p s x))) (l : Wd) (s : ByteArray) : Fn Zs 34 [encSS l, .str s, .func f []] (.int .i64 (edgeW p l s)) := by
  refine fn_of (Z := Zs) ok34 fun σ hcl hbl => ?_
  simp -dsimp only [L34, encSS, ↓preB, postB, genB, ↓reduceIte, Nat.reduceEqDiff, Int.reduceToNat, Int.reduceLE, Int.reduceLT, Nat.reduceAdd, Nat.reduceLeDiff, intBin, strBin, unD, extractD, lit1, lit2, lit3, keptD, boxR, D.one, D.pub1, D.cells, splice, cutOwn]
  intros
  refine pwp_loopG (fun k env τ => k ≤ l.length ∧ edgeW p l s = (l.drop k).foldl (edgeS p s) ((l.take k).foldl (edgeS p s) 0) ∧ τ = σ ∧ env 12 = .int .i64 (k:Nat) ∧ env 7 = .int .i64 ((l.take k).foldl (edgeS p s) 0 : Nat) ∧ env 11 = .int .i64 l.length ∧ env 10 = encSS l ∧ env 1 = .str s ∧ env 2 = .func f []) (fun k => l.length - k) 0 ?_ ?_
  · simp [upd_apply, envOf, encSS, edgeW]
  · rintro k env τ ⟨hk, hp, rfl, h12, h7, h11, h10, h1, h2⟩
    rcases Nat.lt_or_ge k l.length with hlt | hge
    · have hx : l[k]? = some l[k] := List.getElem?_eq_getElem hlt
      have hn : (k : Int) < l.length := by omega
      rw [List.drop_eq_getElem_cons hlt, List.foldl_cons] at hp
      have ht : (l.take (k + 1)).foldl (edgeS p s) 0 = edgeS p s ((l.take k).foldl (edgeS p s) 0) l[k] := by
        rw [List.take_succ_eq_append_getElem hlt, List.foldl_append]; rfl
      rw [← ht] at hp
      generalize hb : (l.take k).foldl (edgeS p s) 0 = b at h7 ht
      generalize hxx : l[k] = x at hx ht
      by_cases c1 : (b : Int) < x.size
      · by_cases c2 : (x.size : Int) < s.size
        · simp -dsimp only [h12, h7, h11, h10, h1, h2, encSS, hn, hlt, hx, c1, c2, gate, decide_true, bTT, ↓preB, postB, genB, ↓reduceIte, Nat.reduceEqDiff, Int.reduceToNat, Int.reduceLE, Int.reduceLT, Nat.reduceAdd, Nat.reduceLeDiff, intBin, strBin, unD, extractD, lit1, lit2, lit3, keptD, boxR, D.one, D.pub1, D.cells, splice, cutOwn]
          refine ⟨by omega, fun _ _ _ => ?_⟩
          refine Fn.use (hpp s x) ?_
          cases c3 : p s x
          · have ht' : edgeS p s b x = b := by unfold edgeS; rw [c3]; simp
            rw [ht'] at ht
            simp -dsimp only [h12, h7, h11, h10, h1, h2, encSS, hn, hlt, hx, c1, c2, c3, gate, decide_true, bTT, bFT, ↓preB, postB, genB, ↓reduceIte, Nat.reduceEqDiff, Int.reduceToNat, Int.reduceLE, Int.reduceLT, Nat.reduceAdd, Nat.reduceLeDiff, intBin, strBin, unD, extractD, lit1, lit2, lit3, keptD, boxR, D.one, D.pub1, D.cells, splice, cutOwn]
            exact ⟨k + 1, ⟨by omega, hp, wrap64_succ (by omega), by rw [ht]⟩, by omega⟩
          · have ht' : edgeS p s b x = x.size := by unfold edgeS; rw [c3, decide_eq_true (by omega), decide_eq_true (by omega)]; rfl
            rw [ht'] at ht
            simp -dsimp only [h12, h7, h11, h10, h1, h2, encSS, hn, hlt, hx, c1, c2, c3, gate, decide_true, bTT, bFT, ↓preB, postB, genB, ↓reduceIte, Nat.reduceEqDiff, Int.reduceToNat, Int.reduceLE, Int.reduceLT, Nat.reduceAdd, Nat.reduceLeDiff, intBin, strBin, unD, extractD, lit1, lit2, lit3, keptD, boxR, D.one, D.pub1, D.cells, splice, cutOwn]
            intros
            exact ⟨k + 1, ⟨by omega, hp, wrap64_succ (by omega), by rw [ht]⟩, by omega⟩
        · have ht' : edgeS p s b x = b := by unfold edgeS; rw [decide_eq_false (p := x.size < s.size) (by omega)]; simp
          rw [ht'] at ht
          simp -dsimp only [h12, h7, h11, h10, h1, h2, encSS, hn, hlt, hx, c1, c2, gate, decide_true, decide_false, bTT, bFT, ↓preB, postB, genB, ↓reduceIte, Nat.reduceEqDiff, Int.reduceToNat, Int.reduceLE, Int.reduceLT, Nat.reduceAdd, Nat.reduceLeDiff, intBin, strBin, unD, extractD, lit1, lit2, lit3, keptD, boxR, D.one, D.pub1, D.cells, splice, cutOwn]
          exact ⟨by omega, fun _ _ _ => ⟨k + 1, ⟨by omega, hp, wrap64_succ (by omega), by rw [ht]⟩, by omega⟩⟩
      · have ht' : edgeS p s b x = b := by unfold edgeS; rw [decide_eq_false (p := b < x.size) (by omega)]; simp
        rw [ht'] at ht
        simp -dsimp only [h12, h7, h11, h10, h1, h2, encSS, hn, hlt, hx, c1, gate, decide_true, decide_false, bTT, bFT, ↓preB, postB, genB, ↓reduceIte, Nat.reduceEqDiff, Int.reduceToNat, Int.reduceLE, Int.reduceLT, Nat.reduceAdd, Nat.reduceLeDiff, intBin, strBin, unD, extractD, lit1, lit2, lit3, keptD, boxR, D.one, D.pub1, D.cells, splice, cutOwn]
        exact ⟨by omega, fun _ => ⟨k + 1, ⟨by omega, hp, wrap64_succ (by omega), by rw [ht]⟩, by omega⟩⟩
    · have hn : ¬ (k : Int) < l.length := by omega
      rw [List.drop_of_length_le hge, List.take_of_length_le hge] at hp
      rw [List.take_of_length_le hge] at h7
      simp -dsimp only [h12, h7, h11, h10, h1, h2, encSS, hn, ↓preB, postB, genB, ↓reduceIte, Nat.reduceEqDiff, Int.reduceToNat, Int.reduceLE, Int.reduceLT, Nat.reduceAdd, Nat.reduceLeDiff, intBin, strBin, unD, extractD, lit1, lit2, lit3, keptD, boxR, D.one, D.pub1, D.cells, splice, cutOwn]
      exact Ret.is (by rw [hp]; rfl)
end Go.Proofs.Ytapkbkniooleaaa.Vs
