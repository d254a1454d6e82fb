/- What the functions on words that begin with others come to. -/
import Derived.Test.YthchlpikcpidaaaFnB
namespace Go.Proofs.Ythchlpikcpidaaa.Vs
set_option linter.unusedVariables false
set_option linter.unusedSimpArgs false
set_option maxRecDepth 20000

theorem bl_irrefl : ∀ l : List UInt8, Op.bytesLess l l = false
  | [] => rfl
  | x :: l => by
    have := bl_irrefl l
    simp [Op.bytesLess, this]
theorem strLt_irrefl (s : ByteArray) : strLt s s = false := bl_irrefl _

theorem ordW_eqW : ∀ (a b : Wd), (ordW a b == 0) = eqW a b
  | [], [] => rfl
  | [], _ :: _ => rfl
  | _ :: _, [] => rfl
  | x :: a, y :: b => by
    have ih := ordW_eqW a b
    simp only [ordW, eqW]
    cases c2 : (x == y)
    · cases c1 : strLt x y <;> simp
    · have := ba_eq c2
      subst this
      simp [strLt_irrefl, ih]

theorem Same_c (a b : Wd) : Fn Zs 21 [encSS a, encSS b] (.bool (eqW a b)) := by
  refine fn_of (Z := Zs) ok21 fun σ hcl hbl => ?_
  simp -dsimp only [L21, ↓preB, postB, genB, ↓reduceIte, Nat.reduceEqDiff, Int.reduceToNat, Int.reduceLE, Int.reduceLT, Nat.reduceAdd, Nat.reduceLeDiff, intBin, strBin, unD, extractD, lit1, lit2, lit3, keptD, boxR, D.one, D.pub1, D.cells, splice, cutOwn]
  refine Fn.use (Order_c a b) ?_
  simp -dsimp only [↓preB, postB, genB, ↓reduceIte, Nat.reduceEqDiff, Int.reduceToNat, Int.reduceLE, Int.reduceLT, Nat.reduceAdd, Nat.reduceLeDiff, intBin, strBin, unD, extractD, lit1, lit2, lit3, keptD, boxR, D.one, D.pub1, D.cells, splice, cutOwn]
  exact Ret.is (by rw [← ordW_eqW])

theorem eqW_len : ∀ {a b : Wd}, a.length ≠ b.length → eqW a b = false
  | [], [], h => absurd rfl h
  | [], _ :: _, _ => rfl
  | _ :: _, [], _ => rfl
  | x :: a, y :: b, h => by simp only [eqW, eqW_len (a := a) (b := b) (by simpa using h), Bool.and_false]

theorem begW_take : ∀ (w x : Wd), begW w x = (decide (x.length ≤ w.length) && eqW (w.take x.length) x)
  | w, [] => by cases w <;> simp [begW, eqW]
  | [], _ :: _ => by simp [begW]
  | a :: w, x :: xs => by
    simp only [begW, begW_take w xs, List.length_cons, List.take_succ_cons, eqW, Nat.add_le_add_iff_right]
    cases (a == x) <;> cases decide (xs.length ≤ w.length) <;> simp

theorem encSS_take (w : Wd) (n : Nat) (h : n ≤ w.length) : D.sl .no n ((w.map D.str).take n) = encSS (w.take n) := by
  simp only [encSS, List.map_take, List.length_take, Nat.min_eq_left h]

structure Sh where
  From : Wd
  To : Wd
def rowsD : List Sh → List D
  | [] => []
  | r :: t => encSS r.From :: encSS r.To :: rowsD t
def encT (t : List Sh) : D := .sl .no t.length (rowsD t)
theorem rowsD_len : ∀ t : List Sh, (rowsD t).length = t.length * 2
  | [] => rfl
  | r :: t => by simp only [rowsD, List.length_cons, rowsD_len t]; omega
theorem rowsD_drop : ∀ (t : List Sh) (k : Nat), (rowsD t).drop (k * 2) = rowsD (t.drop k)
  | t, 0 => by simp
  | [], k + 1 => by simp [rowsD]
  | r :: t, k + 1 => by
    rw [Nat.succ_mul, rowsD]
    simp [rowsD_drop t k]
theorem rowsD_at {t : List Sh} {k : Nat} (h : k < t.length) : (rowsD t).drop (k * 2) = encSS t[k].From :: encSS t[k].To :: rowsD (t.drop (k + 1)) := by
  rw [rowsD_drop, List.drop_eq_getElem_cons h, rowsD]

/-- The row with the longest From that a word begins with. -/
def longer (t : List Sh) (b : Option Nat) (n : Nat) : Bool := match b with | none => true | some j => decide (((t[j]?).map (·.From.length)).getD 0 < n)
def bestI (t : List Sh) (b : Option Nat) (k : Nat) (w : Wd) : Option Nat :=
  match t[k]? with
  | none => b
  | some r => if (begW w r.From && longer t b r.From.length) = true then some k else b
def fitFrom (t : List Sh) (w : Wd) : Nat → Option Nat → Nat → Option Nat
  | 0, b, _ => b
  | n + 1, b, k => fitFrom t w n (bestI t b k w) (k + 1)
def fitW (t : List Sh) (w : Wd) : Option Nat := fitFrom t w t.length none 0
def optI (b : Option Nat) : Int := match b with | some i => i | none => -1
theorem optI_none : optI none = -1 := rfl
theorem optI_some {j : Nat} : optI (some j) = (j : Int) := rfl
theorem neg1 : ((-1 : Int) < 0) = True := by simp
theorem natneg {j : Nat} : ((j : Int) < 0) = False := by simp

end Go.Proofs.Ythchlpikcpidaaa.Vs
