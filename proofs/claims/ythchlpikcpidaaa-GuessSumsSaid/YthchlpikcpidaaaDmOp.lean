/- Operations at the seat's types, written by dgen.py. -/
import Derived.Test.YthchlpikcpidaaaDmTy
import Derived.Test.YthchlpikcpidaaaDmLib
namespace Go.Proofs.Ythchlpikcpidaaa.Vs
set_option linter.unusedVariables false
set_option linter.unusedSimpArgs false
set_option maxRecDepth 100000
section
variable {g : Nat → Option AO} {cs cs' : List D} {x y x3 : D} {o : Own} {n n' nx : Nat} {r off o' : Nat} {i : Int} {k : IntKind} {s : ByteArray} {lo hi : Option D}
theorem ld3 : loadD Zs g 3 (.at cs) = cs[0]? := by first | (simp only [loadD, tz3, pack, TInfo.isAgg, Bool.false_eq_true, if_false, List.head?_eq_getElem?]; done) | (simp only [loadD, tz3, pack, TInfo.isAgg, Bool.false_eq_true, if_false, List.head?_eq_getElem?]; rfl)
theorem lp3 : loadD Zs g 3 (.ptr r off) = match g r with | some (.cells _ cs) => cs[off]? | _ => none := by first | (simp only [loadD, tz3, pack, TInfo.isAgg, Bool.false_eq_true, if_false, List.head?_drop]; done) | (simp only [loadD, tz3, pack, TInfo.isAgg, Bool.false_eq_true, if_false, List.head?_drop]; rfl)
theorem so3 : storeE Zs g 3 (.ptr r off) y = match y.cells with | some ys => (match g r with | some (.cells e cs) => if ys.length = 1 ∧ off + ys.length ≤ cs.length then some (.put r (.cells e (splice cs off ys))) else none | _ => none) | _ => none := by simp only [storeE, tz3]; cases y.cells <;> rfl
theorem al3 : allocR Zs 3 = some (.new (.cells 3 [.int .i64 0])) := by rfl
theorem mi3 : ifaceD Zs 3 x = some (.iface 3 x) := by first | (simp only [ifaceD, tz3]; done) | (simp only [ifaceD, tz3]; rfl)
theorem ld4 : loadD Zs g 4 (.at cs) = cs[0]? := by first | (simp only [loadD, tz4, pack, TInfo.isAgg, Bool.false_eq_true, if_false, List.head?_eq_getElem?]; done) | (simp only [loadD, tz4, pack, TInfo.isAgg, Bool.false_eq_true, if_false, List.head?_eq_getElem?]; rfl)
theorem lp4 : loadD Zs g 4 (.ptr r off) = match g r with | some (.cells _ cs) => cs[off]? | _ => none := by first | (simp only [loadD, tz4, pack, TInfo.isAgg, Bool.false_eq_true, if_false, List.head?_drop]; done) | (simp only [loadD, tz4, pack, TInfo.isAgg, Bool.false_eq_true, if_false, List.head?_drop]; rfl)
theorem so4 : storeE Zs g 4 (.ptr r off) y = match y.cells with | some ys => (match g r with | some (.cells e cs) => if ys.length = 1 ∧ off + ys.length ≤ cs.length then some (.put r (.cells e (splice cs off ys))) else none | _ => none) | _ => none := by simp only [storeE, tz4]; cases y.cells <;> rfl
theorem al4 : allocR Zs 4 = some (.new (.cells 4 [.bool false])) := by rfl
theorem mi4 : ifaceD Zs 4 x = some (.iface 4 x) := by first | (simp only [ifaceD, tz4]; done) | (simp only [ifaceD, tz4]; rfl)
theorem bq4 {a b : Bool} : binD Zs .eql 4 (.bool a) (.bool b) = some (.bool (a == b)) := by simp [binD, isNum, eqT, tz4, eqS]
theorem bn4 {a b : Bool} : binD Zs .neq 4 (.bool a) (.bool b) = some (.bool (!(a == b))) := by simp [binD, isNum, eqT, tz4, eqS]
theorem ld5 : loadD Zs g 5 (.at cs) = cs[0]? := by first | (simp only [loadD, tz5, pack, TInfo.isAgg, Bool.false_eq_true, if_false, List.head?_eq_getElem?]; done) | (simp only [loadD, tz5, pack, TInfo.isAgg, Bool.false_eq_true, if_false, List.head?_eq_getElem?]; rfl)
theorem lp5 : loadD Zs g 5 (.ptr r off) = match g r with | some (.cells _ cs) => cs[off]? | _ => none := by first | (simp only [loadD, tz5, pack, TInfo.isAgg, Bool.false_eq_true, if_false, List.head?_drop]; done) | (simp only [loadD, tz5, pack, TInfo.isAgg, Bool.false_eq_true, if_false, List.head?_drop]; rfl)
theorem so5 : storeE Zs g 5 (.ptr r off) y = match y.cells with | some ys => (match g r with | some (.cells e cs) => if ys.length = 1 ∧ off + ys.length ≤ cs.length then some (.put r (.cells e (splice cs off ys))) else none | _ => none) | _ => none := by simp only [storeE, tz5]; cases y.cells <;> rfl
theorem al5 : allocR Zs 5 = some (.new (.cells 5 [.int .u8 0])) := by rfl
theorem mi5 : ifaceD Zs 5 x = some (.iface 5 x) := by first | (simp only [ifaceD, tz5]; done) | (simp only [ifaceD, tz5]; rfl)
theorem ld9 : loadD Zs g 9 (.at cs) = cs[0]? := by first | (simp only [loadD, tz9, pack, TInfo.isAgg, Bool.false_eq_true, if_false, List.head?_eq_getElem?]; done) | (simp only [loadD, tz9, pack, TInfo.isAgg, Bool.false_eq_true, if_false, List.head?_eq_getElem?]; rfl)
theorem lp9 : loadD Zs g 9 (.ptr r off) = match g r with | some (.cells _ cs) => cs[off]? | _ => none := by first | (simp only [loadD, tz9, pack, TInfo.isAgg, Bool.false_eq_true, if_false, List.head?_drop]; done) | (simp only [loadD, tz9, pack, TInfo.isAgg, Bool.false_eq_true, if_false, List.head?_drop]; rfl)
theorem so9 : storeE Zs g 9 (.ptr r off) y = match y.cells with | some ys => (match g r with | some (.cells e cs) => if ys.length = 1 ∧ off + ys.length ≤ cs.length then some (.put r (.cells e (splice cs off ys))) else none | _ => none) | _ => none := by simp only [storeE, tz9]; cases y.cells <;> rfl
theorem al9 : allocR Zs 9 = some (.new (.cells 9 [.str ⟨#[]⟩])) := by rfl
theorem mi9 : ifaceD Zs 9 x = some (.iface 9 x) := by first | (simp only [ifaceD, tz9]; done) | (simp only [ifaceD, tz9]; rfl)
theorem ln9 : lenD Zs g #[9] (.str s) = some (.int .i64 s.size) := by simp [lenD, tz9]
theorem ie9 : indexD Zs 9 (.str s) (.int k i) = if 0 ≤ i ∧ i < s.size then some (.int .u8 (byteAt s i.toNat)) else none := by first | (simp only [indexD, tz9]; done) | (simp only [indexD, tz9]; rfl)
theorem sl9 : sliceD Zs g 9 (.str s) lo hi none = match bound lo 0, bound hi s.size with | some l, some h => if 0 ≤ l ∧ l ≤ h ∧ h ≤ s.size then some (.str (s.extract l.toNat h.toNat)) else none | _, _ => none := by first | (simp only [sliceD, tz9]; done) | (simp only [sliceD, tz9]; rfl)
theorem ld22 : loadD Zs g 22 (.at cs) = cs[0]? := by first | (simp only [loadD, tz22, pack, TInfo.isAgg, Bool.false_eq_true, if_false, List.head?_eq_getElem?]; done) | (simp only [loadD, tz22, pack, TInfo.isAgg, Bool.false_eq_true, if_false, List.head?_eq_getElem?]; rfl)
theorem lp22 : loadD Zs g 22 (.ptr r off) = match g r with | some (.cells _ cs) => cs[off]? | _ => none := by first | (simp only [loadD, tz22, pack, TInfo.isAgg, Bool.false_eq_true, if_false, List.head?_drop]; done) | (simp only [loadD, tz22, pack, TInfo.isAgg, Bool.false_eq_true, if_false, List.head?_drop]; rfl)
theorem so22 : storeE Zs g 22 (.ptr r off) y = match y.cells with | some ys => (match g r with | some (.cells e cs) => if ys.length = 1 ∧ off + ys.length ≤ cs.length then some (.put r (.cells e (splice cs off ys))) else none | _ => none) | _ => none := by simp only [storeE, tz22]; cases y.cells <;> rfl
theorem al22 : allocR Zs 22 = some (.new (.cells 22 [.sl .nil 0 []])) := by rfl
theorem mi22 : ifaceD Zs 22 x = some (.iface 22 x) := by first | (simp only [ifaceD, tz22]; done) | (simp only [ifaceD, tz22]; rfl)
theorem ln22 : lenD Zs g #[22] (.sl o n cs) = some (.int .i64 n) := by simp [lenD, tz22]
theorem cpn22 : capD Zs #[22] (.sl .nil n cs) = some (.int .i64 0) := by simp [capD, tz22]
theorem cpr22 {kk z0 : Nat} : capD Zs #[22] (.row r off n (some kk) z0) = some (.int .i64 kk) := by simp [capD, tz22]
theorem lr22 {c0 : Option Nat} {z0 : Nat} : lenD Zs g #[22] (.row r off n c0 z0) = some (.int .i64 n) := by simp [lenD, tz22]
theorem ix22 : indexAddrD Zs 22 (.sl o n cs) (.int k i) = if (0 ≤ i ∧ i < n) ∧ 0 < cs.length then some (.at (cs.drop (i.toNat * 3))) else none := by first | (simp only [indexAddrD, tz22, tz51, Nat.mul_one]; done) | (simp only [indexAddrD, tz22, tz51, Nat.mul_one]; rfl)
theorem ir22 {c0 : Option Nat} {z0 : Nat} : indexAddrD Zs 22 (.row r off n c0 z0) (.int k i) = if 0 ≤ i ∧ i < n then some (.ptr r (off + i.toNat * 3)) else none := by first | (simp only [indexAddrD, tz22, tz51, Nat.mul_one]; done) | (simp only [indexAddrD, tz22, tz51, Nat.mul_one]; rfl)
theorem sl22 : sliceD Zs g 22 (.sl o n cs) lo hi none = match bound lo 0, bound hi n with | some l, some h => if 0 ≤ l ∧ l ≤ h ∧ h ≤ n ∧ cs.length = n * 3 then some (.sl (cutOwn o) (h.toNat - l.toNat) ((cs.drop (l.toNat * 3)).take ((h.toNat - l.toNat) * 3))) else none | _, _ => none := by simp only [sliceD, tz22, tz51, Nat.mul_one]; cases bound lo 0 <;> cases bound hi n <;> simp only [Nat.mul_one]
theorem en22 : binD Zs .eql 22 (.sl o n cs) (.sl .nil n' cs') = (nilOf o n).map .bool := by simp [binD, isNum, eqT, tz22]
theorem enr22 {c0 : Option Nat} {z0 : Nat} : binD Zs .eql 22 (.row r off n c0 z0) (.sl .nil n' cs') = some (.bool false) := by simp [binD, isNum, eqT, tz22]
theorem nn22 : binD Zs .neq 22 (.sl o n cs) (.sl .nil n' cs') = (nilOf o n).map fun b => .bool (!b) := by simp [binD, isNum, eqT, tz22]
theorem nnr22 {c0 : Option Nat} {z0 : Nat} : binD Zs .neq 22 (.row r off n c0 z0) (.sl .nil n' cs') = some (.bool true) := by simp [binD, isNum, eqT, tz22]
theorem ld23 : loadD Zs g 23 (.at cs) = cs[0]? := by first | (simp only [loadD, tz23, pack, TInfo.isAgg, Bool.false_eq_true, if_false, List.head?_eq_getElem?]; done) | (simp only [loadD, tz23, pack, TInfo.isAgg, Bool.false_eq_true, if_false, List.head?_eq_getElem?]; rfl)
theorem lp23 : loadD Zs g 23 (.ptr r off) = match g r with | some (.cells _ cs) => cs[off]? | _ => none := by first | (simp only [loadD, tz23, pack, TInfo.isAgg, Bool.false_eq_true, if_false, List.head?_drop]; done) | (simp only [loadD, tz23, pack, TInfo.isAgg, Bool.false_eq_true, if_false, List.head?_drop]; rfl)
theorem so23 : storeE Zs g 23 (.ptr r off) y = match y.cells with | some ys => (match g r with | some (.cells e cs) => if ys.length = 1 ∧ off + ys.length ≤ cs.length then some (.put r (.cells e (splice cs off ys))) else none | _ => none) | _ => none := by simp only [storeE, tz23]; cases y.cells <;> rfl
theorem al23 : allocR Zs 23 = some (.new (.cells 23 [.sl .nil 0 []])) := by rfl
theorem mi23 : ifaceD Zs 23 x = some (.iface 23 x) := by first | (simp only [ifaceD, tz23]; done) | (simp only [ifaceD, tz23]; rfl)
theorem mk23 {k' : IntKind} {m : Int} : makeSliceR Zs 0 23 (.int k i) (.int k' m) nx = if 0 ≤ i ∧ i ≤ m ∧ ((16 : Nat) : Int) * m ≤ 281474976710656 ∧ m ≤ (big : Int) then some (.row nx 0 i.toNat (some m.toNat) 1, .new (.cells 9 (List.replicate m.toNat (.str ⟨#[]⟩)))) else none := by exact mk_one tz23 tz9 rfl rfl rfl
theorem bs23_1 : buildSliceR Zs 0 23 1 [(0, x)] nx = lit1 x := by exact build1 tz23 tz9 rfl rfl rfl
theorem bs23_2 : buildSliceR Zs 0 23 2 [(0, x), (1, y)] nx = lit2 x y := by exact build2 tz23 tz9 rfl rfl rfl
theorem bs23_3 : buildSliceR Zs 0 23 3 [(0, x), (1, y), (2, x3)] nx = lit3 x y x3 := by exact build3 tz23 tz9 rfl rfl rfl
theorem ln23 : lenD Zs g #[23] (.sl o n cs) = some (.int .i64 n) := by simp [lenD, tz23]
theorem cpn23 : capD Zs #[23] (.sl .nil n cs) = some (.int .i64 0) := by simp [capD, tz23]
theorem cpr23 {kk z0 : Nat} : capD Zs #[23] (.row r off n (some kk) z0) = some (.int .i64 kk) := by simp [capD, tz23]
theorem lr23 {c0 : Option Nat} {z0 : Nat} : lenD Zs g #[23] (.row r off n c0 z0) = some (.int .i64 n) := by simp [lenD, tz23]
theorem ix23 : indexAddrD Zs 23 (.sl o n cs) (.int k i) = if (0 ≤ i ∧ i < n) ∧ 0 < cs.length then some (.at (cs.drop (i.toNat))) else none := by first | (simp only [indexAddrD, tz23, tz9, Nat.mul_one]; done) | (simp only [indexAddrD, tz23, tz9, Nat.mul_one]; rfl)
theorem ir23 {c0 : Option Nat} {z0 : Nat} : indexAddrD Zs 23 (.row r off n c0 z0) (.int k i) = if 0 ≤ i ∧ i < n then some (.ptr r (off + i.toNat)) else none := by first | (simp only [indexAddrD, tz23, tz9, Nat.mul_one]; done) | (simp only [indexAddrD, tz23, tz9, Nat.mul_one]; rfl)
theorem sl23 : sliceD Zs g 23 (.sl o n cs) lo hi none = match bound lo 0, bound hi n with | some l, some h => if 0 ≤ l ∧ l ≤ h ∧ h ≤ n ∧ cs.length = n then some (.sl (cutOwn o) (h.toNat - l.toNat) ((cs.drop (l.toNat)).take ((h.toNat - l.toNat)))) else none | _, _ => none := by simp only [sliceD, tz23, tz9, Nat.mul_one]; cases bound lo 0 <;> cases bound hi n <;> simp only [Nat.mul_one]
theorem en23 : binD Zs .eql 23 (.sl o n cs) (.sl .nil n' cs') = (nilOf o n).map .bool := by simp [binD, isNum, eqT, tz23]
theorem enr23 {c0 : Option Nat} {z0 : Nat} : binD Zs .eql 23 (.row r off n c0 z0) (.sl .nil n' cs') = some (.bool false) := by simp [binD, isNum, eqT, tz23]
theorem nn23 : binD Zs .neq 23 (.sl o n cs) (.sl .nil n' cs') = (nilOf o n).map fun b => .bool (!b) := by simp [binD, isNum, eqT, tz23]
theorem nnr23 {c0 : Option Nat} {z0 : Nat} : binD Zs .neq 23 (.row r off n c0 z0) (.sl .nil n' cs') = some (.bool true) := by simp [binD, isNum, eqT, tz23]
theorem ld27 : loadD Zs g 27 (.at cs) = cs[0]? := by first | (simp only [loadD, tz27, pack, TInfo.isAgg, Bool.false_eq_true, if_false, List.head?_eq_getElem?]; done) | (simp only [loadD, tz27, pack, TInfo.isAgg, Bool.false_eq_true, if_false, List.head?_eq_getElem?]; rfl)
theorem lp27 : loadD Zs g 27 (.ptr r off) = match g r with | some (.cells _ cs) => cs[off]? | _ => none := by first | (simp only [loadD, tz27, pack, TInfo.isAgg, Bool.false_eq_true, if_false, List.head?_drop]; done) | (simp only [loadD, tz27, pack, TInfo.isAgg, Bool.false_eq_true, if_false, List.head?_drop]; rfl)
theorem so27 : storeE Zs g 27 (.ptr r off) y = match y.cells with | some ys => (match g r with | some (.cells e cs) => if ys.length = 1 ∧ off + ys.length ≤ cs.length then some (.put r (.cells e (splice cs off ys))) else none | _ => none) | _ => none := by simp only [storeE, tz27]; cases y.cells <;> rfl
theorem al27 : allocR Zs 27 = some (.new (.cells 27 [.nilptr])) := by rfl
theorem mi27 : ifaceD Zs 27 x = some (.iface 27 x) := by first | (simp only [ifaceD, tz27]; done) | (simp only [ifaceD, tz27]; rfl)
theorem peql27 : binD Zs .eql 27 (.ptr r off) .nilptr = some (.bool false) := by simp [binD, isNum, eqT, tz27]
theorem paeql27 : binD Zs .eql 27 (.at cs) .nilptr = some (.bool false) := by simp [binD, isNum, eqT, tz27]
theorem pneql27 : binD Zs .eql 27 .nilptr .nilptr = some (.bool true) := by simp [binD, isNum, eqT, tz27]
theorem pneq27 : binD Zs .neq 27 (.ptr r off) .nilptr = some (.bool true) := by simp [binD, isNum, eqT, tz27]
theorem paneq27 : binD Zs .neq 27 (.at cs) .nilptr = some (.bool true) := by simp [binD, isNum, eqT, tz27]
theorem pnneq27 : binD Zs .neq 27 .nilptr .nilptr = some (.bool false) := by simp [binD, isNum, eqT, tz27]
theorem ld28 : loadD Zs g 28 (.at cs) = cs[0]? := by first | (simp only [loadD, tz28, pack, TInfo.isAgg, Bool.false_eq_true, if_false, List.head?_eq_getElem?]; done) | (simp only [loadD, tz28, pack, TInfo.isAgg, Bool.false_eq_true, if_false, List.head?_eq_getElem?]; rfl)
theorem lp28 : loadD Zs g 28 (.ptr r off) = match g r with | some (.cells _ cs) => cs[off]? | _ => none := by first | (simp only [loadD, tz28, pack, TInfo.isAgg, Bool.false_eq_true, if_false, List.head?_drop]; done) | (simp only [loadD, tz28, pack, TInfo.isAgg, Bool.false_eq_true, if_false, List.head?_drop]; rfl)
theorem so28 : storeE Zs g 28 (.ptr r off) y = match y.cells with | some ys => (match g r with | some (.cells e cs) => if ys.length = 1 ∧ off + ys.length ≤ cs.length then some (.put r (.cells e (splice cs off ys))) else none | _ => none) | _ => none := by simp only [storeE, tz28]; cases y.cells <;> rfl
theorem al28 : allocR Zs 28 = some (.new (.cells 28 [.int .i64 0])) := by rfl
theorem mi28 : ifaceD Zs 28 x = some (.iface 28 x) := by first | (simp only [ifaceD, tz28]; done) | (simp only [ifaceD, tz28]; rfl)
theorem ld31 : loadD Zs g 31 (.at cs) = cs[0]? := by first | (simp only [loadD, tz31, pack, TInfo.isAgg, Bool.false_eq_true, if_false, List.head?_eq_getElem?]; done) | (simp only [loadD, tz31, pack, TInfo.isAgg, Bool.false_eq_true, if_false, List.head?_eq_getElem?]; rfl)
theorem lp31 : loadD Zs g 31 (.ptr r off) = match g r with | some (.cells _ cs) => cs[off]? | _ => none := by first | (simp only [loadD, tz31, pack, TInfo.isAgg, Bool.false_eq_true, if_false, List.head?_drop]; done) | (simp only [loadD, tz31, pack, TInfo.isAgg, Bool.false_eq_true, if_false, List.head?_drop]; rfl)
theorem so31 : storeE Zs g 31 (.ptr r off) y = match y.cells with | some ys => (match g r with | some (.cells e cs) => if ys.length = 1 ∧ off + ys.length ≤ cs.length then some (.put r (.cells e (splice cs off ys))) else none | _ => none) | _ => none := by simp only [storeE, tz31]; cases y.cells <;> rfl
theorem al31 : allocR Zs 31 = some (.new (.cells 31 [.nilptr])) := by rfl
theorem mi31 : ifaceD Zs 31 x = some (.iface 31 x) := by first | (simp only [ifaceD, tz31]; done) | (simp only [ifaceD, tz31]; rfl)
theorem peql31 : binD Zs .eql 31 (.ptr r off) .nilptr = some (.bool false) := by simp [binD, isNum, eqT, tz31]
theorem paeql31 : binD Zs .eql 31 (.at cs) .nilptr = some (.bool false) := by simp [binD, isNum, eqT, tz31]
theorem pneql31 : binD Zs .eql 31 .nilptr .nilptr = some (.bool true) := by simp [binD, isNum, eqT, tz31]
theorem pneq31 : binD Zs .neq 31 (.ptr r off) .nilptr = some (.bool true) := by simp [binD, isNum, eqT, tz31]
theorem paneq31 : binD Zs .neq 31 (.at cs) .nilptr = some (.bool true) := by simp [binD, isNum, eqT, tz31]
theorem pnneq31 : binD Zs .neq 31 .nilptr .nilptr = some (.bool false) := by simp [binD, isNum, eqT, tz31]
theorem ld40 : loadD Zs g 40 (.at cs) = cs[0]? := by first | (simp only [loadD, tz40, pack, TInfo.isAgg, Bool.false_eq_true, if_false, List.head?_eq_getElem?]; done) | (simp only [loadD, tz40, pack, TInfo.isAgg, Bool.false_eq_true, if_false, List.head?_eq_getElem?]; rfl)
theorem lp40 : loadD Zs g 40 (.ptr r off) = match g r with | some (.cells _ cs) => cs[off]? | _ => none := by first | (simp only [loadD, tz40, pack, TInfo.isAgg, Bool.false_eq_true, if_false, List.head?_drop]; done) | (simp only [loadD, tz40, pack, TInfo.isAgg, Bool.false_eq_true, if_false, List.head?_drop]; rfl)
theorem so40 : storeE Zs g 40 (.ptr r off) y = match y.cells with | some ys => (match g r with | some (.cells e cs) => if ys.length = 1 ∧ off + ys.length ≤ cs.length then some (.put r (.cells e (splice cs off ys))) else none | _ => none) | _ => none := by simp only [storeE, tz40]; cases y.cells <;> rfl
theorem al40 : allocR Zs 40 = some (.new (.cells 40 [.sl .nil 0 []])) := by rfl
theorem mi40 : ifaceD Zs 40 x = some (.iface 40 x) := by first | (simp only [ifaceD, tz40]; done) | (simp only [ifaceD, tz40]; rfl)
theorem mk40 {k' : IntKind} {m : Int} : makeSliceR Zs 0 40 (.int k i) (.int k' m) nx = if 0 ≤ i ∧ i ≤ m ∧ ((8 : Nat) : Int) * m ≤ 281474976710656 ∧ m ≤ (big : Int) then some (.row nx 0 i.toNat (some m.toNat) 1, .new (.cells 3 (List.replicate m.toNat (.int .i64 0)))) else none := by exact mk_one tz40 tz3 rfl rfl rfl
theorem bs40_1 : buildSliceR Zs 0 40 1 [(0, x)] nx = lit1 x := by exact build1 tz40 tz3 rfl rfl rfl
theorem bs40_2 : buildSliceR Zs 0 40 2 [(0, x), (1, y)] nx = lit2 x y := by exact build2 tz40 tz3 rfl rfl rfl
theorem bs40_3 : buildSliceR Zs 0 40 3 [(0, x), (1, y), (2, x3)] nx = lit3 x y x3 := by exact build3 tz40 tz3 rfl rfl rfl
theorem ln40 : lenD Zs g #[40] (.sl o n cs) = some (.int .i64 n) := by simp [lenD, tz40]
theorem cpn40 : capD Zs #[40] (.sl .nil n cs) = some (.int .i64 0) := by simp [capD, tz40]
theorem cpr40 {kk z0 : Nat} : capD Zs #[40] (.row r off n (some kk) z0) = some (.int .i64 kk) := by simp [capD, tz40]
theorem lr40 {c0 : Option Nat} {z0 : Nat} : lenD Zs g #[40] (.row r off n c0 z0) = some (.int .i64 n) := by simp [lenD, tz40]
theorem ix40 : indexAddrD Zs 40 (.sl o n cs) (.int k i) = if (0 ≤ i ∧ i < n) ∧ 0 < cs.length then some (.at (cs.drop (i.toNat))) else none := by first | (simp only [indexAddrD, tz40, tz3, Nat.mul_one]; done) | (simp only [indexAddrD, tz40, tz3, Nat.mul_one]; rfl)
theorem ir40 {c0 : Option Nat} {z0 : Nat} : indexAddrD Zs 40 (.row r off n c0 z0) (.int k i) = if 0 ≤ i ∧ i < n then some (.ptr r (off + i.toNat)) else none := by first | (simp only [indexAddrD, tz40, tz3, Nat.mul_one]; done) | (simp only [indexAddrD, tz40, tz3, Nat.mul_one]; rfl)
theorem sl40 : sliceD Zs g 40 (.sl o n cs) lo hi none = match bound lo 0, bound hi n with | some l, some h => if 0 ≤ l ∧ l ≤ h ∧ h ≤ n ∧ cs.length = n then some (.sl (cutOwn o) (h.toNat - l.toNat) ((cs.drop (l.toNat)).take ((h.toNat - l.toNat)))) else none | _, _ => none := by simp only [sliceD, tz40, tz3, Nat.mul_one]; cases bound lo 0 <;> cases bound hi n <;> simp only [Nat.mul_one]
theorem en40 : binD Zs .eql 40 (.sl o n cs) (.sl .nil n' cs') = (nilOf o n).map .bool := by simp [binD, isNum, eqT, tz40]
theorem enr40 {c0 : Option Nat} {z0 : Nat} : binD Zs .eql 40 (.row r off n c0 z0) (.sl .nil n' cs') = some (.bool false) := by simp [binD, isNum, eqT, tz40]
theorem nn40 : binD Zs .neq 40 (.sl o n cs) (.sl .nil n' cs') = (nilOf o n).map fun b => .bool (!b) := by simp [binD, isNum, eqT, tz40]
theorem nnr40 {c0 : Option Nat} {z0 : Nat} : binD Zs .neq 40 (.row r off n c0 z0) (.sl .nil n' cs') = some (.bool true) := by simp [binD, isNum, eqT, tz40]
theorem ld46 : loadD Zs g 46 (.at cs) = cs[0]? := by first | (simp only [loadD, tz46, pack, TInfo.isAgg, Bool.false_eq_true, if_false, List.head?_eq_getElem?]; done) | (simp only [loadD, tz46, pack, TInfo.isAgg, Bool.false_eq_true, if_false, List.head?_eq_getElem?]; rfl)
theorem lp46 : loadD Zs g 46 (.ptr r off) = match g r with | some (.cells _ cs) => cs[off]? | _ => none := by first | (simp only [loadD, tz46, pack, TInfo.isAgg, Bool.false_eq_true, if_false, List.head?_drop]; done) | (simp only [loadD, tz46, pack, TInfo.isAgg, Bool.false_eq_true, if_false, List.head?_drop]; rfl)
theorem so46 : storeE Zs g 46 (.ptr r off) y = match y.cells with | some ys => (match g r with | some (.cells e cs) => if ys.length = 1 ∧ off + ys.length ≤ cs.length then some (.put r (.cells e (splice cs off ys))) else none | _ => none) | _ => none := by simp only [storeE, tz46]; cases y.cells <;> rfl
theorem al46 : allocR Zs 46 = some (.new (.cells 46 [.sl .nil 0 []])) := by rfl
theorem mi46 : ifaceD Zs 46 x = some (.iface 46 x) := by first | (simp only [ifaceD, tz46]; done) | (simp only [ifaceD, tz46]; rfl)
theorem mk46 {k' : IntKind} {m : Int} : makeSliceR Zs 0 46 (.int k i) (.int k' m) nx = if 0 ≤ i ∧ i ≤ m ∧ ((24 : Nat) : Int) * m ≤ 281474976710656 ∧ m ≤ (big : Int) then some (.row nx 0 i.toNat (some m.toNat) 1, .new (.cells 23 (List.replicate m.toNat (.sl .nil 0 [])))) else none := by exact mk_one tz46 tz23 rfl rfl rfl
theorem bs46_1 : buildSliceR Zs 0 46 1 [(0, x)] nx = lit1 x := by exact build1 tz46 tz23 rfl rfl rfl
theorem bs46_2 : buildSliceR Zs 0 46 2 [(0, x), (1, y)] nx = lit2 x y := by exact build2 tz46 tz23 rfl rfl rfl
theorem bs46_3 : buildSliceR Zs 0 46 3 [(0, x), (1, y), (2, x3)] nx = lit3 x y x3 := by exact build3 tz46 tz23 rfl rfl rfl
theorem ln46 : lenD Zs g #[46] (.sl o n cs) = some (.int .i64 n) := by simp [lenD, tz46]
theorem cpn46 : capD Zs #[46] (.sl .nil n cs) = some (.int .i64 0) := by simp [capD, tz46]
theorem cpr46 {kk z0 : Nat} : capD Zs #[46] (.row r off n (some kk) z0) = some (.int .i64 kk) := by simp [capD, tz46]
theorem lr46 {c0 : Option Nat} {z0 : Nat} : lenD Zs g #[46] (.row r off n c0 z0) = some (.int .i64 n) := by simp [lenD, tz46]
theorem ix46 : indexAddrD Zs 46 (.sl o n cs) (.int k i) = if (0 ≤ i ∧ i < n) ∧ 0 < cs.length then some (.at (cs.drop (i.toNat))) else none := by first | (simp only [indexAddrD, tz46, tz23, Nat.mul_one]; done) | (simp only [indexAddrD, tz46, tz23, Nat.mul_one]; rfl)
theorem ir46 {c0 : Option Nat} {z0 : Nat} : indexAddrD Zs 46 (.row r off n c0 z0) (.int k i) = if 0 ≤ i ∧ i < n then some (.ptr r (off + i.toNat)) else none := by first | (simp only [indexAddrD, tz46, tz23, Nat.mul_one]; done) | (simp only [indexAddrD, tz46, tz23, Nat.mul_one]; rfl)
theorem sl46 : sliceD Zs g 46 (.sl o n cs) lo hi none = match bound lo 0, bound hi n with | some l, some h => if 0 ≤ l ∧ l ≤ h ∧ h ≤ n ∧ cs.length = n then some (.sl (cutOwn o) (h.toNat - l.toNat) ((cs.drop (l.toNat)).take ((h.toNat - l.toNat)))) else none | _, _ => none := by simp only [sliceD, tz46, tz23, Nat.mul_one]; cases bound lo 0 <;> cases bound hi n <;> simp only [Nat.mul_one]
theorem en46 : binD Zs .eql 46 (.sl o n cs) (.sl .nil n' cs') = (nilOf o n).map .bool := by simp [binD, isNum, eqT, tz46]
theorem enr46 {c0 : Option Nat} {z0 : Nat} : binD Zs .eql 46 (.row r off n c0 z0) (.sl .nil n' cs') = some (.bool false) := by simp [binD, isNum, eqT, tz46]
theorem nn46 : binD Zs .neq 46 (.sl o n cs) (.sl .nil n' cs') = (nilOf o n).map fun b => .bool (!b) := by simp [binD, isNum, eqT, tz46]
theorem nnr46 {c0 : Option Nat} {z0 : Nat} : binD Zs .neq 46 (.row r off n c0 z0) (.sl .nil n' cs') = some (.bool true) := by simp [binD, isNum, eqT, tz46]
theorem ld50 : loadD Zs g 50 (.at cs) = if 3 ≤ cs.length then some (.agg (cs.take 3)) else none := by first | (simp only [loadD, tz50, pack, TInfo.isAgg, if_true]; done) | (simp only [loadD, tz50, pack, TInfo.isAgg, if_true]; rfl)
theorem lp50 : loadD Zs g 50 (.ptr r off) = match g r with | some (.cells _ cs) => (if 3 ≤ (cs.drop off).length then some (.agg ((cs.drop off).take 3)) else none) | _ => none := by first | (simp only [loadD, tz50, pack, TInfo.isAgg, if_true]; done) | (simp only [loadD, tz50, pack, TInfo.isAgg, if_true]; rfl)
theorem so50 : storeE Zs g 50 (.ptr r off) y = match y.cells with | some ys => (match g r with | some (.cells e cs) => if ys.length = 3 ∧ off + ys.length ≤ cs.length then some (.put r (.cells e (splice cs off ys))) else none | _ => none) | _ => none := by simp only [storeE, tz50]; cases y.cells <;> rfl
theorem al50 : allocR Zs 50 = some (.new (.cells 50 [.sl .nil 0 [], .str ⟨#[]⟩, .int .i64 0])) := by rfl
theorem mi50 : ifaceD Zs 50 x = some (.iface 50 x) := by first | (simp only [ifaceD, tz50]; done) | (simp only [ifaceD, tz50]; rfl)
theorem fa50_0 : fieldAddrD Zs 50 0 (.at cs) = some (.at (cs.drop 0)) := by simp [fieldAddrD, fieldOf, tz50, tz23]
theorem fp50_0 : fieldAddrD Zs 50 0 (.ptr r o') = some (.ptr r (o' + 0)) := by simp [fieldAddrD, fieldOf, tz50, tz23]
theorem fl50_0 : fieldD Zs 50 0 (.agg cs) = cs[0]? := by simp [fieldD, fieldOf, tz50, tz23, partD, TInfo.isAgg]
theorem fa50_1 : fieldAddrD Zs 50 1 (.at cs) = some (.at (cs.drop 1)) := by simp [fieldAddrD, fieldOf, tz50, tz9]
theorem fp50_1 : fieldAddrD Zs 50 1 (.ptr r o') = some (.ptr r (o' + 1)) := by simp [fieldAddrD, fieldOf, tz50, tz9]
theorem fl50_1 : fieldD Zs 50 1 (.agg cs) = cs[1]? := by simp [fieldD, fieldOf, tz50, tz9, partD, TInfo.isAgg]
theorem fa50_2 : fieldAddrD Zs 50 2 (.at cs) = some (.at (cs.drop 2)) := by simp [fieldAddrD, fieldOf, tz50, tz3]
theorem fp50_2 : fieldAddrD Zs 50 2 (.ptr r o') = some (.ptr r (o' + 2)) := by simp [fieldAddrD, fieldOf, tz50, tz3]
theorem fl50_2 : fieldD Zs 50 2 (.agg cs) = cs[2]? := by simp [fieldD, fieldOf, tz50, tz3, partD, TInfo.isAgg]
theorem ld51 : loadD Zs g 51 (.at cs) = if 3 ≤ cs.length then some (.agg (cs.take 3)) else none := by first | (simp only [loadD, tz51, pack, TInfo.isAgg, if_true]; done) | (simp only [loadD, tz51, pack, TInfo.isAgg, if_true]; rfl)
theorem lp51 : loadD Zs g 51 (.ptr r off) = match g r with | some (.cells _ cs) => (if 3 ≤ (cs.drop off).length then some (.agg ((cs.drop off).take 3)) else none) | _ => none := by first | (simp only [loadD, tz51, pack, TInfo.isAgg, if_true]; done) | (simp only [loadD, tz51, pack, TInfo.isAgg, if_true]; rfl)
theorem so51 : storeE Zs g 51 (.ptr r off) y = match y.cells with | some ys => (match g r with | some (.cells e cs) => if ys.length = 3 ∧ off + ys.length ≤ cs.length then some (.put r (.cells e (splice cs off ys))) else none | _ => none) | _ => none := by simp only [storeE, tz51]; cases y.cells <;> rfl
theorem al51 : allocR Zs 51 = some (.new (.cells 51 [.sl .nil 0 [], .str ⟨#[]⟩, .int .i64 0])) := by rfl
theorem mi51 : ifaceD Zs 51 x = some (.iface 51 x) := by first | (simp only [ifaceD, tz51]; done) | (simp only [ifaceD, tz51]; rfl)
theorem fa51_0 : fieldAddrD Zs 51 0 (.at cs) = some (.at (cs.drop 0)) := by simp [fieldAddrD, fieldOf, tz51, tz23]
theorem fp51_0 : fieldAddrD Zs 51 0 (.ptr r o') = some (.ptr r (o' + 0)) := by simp [fieldAddrD, fieldOf, tz51, tz23]
theorem fl51_0 : fieldD Zs 51 0 (.agg cs) = cs[0]? := by simp [fieldD, fieldOf, tz51, tz23, partD, TInfo.isAgg]
theorem fa51_1 : fieldAddrD Zs 51 1 (.at cs) = some (.at (cs.drop 1)) := by simp [fieldAddrD, fieldOf, tz51, tz9]
theorem fp51_1 : fieldAddrD Zs 51 1 (.ptr r o') = some (.ptr r (o' + 1)) := by simp [fieldAddrD, fieldOf, tz51, tz9]
theorem fl51_1 : fieldD Zs 51 1 (.agg cs) = cs[1]? := by simp [fieldD, fieldOf, tz51, tz9, partD, TInfo.isAgg]
theorem fa51_2 : fieldAddrD Zs 51 2 (.at cs) = some (.at (cs.drop 2)) := by simp [fieldAddrD, fieldOf, tz51, tz3]
theorem fp51_2 : fieldAddrD Zs 51 2 (.ptr r o') = some (.ptr r (o' + 2)) := by simp [fieldAddrD, fieldOf, tz51, tz3]
theorem fl51_2 : fieldD Zs 51 2 (.agg cs) = cs[2]? := by simp [fieldD, fieldOf, tz51, tz3, partD, TInfo.isAgg]
theorem ld53 : loadD Zs g 53 (.at cs) = cs[0]? := by first | (simp only [loadD, tz53, pack, TInfo.isAgg, Bool.false_eq_true, if_false, List.head?_eq_getElem?]; done) | (simp only [loadD, tz53, pack, TInfo.isAgg, Bool.false_eq_true, if_false, List.head?_eq_getElem?]; rfl)
theorem lp53 : loadD Zs g 53 (.ptr r off) = match g r with | some (.cells _ cs) => cs[off]? | _ => none := by first | (simp only [loadD, tz53, pack, TInfo.isAgg, Bool.false_eq_true, if_false, List.head?_drop]; done) | (simp only [loadD, tz53, pack, TInfo.isAgg, Bool.false_eq_true, if_false, List.head?_drop]; rfl)
theorem so53 : storeE Zs g 53 (.ptr r off) y = match y.cells with | some ys => (match g r with | some (.cells e cs) => if ys.length = 1 ∧ off + ys.length ≤ cs.length then some (.put r (.cells e (splice cs off ys))) else none | _ => none) | _ => none := by simp only [storeE, tz53]; cases y.cells <;> rfl
theorem al53 : allocR Zs 53 = some (.new (.cells 53 [.nilmap])) := by rfl
theorem mi53 : ifaceD Zs 53 x = some (.iface 53 x) := by first | (simp only [ifaceD, tz53]; done) | (simp only [ifaceD, tz53]; rfl)
theorem meql53 : binD Zs .eql 53 (.map r) .nilmap = some (.bool false) := by simp [binD, isNum, eqT, tz53]
theorem mneql53 : binD Zs .eql 53 .nilmap .nilmap = some (.bool true) := by simp [binD, isNum, eqT, tz53]
theorem mneq53 : binD Zs .neq 53 (.map r) .nilmap = some (.bool true) := by simp [binD, isNum, eqT, tz53]
theorem mnneq53 : binD Zs .neq 53 .nilmap .nilmap = some (.bool false) := by simp [binD, isNum, eqT, tz53]
theorem lnn53 : lenD Zs g #[53] .nilmap = some (.int .i64 0) := by simp [lenD, tz53]
theorem lnm53 : lenD Zs g #[53] (.map r) = match g r with | some (.map es _) => some (.int .i64 es.length) | _ => none := by simp [lenD, tz53]; rfl
theorem ld54 : loadD Zs g 54 (.at cs) = cs[0]? := by first | (simp only [loadD, tz54, pack, TInfo.isAgg, Bool.false_eq_true, if_false, List.head?_eq_getElem?]; done) | (simp only [loadD, tz54, pack, TInfo.isAgg, Bool.false_eq_true, if_false, List.head?_eq_getElem?]; rfl)
theorem lp54 : loadD Zs g 54 (.ptr r off) = match g r with | some (.cells _ cs) => cs[off]? | _ => none := by first | (simp only [loadD, tz54, pack, TInfo.isAgg, Bool.false_eq_true, if_false, List.head?_drop]; done) | (simp only [loadD, tz54, pack, TInfo.isAgg, Bool.false_eq_true, if_false, List.head?_drop]; rfl)
theorem so54 : storeE Zs g 54 (.ptr r off) y = match y.cells with | some ys => (match g r with | some (.cells e cs) => if ys.length = 1 ∧ off + ys.length ≤ cs.length then some (.put r (.cells e (splice cs off ys))) else none | _ => none) | _ => none := by simp only [storeE, tz54]; cases y.cells <;> rfl
theorem al54 : allocR Zs 54 = some (.new (.cells 54 [.nilmap])) := by rfl
theorem mi54 : ifaceD Zs 54 x = some (.iface 54 x) := by first | (simp only [ifaceD, tz54]; done) | (simp only [ifaceD, tz54]; rfl)
theorem meql54 : binD Zs .eql 54 (.map r) .nilmap = some (.bool false) := by simp [binD, isNum, eqT, tz54]
theorem mneql54 : binD Zs .eql 54 .nilmap .nilmap = some (.bool true) := by simp [binD, isNum, eqT, tz54]
theorem mneq54 : binD Zs .neq 54 (.map r) .nilmap = some (.bool true) := by simp [binD, isNum, eqT, tz54]
theorem mnneq54 : binD Zs .neq 54 .nilmap .nilmap = some (.bool false) := by simp [binD, isNum, eqT, tz54]
theorem lnn54 : lenD Zs g #[54] .nilmap = some (.int .i64 0) := by simp [lenD, tz54]
theorem lnm54 : lenD Zs g #[54] (.map r) = match g r with | some (.map es _) => some (.int .i64 es.length) | _ => none := by simp [lenD, tz54]; rfl
theorem ld55 : loadD Zs g 55 (.at cs) = if 2 ≤ cs.length then some (.agg (cs.take 2)) else none := by first | (simp only [loadD, tz55, pack, TInfo.isAgg, if_true]; done) | (simp only [loadD, tz55, pack, TInfo.isAgg, if_true]; rfl)
theorem lp55 : loadD Zs g 55 (.ptr r off) = match g r with | some (.cells _ cs) => (if 2 ≤ (cs.drop off).length then some (.agg ((cs.drop off).take 2)) else none) | _ => none := by first | (simp only [loadD, tz55, pack, TInfo.isAgg, if_true]; done) | (simp only [loadD, tz55, pack, TInfo.isAgg, if_true]; rfl)
theorem so55 : storeE Zs g 55 (.ptr r off) y = match y.cells with | some ys => (match g r with | some (.cells e cs) => if ys.length = 2 ∧ off + ys.length ≤ cs.length then some (.put r (.cells e (splice cs off ys))) else none | _ => none) | _ => none := by simp only [storeE, tz55]; cases y.cells <;> rfl
theorem al55 : allocR Zs 55 = some (.new (.cells 55 [.nilmap, .nilmap])) := by rfl
theorem mi55 : ifaceD Zs 55 x = some (.iface 55 x) := by first | (simp only [ifaceD, tz55]; done) | (simp only [ifaceD, tz55]; rfl)
theorem fa55_0 : fieldAddrD Zs 55 0 (.at cs) = some (.at (cs.drop 0)) := by simp [fieldAddrD, fieldOf, tz55, tz53]
theorem fp55_0 : fieldAddrD Zs 55 0 (.ptr r o') = some (.ptr r (o' + 0)) := by simp [fieldAddrD, fieldOf, tz55, tz53]
theorem fl55_0 : fieldD Zs 55 0 (.agg cs) = cs[0]? := by simp [fieldD, fieldOf, tz55, tz53, partD, TInfo.isAgg]
theorem fa55_1 : fieldAddrD Zs 55 1 (.at cs) = some (.at (cs.drop 1)) := by simp [fieldAddrD, fieldOf, tz55, tz54]
theorem fp55_1 : fieldAddrD Zs 55 1 (.ptr r o') = some (.ptr r (o' + 1)) := by simp [fieldAddrD, fieldOf, tz55, tz54]
theorem fl55_1 : fieldD Zs 55 1 (.agg cs) = cs[1]? := by simp [fieldD, fieldOf, tz55, tz54, partD, TInfo.isAgg]
theorem ld56 : loadD Zs g 56 (.at cs) = if 2 ≤ cs.length then some (.agg (cs.take 2)) else none := by first | (simp only [loadD, tz56, pack, TInfo.isAgg, if_true]; done) | (simp only [loadD, tz56, pack, TInfo.isAgg, if_true]; rfl)
theorem lp56 : loadD Zs g 56 (.ptr r off) = match g r with | some (.cells _ cs) => (if 2 ≤ (cs.drop off).length then some (.agg ((cs.drop off).take 2)) else none) | _ => none := by first | (simp only [loadD, tz56, pack, TInfo.isAgg, if_true]; done) | (simp only [loadD, tz56, pack, TInfo.isAgg, if_true]; rfl)
theorem so56 : storeE Zs g 56 (.ptr r off) y = match y.cells with | some ys => (match g r with | some (.cells e cs) => if ys.length = 2 ∧ off + ys.length ≤ cs.length then some (.put r (.cells e (splice cs off ys))) else none | _ => none) | _ => none := by simp only [storeE, tz56]; cases y.cells <;> rfl
theorem al56 : allocR Zs 56 = some (.new (.cells 56 [.nilmap, .nilmap])) := by rfl
theorem mi56 : ifaceD Zs 56 x = some (.iface 56 x) := by first | (simp only [ifaceD, tz56]; done) | (simp only [ifaceD, tz56]; rfl)
theorem fa56_0 : fieldAddrD Zs 56 0 (.at cs) = some (.at (cs.drop 0)) := by simp [fieldAddrD, fieldOf, tz56, tz53]
theorem fp56_0 : fieldAddrD Zs 56 0 (.ptr r o') = some (.ptr r (o' + 0)) := by simp [fieldAddrD, fieldOf, tz56, tz53]
theorem fl56_0 : fieldD Zs 56 0 (.agg cs) = cs[0]? := by simp [fieldD, fieldOf, tz56, tz53, partD, TInfo.isAgg]
theorem fa56_1 : fieldAddrD Zs 56 1 (.at cs) = some (.at (cs.drop 1)) := by simp [fieldAddrD, fieldOf, tz56, tz54]
theorem fp56_1 : fieldAddrD Zs 56 1 (.ptr r o') = some (.ptr r (o' + 1)) := by simp [fieldAddrD, fieldOf, tz56, tz54]
theorem fl56_1 : fieldD Zs 56 1 (.agg cs) = cs[1]? := by simp [fieldD, fieldOf, tz56, tz54, partD, TInfo.isAgg]
theorem ld59 : loadD Zs g 59 (.at cs) = if 1 ≤ cs.length then some (.agg (cs.take 1)) else none := by first | (simp only [loadD, tz59, pack, TInfo.isAgg, if_true]; done) | (simp only [loadD, tz59, pack, TInfo.isAgg, if_true]; rfl)
theorem lp59 : loadD Zs g 59 (.ptr r off) = match g r with | some (.cells _ cs) => (if 1 ≤ (cs.drop off).length then some (.agg ((cs.drop off).take 1)) else none) | _ => none := by first | (simp only [loadD, tz59, pack, TInfo.isAgg, if_true]; done) | (simp only [loadD, tz59, pack, TInfo.isAgg, if_true]; rfl)
theorem so59 : storeE Zs g 59 (.ptr r off) y = match y.cells with | some ys => (match g r with | some (.cells e cs) => if ys.length = 1 ∧ off + ys.length ≤ cs.length then some (.put r (.cells e (splice cs off ys))) else none | _ => none) | _ => none := by simp only [storeE, tz59]; cases y.cells <;> rfl
theorem al59 : allocR Zs 59 = some (.new (.cells 59 [.sl .nil 0 []])) := by rfl
theorem mi59 : ifaceD Zs 59 x = some (.iface 59 x) := by first | (simp only [ifaceD, tz59]; done) | (simp only [ifaceD, tz59]; rfl)
theorem fa59_0 : fieldAddrD Zs 59 0 (.at cs) = some (.at (cs.drop 0)) := by simp [fieldAddrD, fieldOf, tz59, tz22]
theorem fp59_0 : fieldAddrD Zs 59 0 (.ptr r o') = some (.ptr r (o' + 0)) := by simp [fieldAddrD, fieldOf, tz59, tz22]
theorem fl59_0 : fieldD Zs 59 0 (.agg cs) = cs[0]? := by simp [fieldD, fieldOf, tz59, tz22, partD, TInfo.isAgg]
theorem ld60 : loadD Zs g 60 (.at cs) = if 1 ≤ cs.length then some (.agg (cs.take 1)) else none := by first | (simp only [loadD, tz60, pack, TInfo.isAgg, if_true]; done) | (simp only [loadD, tz60, pack, TInfo.isAgg, if_true]; rfl)
theorem lp60 : loadD Zs g 60 (.ptr r off) = match g r with | some (.cells _ cs) => (if 1 ≤ (cs.drop off).length then some (.agg ((cs.drop off).take 1)) else none) | _ => none := by first | (simp only [loadD, tz60, pack, TInfo.isAgg, if_true]; done) | (simp only [loadD, tz60, pack, TInfo.isAgg, if_true]; rfl)
theorem so60 : storeE Zs g 60 (.ptr r off) y = match y.cells with | some ys => (match g r with | some (.cells e cs) => if ys.length = 1 ∧ off + ys.length ≤ cs.length then some (.put r (.cells e (splice cs off ys))) else none | _ => none) | _ => none := by simp only [storeE, tz60]; cases y.cells <;> rfl
theorem al60 : allocR Zs 60 = some (.new (.cells 60 [.sl .nil 0 []])) := by rfl
theorem mi60 : ifaceD Zs 60 x = some (.iface 60 x) := by first | (simp only [ifaceD, tz60]; done) | (simp only [ifaceD, tz60]; rfl)
theorem fa60_0 : fieldAddrD Zs 60 0 (.at cs) = some (.at (cs.drop 0)) := by simp [fieldAddrD, fieldOf, tz60, tz22]
theorem fp60_0 : fieldAddrD Zs 60 0 (.ptr r o') = some (.ptr r (o' + 0)) := by simp [fieldAddrD, fieldOf, tz60, tz22]
theorem fl60_0 : fieldD Zs 60 0 (.agg cs) = cs[0]? := by simp [fieldD, fieldOf, tz60, tz22, partD, TInfo.isAgg]
theorem ld63 : loadD Zs g 63 (.at cs) = cs[0]? := by first | (simp only [loadD, tz63, pack, TInfo.isAgg, Bool.false_eq_true, if_false, List.head?_eq_getElem?]; done) | (simp only [loadD, tz63, pack, TInfo.isAgg, Bool.false_eq_true, if_false, List.head?_eq_getElem?]; rfl)
theorem lp63 : loadD Zs g 63 (.ptr r off) = match g r with | some (.cells _ cs) => cs[off]? | _ => none := by first | (simp only [loadD, tz63, pack, TInfo.isAgg, Bool.false_eq_true, if_false, List.head?_drop]; done) | (simp only [loadD, tz63, pack, TInfo.isAgg, Bool.false_eq_true, if_false, List.head?_drop]; rfl)
theorem so63 : storeE Zs g 63 (.ptr r off) y = match y.cells with | some ys => (match g r with | some (.cells e cs) => if ys.length = 1 ∧ off + ys.length ≤ cs.length then some (.put r (.cells e (splice cs off ys))) else none | _ => none) | _ => none := by simp only [storeE, tz63]; cases y.cells <;> rfl
theorem al63 : allocR Zs 63 = some (.new (.cells 63 [.nilmap])) := by rfl
theorem mi63 : ifaceD Zs 63 x = some (.iface 63 x) := by first | (simp only [ifaceD, tz63]; done) | (simp only [ifaceD, tz63]; rfl)
theorem meql63 : binD Zs .eql 63 (.map r) .nilmap = some (.bool false) := by simp [binD, isNum, eqT, tz63]
theorem mneql63 : binD Zs .eql 63 .nilmap .nilmap = some (.bool true) := by simp [binD, isNum, eqT, tz63]
theorem mneq63 : binD Zs .neq 63 (.map r) .nilmap = some (.bool true) := by simp [binD, isNum, eqT, tz63]
theorem mnneq63 : binD Zs .neq 63 .nilmap .nilmap = some (.bool false) := by simp [binD, isNum, eqT, tz63]
theorem lnn63 : lenD Zs g #[63] .nilmap = some (.int .i64 0) := by simp [lenD, tz63]
theorem lnm63 : lenD Zs g #[63] (.map r) = match g r with | some (.map es _) => some (.int .i64 es.length) | _ => none := by simp [lenD, tz63]; rfl
theorem ld64 : loadD Zs g 64 (.at cs) = if 2 ≤ cs.length then some (.agg (cs.take 2)) else none := by first | (simp only [loadD, tz64, pack, TInfo.isAgg, if_true]; done) | (simp only [loadD, tz64, pack, TInfo.isAgg, if_true]; rfl)
theorem lp64 : loadD Zs g 64 (.ptr r off) = match g r with | some (.cells _ cs) => (if 2 ≤ (cs.drop off).length then some (.agg ((cs.drop off).take 2)) else none) | _ => none := by first | (simp only [loadD, tz64, pack, TInfo.isAgg, if_true]; done) | (simp only [loadD, tz64, pack, TInfo.isAgg, if_true]; rfl)
theorem so64 : storeE Zs g 64 (.ptr r off) y = match y.cells with | some ys => (match g r with | some (.cells e cs) => if ys.length = 2 ∧ off + ys.length ≤ cs.length then some (.put r (.cells e (splice cs off ys))) else none | _ => none) | _ => none := by simp only [storeE, tz64]; cases y.cells <;> rfl
theorem al64 : allocR Zs 64 = some (.new (.cells 64 [.int .i64 0, .int .i64 0])) := by rfl
theorem mi64 : ifaceD Zs 64 x = some (.iface 64 x) := by first | (simp only [ifaceD, tz64]; done) | (simp only [ifaceD, tz64]; rfl)
theorem fa64_0 : fieldAddrD Zs 64 0 (.at cs) = some (.at (cs.drop 0)) := by simp [fieldAddrD, fieldOf, tz64, tz3]
theorem fp64_0 : fieldAddrD Zs 64 0 (.ptr r o') = some (.ptr r (o' + 0)) := by simp [fieldAddrD, fieldOf, tz64, tz3]
theorem fl64_0 : fieldD Zs 64 0 (.agg cs) = cs[0]? := by simp [fieldD, fieldOf, tz64, tz3, partD, TInfo.isAgg]
theorem fa64_1 : fieldAddrD Zs 64 1 (.at cs) = some (.at (cs.drop 1)) := by simp [fieldAddrD, fieldOf, tz64, tz3]
theorem fp64_1 : fieldAddrD Zs 64 1 (.ptr r o') = some (.ptr r (o' + 1)) := by simp [fieldAddrD, fieldOf, tz64, tz3]
theorem fl64_1 : fieldD Zs 64 1 (.agg cs) = cs[1]? := by simp [fieldD, fieldOf, tz64, tz3, partD, TInfo.isAgg]
theorem ld65 : loadD Zs g 65 (.at cs) = if 2 ≤ cs.length then some (.agg (cs.take 2)) else none := by first | (simp only [loadD, tz65, pack, TInfo.isAgg, if_true]; done) | (simp only [loadD, tz65, pack, TInfo.isAgg, if_true]; rfl)
theorem lp65 : loadD Zs g 65 (.ptr r off) = match g r with | some (.cells _ cs) => (if 2 ≤ (cs.drop off).length then some (.agg ((cs.drop off).take 2)) else none) | _ => none := by first | (simp only [loadD, tz65, pack, TInfo.isAgg, if_true]; done) | (simp only [loadD, tz65, pack, TInfo.isAgg, if_true]; rfl)
theorem so65 : storeE Zs g 65 (.ptr r off) y = match y.cells with | some ys => (match g r with | some (.cells e cs) => if ys.length = 2 ∧ off + ys.length ≤ cs.length then some (.put r (.cells e (splice cs off ys))) else none | _ => none) | _ => none := by simp only [storeE, tz65]; cases y.cells <;> rfl
theorem al65 : allocR Zs 65 = some (.new (.cells 65 [.int .i64 0, .int .i64 0])) := by rfl
theorem mi65 : ifaceD Zs 65 x = some (.iface 65 x) := by first | (simp only [ifaceD, tz65]; done) | (simp only [ifaceD, tz65]; rfl)
theorem fa65_0 : fieldAddrD Zs 65 0 (.at cs) = some (.at (cs.drop 0)) := by simp [fieldAddrD, fieldOf, tz65, tz3]
theorem fp65_0 : fieldAddrD Zs 65 0 (.ptr r o') = some (.ptr r (o' + 0)) := by simp [fieldAddrD, fieldOf, tz65, tz3]
theorem fl65_0 : fieldD Zs 65 0 (.agg cs) = cs[0]? := by simp [fieldD, fieldOf, tz65, tz3, partD, TInfo.isAgg]
theorem fa65_1 : fieldAddrD Zs 65 1 (.at cs) = some (.at (cs.drop 1)) := by simp [fieldAddrD, fieldOf, tz65, tz3]
theorem fp65_1 : fieldAddrD Zs 65 1 (.ptr r o') = some (.ptr r (o' + 1)) := by simp [fieldAddrD, fieldOf, tz65, tz3]
theorem fl65_1 : fieldD Zs 65 1 (.agg cs) = cs[1]? := by simp [fieldD, fieldOf, tz65, tz3, partD, TInfo.isAgg]
theorem ld66 : loadD Zs g 66 (.at cs) = cs[0]? := by first | (simp only [loadD, tz66, pack, TInfo.isAgg, Bool.false_eq_true, if_false, List.head?_eq_getElem?]; done) | (simp only [loadD, tz66, pack, TInfo.isAgg, Bool.false_eq_true, if_false, List.head?_eq_getElem?]; rfl)
theorem lp66 : loadD Zs g 66 (.ptr r off) = match g r with | some (.cells _ cs) => cs[off]? | _ => none := by first | (simp only [loadD, tz66, pack, TInfo.isAgg, Bool.false_eq_true, if_false, List.head?_drop]; done) | (simp only [loadD, tz66, pack, TInfo.isAgg, Bool.false_eq_true, if_false, List.head?_drop]; rfl)
theorem so66 : storeE Zs g 66 (.ptr r off) y = match y.cells with | some ys => (match g r with | some (.cells e cs) => if ys.length = 1 ∧ off + ys.length ≤ cs.length then some (.put r (.cells e (splice cs off ys))) else none | _ => none) | _ => none := by simp only [storeE, tz66]; cases y.cells <;> rfl
theorem al66 : allocR Zs 66 = some (.new (.cells 66 [.nilfunc])) := by rfl
theorem mi66 : ifaceD Zs 66 x = some (.iface 66 x) := by first | (simp only [ifaceD, tz66]; done) | (simp only [ifaceD, tz66]; rfl)
theorem ld74 : loadD Zs g 74 (.at cs) = cs[0]? := by first | (simp only [loadD, tz74, pack, TInfo.isAgg, Bool.false_eq_true, if_false, List.head?_eq_getElem?]; done) | (simp only [loadD, tz74, pack, TInfo.isAgg, Bool.false_eq_true, if_false, List.head?_eq_getElem?]; rfl)
theorem lp74 : loadD Zs g 74 (.ptr r off) = match g r with | some (.cells _ cs) => cs[off]? | _ => none := by first | (simp only [loadD, tz74, pack, TInfo.isAgg, Bool.false_eq_true, if_false, List.head?_drop]; done) | (simp only [loadD, tz74, pack, TInfo.isAgg, Bool.false_eq_true, if_false, List.head?_drop]; rfl)
theorem so74 : storeE Zs g 74 (.ptr r off) y = match y.cells with | some ys => (match g r with | some (.cells e cs) => if ys.length = 1 ∧ off + ys.length ≤ cs.length then some (.put r (.cells e (splice cs off ys))) else none | _ => none) | _ => none := by simp only [storeE, tz74]; cases y.cells <;> rfl
theorem al74 : allocR Zs 74 = some (.new (.cells 74 [.nilfunc])) := by rfl
theorem mi74 : ifaceD Zs 74 x = some (.iface 74 x) := by first | (simp only [ifaceD, tz74]; done) | (simp only [ifaceD, tz74]; rfl)
theorem ld77 : loadD Zs g 77 (.at cs) = cs[0]? := by first | (simp only [loadD, tz77, pack, TInfo.isAgg, Bool.false_eq_true, if_false, List.head?_eq_getElem?]; done) | (simp only [loadD, tz77, pack, TInfo.isAgg, Bool.false_eq_true, if_false, List.head?_eq_getElem?]; rfl)
theorem lp77 : loadD Zs g 77 (.ptr r off) = match g r with | some (.cells _ cs) => cs[off]? | _ => none := by first | (simp only [loadD, tz77, pack, TInfo.isAgg, Bool.false_eq_true, if_false, List.head?_drop]; done) | (simp only [loadD, tz77, pack, TInfo.isAgg, Bool.false_eq_true, if_false, List.head?_drop]; rfl)
theorem so77 : storeE Zs g 77 (.ptr r off) y = match y.cells with | some ys => (match g r with | some (.cells e cs) => if ys.length = 1 ∧ off + ys.length ≤ cs.length then some (.put r (.cells e (splice cs off ys))) else none | _ => none) | _ => none := by simp only [storeE, tz77]; cases y.cells <;> rfl
theorem al77 : allocR Zs 77 = some (.new (.cells 77 [.nilfunc])) := by rfl
theorem mi77 : ifaceD Zs 77 x = some (.iface 77 x) := by first | (simp only [ifaceD, tz77]; done) | (simp only [ifaceD, tz77]; rfl)
theorem ld78 : loadD Zs g 78 (.at cs) = if 2 ≤ cs.length then some (.agg (cs.take 2)) else none := by first | (simp only [loadD, tz78, pack, TInfo.isAgg, if_true]; done) | (simp only [loadD, tz78, pack, TInfo.isAgg, if_true]; rfl)
theorem lp78 : loadD Zs g 78 (.ptr r off) = match g r with | some (.cells _ cs) => (if 2 ≤ (cs.drop off).length then some (.agg ((cs.drop off).take 2)) else none) | _ => none := by first | (simp only [loadD, tz78, pack, TInfo.isAgg, if_true]; done) | (simp only [loadD, tz78, pack, TInfo.isAgg, if_true]; rfl)
theorem so78 : storeE Zs g 78 (.ptr r off) y = match y.cells with | some ys => (match g r with | some (.cells e cs) => if ys.length = 2 ∧ off + ys.length ≤ cs.length then some (.put r (.cells e (splice cs off ys))) else none | _ => none) | _ => none := by simp only [storeE, tz78]; cases y.cells <;> rfl
theorem al78 : allocR Zs 78 = some (.new (.cells 78 [.str ⟨#[]⟩, .str ⟨#[]⟩])) := by rfl
theorem mi78 : ifaceD Zs 78 x = some (.iface 78 x) := by first | (simp only [ifaceD, tz78]; done) | (simp only [ifaceD, tz78]; rfl)
theorem fa78_0 : fieldAddrD Zs 78 0 (.at cs) = some (.at (cs.drop 0)) := by simp [fieldAddrD, fieldOf, tz78, tz9]
theorem fp78_0 : fieldAddrD Zs 78 0 (.ptr r o') = some (.ptr r (o' + 0)) := by simp [fieldAddrD, fieldOf, tz78, tz9]
theorem fl78_0 : fieldD Zs 78 0 (.agg cs) = cs[0]? := by simp [fieldD, fieldOf, tz78, tz9, partD, TInfo.isAgg]
theorem fa78_1 : fieldAddrD Zs 78 1 (.at cs) = some (.at (cs.drop 1)) := by simp [fieldAddrD, fieldOf, tz78, tz9]
theorem fp78_1 : fieldAddrD Zs 78 1 (.ptr r o') = some (.ptr r (o' + 1)) := by simp [fieldAddrD, fieldOf, tz78, tz9]
theorem fl78_1 : fieldD Zs 78 1 (.agg cs) = cs[1]? := by simp [fieldD, fieldOf, tz78, tz9, partD, TInfo.isAgg]
theorem ld79 : loadD Zs g 79 (.at cs) = if 2 ≤ cs.length then some (.agg (cs.take 2)) else none := by first | (simp only [loadD, tz79, pack, TInfo.isAgg, if_true]; done) | (simp only [loadD, tz79, pack, TInfo.isAgg, if_true]; rfl)
theorem lp79 : loadD Zs g 79 (.ptr r off) = match g r with | some (.cells _ cs) => (if 2 ≤ (cs.drop off).length then some (.agg ((cs.drop off).take 2)) else none) | _ => none := by first | (simp only [loadD, tz79, pack, TInfo.isAgg, if_true]; done) | (simp only [loadD, tz79, pack, TInfo.isAgg, if_true]; rfl)
theorem so79 : storeE Zs g 79 (.ptr r off) y = match y.cells with | some ys => (match g r with | some (.cells e cs) => if ys.length = 2 ∧ off + ys.length ≤ cs.length then some (.put r (.cells e (splice cs off ys))) else none | _ => none) | _ => none := by simp only [storeE, tz79]; cases y.cells <;> rfl
theorem al79 : allocR Zs 79 = some (.new (.cells 79 [.str ⟨#[]⟩, .str ⟨#[]⟩])) := by rfl
theorem mi79 : ifaceD Zs 79 x = some (.iface 79 x) := by first | (simp only [ifaceD, tz79]; done) | (simp only [ifaceD, tz79]; rfl)
theorem fa79_0 : fieldAddrD Zs 79 0 (.at cs) = some (.at (cs.drop 0)) := by simp [fieldAddrD, fieldOf, tz79, tz9]
theorem fp79_0 : fieldAddrD Zs 79 0 (.ptr r o') = some (.ptr r (o' + 0)) := by simp [fieldAddrD, fieldOf, tz79, tz9]
theorem fl79_0 : fieldD Zs 79 0 (.agg cs) = cs[0]? := by simp [fieldD, fieldOf, tz79, tz9, partD, TInfo.isAgg]
theorem fa79_1 : fieldAddrD Zs 79 1 (.at cs) = some (.at (cs.drop 1)) := by simp [fieldAddrD, fieldOf, tz79, tz9]
theorem fp79_1 : fieldAddrD Zs 79 1 (.ptr r o') = some (.ptr r (o' + 1)) := by simp [fieldAddrD, fieldOf, tz79, tz9]
theorem fl79_1 : fieldD Zs 79 1 (.agg cs) = cs[1]? := by simp [fieldD, fieldOf, tz79, tz9, partD, TInfo.isAgg]
theorem ld89 : loadD Zs g 89 (.at cs) = cs[0]? := by first | (simp only [loadD, tz89, pack, TInfo.isAgg, Bool.false_eq_true, if_false, List.head?_eq_getElem?]; done) | (simp only [loadD, tz89, pack, TInfo.isAgg, Bool.false_eq_true, if_false, List.head?_eq_getElem?]; rfl)
theorem lp89 : loadD Zs g 89 (.ptr r off) = match g r with | some (.cells _ cs) => cs[off]? | _ => none := by first | (simp only [loadD, tz89, pack, TInfo.isAgg, Bool.false_eq_true, if_false, List.head?_drop]; done) | (simp only [loadD, tz89, pack, TInfo.isAgg, Bool.false_eq_true, if_false, List.head?_drop]; rfl)
theorem so89 : storeE Zs g 89 (.ptr r off) y = match y.cells with | some ys => (match g r with | some (.cells e cs) => if ys.length = 1 ∧ off + ys.length ≤ cs.length then some (.put r (.cells e (splice cs off ys))) else none | _ => none) | _ => none := by simp only [storeE, tz89]; cases y.cells <;> rfl
theorem al89 : allocR Zs 89 = some (.new (.cells 89 [.int .u64 0])) := by rfl
theorem mi89 : ifaceD Zs 89 x = some (.iface 89 x) := by first | (simp only [ifaceD, tz89]; done) | (simp only [ifaceD, tz89]; rfl)
theorem ld92 : loadD Zs g 92 (.at cs) = cs[0]? := by first | (simp only [loadD, tz92, pack, TInfo.isAgg, Bool.false_eq_true, if_false, List.head?_eq_getElem?]; done) | (simp only [loadD, tz92, pack, TInfo.isAgg, Bool.false_eq_true, if_false, List.head?_eq_getElem?]; rfl)
theorem lp92 : loadD Zs g 92 (.ptr r off) = match g r with | some (.cells _ cs) => cs[off]? | _ => none := by first | (simp only [loadD, tz92, pack, TInfo.isAgg, Bool.false_eq_true, if_false, List.head?_drop]; done) | (simp only [loadD, tz92, pack, TInfo.isAgg, Bool.false_eq_true, if_false, List.head?_drop]; rfl)
theorem so92 : storeE Zs g 92 (.ptr r off) y = match y.cells with | some ys => (match g r with | some (.cells e cs) => if ys.length = 1 ∧ off + ys.length ≤ cs.length then some (.put r (.cells e (splice cs off ys))) else none | _ => none) | _ => none := by simp only [storeE, tz92]; cases y.cells <;> rfl
theorem al92 : allocR Zs 92 = some (.new (.cells 92 [.nilptr])) := by rfl
theorem mi92 : ifaceD Zs 92 x = some (.iface 92 x) := by first | (simp only [ifaceD, tz92]; done) | (simp only [ifaceD, tz92]; rfl)
theorem peql92 : binD Zs .eql 92 (.ptr r off) .nilptr = some (.bool false) := by simp [binD, isNum, eqT, tz92]
theorem paeql92 : binD Zs .eql 92 (.at cs) .nilptr = some (.bool false) := by simp [binD, isNum, eqT, tz92]
theorem pneql92 : binD Zs .eql 92 .nilptr .nilptr = some (.bool true) := by simp [binD, isNum, eqT, tz92]
theorem pneq92 : binD Zs .neq 92 (.ptr r off) .nilptr = some (.bool true) := by simp [binD, isNum, eqT, tz92]
theorem paneq92 : binD Zs .neq 92 (.at cs) .nilptr = some (.bool true) := by simp [binD, isNum, eqT, tz92]
theorem pnneq92 : binD Zs .neq 92 .nilptr .nilptr = some (.bool false) := by simp [binD, isNum, eqT, tz92]
theorem ld93 : loadD Zs g 93 (.at cs) = cs[0]? := by first | (simp only [loadD, tz93, pack, TInfo.isAgg, Bool.false_eq_true, if_false, List.head?_eq_getElem?]; done) | (simp only [loadD, tz93, pack, TInfo.isAgg, Bool.false_eq_true, if_false, List.head?_eq_getElem?]; rfl)
theorem lp93 : loadD Zs g 93 (.ptr r off) = match g r with | some (.cells _ cs) => cs[off]? | _ => none := by first | (simp only [loadD, tz93, pack, TInfo.isAgg, Bool.false_eq_true, if_false, List.head?_drop]; done) | (simp only [loadD, tz93, pack, TInfo.isAgg, Bool.false_eq_true, if_false, List.head?_drop]; rfl)
theorem so93 : storeE Zs g 93 (.ptr r off) y = match y.cells with | some ys => (match g r with | some (.cells e cs) => if ys.length = 1 ∧ off + ys.length ≤ cs.length then some (.put r (.cells e (splice cs off ys))) else none | _ => none) | _ => none := by simp only [storeE, tz93]; cases y.cells <;> rfl
theorem al93 : allocR Zs 93 = some (.new (.cells 93 [.sl .nil 0 []])) := by rfl
theorem mi93 : ifaceD Zs 93 x = some (.iface 93 x) := by first | (simp only [ifaceD, tz93]; done) | (simp only [ifaceD, tz93]; rfl)
theorem mk93 {k' : IntKind} {m : Int} : makeSliceR Zs 0 93 (.int k i) (.int k' m) nx = if 0 ≤ i ∧ i ≤ m ∧ ((1 : Nat) : Int) * m ≤ 281474976710656 ∧ m ≤ (big : Int) then some (.row nx 0 i.toNat (some m.toNat) 1, .new (.cells 5 (List.replicate m.toNat (.int .u8 0)))) else none := by exact mk_one tz93 tz5 rfl rfl rfl
theorem bs93_1 : buildSliceR Zs 0 93 1 [(0, x)] nx = lit1 x := by exact build1 tz93 tz5 rfl rfl rfl
theorem bs93_2 : buildSliceR Zs 0 93 2 [(0, x), (1, y)] nx = lit2 x y := by exact build2 tz93 tz5 rfl rfl rfl
theorem bs93_3 : buildSliceR Zs 0 93 3 [(0, x), (1, y), (2, x3)] nx = lit3 x y x3 := by exact build3 tz93 tz5 rfl rfl rfl
theorem ln93 : lenD Zs g #[93] (.sl o n cs) = some (.int .i64 n) := by simp [lenD, tz93]
theorem cpn93 : capD Zs #[93] (.sl .nil n cs) = some (.int .i64 0) := by simp [capD, tz93]
theorem cpr93 {kk z0 : Nat} : capD Zs #[93] (.row r off n (some kk) z0) = some (.int .i64 kk) := by simp [capD, tz93]
theorem lr93 {c0 : Option Nat} {z0 : Nat} : lenD Zs g #[93] (.row r off n c0 z0) = some (.int .i64 n) := by simp [lenD, tz93]
theorem ix93 : indexAddrD Zs 93 (.sl o n cs) (.int k i) = if (0 ≤ i ∧ i < n) ∧ 0 < cs.length then some (.at (cs.drop (i.toNat))) else none := by first | (simp only [indexAddrD, tz93, tz5, Nat.mul_one]; done) | (simp only [indexAddrD, tz93, tz5, Nat.mul_one]; rfl)
theorem ir93 {c0 : Option Nat} {z0 : Nat} : indexAddrD Zs 93 (.row r off n c0 z0) (.int k i) = if 0 ≤ i ∧ i < n then some (.ptr r (off + i.toNat)) else none := by first | (simp only [indexAddrD, tz93, tz5, Nat.mul_one]; done) | (simp only [indexAddrD, tz93, tz5, Nat.mul_one]; rfl)
theorem sl93 : sliceD Zs g 93 (.sl o n cs) lo hi none = match bound lo 0, bound hi n with | some l, some h => if 0 ≤ l ∧ l ≤ h ∧ h ≤ n ∧ cs.length = n then some (.sl (cutOwn o) (h.toNat - l.toNat) ((cs.drop (l.toNat)).take ((h.toNat - l.toNat)))) else none | _, _ => none := by simp only [sliceD, tz93, tz5, Nat.mul_one]; cases bound lo 0 <;> cases bound hi n <;> simp only [Nat.mul_one]
theorem en93 : binD Zs .eql 93 (.sl o n cs) (.sl .nil n' cs') = (nilOf o n).map .bool := by simp [binD, isNum, eqT, tz93]
theorem enr93 {c0 : Option Nat} {z0 : Nat} : binD Zs .eql 93 (.row r off n c0 z0) (.sl .nil n' cs') = some (.bool false) := by simp [binD, isNum, eqT, tz93]
theorem nn93 : binD Zs .neq 93 (.sl o n cs) (.sl .nil n' cs') = (nilOf o n).map fun b => .bool (!b) := by simp [binD, isNum, eqT, tz93]
theorem nnr93 {c0 : Option Nat} {z0 : Nat} : binD Zs .neq 93 (.row r off n c0 z0) (.sl .nil n' cs') = some (.bool true) := by simp [binD, isNum, eqT, tz93]
theorem ld94 : loadD Zs g 94 (.at cs) = if 2 ≤ cs.length then some (.agg (cs.take 2)) else none := by first | (simp only [loadD, tz94, pack, TInfo.isAgg, if_true]; done) | (simp only [loadD, tz94, pack, TInfo.isAgg, if_true]; rfl)
theorem lp94 : loadD Zs g 94 (.ptr r off) = match g r with | some (.cells _ cs) => (if 2 ≤ (cs.drop off).length then some (.agg ((cs.drop off).take 2)) else none) | _ => none := by first | (simp only [loadD, tz94, pack, TInfo.isAgg, if_true]; done) | (simp only [loadD, tz94, pack, TInfo.isAgg, if_true]; rfl)
theorem so94 : storeE Zs g 94 (.ptr r off) y = match y.cells with | some ys => (match g r with | some (.cells e cs) => if ys.length = 2 ∧ off + ys.length ≤ cs.length then some (.put r (.cells e (splice cs off ys))) else none | _ => none) | _ => none := by simp only [storeE, tz94]; cases y.cells <;> rfl
theorem al94 : allocR Zs 94 = some (.new (.cells 94 [.nilptr, .sl .nil 0 []])) := by rfl
theorem mi94 : ifaceD Zs 94 x = some (.iface 94 x) := by first | (simp only [ifaceD, tz94]; done) | (simp only [ifaceD, tz94]; rfl)
theorem fa94_0 : fieldAddrD Zs 94 0 (.at cs) = some (.at (cs.drop 0)) := by simp [fieldAddrD, fieldOf, tz94, tz92]
theorem fp94_0 : fieldAddrD Zs 94 0 (.ptr r o') = some (.ptr r (o' + 0)) := by simp [fieldAddrD, fieldOf, tz94, tz92]
theorem fl94_0 : fieldD Zs 94 0 (.agg cs) = cs[0]? := by simp [fieldD, fieldOf, tz94, tz92, partD, TInfo.isAgg]
theorem fa94_1 : fieldAddrD Zs 94 1 (.at cs) = some (.at (cs.drop 1)) := by simp [fieldAddrD, fieldOf, tz94, tz93]
theorem fp94_1 : fieldAddrD Zs 94 1 (.ptr r o') = some (.ptr r (o' + 1)) := by simp [fieldAddrD, fieldOf, tz94, tz93]
theorem fl94_1 : fieldD Zs 94 1 (.agg cs) = cs[1]? := by simp [fieldD, fieldOf, tz94, tz93, partD, TInfo.isAgg]
theorem ld95 : loadD Zs g 95 (.at cs) = if 2 ≤ cs.length then some (.agg (cs.take 2)) else none := by first | (simp only [loadD, tz95, pack, TInfo.isAgg, if_true]; done) | (simp only [loadD, tz95, pack, TInfo.isAgg, if_true]; rfl)
theorem lp95 : loadD Zs g 95 (.ptr r off) = match g r with | some (.cells _ cs) => (if 2 ≤ (cs.drop off).length then some (.agg ((cs.drop off).take 2)) else none) | _ => none := by first | (simp only [loadD, tz95, pack, TInfo.isAgg, if_true]; done) | (simp only [loadD, tz95, pack, TInfo.isAgg, if_true]; rfl)
theorem so95 : storeE Zs g 95 (.ptr r off) y = match y.cells with | some ys => (match g r with | some (.cells e cs) => if ys.length = 2 ∧ off + ys.length ≤ cs.length then some (.put r (.cells e (splice cs off ys))) else none | _ => none) | _ => none := by simp only [storeE, tz95]; cases y.cells <;> rfl
theorem al95 : allocR Zs 95 = some (.new (.cells 95 [.nilptr, .sl .nil 0 []])) := by rfl
theorem mi95 : ifaceD Zs 95 x = some (.iface 95 x) := by first | (simp only [ifaceD, tz95]; done) | (simp only [ifaceD, tz95]; rfl)
theorem fa95_0 : fieldAddrD Zs 95 0 (.at cs) = some (.at (cs.drop 0)) := by simp [fieldAddrD, fieldOf, tz95, tz92]
theorem fp95_0 : fieldAddrD Zs 95 0 (.ptr r o') = some (.ptr r (o' + 0)) := by simp [fieldAddrD, fieldOf, tz95, tz92]
theorem fl95_0 : fieldD Zs 95 0 (.agg cs) = cs[0]? := by simp [fieldD, fieldOf, tz95, tz92, partD, TInfo.isAgg]
theorem fa95_1 : fieldAddrD Zs 95 1 (.at cs) = some (.at (cs.drop 1)) := by simp [fieldAddrD, fieldOf, tz95, tz93]
theorem fp95_1 : fieldAddrD Zs 95 1 (.ptr r o') = some (.ptr r (o' + 1)) := by simp [fieldAddrD, fieldOf, tz95, tz93]
theorem fl95_1 : fieldD Zs 95 1 (.agg cs) = cs[1]? := by simp [fieldD, fieldOf, tz95, tz93, partD, TInfo.isAgg]
theorem ld106 : loadD Zs g 106 (.at cs) = cs[0]? := by first | (simp only [loadD, tz106, pack, TInfo.isAgg, Bool.false_eq_true, if_false, List.head?_eq_getElem?]; done) | (simp only [loadD, tz106, pack, TInfo.isAgg, Bool.false_eq_true, if_false, List.head?_eq_getElem?]; rfl)
theorem lp106 : loadD Zs g 106 (.ptr r off) = match g r with | some (.cells _ cs) => cs[off]? | _ => none := by first | (simp only [loadD, tz106, pack, TInfo.isAgg, Bool.false_eq_true, if_false, List.head?_drop]; done) | (simp only [loadD, tz106, pack, TInfo.isAgg, Bool.false_eq_true, if_false, List.head?_drop]; rfl)
theorem so106 : storeE Zs g 106 (.ptr r off) y = match y.cells with | some ys => (match g r with | some (.cells e cs) => if ys.length = 1 ∧ off + ys.length ≤ cs.length then some (.put r (.cells e (splice cs off ys))) else none | _ => none) | _ => none := by simp only [storeE, tz106]; cases y.cells <;> rfl
theorem al106 : allocR Zs 106 = some (.new (.cells 106 [.int .i64 0])) := by rfl
theorem mi106 : ifaceD Zs 106 x = some (.iface 106 x) := by first | (simp only [ifaceD, tz106]; done) | (simp only [ifaceD, tz106]; rfl)
theorem ld114 : loadD Zs g 114 (.at cs) = cs[0]? := by first | (simp only [loadD, tz114, pack, TInfo.isAgg, Bool.false_eq_true, if_false, List.head?_eq_getElem?]; done) | (simp only [loadD, tz114, pack, TInfo.isAgg, Bool.false_eq_true, if_false, List.head?_eq_getElem?]; rfl)
theorem lp114 : loadD Zs g 114 (.ptr r off) = match g r with | some (.cells _ cs) => cs[off]? | _ => none := by first | (simp only [loadD, tz114, pack, TInfo.isAgg, Bool.false_eq_true, if_false, List.head?_drop]; done) | (simp only [loadD, tz114, pack, TInfo.isAgg, Bool.false_eq_true, if_false, List.head?_drop]; rfl)
theorem so114 : storeE Zs g 114 (.ptr r off) y = match y.cells with | some ys => (match g r with | some (.cells e cs) => if ys.length = 1 ∧ off + ys.length ≤ cs.length then some (.put r (.cells e (splice cs off ys))) else none | _ => none) | _ => none := by simp only [storeE, tz114]; cases y.cells <;> rfl
theorem al114 : allocR Zs 114 = some (.new (.cells 114 [.int .u32 0])) := by rfl
theorem mi114 : ifaceD Zs 114 x = some (.iface 114 x) := by first | (simp only [ifaceD, tz114]; done) | (simp only [ifaceD, tz114]; rfl)
theorem ld116 : loadD Zs g 116 (.at cs) = cs[0]? := by first | (simp only [loadD, tz116, pack, TInfo.isAgg, Bool.false_eq_true, if_false, List.head?_eq_getElem?]; done) | (simp only [loadD, tz116, pack, TInfo.isAgg, Bool.false_eq_true, if_false, List.head?_eq_getElem?]; rfl)
theorem lp116 : loadD Zs g 116 (.ptr r off) = match g r with | some (.cells _ cs) => cs[off]? | _ => none := by first | (simp only [loadD, tz116, pack, TInfo.isAgg, Bool.false_eq_true, if_false, List.head?_drop]; done) | (simp only [loadD, tz116, pack, TInfo.isAgg, Bool.false_eq_true, if_false, List.head?_drop]; rfl)
theorem so116 : storeE Zs g 116 (.ptr r off) y = match y.cells with | some ys => (match g r with | some (.cells e cs) => if ys.length = 1 ∧ off + ys.length ≤ cs.length then some (.put r (.cells e (splice cs off ys))) else none | _ => none) | _ => none := by simp only [storeE, tz116]; cases y.cells <;> rfl
theorem al116 : allocR Zs 116 = some (.new (.cells 116 [.int .u64 0])) := by rfl
theorem mi116 : ifaceD Zs 116 x = some (.iface 116 x) := by first | (simp only [ifaceD, tz116]; done) | (simp only [ifaceD, tz116]; rfl)
theorem ld117 : loadD Zs g 117 (.at cs) = cs[0]? := by first | (simp only [loadD, tz117, pack, TInfo.isAgg, Bool.false_eq_true, if_false, List.head?_eq_getElem?]; done) | (simp only [loadD, tz117, pack, TInfo.isAgg, Bool.false_eq_true, if_false, List.head?_eq_getElem?]; rfl)
theorem lp117 : loadD Zs g 117 (.ptr r off) = match g r with | some (.cells _ cs) => cs[off]? | _ => none := by first | (simp only [loadD, tz117, pack, TInfo.isAgg, Bool.false_eq_true, if_false, List.head?_drop]; done) | (simp only [loadD, tz117, pack, TInfo.isAgg, Bool.false_eq_true, if_false, List.head?_drop]; rfl)
theorem so117 : storeE Zs g 117 (.ptr r off) y = match y.cells with | some ys => (match g r with | some (.cells e cs) => if ys.length = 1 ∧ off + ys.length ≤ cs.length then some (.put r (.cells e (splice cs off ys))) else none | _ => none) | _ => none := by simp only [storeE, tz117]; cases y.cells <;> rfl
theorem al117 : allocR Zs 117 = some (.new (.cells 117 [.nilptr])) := by rfl
theorem mi117 : ifaceD Zs 117 x = some (.iface 117 x) := by first | (simp only [ifaceD, tz117]; done) | (simp only [ifaceD, tz117]; rfl)
theorem peql117 : binD Zs .eql 117 (.ptr r off) .nilptr = some (.bool false) := by simp [binD, isNum, eqT, tz117]
theorem paeql117 : binD Zs .eql 117 (.at cs) .nilptr = some (.bool false) := by simp [binD, isNum, eqT, tz117]
theorem pneql117 : binD Zs .eql 117 .nilptr .nilptr = some (.bool true) := by simp [binD, isNum, eqT, tz117]
theorem pneq117 : binD Zs .neq 117 (.ptr r off) .nilptr = some (.bool true) := by simp [binD, isNum, eqT, tz117]
theorem paneq117 : binD Zs .neq 117 (.at cs) .nilptr = some (.bool true) := by simp [binD, isNum, eqT, tz117]
theorem pnneq117 : binD Zs .neq 117 .nilptr .nilptr = some (.bool false) := by simp [binD, isNum, eqT, tz117]
theorem ld118 : loadD Zs g 118 (.at cs) = cs[0]? := by first | (simp only [loadD, tz118, pack, TInfo.isAgg, Bool.false_eq_true, if_false, List.head?_eq_getElem?]; done) | (simp only [loadD, tz118, pack, TInfo.isAgg, Bool.false_eq_true, if_false, List.head?_eq_getElem?]; rfl)
theorem lp118 : loadD Zs g 118 (.ptr r off) = match g r with | some (.cells _ cs) => cs[off]? | _ => none := by first | (simp only [loadD, tz118, pack, TInfo.isAgg, Bool.false_eq_true, if_false, List.head?_drop]; done) | (simp only [loadD, tz118, pack, TInfo.isAgg, Bool.false_eq_true, if_false, List.head?_drop]; rfl)
theorem so118 : storeE Zs g 118 (.ptr r off) y = match y.cells with | some ys => (match g r with | some (.cells e cs) => if ys.length = 1 ∧ off + ys.length ≤ cs.length then some (.put r (.cells e (splice cs off ys))) else none | _ => none) | _ => none := by simp only [storeE, tz118]; cases y.cells <;> rfl
theorem al118 : allocR Zs 118 = some (.new (.cells 118 [.int .u64 0])) := by rfl
theorem mi118 : ifaceD Zs 118 x = some (.iface 118 x) := by first | (simp only [ifaceD, tz118]; done) | (simp only [ifaceD, tz118]; rfl)
theorem ld122 : loadD Zs g 122 (.at cs) = cs[0]? := by first | (simp only [loadD, tz122, pack, TInfo.isAgg, Bool.false_eq_true, if_false, List.head?_eq_getElem?]; done) | (simp only [loadD, tz122, pack, TInfo.isAgg, Bool.false_eq_true, if_false, List.head?_eq_getElem?]; rfl)
theorem lp122 : loadD Zs g 122 (.ptr r off) = match g r with | some (.cells _ cs) => cs[off]? | _ => none := by first | (simp only [loadD, tz122, pack, TInfo.isAgg, Bool.false_eq_true, if_false, List.head?_drop]; done) | (simp only [loadD, tz122, pack, TInfo.isAgg, Bool.false_eq_true, if_false, List.head?_drop]; rfl)
theorem so122 : storeE Zs g 122 (.ptr r off) y = match y.cells with | some ys => (match g r with | some (.cells e cs) => if ys.length = 1 ∧ off + ys.length ≤ cs.length then some (.put r (.cells e (splice cs off ys))) else none | _ => none) | _ => none := by simp only [storeE, tz122]; cases y.cells <;> rfl
theorem al122 : allocR Zs 122 = some (.new (.cells 122 [.nilptr])) := by rfl
theorem mi122 : ifaceD Zs 122 x = some (.iface 122 x) := by first | (simp only [ifaceD, tz122]; done) | (simp only [ifaceD, tz122]; rfl)
theorem peql122 : binD Zs .eql 122 (.ptr r off) .nilptr = some (.bool false) := by simp [binD, isNum, eqT, tz122]
theorem paeql122 : binD Zs .eql 122 (.at cs) .nilptr = some (.bool false) := by simp [binD, isNum, eqT, tz122]
theorem pneql122 : binD Zs .eql 122 .nilptr .nilptr = some (.bool true) := by simp [binD, isNum, eqT, tz122]
theorem pneq122 : binD Zs .neq 122 (.ptr r off) .nilptr = some (.bool true) := by simp [binD, isNum, eqT, tz122]
theorem paneq122 : binD Zs .neq 122 (.at cs) .nilptr = some (.bool true) := by simp [binD, isNum, eqT, tz122]
theorem pnneq122 : binD Zs .neq 122 .nilptr .nilptr = some (.bool false) := by simp [binD, isNum, eqT, tz122]
theorem ld124 : loadD Zs g 124 (.at cs) = cs[0]? := by first | (simp only [loadD, tz124, pack, TInfo.isAgg, Bool.false_eq_true, if_false, List.head?_eq_getElem?]; done) | (simp only [loadD, tz124, pack, TInfo.isAgg, Bool.false_eq_true, if_false, List.head?_eq_getElem?]; rfl)
theorem lp124 : loadD Zs g 124 (.ptr r off) = match g r with | some (.cells _ cs) => cs[off]? | _ => none := by first | (simp only [loadD, tz124, pack, TInfo.isAgg, Bool.false_eq_true, if_false, List.head?_drop]; done) | (simp only [loadD, tz124, pack, TInfo.isAgg, Bool.false_eq_true, if_false, List.head?_drop]; rfl)
theorem so124 : storeE Zs g 124 (.ptr r off) y = match y.cells with | some ys => (match g r with | some (.cells e cs) => if ys.length = 1 ∧ off + ys.length ≤ cs.length then some (.put r (.cells e (splice cs off ys))) else none | _ => none) | _ => none := by simp only [storeE, tz124]; cases y.cells <;> rfl
theorem al124 : allocR Zs 124 = some (.new (.cells 124 [.nilptr])) := by rfl
theorem mi124 : ifaceD Zs 124 x = some (.iface 124 x) := by first | (simp only [ifaceD, tz124]; done) | (simp only [ifaceD, tz124]; rfl)
theorem cv3_89 : convD Zs 3 89 (.int k i) = some (.int .u64 (IntKind.wrap .u64 i)) := by first | (simp only [convD, tz3, tz89]; done) | (simp only [convD, tz3, tz89]; rfl)
theorem cv3_118 : convD Zs 3 118 (.int k i) = some (.int .u64 (IntKind.wrap .u64 i)) := by first | (simp only [convD, tz3, tz118]; done) | (simp only [convD, tz3, tz118]; rfl)
theorem cv5_3 : convD Zs 5 3 (.int k i) = some (.int .i64 (IntKind.wrap .i64 i)) := by first | (simp only [convD, tz5, tz3]; done) | (simp only [convD, tz5, tz3]; rfl)
theorem cv89_3 : convD Zs 89 3 (.int k i) = some (.int .i64 (IntKind.wrap .i64 i)) := by first | (simp only [convD, tz89, tz3]; done) | (simp only [convD, tz89, tz3]; rfl)
theorem cv89_114 : convD Zs 89 114 (.int k i) = some (.int .u32 (IntKind.wrap .u32 i)) := by first | (simp only [convD, tz89, tz114]; done) | (simp only [convD, tz89, tz114]; rfl)
theorem cv114_5 : convD Zs 114 5 (.int k i) = some (.int .u8 (IntKind.wrap .u8 i)) := by first | (simp only [convD, tz114, tz5]; done) | (simp only [convD, tz114, tz5]; rfl)
theorem cv116_5 : convD Zs 116 5 (.int k i) = some (.int .u8 (IntKind.wrap .u8 i)) := by first | (simp only [convD, tz116, tz5]; done) | (simp only [convD, tz116, tz5]; rfl)
theorem co0 : ofV (.string ⟨#[115, 116, 114, 105, 110, 103, 115, 46, 66, 117, 105, 108, 100, 101, 114, 46, 71, 114, 111, 119, 58, 32, 110, 101, 103, 97, 116, 105, 118, 101, 32, 99, 111, 117, 110, 116]⟩) = .str ⟨#[115, 116, 114, 105, 110, 103, 115, 46, 66, 117, 105, 108, 100, 101, 114, 46, 71, 114, 111, 119, 58, 32, 110, 101, 103, 97, 116, 105, 118, 101, 32, 99, 111, 117, 110, 116]⟩ := (rfl)
theorem co1 : ofV (.string ⟨#[115, 116, 114, 105, 110, 103, 115, 58, 32, 74, 111, 105, 110, 32, 111, 117, 116, 112, 117, 116, 32, 108, 101, 110, 103, 116, 104, 32, 111, 118, 101, 114, 102, 108, 111, 119]⟩) = .str ⟨#[115, 116, 114, 105, 110, 103, 115, 58, 32, 74, 111, 105, 110, 32, 111, 117, 116, 112, 117, 116, 32, 108, 101, 110, 103, 116, 104, 32, 111, 118, 101, 114, 102, 108, 111, 119]⟩ := (rfl)
theorem co2 : ofV (.string ⟨#[32]⟩) = .str ⟨#[32]⟩ := (rfl)
theorem co3 : ofV (.string ⟨#[78]⟩) = .str ⟨#[78]⟩ := (rfl)
theorem co4 : ofV (.string ⟨#[86]⟩) = .str ⟨#[86]⟩ := (rfl)
theorem co5 : ofV (.string ⟨#[97]⟩) = .str ⟨#[97]⟩ := (rfl)
theorem co6 : ofV (.string ⟨#[98]⟩) = .str ⟨#[98]⟩ := (rfl)
theorem co7 : ofV (.string ⟨#[]⟩) = .str ⟨#[]⟩ := (rfl)
end
end Go.Proofs.Ythchlpikcpidaaa.Vs
