/- Operations at the seat's types, written by dgen.py. -/
import Derived.Test.YtapkbkniooleaaaDmTy
import Derived.Test.YtapkbkniooleaaaDmLib
namespace Go.Proofs.Ytapkbkniooleaaa.Vs
set_option linter.unusedVariables false
set_option linter.unusedSimpArgs false
set_option maxRecDepth 100000
section
variable {g : Nat → Option AO} {cs cs' : List D} {x y x3 : D} {o : Own} {n n' nx : Nat} {r off o' : Nat} {i : Int} {k : IntKind} {s : ByteArray} {lo hi : Option D}
theorem ld3 : loadD Zs g 3 (.at cs) = cs[0]? := by first | (simp only [loadD, tz3, pack, TInfo.isAgg, Bool.false_eq_true, if_false, List.head?_eq_getElem?]; done) | (simp only [loadD, tz3, pack, TInfo.isAgg, Bool.false_eq_true, if_false, List.head?_eq_getElem?]; rfl)
theorem lp3 : loadD Zs g 3 (.ptr r off) = match g r with | some (.cells _ cs) => cs[off]? | _ => none := by first | (simp only [loadD, tz3, pack, TInfo.isAgg, Bool.false_eq_true, if_false, List.head?_drop]; done) | (simp only [loadD, tz3, pack, TInfo.isAgg, Bool.false_eq_true, if_false, List.head?_drop]; rfl)
theorem so3 : storeE Zs g 3 (.ptr r off) y = match y.cells with | some ys => (match g r with | some (.cells e cs) => if ys.length = 1 ∧ off + ys.length ≤ cs.length then some (.put r (.cells e (splice cs off ys))) else none | _ => none) | _ => none := by simp only [storeE, tz3]; cases y.cells <;> rfl
theorem al3 : allocR Zs 3 = some (.new (.cells 3 [.int .i64 0])) := by rfl
theorem mi3 : ifaceD Zs 3 x = some (.iface 3 x) := by first | (simp only [ifaceD, tz3]; done) | (simp only [ifaceD, tz3]; rfl)
theorem ld4 : loadD Zs g 4 (.at cs) = cs[0]? := by first | (simp only [loadD, tz4, pack, TInfo.isAgg, Bool.false_eq_true, if_false, List.head?_eq_getElem?]; done) | (simp only [loadD, tz4, pack, TInfo.isAgg, Bool.false_eq_true, if_false, List.head?_eq_getElem?]; rfl)
theorem lp4 : loadD Zs g 4 (.ptr r off) = match g r with | some (.cells _ cs) => cs[off]? | _ => none := by first | (simp only [loadD, tz4, pack, TInfo.isAgg, Bool.false_eq_true, if_false, List.head?_drop]; done) | (simp only [loadD, tz4, pack, TInfo.isAgg, Bool.false_eq_true, if_false, List.head?_drop]; rfl)
theorem so4 : storeE Zs g 4 (.ptr r off) y = match y.cells with | some ys => (match g r with | some (.cells e cs) => if ys.length = 1 ∧ off + ys.length ≤ cs.length then some (.put r (.cells e (splice cs off ys))) else none | _ => none) | _ => none := by simp only [storeE, tz4]; cases y.cells <;> rfl
theorem al4 : allocR Zs 4 = some (.new (.cells 4 [.bool false])) := by rfl
theorem mi4 : ifaceD Zs 4 x = some (.iface 4 x) := by first | (simp only [ifaceD, tz4]; done) | (simp only [ifaceD, tz4]; rfl)
theorem bq4 {a b : Bool} : binD Zs .eql 4 (.bool a) (.bool b) = some (.bool (a == b)) := by simp [binD, isNum, eqT, tz4, eqS]
theorem bn4 {a b : Bool} : binD Zs .neq 4 (.bool a) (.bool b) = some (.bool (!(a == b))) := by simp [binD, isNum, eqT, tz4, eqS]
theorem ld5 : loadD Zs g 5 (.at cs) = cs[0]? := by first | (simp only [loadD, tz5, pack, TInfo.isAgg, Bool.false_eq_true, if_false, List.head?_eq_getElem?]; done) | (simp only [loadD, tz5, pack, TInfo.isAgg, Bool.false_eq_true, if_false, List.head?_eq_getElem?]; rfl)
theorem lp5 : loadD Zs g 5 (.ptr r off) = match g r with | some (.cells _ cs) => cs[off]? | _ => none := by first | (simp only [loadD, tz5, pack, TInfo.isAgg, Bool.false_eq_true, if_false, List.head?_drop]; done) | (simp only [loadD, tz5, pack, TInfo.isAgg, Bool.false_eq_true, if_false, List.head?_drop]; rfl)
theorem so5 : storeE Zs g 5 (.ptr r off) y = match y.cells with | some ys => (match g r with | some (.cells e cs) => if ys.length = 1 ∧ off + ys.length ≤ cs.length then some (.put r (.cells e (splice cs off ys))) else none | _ => none) | _ => none := by simp only [storeE, tz5]; cases y.cells <;> rfl
theorem al5 : allocR Zs 5 = some (.new (.cells 5 [.int .u8 0])) := by rfl
theorem mi5 : ifaceD Zs 5 x = some (.iface 5 x) := by first | (simp only [ifaceD, tz5]; done) | (simp only [ifaceD, tz5]; rfl)
theorem ld9 : loadD Zs g 9 (.at cs) = cs[0]? := by first | (simp only [loadD, tz9, pack, TInfo.isAgg, Bool.false_eq_true, if_false, List.head?_eq_getElem?]; done) | (simp only [loadD, tz9, pack, TInfo.isAgg, Bool.false_eq_true, if_false, List.head?_eq_getElem?]; rfl)
theorem lp9 : loadD Zs g 9 (.ptr r off) = match g r with | some (.cells _ cs) => cs[off]? | _ => none := by first | (simp only [loadD, tz9, pack, TInfo.isAgg, Bool.false_eq_true, if_false, List.head?_drop]; done) | (simp only [loadD, tz9, pack, TInfo.isAgg, Bool.false_eq_true, if_false, List.head?_drop]; rfl)
theorem so9 : storeE Zs g 9 (.ptr r off) y = match y.cells with | some ys => (match g r with | some (.cells e cs) => if ys.length = 1 ∧ off + ys.length ≤ cs.length then some (.put r (.cells e (splice cs off ys))) else none | _ => none) | _ => none := by simp only [storeE, tz9]; cases y.cells <;> rfl
theorem al9 : allocR Zs 9 = some (.new (.cells 9 [.str ⟨#[]⟩])) := by rfl
theorem mi9 : ifaceD Zs 9 x = some (.iface 9 x) := by first | (simp only [ifaceD, tz9]; done) | (simp only [ifaceD, tz9]; rfl)
theorem ln9 : lenD Zs g #[9] (.str s) = some (.int .i64 s.size) := by simp [lenD, tz9]
theorem ie9 : indexD Zs 9 (.str s) (.int k i) = if 0 ≤ i ∧ i < s.size then some (.int .u8 (byteAt s i.toNat)) else none := by first | (simp only [indexD, tz9]; done) | (simp only [indexD, tz9]; rfl)
theorem sl9 : sliceD Zs g 9 (.str s) lo hi none = match bound lo 0, bound hi s.size with | some l, some h => if 0 ≤ l ∧ l ≤ h ∧ h ≤ s.size then some (.str (s.extract l.toNat h.toNat)) else none | _, _ => none := by first | (simp only [sliceD, tz9]; done) | (simp only [sliceD, tz9]; rfl)
theorem ld22 : loadD Zs g 22 (.at cs) = cs[0]? := by first | (simp only [loadD, tz22, pack, TInfo.isAgg, Bool.false_eq_true, if_false, List.head?_eq_getElem?]; done) | (simp only [loadD, tz22, pack, TInfo.isAgg, Bool.false_eq_true, if_false, List.head?_eq_getElem?]; rfl)
theorem lp22 : loadD Zs g 22 (.ptr r off) = match g r with | some (.cells _ cs) => cs[off]? | _ => none := by first | (simp only [loadD, tz22, pack, TInfo.isAgg, Bool.false_eq_true, if_false, List.head?_drop]; done) | (simp only [loadD, tz22, pack, TInfo.isAgg, Bool.false_eq_true, if_false, List.head?_drop]; rfl)
theorem so22 : storeE Zs g 22 (.ptr r off) y = match y.cells with | some ys => (match g r with | some (.cells e cs) => if ys.length = 1 ∧ off + ys.length ≤ cs.length then some (.put r (.cells e (splice cs off ys))) else none | _ => none) | _ => none := by simp only [storeE, tz22]; cases y.cells <;> rfl
theorem al22 : allocR Zs 22 = some (.new (.cells 22 [.sl .nil 0 []])) := by rfl
theorem mi22 : ifaceD Zs 22 x = some (.iface 22 x) := by first | (simp only [ifaceD, tz22]; done) | (simp only [ifaceD, tz22]; rfl)
theorem mk22 {k' : IntKind} {m : Int} : makeSliceR Zs 0 22 (.int k i) (.int k' m) nx = if 0 ≤ i ∧ i ≤ m ∧ ((16 : Nat) : Int) * m ≤ 281474976710656 ∧ m ≤ (big : Int) then some (.row nx 0 i.toNat (some m.toNat) 1, .new (.cells 9 (List.replicate m.toNat (.str ⟨#[]⟩)))) else none := by exact mk_one tz22 tz9 rfl rfl rfl
theorem bs22_1 : buildSliceR Zs 0 22 1 [(0, x)] nx = lit1 x := by exact build1 tz22 tz9 rfl rfl rfl
theorem bs22_2 : buildSliceR Zs 0 22 2 [(0, x), (1, y)] nx = lit2 x y := by exact build2 tz22 tz9 rfl rfl rfl
theorem bs22_3 : buildSliceR Zs 0 22 3 [(0, x), (1, y), (2, x3)] nx = lit3 x y x3 := by exact build3 tz22 tz9 rfl rfl rfl
theorem ln22 : lenD Zs g #[22] (.sl o n cs) = some (.int .i64 n) := by simp [lenD, tz22]
theorem cpn22 : capD Zs #[22] (.sl .nil n cs) = some (.int .i64 0) := by simp [capD, tz22]
theorem cpr22 {kk z0 : Nat} : capD Zs #[22] (.row r off n (some kk) z0) = some (.int .i64 kk) := by simp [capD, tz22]
theorem lr22 {c0 : Option Nat} {z0 : Nat} : lenD Zs g #[22] (.row r off n c0 z0) = some (.int .i64 n) := by simp [lenD, tz22]
theorem ix22 : indexAddrD Zs 22 (.sl o n cs) (.int k i) = if (0 ≤ i ∧ i < n) ∧ 0 < cs.length then some (.at (cs.drop (i.toNat))) else none := by first | (simp only [indexAddrD, tz22, tz9, Nat.mul_one]; done) | (simp only [indexAddrD, tz22, tz9, Nat.mul_one]; rfl)
theorem ir22 {c0 : Option Nat} {z0 : Nat} : indexAddrD Zs 22 (.row r off n c0 z0) (.int k i) = if 0 ≤ i ∧ i < n then some (.ptr r (off + i.toNat)) else none := by first | (simp only [indexAddrD, tz22, tz9, Nat.mul_one]; done) | (simp only [indexAddrD, tz22, tz9, Nat.mul_one]; rfl)
theorem sl22 : sliceD Zs g 22 (.sl o n cs) lo hi none = match bound lo 0, bound hi n with | some l, some h => if 0 ≤ l ∧ l ≤ h ∧ h ≤ n ∧ cs.length = n then some (.sl (cutOwn o) (h.toNat - l.toNat) ((cs.drop (l.toNat)).take ((h.toNat - l.toNat)))) else none | _, _ => none := by simp only [sliceD, tz22, tz9, Nat.mul_one]; cases bound lo 0 <;> cases bound hi n <;> simp only [Nat.mul_one]
theorem en22 : binD Zs .eql 22 (.sl o n cs) (.sl .nil n' cs') = (nilOf o n).map .bool := by simp [binD, isNum, eqT, tz22]
theorem enr22 {c0 : Option Nat} {z0 : Nat} : binD Zs .eql 22 (.row r off n c0 z0) (.sl .nil n' cs') = some (.bool false) := by simp [binD, isNum, eqT, tz22]
theorem nn22 : binD Zs .neq 22 (.sl o n cs) (.sl .nil n' cs') = (nilOf o n).map fun b => .bool (!b) := by simp [binD, isNum, eqT, tz22]
theorem nnr22 {c0 : Option Nat} {z0 : Nat} : binD Zs .neq 22 (.row r off n c0 z0) (.sl .nil n' cs') = some (.bool true) := by simp [binD, isNum, eqT, tz22]
theorem ld23 : loadD Zs g 23 (.at cs) = if 4 ≤ cs.length then some (.agg (cs.take 4)) else none := by first | (simp only [loadD, tz23, pack, TInfo.isAgg, if_true]; done) | (simp only [loadD, tz23, pack, TInfo.isAgg, if_true]; rfl)
theorem lp23 : loadD Zs g 23 (.ptr r off) = match g r with | some (.cells _ cs) => (if 4 ≤ (cs.drop off).length then some (.agg ((cs.drop off).take 4)) else none) | _ => none := by first | (simp only [loadD, tz23, pack, TInfo.isAgg, if_true]; done) | (simp only [loadD, tz23, pack, TInfo.isAgg, if_true]; rfl)
theorem so23 : storeE Zs g 23 (.ptr r off) y = match y.cells with | some ys => (match g r with | some (.cells e cs) => if ys.length = 4 ∧ off + ys.length ≤ cs.length then some (.put r (.cells e (splice cs off ys))) else none | _ => none) | _ => none := by simp only [storeE, tz23]; cases y.cells <;> rfl
theorem al23 : allocR Zs 23 = some (.new (.cells 23 [.sl .nil 0 [], .sl .nil 0 [], .sl .nil 0 [], .sl .nil 0 []])) := by rfl
theorem mi23 : ifaceD Zs 23 x = some (.iface 23 x) := by first | (simp only [ifaceD, tz23]; done) | (simp only [ifaceD, tz23]; rfl)
theorem fa23_0 : fieldAddrD Zs 23 0 (.at cs) = some (.at (cs.drop 0)) := by simp [fieldAddrD, fieldOf, tz23, tz22]
theorem fp23_0 : fieldAddrD Zs 23 0 (.ptr r o') = some (.ptr r (o' + 0)) := by simp [fieldAddrD, fieldOf, tz23, tz22]
theorem fl23_0 : fieldD Zs 23 0 (.agg cs) = cs[0]? := by simp [fieldD, fieldOf, tz23, tz22, partD, TInfo.isAgg]
theorem fa23_1 : fieldAddrD Zs 23 1 (.at cs) = some (.at (cs.drop 1)) := by simp [fieldAddrD, fieldOf, tz23, tz22]
theorem fp23_1 : fieldAddrD Zs 23 1 (.ptr r o') = some (.ptr r (o' + 1)) := by simp [fieldAddrD, fieldOf, tz23, tz22]
theorem fl23_1 : fieldD Zs 23 1 (.agg cs) = cs[1]? := by simp [fieldD, fieldOf, tz23, tz22, partD, TInfo.isAgg]
theorem fa23_2 : fieldAddrD Zs 23 2 (.at cs) = some (.at (cs.drop 2)) := by simp [fieldAddrD, fieldOf, tz23, tz22]
theorem fp23_2 : fieldAddrD Zs 23 2 (.ptr r o') = some (.ptr r (o' + 2)) := by simp [fieldAddrD, fieldOf, tz23, tz22]
theorem fl23_2 : fieldD Zs 23 2 (.agg cs) = cs[2]? := by simp [fieldD, fieldOf, tz23, tz22, partD, TInfo.isAgg]
theorem fa23_3 : fieldAddrD Zs 23 3 (.at cs) = some (.at (cs.drop 3)) := by simp [fieldAddrD, fieldOf, tz23, tz22]
theorem fp23_3 : fieldAddrD Zs 23 3 (.ptr r o') = some (.ptr r (o' + 3)) := by simp [fieldAddrD, fieldOf, tz23, tz22]
theorem fl23_3 : fieldD Zs 23 3 (.agg cs) = cs[3]? := by simp [fieldD, fieldOf, tz23, tz22, partD, TInfo.isAgg]
theorem ld24 : loadD Zs g 24 (.at cs) = if 4 ≤ cs.length then some (.agg (cs.take 4)) else none := by first | (simp only [loadD, tz24, pack, TInfo.isAgg, if_true]; done) | (simp only [loadD, tz24, pack, TInfo.isAgg, if_true]; rfl)
theorem lp24 : loadD Zs g 24 (.ptr r off) = match g r with | some (.cells _ cs) => (if 4 ≤ (cs.drop off).length then some (.agg ((cs.drop off).take 4)) else none) | _ => none := by first | (simp only [loadD, tz24, pack, TInfo.isAgg, if_true]; done) | (simp only [loadD, tz24, pack, TInfo.isAgg, if_true]; rfl)
theorem so24 : storeE Zs g 24 (.ptr r off) y = match y.cells with | some ys => (match g r with | some (.cells e cs) => if ys.length = 4 ∧ off + ys.length ≤ cs.length then some (.put r (.cells e (splice cs off ys))) else none | _ => none) | _ => none := by simp only [storeE, tz24]; cases y.cells <;> rfl
theorem al24 : allocR Zs 24 = some (.new (.cells 24 [.sl .nil 0 [], .sl .nil 0 [], .sl .nil 0 [], .sl .nil 0 []])) := by rfl
theorem mi24 : ifaceD Zs 24 x = some (.iface 24 x) := by first | (simp only [ifaceD, tz24]; done) | (simp only [ifaceD, tz24]; rfl)
theorem fa24_0 : fieldAddrD Zs 24 0 (.at cs) = some (.at (cs.drop 0)) := by simp [fieldAddrD, fieldOf, tz24, tz22]
theorem fp24_0 : fieldAddrD Zs 24 0 (.ptr r o') = some (.ptr r (o' + 0)) := by simp [fieldAddrD, fieldOf, tz24, tz22]
theorem fl24_0 : fieldD Zs 24 0 (.agg cs) = cs[0]? := by simp [fieldD, fieldOf, tz24, tz22, partD, TInfo.isAgg]
theorem fa24_1 : fieldAddrD Zs 24 1 (.at cs) = some (.at (cs.drop 1)) := by simp [fieldAddrD, fieldOf, tz24, tz22]
theorem fp24_1 : fieldAddrD Zs 24 1 (.ptr r o') = some (.ptr r (o' + 1)) := by simp [fieldAddrD, fieldOf, tz24, tz22]
theorem fl24_1 : fieldD Zs 24 1 (.agg cs) = cs[1]? := by simp [fieldD, fieldOf, tz24, tz22, partD, TInfo.isAgg]
theorem fa24_2 : fieldAddrD Zs 24 2 (.at cs) = some (.at (cs.drop 2)) := by simp [fieldAddrD, fieldOf, tz24, tz22]
theorem fp24_2 : fieldAddrD Zs 24 2 (.ptr r o') = some (.ptr r (o' + 2)) := by simp [fieldAddrD, fieldOf, tz24, tz22]
theorem fl24_2 : fieldD Zs 24 2 (.agg cs) = cs[2]? := by simp [fieldD, fieldOf, tz24, tz22, partD, TInfo.isAgg]
theorem fa24_3 : fieldAddrD Zs 24 3 (.at cs) = some (.at (cs.drop 3)) := by simp [fieldAddrD, fieldOf, tz24, tz22]
theorem fp24_3 : fieldAddrD Zs 24 3 (.ptr r o') = some (.ptr r (o' + 3)) := by simp [fieldAddrD, fieldOf, tz24, tz22]
theorem fl24_3 : fieldD Zs 24 3 (.agg cs) = cs[3]? := by simp [fieldD, fieldOf, tz24, tz22, partD, TInfo.isAgg]
theorem ld27 : loadD Zs g 27 (.at cs) = cs[0]? := by first | (simp only [loadD, tz27, pack, TInfo.isAgg, Bool.false_eq_true, if_false, List.head?_eq_getElem?]; done) | (simp only [loadD, tz27, pack, TInfo.isAgg, Bool.false_eq_true, if_false, List.head?_eq_getElem?]; rfl)
theorem lp27 : loadD Zs g 27 (.ptr r off) = match g r with | some (.cells _ cs) => cs[off]? | _ => none := by first | (simp only [loadD, tz27, pack, TInfo.isAgg, Bool.false_eq_true, if_false, List.head?_drop]; done) | (simp only [loadD, tz27, pack, TInfo.isAgg, Bool.false_eq_true, if_false, List.head?_drop]; rfl)
theorem so27 : storeE Zs g 27 (.ptr r off) y = match y.cells with | some ys => (match g r with | some (.cells e cs) => if ys.length = 1 ∧ off + ys.length ≤ cs.length then some (.put r (.cells e (splice cs off ys))) else none | _ => none) | _ => none := by simp only [storeE, tz27]; cases y.cells <;> rfl
theorem al27 : allocR Zs 27 = some (.new (.cells 27 [.sl .nil 0 []])) := by rfl
theorem mi27 : ifaceD Zs 27 x = some (.iface 27 x) := by first | (simp only [ifaceD, tz27]; done) | (simp only [ifaceD, tz27]; rfl)
theorem ln27 : lenD Zs g #[27] (.sl o n cs) = some (.int .i64 n) := by simp [lenD, tz27]
theorem cpn27 : capD Zs #[27] (.sl .nil n cs) = some (.int .i64 0) := by simp [capD, tz27]
theorem cpr27 {kk z0 : Nat} : capD Zs #[27] (.row r off n (some kk) z0) = some (.int .i64 kk) := by simp [capD, tz27]
theorem lr27 {c0 : Option Nat} {z0 : Nat} : lenD Zs g #[27] (.row r off n c0 z0) = some (.int .i64 n) := by simp [lenD, tz27]
theorem ix27 : indexAddrD Zs 27 (.sl o n cs) (.int k i) = if (0 ≤ i ∧ i < n) ∧ 0 < cs.length then some (.at (cs.drop (i.toNat * 4))) else none := by first | (simp only [indexAddrD, tz27, tz35, Nat.mul_one]; done) | (simp only [indexAddrD, tz27, tz35, Nat.mul_one]; rfl)
theorem ir27 {c0 : Option Nat} {z0 : Nat} : indexAddrD Zs 27 (.row r off n c0 z0) (.int k i) = if 0 ≤ i ∧ i < n then some (.ptr r (off + i.toNat * 4)) else none := by first | (simp only [indexAddrD, tz27, tz35, Nat.mul_one]; done) | (simp only [indexAddrD, tz27, tz35, Nat.mul_one]; rfl)
theorem sl27 : sliceD Zs g 27 (.sl o n cs) lo hi none = match bound lo 0, bound hi n with | some l, some h => if 0 ≤ l ∧ l ≤ h ∧ h ≤ n ∧ cs.length = n * 4 then some (.sl (cutOwn o) (h.toNat - l.toNat) ((cs.drop (l.toNat * 4)).take ((h.toNat - l.toNat) * 4))) else none | _, _ => none := by simp only [sliceD, tz27, tz35, Nat.mul_one]; cases bound lo 0 <;> cases bound hi n <;> simp only [Nat.mul_one]
theorem en27 : binD Zs .eql 27 (.sl o n cs) (.sl .nil n' cs') = (nilOf o n).map .bool := by simp [binD, isNum, eqT, tz27]
theorem enr27 {c0 : Option Nat} {z0 : Nat} : binD Zs .eql 27 (.row r off n c0 z0) (.sl .nil n' cs') = some (.bool false) := by simp [binD, isNum, eqT, tz27]
theorem nn27 : binD Zs .neq 27 (.sl o n cs) (.sl .nil n' cs') = (nilOf o n).map fun b => .bool (!b) := by simp [binD, isNum, eqT, tz27]
theorem nnr27 {c0 : Option Nat} {z0 : Nat} : binD Zs .neq 27 (.row r off n c0 z0) (.sl .nil n' cs') = some (.bool true) := by simp [binD, isNum, eqT, tz27]
theorem ld28 : loadD Zs g 28 (.at cs) = cs[0]? := by first | (simp only [loadD, tz28, pack, TInfo.isAgg, Bool.false_eq_true, if_false, List.head?_eq_getElem?]; done) | (simp only [loadD, tz28, pack, TInfo.isAgg, Bool.false_eq_true, if_false, List.head?_eq_getElem?]; rfl)
theorem lp28 : loadD Zs g 28 (.ptr r off) = match g r with | some (.cells _ cs) => cs[off]? | _ => none := by first | (simp only [loadD, tz28, pack, TInfo.isAgg, Bool.false_eq_true, if_false, List.head?_drop]; done) | (simp only [loadD, tz28, pack, TInfo.isAgg, Bool.false_eq_true, if_false, List.head?_drop]; rfl)
theorem so28 : storeE Zs g 28 (.ptr r off) y = match y.cells with | some ys => (match g r with | some (.cells e cs) => if ys.length = 1 ∧ off + ys.length ≤ cs.length then some (.put r (.cells e (splice cs off ys))) else none | _ => none) | _ => none := by simp only [storeE, tz28]; cases y.cells <;> rfl
theorem al28 : allocR Zs 28 = some (.new (.cells 28 [.int .i64 0])) := by rfl
theorem mi28 : ifaceD Zs 28 x = some (.iface 28 x) := by first | (simp only [ifaceD, tz28]; done) | (simp only [ifaceD, tz28]; rfl)
theorem ld34 : loadD Zs g 34 (.at cs) = if 4 ≤ cs.length then some (.agg (cs.take 4)) else none := by first | (simp only [loadD, tz34, pack, TInfo.isAgg, if_true]; done) | (simp only [loadD, tz34, pack, TInfo.isAgg, if_true]; rfl)
theorem lp34 : loadD Zs g 34 (.ptr r off) = match g r with | some (.cells _ cs) => (if 4 ≤ (cs.drop off).length then some (.agg ((cs.drop off).take 4)) else none) | _ => none := by first | (simp only [loadD, tz34, pack, TInfo.isAgg, if_true]; done) | (simp only [loadD, tz34, pack, TInfo.isAgg, if_true]; rfl)
theorem so34 : storeE Zs g 34 (.ptr r off) y = match y.cells with | some ys => (match g r with | some (.cells e cs) => if ys.length = 4 ∧ off + ys.length ≤ cs.length then some (.put r (.cells e (splice cs off ys))) else none | _ => none) | _ => none := by simp only [storeE, tz34]; cases y.cells <;> rfl
theorem al34 : allocR Zs 34 = some (.new (.cells 34 [.int .i64 0, .int .i64 0, .int .i64 0, .str ⟨#[]⟩])) := by rfl
theorem mi34 : ifaceD Zs 34 x = some (.iface 34 x) := by first | (simp only [ifaceD, tz34]; done) | (simp only [ifaceD, tz34]; rfl)
theorem fa34_0 : fieldAddrD Zs 34 0 (.at cs) = some (.at (cs.drop 0)) := by simp [fieldAddrD, fieldOf, tz34, tz3]
theorem fp34_0 : fieldAddrD Zs 34 0 (.ptr r o') = some (.ptr r (o' + 0)) := by simp [fieldAddrD, fieldOf, tz34, tz3]
theorem fl34_0 : fieldD Zs 34 0 (.agg cs) = cs[0]? := by simp [fieldD, fieldOf, tz34, tz3, partD, TInfo.isAgg]
theorem fa34_1 : fieldAddrD Zs 34 1 (.at cs) = some (.at (cs.drop 1)) := by simp [fieldAddrD, fieldOf, tz34, tz3]
theorem fp34_1 : fieldAddrD Zs 34 1 (.ptr r o') = some (.ptr r (o' + 1)) := by simp [fieldAddrD, fieldOf, tz34, tz3]
theorem fl34_1 : fieldD Zs 34 1 (.agg cs) = cs[1]? := by simp [fieldD, fieldOf, tz34, tz3, partD, TInfo.isAgg]
theorem fa34_2 : fieldAddrD Zs 34 2 (.at cs) = some (.at (cs.drop 2)) := by simp [fieldAddrD, fieldOf, tz34, tz3]
theorem fp34_2 : fieldAddrD Zs 34 2 (.ptr r o') = some (.ptr r (o' + 2)) := by simp [fieldAddrD, fieldOf, tz34, tz3]
theorem fl34_2 : fieldD Zs 34 2 (.agg cs) = cs[2]? := by simp [fieldD, fieldOf, tz34, tz3, partD, TInfo.isAgg]
theorem fa34_3 : fieldAddrD Zs 34 3 (.at cs) = some (.at (cs.drop 3)) := by simp [fieldAddrD, fieldOf, tz34, tz9]
theorem fp34_3 : fieldAddrD Zs 34 3 (.ptr r o') = some (.ptr r (o' + 3)) := by simp [fieldAddrD, fieldOf, tz34, tz9]
theorem fl34_3 : fieldD Zs 34 3 (.agg cs) = cs[3]? := by simp [fieldD, fieldOf, tz34, tz9, partD, TInfo.isAgg]
theorem ld35 : loadD Zs g 35 (.at cs) = if 4 ≤ cs.length then some (.agg (cs.take 4)) else none := by first | (simp only [loadD, tz35, pack, TInfo.isAgg, if_true]; done) | (simp only [loadD, tz35, pack, TInfo.isAgg, if_true]; rfl)
theorem lp35 : loadD Zs g 35 (.ptr r off) = match g r with | some (.cells _ cs) => (if 4 ≤ (cs.drop off).length then some (.agg ((cs.drop off).take 4)) else none) | _ => none := by first | (simp only [loadD, tz35, pack, TInfo.isAgg, if_true]; done) | (simp only [loadD, tz35, pack, TInfo.isAgg, if_true]; rfl)
theorem so35 : storeE Zs g 35 (.ptr r off) y = match y.cells with | some ys => (match g r with | some (.cells e cs) => if ys.length = 4 ∧ off + ys.length ≤ cs.length then some (.put r (.cells e (splice cs off ys))) else none | _ => none) | _ => none := by simp only [storeE, tz35]; cases y.cells <;> rfl
theorem al35 : allocR Zs 35 = some (.new (.cells 35 [.int .i64 0, .int .i64 0, .int .i64 0, .str ⟨#[]⟩])) := by rfl
theorem mi35 : ifaceD Zs 35 x = some (.iface 35 x) := by first | (simp only [ifaceD, tz35]; done) | (simp only [ifaceD, tz35]; rfl)
theorem fa35_0 : fieldAddrD Zs 35 0 (.at cs) = some (.at (cs.drop 0)) := by simp [fieldAddrD, fieldOf, tz35, tz3]
theorem fp35_0 : fieldAddrD Zs 35 0 (.ptr r o') = some (.ptr r (o' + 0)) := by simp [fieldAddrD, fieldOf, tz35, tz3]
theorem fl35_0 : fieldD Zs 35 0 (.agg cs) = cs[0]? := by simp [fieldD, fieldOf, tz35, tz3, partD, TInfo.isAgg]
theorem fa35_1 : fieldAddrD Zs 35 1 (.at cs) = some (.at (cs.drop 1)) := by simp [fieldAddrD, fieldOf, tz35, tz3]
theorem fp35_1 : fieldAddrD Zs 35 1 (.ptr r o') = some (.ptr r (o' + 1)) := by simp [fieldAddrD, fieldOf, tz35, tz3]
theorem fl35_1 : fieldD Zs 35 1 (.agg cs) = cs[1]? := by simp [fieldD, fieldOf, tz35, tz3, partD, TInfo.isAgg]
theorem fa35_2 : fieldAddrD Zs 35 2 (.at cs) = some (.at (cs.drop 2)) := by simp [fieldAddrD, fieldOf, tz35, tz3]
theorem fp35_2 : fieldAddrD Zs 35 2 (.ptr r o') = some (.ptr r (o' + 2)) := by simp [fieldAddrD, fieldOf, tz35, tz3]
theorem fl35_2 : fieldD Zs 35 2 (.agg cs) = cs[2]? := by simp [fieldD, fieldOf, tz35, tz3, partD, TInfo.isAgg]
theorem fa35_3 : fieldAddrD Zs 35 3 (.at cs) = some (.at (cs.drop 3)) := by simp [fieldAddrD, fieldOf, tz35, tz9]
theorem fp35_3 : fieldAddrD Zs 35 3 (.ptr r o') = some (.ptr r (o' + 3)) := by simp [fieldAddrD, fieldOf, tz35, tz9]
theorem fl35_3 : fieldD Zs 35 3 (.agg cs) = cs[3]? := by simp [fieldD, fieldOf, tz35, tz9, partD, TInfo.isAgg]
theorem ld39 : loadD Zs g 39 (.at cs) = if 4 ≤ cs.length then some (.agg (cs.take 4)) else none := by first | (simp only [loadD, tz39, pack, TInfo.isAgg, if_true]; done) | (simp only [loadD, tz39, pack, TInfo.isAgg, if_true]; rfl)
theorem lp39 : loadD Zs g 39 (.ptr r off) = match g r with | some (.cells _ cs) => (if 4 ≤ (cs.drop off).length then some (.agg ((cs.drop off).take 4)) else none) | _ => none := by first | (simp only [loadD, tz39, pack, TInfo.isAgg, if_true]; done) | (simp only [loadD, tz39, pack, TInfo.isAgg, if_true]; rfl)
theorem so39 : storeE Zs g 39 (.ptr r off) y = match y.cells with | some ys => (match g r with | some (.cells e cs) => if ys.length = 4 ∧ off + ys.length ≤ cs.length then some (.put r (.cells e (splice cs off ys))) else none | _ => none) | _ => none := by simp only [storeE, tz39]; cases y.cells <;> rfl
theorem al39 : allocR Zs 39 = some (.new (.cells 39 [.sl .nil 0 [], .sl .nil 0 [], .sl .nil 0 [], .sl .nil 0 []])) := by rfl
theorem mi39 : ifaceD Zs 39 x = some (.iface 39 x) := by first | (simp only [ifaceD, tz39]; done) | (simp only [ifaceD, tz39]; rfl)
theorem ln39 : lenD Zs g #[39] x = some (.int .i64 4) := by cases x <;> simp [lenD, tz39]
theorem ix39 : indexAddrD Zs 39 (.at cs) (.int k i) = if 0 ≤ i ∧ i < (4 : Nat) then some (.at (cs.drop (i.toNat))) else none := by first | (simp only [indexAddrD, tz39, tz22, Nat.mul_one]; done) | (simp only [indexAddrD, tz39, tz22, Nat.mul_one]; rfl)
theorem ir39 : indexAddrD Zs 39 (.ptr r off) (.int k i) = if 0 ≤ i ∧ i < (4 : Nat) then some (.ptr r (off + i.toNat)) else none := by first | (simp only [indexAddrD, tz39, tz22, Nat.mul_one]; done) | (simp only [indexAddrD, tz39, tz22, Nat.mul_one]; rfl)
theorem ie39 : indexD Zs 39 (.agg cs) (.int k i) = if 0 ≤ i ∧ i < (4 : Nat) then cs[i.toNat]? else none := by first | (simp only [indexD, tz39, tz22, Nat.mul_one, partD, TInfo.isAgg, Bool.false_eq_true, if_false]; done) | (simp only [indexD, tz39, tz22, Nat.mul_one, partD, TInfo.isAgg, Bool.false_eq_true, if_false]; rfl)
theorem ld40 : loadD Zs g 40 (.at cs) = cs[0]? := by first | (simp only [loadD, tz40, pack, TInfo.isAgg, Bool.false_eq_true, if_false, List.head?_eq_getElem?]; done) | (simp only [loadD, tz40, pack, TInfo.isAgg, Bool.false_eq_true, if_false, List.head?_eq_getElem?]; rfl)
theorem lp40 : loadD Zs g 40 (.ptr r off) = match g r with | some (.cells _ cs) => cs[off]? | _ => none := by first | (simp only [loadD, tz40, pack, TInfo.isAgg, Bool.false_eq_true, if_false, List.head?_drop]; done) | (simp only [loadD, tz40, pack, TInfo.isAgg, Bool.false_eq_true, if_false, List.head?_drop]; rfl)
theorem so40 : storeE Zs g 40 (.ptr r off) y = match y.cells with | some ys => (match g r with | some (.cells e cs) => if ys.length = 1 ∧ off + ys.length ≤ cs.length then some (.put r (.cells e (splice cs off ys))) else none | _ => none) | _ => none := by simp only [storeE, tz40]; cases y.cells <;> rfl
theorem al40 : allocR Zs 40 = some (.new (.cells 40 [.sl .nil 0 []])) := by rfl
theorem mi40 : ifaceD Zs 40 x = some (.iface 40 x) := by first | (simp only [ifaceD, tz40]; done) | (simp only [ifaceD, tz40]; rfl)
theorem mk40 {k' : IntKind} {m : Int} : makeSliceR Zs 0 40 (.int k i) (.int k' m) nx = if 0 ≤ i ∧ i ≤ m ∧ ((8 : Nat) : Int) * m ≤ 281474976710656 ∧ m ≤ (big : Int) then some (.row nx 0 i.toNat (some m.toNat) 1, .new (.cells 3 (List.replicate m.toNat (.int .i64 0)))) else none := by exact mk_one tz40 tz3 rfl rfl rfl
theorem bs40_1 : buildSliceR Zs 0 40 1 [(0, x)] nx = lit1 x := by exact build1 tz40 tz3 rfl rfl rfl
theorem bs40_2 : buildSliceR Zs 0 40 2 [(0, x), (1, y)] nx = lit2 x y := by exact build2 tz40 tz3 rfl rfl rfl
theorem bs40_3 : buildSliceR Zs 0 40 3 [(0, x), (1, y), (2, x3)] nx = lit3 x y x3 := by exact build3 tz40 tz3 rfl rfl rfl
theorem ln40 : lenD Zs g #[40] (.sl o n cs) = some (.int .i64 n) := by simp [lenD, tz40]
theorem cpn40 : capD Zs #[40] (.sl .nil n cs) = some (.int .i64 0) := by simp [capD, tz40]
theorem cpr40 {kk z0 : Nat} : capD Zs #[40] (.row r off n (some kk) z0) = some (.int .i64 kk) := by simp [capD, tz40]
theorem lr40 {c0 : Option Nat} {z0 : Nat} : lenD Zs g #[40] (.row r off n c0 z0) = some (.int .i64 n) := by simp [lenD, tz40]
theorem ix40 : indexAddrD Zs 40 (.sl o n cs) (.int k i) = if (0 ≤ i ∧ i < n) ∧ 0 < cs.length then some (.at (cs.drop (i.toNat))) else none := by first | (simp only [indexAddrD, tz40, tz3, Nat.mul_one]; done) | (simp only [indexAddrD, tz40, tz3, Nat.mul_one]; rfl)
theorem ir40 {c0 : Option Nat} {z0 : Nat} : indexAddrD Zs 40 (.row r off n c0 z0) (.int k i) = if 0 ≤ i ∧ i < n then some (.ptr r (off + i.toNat)) else none := by first | (simp only [indexAddrD, tz40, tz3, Nat.mul_one]; done) | (simp only [indexAddrD, tz40, tz3, Nat.mul_one]; rfl)
theorem sl40 : sliceD Zs g 40 (.sl o n cs) lo hi none = match bound lo 0, bound hi n with | some l, some h => if 0 ≤ l ∧ l ≤ h ∧ h ≤ n ∧ cs.length = n then some (.sl (cutOwn o) (h.toNat - l.toNat) ((cs.drop (l.toNat)).take ((h.toNat - l.toNat)))) else none | _, _ => none := by simp only [sliceD, tz40, tz3, Nat.mul_one]; cases bound lo 0 <;> cases bound hi n <;> simp only [Nat.mul_one]
theorem en40 : binD Zs .eql 40 (.sl o n cs) (.sl .nil n' cs') = (nilOf o n).map .bool := by simp [binD, isNum, eqT, tz40]
theorem enr40 {c0 : Option Nat} {z0 : Nat} : binD Zs .eql 40 (.row r off n c0 z0) (.sl .nil n' cs') = some (.bool false) := by simp [binD, isNum, eqT, tz40]
theorem nn40 : binD Zs .neq 40 (.sl o n cs) (.sl .nil n' cs') = (nilOf o n).map fun b => .bool (!b) := by simp [binD, isNum, eqT, tz40]
theorem nnr40 {c0 : Option Nat} {z0 : Nat} : binD Zs .neq 40 (.row r off n c0 z0) (.sl .nil n' cs') = some (.bool true) := by simp [binD, isNum, eqT, tz40]
theorem ld43 : loadD Zs g 43 (.at cs) = cs[0]? := by first | (simp only [loadD, tz43, pack, TInfo.isAgg, Bool.false_eq_true, if_false, List.head?_eq_getElem?]; done) | (simp only [loadD, tz43, pack, TInfo.isAgg, Bool.false_eq_true, if_false, List.head?_eq_getElem?]; rfl)
theorem lp43 : loadD Zs g 43 (.ptr r off) = match g r with | some (.cells _ cs) => cs[off]? | _ => none := by first | (simp only [loadD, tz43, pack, TInfo.isAgg, Bool.false_eq_true, if_false, List.head?_drop]; done) | (simp only [loadD, tz43, pack, TInfo.isAgg, Bool.false_eq_true, if_false, List.head?_drop]; rfl)
theorem so43 : storeE Zs g 43 (.ptr r off) y = match y.cells with | some ys => (match g r with | some (.cells e cs) => if ys.length = 1 ∧ off + ys.length ≤ cs.length then some (.put r (.cells e (splice cs off ys))) else none | _ => none) | _ => none := by simp only [storeE, tz43]; cases y.cells <;> rfl
theorem al43 : allocR Zs 43 = some (.new (.cells 43 [.sl .nil 0 []])) := by rfl
theorem mi43 : ifaceD Zs 43 x = some (.iface 43 x) := by first | (simp only [ifaceD, tz43]; done) | (simp only [ifaceD, tz43]; rfl)
theorem mk43 {k' : IntKind} {m : Int} : makeSliceR Zs 0 43 (.int k i) (.int k' m) nx = if 0 ≤ i ∧ i ≤ m ∧ ((16 : Nat) : Int) * m ≤ 281474976710656 ∧ m ≤ (big : Int) then some (.row nx 0 i.toNat (some m.toNat) 1, .new (.cells 9 (List.replicate m.toNat (.str ⟨#[]⟩)))) else none := by exact mk_one tz43 tz9 rfl rfl rfl
theorem bs43_1 : buildSliceR Zs 0 43 1 [(0, x)] nx = lit1 x := by exact build1 tz43 tz9 rfl rfl rfl
theorem bs43_2 : buildSliceR Zs 0 43 2 [(0, x), (1, y)] nx = lit2 x y := by exact build2 tz43 tz9 rfl rfl rfl
theorem bs43_3 : buildSliceR Zs 0 43 3 [(0, x), (1, y), (2, x3)] nx = lit3 x y x3 := by exact build3 tz43 tz9 rfl rfl rfl
theorem ln43 : lenD Zs g #[43] (.sl o n cs) = some (.int .i64 n) := by simp [lenD, tz43]
theorem cpn43 : capD Zs #[43] (.sl .nil n cs) = some (.int .i64 0) := by simp [capD, tz43]
theorem cpr43 {kk z0 : Nat} : capD Zs #[43] (.row r off n (some kk) z0) = some (.int .i64 kk) := by simp [capD, tz43]
theorem lr43 {c0 : Option Nat} {z0 : Nat} : lenD Zs g #[43] (.row r off n c0 z0) = some (.int .i64 n) := by simp [lenD, tz43]
theorem ix43 : indexAddrD Zs 43 (.sl o n cs) (.int k i) = if (0 ≤ i ∧ i < n) ∧ 0 < cs.length then some (.at (cs.drop (i.toNat))) else none := by first | (simp only [indexAddrD, tz43, tz9, Nat.mul_one]; done) | (simp only [indexAddrD, tz43, tz9, Nat.mul_one]; rfl)
theorem ir43 {c0 : Option Nat} {z0 : Nat} : indexAddrD Zs 43 (.row r off n c0 z0) (.int k i) = if 0 ≤ i ∧ i < n then some (.ptr r (off + i.toNat)) else none := by first | (simp only [indexAddrD, tz43, tz9, Nat.mul_one]; done) | (simp only [indexAddrD, tz43, tz9, Nat.mul_one]; rfl)
theorem sl43 : sliceD Zs g 43 (.sl o n cs) lo hi none = match bound lo 0, bound hi n with | some l, some h => if 0 ≤ l ∧ l ≤ h ∧ h ≤ n ∧ cs.length = n then some (.sl (cutOwn o) (h.toNat - l.toNat) ((cs.drop (l.toNat)).take ((h.toNat - l.toNat)))) else none | _, _ => none := by simp only [sliceD, tz43, tz9, Nat.mul_one]; cases bound lo 0 <;> cases bound hi n <;> simp only [Nat.mul_one]
theorem en43 : binD Zs .eql 43 (.sl o n cs) (.sl .nil n' cs') = (nilOf o n).map .bool := by simp [binD, isNum, eqT, tz43]
theorem enr43 {c0 : Option Nat} {z0 : Nat} : binD Zs .eql 43 (.row r off n c0 z0) (.sl .nil n' cs') = some (.bool false) := by simp [binD, isNum, eqT, tz43]
theorem nn43 : binD Zs .neq 43 (.sl o n cs) (.sl .nil n' cs') = (nilOf o n).map fun b => .bool (!b) := by simp [binD, isNum, eqT, tz43]
theorem nnr43 {c0 : Option Nat} {z0 : Nat} : binD Zs .neq 43 (.row r off n c0 z0) (.sl .nil n' cs') = some (.bool true) := by simp [binD, isNum, eqT, tz43]
theorem ld44 : loadD Zs g 44 (.at cs) = if 0 ≤ cs.length then some (.agg (cs.take 0)) else none := by first | (simp only [loadD, tz44, pack, TInfo.isAgg, if_true]; done) | (simp only [loadD, tz44, pack, TInfo.isAgg, if_true]; rfl)
theorem lp44 : loadD Zs g 44 (.ptr r off) = match g r with | some (.cells _ cs) => (if 0 ≤ (cs.drop off).length then some (.agg ((cs.drop off).take 0)) else none) | _ => none := by first | (simp only [loadD, tz44, pack, TInfo.isAgg, if_true]; done) | (simp only [loadD, tz44, pack, TInfo.isAgg, if_true]; rfl)
theorem so44 : storeE Zs g 44 (.ptr r off) y = match y.cells with | some ys => (match g r with | some (.cells e cs) => if ys.length = 0 ∧ off + ys.length ≤ cs.length then some (.put r (.cells e (splice cs off ys))) else none | _ => none) | _ => none := by simp only [storeE, tz44]; cases y.cells <;> rfl
theorem al44 : allocR Zs 44 = some (.new (.cells 44 [])) := by rfl
theorem mi44 : ifaceD Zs 44 x = some (.iface 44 x) := by first | (simp only [ifaceD, tz44]; done) | (simp only [ifaceD, tz44]; rfl)
theorem ld45 : loadD Zs g 45 (.at cs) = if 0 ≤ cs.length then some (.agg (cs.take 0)) else none := by first | (simp only [loadD, tz45, pack, TInfo.isAgg, if_true]; done) | (simp only [loadD, tz45, pack, TInfo.isAgg, if_true]; rfl)
theorem lp45 : loadD Zs g 45 (.ptr r off) = match g r with | some (.cells _ cs) => (if 0 ≤ (cs.drop off).length then some (.agg ((cs.drop off).take 0)) else none) | _ => none := by first | (simp only [loadD, tz45, pack, TInfo.isAgg, if_true]; done) | (simp only [loadD, tz45, pack, TInfo.isAgg, if_true]; rfl)
theorem so45 : storeE Zs g 45 (.ptr r off) y = match y.cells with | some ys => (match g r with | some (.cells e cs) => if ys.length = 0 ∧ off + ys.length ≤ cs.length then some (.put r (.cells e (splice cs off ys))) else none | _ => none) | _ => none := by simp only [storeE, tz45]; cases y.cells <;> rfl
theorem al45 : allocR Zs 45 = some (.new (.cells 45 [])) := by rfl
theorem mi45 : ifaceD Zs 45 x = some (.iface 45 x) := by first | (simp only [ifaceD, tz45]; done) | (simp only [ifaceD, tz45]; rfl)
theorem ld46 : loadD Zs g 46 (.at cs) = if 0 ≤ cs.length then some (.agg (cs.take 0)) else none := by first | (simp only [loadD, tz46, pack, TInfo.isAgg, if_true]; done) | (simp only [loadD, tz46, pack, TInfo.isAgg, if_true]; rfl)
theorem lp46 : loadD Zs g 46 (.ptr r off) = match g r with | some (.cells _ cs) => (if 0 ≤ (cs.drop off).length then some (.agg ((cs.drop off).take 0)) else none) | _ => none := by first | (simp only [loadD, tz46, pack, TInfo.isAgg, if_true]; done) | (simp only [loadD, tz46, pack, TInfo.isAgg, if_true]; rfl)
theorem so46 : storeE Zs g 46 (.ptr r off) y = match y.cells with | some ys => (match g r with | some (.cells e cs) => if ys.length = 0 ∧ off + ys.length ≤ cs.length then some (.put r (.cells e (splice cs off ys))) else none | _ => none) | _ => none := by simp only [storeE, tz46]; cases y.cells <;> rfl
theorem al46 : allocR Zs 46 = some (.new (.cells 46 [])) := by rfl
theorem mi46 : ifaceD Zs 46 x = some (.iface 46 x) := by first | (simp only [ifaceD, tz46]; done) | (simp only [ifaceD, tz46]; rfl)
theorem ld47 : loadD Zs g 47 (.at cs) = if 0 ≤ cs.length then some (.agg (cs.take 0)) else none := by first | (simp only [loadD, tz47, pack, TInfo.isAgg, if_true]; done) | (simp only [loadD, tz47, pack, TInfo.isAgg, if_true]; rfl)
theorem lp47 : loadD Zs g 47 (.ptr r off) = match g r with | some (.cells _ cs) => (if 0 ≤ (cs.drop off).length then some (.agg ((cs.drop off).take 0)) else none) | _ => none := by first | (simp only [loadD, tz47, pack, TInfo.isAgg, if_true]; done) | (simp only [loadD, tz47, pack, TInfo.isAgg, if_true]; rfl)
theorem so47 : storeE Zs g 47 (.ptr r off) y = match y.cells with | some ys => (match g r with | some (.cells e cs) => if ys.length = 0 ∧ off + ys.length ≤ cs.length then some (.put r (.cells e (splice cs off ys))) else none | _ => none) | _ => none := by simp only [storeE, tz47]; cases y.cells <;> rfl
theorem al47 : allocR Zs 47 = some (.new (.cells 47 [])) := by rfl
theorem mi47 : ifaceD Zs 47 x = some (.iface 47 x) := by first | (simp only [ifaceD, tz47]; done) | (simp only [ifaceD, tz47]; rfl)
theorem ld48 : loadD Zs g 48 (.at cs) = cs[0]? := by first | (simp only [loadD, tz48, pack, TInfo.isAgg, Bool.false_eq_true, if_false, List.head?_eq_getElem?]; done) | (simp only [loadD, tz48, pack, TInfo.isAgg, Bool.false_eq_true, if_false, List.head?_eq_getElem?]; rfl)
theorem lp48 : loadD Zs g 48 (.ptr r off) = match g r with | some (.cells _ cs) => cs[off]? | _ => none := by first | (simp only [loadD, tz48, pack, TInfo.isAgg, Bool.false_eq_true, if_false, List.head?_drop]; done) | (simp only [loadD, tz48, pack, TInfo.isAgg, Bool.false_eq_true, if_false, List.head?_drop]; rfl)
theorem so48 : storeE Zs g 48 (.ptr r off) y = match y.cells with | some ys => (match g r with | some (.cells e cs) => if ys.length = 1 ∧ off + ys.length ≤ cs.length then some (.put r (.cells e (splice cs off ys))) else none | _ => none) | _ => none := by simp only [storeE, tz48]; cases y.cells <;> rfl
theorem al48 : allocR Zs 48 = some (.new (.cells 48 [.sl .nil 0 []])) := by rfl
theorem mi48 : ifaceD Zs 48 x = some (.iface 48 x) := by first | (simp only [ifaceD, tz48]; done) | (simp only [ifaceD, tz48]; rfl)
theorem mk48 {k' : IntKind} {m : Int} : makeSliceR Zs 0 48 (.int k i) (.int k' m) nx = if 0 ≤ i ∧ i ≤ m ∧ ((16 : Nat) : Int) * m ≤ 281474976710656 ∧ m ≤ (big : Int) then some (.row nx 0 i.toNat (some m.toNat) 1, .new (.cells 51 (List.replicate m.toNat (.nilif)))) else none := by exact mk_one tz48 tz51 rfl rfl rfl
theorem bs48_1 : buildSliceR Zs 0 48 1 [(0, x)] nx = lit1 x := by exact build1 tz48 tz51 rfl rfl rfl
theorem bs48_2 : buildSliceR Zs 0 48 2 [(0, x), (1, y)] nx = lit2 x y := by exact build2 tz48 tz51 rfl rfl rfl
theorem bs48_3 : buildSliceR Zs 0 48 3 [(0, x), (1, y), (2, x3)] nx = lit3 x y x3 := by exact build3 tz48 tz51 rfl rfl rfl
theorem ln48 : lenD Zs g #[48] (.sl o n cs) = some (.int .i64 n) := by simp [lenD, tz48]
theorem cpn48 : capD Zs #[48] (.sl .nil n cs) = some (.int .i64 0) := by simp [capD, tz48]
theorem cpr48 {kk z0 : Nat} : capD Zs #[48] (.row r off n (some kk) z0) = some (.int .i64 kk) := by simp [capD, tz48]
theorem lr48 {c0 : Option Nat} {z0 : Nat} : lenD Zs g #[48] (.row r off n c0 z0) = some (.int .i64 n) := by simp [lenD, tz48]
theorem ix48 : indexAddrD Zs 48 (.sl o n cs) (.int k i) = if (0 ≤ i ∧ i < n) ∧ 0 < cs.length then some (.at (cs.drop (i.toNat))) else none := by first | (simp only [indexAddrD, tz48, tz51, Nat.mul_one]; done) | (simp only [indexAddrD, tz48, tz51, Nat.mul_one]; rfl)
theorem ir48 {c0 : Option Nat} {z0 : Nat} : indexAddrD Zs 48 (.row r off n c0 z0) (.int k i) = if 0 ≤ i ∧ i < n then some (.ptr r (off + i.toNat)) else none := by first | (simp only [indexAddrD, tz48, tz51, Nat.mul_one]; done) | (simp only [indexAddrD, tz48, tz51, Nat.mul_one]; rfl)
theorem sl48 : sliceD Zs g 48 (.sl o n cs) lo hi none = match bound lo 0, bound hi n with | some l, some h => if 0 ≤ l ∧ l ≤ h ∧ h ≤ n ∧ cs.length = n then some (.sl (cutOwn o) (h.toNat - l.toNat) ((cs.drop (l.toNat)).take ((h.toNat - l.toNat)))) else none | _, _ => none := by simp only [sliceD, tz48, tz51, Nat.mul_one]; cases bound lo 0 <;> cases bound hi n <;> simp only [Nat.mul_one]
theorem en48 : binD Zs .eql 48 (.sl o n cs) (.sl .nil n' cs') = (nilOf o n).map .bool := by simp [binD, isNum, eqT, tz48]
theorem enr48 {c0 : Option Nat} {z0 : Nat} : binD Zs .eql 48 (.row r off n c0 z0) (.sl .nil n' cs') = some (.bool false) := by simp [binD, isNum, eqT, tz48]
theorem nn48 : binD Zs .neq 48 (.sl o n cs) (.sl .nil n' cs') = (nilOf o n).map fun b => .bool (!b) := by simp [binD, isNum, eqT, tz48]
theorem nnr48 {c0 : Option Nat} {z0 : Nat} : binD Zs .neq 48 (.row r off n c0 z0) (.sl .nil n' cs') = some (.bool true) := by simp [binD, isNum, eqT, tz48]
theorem ld50 : loadD Zs g 50 (.at cs) = cs[0]? := by first | (simp only [loadD, tz50, pack, TInfo.isAgg, Bool.false_eq_true, if_false, List.head?_eq_getElem?]; done) | (simp only [loadD, tz50, pack, TInfo.isAgg, Bool.false_eq_true, if_false, List.head?_eq_getElem?]; rfl)
theorem lp50 : loadD Zs g 50 (.ptr r off) = match g r with | some (.cells _ cs) => cs[off]? | _ => none := by first | (simp only [loadD, tz50, pack, TInfo.isAgg, Bool.false_eq_true, if_false, List.head?_drop]; done) | (simp only [loadD, tz50, pack, TInfo.isAgg, Bool.false_eq_true, if_false, List.head?_drop]; rfl)
theorem so50 : storeE Zs g 50 (.ptr r off) y = match y.cells with | some ys => (match g r with | some (.cells e cs) => if ys.length = 1 ∧ off + ys.length ≤ cs.length then some (.put r (.cells e (splice cs off ys))) else none | _ => none) | _ => none := by simp only [storeE, tz50]; cases y.cells <;> rfl
theorem al50 : allocR Zs 50 = some (.new (.cells 50 [.nilif])) := by rfl
theorem ld51 : loadD Zs g 51 (.at cs) = cs[0]? := by first | (simp only [loadD, tz51, pack, TInfo.isAgg, Bool.false_eq_true, if_false, List.head?_eq_getElem?]; done) | (simp only [loadD, tz51, pack, TInfo.isAgg, Bool.false_eq_true, if_false, List.head?_eq_getElem?]; rfl)
theorem lp51 : loadD Zs g 51 (.ptr r off) = match g r with | some (.cells _ cs) => cs[off]? | _ => none := by first | (simp only [loadD, tz51, pack, TInfo.isAgg, Bool.false_eq_true, if_false, List.head?_drop]; done) | (simp only [loadD, tz51, pack, TInfo.isAgg, Bool.false_eq_true, if_false, List.head?_drop]; rfl)
theorem so51 : storeE Zs g 51 (.ptr r off) y = match y.cells with | some ys => (match g r with | some (.cells e cs) => if ys.length = 1 ∧ off + ys.length ≤ cs.length then some (.put r (.cells e (splice cs off ys))) else none | _ => none) | _ => none := by simp only [storeE, tz51]; cases y.cells <;> rfl
theorem al51 : allocR Zs 51 = some (.new (.cells 51 [.nilif])) := by rfl
theorem ld56 : loadD Zs g 56 (.at cs) = cs[0]? := by first | (simp only [loadD, tz56, pack, TInfo.isAgg, Bool.false_eq_true, if_false, List.head?_eq_getElem?]; done) | (simp only [loadD, tz56, pack, TInfo.isAgg, Bool.false_eq_true, if_false, List.head?_eq_getElem?]; rfl)
theorem lp56 : loadD Zs g 56 (.ptr r off) = match g r with | some (.cells _ cs) => cs[off]? | _ => none := by first | (simp only [loadD, tz56, pack, TInfo.isAgg, Bool.false_eq_true, if_false, List.head?_drop]; done) | (simp only [loadD, tz56, pack, TInfo.isAgg, Bool.false_eq_true, if_false, List.head?_drop]; rfl)
theorem so56 : storeE Zs g 56 (.ptr r off) y = match y.cells with | some ys => (match g r with | some (.cells e cs) => if ys.length = 1 ∧ off + ys.length ≤ cs.length then some (.put r (.cells e (splice cs off ys))) else none | _ => none) | _ => none := by simp only [storeE, tz56]; cases y.cells <;> rfl
theorem al56 : allocR Zs 56 = some (.new (.cells 56 [.sl .nil 0 []])) := by rfl
theorem mi56 : ifaceD Zs 56 x = some (.iface 56 x) := by first | (simp only [ifaceD, tz56]; done) | (simp only [ifaceD, tz56]; rfl)
theorem mk56 {k' : IntKind} {m : Int} : makeSliceR Zs 0 56 (.int k i) (.int k' m) nx = if 0 ≤ i ∧ i ≤ m ∧ ((24 : Nat) : Int) * m ≤ 281474976710656 ∧ m ≤ (big : Int) then some (.row nx 0 i.toNat (some m.toNat) 1, .new (.cells 22 (List.replicate m.toNat (.sl .nil 0 [])))) else none := by exact mk_one tz56 tz22 rfl rfl rfl
theorem bs56_1 : buildSliceR Zs 0 56 1 [(0, x)] nx = lit1 x := by exact build1 tz56 tz22 rfl rfl rfl
theorem bs56_2 : buildSliceR Zs 0 56 2 [(0, x), (1, y)] nx = lit2 x y := by exact build2 tz56 tz22 rfl rfl rfl
theorem bs56_3 : buildSliceR Zs 0 56 3 [(0, x), (1, y), (2, x3)] nx = lit3 x y x3 := by exact build3 tz56 tz22 rfl rfl rfl
theorem ln56 : lenD Zs g #[56] (.sl o n cs) = some (.int .i64 n) := by simp [lenD, tz56]
theorem cpn56 : capD Zs #[56] (.sl .nil n cs) = some (.int .i64 0) := by simp [capD, tz56]
theorem cpr56 {kk z0 : Nat} : capD Zs #[56] (.row r off n (some kk) z0) = some (.int .i64 kk) := by simp [capD, tz56]
theorem lr56 {c0 : Option Nat} {z0 : Nat} : lenD Zs g #[56] (.row r off n c0 z0) = some (.int .i64 n) := by simp [lenD, tz56]
theorem ix56 : indexAddrD Zs 56 (.sl o n cs) (.int k i) = if (0 ≤ i ∧ i < n) ∧ 0 < cs.length then some (.at (cs.drop (i.toNat))) else none := by first | (simp only [indexAddrD, tz56, tz22, Nat.mul_one]; done) | (simp only [indexAddrD, tz56, tz22, Nat.mul_one]; rfl)
theorem ir56 {c0 : Option Nat} {z0 : Nat} : indexAddrD Zs 56 (.row r off n c0 z0) (.int k i) = if 0 ≤ i ∧ i < n then some (.ptr r (off + i.toNat)) else none := by first | (simp only [indexAddrD, tz56, tz22, Nat.mul_one]; done) | (simp only [indexAddrD, tz56, tz22, Nat.mul_one]; rfl)
theorem sl56 : sliceD Zs g 56 (.sl o n cs) lo hi none = match bound lo 0, bound hi n with | some l, some h => if 0 ≤ l ∧ l ≤ h ∧ h ≤ n ∧ cs.length = n then some (.sl (cutOwn o) (h.toNat - l.toNat) ((cs.drop (l.toNat)).take ((h.toNat - l.toNat)))) else none | _, _ => none := by simp only [sliceD, tz56, tz22, Nat.mul_one]; cases bound lo 0 <;> cases bound hi n <;> simp only [Nat.mul_one]
theorem en56 : binD Zs .eql 56 (.sl o n cs) (.sl .nil n' cs') = (nilOf o n).map .bool := by simp [binD, isNum, eqT, tz56]
theorem enr56 {c0 : Option Nat} {z0 : Nat} : binD Zs .eql 56 (.row r off n c0 z0) (.sl .nil n' cs') = some (.bool false) := by simp [binD, isNum, eqT, tz56]
theorem nn56 : binD Zs .neq 56 (.sl o n cs) (.sl .nil n' cs') = (nilOf o n).map fun b => .bool (!b) := by simp [binD, isNum, eqT, tz56]
theorem nnr56 {c0 : Option Nat} {z0 : Nat} : binD Zs .neq 56 (.row r off n c0 z0) (.sl .nil n' cs') = some (.bool true) := by simp [binD, isNum, eqT, tz56]
theorem ld59 : loadD Zs g 59 (.at cs) = cs[0]? := by first | (simp only [loadD, tz59, pack, TInfo.isAgg, Bool.false_eq_true, if_false, List.head?_eq_getElem?]; done) | (simp only [loadD, tz59, pack, TInfo.isAgg, Bool.false_eq_true, if_false, List.head?_eq_getElem?]; rfl)
theorem lp59 : loadD Zs g 59 (.ptr r off) = match g r with | some (.cells _ cs) => cs[off]? | _ => none := by first | (simp only [loadD, tz59, pack, TInfo.isAgg, Bool.false_eq_true, if_false, List.head?_drop]; done) | (simp only [loadD, tz59, pack, TInfo.isAgg, Bool.false_eq_true, if_false, List.head?_drop]; rfl)
theorem so59 : storeE Zs g 59 (.ptr r off) y = match y.cells with | some ys => (match g r with | some (.cells e cs) => if ys.length = 1 ∧ off + ys.length ≤ cs.length then some (.put r (.cells e (splice cs off ys))) else none | _ => none) | _ => none := by simp only [storeE, tz59]; cases y.cells <;> rfl
theorem al59 : allocR Zs 59 = some (.new (.cells 59 [.nilfunc])) := by rfl
theorem mi59 : ifaceD Zs 59 x = some (.iface 59 x) := by first | (simp only [ifaceD, tz59]; done) | (simp only [ifaceD, tz59]; rfl)
theorem ld61 : loadD Zs g 61 (.at cs) = cs[0]? := by first | (simp only [loadD, tz61, pack, TInfo.isAgg, Bool.false_eq_true, if_false, List.head?_eq_getElem?]; done) | (simp only [loadD, tz61, pack, TInfo.isAgg, Bool.false_eq_true, if_false, List.head?_eq_getElem?]; rfl)
theorem lp61 : loadD Zs g 61 (.ptr r off) = match g r with | some (.cells _ cs) => cs[off]? | _ => none := by first | (simp only [loadD, tz61, pack, TInfo.isAgg, Bool.false_eq_true, if_false, List.head?_drop]; done) | (simp only [loadD, tz61, pack, TInfo.isAgg, Bool.false_eq_true, if_false, List.head?_drop]; rfl)
theorem so61 : storeE Zs g 61 (.ptr r off) y = match y.cells with | some ys => (match g r with | some (.cells e cs) => if ys.length = 1 ∧ off + ys.length ≤ cs.length then some (.put r (.cells e (splice cs off ys))) else none | _ => none) | _ => none := by simp only [storeE, tz61]; cases y.cells <;> rfl
theorem al61 : allocR Zs 61 = some (.new (.cells 61 [.nilfunc])) := by rfl
theorem mi61 : ifaceD Zs 61 x = some (.iface 61 x) := by first | (simp only [ifaceD, tz61]; done) | (simp only [ifaceD, tz61]; rfl)
theorem ld62 : loadD Zs g 62 (.at cs) = cs[0]? := by first | (simp only [loadD, tz62, pack, TInfo.isAgg, Bool.false_eq_true, if_false, List.head?_eq_getElem?]; done) | (simp only [loadD, tz62, pack, TInfo.isAgg, Bool.false_eq_true, if_false, List.head?_eq_getElem?]; rfl)
theorem lp62 : loadD Zs g 62 (.ptr r off) = match g r with | some (.cells _ cs) => cs[off]? | _ => none := by first | (simp only [loadD, tz62, pack, TInfo.isAgg, Bool.false_eq_true, if_false, List.head?_drop]; done) | (simp only [loadD, tz62, pack, TInfo.isAgg, Bool.false_eq_true, if_false, List.head?_drop]; rfl)
theorem so62 : storeE Zs g 62 (.ptr r off) y = match y.cells with | some ys => (match g r with | some (.cells e cs) => if ys.length = 1 ∧ off + ys.length ≤ cs.length then some (.put r (.cells e (splice cs off ys))) else none | _ => none) | _ => none := by simp only [storeE, tz62]; cases y.cells <;> rfl
theorem al62 : allocR Zs 62 = some (.new (.cells 62 [.nilfunc])) := by rfl
theorem mi62 : ifaceD Zs 62 x = some (.iface 62 x) := by first | (simp only [ifaceD, tz62]; done) | (simp only [ifaceD, tz62]; rfl)
theorem ld66 : loadD Zs g 66 (.at cs) = cs[0]? := by first | (simp only [loadD, tz66, pack, TInfo.isAgg, Bool.false_eq_true, if_false, List.head?_eq_getElem?]; done) | (simp only [loadD, tz66, pack, TInfo.isAgg, Bool.false_eq_true, if_false, List.head?_eq_getElem?]; rfl)
theorem lp66 : loadD Zs g 66 (.ptr r off) = match g r with | some (.cells _ cs) => cs[off]? | _ => none := by first | (simp only [loadD, tz66, pack, TInfo.isAgg, Bool.false_eq_true, if_false, List.head?_drop]; done) | (simp only [loadD, tz66, pack, TInfo.isAgg, Bool.false_eq_true, if_false, List.head?_drop]; rfl)
theorem so66 : storeE Zs g 66 (.ptr r off) y = match y.cells with | some ys => (match g r with | some (.cells e cs) => if ys.length = 1 ∧ off + ys.length ≤ cs.length then some (.put r (.cells e (splice cs off ys))) else none | _ => none) | _ => none := by simp only [storeE, tz66]; cases y.cells <;> rfl
theorem al66 : allocR Zs 66 = some (.new (.cells 66 [.nilptr])) := by rfl
theorem mi66 : ifaceD Zs 66 x = some (.iface 66 x) := by first | (simp only [ifaceD, tz66]; done) | (simp only [ifaceD, tz66]; rfl)
theorem peql66 : binD Zs .eql 66 (.ptr r off) .nilptr = some (.bool false) := by simp [binD, isNum, eqT, tz66]
theorem paeql66 : binD Zs .eql 66 (.at cs) .nilptr = some (.bool false) := by simp [binD, isNum, eqT, tz66]
theorem pneql66 : binD Zs .eql 66 .nilptr .nilptr = some (.bool true) := by simp [binD, isNum, eqT, tz66]
theorem pneq66 : binD Zs .neq 66 (.ptr r off) .nilptr = some (.bool true) := by simp [binD, isNum, eqT, tz66]
theorem paneq66 : binD Zs .neq 66 (.at cs) .nilptr = some (.bool true) := by simp [binD, isNum, eqT, tz66]
theorem pnneq66 : binD Zs .neq 66 .nilptr .nilptr = some (.bool false) := by simp [binD, isNum, eqT, tz66]
theorem ld67 : loadD Zs g 67 (.at cs) = cs[0]? := by first | (simp only [loadD, tz67, pack, TInfo.isAgg, Bool.false_eq_true, if_false, List.head?_eq_getElem?]; done) | (simp only [loadD, tz67, pack, TInfo.isAgg, Bool.false_eq_true, if_false, List.head?_eq_getElem?]; rfl)
theorem lp67 : loadD Zs g 67 (.ptr r off) = match g r with | some (.cells _ cs) => cs[off]? | _ => none := by first | (simp only [loadD, tz67, pack, TInfo.isAgg, Bool.false_eq_true, if_false, List.head?_drop]; done) | (simp only [loadD, tz67, pack, TInfo.isAgg, Bool.false_eq_true, if_false, List.head?_drop]; rfl)
theorem so67 : storeE Zs g 67 (.ptr r off) y = match y.cells with | some ys => (match g r with | some (.cells e cs) => if ys.length = 1 ∧ off + ys.length ≤ cs.length then some (.put r (.cells e (splice cs off ys))) else none | _ => none) | _ => none := by simp only [storeE, tz67]; cases y.cells <;> rfl
theorem al67 : allocR Zs 67 = some (.new (.cells 67 [.sl .nil 0 []])) := by rfl
theorem mi67 : ifaceD Zs 67 x = some (.iface 67 x) := by first | (simp only [ifaceD, tz67]; done) | (simp only [ifaceD, tz67]; rfl)
theorem mk67 {k' : IntKind} {m : Int} : makeSliceR Zs 0 67 (.int k i) (.int k' m) nx = if 0 ≤ i ∧ i ≤ m ∧ ((1 : Nat) : Int) * m ≤ 281474976710656 ∧ m ≤ (big : Int) then some (.row nx 0 i.toNat (some m.toNat) 1, .new (.cells 5 (List.replicate m.toNat (.int .u8 0)))) else none := by exact mk_one tz67 tz5 rfl rfl rfl
theorem bs67_1 : buildSliceR Zs 0 67 1 [(0, x)] nx = lit1 x := by exact build1 tz67 tz5 rfl rfl rfl
theorem bs67_2 : buildSliceR Zs 0 67 2 [(0, x), (1, y)] nx = lit2 x y := by exact build2 tz67 tz5 rfl rfl rfl
theorem bs67_3 : buildSliceR Zs 0 67 3 [(0, x), (1, y), (2, x3)] nx = lit3 x y x3 := by exact build3 tz67 tz5 rfl rfl rfl
theorem ln67 : lenD Zs g #[67] (.sl o n cs) = some (.int .i64 n) := by simp [lenD, tz67]
theorem cpn67 : capD Zs #[67] (.sl .nil n cs) = some (.int .i64 0) := by simp [capD, tz67]
theorem cpr67 {kk z0 : Nat} : capD Zs #[67] (.row r off n (some kk) z0) = some (.int .i64 kk) := by simp [capD, tz67]
theorem lr67 {c0 : Option Nat} {z0 : Nat} : lenD Zs g #[67] (.row r off n c0 z0) = some (.int .i64 n) := by simp [lenD, tz67]
theorem ix67 : indexAddrD Zs 67 (.sl o n cs) (.int k i) = if (0 ≤ i ∧ i < n) ∧ 0 < cs.length then some (.at (cs.drop (i.toNat))) else none := by first | (simp only [indexAddrD, tz67, tz5, Nat.mul_one]; done) | (simp only [indexAddrD, tz67, tz5, Nat.mul_one]; rfl)
theorem ir67 {c0 : Option Nat} {z0 : Nat} : indexAddrD Zs 67 (.row r off n c0 z0) (.int k i) = if 0 ≤ i ∧ i < n then some (.ptr r (off + i.toNat)) else none := by first | (simp only [indexAddrD, tz67, tz5, Nat.mul_one]; done) | (simp only [indexAddrD, tz67, tz5, Nat.mul_one]; rfl)
theorem sl67 : sliceD Zs g 67 (.sl o n cs) lo hi none = match bound lo 0, bound hi n with | some l, some h => if 0 ≤ l ∧ l ≤ h ∧ h ≤ n ∧ cs.length = n then some (.sl (cutOwn o) (h.toNat - l.toNat) ((cs.drop (l.toNat)).take ((h.toNat - l.toNat)))) else none | _, _ => none := by simp only [sliceD, tz67, tz5, Nat.mul_one]; cases bound lo 0 <;> cases bound hi n <;> simp only [Nat.mul_one]
theorem en67 : binD Zs .eql 67 (.sl o n cs) (.sl .nil n' cs') = (nilOf o n).map .bool := by simp [binD, isNum, eqT, tz67]
theorem enr67 {c0 : Option Nat} {z0 : Nat} : binD Zs .eql 67 (.row r off n c0 z0) (.sl .nil n' cs') = some (.bool false) := by simp [binD, isNum, eqT, tz67]
theorem nn67 : binD Zs .neq 67 (.sl o n cs) (.sl .nil n' cs') = (nilOf o n).map fun b => .bool (!b) := by simp [binD, isNum, eqT, tz67]
theorem nnr67 {c0 : Option Nat} {z0 : Nat} : binD Zs .neq 67 (.row r off n c0 z0) (.sl .nil n' cs') = some (.bool true) := by simp [binD, isNum, eqT, tz67]
theorem ld68 : loadD Zs g 68 (.at cs) = if 2 ≤ cs.length then some (.agg (cs.take 2)) else none := by first | (simp only [loadD, tz68, pack, TInfo.isAgg, if_true]; done) | (simp only [loadD, tz68, pack, TInfo.isAgg, if_true]; rfl)
theorem lp68 : loadD Zs g 68 (.ptr r off) = match g r with | some (.cells _ cs) => (if 2 ≤ (cs.drop off).length then some (.agg ((cs.drop off).take 2)) else none) | _ => none := by first | (simp only [loadD, tz68, pack, TInfo.isAgg, if_true]; done) | (simp only [loadD, tz68, pack, TInfo.isAgg, if_true]; rfl)
theorem so68 : storeE Zs g 68 (.ptr r off) y = match y.cells with | some ys => (match g r with | some (.cells e cs) => if ys.length = 2 ∧ off + ys.length ≤ cs.length then some (.put r (.cells e (splice cs off ys))) else none | _ => none) | _ => none := by simp only [storeE, tz68]; cases y.cells <;> rfl
theorem al68 : allocR Zs 68 = some (.new (.cells 68 [.nilptr, .sl .nil 0 []])) := by rfl
theorem mi68 : ifaceD Zs 68 x = some (.iface 68 x) := by first | (simp only [ifaceD, tz68]; done) | (simp only [ifaceD, tz68]; rfl)
theorem fa68_0 : fieldAddrD Zs 68 0 (.at cs) = some (.at (cs.drop 0)) := by simp [fieldAddrD, fieldOf, tz68, tz66]
theorem fp68_0 : fieldAddrD Zs 68 0 (.ptr r o') = some (.ptr r (o' + 0)) := by simp [fieldAddrD, fieldOf, tz68, tz66]
theorem fl68_0 : fieldD Zs 68 0 (.agg cs) = cs[0]? := by simp [fieldD, fieldOf, tz68, tz66, partD, TInfo.isAgg]
theorem fa68_1 : fieldAddrD Zs 68 1 (.at cs) = some (.at (cs.drop 1)) := by simp [fieldAddrD, fieldOf, tz68, tz67]
theorem fp68_1 : fieldAddrD Zs 68 1 (.ptr r o') = some (.ptr r (o' + 1)) := by simp [fieldAddrD, fieldOf, tz68, tz67]
theorem fl68_1 : fieldD Zs 68 1 (.agg cs) = cs[1]? := by simp [fieldD, fieldOf, tz68, tz67, partD, TInfo.isAgg]
theorem ld69 : loadD Zs g 69 (.at cs) = if 2 ≤ cs.length then some (.agg (cs.take 2)) else none := by first | (simp only [loadD, tz69, pack, TInfo.isAgg, if_true]; done) | (simp only [loadD, tz69, pack, TInfo.isAgg, if_true]; rfl)
theorem lp69 : loadD Zs g 69 (.ptr r off) = match g r with | some (.cells _ cs) => (if 2 ≤ (cs.drop off).length then some (.agg ((cs.drop off).take 2)) else none) | _ => none := by first | (simp only [loadD, tz69, pack, TInfo.isAgg, if_true]; done) | (simp only [loadD, tz69, pack, TInfo.isAgg, if_true]; rfl)
theorem so69 : storeE Zs g 69 (.ptr r off) y = match y.cells with | some ys => (match g r with | some (.cells e cs) => if ys.length = 2 ∧ off + ys.length ≤ cs.length then some (.put r (.cells e (splice cs off ys))) else none | _ => none) | _ => none := by simp only [storeE, tz69]; cases y.cells <;> rfl
theorem al69 : allocR Zs 69 = some (.new (.cells 69 [.nilptr, .sl .nil 0 []])) := by rfl
theorem mi69 : ifaceD Zs 69 x = some (.iface 69 x) := by first | (simp only [ifaceD, tz69]; done) | (simp only [ifaceD, tz69]; rfl)
theorem fa69_0 : fieldAddrD Zs 69 0 (.at cs) = some (.at (cs.drop 0)) := by simp [fieldAddrD, fieldOf, tz69, tz66]
theorem fp69_0 : fieldAddrD Zs 69 0 (.ptr r o') = some (.ptr r (o' + 0)) := by simp [fieldAddrD, fieldOf, tz69, tz66]
theorem fl69_0 : fieldD Zs 69 0 (.agg cs) = cs[0]? := by simp [fieldD, fieldOf, tz69, tz66, partD, TInfo.isAgg]
theorem fa69_1 : fieldAddrD Zs 69 1 (.at cs) = some (.at (cs.drop 1)) := by simp [fieldAddrD, fieldOf, tz69, tz67]
theorem fp69_1 : fieldAddrD Zs 69 1 (.ptr r o') = some (.ptr r (o' + 1)) := by simp [fieldAddrD, fieldOf, tz69, tz67]
theorem fl69_1 : fieldD Zs 69 1 (.agg cs) = cs[1]? := by simp [fieldD, fieldOf, tz69, tz67, partD, TInfo.isAgg]
theorem ld78 : loadD Zs g 78 (.at cs) = cs[0]? := by first | (simp only [loadD, tz78, pack, TInfo.isAgg, Bool.false_eq_true, if_false, List.head?_eq_getElem?]; done) | (simp only [loadD, tz78, pack, TInfo.isAgg, Bool.false_eq_true, if_false, List.head?_eq_getElem?]; rfl)
theorem lp78 : loadD Zs g 78 (.ptr r off) = match g r with | some (.cells _ cs) => cs[off]? | _ => none := by first | (simp only [loadD, tz78, pack, TInfo.isAgg, Bool.false_eq_true, if_false, List.head?_drop]; done) | (simp only [loadD, tz78, pack, TInfo.isAgg, Bool.false_eq_true, if_false, List.head?_drop]; rfl)
theorem so78 : storeE Zs g 78 (.ptr r off) y = match y.cells with | some ys => (match g r with | some (.cells e cs) => if ys.length = 1 ∧ off + ys.length ≤ cs.length then some (.put r (.cells e (splice cs off ys))) else none | _ => none) | _ => none := by simp only [storeE, tz78]; cases y.cells <;> rfl
theorem al78 : allocR Zs 78 = some (.new (.cells 78 [.nilfunc])) := by rfl
theorem mi78 : ifaceD Zs 78 x = some (.iface 78 x) := by first | (simp only [ifaceD, tz78]; done) | (simp only [ifaceD, tz78]; rfl)
theorem ld86 : loadD Zs g 86 (.at cs) = cs[0]? := by first | (simp only [loadD, tz86, pack, TInfo.isAgg, Bool.false_eq_true, if_false, List.head?_eq_getElem?]; done) | (simp only [loadD, tz86, pack, TInfo.isAgg, Bool.false_eq_true, if_false, List.head?_eq_getElem?]; rfl)
theorem lp86 : loadD Zs g 86 (.ptr r off) = match g r with | some (.cells _ cs) => cs[off]? | _ => none := by first | (simp only [loadD, tz86, pack, TInfo.isAgg, Bool.false_eq_true, if_false, List.head?_drop]; done) | (simp only [loadD, tz86, pack, TInfo.isAgg, Bool.false_eq_true, if_false, List.head?_drop]; rfl)
theorem so86 : storeE Zs g 86 (.ptr r off) y = match y.cells with | some ys => (match g r with | some (.cells e cs) => if ys.length = 1 ∧ off + ys.length ≤ cs.length then some (.put r (.cells e (splice cs off ys))) else none | _ => none) | _ => none := by simp only [storeE, tz86]; cases y.cells <;> rfl
theorem al86 : allocR Zs 86 = some (.new (.cells 86 [.nilptr])) := by rfl
theorem mi86 : ifaceD Zs 86 x = some (.iface 86 x) := by first | (simp only [ifaceD, tz86]; done) | (simp only [ifaceD, tz86]; rfl)
theorem peql86 : binD Zs .eql 86 (.ptr r off) .nilptr = some (.bool false) := by simp [binD, isNum, eqT, tz86]
theorem paeql86 : binD Zs .eql 86 (.at cs) .nilptr = some (.bool false) := by simp [binD, isNum, eqT, tz86]
theorem pneql86 : binD Zs .eql 86 .nilptr .nilptr = some (.bool true) := by simp [binD, isNum, eqT, tz86]
theorem pneq86 : binD Zs .neq 86 (.ptr r off) .nilptr = some (.bool true) := by simp [binD, isNum, eqT, tz86]
theorem paneq86 : binD Zs .neq 86 (.at cs) .nilptr = some (.bool true) := by simp [binD, isNum, eqT, tz86]
theorem pnneq86 : binD Zs .neq 86 .nilptr .nilptr = some (.bool false) := by simp [binD, isNum, eqT, tz86]
theorem ld95 : loadD Zs g 95 (.at cs) = cs[0]? := by first | (simp only [loadD, tz95, pack, TInfo.isAgg, Bool.false_eq_true, if_false, List.head?_eq_getElem?]; done) | (simp only [loadD, tz95, pack, TInfo.isAgg, Bool.false_eq_true, if_false, List.head?_eq_getElem?]; rfl)
theorem lp95 : loadD Zs g 95 (.ptr r off) = match g r with | some (.cells _ cs) => cs[off]? | _ => none := by first | (simp only [loadD, tz95, pack, TInfo.isAgg, Bool.false_eq_true, if_false, List.head?_drop]; done) | (simp only [loadD, tz95, pack, TInfo.isAgg, Bool.false_eq_true, if_false, List.head?_drop]; rfl)
theorem so95 : storeE Zs g 95 (.ptr r off) y = match y.cells with | some ys => (match g r with | some (.cells e cs) => if ys.length = 1 ∧ off + ys.length ≤ cs.length then some (.put r (.cells e (splice cs off ys))) else none | _ => none) | _ => none := by simp only [storeE, tz95]; cases y.cells <;> rfl
theorem al95 : allocR Zs 95 = some (.new (.cells 95 [.int .u64 0])) := by rfl
theorem mi95 : ifaceD Zs 95 x = some (.iface 95 x) := by first | (simp only [ifaceD, tz95]; done) | (simp only [ifaceD, tz95]; rfl)
theorem ld96 : loadD Zs g 96 (.at cs) = cs[0]? := by first | (simp only [loadD, tz96, pack, TInfo.isAgg, Bool.false_eq_true, if_false, List.head?_eq_getElem?]; done) | (simp only [loadD, tz96, pack, TInfo.isAgg, Bool.false_eq_true, if_false, List.head?_eq_getElem?]; rfl)
theorem lp96 : loadD Zs g 96 (.ptr r off) = match g r with | some (.cells _ cs) => cs[off]? | _ => none := by first | (simp only [loadD, tz96, pack, TInfo.isAgg, Bool.false_eq_true, if_false, List.head?_drop]; done) | (simp only [loadD, tz96, pack, TInfo.isAgg, Bool.false_eq_true, if_false, List.head?_drop]; rfl)
theorem so96 : storeE Zs g 96 (.ptr r off) y = match y.cells with | some ys => (match g r with | some (.cells e cs) => if ys.length = 1 ∧ off + ys.length ≤ cs.length then some (.put r (.cells e (splice cs off ys))) else none | _ => none) | _ => none := by simp only [storeE, tz96]; cases y.cells <;> rfl
theorem al96 : allocR Zs 96 = some (.new (.cells 96 [.nilptr])) := by rfl
theorem mi96 : ifaceD Zs 96 x = some (.iface 96 x) := by first | (simp only [ifaceD, tz96]; done) | (simp only [ifaceD, tz96]; rfl)
theorem ld99 : loadD Zs g 99 (.at cs) = cs[0]? := by first | (simp only [loadD, tz99, pack, TInfo.isAgg, Bool.false_eq_true, if_false, List.head?_eq_getElem?]; done) | (simp only [loadD, tz99, pack, TInfo.isAgg, Bool.false_eq_true, if_false, List.head?_eq_getElem?]; rfl)
theorem lp99 : loadD Zs g 99 (.ptr r off) = match g r with | some (.cells _ cs) => cs[off]? | _ => none := by first | (simp only [loadD, tz99, pack, TInfo.isAgg, Bool.false_eq_true, if_false, List.head?_drop]; done) | (simp only [loadD, tz99, pack, TInfo.isAgg, Bool.false_eq_true, if_false, List.head?_drop]; rfl)
theorem so99 : storeE Zs g 99 (.ptr r off) y = match y.cells with | some ys => (match g r with | some (.cells e cs) => if ys.length = 1 ∧ off + ys.length ≤ cs.length then some (.put r (.cells e (splice cs off ys))) else none | _ => none) | _ => none := by simp only [storeE, tz99]; cases y.cells <;> rfl
theorem al99 : allocR Zs 99 = some (.new (.cells 99 [.int .i64 0])) := by rfl
theorem mi99 : ifaceD Zs 99 x = some (.iface 99 x) := by first | (simp only [ifaceD, tz99]; done) | (simp only [ifaceD, tz99]; rfl)
theorem ld107 : loadD Zs g 107 (.at cs) = cs[0]? := by first | (simp only [loadD, tz107, pack, TInfo.isAgg, Bool.false_eq_true, if_false, List.head?_eq_getElem?]; done) | (simp only [loadD, tz107, pack, TInfo.isAgg, Bool.false_eq_true, if_false, List.head?_eq_getElem?]; rfl)
theorem lp107 : loadD Zs g 107 (.ptr r off) = match g r with | some (.cells _ cs) => cs[off]? | _ => none := by first | (simp only [loadD, tz107, pack, TInfo.isAgg, Bool.false_eq_true, if_false, List.head?_drop]; done) | (simp only [loadD, tz107, pack, TInfo.isAgg, Bool.false_eq_true, if_false, List.head?_drop]; rfl)
theorem so107 : storeE Zs g 107 (.ptr r off) y = match y.cells with | some ys => (match g r with | some (.cells e cs) => if ys.length = 1 ∧ off + ys.length ≤ cs.length then some (.put r (.cells e (splice cs off ys))) else none | _ => none) | _ => none := by simp only [storeE, tz107]; cases y.cells <;> rfl
theorem al107 : allocR Zs 107 = some (.new (.cells 107 [.int .u32 0])) := by rfl
theorem mi107 : ifaceD Zs 107 x = some (.iface 107 x) := by first | (simp only [ifaceD, tz107]; done) | (simp only [ifaceD, tz107]; rfl)
theorem ld109 : loadD Zs g 109 (.at cs) = cs[0]? := by first | (simp only [loadD, tz109, pack, TInfo.isAgg, Bool.false_eq_true, if_false, List.head?_eq_getElem?]; done) | (simp only [loadD, tz109, pack, TInfo.isAgg, Bool.false_eq_true, if_false, List.head?_eq_getElem?]; rfl)
theorem lp109 : loadD Zs g 109 (.ptr r off) = match g r with | some (.cells _ cs) => cs[off]? | _ => none := by first | (simp only [loadD, tz109, pack, TInfo.isAgg, Bool.false_eq_true, if_false, List.head?_drop]; done) | (simp only [loadD, tz109, pack, TInfo.isAgg, Bool.false_eq_true, if_false, List.head?_drop]; rfl)
theorem so109 : storeE Zs g 109 (.ptr r off) y = match y.cells with | some ys => (match g r with | some (.cells e cs) => if ys.length = 1 ∧ off + ys.length ≤ cs.length then some (.put r (.cells e (splice cs off ys))) else none | _ => none) | _ => none := by simp only [storeE, tz109]; cases y.cells <;> rfl
theorem al109 : allocR Zs 109 = some (.new (.cells 109 [.int .u64 0])) := by rfl
theorem mi109 : ifaceD Zs 109 x = some (.iface 109 x) := by first | (simp only [ifaceD, tz109]; done) | (simp only [ifaceD, tz109]; rfl)
theorem ld111 : loadD Zs g 111 (.at cs) = cs[0]? := by first | (simp only [loadD, tz111, pack, TInfo.isAgg, Bool.false_eq_true, if_false, List.head?_eq_getElem?]; done) | (simp only [loadD, tz111, pack, TInfo.isAgg, Bool.false_eq_true, if_false, List.head?_eq_getElem?]; rfl)
theorem lp111 : loadD Zs g 111 (.ptr r off) = match g r with | some (.cells _ cs) => cs[off]? | _ => none := by first | (simp only [loadD, tz111, pack, TInfo.isAgg, Bool.false_eq_true, if_false, List.head?_drop]; done) | (simp only [loadD, tz111, pack, TInfo.isAgg, Bool.false_eq_true, if_false, List.head?_drop]; rfl)
theorem so111 : storeE Zs g 111 (.ptr r off) y = match y.cells with | some ys => (match g r with | some (.cells e cs) => if ys.length = 1 ∧ off + ys.length ≤ cs.length then some (.put r (.cells e (splice cs off ys))) else none | _ => none) | _ => none := by simp only [storeE, tz111]; cases y.cells <;> rfl
theorem al111 : allocR Zs 111 = some (.new (.cells 111 [.int .u64 0])) := by rfl
theorem mi111 : ifaceD Zs 111 x = some (.iface 111 x) := by first | (simp only [ifaceD, tz111]; done) | (simp only [ifaceD, tz111]; rfl)
theorem ld115 : loadD Zs g 115 (.at cs) = cs[0]? := by first | (simp only [loadD, tz115, pack, TInfo.isAgg, Bool.false_eq_true, if_false, List.head?_eq_getElem?]; done) | (simp only [loadD, tz115, pack, TInfo.isAgg, Bool.false_eq_true, if_false, List.head?_eq_getElem?]; rfl)
theorem lp115 : loadD Zs g 115 (.ptr r off) = match g r with | some (.cells _ cs) => cs[off]? | _ => none := by first | (simp only [loadD, tz115, pack, TInfo.isAgg, Bool.false_eq_true, if_false, List.head?_drop]; done) | (simp only [loadD, tz115, pack, TInfo.isAgg, Bool.false_eq_true, if_false, List.head?_drop]; rfl)
theorem so115 : storeE Zs g 115 (.ptr r off) y = match y.cells with | some ys => (match g r with | some (.cells e cs) => if ys.length = 1 ∧ off + ys.length ≤ cs.length then some (.put r (.cells e (splice cs off ys))) else none | _ => none) | _ => none := by simp only [storeE, tz115]; cases y.cells <;> rfl
theorem al115 : allocR Zs 115 = some (.new (.cells 115 [.nilptr])) := by rfl
theorem mi115 : ifaceD Zs 115 x = some (.iface 115 x) := by first | (simp only [ifaceD, tz115]; done) | (simp only [ifaceD, tz115]; rfl)
theorem peql115 : binD Zs .eql 115 (.ptr r off) .nilptr = some (.bool false) := by simp [binD, isNum, eqT, tz115]
theorem paeql115 : binD Zs .eql 115 (.at cs) .nilptr = some (.bool false) := by simp [binD, isNum, eqT, tz115]
theorem pneql115 : binD Zs .eql 115 .nilptr .nilptr = some (.bool true) := by simp [binD, isNum, eqT, tz115]
theorem pneq115 : binD Zs .neq 115 (.ptr r off) .nilptr = some (.bool true) := by simp [binD, isNum, eqT, tz115]
theorem paneq115 : binD Zs .neq 115 (.at cs) .nilptr = some (.bool true) := by simp [binD, isNum, eqT, tz115]
theorem pnneq115 : binD Zs .neq 115 .nilptr .nilptr = some (.bool false) := by simp [binD, isNum, eqT, tz115]
theorem cv3_95 : convD Zs 3 95 (.int k i) = some (.int .u64 (IntKind.wrap .u64 i)) := by first | (simp only [convD, tz3, tz95]; done) | (simp only [convD, tz3, tz95]; rfl)
theorem cv3_111 : convD Zs 3 111 (.int k i) = some (.int .u64 (IntKind.wrap .u64 i)) := by first | (simp only [convD, tz3, tz111]; done) | (simp only [convD, tz3, tz111]; rfl)
theorem cv5_3 : convD Zs 5 3 (.int k i) = some (.int .i64 (IntKind.wrap .i64 i)) := by first | (simp only [convD, tz5, tz3]; done) | (simp only [convD, tz5, tz3]; rfl)
theorem cv5_107 : convD Zs 5 107 (.int k i) = some (.int .u32 (IntKind.wrap .u32 i)) := by first | (simp only [convD, tz5, tz107]; done) | (simp only [convD, tz5, tz107]; rfl)
theorem cv9_67 : convD Zs 9 67 (.str s) = some (.sl .no s.size (s.data.toList.map fun b => .int .u8 b.toNat)) := by first | (simp only [convD, tz9, tz67, tz5]; done) | (simp only [convD, tz9, tz67, tz5]; rfl)
theorem cv67_9 : convD Zs 67 9 (.sl o n cs) = if cs.length = n then (bytesD cs).map fun ns => .str (pushB ns) else none := by first | (simp only [convD, tz67, tz9, tz5]; done) | (simp only [convD, tz67, tz9, tz5]; rfl)
theorem cv95_3 : convD Zs 95 3 (.int k i) = some (.int .i64 (IntKind.wrap .i64 i)) := by first | (simp only [convD, tz95, tz3]; done) | (simp only [convD, tz95, tz3]; rfl)
theorem cv95_107 : convD Zs 95 107 (.int k i) = some (.int .u32 (IntKind.wrap .u32 i)) := by first | (simp only [convD, tz95, tz107]; done) | (simp only [convD, tz95, tz107]; rfl)
theorem cv107_5 : convD Zs 107 5 (.int k i) = some (.int .u8 (IntKind.wrap .u8 i)) := by first | (simp only [convD, tz107, tz5]; done) | (simp only [convD, tz107, tz5]; rfl)
theorem cv109_5 : convD Zs 109 5 (.int k i) = some (.int .u8 (IntKind.wrap .u8 i)) := by first | (simp only [convD, tz109, tz5]; done) | (simp only [convD, tz109, tz5]; rfl)
theorem km43_110 {ds : List D} {σ : Heap} {K : D → Heap → Prop} {h : Keep K} : kMeth Zs 43 "ablaut/token.length" x ds σ K h = kCall Zs 110 (x :: ds) σ K h := kMeth_some zm43_110
theorem ks43_110 {ds : List D} {σ : Heap} {K : D → Prop} {h : Keep K} : kSMeth Zs 43 "ablaut/token.length" x ds σ K h = kSCall Zs 110 (x :: ds) σ K h := kSMeth_some zm43_110
theorem md43_110 : methD Zs "ablaut/token.length" 43 = some (.meth "ablaut/token.length" 43) := by simp [methD, zm43_110]
theorem km45_114 {ds : List D} {σ : Heap} {K : D → Heap → Prop} {h : Keep K} : kMeth Zs 45 "ablaut/token.length" x ds σ K h = kCall Zs 114 (x :: ds) σ K h := kMeth_some zm45_114
theorem ks45_114 {ds : List D} {σ : Heap} {K : D → Prop} {h : Keep K} : kSMeth Zs 45 "ablaut/token.length" x ds σ K h = kSCall Zs 114 (x :: ds) σ K h := kSMeth_some zm45_114
theorem md45_114 : methD Zs "ablaut/token.length" 45 = some (.meth "ablaut/token.length" 45) := by simp [methD, zm45_114]
theorem km46_116 {ds : List D} {σ : Heap} {K : D → Heap → Prop} {h : Keep K} : kMeth Zs 46 "ablaut/token.length" x ds σ K h = kCall Zs 116 (x :: ds) σ K h := kMeth_some zm46_116
theorem ks46_116 {ds : List D} {σ : Heap} {K : D → Prop} {h : Keep K} : kSMeth Zs 46 "ablaut/token.length" x ds σ K h = kSCall Zs 116 (x :: ds) σ K h := kSMeth_some zm46_116
theorem md46_116 : methD Zs "ablaut/token.length" 46 = some (.meth "ablaut/token.length" 46) := by simp [methD, zm46_116]
theorem km47_117 {ds : List D} {σ : Heap} {K : D → Heap → Prop} {h : Keep K} : kMeth Zs 47 "ablaut/token.length" x ds σ K h = kCall Zs 117 (x :: ds) σ K h := kMeth_some zm47_117
theorem ks47_117 {ds : List D} {σ : Heap} {K : D → Prop} {h : Keep K} : kSMeth Zs 47 "ablaut/token.length" x ds σ K h = kSCall Zs 117 (x :: ds) σ K h := kSMeth_some zm47_117
theorem md47_117 : methD Zs "ablaut/token.length" 47 = some (.meth "ablaut/token.length" 47) := by simp [methD, zm47_117]
theorem ta43_43 : assertD Zs 43 (.iface 43 x) true = some (.tup [x, .bool true]) := by simp [assertD, tz43, zeroD, ofV]
theorem ta43_45 : assertD Zs 43 (.iface 45 x) true = some (.tup [.sl .nil 0 [], .bool false]) := by simp [assertD, tz43, zeroD, ofV]
theorem ta43_46 : assertD Zs 43 (.iface 46 x) true = some (.tup [.sl .nil 0 [], .bool false]) := by simp [assertD, tz43, zeroD, ofV]
theorem ta43_47 : assertD Zs 43 (.iface 47 x) true = some (.tup [.sl .nil 0 [], .bool false]) := by simp [assertD, tz43, zeroD, ofV]
theorem ta45_43 : assertD Zs 45 (.iface 43 x) true = some (.tup [.agg [], .bool false]) := by simp [assertD, tz45, zeroD, ofV]
theorem ta45_45 : assertD Zs 45 (.iface 45 x) true = some (.tup [x, .bool true]) := by simp [assertD, tz45, zeroD, ofV]
theorem ta45_46 : assertD Zs 45 (.iface 46 x) true = some (.tup [.agg [], .bool false]) := by simp [assertD, tz45, zeroD, ofV]
theorem ta45_47 : assertD Zs 45 (.iface 47 x) true = some (.tup [.agg [], .bool false]) := by simp [assertD, tz45, zeroD, ofV]
theorem ta46_43 : assertD Zs 46 (.iface 43 x) true = some (.tup [.agg [], .bool false]) := by simp [assertD, tz46, zeroD, ofV]
theorem ta46_45 : assertD Zs 46 (.iface 45 x) true = some (.tup [.agg [], .bool false]) := by simp [assertD, tz46, zeroD, ofV]
theorem ta46_46 : assertD Zs 46 (.iface 46 x) true = some (.tup [x, .bool true]) := by simp [assertD, tz46, zeroD, ofV]
theorem ta46_47 : assertD Zs 46 (.iface 47 x) true = some (.tup [.agg [], .bool false]) := by simp [assertD, tz46, zeroD, ofV]
theorem co0 : ofV (.string ⟨#[34, 41, 39]⟩) = .str ⟨#[34, 41, 39]⟩ := (rfl)
theorem co1 : ofV (.string ⟨#[39, 115]⟩) = .str ⟨#[39, 115]⟩ := (rfl)
theorem co2 : ofV (.string ⟨#[46, 33, 63]⟩) = .str ⟨#[46, 33, 63]⟩ := (rfl)
theorem co3 : ofV (.string ⟨#[68, 114, 46, 32, 76, 101, 101, 39, 115, 32, 99, 97, 116, 46, 32, 73, 116, 32, 114, 97, 110, 46]⟩) = .str ⟨#[68, 114, 46, 32, 76, 101, 101, 39, 115, 32, 99, 97, 116, 46, 32, 73, 116, 32, 114, 97, 110, 46]⟩ := (rfl)
theorem co4 : ofV (.string ⟨#[68, 114, 46]⟩) = .str ⟨#[68, 114, 46]⟩ := (rfl)
theorem co5 : ofV (.string ⟨#[]⟩) = .str ⟨#[]⟩ := (rfl)
end
end Go.Proofs.Ytapkbkniooleaaa.Vs
