/- Operations at the seat's types, written by dgen.py. -/
import Derived.Test.YtapkbkniooleaaaGreatDmTy
import Derived.Test.YtapkbkniooleaaaGreatDmLib
namespace Go.Proofs.YtapkbkniooleaaaGreat.Vs
set_option linter.unusedVariables false
set_option linter.unusedSimpArgs false
section
variable {g : Nat → Option AO} {cs cs' : List D} {x y x3 : D} {o : Own} {n n' nx : Nat} {r off o' : Nat} {i : Int} {k : IntKind} {s : ByteArray} {lo hi : Option D}
theorem ld3 : loadD Zs g 3 (.at cs) = cs[0]? := by first | (simp only [loadD, tz3, pack, TInfo.isAgg, Bool.false_eq_true, if_false, List.head?_eq_getElem?]; done) | (simp only [loadD, tz3, pack, TInfo.isAgg, Bool.false_eq_true, if_false, List.head?_eq_getElem?]; rfl)
theorem lp3 : loadD Zs g 3 (.ptr r off) = match g r with | some (.cells _ cs) => cs[off]? | _ => none := by first | (simp only [loadD, tz3, pack, TInfo.isAgg, Bool.false_eq_true, if_false, List.head?_drop]; done) | (simp only [loadD, tz3, pack, TInfo.isAgg, Bool.false_eq_true, if_false, List.head?_drop]; rfl)
theorem so3 : storeE Zs g 3 (.ptr r off) y = match y.cells with | some ys => (match g r with | some (.cells e cs) => if ys.length = 1 ∧ off + ys.length ≤ cs.length then some (.put r (.cells e (splice cs off ys))) else none | _ => none) | _ => none := by simp only [storeE, tz3]; cases y.cells <;> rfl
theorem al3 : allocR Zs 3 = some (.new (.cells 3 [.int .i64 0])) := by rfl
theorem mi3 : ifaceD Zs 3 x = some (.iface 3 x) := by first | (simp only [ifaceD, tz3]; done) | (simp only [ifaceD, tz3]; rfl)
theorem ld4 : loadD Zs g 4 (.at cs) = cs[0]? := by first | (simp only [loadD, tz4, pack, TInfo.isAgg, Bool.false_eq_true, if_false, List.head?_eq_getElem?]; done) | (simp only [loadD, tz4, pack, TInfo.isAgg, Bool.false_eq_true, if_false, List.head?_eq_getElem?]; rfl)
theorem lp4 : loadD Zs g 4 (.ptr r off) = match g r with | some (.cells _ cs) => cs[off]? | _ => none := by first | (simp only [loadD, tz4, pack, TInfo.isAgg, Bool.false_eq_true, if_false, List.head?_drop]; done) | (simp only [loadD, tz4, pack, TInfo.isAgg, Bool.false_eq_true, if_false, List.head?_drop]; rfl)
theorem so4 : storeE Zs g 4 (.ptr r off) y = match y.cells with | some ys => (match g r with | some (.cells e cs) => if ys.length = 1 ∧ off + ys.length ≤ cs.length then some (.put r (.cells e (splice cs off ys))) else none | _ => none) | _ => none := by simp only [storeE, tz4]; cases y.cells <;> rfl
theorem al4 : allocR Zs 4 = some (.new (.cells 4 [.bool false])) := by rfl
theorem mi4 : ifaceD Zs 4 x = some (.iface 4 x) := by first | (simp only [ifaceD, tz4]; done) | (simp only [ifaceD, tz4]; rfl)
theorem bq4 {a b : Bool} : binD Zs .eql 4 (.bool a) (.bool b) = some (.bool (a == b)) := by simp [binD, isNum, eqT, tz4, eqS]
theorem bn4 {a b : Bool} : binD Zs .neq 4 (.bool a) (.bool b) = some (.bool (!(a == b))) := by simp [binD, isNum, eqT, tz4, eqS]
theorem ld5 : loadD Zs g 5 (.at cs) = cs[0]? := by first | (simp only [loadD, tz5, pack, TInfo.isAgg, Bool.false_eq_true, if_false, List.head?_eq_getElem?]; done) | (simp only [loadD, tz5, pack, TInfo.isAgg, Bool.false_eq_true, if_false, List.head?_eq_getElem?]; rfl)
theorem lp5 : loadD Zs g 5 (.ptr r off) = match g r with | some (.cells _ cs) => cs[off]? | _ => none := by first | (simp only [loadD, tz5, pack, TInfo.isAgg, Bool.false_eq_true, if_false, List.head?_drop]; done) | (simp only [loadD, tz5, pack, TInfo.isAgg, Bool.false_eq_true, if_false, List.head?_drop]; rfl)
theorem so5 : storeE Zs g 5 (.ptr r off) y = match y.cells with | some ys => (match g r with | some (.cells e cs) => if ys.length = 1 ∧ off + ys.length ≤ cs.length then some (.put r (.cells e (splice cs off ys))) else none | _ => none) | _ => none := by simp only [storeE, tz5]; cases y.cells <;> rfl
theorem al5 : allocR Zs 5 = some (.new (.cells 5 [.int .u8 0])) := by rfl
theorem mi5 : ifaceD Zs 5 x = some (.iface 5 x) := by first | (simp only [ifaceD, tz5]; done) | (simp only [ifaceD, tz5]; rfl)
theorem ld9 : loadD Zs g 9 (.at cs) = cs[0]? := by first | (simp only [loadD, tz9, pack, TInfo.isAgg, Bool.false_eq_true, if_false, List.head?_eq_getElem?]; done) | (simp only [loadD, tz9, pack, TInfo.isAgg, Bool.false_eq_true, if_false, List.head?_eq_getElem?]; rfl)
theorem lp9 : loadD Zs g 9 (.ptr r off) = match g r with | some (.cells _ cs) => cs[off]? | _ => none := by first | (simp only [loadD, tz9, pack, TInfo.isAgg, Bool.false_eq_true, if_false, List.head?_drop]; done) | (simp only [loadD, tz9, pack, TInfo.isAgg, Bool.false_eq_true, if_false, List.head?_drop]; rfl)
theorem so9 : storeE Zs g 9 (.ptr r off) y = match y.cells with | some ys => (match g r with | some (.cells e cs) => if ys.length = 1 ∧ off + ys.length ≤ cs.length then some (.put r (.cells e (splice cs off ys))) else none | _ => none) | _ => none := by simp only [storeE, tz9]; cases y.cells <;> rfl
theorem al9 : allocR Zs 9 = some (.new (.cells 9 [.str ⟨#[]⟩])) := by rfl
theorem mi9 : ifaceD Zs 9 x = some (.iface 9 x) := by first | (simp only [ifaceD, tz9]; done) | (simp only [ifaceD, tz9]; rfl)
theorem ln9 : lenD Zs g #[9] (.str s) = some (.int .i64 s.size) := by simp [lenD, tz9]
theorem ie9 : indexD Zs 9 (.str s) (.int k i) = if 0 ≤ i ∧ i < s.size then some (.int .u8 (byteAt s i.toNat)) else none := by first | (simp only [indexD, tz9]; done) | (simp only [indexD, tz9]; rfl)
theorem sl9 : sliceD Zs g 9 (.str s) lo hi none = match bound lo 0, bound hi s.size with | some l, some h => if 0 ≤ l ∧ l ≤ h ∧ h ≤ s.size then some (.str (s.extract l.toNat h.toNat)) else none | _, _ => none := by first | (simp only [sliceD, tz9]; done) | (simp only [sliceD, tz9]; rfl)
theorem ld22 : loadD Zs g 22 (.at cs) = cs[0]? := by first | (simp only [loadD, tz22, pack, TInfo.isAgg, Bool.false_eq_true, if_false, List.head?_eq_getElem?]; done) | (simp only [loadD, tz22, pack, TInfo.isAgg, Bool.false_eq_true, if_false, List.head?_eq_getElem?]; rfl)
theorem lp22 : loadD Zs g 22 (.ptr r off) = match g r with | some (.cells _ cs) => cs[off]? | _ => none := by first | (simp only [loadD, tz22, pack, TInfo.isAgg, Bool.false_eq_true, if_false, List.head?_drop]; done) | (simp only [loadD, tz22, pack, TInfo.isAgg, Bool.false_eq_true, if_false, List.head?_drop]; rfl)
theorem so22 : storeE Zs g 22 (.ptr r off) y = match y.cells with | some ys => (match g r with | some (.cells e cs) => if ys.length = 1 ∧ off + ys.length ≤ cs.length then some (.put r (.cells e (splice cs off ys))) else none | _ => none) | _ => none := by simp only [storeE, tz22]; cases y.cells <;> rfl
theorem al22 : allocR Zs 22 = some (.new (.cells 22 [.sl .nil 0 []])) := by rfl
theorem mi22 : ifaceD Zs 22 x = some (.iface 22 x) := by first | (simp only [ifaceD, tz22]; done) | (simp only [ifaceD, tz22]; rfl)
theorem mk22 {k' : IntKind} {m : Int} : makeSliceR Zs 0 22 (.int k i) (.int k' m) nx = if 0 ≤ i ∧ i ≤ m ∧ ((16 : Nat) : Int) * m ≤ 281474976710656 ∧ m ≤ (big : Int) then some (.row nx 0 i.toNat (some m.toNat) 1, .new (.cells 9 (List.replicate m.toNat (.str ⟨#[]⟩)))) else none := by exact mk_one tz22 tz9 rfl rfl rfl
theorem bs22_1 : buildSliceR Zs 0 22 1 [(0, x)] nx = lit1 x := by exact build1 tz22 tz9 rfl rfl rfl
theorem bs22_2 : buildSliceR Zs 0 22 2 [(0, x), (1, y)] nx = lit2 x y := by exact build2 tz22 tz9 rfl rfl rfl
theorem bs22_3 : buildSliceR Zs 0 22 3 [(0, x), (1, y), (2, x3)] nx = lit3 x y x3 := by exact build3 tz22 tz9 rfl rfl rfl
theorem ln22 : lenD Zs g #[22] (.sl o n cs) = some (.int .i64 n) := by simp [lenD, tz22]
theorem cpn22 : capD Zs #[22] (.sl .nil n cs) = some (.int .i64 0) := by simp [capD, tz22]
theorem cpr22 {kk z0 : Nat} : capD Zs #[22] (.row r off n (some kk) z0) = some (.int .i64 kk) := by simp [capD, tz22]
theorem lr22 {c0 : Option Nat} {z0 : Nat} : lenD Zs g #[22] (.row r off n c0 z0) = some (.int .i64 n) := by simp [lenD, tz22]
theorem ix22 : indexAddrD Zs 22 (.sl o n cs) (.int k i) = if (0 ≤ i ∧ i < n) ∧ 0 < cs.length then some (.at (cs.drop (i.toNat))) else none := by first | (simp only [indexAddrD, tz22, tz9, Nat.mul_one]; done) | (simp only [indexAddrD, tz22, tz9, Nat.mul_one]; rfl)
theorem ir22 {c0 : Option Nat} {z0 : Nat} : indexAddrD Zs 22 (.row r off n c0 z0) (.int k i) = if 0 ≤ i ∧ i < n then some (.ptr r (off + i.toNat)) else none := by first | (simp only [indexAddrD, tz22, tz9, Nat.mul_one]; done) | (simp only [indexAddrD, tz22, tz9, Nat.mul_one]; rfl)
theorem sl22 : sliceD Zs g 22 (.sl o n cs) lo hi none = match bound lo 0, bound hi n with | some l, some h => if 0 ≤ l ∧ l ≤ h ∧ h ≤ n ∧ cs.length = n then some (.sl (cutOwn o) (h.toNat - l.toNat) ((cs.drop (l.toNat)).take ((h.toNat - l.toNat)))) else none | _, _ => none := by simp only [sliceD, tz22, tz9, Nat.mul_one]; cases bound lo 0 <;> cases bound hi n <;> simp only [Nat.mul_one]
theorem en22 : binD Zs .eql 22 (.sl o n cs) (.sl .nil n' cs') = (nilOf o n).map .bool := by simp [binD, isNum, eqT, tz22]
theorem enr22 {c0 : Option Nat} {z0 : Nat} : binD Zs .eql 22 (.row r off n c0 z0) (.sl .nil n' cs') = some (.bool false) := by simp [binD, isNum, eqT, tz22]
theorem nn22 : binD Zs .neq 22 (.sl o n cs) (.sl .nil n' cs') = (nilOf o n).map fun b => .bool (!b) := by simp [binD, isNum, eqT, tz22]
theorem nnr22 {c0 : Option Nat} {z0 : Nat} : binD Zs .neq 22 (.row r off n c0 z0) (.sl .nil n' cs') = some (.bool true) := by simp [binD, isNum, eqT, tz22]
theorem ld23 : loadD Zs g 23 (.at cs) = if 4 ≤ cs.length then some (.agg (cs.take 4)) else none := by first | (simp only [loadD, tz23, pack, TInfo.isAgg, if_true]; done) | (simp only [loadD, tz23, pack, TInfo.isAgg, if_true]; rfl)
theorem lp23 : loadD Zs g 23 (.ptr r off) = match g r with | some (.cells _ cs) => (if 4 ≤ (cs.drop off).length then some (.agg ((cs.drop off).take 4)) else none) | _ => none := by first | (simp only [loadD, tz23, pack, TInfo.isAgg, if_true]; done) | (simp only [loadD, tz23, pack, TInfo.isAgg, if_true]; rfl)
theorem so23 : storeE Zs g 23 (.ptr r off) y = match y.cells with | some ys => (match g r with | some (.cells e cs) => if ys.length = 4 ∧ off + ys.length ≤ cs.length then some (.put r (.cells e (splice cs off ys))) else none | _ => none) | _ => none := by simp only [storeE, tz23]; cases y.cells <;> rfl
theorem al23 : allocR Zs 23 = some (.new (.cells 23 [.sl .nil 0 [], .sl .nil 0 [], .sl .nil 0 [], .sl .nil 0 []])) := by rfl
theorem mi23 : ifaceD Zs 23 x = some (.iface 23 x) := by first | (simp only [ifaceD, tz23]; done) | (simp only [ifaceD, tz23]; rfl)
theorem fa23_0 : fieldAddrD Zs 23 0 (.at cs) = some (.at (cs.drop 0)) := by simp [fieldAddrD, fieldOf, tz23, tz22]
theorem fp23_0 : fieldAddrD Zs 23 0 (.ptr r o') = some (.ptr r (o' + 0)) := by simp [fieldAddrD, fieldOf, tz23, tz22]
theorem fl23_0 : fieldD Zs 23 0 (.agg cs) = cs[0]? := by simp [fieldD, fieldOf, tz23, tz22, partD, TInfo.isAgg]
theorem fa23_1 : fieldAddrD Zs 23 1 (.at cs) = some (.at (cs.drop 1)) := by simp [fieldAddrD, fieldOf, tz23, tz22]
theorem fp23_1 : fieldAddrD Zs 23 1 (.ptr r o') = some (.ptr r (o' + 1)) := by simp [fieldAddrD, fieldOf, tz23, tz22]
theorem fl23_1 : fieldD Zs 23 1 (.agg cs) = cs[1]? := by simp [fieldD, fieldOf, tz23, tz22, partD, TInfo.isAgg]
theorem fa23_2 : fieldAddrD Zs 23 2 (.at cs) = some (.at (cs.drop 2)) := by simp [fieldAddrD, fieldOf, tz23, tz22]
theorem fp23_2 : fieldAddrD Zs 23 2 (.ptr r o') = some (.ptr r (o' + 2)) := by simp [fieldAddrD, fieldOf, tz23, tz22]
theorem fl23_2 : fieldD Zs 23 2 (.agg cs) = cs[2]? := by simp [fieldD, fieldOf, tz23, tz22, partD, TInfo.isAgg]
theorem fa23_3 : fieldAddrD Zs 23 3 (.at cs) = some (.at (cs.drop 3)) := by simp [fieldAddrD, fieldOf, tz23, tz22]
theorem fp23_3 : fieldAddrD Zs 23 3 (.ptr r o') = some (.ptr r (o' + 3)) := by simp [fieldAddrD, fieldOf, tz23, tz22]
theorem fl23_3 : fieldD Zs 23 3 (.agg cs) = cs[3]? := by simp [fieldD, fieldOf, tz23, tz22, partD, TInfo.isAgg]
theorem ld24 : loadD Zs g 24 (.at cs) = if 4 ≤ cs.length then some (.agg (cs.take 4)) else none := by first | (simp only [loadD, tz24, pack, TInfo.isAgg, if_true]; done) | (simp only [loadD, tz24, pack, TInfo.isAgg, if_true]; rfl)
theorem lp24 : loadD Zs g 24 (.ptr r off) = match g r with | some (.cells _ cs) => (if 4 ≤ (cs.drop off).length then some (.agg ((cs.drop off).take 4)) else none) | _ => none := by first | (simp only [loadD, tz24, pack, TInfo.isAgg, if_true]; done) | (simp only [loadD, tz24, pack, TInfo.isAgg, if_true]; rfl)
theorem so24 : storeE Zs g 24 (.ptr r off) y = match y.cells with | some ys => (match g r with | some (.cells e cs) => if ys.length = 4 ∧ off + ys.length ≤ cs.length then some (.put r (.cells e (splice cs off ys))) else none | _ => none) | _ => none := by simp only [storeE, tz24]; cases y.cells <;> rfl
theorem al24 : allocR Zs 24 = some (.new (.cells 24 [.sl .nil 0 [], .sl .nil 0 [], .sl .nil 0 [], .sl .nil 0 []])) := by rfl
theorem mi24 : ifaceD Zs 24 x = some (.iface 24 x) := by first | (simp only [ifaceD, tz24]; done) | (simp only [ifaceD, tz24]; rfl)
theorem fa24_0 : fieldAddrD Zs 24 0 (.at cs) = some (.at (cs.drop 0)) := by simp [fieldAddrD, fieldOf, tz24, tz22]
theorem fp24_0 : fieldAddrD Zs 24 0 (.ptr r o') = some (.ptr r (o' + 0)) := by simp [fieldAddrD, fieldOf, tz24, tz22]
theorem fl24_0 : fieldD Zs 24 0 (.agg cs) = cs[0]? := by simp [fieldD, fieldOf, tz24, tz22, partD, TInfo.isAgg]
theorem fa24_1 : fieldAddrD Zs 24 1 (.at cs) = some (.at (cs.drop 1)) := by simp [fieldAddrD, fieldOf, tz24, tz22]
theorem fp24_1 : fieldAddrD Zs 24 1 (.ptr r o') = some (.ptr r (o' + 1)) := by simp [fieldAddrD, fieldOf, tz24, tz22]
theorem fl24_1 : fieldD Zs 24 1 (.agg cs) = cs[1]? := by simp [fieldD, fieldOf, tz24, tz22, partD, TInfo.isAgg]
theorem fa24_2 : fieldAddrD Zs 24 2 (.at cs) = some (.at (cs.drop 2)) := by simp [fieldAddrD, fieldOf, tz24, tz22]
theorem fp24_2 : fieldAddrD Zs 24 2 (.ptr r o') = some (.ptr r (o' + 2)) := by simp [fieldAddrD, fieldOf, tz24, tz22]
theorem fl24_2 : fieldD Zs 24 2 (.agg cs) = cs[2]? := by simp [fieldD, fieldOf, tz24, tz22, partD, TInfo.isAgg]
theorem fa24_3 : fieldAddrD Zs 24 3 (.at cs) = some (.at (cs.drop 3)) := by simp [fieldAddrD, fieldOf, tz24, tz22]
theorem fp24_3 : fieldAddrD Zs 24 3 (.ptr r o') = some (.ptr r (o' + 3)) := by simp [fieldAddrD, fieldOf, tz24, tz22]
theorem fl24_3 : fieldD Zs 24 3 (.agg cs) = cs[3]? := by simp [fieldD, fieldOf, tz24, tz22, partD, TInfo.isAgg]
theorem ld27 : loadD Zs g 27 (.at cs) = cs[0]? := by first | (simp only [loadD, tz27, pack, TInfo.isAgg, Bool.false_eq_true, if_false, List.head?_eq_getElem?]; done) | (simp only [loadD, tz27, pack, TInfo.isAgg, Bool.false_eq_true, if_false, List.head?_eq_getElem?]; rfl)
theorem lp27 : loadD Zs g 27 (.ptr r off) = match g r with | some (.cells _ cs) => cs[off]? | _ => none := by first | (simp only [loadD, tz27, pack, TInfo.isAgg, Bool.false_eq_true, if_false, List.head?_drop]; done) | (simp only [loadD, tz27, pack, TInfo.isAgg, Bool.false_eq_true, if_false, List.head?_drop]; rfl)
theorem so27 : storeE Zs g 27 (.ptr r off) y = match y.cells with | some ys => (match g r with | some (.cells e cs) => if ys.length = 1 ∧ off + ys.length ≤ cs.length then some (.put r (.cells e (splice cs off ys))) else none | _ => none) | _ => none := by simp only [storeE, tz27]; cases y.cells <;> rfl
theorem al27 : allocR Zs 27 = some (.new (.cells 27 [.sl .nil 0 []])) := by rfl
theorem mi27 : ifaceD Zs 27 x = some (.iface 27 x) := by first | (simp only [ifaceD, tz27]; done) | (simp only [ifaceD, tz27]; rfl)
theorem mk27 {k' : IntKind} {m : Int} : makeSliceR Zs 0 27 (.int k i) (.int k' m) nx = if 0 ≤ i ∧ i ≤ m ∧ ((8 : Nat) : Int) * m ≤ 281474976710656 ∧ m ≤ (big : Int) then some (.row nx 0 i.toNat (some m.toNat) 1, .new (.cells 3 (List.replicate m.toNat (.int .i64 0)))) else none := by exact mk_one tz27 tz3 rfl rfl rfl
theorem bs27_1 : buildSliceR Zs 0 27 1 [(0, x)] nx = lit1 x := by exact build1 tz27 tz3 rfl rfl rfl
theorem bs27_2 : buildSliceR Zs 0 27 2 [(0, x), (1, y)] nx = lit2 x y := by exact build2 tz27 tz3 rfl rfl rfl
theorem bs27_3 : buildSliceR Zs 0 27 3 [(0, x), (1, y), (2, x3)] nx = lit3 x y x3 := by exact build3 tz27 tz3 rfl rfl rfl
theorem ln27 : lenD Zs g #[27] (.sl o n cs) = some (.int .i64 n) := by simp [lenD, tz27]
theorem cpn27 : capD Zs #[27] (.sl .nil n cs) = some (.int .i64 0) := by simp [capD, tz27]
theorem cpr27 {kk z0 : Nat} : capD Zs #[27] (.row r off n (some kk) z0) = some (.int .i64 kk) := by simp [capD, tz27]
theorem lr27 {c0 : Option Nat} {z0 : Nat} : lenD Zs g #[27] (.row r off n c0 z0) = some (.int .i64 n) := by simp [lenD, tz27]
theorem ix27 : indexAddrD Zs 27 (.sl o n cs) (.int k i) = if (0 ≤ i ∧ i < n) ∧ 0 < cs.length then some (.at (cs.drop (i.toNat))) else none := by first | (simp only [indexAddrD, tz27, tz3, Nat.mul_one]; done) | (simp only [indexAddrD, tz27, tz3, Nat.mul_one]; rfl)
theorem ir27 {c0 : Option Nat} {z0 : Nat} : indexAddrD Zs 27 (.row r off n c0 z0) (.int k i) = if 0 ≤ i ∧ i < n then some (.ptr r (off + i.toNat)) else none := by first | (simp only [indexAddrD, tz27, tz3, Nat.mul_one]; done) | (simp only [indexAddrD, tz27, tz3, Nat.mul_one]; rfl)
theorem sl27 : sliceD Zs g 27 (.sl o n cs) lo hi none = match bound lo 0, bound hi n with | some l, some h => if 0 ≤ l ∧ l ≤ h ∧ h ≤ n ∧ cs.length = n then some (.sl (cutOwn o) (h.toNat - l.toNat) ((cs.drop (l.toNat)).take ((h.toNat - l.toNat)))) else none | _, _ => none := by simp only [sliceD, tz27, tz3, Nat.mul_one]; cases bound lo 0 <;> cases bound hi n <;> simp only [Nat.mul_one]
theorem en27 : binD Zs .eql 27 (.sl o n cs) (.sl .nil n' cs') = (nilOf o n).map .bool := by simp [binD, isNum, eqT, tz27]
theorem enr27 {c0 : Option Nat} {z0 : Nat} : binD Zs .eql 27 (.row r off n c0 z0) (.sl .nil n' cs') = some (.bool false) := by simp [binD, isNum, eqT, tz27]
theorem nn27 : binD Zs .neq 27 (.sl o n cs) (.sl .nil n' cs') = (nilOf o n).map fun b => .bool (!b) := by simp [binD, isNum, eqT, tz27]
theorem nnr27 {c0 : Option Nat} {z0 : Nat} : binD Zs .neq 27 (.row r off n c0 z0) (.sl .nil n' cs') = some (.bool true) := by simp [binD, isNum, eqT, tz27]
theorem ld28 : loadD Zs g 28 (.at cs) = cs[0]? := by first | (simp only [loadD, tz28, pack, TInfo.isAgg, Bool.false_eq_true, if_false, List.head?_eq_getElem?]; done) | (simp only [loadD, tz28, pack, TInfo.isAgg, Bool.false_eq_true, if_false, List.head?_eq_getElem?]; rfl)
theorem lp28 : loadD Zs g 28 (.ptr r off) = match g r with | some (.cells _ cs) => cs[off]? | _ => none := by first | (simp only [loadD, tz28, pack, TInfo.isAgg, Bool.false_eq_true, if_false, List.head?_drop]; done) | (simp only [loadD, tz28, pack, TInfo.isAgg, Bool.false_eq_true, if_false, List.head?_drop]; rfl)
theorem so28 : storeE Zs g 28 (.ptr r off) y = match y.cells with | some ys => (match g r with | some (.cells e cs) => if ys.length = 1 ∧ off + ys.length ≤ cs.length then some (.put r (.cells e (splice cs off ys))) else none | _ => none) | _ => none := by simp only [storeE, tz28]; cases y.cells <;> rfl
theorem al28 : allocR Zs 28 = some (.new (.cells 28 [.int .i64 0])) := by rfl
theorem mi28 : ifaceD Zs 28 x = some (.iface 28 x) := by first | (simp only [ifaceD, tz28]; done) | (simp only [ifaceD, tz28]; rfl)
theorem ld31 : loadD Zs g 31 (.at cs) = cs[0]? := by first | (simp only [loadD, tz31, pack, TInfo.isAgg, Bool.false_eq_true, if_false, List.head?_eq_getElem?]; done) | (simp only [loadD, tz31, pack, TInfo.isAgg, Bool.false_eq_true, if_false, List.head?_eq_getElem?]; rfl)
theorem lp31 : loadD Zs g 31 (.ptr r off) = match g r with | some (.cells _ cs) => cs[off]? | _ => none := by first | (simp only [loadD, tz31, pack, TInfo.isAgg, Bool.false_eq_true, if_false, List.head?_drop]; done) | (simp only [loadD, tz31, pack, TInfo.isAgg, Bool.false_eq_true, if_false, List.head?_drop]; rfl)
theorem so31 : storeE Zs g 31 (.ptr r off) y = match y.cells with | some ys => (match g r with | some (.cells e cs) => if ys.length = 1 ∧ off + ys.length ≤ cs.length then some (.put r (.cells e (splice cs off ys))) else none | _ => none) | _ => none := by simp only [storeE, tz31]; cases y.cells <;> rfl
theorem al31 : allocR Zs 31 = some (.new (.cells 31 [.sl .nil 0 []])) := by rfl
theorem mi31 : ifaceD Zs 31 x = some (.iface 31 x) := by first | (simp only [ifaceD, tz31]; done) | (simp only [ifaceD, tz31]; rfl)
theorem mk31 {k' : IntKind} {m : Int} : makeSliceR Zs 0 31 (.int k i) (.int k' m) nx = if 0 ≤ i ∧ i ≤ m ∧ ((1 : Nat) : Int) * m ≤ 281474976710656 ∧ m ≤ (big : Int) then some (.row nx 0 i.toNat (some m.toNat) 1, .new (.cells 4 (List.replicate m.toNat (.bool false)))) else none := by exact mk_one tz31 tz4 rfl rfl rfl
theorem bs31_1 : buildSliceR Zs 0 31 1 [(0, x)] nx = lit1 x := by exact build1 tz31 tz4 rfl rfl rfl
theorem bs31_2 : buildSliceR Zs 0 31 2 [(0, x), (1, y)] nx = lit2 x y := by exact build2 tz31 tz4 rfl rfl rfl
theorem bs31_3 : buildSliceR Zs 0 31 3 [(0, x), (1, y), (2, x3)] nx = lit3 x y x3 := by exact build3 tz31 tz4 rfl rfl rfl
theorem ln31 : lenD Zs g #[31] (.sl o n cs) = some (.int .i64 n) := by simp [lenD, tz31]
theorem cpn31 : capD Zs #[31] (.sl .nil n cs) = some (.int .i64 0) := by simp [capD, tz31]
theorem cpr31 {kk z0 : Nat} : capD Zs #[31] (.row r off n (some kk) z0) = some (.int .i64 kk) := by simp [capD, tz31]
theorem lr31 {c0 : Option Nat} {z0 : Nat} : lenD Zs g #[31] (.row r off n c0 z0) = some (.int .i64 n) := by simp [lenD, tz31]
theorem ix31 : indexAddrD Zs 31 (.sl o n cs) (.int k i) = if (0 ≤ i ∧ i < n) ∧ 0 < cs.length then some (.at (cs.drop (i.toNat))) else none := by first | (simp only [indexAddrD, tz31, tz4, Nat.mul_one]; done) | (simp only [indexAddrD, tz31, tz4, Nat.mul_one]; rfl)
theorem ir31 {c0 : Option Nat} {z0 : Nat} : indexAddrD Zs 31 (.row r off n c0 z0) (.int k i) = if 0 ≤ i ∧ i < n then some (.ptr r (off + i.toNat)) else none := by first | (simp only [indexAddrD, tz31, tz4, Nat.mul_one]; done) | (simp only [indexAddrD, tz31, tz4, Nat.mul_one]; rfl)
theorem sl31 : sliceD Zs g 31 (.sl o n cs) lo hi none = match bound lo 0, bound hi n with | some l, some h => if 0 ≤ l ∧ l ≤ h ∧ h ≤ n ∧ cs.length = n then some (.sl (cutOwn o) (h.toNat - l.toNat) ((cs.drop (l.toNat)).take ((h.toNat - l.toNat)))) else none | _, _ => none := by simp only [sliceD, tz31, tz4, Nat.mul_one]; cases bound lo 0 <;> cases bound hi n <;> simp only [Nat.mul_one]
theorem en31 : binD Zs .eql 31 (.sl o n cs) (.sl .nil n' cs') = (nilOf o n).map .bool := by simp [binD, isNum, eqT, tz31]
theorem enr31 {c0 : Option Nat} {z0 : Nat} : binD Zs .eql 31 (.row r off n c0 z0) (.sl .nil n' cs') = some (.bool false) := by simp [binD, isNum, eqT, tz31]
theorem nn31 : binD Zs .neq 31 (.sl o n cs) (.sl .nil n' cs') = (nilOf o n).map fun b => .bool (!b) := by simp [binD, isNum, eqT, tz31]
theorem nnr31 {c0 : Option Nat} {z0 : Nat} : binD Zs .neq 31 (.row r off n c0 z0) (.sl .nil n' cs') = some (.bool true) := by simp [binD, isNum, eqT, tz31]
theorem ld38 : loadD Zs g 38 (.at cs) = if 4 ≤ cs.length then some (.agg (cs.take 4)) else none := by first | (simp only [loadD, tz38, pack, TInfo.isAgg, if_true]; done) | (simp only [loadD, tz38, pack, TInfo.isAgg, if_true]; rfl)
theorem lp38 : loadD Zs g 38 (.ptr r off) = match g r with | some (.cells _ cs) => (if 4 ≤ (cs.drop off).length then some (.agg ((cs.drop off).take 4)) else none) | _ => none := by first | (simp only [loadD, tz38, pack, TInfo.isAgg, if_true]; done) | (simp only [loadD, tz38, pack, TInfo.isAgg, if_true]; rfl)
theorem so38 : storeE Zs g 38 (.ptr r off) y = match y.cells with | some ys => (match g r with | some (.cells e cs) => if ys.length = 4 ∧ off + ys.length ≤ cs.length then some (.put r (.cells e (splice cs off ys))) else none | _ => none) | _ => none := by simp only [storeE, tz38]; cases y.cells <;> rfl
theorem al38 : allocR Zs 38 = some (.new (.cells 38 [.sl .nil 0 [], .sl .nil 0 [], .sl .nil 0 [], .sl .nil 0 []])) := by rfl
theorem mi38 : ifaceD Zs 38 x = some (.iface 38 x) := by first | (simp only [ifaceD, tz38]; done) | (simp only [ifaceD, tz38]; rfl)
theorem ln38 : lenD Zs g #[38] x = some (.int .i64 4) := by cases x <;> simp [lenD, tz38]
theorem ix38 : indexAddrD Zs 38 (.at cs) (.int k i) = if 0 ≤ i ∧ i < (4 : Nat) then some (.at (cs.drop (i.toNat))) else none := by first | (simp only [indexAddrD, tz38, tz22, Nat.mul_one]; done) | (simp only [indexAddrD, tz38, tz22, Nat.mul_one]; rfl)
theorem ir38 : indexAddrD Zs 38 (.ptr r off) (.int k i) = if 0 ≤ i ∧ i < (4 : Nat) then some (.ptr r (off + i.toNat)) else none := by first | (simp only [indexAddrD, tz38, tz22, Nat.mul_one]; done) | (simp only [indexAddrD, tz38, tz22, Nat.mul_one]; rfl)
theorem ie38 : indexD Zs 38 (.agg cs) (.int k i) = if 0 ≤ i ∧ i < (4 : Nat) then cs[i.toNat]? else none := by first | (simp only [indexD, tz38, tz22, Nat.mul_one, partD, TInfo.isAgg, Bool.false_eq_true, if_false]; done) | (simp only [indexD, tz38, tz22, Nat.mul_one, partD, TInfo.isAgg, Bool.false_eq_true, if_false]; rfl)
theorem ld39 : loadD Zs g 39 (.at cs) = cs[0]? := by first | (simp only [loadD, tz39, pack, TInfo.isAgg, Bool.false_eq_true, if_false, List.head?_eq_getElem?]; done) | (simp only [loadD, tz39, pack, TInfo.isAgg, Bool.false_eq_true, if_false, List.head?_eq_getElem?]; rfl)
theorem lp39 : loadD Zs g 39 (.ptr r off) = match g r with | some (.cells _ cs) => cs[off]? | _ => none := by first | (simp only [loadD, tz39, pack, TInfo.isAgg, Bool.false_eq_true, if_false, List.head?_drop]; done) | (simp only [loadD, tz39, pack, TInfo.isAgg, Bool.false_eq_true, if_false, List.head?_drop]; rfl)
theorem so39 : storeE Zs g 39 (.ptr r off) y = match y.cells with | some ys => (match g r with | some (.cells e cs) => if ys.length = 1 ∧ off + ys.length ≤ cs.length then some (.put r (.cells e (splice cs off ys))) else none | _ => none) | _ => none := by simp only [storeE, tz39]; cases y.cells <;> rfl
theorem al39 : allocR Zs 39 = some (.new (.cells 39 [.sl .nil 0 []])) := by rfl
theorem mi39 : ifaceD Zs 39 x = some (.iface 39 x) := by first | (simp only [ifaceD, tz39]; done) | (simp only [ifaceD, tz39]; rfl)
theorem ln39 : lenD Zs g #[39] (.sl o n cs) = some (.int .i64 n) := by simp [lenD, tz39]
theorem cpn39 : capD Zs #[39] (.sl .nil n cs) = some (.int .i64 0) := by simp [capD, tz39]
theorem cpr39 {kk z0 : Nat} : capD Zs #[39] (.row r off n (some kk) z0) = some (.int .i64 kk) := by simp [capD, tz39]
theorem lr39 {c0 : Option Nat} {z0 : Nat} : lenD Zs g #[39] (.row r off n c0 z0) = some (.int .i64 n) := by simp [lenD, tz39]
theorem ix39 : indexAddrD Zs 39 (.sl o n cs) (.int k i) = if (0 ≤ i ∧ i < n) ∧ 0 < cs.length then some (.at (cs.drop (i.toNat * 4))) else none := by first | (simp only [indexAddrD, tz39, tz43, Nat.mul_one]; done) | (simp only [indexAddrD, tz39, tz43, Nat.mul_one]; rfl)
theorem ir39 {c0 : Option Nat} {z0 : Nat} : indexAddrD Zs 39 (.row r off n c0 z0) (.int k i) = if 0 ≤ i ∧ i < n then some (.ptr r (off + i.toNat * 4)) else none := by first | (simp only [indexAddrD, tz39, tz43, Nat.mul_one]; done) | (simp only [indexAddrD, tz39, tz43, Nat.mul_one]; rfl)
theorem sl39 : sliceD Zs g 39 (.sl o n cs) lo hi none = match bound lo 0, bound hi n with | some l, some h => if 0 ≤ l ∧ l ≤ h ∧ h ≤ n ∧ cs.length = n * 4 then some (.sl (cutOwn o) (h.toNat - l.toNat) ((cs.drop (l.toNat * 4)).take ((h.toNat - l.toNat) * 4))) else none | _, _ => none := by simp only [sliceD, tz39, tz43, Nat.mul_one]; cases bound lo 0 <;> cases bound hi n <;> simp only [Nat.mul_one]
theorem en39 : binD Zs .eql 39 (.sl o n cs) (.sl .nil n' cs') = (nilOf o n).map .bool := by simp [binD, isNum, eqT, tz39]
theorem enr39 {c0 : Option Nat} {z0 : Nat} : binD Zs .eql 39 (.row r off n c0 z0) (.sl .nil n' cs') = some (.bool false) := by simp [binD, isNum, eqT, tz39]
theorem nn39 : binD Zs .neq 39 (.sl o n cs) (.sl .nil n' cs') = (nilOf o n).map fun b => .bool (!b) := by simp [binD, isNum, eqT, tz39]
theorem nnr39 {c0 : Option Nat} {z0 : Nat} : binD Zs .neq 39 (.row r off n c0 z0) (.sl .nil n' cs') = some (.bool true) := by simp [binD, isNum, eqT, tz39]
theorem ld42 : loadD Zs g 42 (.at cs) = if 4 ≤ cs.length then some (.agg (cs.take 4)) else none := by first | (simp only [loadD, tz42, pack, TInfo.isAgg, if_true]; done) | (simp only [loadD, tz42, pack, TInfo.isAgg, if_true]; rfl)
theorem lp42 : loadD Zs g 42 (.ptr r off) = match g r with | some (.cells _ cs) => (if 4 ≤ (cs.drop off).length then some (.agg ((cs.drop off).take 4)) else none) | _ => none := by first | (simp only [loadD, tz42, pack, TInfo.isAgg, if_true]; done) | (simp only [loadD, tz42, pack, TInfo.isAgg, if_true]; rfl)
theorem so42 : storeE Zs g 42 (.ptr r off) y = match y.cells with | some ys => (match g r with | some (.cells e cs) => if ys.length = 4 ∧ off + ys.length ≤ cs.length then some (.put r (.cells e (splice cs off ys))) else none | _ => none) | _ => none := by simp only [storeE, tz42]; cases y.cells <;> rfl
theorem al42 : allocR Zs 42 = some (.new (.cells 42 [.int .i64 0, .int .i64 0, .int .i64 0, .str ⟨#[]⟩])) := by rfl
theorem mi42 : ifaceD Zs 42 x = some (.iface 42 x) := by first | (simp only [ifaceD, tz42]; done) | (simp only [ifaceD, tz42]; rfl)
theorem fa42_0 : fieldAddrD Zs 42 0 (.at cs) = some (.at (cs.drop 0)) := by simp [fieldAddrD, fieldOf, tz42, tz3]
theorem fp42_0 : fieldAddrD Zs 42 0 (.ptr r o') = some (.ptr r (o' + 0)) := by simp [fieldAddrD, fieldOf, tz42, tz3]
theorem fl42_0 : fieldD Zs 42 0 (.agg cs) = cs[0]? := by simp [fieldD, fieldOf, tz42, tz3, partD, TInfo.isAgg]
theorem fa42_1 : fieldAddrD Zs 42 1 (.at cs) = some (.at (cs.drop 1)) := by simp [fieldAddrD, fieldOf, tz42, tz3]
theorem fp42_1 : fieldAddrD Zs 42 1 (.ptr r o') = some (.ptr r (o' + 1)) := by simp [fieldAddrD, fieldOf, tz42, tz3]
theorem fl42_1 : fieldD Zs 42 1 (.agg cs) = cs[1]? := by simp [fieldD, fieldOf, tz42, tz3, partD, TInfo.isAgg]
theorem fa42_2 : fieldAddrD Zs 42 2 (.at cs) = some (.at (cs.drop 2)) := by simp [fieldAddrD, fieldOf, tz42, tz3]
theorem fp42_2 : fieldAddrD Zs 42 2 (.ptr r o') = some (.ptr r (o' + 2)) := by simp [fieldAddrD, fieldOf, tz42, tz3]
theorem fl42_2 : fieldD Zs 42 2 (.agg cs) = cs[2]? := by simp [fieldD, fieldOf, tz42, tz3, partD, TInfo.isAgg]
theorem fa42_3 : fieldAddrD Zs 42 3 (.at cs) = some (.at (cs.drop 3)) := by simp [fieldAddrD, fieldOf, tz42, tz9]
theorem fp42_3 : fieldAddrD Zs 42 3 (.ptr r o') = some (.ptr r (o' + 3)) := by simp [fieldAddrD, fieldOf, tz42, tz9]
theorem fl42_3 : fieldD Zs 42 3 (.agg cs) = cs[3]? := by simp [fieldD, fieldOf, tz42, tz9, partD, TInfo.isAgg]
theorem ld43 : loadD Zs g 43 (.at cs) = if 4 ≤ cs.length then some (.agg (cs.take 4)) else none := by first | (simp only [loadD, tz43, pack, TInfo.isAgg, if_true]; done) | (simp only [loadD, tz43, pack, TInfo.isAgg, if_true]; rfl)
theorem lp43 : loadD Zs g 43 (.ptr r off) = match g r with | some (.cells _ cs) => (if 4 ≤ (cs.drop off).length then some (.agg ((cs.drop off).take 4)) else none) | _ => none := by first | (simp only [loadD, tz43, pack, TInfo.isAgg, if_true]; done) | (simp only [loadD, tz43, pack, TInfo.isAgg, if_true]; rfl)
theorem so43 : storeE Zs g 43 (.ptr r off) y = match y.cells with | some ys => (match g r with | some (.cells e cs) => if ys.length = 4 ∧ off + ys.length ≤ cs.length then some (.put r (.cells e (splice cs off ys))) else none | _ => none) | _ => none := by simp only [storeE, tz43]; cases y.cells <;> rfl
theorem al43 : allocR Zs 43 = some (.new (.cells 43 [.int .i64 0, .int .i64 0, .int .i64 0, .str ⟨#[]⟩])) := by rfl
theorem mi43 : ifaceD Zs 43 x = some (.iface 43 x) := by first | (simp only [ifaceD, tz43]; done) | (simp only [ifaceD, tz43]; rfl)
theorem fa43_0 : fieldAddrD Zs 43 0 (.at cs) = some (.at (cs.drop 0)) := by simp [fieldAddrD, fieldOf, tz43, tz3]
theorem fp43_0 : fieldAddrD Zs 43 0 (.ptr r o') = some (.ptr r (o' + 0)) := by simp [fieldAddrD, fieldOf, tz43, tz3]
theorem fl43_0 : fieldD Zs 43 0 (.agg cs) = cs[0]? := by simp [fieldD, fieldOf, tz43, tz3, partD, TInfo.isAgg]
theorem fa43_1 : fieldAddrD Zs 43 1 (.at cs) = some (.at (cs.drop 1)) := by simp [fieldAddrD, fieldOf, tz43, tz3]
theorem fp43_1 : fieldAddrD Zs 43 1 (.ptr r o') = some (.ptr r (o' + 1)) := by simp [fieldAddrD, fieldOf, tz43, tz3]
theorem fl43_1 : fieldD Zs 43 1 (.agg cs) = cs[1]? := by simp [fieldD, fieldOf, tz43, tz3, partD, TInfo.isAgg]
theorem fa43_2 : fieldAddrD Zs 43 2 (.at cs) = some (.at (cs.drop 2)) := by simp [fieldAddrD, fieldOf, tz43, tz3]
theorem fp43_2 : fieldAddrD Zs 43 2 (.ptr r o') = some (.ptr r (o' + 2)) := by simp [fieldAddrD, fieldOf, tz43, tz3]
theorem fl43_2 : fieldD Zs 43 2 (.agg cs) = cs[2]? := by simp [fieldD, fieldOf, tz43, tz3, partD, TInfo.isAgg]
theorem fa43_3 : fieldAddrD Zs 43 3 (.at cs) = some (.at (cs.drop 3)) := by simp [fieldAddrD, fieldOf, tz43, tz9]
theorem fp43_3 : fieldAddrD Zs 43 3 (.ptr r o') = some (.ptr r (o' + 3)) := by simp [fieldAddrD, fieldOf, tz43, tz9]
theorem fl43_3 : fieldD Zs 43 3 (.agg cs) = cs[3]? := by simp [fieldD, fieldOf, tz43, tz9, partD, TInfo.isAgg]
theorem ld46 : loadD Zs g 46 (.at cs) = cs[0]? := by first | (simp only [loadD, tz46, pack, TInfo.isAgg, Bool.false_eq_true, if_false, List.head?_eq_getElem?]; done) | (simp only [loadD, tz46, pack, TInfo.isAgg, Bool.false_eq_true, if_false, List.head?_eq_getElem?]; rfl)
theorem lp46 : loadD Zs g 46 (.ptr r off) = match g r with | some (.cells _ cs) => cs[off]? | _ => none := by first | (simp only [loadD, tz46, pack, TInfo.isAgg, Bool.false_eq_true, if_false, List.head?_drop]; done) | (simp only [loadD, tz46, pack, TInfo.isAgg, Bool.false_eq_true, if_false, List.head?_drop]; rfl)
theorem so46 : storeE Zs g 46 (.ptr r off) y = match y.cells with | some ys => (match g r with | some (.cells e cs) => if ys.length = 1 ∧ off + ys.length ≤ cs.length then some (.put r (.cells e (splice cs off ys))) else none | _ => none) | _ => none := by simp only [storeE, tz46]; cases y.cells <;> rfl
theorem al46 : allocR Zs 46 = some (.new (.cells 46 [.sl .nil 0 []])) := by rfl
theorem mi46 : ifaceD Zs 46 x = some (.iface 46 x) := by first | (simp only [ifaceD, tz46]; done) | (simp only [ifaceD, tz46]; rfl)
theorem mk46 {k' : IntKind} {m : Int} : makeSliceR Zs 0 46 (.int k i) (.int k' m) nx = if 0 ≤ i ∧ i ≤ m ∧ ((1 : Nat) : Int) * m ≤ 281474976710656 ∧ m ≤ (big : Int) then some (.row nx 0 i.toNat (some m.toNat) 1, .new (.cells 5 (List.replicate m.toNat (.int .u8 0)))) else none := by exact mk_one tz46 tz5 rfl rfl rfl
theorem bs46_1 : buildSliceR Zs 0 46 1 [(0, x)] nx = lit1 x := by exact build1 tz46 tz5 rfl rfl rfl
theorem bs46_2 : buildSliceR Zs 0 46 2 [(0, x), (1, y)] nx = lit2 x y := by exact build2 tz46 tz5 rfl rfl rfl
theorem bs46_3 : buildSliceR Zs 0 46 3 [(0, x), (1, y), (2, x3)] nx = lit3 x y x3 := by exact build3 tz46 tz5 rfl rfl rfl
theorem ln46 : lenD Zs g #[46] (.sl o n cs) = some (.int .i64 n) := by simp [lenD, tz46]
theorem cpn46 : capD Zs #[46] (.sl .nil n cs) = some (.int .i64 0) := by simp [capD, tz46]
theorem cpr46 {kk z0 : Nat} : capD Zs #[46] (.row r off n (some kk) z0) = some (.int .i64 kk) := by simp [capD, tz46]
theorem lr46 {c0 : Option Nat} {z0 : Nat} : lenD Zs g #[46] (.row r off n c0 z0) = some (.int .i64 n) := by simp [lenD, tz46]
theorem ix46 : indexAddrD Zs 46 (.sl o n cs) (.int k i) = if (0 ≤ i ∧ i < n) ∧ 0 < cs.length then some (.at (cs.drop (i.toNat))) else none := by first | (simp only [indexAddrD, tz46, tz5, Nat.mul_one]; done) | (simp only [indexAddrD, tz46, tz5, Nat.mul_one]; rfl)
theorem ir46 {c0 : Option Nat} {z0 : Nat} : indexAddrD Zs 46 (.row r off n c0 z0) (.int k i) = if 0 ≤ i ∧ i < n then some (.ptr r (off + i.toNat)) else none := by first | (simp only [indexAddrD, tz46, tz5, Nat.mul_one]; done) | (simp only [indexAddrD, tz46, tz5, Nat.mul_one]; rfl)
theorem sl46 : sliceD Zs g 46 (.sl o n cs) lo hi none = match bound lo 0, bound hi n with | some l, some h => if 0 ≤ l ∧ l ≤ h ∧ h ≤ n ∧ cs.length = n then some (.sl (cutOwn o) (h.toNat - l.toNat) ((cs.drop (l.toNat)).take ((h.toNat - l.toNat)))) else none | _, _ => none := by simp only [sliceD, tz46, tz5, Nat.mul_one]; cases bound lo 0 <;> cases bound hi n <;> simp only [Nat.mul_one]
theorem en46 : binD Zs .eql 46 (.sl o n cs) (.sl .nil n' cs') = (nilOf o n).map .bool := by simp [binD, isNum, eqT, tz46]
theorem enr46 {c0 : Option Nat} {z0 : Nat} : binD Zs .eql 46 (.row r off n c0 z0) (.sl .nil n' cs') = some (.bool false) := by simp [binD, isNum, eqT, tz46]
theorem nn46 : binD Zs .neq 46 (.sl o n cs) (.sl .nil n' cs') = (nilOf o n).map fun b => .bool (!b) := by simp [binD, isNum, eqT, tz46]
theorem nnr46 {c0 : Option Nat} {z0 : Nat} : binD Zs .neq 46 (.row r off n c0 z0) (.sl .nil n' cs') = some (.bool true) := by simp [binD, isNum, eqT, tz46]
theorem ld48 : loadD Zs g 48 (.at cs) = cs[0]? := by first | (simp only [loadD, tz48, pack, TInfo.isAgg, Bool.false_eq_true, if_false, List.head?_eq_getElem?]; done) | (simp only [loadD, tz48, pack, TInfo.isAgg, Bool.false_eq_true, if_false, List.head?_eq_getElem?]; rfl)
theorem lp48 : loadD Zs g 48 (.ptr r off) = match g r with | some (.cells _ cs) => cs[off]? | _ => none := by first | (simp only [loadD, tz48, pack, TInfo.isAgg, Bool.false_eq_true, if_false, List.head?_drop]; done) | (simp only [loadD, tz48, pack, TInfo.isAgg, Bool.false_eq_true, if_false, List.head?_drop]; rfl)
theorem so48 : storeE Zs g 48 (.ptr r off) y = match y.cells with | some ys => (match g r with | some (.cells e cs) => if ys.length = 1 ∧ off + ys.length ≤ cs.length then some (.put r (.cells e (splice cs off ys))) else none | _ => none) | _ => none := by simp only [storeE, tz48]; cases y.cells <;> rfl
theorem al48 : allocR Zs 48 = some (.new (.cells 48 [.nilfunc])) := by rfl
theorem mi48 : ifaceD Zs 48 x = some (.iface 48 x) := by first | (simp only [ifaceD, tz48]; done) | (simp only [ifaceD, tz48]; rfl)
theorem ld54 : loadD Zs g 54 (.at cs) = cs[0]? := by first | (simp only [loadD, tz54, pack, TInfo.isAgg, Bool.false_eq_true, if_false, List.head?_eq_getElem?]; done) | (simp only [loadD, tz54, pack, TInfo.isAgg, Bool.false_eq_true, if_false, List.head?_eq_getElem?]; rfl)
theorem lp54 : loadD Zs g 54 (.ptr r off) = match g r with | some (.cells _ cs) => cs[off]? | _ => none := by first | (simp only [loadD, tz54, pack, TInfo.isAgg, Bool.false_eq_true, if_false, List.head?_drop]; done) | (simp only [loadD, tz54, pack, TInfo.isAgg, Bool.false_eq_true, if_false, List.head?_drop]; rfl)
theorem so54 : storeE Zs g 54 (.ptr r off) y = match y.cells with | some ys => (match g r with | some (.cells e cs) => if ys.length = 1 ∧ off + ys.length ≤ cs.length then some (.put r (.cells e (splice cs off ys))) else none | _ => none) | _ => none := by simp only [storeE, tz54]; cases y.cells <;> rfl
theorem al54 : allocR Zs 54 = some (.new (.cells 54 [.sl .nil 0 []])) := by rfl
theorem mi54 : ifaceD Zs 54 x = some (.iface 54 x) := by first | (simp only [ifaceD, tz54]; done) | (simp only [ifaceD, tz54]; rfl)
theorem mk54 {k' : IntKind} {m : Int} : makeSliceR Zs 0 54 (.int k i) (.int k' m) nx = if 0 ≤ i ∧ i ≤ m ∧ ((16 : Nat) : Int) * m ≤ 281474976710656 ∧ m ≤ (big : Int) then some (.row nx 0 i.toNat (some m.toNat) 1, .new (.cells 9 (List.replicate m.toNat (.str ⟨#[]⟩)))) else none := by exact mk_one tz54 tz9 rfl rfl rfl
theorem bs54_1 : buildSliceR Zs 0 54 1 [(0, x)] nx = lit1 x := by exact build1 tz54 tz9 rfl rfl rfl
theorem bs54_2 : buildSliceR Zs 0 54 2 [(0, x), (1, y)] nx = lit2 x y := by exact build2 tz54 tz9 rfl rfl rfl
theorem bs54_3 : buildSliceR Zs 0 54 3 [(0, x), (1, y), (2, x3)] nx = lit3 x y x3 := by exact build3 tz54 tz9 rfl rfl rfl
theorem ln54 : lenD Zs g #[54] (.sl o n cs) = some (.int .i64 n) := by simp [lenD, tz54]
theorem cpn54 : capD Zs #[54] (.sl .nil n cs) = some (.int .i64 0) := by simp [capD, tz54]
theorem cpr54 {kk z0 : Nat} : capD Zs #[54] (.row r off n (some kk) z0) = some (.int .i64 kk) := by simp [capD, tz54]
theorem lr54 {c0 : Option Nat} {z0 : Nat} : lenD Zs g #[54] (.row r off n c0 z0) = some (.int .i64 n) := by simp [lenD, tz54]
theorem ix54 : indexAddrD Zs 54 (.sl o n cs) (.int k i) = if (0 ≤ i ∧ i < n) ∧ 0 < cs.length then some (.at (cs.drop (i.toNat))) else none := by first | (simp only [indexAddrD, tz54, tz9, Nat.mul_one]; done) | (simp only [indexAddrD, tz54, tz9, Nat.mul_one]; rfl)
theorem ir54 {c0 : Option Nat} {z0 : Nat} : indexAddrD Zs 54 (.row r off n c0 z0) (.int k i) = if 0 ≤ i ∧ i < n then some (.ptr r (off + i.toNat)) else none := by first | (simp only [indexAddrD, tz54, tz9, Nat.mul_one]; done) | (simp only [indexAddrD, tz54, tz9, Nat.mul_one]; rfl)
theorem sl54 : sliceD Zs g 54 (.sl o n cs) lo hi none = match bound lo 0, bound hi n with | some l, some h => if 0 ≤ l ∧ l ≤ h ∧ h ≤ n ∧ cs.length = n then some (.sl (cutOwn o) (h.toNat - l.toNat) ((cs.drop (l.toNat)).take ((h.toNat - l.toNat)))) else none | _, _ => none := by simp only [sliceD, tz54, tz9, Nat.mul_one]; cases bound lo 0 <;> cases bound hi n <;> simp only [Nat.mul_one]
theorem en54 : binD Zs .eql 54 (.sl o n cs) (.sl .nil n' cs') = (nilOf o n).map .bool := by simp [binD, isNum, eqT, tz54]
theorem enr54 {c0 : Option Nat} {z0 : Nat} : binD Zs .eql 54 (.row r off n c0 z0) (.sl .nil n' cs') = some (.bool false) := by simp [binD, isNum, eqT, tz54]
theorem nn54 : binD Zs .neq 54 (.sl o n cs) (.sl .nil n' cs') = (nilOf o n).map fun b => .bool (!b) := by simp [binD, isNum, eqT, tz54]
theorem nnr54 {c0 : Option Nat} {z0 : Nat} : binD Zs .neq 54 (.row r off n c0 z0) (.sl .nil n' cs') = some (.bool true) := by simp [binD, isNum, eqT, tz54]
theorem ld55 : loadD Zs g 55 (.at cs) = if 0 ≤ cs.length then some (.agg (cs.take 0)) else none := by first | (simp only [loadD, tz55, pack, TInfo.isAgg, if_true]; done) | (simp only [loadD, tz55, pack, TInfo.isAgg, if_true]; rfl)
theorem lp55 : loadD Zs g 55 (.ptr r off) = match g r with | some (.cells _ cs) => (if 0 ≤ (cs.drop off).length then some (.agg ((cs.drop off).take 0)) else none) | _ => none := by first | (simp only [loadD, tz55, pack, TInfo.isAgg, if_true]; done) | (simp only [loadD, tz55, pack, TInfo.isAgg, if_true]; rfl)
theorem so55 : storeE Zs g 55 (.ptr r off) y = match y.cells with | some ys => (match g r with | some (.cells e cs) => if ys.length = 0 ∧ off + ys.length ≤ cs.length then some (.put r (.cells e (splice cs off ys))) else none | _ => none) | _ => none := by simp only [storeE, tz55]; cases y.cells <;> rfl
theorem al55 : allocR Zs 55 = some (.new (.cells 55 [])) := by rfl
theorem mi55 : ifaceD Zs 55 x = some (.iface 55 x) := by first | (simp only [ifaceD, tz55]; done) | (simp only [ifaceD, tz55]; rfl)
theorem ld56 : loadD Zs g 56 (.at cs) = if 0 ≤ cs.length then some (.agg (cs.take 0)) else none := by first | (simp only [loadD, tz56, pack, TInfo.isAgg, if_true]; done) | (simp only [loadD, tz56, pack, TInfo.isAgg, if_true]; rfl)
theorem lp56 : loadD Zs g 56 (.ptr r off) = match g r with | some (.cells _ cs) => (if 0 ≤ (cs.drop off).length then some (.agg ((cs.drop off).take 0)) else none) | _ => none := by first | (simp only [loadD, tz56, pack, TInfo.isAgg, if_true]; done) | (simp only [loadD, tz56, pack, TInfo.isAgg, if_true]; rfl)
theorem so56 : storeE Zs g 56 (.ptr r off) y = match y.cells with | some ys => (match g r with | some (.cells e cs) => if ys.length = 0 ∧ off + ys.length ≤ cs.length then some (.put r (.cells e (splice cs off ys))) else none | _ => none) | _ => none := by simp only [storeE, tz56]; cases y.cells <;> rfl
theorem al56 : allocR Zs 56 = some (.new (.cells 56 [])) := by rfl
theorem mi56 : ifaceD Zs 56 x = some (.iface 56 x) := by first | (simp only [ifaceD, tz56]; done) | (simp only [ifaceD, tz56]; rfl)
theorem ld57 : loadD Zs g 57 (.at cs) = if 0 ≤ cs.length then some (.agg (cs.take 0)) else none := by first | (simp only [loadD, tz57, pack, TInfo.isAgg, if_true]; done) | (simp only [loadD, tz57, pack, TInfo.isAgg, if_true]; rfl)
theorem lp57 : loadD Zs g 57 (.ptr r off) = match g r with | some (.cells _ cs) => (if 0 ≤ (cs.drop off).length then some (.agg ((cs.drop off).take 0)) else none) | _ => none := by first | (simp only [loadD, tz57, pack, TInfo.isAgg, if_true]; done) | (simp only [loadD, tz57, pack, TInfo.isAgg, if_true]; rfl)
theorem so57 : storeE Zs g 57 (.ptr r off) y = match y.cells with | some ys => (match g r with | some (.cells e cs) => if ys.length = 0 ∧ off + ys.length ≤ cs.length then some (.put r (.cells e (splice cs off ys))) else none | _ => none) | _ => none := by simp only [storeE, tz57]; cases y.cells <;> rfl
theorem al57 : allocR Zs 57 = some (.new (.cells 57 [])) := by rfl
theorem mi57 : ifaceD Zs 57 x = some (.iface 57 x) := by first | (simp only [ifaceD, tz57]; done) | (simp only [ifaceD, tz57]; rfl)
theorem ld58 : loadD Zs g 58 (.at cs) = if 0 ≤ cs.length then some (.agg (cs.take 0)) else none := by first | (simp only [loadD, tz58, pack, TInfo.isAgg, if_true]; done) | (simp only [loadD, tz58, pack, TInfo.isAgg, if_true]; rfl)
theorem lp58 : loadD Zs g 58 (.ptr r off) = match g r with | some (.cells _ cs) => (if 0 ≤ (cs.drop off).length then some (.agg ((cs.drop off).take 0)) else none) | _ => none := by first | (simp only [loadD, tz58, pack, TInfo.isAgg, if_true]; done) | (simp only [loadD, tz58, pack, TInfo.isAgg, if_true]; rfl)
theorem so58 : storeE Zs g 58 (.ptr r off) y = match y.cells with | some ys => (match g r with | some (.cells e cs) => if ys.length = 0 ∧ off + ys.length ≤ cs.length then some (.put r (.cells e (splice cs off ys))) else none | _ => none) | _ => none := by simp only [storeE, tz58]; cases y.cells <;> rfl
theorem al58 : allocR Zs 58 = some (.new (.cells 58 [])) := by rfl
theorem mi58 : ifaceD Zs 58 x = some (.iface 58 x) := by first | (simp only [ifaceD, tz58]; done) | (simp only [ifaceD, tz58]; rfl)
theorem ld59 : loadD Zs g 59 (.at cs) = cs[0]? := by first | (simp only [loadD, tz59, pack, TInfo.isAgg, Bool.false_eq_true, if_false, List.head?_eq_getElem?]; done) | (simp only [loadD, tz59, pack, TInfo.isAgg, Bool.false_eq_true, if_false, List.head?_eq_getElem?]; rfl)
theorem lp59 : loadD Zs g 59 (.ptr r off) = match g r with | some (.cells _ cs) => cs[off]? | _ => none := by first | (simp only [loadD, tz59, pack, TInfo.isAgg, Bool.false_eq_true, if_false, List.head?_drop]; done) | (simp only [loadD, tz59, pack, TInfo.isAgg, Bool.false_eq_true, if_false, List.head?_drop]; rfl)
theorem so59 : storeE Zs g 59 (.ptr r off) y = match y.cells with | some ys => (match g r with | some (.cells e cs) => if ys.length = 1 ∧ off + ys.length ≤ cs.length then some (.put r (.cells e (splice cs off ys))) else none | _ => none) | _ => none := by simp only [storeE, tz59]; cases y.cells <;> rfl
theorem al59 : allocR Zs 59 = some (.new (.cells 59 [.sl .nil 0 []])) := by rfl
theorem mi59 : ifaceD Zs 59 x = some (.iface 59 x) := by first | (simp only [ifaceD, tz59]; done) | (simp only [ifaceD, tz59]; rfl)
theorem mk59 {k' : IntKind} {m : Int} : makeSliceR Zs 0 59 (.int k i) (.int k' m) nx = if 0 ≤ i ∧ i ≤ m ∧ ((16 : Nat) : Int) * m ≤ 281474976710656 ∧ m ≤ (big : Int) then some (.row nx 0 i.toNat (some m.toNat) 1, .new (.cells 61 (List.replicate m.toNat (.nilif)))) else none := by exact mk_one tz59 tz61 rfl rfl rfl
theorem bs59_1 : buildSliceR Zs 0 59 1 [(0, x)] nx = lit1 x := by exact build1 tz59 tz61 rfl rfl rfl
theorem bs59_2 : buildSliceR Zs 0 59 2 [(0, x), (1, y)] nx = lit2 x y := by exact build2 tz59 tz61 rfl rfl rfl
theorem bs59_3 : buildSliceR Zs 0 59 3 [(0, x), (1, y), (2, x3)] nx = lit3 x y x3 := by exact build3 tz59 tz61 rfl rfl rfl
theorem ln59 : lenD Zs g #[59] (.sl o n cs) = some (.int .i64 n) := by simp [lenD, tz59]
theorem cpn59 : capD Zs #[59] (.sl .nil n cs) = some (.int .i64 0) := by simp [capD, tz59]
theorem cpr59 {kk z0 : Nat} : capD Zs #[59] (.row r off n (some kk) z0) = some (.int .i64 kk) := by simp [capD, tz59]
theorem lr59 {c0 : Option Nat} {z0 : Nat} : lenD Zs g #[59] (.row r off n c0 z0) = some (.int .i64 n) := by simp [lenD, tz59]
theorem ix59 : indexAddrD Zs 59 (.sl o n cs) (.int k i) = if (0 ≤ i ∧ i < n) ∧ 0 < cs.length then some (.at (cs.drop (i.toNat))) else none := by first | (simp only [indexAddrD, tz59, tz61, Nat.mul_one]; done) | (simp only [indexAddrD, tz59, tz61, Nat.mul_one]; rfl)
theorem ir59 {c0 : Option Nat} {z0 : Nat} : indexAddrD Zs 59 (.row r off n c0 z0) (.int k i) = if 0 ≤ i ∧ i < n then some (.ptr r (off + i.toNat)) else none := by first | (simp only [indexAddrD, tz59, tz61, Nat.mul_one]; done) | (simp only [indexAddrD, tz59, tz61, Nat.mul_one]; rfl)
theorem sl59 : sliceD Zs g 59 (.sl o n cs) lo hi none = match bound lo 0, bound hi n with | some l, some h => if 0 ≤ l ∧ l ≤ h ∧ h ≤ n ∧ cs.length = n then some (.sl (cutOwn o) (h.toNat - l.toNat) ((cs.drop (l.toNat)).take ((h.toNat - l.toNat)))) else none | _, _ => none := by simp only [sliceD, tz59, tz61, Nat.mul_one]; cases bound lo 0 <;> cases bound hi n <;> simp only [Nat.mul_one]
theorem en59 : binD Zs .eql 59 (.sl o n cs) (.sl .nil n' cs') = (nilOf o n).map .bool := by simp [binD, isNum, eqT, tz59]
theorem enr59 {c0 : Option Nat} {z0 : Nat} : binD Zs .eql 59 (.row r off n c0 z0) (.sl .nil n' cs') = some (.bool false) := by simp [binD, isNum, eqT, tz59]
theorem nn59 : binD Zs .neq 59 (.sl o n cs) (.sl .nil n' cs') = (nilOf o n).map fun b => .bool (!b) := by simp [binD, isNum, eqT, tz59]
theorem nnr59 {c0 : Option Nat} {z0 : Nat} : binD Zs .neq 59 (.row r off n c0 z0) (.sl .nil n' cs') = some (.bool true) := by simp [binD, isNum, eqT, tz59]
theorem ld60 : loadD Zs g 60 (.at cs) = cs[0]? := by first | (simp only [loadD, tz60, pack, TInfo.isAgg, Bool.false_eq_true, if_false, List.head?_eq_getElem?]; done) | (simp only [loadD, tz60, pack, TInfo.isAgg, Bool.false_eq_true, if_false, List.head?_eq_getElem?]; rfl)
theorem lp60 : loadD Zs g 60 (.ptr r off) = match g r with | some (.cells _ cs) => cs[off]? | _ => none := by first | (simp only [loadD, tz60, pack, TInfo.isAgg, Bool.false_eq_true, if_false, List.head?_drop]; done) | (simp only [loadD, tz60, pack, TInfo.isAgg, Bool.false_eq_true, if_false, List.head?_drop]; rfl)
theorem so60 : storeE Zs g 60 (.ptr r off) y = match y.cells with | some ys => (match g r with | some (.cells e cs) => if ys.length = 1 ∧ off + ys.length ≤ cs.length then some (.put r (.cells e (splice cs off ys))) else none | _ => none) | _ => none := by simp only [storeE, tz60]; cases y.cells <;> rfl
theorem al60 : allocR Zs 60 = some (.new (.cells 60 [.nilif])) := by rfl
theorem ld61 : loadD Zs g 61 (.at cs) = cs[0]? := by first | (simp only [loadD, tz61, pack, TInfo.isAgg, Bool.false_eq_true, if_false, List.head?_eq_getElem?]; done) | (simp only [loadD, tz61, pack, TInfo.isAgg, Bool.false_eq_true, if_false, List.head?_eq_getElem?]; rfl)
theorem lp61 : loadD Zs g 61 (.ptr r off) = match g r with | some (.cells _ cs) => cs[off]? | _ => none := by first | (simp only [loadD, tz61, pack, TInfo.isAgg, Bool.false_eq_true, if_false, List.head?_drop]; done) | (simp only [loadD, tz61, pack, TInfo.isAgg, Bool.false_eq_true, if_false, List.head?_drop]; rfl)
theorem so61 : storeE Zs g 61 (.ptr r off) y = match y.cells with | some ys => (match g r with | some (.cells e cs) => if ys.length = 1 ∧ off + ys.length ≤ cs.length then some (.put r (.cells e (splice cs off ys))) else none | _ => none) | _ => none := by simp only [storeE, tz61]; cases y.cells <;> rfl
theorem al61 : allocR Zs 61 = some (.new (.cells 61 [.nilif])) := by rfl
theorem ld68 : loadD Zs g 68 (.at cs) = cs[0]? := by first | (simp only [loadD, tz68, pack, TInfo.isAgg, Bool.false_eq_true, if_false, List.head?_eq_getElem?]; done) | (simp only [loadD, tz68, pack, TInfo.isAgg, Bool.false_eq_true, if_false, List.head?_eq_getElem?]; rfl)
theorem lp68 : loadD Zs g 68 (.ptr r off) = match g r with | some (.cells _ cs) => cs[off]? | _ => none := by first | (simp only [loadD, tz68, pack, TInfo.isAgg, Bool.false_eq_true, if_false, List.head?_drop]; done) | (simp only [loadD, tz68, pack, TInfo.isAgg, Bool.false_eq_true, if_false, List.head?_drop]; rfl)
theorem so68 : storeE Zs g 68 (.ptr r off) y = match y.cells with | some ys => (match g r with | some (.cells e cs) => if ys.length = 1 ∧ off + ys.length ≤ cs.length then some (.put r (.cells e (splice cs off ys))) else none | _ => none) | _ => none := by simp only [storeE, tz68]; cases y.cells <;> rfl
theorem al68 : allocR Zs 68 = some (.new (.cells 68 [.sl .nil 0 []])) := by rfl
theorem mi68 : ifaceD Zs 68 x = some (.iface 68 x) := by first | (simp only [ifaceD, tz68]; done) | (simp only [ifaceD, tz68]; rfl)
theorem mk68 {k' : IntKind} {m : Int} : makeSliceR Zs 0 68 (.int k i) (.int k' m) nx = if 0 ≤ i ∧ i ≤ m ∧ ((24 : Nat) : Int) * m ≤ 281474976710656 ∧ m ≤ (big : Int) then some (.row nx 0 i.toNat (some m.toNat) 1, .new (.cells 22 (List.replicate m.toNat (.sl .nil 0 [])))) else none := by exact mk_one tz68 tz22 rfl rfl rfl
theorem bs68_1 : buildSliceR Zs 0 68 1 [(0, x)] nx = lit1 x := by exact build1 tz68 tz22 rfl rfl rfl
theorem bs68_2 : buildSliceR Zs 0 68 2 [(0, x), (1, y)] nx = lit2 x y := by exact build2 tz68 tz22 rfl rfl rfl
theorem bs68_3 : buildSliceR Zs 0 68 3 [(0, x), (1, y), (2, x3)] nx = lit3 x y x3 := by exact build3 tz68 tz22 rfl rfl rfl
theorem ln68 : lenD Zs g #[68] (.sl o n cs) = some (.int .i64 n) := by simp [lenD, tz68]
theorem cpn68 : capD Zs #[68] (.sl .nil n cs) = some (.int .i64 0) := by simp [capD, tz68]
theorem cpr68 {kk z0 : Nat} : capD Zs #[68] (.row r off n (some kk) z0) = some (.int .i64 kk) := by simp [capD, tz68]
theorem lr68 {c0 : Option Nat} {z0 : Nat} : lenD Zs g #[68] (.row r off n c0 z0) = some (.int .i64 n) := by simp [lenD, tz68]
theorem ix68 : indexAddrD Zs 68 (.sl o n cs) (.int k i) = if (0 ≤ i ∧ i < n) ∧ 0 < cs.length then some (.at (cs.drop (i.toNat))) else none := by first | (simp only [indexAddrD, tz68, tz22, Nat.mul_one]; done) | (simp only [indexAddrD, tz68, tz22, Nat.mul_one]; rfl)
theorem ir68 {c0 : Option Nat} {z0 : Nat} : indexAddrD Zs 68 (.row r off n c0 z0) (.int k i) = if 0 ≤ i ∧ i < n then some (.ptr r (off + i.toNat)) else none := by first | (simp only [indexAddrD, tz68, tz22, Nat.mul_one]; done) | (simp only [indexAddrD, tz68, tz22, Nat.mul_one]; rfl)
theorem sl68 : sliceD Zs g 68 (.sl o n cs) lo hi none = match bound lo 0, bound hi n with | some l, some h => if 0 ≤ l ∧ l ≤ h ∧ h ≤ n ∧ cs.length = n then some (.sl (cutOwn o) (h.toNat - l.toNat) ((cs.drop (l.toNat)).take ((h.toNat - l.toNat)))) else none | _, _ => none := by simp only [sliceD, tz68, tz22, Nat.mul_one]; cases bound lo 0 <;> cases bound hi n <;> simp only [Nat.mul_one]
theorem en68 : binD Zs .eql 68 (.sl o n cs) (.sl .nil n' cs') = (nilOf o n).map .bool := by simp [binD, isNum, eqT, tz68]
theorem enr68 {c0 : Option Nat} {z0 : Nat} : binD Zs .eql 68 (.row r off n c0 z0) (.sl .nil n' cs') = some (.bool false) := by simp [binD, isNum, eqT, tz68]
theorem nn68 : binD Zs .neq 68 (.sl o n cs) (.sl .nil n' cs') = (nilOf o n).map fun b => .bool (!b) := by simp [binD, isNum, eqT, tz68]
theorem nnr68 {c0 : Option Nat} {z0 : Nat} : binD Zs .neq 68 (.row r off n c0 z0) (.sl .nil n' cs') = some (.bool true) := by simp [binD, isNum, eqT, tz68]
theorem ld71 : loadD Zs g 71 (.at cs) = cs[0]? := by first | (simp only [loadD, tz71, pack, TInfo.isAgg, Bool.false_eq_true, if_false, List.head?_eq_getElem?]; done) | (simp only [loadD, tz71, pack, TInfo.isAgg, Bool.false_eq_true, if_false, List.head?_eq_getElem?]; rfl)
theorem lp71 : loadD Zs g 71 (.ptr r off) = match g r with | some (.cells _ cs) => cs[off]? | _ => none := by first | (simp only [loadD, tz71, pack, TInfo.isAgg, Bool.false_eq_true, if_false, List.head?_drop]; done) | (simp only [loadD, tz71, pack, TInfo.isAgg, Bool.false_eq_true, if_false, List.head?_drop]; rfl)
theorem so71 : storeE Zs g 71 (.ptr r off) y = match y.cells with | some ys => (match g r with | some (.cells e cs) => if ys.length = 1 ∧ off + ys.length ≤ cs.length then some (.put r (.cells e (splice cs off ys))) else none | _ => none) | _ => none := by simp only [storeE, tz71]; cases y.cells <;> rfl
theorem al71 : allocR Zs 71 = some (.new (.cells 71 [.nilfunc])) := by rfl
theorem mi71 : ifaceD Zs 71 x = some (.iface 71 x) := by first | (simp only [ifaceD, tz71]; done) | (simp only [ifaceD, tz71]; rfl)
theorem ld73 : loadD Zs g 73 (.at cs) = cs[0]? := by first | (simp only [loadD, tz73, pack, TInfo.isAgg, Bool.false_eq_true, if_false, List.head?_eq_getElem?]; done) | (simp only [loadD, tz73, pack, TInfo.isAgg, Bool.false_eq_true, if_false, List.head?_eq_getElem?]; rfl)
theorem lp73 : loadD Zs g 73 (.ptr r off) = match g r with | some (.cells _ cs) => cs[off]? | _ => none := by first | (simp only [loadD, tz73, pack, TInfo.isAgg, Bool.false_eq_true, if_false, List.head?_drop]; done) | (simp only [loadD, tz73, pack, TInfo.isAgg, Bool.false_eq_true, if_false, List.head?_drop]; rfl)
theorem so73 : storeE Zs g 73 (.ptr r off) y = match y.cells with | some ys => (match g r with | some (.cells e cs) => if ys.length = 1 ∧ off + ys.length ≤ cs.length then some (.put r (.cells e (splice cs off ys))) else none | _ => none) | _ => none := by simp only [storeE, tz73]; cases y.cells <;> rfl
theorem al73 : allocR Zs 73 = some (.new (.cells 73 [.nilfunc])) := by rfl
theorem mi73 : ifaceD Zs 73 x = some (.iface 73 x) := by first | (simp only [ifaceD, tz73]; done) | (simp only [ifaceD, tz73]; rfl)
theorem ld74 : loadD Zs g 74 (.at cs) = cs[0]? := by first | (simp only [loadD, tz74, pack, TInfo.isAgg, Bool.false_eq_true, if_false, List.head?_eq_getElem?]; done) | (simp only [loadD, tz74, pack, TInfo.isAgg, Bool.false_eq_true, if_false, List.head?_eq_getElem?]; rfl)
theorem lp74 : loadD Zs g 74 (.ptr r off) = match g r with | some (.cells _ cs) => cs[off]? | _ => none := by first | (simp only [loadD, tz74, pack, TInfo.isAgg, Bool.false_eq_true, if_false, List.head?_drop]; done) | (simp only [loadD, tz74, pack, TInfo.isAgg, Bool.false_eq_true, if_false, List.head?_drop]; rfl)
theorem so74 : storeE Zs g 74 (.ptr r off) y = match y.cells with | some ys => (match g r with | some (.cells e cs) => if ys.length = 1 ∧ off + ys.length ≤ cs.length then some (.put r (.cells e (splice cs off ys))) else none | _ => none) | _ => none := by simp only [storeE, tz74]; cases y.cells <;> rfl
theorem al74 : allocR Zs 74 = some (.new (.cells 74 [.nilfunc])) := by rfl
theorem mi74 : ifaceD Zs 74 x = some (.iface 74 x) := by first | (simp only [ifaceD, tz74]; done) | (simp only [ifaceD, tz74]; rfl)
theorem ld78 : loadD Zs g 78 (.at cs) = cs[0]? := by first | (simp only [loadD, tz78, pack, TInfo.isAgg, Bool.false_eq_true, if_false, List.head?_eq_getElem?]; done) | (simp only [loadD, tz78, pack, TInfo.isAgg, Bool.false_eq_true, if_false, List.head?_eq_getElem?]; rfl)
theorem lp78 : loadD Zs g 78 (.ptr r off) = match g r with | some (.cells _ cs) => cs[off]? | _ => none := by first | (simp only [loadD, tz78, pack, TInfo.isAgg, Bool.false_eq_true, if_false, List.head?_drop]; done) | (simp only [loadD, tz78, pack, TInfo.isAgg, Bool.false_eq_true, if_false, List.head?_drop]; rfl)
theorem so78 : storeE Zs g 78 (.ptr r off) y = match y.cells with | some ys => (match g r with | some (.cells e cs) => if ys.length = 1 ∧ off + ys.length ≤ cs.length then some (.put r (.cells e (splice cs off ys))) else none | _ => none) | _ => none := by simp only [storeE, tz78]; cases y.cells <;> rfl
theorem al78 : allocR Zs 78 = some (.new (.cells 78 [.nilfunc])) := by rfl
theorem mi78 : ifaceD Zs 78 x = some (.iface 78 x) := by first | (simp only [ifaceD, tz78]; done) | (simp only [ifaceD, tz78]; rfl)
theorem ld94 : loadD Zs g 94 (.at cs) = cs[0]? := by first | (simp only [loadD, tz94, pack, TInfo.isAgg, Bool.false_eq_true, if_false, List.head?_eq_getElem?]; done) | (simp only [loadD, tz94, pack, TInfo.isAgg, Bool.false_eq_true, if_false, List.head?_eq_getElem?]; rfl)
theorem lp94 : loadD Zs g 94 (.ptr r off) = match g r with | some (.cells _ cs) => cs[off]? | _ => none := by first | (simp only [loadD, tz94, pack, TInfo.isAgg, Bool.false_eq_true, if_false, List.head?_drop]; done) | (simp only [loadD, tz94, pack, TInfo.isAgg, Bool.false_eq_true, if_false, List.head?_drop]; rfl)
theorem so94 : storeE Zs g 94 (.ptr r off) y = match y.cells with | some ys => (match g r with | some (.cells e cs) => if ys.length = 1 ∧ off + ys.length ≤ cs.length then some (.put r (.cells e (splice cs off ys))) else none | _ => none) | _ => none := by simp only [storeE, tz94]; cases y.cells <;> rfl
theorem al94 : allocR Zs 94 = some (.new (.cells 94 [.int .u64 0])) := by rfl
theorem mi94 : ifaceD Zs 94 x = some (.iface 94 x) := by first | (simp only [ifaceD, tz94]; done) | (simp only [ifaceD, tz94]; rfl)
theorem ld96 : loadD Zs g 96 (.at cs) = cs[0]? := by first | (simp only [loadD, tz96, pack, TInfo.isAgg, Bool.false_eq_true, if_false, List.head?_eq_getElem?]; done) | (simp only [loadD, tz96, pack, TInfo.isAgg, Bool.false_eq_true, if_false, List.head?_eq_getElem?]; rfl)
theorem lp96 : loadD Zs g 96 (.ptr r off) = match g r with | some (.cells _ cs) => cs[off]? | _ => none := by first | (simp only [loadD, tz96, pack, TInfo.isAgg, Bool.false_eq_true, if_false, List.head?_drop]; done) | (simp only [loadD, tz96, pack, TInfo.isAgg, Bool.false_eq_true, if_false, List.head?_drop]; rfl)
theorem so96 : storeE Zs g 96 (.ptr r off) y = match y.cells with | some ys => (match g r with | some (.cells e cs) => if ys.length = 1 ∧ off + ys.length ≤ cs.length then some (.put r (.cells e (splice cs off ys))) else none | _ => none) | _ => none := by simp only [storeE, tz96]; cases y.cells <;> rfl
theorem al96 : allocR Zs 96 = some (.new (.cells 96 [.int .i64 0])) := by rfl
theorem mi96 : ifaceD Zs 96 x = some (.iface 96 x) := by first | (simp only [ifaceD, tz96]; done) | (simp only [ifaceD, tz96]; rfl)
theorem ld104 : loadD Zs g 104 (.at cs) = cs[0]? := by first | (simp only [loadD, tz104, pack, TInfo.isAgg, Bool.false_eq_true, if_false, List.head?_eq_getElem?]; done) | (simp only [loadD, tz104, pack, TInfo.isAgg, Bool.false_eq_true, if_false, List.head?_eq_getElem?]; rfl)
theorem lp104 : loadD Zs g 104 (.ptr r off) = match g r with | some (.cells _ cs) => cs[off]? | _ => none := by first | (simp only [loadD, tz104, pack, TInfo.isAgg, Bool.false_eq_true, if_false, List.head?_drop]; done) | (simp only [loadD, tz104, pack, TInfo.isAgg, Bool.false_eq_true, if_false, List.head?_drop]; rfl)
theorem so104 : storeE Zs g 104 (.ptr r off) y = match y.cells with | some ys => (match g r with | some (.cells e cs) => if ys.length = 1 ∧ off + ys.length ≤ cs.length then some (.put r (.cells e (splice cs off ys))) else none | _ => none) | _ => none := by simp only [storeE, tz104]; cases y.cells <;> rfl
theorem al104 : allocR Zs 104 = some (.new (.cells 104 [.int .u32 0])) := by rfl
theorem mi104 : ifaceD Zs 104 x = some (.iface 104 x) := by first | (simp only [ifaceD, tz104]; done) | (simp only [ifaceD, tz104]; rfl)
theorem ld106 : loadD Zs g 106 (.at cs) = cs[0]? := by first | (simp only [loadD, tz106, pack, TInfo.isAgg, Bool.false_eq_true, if_false, List.head?_eq_getElem?]; done) | (simp only [loadD, tz106, pack, TInfo.isAgg, Bool.false_eq_true, if_false, List.head?_eq_getElem?]; rfl)
theorem lp106 : loadD Zs g 106 (.ptr r off) = match g r with | some (.cells _ cs) => cs[off]? | _ => none := by first | (simp only [loadD, tz106, pack, TInfo.isAgg, Bool.false_eq_true, if_false, List.head?_drop]; done) | (simp only [loadD, tz106, pack, TInfo.isAgg, Bool.false_eq_true, if_false, List.head?_drop]; rfl)
theorem so106 : storeE Zs g 106 (.ptr r off) y = match y.cells with | some ys => (match g r with | some (.cells e cs) => if ys.length = 1 ∧ off + ys.length ≤ cs.length then some (.put r (.cells e (splice cs off ys))) else none | _ => none) | _ => none := by simp only [storeE, tz106]; cases y.cells <;> rfl
theorem al106 : allocR Zs 106 = some (.new (.cells 106 [.int .u64 0])) := by rfl
theorem mi106 : ifaceD Zs 106 x = some (.iface 106 x) := by first | (simp only [ifaceD, tz106]; done) | (simp only [ifaceD, tz106]; rfl)
theorem ld109 : loadD Zs g 109 (.at cs) = cs[0]? := by first | (simp only [loadD, tz109, pack, TInfo.isAgg, Bool.false_eq_true, if_false, List.head?_eq_getElem?]; done) | (simp only [loadD, tz109, pack, TInfo.isAgg, Bool.false_eq_true, if_false, List.head?_eq_getElem?]; rfl)
theorem lp109 : loadD Zs g 109 (.ptr r off) = match g r with | some (.cells _ cs) => cs[off]? | _ => none := by first | (simp only [loadD, tz109, pack, TInfo.isAgg, Bool.false_eq_true, if_false, List.head?_drop]; done) | (simp only [loadD, tz109, pack, TInfo.isAgg, Bool.false_eq_true, if_false, List.head?_drop]; rfl)
theorem so109 : storeE Zs g 109 (.ptr r off) y = match y.cells with | some ys => (match g r with | some (.cells e cs) => if ys.length = 1 ∧ off + ys.length ≤ cs.length then some (.put r (.cells e (splice cs off ys))) else none | _ => none) | _ => none := by simp only [storeE, tz109]; cases y.cells <;> rfl
theorem al109 : allocR Zs 109 = some (.new (.cells 109 [.int .u64 0])) := by rfl
theorem mi109 : ifaceD Zs 109 x = some (.iface 109 x) := by first | (simp only [ifaceD, tz109]; done) | (simp only [ifaceD, tz109]; rfl)
theorem ld113 : loadD Zs g 113 (.at cs) = cs[0]? := by first | (simp only [loadD, tz113, pack, TInfo.isAgg, Bool.false_eq_true, if_false, List.head?_eq_getElem?]; done) | (simp only [loadD, tz113, pack, TInfo.isAgg, Bool.false_eq_true, if_false, List.head?_eq_getElem?]; rfl)
theorem lp113 : loadD Zs g 113 (.ptr r off) = match g r with | some (.cells _ cs) => cs[off]? | _ => none := by first | (simp only [loadD, tz113, pack, TInfo.isAgg, Bool.false_eq_true, if_false, List.head?_drop]; done) | (simp only [loadD, tz113, pack, TInfo.isAgg, Bool.false_eq_true, if_false, List.head?_drop]; rfl)
theorem so113 : storeE Zs g 113 (.ptr r off) y = match y.cells with | some ys => (match g r with | some (.cells e cs) => if ys.length = 1 ∧ off + ys.length ≤ cs.length then some (.put r (.cells e (splice cs off ys))) else none | _ => none) | _ => none := by simp only [storeE, tz113]; cases y.cells <;> rfl
theorem al113 : allocR Zs 113 = some (.new (.cells 113 [.nilptr])) := by rfl
theorem mi113 : ifaceD Zs 113 x = some (.iface 113 x) := by first | (simp only [ifaceD, tz113]; done) | (simp only [ifaceD, tz113]; rfl)
theorem peql113 : binD Zs .eql 113 (.ptr r off) .nilptr = some (.bool false) := by simp [binD, isNum, eqT, tz113]
theorem paeql113 : binD Zs .eql 113 (.at cs) .nilptr = some (.bool false) := by simp [binD, isNum, eqT, tz113]
theorem pneql113 : binD Zs .eql 113 .nilptr .nilptr = some (.bool true) := by simp [binD, isNum, eqT, tz113]
theorem pneq113 : binD Zs .neq 113 (.ptr r off) .nilptr = some (.bool true) := by simp [binD, isNum, eqT, tz113]
theorem paneq113 : binD Zs .neq 113 (.at cs) .nilptr = some (.bool true) := by simp [binD, isNum, eqT, tz113]
theorem pnneq113 : binD Zs .neq 113 .nilptr .nilptr = some (.bool false) := by simp [binD, isNum, eqT, tz113]
theorem cv3_94 : convD Zs 3 94 (.int k i) = some (.int .u64 (IntKind.wrap .u64 i)) := by first | (simp only [convD, tz3, tz94]; done) | (simp only [convD, tz3, tz94]; rfl)
theorem cv3_109 : convD Zs 3 109 (.int k i) = some (.int .u64 (IntKind.wrap .u64 i)) := by first | (simp only [convD, tz3, tz109]; done) | (simp only [convD, tz3, tz109]; rfl)
theorem cv5_3 : convD Zs 5 3 (.int k i) = some (.int .i64 (IntKind.wrap .i64 i)) := by first | (simp only [convD, tz5, tz3]; done) | (simp only [convD, tz5, tz3]; rfl)
theorem cv5_104 : convD Zs 5 104 (.int k i) = some (.int .u32 (IntKind.wrap .u32 i)) := by first | (simp only [convD, tz5, tz104]; done) | (simp only [convD, tz5, tz104]; rfl)
theorem cv9_46 : convD Zs 9 46 (.str s) = some (.sl .no s.size (s.data.toList.map fun b => .int .u8 b.toNat)) := by first | (simp only [convD, tz9, tz46, tz5]; done) | (simp only [convD, tz9, tz46, tz5]; rfl)
theorem cv46_9 : convD Zs 46 9 (.sl o n cs) = if cs.length = n then (bytesD cs).map fun ns => .str (pushB ns) else none := by first | (simp only [convD, tz46, tz9, tz5]; done) | (simp only [convD, tz46, tz9, tz5]; rfl)
theorem cv94_3 : convD Zs 94 3 (.int k i) = some (.int .i64 (IntKind.wrap .i64 i)) := by first | (simp only [convD, tz94, tz3]; done) | (simp only [convD, tz94, tz3]; rfl)
theorem cv94_104 : convD Zs 94 104 (.int k i) = some (.int .u32 (IntKind.wrap .u32 i)) := by first | (simp only [convD, tz94, tz104]; done) | (simp only [convD, tz94, tz104]; rfl)
theorem cv104_5 : convD Zs 104 5 (.int k i) = some (.int .u8 (IntKind.wrap .u8 i)) := by first | (simp only [convD, tz104, tz5]; done) | (simp only [convD, tz104, tz5]; rfl)
theorem cv106_5 : convD Zs 106 5 (.int k i) = some (.int .u8 (IntKind.wrap .u8 i)) := by first | (simp only [convD, tz106, tz5]; done) | (simp only [convD, tz106, tz5]; rfl)
theorem km54_114 {ds : List D} {σ : Heap} {K : D → Heap → Prop} {h : Keep K} : kMeth Zs 54 "ablaut/token.length" x ds σ K h = kCall Zs 114 (x :: ds) σ K h := kMeth_some zm54_114
theorem ks54_114 {ds : List D} {σ : Heap} {K : D → Prop} {h : Keep K} : kSMeth Zs 54 "ablaut/token.length" x ds σ K h = kSCall Zs 114 (x :: ds) σ K h := kSMeth_some zm54_114
theorem md54_114 : methD Zs "ablaut/token.length" 54 = some (.meth "ablaut/token.length" 54) := by simp [methD, zm54_114]
theorem km56_118 {ds : List D} {σ : Heap} {K : D → Heap → Prop} {h : Keep K} : kMeth Zs 56 "ablaut/token.length" x ds σ K h = kCall Zs 118 (x :: ds) σ K h := kMeth_some zm56_118
theorem ks56_118 {ds : List D} {σ : Heap} {K : D → Prop} {h : Keep K} : kSMeth Zs 56 "ablaut/token.length" x ds σ K h = kSCall Zs 118 (x :: ds) σ K h := kSMeth_some zm56_118
theorem md56_118 : methD Zs "ablaut/token.length" 56 = some (.meth "ablaut/token.length" 56) := by simp [methD, zm56_118]
theorem km57_120 {ds : List D} {σ : Heap} {K : D → Heap → Prop} {h : Keep K} : kMeth Zs 57 "ablaut/token.length" x ds σ K h = kCall Zs 120 (x :: ds) σ K h := kMeth_some zm57_120
theorem ks57_120 {ds : List D} {σ : Heap} {K : D → Prop} {h : Keep K} : kSMeth Zs 57 "ablaut/token.length" x ds σ K h = kSCall Zs 120 (x :: ds) σ K h := kSMeth_some zm57_120
theorem md57_120 : methD Zs "ablaut/token.length" 57 = some (.meth "ablaut/token.length" 57) := by simp [methD, zm57_120]
theorem km58_121 {ds : List D} {σ : Heap} {K : D → Heap → Prop} {h : Keep K} : kMeth Zs 58 "ablaut/token.length" x ds σ K h = kCall Zs 121 (x :: ds) σ K h := kMeth_some zm58_121
theorem ks58_121 {ds : List D} {σ : Heap} {K : D → Prop} {h : Keep K} : kSMeth Zs 58 "ablaut/token.length" x ds σ K h = kSCall Zs 121 (x :: ds) σ K h := kSMeth_some zm58_121
theorem md58_121 : methD Zs "ablaut/token.length" 58 = some (.meth "ablaut/token.length" 58) := by simp [methD, zm58_121]
theorem ta54_54 : assertD Zs 54 (.iface 54 x) true = some (.tup [x, .bool true]) := by simp [assertD, tz54, zeroD, ofV]
theorem ta54_56 : assertD Zs 54 (.iface 56 x) true = some (.tup [.sl .nil 0 [], .bool false]) := by simp [assertD, tz54, zeroD, ofV]
theorem ta54_57 : assertD Zs 54 (.iface 57 x) true = some (.tup [.sl .nil 0 [], .bool false]) := by simp [assertD, tz54, zeroD, ofV]
theorem ta54_58 : assertD Zs 54 (.iface 58 x) true = some (.tup [.sl .nil 0 [], .bool false]) := by simp [assertD, tz54, zeroD, ofV]
theorem ta56_54 : assertD Zs 56 (.iface 54 x) true = some (.tup [.agg [], .bool false]) := by simp [assertD, tz56, zeroD, ofV]
theorem ta56_56 : assertD Zs 56 (.iface 56 x) true = some (.tup [x, .bool true]) := by simp [assertD, tz56, zeroD, ofV]
theorem ta56_57 : assertD Zs 56 (.iface 57 x) true = some (.tup [.agg [], .bool false]) := by simp [assertD, tz56, zeroD, ofV]
theorem ta56_58 : assertD Zs 56 (.iface 58 x) true = some (.tup [.agg [], .bool false]) := by simp [assertD, tz56, zeroD, ofV]
theorem ta57_54 : assertD Zs 57 (.iface 54 x) true = some (.tup [.agg [], .bool false]) := by simp [assertD, tz57, zeroD, ofV]
theorem ta57_56 : assertD Zs 57 (.iface 56 x) true = some (.tup [.agg [], .bool false]) := by simp [assertD, tz57, zeroD, ofV]
theorem ta57_57 : assertD Zs 57 (.iface 57 x) true = some (.tup [x, .bool true]) := by simp [assertD, tz57, zeroD, ofV]
theorem ta57_58 : assertD Zs 57 (.iface 58 x) true = some (.tup [.agg [], .bool false]) := by simp [assertD, tz57, zeroD, ofV]
theorem co0 : ofV (.string ⟨#[33]⟩) = .str ⟨#[33]⟩ := (rfl)
theorem co1 : ofV (.string ⟨#[34, 41, 39]⟩) = .str ⟨#[34, 41, 39]⟩ := (rfl)
theorem co2 : ofV (.string ⟨#[34]⟩) = .str ⟨#[34]⟩ := (rfl)
theorem co3 : ofV (.string ⟨#[39, 115]⟩) = .str ⟨#[39, 115]⟩ := (rfl)
theorem co4 : ofV (.string ⟨#[39]⟩) = .str ⟨#[39]⟩ := (rfl)
theorem co5 : ofV (.string ⟨#[41]⟩) = .str ⟨#[41]⟩ := (rfl)
theorem co6 : ofV (.string ⟨#[46, 33, 63]⟩) = .str ⟨#[46, 33, 63]⟩ := (rfl)
theorem co7 : ofV (.string ⟨#[46]⟩) = .str ⟨#[46]⟩ := (rfl)
theorem co8 : ofV (.string ⟨#[63]⟩) = .str ⟨#[63]⟩ := (rfl)
theorem co9 : ofV (.string ⟨#[68, 114, 46, 32, 76, 101, 101, 39, 115, 32, 99, 97, 116, 46, 32, 73, 116, 32, 114, 97, 110, 46]⟩) = .str ⟨#[68, 114, 46, 32, 76, 101, 101, 39, 115, 32, 99, 97, 116, 46, 32, 73, 116, 32, 114, 97, 110, 46]⟩ := (rfl)
theorem co10 : ofV (.string ⟨#[68, 114, 46]⟩) = .str ⟨#[68, 114, 46]⟩ := (rfl)
theorem co11 : ofV (.string ⟨#[]⟩) = .str ⟨#[]⟩ := (rfl)
end
end Go.Proofs.YtapkbkniooleaaaGreat.Vs
