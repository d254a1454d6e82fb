/- Operations at the seat's types, written by dgen.py. -/
import Derived.Test.YthchlpikcpidaaaDoorDmTy
import Derived.Test.YthchlpikcpidaaaDoorDmLib
namespace Go.Proofs.YthchlpikcpidaaaDoor.Vs
set_option linter.unusedVariables false
set_option linter.unusedSimpArgs false
set_option maxRecDepth 100000
section
variable {g : Nat → Option AO} {cs cs' : List D} {x y x3 : D} {o : Own} {n n' nx : Nat} {r off o' : Nat} {i : Int} {k : IntKind} {s : ByteArray} {lo hi : Option D}
theorem ld3 : loadD Zs g 3 (.at cs) = cs[0]? := by first | (simp only [loadD, tz3, pack, TInfo.isAgg, Bool.false_eq_true, if_false, List.head?_eq_getElem?]; done) | (simp only [loadD, tz3, pack, TInfo.isAgg, Bool.false_eq_true, if_false, List.head?_eq_getElem?]; rfl)
theorem lp3 : loadD Zs g 3 (.ptr r off) = match g r with | some (.cells _ cs) => cs[off]? | _ => none := by first | (simp only [loadD, tz3, pack, TInfo.isAgg, Bool.false_eq_true, if_false, List.head?_drop]; done) | (simp only [loadD, tz3, pack, TInfo.isAgg, Bool.false_eq_true, if_false, List.head?_drop]; rfl)
theorem so3 : storeE Zs g 3 (.ptr r off) y = match y.cells with | some ys => (match g r with | some (.cells e cs) => if ys.length = 1 ∧ off + ys.length ≤ cs.length then some (.put r (.cells e (splice cs off ys))) else none | _ => none) | _ => none := by simp only [storeE, tz3]; cases y.cells <;> rfl
theorem al3 : allocR Zs 3 = some (.new (.cells 3 [.int .i64 0])) := by rfl
theorem mi3 : ifaceD Zs 3 x = some (.iface 3 x) := by first | (simp only [ifaceD, tz3]; done) | (simp only [ifaceD, tz3]; rfl)
theorem ld4 : loadD Zs g 4 (.at cs) = cs[0]? := by first | (simp only [loadD, tz4, pack, TInfo.isAgg, Bool.false_eq_true, if_false, List.head?_eq_getElem?]; done) | (simp only [loadD, tz4, pack, TInfo.isAgg, Bool.false_eq_true, if_false, List.head?_eq_getElem?]; rfl)
theorem lp4 : loadD Zs g 4 (.ptr r off) = match g r with | some (.cells _ cs) => cs[off]? | _ => none := by first | (simp only [loadD, tz4, pack, TInfo.isAgg, Bool.false_eq_true, if_false, List.head?_drop]; done) | (simp only [loadD, tz4, pack, TInfo.isAgg, Bool.false_eq_true, if_false, List.head?_drop]; rfl)
theorem so4 : storeE Zs g 4 (.ptr r off) y = match y.cells with | some ys => (match g r with | some (.cells e cs) => if ys.length = 1 ∧ off + ys.length ≤ cs.length then some (.put r (.cells e (splice cs off ys))) else none | _ => none) | _ => none := by simp only [storeE, tz4]; cases y.cells <;> rfl
theorem al4 : allocR Zs 4 = some (.new (.cells 4 [.bool false])) := by rfl
theorem mi4 : ifaceD Zs 4 x = some (.iface 4 x) := by first | (simp only [ifaceD, tz4]; done) | (simp only [ifaceD, tz4]; rfl)
theorem bq4 {a b : Bool} : binD Zs .eql 4 (.bool a) (.bool b) = some (.bool (a == b)) := by simp [binD, isNum, eqT, tz4, eqS]
theorem bn4 {a b : Bool} : binD Zs .neq 4 (.bool a) (.bool b) = some (.bool (!(a == b))) := by simp [binD, isNum, eqT, tz4, eqS]
theorem ld5 : loadD Zs g 5 (.at cs) = cs[0]? := by first | (simp only [loadD, tz5, pack, TInfo.isAgg, Bool.false_eq_true, if_false, List.head?_eq_getElem?]; done) | (simp only [loadD, tz5, pack, TInfo.isAgg, Bool.false_eq_true, if_false, List.head?_eq_getElem?]; rfl)
theorem lp5 : loadD Zs g 5 (.ptr r off) = match g r with | some (.cells _ cs) => cs[off]? | _ => none := by first | (simp only [loadD, tz5, pack, TInfo.isAgg, Bool.false_eq_true, if_false, List.head?_drop]; done) | (simp only [loadD, tz5, pack, TInfo.isAgg, Bool.false_eq_true, if_false, List.head?_drop]; rfl)
theorem so5 : storeE Zs g 5 (.ptr r off) y = match y.cells with | some ys => (match g r with | some (.cells e cs) => if ys.length = 1 ∧ off + ys.length ≤ cs.length then some (.put r (.cells e (splice cs off ys))) else none | _ => none) | _ => none := by simp only [storeE, tz5]; cases y.cells <;> rfl
theorem al5 : allocR Zs 5 = some (.new (.cells 5 [.int .u8 0])) := by rfl
theorem mi5 : ifaceD Zs 5 x = some (.iface 5 x) := by first | (simp only [ifaceD, tz5]; done) | (simp only [ifaceD, tz5]; rfl)
theorem ld9 : loadD Zs g 9 (.at cs) = cs[0]? := by first | (simp only [loadD, tz9, pack, TInfo.isAgg, Bool.false_eq_true, if_false, List.head?_eq_getElem?]; done) | (simp only [loadD, tz9, pack, TInfo.isAgg, Bool.false_eq_true, if_false, List.head?_eq_getElem?]; rfl)
theorem lp9 : loadD Zs g 9 (.ptr r off) = match g r with | some (.cells _ cs) => cs[off]? | _ => none := by first | (simp only [loadD, tz9, pack, TInfo.isAgg, Bool.false_eq_true, if_false, List.head?_drop]; done) | (simp only [loadD, tz9, pack, TInfo.isAgg, Bool.false_eq_true, if_false, List.head?_drop]; rfl)
theorem so9 : storeE Zs g 9 (.ptr r off) y = match y.cells with | some ys => (match g r with | some (.cells e cs) => if ys.length = 1 ∧ off + ys.length ≤ cs.length then some (.put r (.cells e (splice cs off ys))) else none | _ => none) | _ => none := by simp only [storeE, tz9]; cases y.cells <;> rfl
theorem al9 : allocR Zs 9 = some (.new (.cells 9 [.str ⟨#[]⟩])) := by rfl
theorem mi9 : ifaceD Zs 9 x = some (.iface 9 x) := by first | (simp only [ifaceD, tz9]; done) | (simp only [ifaceD, tz9]; rfl)
theorem ln9 : lenD Zs g #[9] (.str s) = some (.int .i64 s.size) := by simp [lenD, tz9]
theorem ie9 : indexD Zs 9 (.str s) (.int k i) = if 0 ≤ i ∧ i < s.size then some (.int .u8 (byteAt s i.toNat)) else none := by first | (simp only [indexD, tz9]; done) | (simp only [indexD, tz9]; rfl)
theorem sl9 : sliceD Zs g 9 (.str s) lo hi none = match bound lo 0, bound hi s.size with | some l, some h => if 0 ≤ l ∧ l ≤ h ∧ h ≤ s.size then some (.str (s.extract l.toNat h.toNat)) else none | _, _ => none := by first | (simp only [sliceD, tz9]; done) | (simp only [sliceD, tz9]; rfl)
theorem ld21 : loadD Zs g 21 (.at cs) = cs[0]? := by first | (simp only [loadD, tz21, pack, TInfo.isAgg, Bool.false_eq_true, if_false, List.head?_eq_getElem?]; done) | (simp only [loadD, tz21, pack, TInfo.isAgg, Bool.false_eq_true, if_false, List.head?_eq_getElem?]; rfl)
theorem lp21 : loadD Zs g 21 (.ptr r off) = match g r with | some (.cells _ cs) => cs[off]? | _ => none := by first | (simp only [loadD, tz21, pack, TInfo.isAgg, Bool.false_eq_true, if_false, List.head?_drop]; done) | (simp only [loadD, tz21, pack, TInfo.isAgg, Bool.false_eq_true, if_false, List.head?_drop]; rfl)
theorem so21 : storeE Zs g 21 (.ptr r off) y = match y.cells with | some ys => (match g r with | some (.cells e cs) => if ys.length = 1 ∧ off + ys.length ≤ cs.length then some (.put r (.cells e (splice cs off ys))) else none | _ => none) | _ => none := by simp only [storeE, tz21]; cases y.cells <;> rfl
theorem al21 : allocR Zs 21 = some (.new (.cells 21 [.int .i32 0])) := by rfl
theorem mi21 : ifaceD Zs 21 x = some (.iface 21 x) := by first | (simp only [ifaceD, tz21]; done) | (simp only [ifaceD, tz21]; rfl)
theorem ld22 : loadD Zs g 22 (.at cs) = cs[0]? := by first | (simp only [loadD, tz22, pack, TInfo.isAgg, Bool.false_eq_true, if_false, List.head?_eq_getElem?]; done) | (simp only [loadD, tz22, pack, TInfo.isAgg, Bool.false_eq_true, if_false, List.head?_eq_getElem?]; rfl)
theorem lp22 : loadD Zs g 22 (.ptr r off) = match g r with | some (.cells _ cs) => cs[off]? | _ => none := by first | (simp only [loadD, tz22, pack, TInfo.isAgg, Bool.false_eq_true, if_false, List.head?_drop]; done) | (simp only [loadD, tz22, pack, TInfo.isAgg, Bool.false_eq_true, if_false, List.head?_drop]; rfl)
theorem so22 : storeE Zs g 22 (.ptr r off) y = match y.cells with | some ys => (match g r with | some (.cells e cs) => if ys.length = 1 ∧ off + ys.length ≤ cs.length then some (.put r (.cells e (splice cs off ys))) else none | _ => none) | _ => none := by simp only [storeE, tz22]; cases y.cells <;> rfl
theorem al22 : allocR Zs 22 = some (.new (.cells 22 [.sl .nil 0 []])) := by rfl
theorem mi22 : ifaceD Zs 22 x = some (.iface 22 x) := by first | (simp only [ifaceD, tz22]; done) | (simp only [ifaceD, tz22]; rfl)
theorem ln22 : lenD Zs g #[22] (.sl o n cs) = some (.int .i64 n) := by simp [lenD, tz22]
theorem cpn22 : capD Zs #[22] (.sl .nil n cs) = some (.int .i64 0) := by simp [capD, tz22]
theorem cpr22 {kk z0 : Nat} : capD Zs #[22] (.row r off n (some kk) z0) = some (.int .i64 kk) := by simp [capD, tz22]
theorem lr22 {c0 : Option Nat} {z0 : Nat} : lenD Zs g #[22] (.row r off n c0 z0) = some (.int .i64 n) := by simp [lenD, tz22]
theorem ix22 : indexAddrD Zs 22 (.sl o n cs) (.int k i) = if (0 ≤ i ∧ i < n) ∧ 0 < cs.length then some (.at (cs.drop (i.toNat * 3))) else none := by first | (simp only [indexAddrD, tz22, tz25, Nat.mul_one]; done) | (simp only [indexAddrD, tz22, tz25, Nat.mul_one]; rfl)
theorem ir22 {c0 : Option Nat} {z0 : Nat} : indexAddrD Zs 22 (.row r off n c0 z0) (.int k i) = if 0 ≤ i ∧ i < n then some (.ptr r (off + i.toNat * 3)) else none := by first | (simp only [indexAddrD, tz22, tz25, Nat.mul_one]; done) | (simp only [indexAddrD, tz22, tz25, Nat.mul_one]; rfl)
theorem sl22 : sliceD Zs g 22 (.sl o n cs) lo hi none = match bound lo 0, bound hi n with | some l, some h => if 0 ≤ l ∧ l ≤ h ∧ h ≤ n ∧ cs.length = n * 3 then some (.sl (cutOwn o) (h.toNat - l.toNat) ((cs.drop (l.toNat * 3)).take ((h.toNat - l.toNat) * 3))) else none | _, _ => none := by simp only [sliceD, tz22, tz25, Nat.mul_one]; cases bound lo 0 <;> cases bound hi n <;> simp only [Nat.mul_one]
theorem en22 : binD Zs .eql 22 (.sl o n cs) (.sl .nil n' cs') = (nilOf o n).map .bool := by simp [binD, isNum, eqT, tz22]
theorem enr22 {c0 : Option Nat} {z0 : Nat} : binD Zs .eql 22 (.row r off n c0 z0) (.sl .nil n' cs') = some (.bool false) := by simp [binD, isNum, eqT, tz22]
theorem nn22 : binD Zs .neq 22 (.sl o n cs) (.sl .nil n' cs') = (nilOf o n).map fun b => .bool (!b) := by simp [binD, isNum, eqT, tz22]
theorem nnr22 {c0 : Option Nat} {z0 : Nat} : binD Zs .neq 22 (.row r off n c0 z0) (.sl .nil n' cs') = some (.bool true) := by simp [binD, isNum, eqT, tz22]
theorem ld23 : loadD Zs g 23 (.at cs) = cs[0]? := by first | (simp only [loadD, tz23, pack, TInfo.isAgg, Bool.false_eq_true, if_false, List.head?_eq_getElem?]; done) | (simp only [loadD, tz23, pack, TInfo.isAgg, Bool.false_eq_true, if_false, List.head?_eq_getElem?]; rfl)
theorem lp23 : loadD Zs g 23 (.ptr r off) = match g r with | some (.cells _ cs) => cs[off]? | _ => none := by first | (simp only [loadD, tz23, pack, TInfo.isAgg, Bool.false_eq_true, if_false, List.head?_drop]; done) | (simp only [loadD, tz23, pack, TInfo.isAgg, Bool.false_eq_true, if_false, List.head?_drop]; rfl)
theorem so23 : storeE Zs g 23 (.ptr r off) y = match y.cells with | some ys => (match g r with | some (.cells e cs) => if ys.length = 1 ∧ off + ys.length ≤ cs.length then some (.put r (.cells e (splice cs off ys))) else none | _ => none) | _ => none := by simp only [storeE, tz23]; cases y.cells <;> rfl
theorem al23 : allocR Zs 23 = some (.new (.cells 23 [.sl .nil 0 []])) := by rfl
theorem mi23 : ifaceD Zs 23 x = some (.iface 23 x) := by first | (simp only [ifaceD, tz23]; done) | (simp only [ifaceD, tz23]; rfl)
theorem mk23 {k' : IntKind} {m : Int} : makeSliceR Zs 0 23 (.int k i) (.int k' m) nx = if 0 ≤ i ∧ i ≤ m ∧ ((16 : Nat) : Int) * m ≤ 281474976710656 ∧ m ≤ (big : Int) then some (.row nx 0 i.toNat (some m.toNat) 1, .new (.cells 9 (List.replicate m.toNat (.str ⟨#[]⟩)))) else none := by exact mk_one tz23 tz9 rfl rfl rfl
theorem bs23_1 : buildSliceR Zs 0 23 1 [(0, x)] nx = lit1 x := by exact build1 tz23 tz9 rfl rfl rfl
theorem bs23_2 : buildSliceR Zs 0 23 2 [(0, x), (1, y)] nx = lit2 x y := by exact build2 tz23 tz9 rfl rfl rfl
theorem bs23_3 : buildSliceR Zs 0 23 3 [(0, x), (1, y), (2, x3)] nx = lit3 x y x3 := by exact build3 tz23 tz9 rfl rfl rfl
theorem ln23 : lenD Zs g #[23] (.sl o n cs) = some (.int .i64 n) := by simp [lenD, tz23]
theorem cpn23 : capD Zs #[23] (.sl .nil n cs) = some (.int .i64 0) := by simp [capD, tz23]
theorem cpr23 {kk z0 : Nat} : capD Zs #[23] (.row r off n (some kk) z0) = some (.int .i64 kk) := by simp [capD, tz23]
theorem lr23 {c0 : Option Nat} {z0 : Nat} : lenD Zs g #[23] (.row r off n c0 z0) = some (.int .i64 n) := by simp [lenD, tz23]
theorem ix23 : indexAddrD Zs 23 (.sl o n cs) (.int k i) = if (0 ≤ i ∧ i < n) ∧ 0 < cs.length then some (.at (cs.drop (i.toNat))) else none := by first | (simp only [indexAddrD, tz23, tz9, Nat.mul_one]; done) | (simp only [indexAddrD, tz23, tz9, Nat.mul_one]; rfl)
theorem ir23 {c0 : Option Nat} {z0 : Nat} : indexAddrD Zs 23 (.row r off n c0 z0) (.int k i) = if 0 ≤ i ∧ i < n then some (.ptr r (off + i.toNat)) else none := by first | (simp only [indexAddrD, tz23, tz9, Nat.mul_one]; done) | (simp only [indexAddrD, tz23, tz9, Nat.mul_one]; rfl)
theorem sl23 : sliceD Zs g 23 (.sl o n cs) lo hi none = match bound lo 0, bound hi n with | some l, some h => if 0 ≤ l ∧ l ≤ h ∧ h ≤ n ∧ cs.length = n then some (.sl (cutOwn o) (h.toNat - l.toNat) ((cs.drop (l.toNat)).take ((h.toNat - l.toNat)))) else none | _, _ => none := by simp only [sliceD, tz23, tz9, Nat.mul_one]; cases bound lo 0 <;> cases bound hi n <;> simp only [Nat.mul_one]
theorem en23 : binD Zs .eql 23 (.sl o n cs) (.sl .nil n' cs') = (nilOf o n).map .bool := by simp [binD, isNum, eqT, tz23]
theorem enr23 {c0 : Option Nat} {z0 : Nat} : binD Zs .eql 23 (.row r off n c0 z0) (.sl .nil n' cs') = some (.bool false) := by simp [binD, isNum, eqT, tz23]
theorem nn23 : binD Zs .neq 23 (.sl o n cs) (.sl .nil n' cs') = (nilOf o n).map fun b => .bool (!b) := by simp [binD, isNum, eqT, tz23]
theorem nnr23 {c0 : Option Nat} {z0 : Nat} : binD Zs .neq 23 (.row r off n c0 z0) (.sl .nil n' cs') = some (.bool true) := by simp [binD, isNum, eqT, tz23]
theorem ld24 : loadD Zs g 24 (.at cs) = if 3 ≤ cs.length then some (.agg (cs.take 3)) else none := by first | (simp only [loadD, tz24, pack, TInfo.isAgg, if_true]; done) | (simp only [loadD, tz24, pack, TInfo.isAgg, if_true]; rfl)
theorem lp24 : loadD Zs g 24 (.ptr r off) = match g r with | some (.cells _ cs) => (if 3 ≤ (cs.drop off).length then some (.agg ((cs.drop off).take 3)) else none) | _ => none := by first | (simp only [loadD, tz24, pack, TInfo.isAgg, if_true]; done) | (simp only [loadD, tz24, pack, TInfo.isAgg, if_true]; rfl)
theorem so24 : storeE Zs g 24 (.ptr r off) y = match y.cells with | some ys => (match g r with | some (.cells e cs) => if ys.length = 3 ∧ off + ys.length ≤ cs.length then some (.put r (.cells e (splice cs off ys))) else none | _ => none) | _ => none := by simp only [storeE, tz24]; cases y.cells <;> rfl
theorem al24 : allocR Zs 24 = some (.new (.cells 24 [.sl .nil 0 [], .str ⟨#[]⟩, .int .i64 0])) := by rfl
theorem mi24 : ifaceD Zs 24 x = some (.iface 24 x) := by first | (simp only [ifaceD, tz24]; done) | (simp only [ifaceD, tz24]; rfl)
theorem fa24_0 : fieldAddrD Zs 24 0 (.at cs) = some (.at (cs.drop 0)) := by simp [fieldAddrD, fieldOf, tz24, tz23]
theorem fp24_0 : fieldAddrD Zs 24 0 (.ptr r o') = some (.ptr r (o' + 0)) := by simp [fieldAddrD, fieldOf, tz24, tz23]
theorem fl24_0 : fieldD Zs 24 0 (.agg cs) = cs[0]? := by simp [fieldD, fieldOf, tz24, tz23, partD, TInfo.isAgg]
theorem fa24_1 : fieldAddrD Zs 24 1 (.at cs) = some (.at (cs.drop 1)) := by simp [fieldAddrD, fieldOf, tz24, tz9]
theorem fp24_1 : fieldAddrD Zs 24 1 (.ptr r o') = some (.ptr r (o' + 1)) := by simp [fieldAddrD, fieldOf, tz24, tz9]
theorem fl24_1 : fieldD Zs 24 1 (.agg cs) = cs[1]? := by simp [fieldD, fieldOf, tz24, tz9, partD, TInfo.isAgg]
theorem fa24_2 : fieldAddrD Zs 24 2 (.at cs) = some (.at (cs.drop 2)) := by simp [fieldAddrD, fieldOf, tz24, tz3]
theorem fp24_2 : fieldAddrD Zs 24 2 (.ptr r o') = some (.ptr r (o' + 2)) := by simp [fieldAddrD, fieldOf, tz24, tz3]
theorem fl24_2 : fieldD Zs 24 2 (.agg cs) = cs[2]? := by simp [fieldD, fieldOf, tz24, tz3, partD, TInfo.isAgg]
theorem ld25 : loadD Zs g 25 (.at cs) = if 3 ≤ cs.length then some (.agg (cs.take 3)) else none := by first | (simp only [loadD, tz25, pack, TInfo.isAgg, if_true]; done) | (simp only [loadD, tz25, pack, TInfo.isAgg, if_true]; rfl)
theorem lp25 : loadD Zs g 25 (.ptr r off) = match g r with | some (.cells _ cs) => (if 3 ≤ (cs.drop off).length then some (.agg ((cs.drop off).take 3)) else none) | _ => none := by first | (simp only [loadD, tz25, pack, TInfo.isAgg, if_true]; done) | (simp only [loadD, tz25, pack, TInfo.isAgg, if_true]; rfl)
theorem so25 : storeE Zs g 25 (.ptr r off) y = match y.cells with | some ys => (match g r with | some (.cells e cs) => if ys.length = 3 ∧ off + ys.length ≤ cs.length then some (.put r (.cells e (splice cs off ys))) else none | _ => none) | _ => none := by simp only [storeE, tz25]; cases y.cells <;> rfl
theorem al25 : allocR Zs 25 = some (.new (.cells 25 [.sl .nil 0 [], .str ⟨#[]⟩, .int .i64 0])) := by rfl
theorem mi25 : ifaceD Zs 25 x = some (.iface 25 x) := by first | (simp only [ifaceD, tz25]; done) | (simp only [ifaceD, tz25]; rfl)
theorem fa25_0 : fieldAddrD Zs 25 0 (.at cs) = some (.at (cs.drop 0)) := by simp [fieldAddrD, fieldOf, tz25, tz23]
theorem fp25_0 : fieldAddrD Zs 25 0 (.ptr r o') = some (.ptr r (o' + 0)) := by simp [fieldAddrD, fieldOf, tz25, tz23]
theorem fl25_0 : fieldD Zs 25 0 (.agg cs) = cs[0]? := by simp [fieldD, fieldOf, tz25, tz23, partD, TInfo.isAgg]
theorem fa25_1 : fieldAddrD Zs 25 1 (.at cs) = some (.at (cs.drop 1)) := by simp [fieldAddrD, fieldOf, tz25, tz9]
theorem fp25_1 : fieldAddrD Zs 25 1 (.ptr r o') = some (.ptr r (o' + 1)) := by simp [fieldAddrD, fieldOf, tz25, tz9]
theorem fl25_1 : fieldD Zs 25 1 (.agg cs) = cs[1]? := by simp [fieldD, fieldOf, tz25, tz9, partD, TInfo.isAgg]
theorem fa25_2 : fieldAddrD Zs 25 2 (.at cs) = some (.at (cs.drop 2)) := by simp [fieldAddrD, fieldOf, tz25, tz3]
theorem fp25_2 : fieldAddrD Zs 25 2 (.ptr r o') = some (.ptr r (o' + 2)) := by simp [fieldAddrD, fieldOf, tz25, tz3]
theorem fl25_2 : fieldD Zs 25 2 (.agg cs) = cs[2]? := by simp [fieldD, fieldOf, tz25, tz3, partD, TInfo.isAgg]
theorem ld28 : loadD Zs g 28 (.at cs) = cs[0]? := by first | (simp only [loadD, tz28, pack, TInfo.isAgg, Bool.false_eq_true, if_false, List.head?_eq_getElem?]; done) | (simp only [loadD, tz28, pack, TInfo.isAgg, Bool.false_eq_true, if_false, List.head?_eq_getElem?]; rfl)
theorem lp28 : loadD Zs g 28 (.ptr r off) = match g r with | some (.cells _ cs) => cs[off]? | _ => none := by first | (simp only [loadD, tz28, pack, TInfo.isAgg, Bool.false_eq_true, if_false, List.head?_drop]; done) | (simp only [loadD, tz28, pack, TInfo.isAgg, Bool.false_eq_true, if_false, List.head?_drop]; rfl)
theorem so28 : storeE Zs g 28 (.ptr r off) y = match y.cells with | some ys => (match g r with | some (.cells e cs) => if ys.length = 1 ∧ off + ys.length ≤ cs.length then some (.put r (.cells e (splice cs off ys))) else none | _ => none) | _ => none := by simp only [storeE, tz28]; cases y.cells <;> rfl
theorem al28 : allocR Zs 28 = some (.new (.cells 28 [.nilptr])) := by rfl
theorem mi28 : ifaceD Zs 28 x = some (.iface 28 x) := by first | (simp only [ifaceD, tz28]; done) | (simp only [ifaceD, tz28]; rfl)
theorem peql28 : binD Zs .eql 28 (.ptr r off) .nilptr = some (.bool false) := by simp [binD, isNum, eqT, tz28]
theorem paeql28 : binD Zs .eql 28 (.at cs) .nilptr = some (.bool false) := by simp [binD, isNum, eqT, tz28]
theorem pneql28 : binD Zs .eql 28 .nilptr .nilptr = some (.bool true) := by simp [binD, isNum, eqT, tz28]
theorem pneq28 : binD Zs .neq 28 (.ptr r off) .nilptr = some (.bool true) := by simp [binD, isNum, eqT, tz28]
theorem paneq28 : binD Zs .neq 28 (.at cs) .nilptr = some (.bool true) := by simp [binD, isNum, eqT, tz28]
theorem pnneq28 : binD Zs .neq 28 .nilptr .nilptr = some (.bool false) := by simp [binD, isNum, eqT, tz28]
theorem ld29 : loadD Zs g 29 (.at cs) = cs[0]? := by first | (simp only [loadD, tz29, pack, TInfo.isAgg, Bool.false_eq_true, if_false, List.head?_eq_getElem?]; done) | (simp only [loadD, tz29, pack, TInfo.isAgg, Bool.false_eq_true, if_false, List.head?_eq_getElem?]; rfl)
theorem lp29 : loadD Zs g 29 (.ptr r off) = match g r with | some (.cells _ cs) => cs[off]? | _ => none := by first | (simp only [loadD, tz29, pack, TInfo.isAgg, Bool.false_eq_true, if_false, List.head?_drop]; done) | (simp only [loadD, tz29, pack, TInfo.isAgg, Bool.false_eq_true, if_false, List.head?_drop]; rfl)
theorem so29 : storeE Zs g 29 (.ptr r off) y = match y.cells with | some ys => (match g r with | some (.cells e cs) => if ys.length = 1 ∧ off + ys.length ≤ cs.length then some (.put r (.cells e (splice cs off ys))) else none | _ => none) | _ => none := by simp only [storeE, tz29]; cases y.cells <;> rfl
theorem al29 : allocR Zs 29 = some (.new (.cells 29 [.int .i64 0])) := by rfl
theorem mi29 : ifaceD Zs 29 x = some (.iface 29 x) := by first | (simp only [ifaceD, tz29]; done) | (simp only [ifaceD, tz29]; rfl)
theorem ld40 : loadD Zs g 40 (.at cs) = cs[0]? := by first | (simp only [loadD, tz40, pack, TInfo.isAgg, Bool.false_eq_true, if_false, List.head?_eq_getElem?]; done) | (simp only [loadD, tz40, pack, TInfo.isAgg, Bool.false_eq_true, if_false, List.head?_eq_getElem?]; rfl)
theorem lp40 : loadD Zs g 40 (.ptr r off) = match g r with | some (.cells _ cs) => cs[off]? | _ => none := by first | (simp only [loadD, tz40, pack, TInfo.isAgg, Bool.false_eq_true, if_false, List.head?_drop]; done) | (simp only [loadD, tz40, pack, TInfo.isAgg, Bool.false_eq_true, if_false, List.head?_drop]; rfl)
theorem so40 : storeE Zs g 40 (.ptr r off) y = match y.cells with | some ys => (match g r with | some (.cells e cs) => if ys.length = 1 ∧ off + ys.length ≤ cs.length then some (.put r (.cells e (splice cs off ys))) else none | _ => none) | _ => none := by simp only [storeE, tz40]; cases y.cells <;> rfl
theorem al40 : allocR Zs 40 = some (.new (.cells 40 [.nilmap])) := by rfl
theorem mi40 : ifaceD Zs 40 x = some (.iface 40 x) := by first | (simp only [ifaceD, tz40]; done) | (simp only [ifaceD, tz40]; rfl)
theorem meql40 : binD Zs .eql 40 (.map r) .nilmap = some (.bool false) := by simp [binD, isNum, eqT, tz40]
theorem mneql40 : binD Zs .eql 40 .nilmap .nilmap = some (.bool true) := by simp [binD, isNum, eqT, tz40]
theorem mneq40 : binD Zs .neq 40 (.map r) .nilmap = some (.bool true) := by simp [binD, isNum, eqT, tz40]
theorem mnneq40 : binD Zs .neq 40 .nilmap .nilmap = some (.bool false) := by simp [binD, isNum, eqT, tz40]
theorem lnn40 : lenD Zs g #[40] .nilmap = some (.int .i64 0) := by simp [lenD, tz40]
theorem lnm40 : lenD Zs g #[40] (.map r) = match g r with | some (.map es _) => some (.int .i64 es.length) | _ => none := by simp [lenD, tz40]; rfl
theorem ld41 : loadD Zs g 41 (.at cs) = cs[0]? := by first | (simp only [loadD, tz41, pack, TInfo.isAgg, Bool.false_eq_true, if_false, List.head?_eq_getElem?]; done) | (simp only [loadD, tz41, pack, TInfo.isAgg, Bool.false_eq_true, if_false, List.head?_eq_getElem?]; rfl)
theorem lp41 : loadD Zs g 41 (.ptr r off) = match g r with | some (.cells _ cs) => cs[off]? | _ => none := by first | (simp only [loadD, tz41, pack, TInfo.isAgg, Bool.false_eq_true, if_false, List.head?_drop]; done) | (simp only [loadD, tz41, pack, TInfo.isAgg, Bool.false_eq_true, if_false, List.head?_drop]; rfl)
theorem so41 : storeE Zs g 41 (.ptr r off) y = match y.cells with | some ys => (match g r with | some (.cells e cs) => if ys.length = 1 ∧ off + ys.length ≤ cs.length then some (.put r (.cells e (splice cs off ys))) else none | _ => none) | _ => none := by simp only [storeE, tz41]; cases y.cells <;> rfl
theorem al41 : allocR Zs 41 = some (.new (.cells 41 [.nilmap])) := by rfl
theorem mi41 : ifaceD Zs 41 x = some (.iface 41 x) := by first | (simp only [ifaceD, tz41]; done) | (simp only [ifaceD, tz41]; rfl)
theorem meql41 : binD Zs .eql 41 (.map r) .nilmap = some (.bool false) := by simp [binD, isNum, eqT, tz41]
theorem mneql41 : binD Zs .eql 41 .nilmap .nilmap = some (.bool true) := by simp [binD, isNum, eqT, tz41]
theorem mneq41 : binD Zs .neq 41 (.map r) .nilmap = some (.bool true) := by simp [binD, isNum, eqT, tz41]
theorem mnneq41 : binD Zs .neq 41 .nilmap .nilmap = some (.bool false) := by simp [binD, isNum, eqT, tz41]
theorem lnn41 : lenD Zs g #[41] .nilmap = some (.int .i64 0) := by simp [lenD, tz41]
theorem lnm41 : lenD Zs g #[41] (.map r) = match g r with | some (.map es _) => some (.int .i64 es.length) | _ => none := by simp [lenD, tz41]; rfl
theorem ld42 : loadD Zs g 42 (.at cs) = if 2 ≤ cs.length then some (.agg (cs.take 2)) else none := by first | (simp only [loadD, tz42, pack, TInfo.isAgg, if_true]; done) | (simp only [loadD, tz42, pack, TInfo.isAgg, if_true]; rfl)
theorem lp42 : loadD Zs g 42 (.ptr r off) = match g r with | some (.cells _ cs) => (if 2 ≤ (cs.drop off).length then some (.agg ((cs.drop off).take 2)) else none) | _ => none := by first | (simp only [loadD, tz42, pack, TInfo.isAgg, if_true]; done) | (simp only [loadD, tz42, pack, TInfo.isAgg, if_true]; rfl)
theorem so42 : storeE Zs g 42 (.ptr r off) y = match y.cells with | some ys => (match g r with | some (.cells e cs) => if ys.length = 2 ∧ off + ys.length ≤ cs.length then some (.put r (.cells e (splice cs off ys))) else none | _ => none) | _ => none := by simp only [storeE, tz42]; cases y.cells <;> rfl
theorem al42 : allocR Zs 42 = some (.new (.cells 42 [.nilmap, .nilmap])) := by rfl
theorem mi42 : ifaceD Zs 42 x = some (.iface 42 x) := by first | (simp only [ifaceD, tz42]; done) | (simp only [ifaceD, tz42]; rfl)
theorem fa42_0 : fieldAddrD Zs 42 0 (.at cs) = some (.at (cs.drop 0)) := by simp [fieldAddrD, fieldOf, tz42, tz40]
theorem fp42_0 : fieldAddrD Zs 42 0 (.ptr r o') = some (.ptr r (o' + 0)) := by simp [fieldAddrD, fieldOf, tz42, tz40]
theorem fl42_0 : fieldD Zs 42 0 (.agg cs) = cs[0]? := by simp [fieldD, fieldOf, tz42, tz40, partD, TInfo.isAgg]
theorem fa42_1 : fieldAddrD Zs 42 1 (.at cs) = some (.at (cs.drop 1)) := by simp [fieldAddrD, fieldOf, tz42, tz41]
theorem fp42_1 : fieldAddrD Zs 42 1 (.ptr r o') = some (.ptr r (o' + 1)) := by simp [fieldAddrD, fieldOf, tz42, tz41]
theorem fl42_1 : fieldD Zs 42 1 (.agg cs) = cs[1]? := by simp [fieldD, fieldOf, tz42, tz41, partD, TInfo.isAgg]
theorem ld43 : loadD Zs g 43 (.at cs) = if 2 ≤ cs.length then some (.agg (cs.take 2)) else none := by first | (simp only [loadD, tz43, pack, TInfo.isAgg, if_true]; done) | (simp only [loadD, tz43, pack, TInfo.isAgg, if_true]; rfl)
theorem lp43 : loadD Zs g 43 (.ptr r off) = match g r with | some (.cells _ cs) => (if 2 ≤ (cs.drop off).length then some (.agg ((cs.drop off).take 2)) else none) | _ => none := by first | (simp only [loadD, tz43, pack, TInfo.isAgg, if_true]; done) | (simp only [loadD, tz43, pack, TInfo.isAgg, if_true]; rfl)
theorem so43 : storeE Zs g 43 (.ptr r off) y = match y.cells with | some ys => (match g r with | some (.cells e cs) => if ys.length = 2 ∧ off + ys.length ≤ cs.length then some (.put r (.cells e (splice cs off ys))) else none | _ => none) | _ => none := by simp only [storeE, tz43]; cases y.cells <;> rfl
theorem al43 : allocR Zs 43 = some (.new (.cells 43 [.nilmap, .nilmap])) := by rfl
theorem mi43 : ifaceD Zs 43 x = some (.iface 43 x) := by first | (simp only [ifaceD, tz43]; done) | (simp only [ifaceD, tz43]; rfl)
theorem fa43_0 : fieldAddrD Zs 43 0 (.at cs) = some (.at (cs.drop 0)) := by simp [fieldAddrD, fieldOf, tz43, tz40]
theorem fp43_0 : fieldAddrD Zs 43 0 (.ptr r o') = some (.ptr r (o' + 0)) := by simp [fieldAddrD, fieldOf, tz43, tz40]
theorem fl43_0 : fieldD Zs 43 0 (.agg cs) = cs[0]? := by simp [fieldD, fieldOf, tz43, tz40, partD, TInfo.isAgg]
theorem fa43_1 : fieldAddrD Zs 43 1 (.at cs) = some (.at (cs.drop 1)) := by simp [fieldAddrD, fieldOf, tz43, tz41]
theorem fp43_1 : fieldAddrD Zs 43 1 (.ptr r o') = some (.ptr r (o' + 1)) := by simp [fieldAddrD, fieldOf, tz43, tz41]
theorem fl43_1 : fieldD Zs 43 1 (.agg cs) = cs[1]? := by simp [fieldD, fieldOf, tz43, tz41, partD, TInfo.isAgg]
theorem ld47 : loadD Zs g 47 (.at cs) = if 2 ≤ cs.length then some (.agg (cs.take 2)) else none := by first | (simp only [loadD, tz47, pack, TInfo.isAgg, if_true]; done) | (simp only [loadD, tz47, pack, TInfo.isAgg, if_true]; rfl)
theorem lp47 : loadD Zs g 47 (.ptr r off) = match g r with | some (.cells _ cs) => (if 2 ≤ (cs.drop off).length then some (.agg ((cs.drop off).take 2)) else none) | _ => none := by first | (simp only [loadD, tz47, pack, TInfo.isAgg, if_true]; done) | (simp only [loadD, tz47, pack, TInfo.isAgg, if_true]; rfl)
theorem so47 : storeE Zs g 47 (.ptr r off) y = match y.cells with | some ys => (match g r with | some (.cells e cs) => if ys.length = 2 ∧ off + ys.length ≤ cs.length then some (.put r (.cells e (splice cs off ys))) else none | _ => none) | _ => none := by simp only [storeE, tz47]; cases y.cells <;> rfl
theorem al47 : allocR Zs 47 = some (.new (.cells 47 [.str ⟨#[]⟩, .str ⟨#[]⟩])) := by rfl
theorem mi47 : ifaceD Zs 47 x = some (.iface 47 x) := by first | (simp only [ifaceD, tz47]; done) | (simp only [ifaceD, tz47]; rfl)
theorem fa47_0 : fieldAddrD Zs 47 0 (.at cs) = some (.at (cs.drop 0)) := by simp [fieldAddrD, fieldOf, tz47, tz9]
theorem fp47_0 : fieldAddrD Zs 47 0 (.ptr r o') = some (.ptr r (o' + 0)) := by simp [fieldAddrD, fieldOf, tz47, tz9]
theorem fl47_0 : fieldD Zs 47 0 (.agg cs) = cs[0]? := by simp [fieldD, fieldOf, tz47, tz9, partD, TInfo.isAgg]
theorem fa47_1 : fieldAddrD Zs 47 1 (.at cs) = some (.at (cs.drop 1)) := by simp [fieldAddrD, fieldOf, tz47, tz9]
theorem fp47_1 : fieldAddrD Zs 47 1 (.ptr r o') = some (.ptr r (o' + 1)) := by simp [fieldAddrD, fieldOf, tz47, tz9]
theorem fl47_1 : fieldD Zs 47 1 (.agg cs) = cs[1]? := by simp [fieldD, fieldOf, tz47, tz9, partD, TInfo.isAgg]
theorem ld48 : loadD Zs g 48 (.at cs) = if 2 ≤ cs.length then some (.agg (cs.take 2)) else none := by first | (simp only [loadD, tz48, pack, TInfo.isAgg, if_true]; done) | (simp only [loadD, tz48, pack, TInfo.isAgg, if_true]; rfl)
theorem lp48 : loadD Zs g 48 (.ptr r off) = match g r with | some (.cells _ cs) => (if 2 ≤ (cs.drop off).length then some (.agg ((cs.drop off).take 2)) else none) | _ => none := by first | (simp only [loadD, tz48, pack, TInfo.isAgg, if_true]; done) | (simp only [loadD, tz48, pack, TInfo.isAgg, if_true]; rfl)
theorem so48 : storeE Zs g 48 (.ptr r off) y = match y.cells with | some ys => (match g r with | some (.cells e cs) => if ys.length = 2 ∧ off + ys.length ≤ cs.length then some (.put r (.cells e (splice cs off ys))) else none | _ => none) | _ => none := by simp only [storeE, tz48]; cases y.cells <;> rfl
theorem al48 : allocR Zs 48 = some (.new (.cells 48 [.str ⟨#[]⟩, .str ⟨#[]⟩])) := by rfl
theorem mi48 : ifaceD Zs 48 x = some (.iface 48 x) := by first | (simp only [ifaceD, tz48]; done) | (simp only [ifaceD, tz48]; rfl)
theorem fa48_0 : fieldAddrD Zs 48 0 (.at cs) = some (.at (cs.drop 0)) := by simp [fieldAddrD, fieldOf, tz48, tz9]
theorem fp48_0 : fieldAddrD Zs 48 0 (.ptr r o') = some (.ptr r (o' + 0)) := by simp [fieldAddrD, fieldOf, tz48, tz9]
theorem fl48_0 : fieldD Zs 48 0 (.agg cs) = cs[0]? := by simp [fieldD, fieldOf, tz48, tz9, partD, TInfo.isAgg]
theorem fa48_1 : fieldAddrD Zs 48 1 (.at cs) = some (.at (cs.drop 1)) := by simp [fieldAddrD, fieldOf, tz48, tz9]
theorem fp48_1 : fieldAddrD Zs 48 1 (.ptr r o') = some (.ptr r (o' + 1)) := by simp [fieldAddrD, fieldOf, tz48, tz9]
theorem fl48_1 : fieldD Zs 48 1 (.agg cs) = cs[1]? := by simp [fieldD, fieldOf, tz48, tz9, partD, TInfo.isAgg]
theorem ld54 : loadD Zs g 54 (.at cs) = cs[0]? := by first | (simp only [loadD, tz54, pack, TInfo.isAgg, Bool.false_eq_true, if_false, List.head?_eq_getElem?]; done) | (simp only [loadD, tz54, pack, TInfo.isAgg, Bool.false_eq_true, if_false, List.head?_eq_getElem?]; rfl)
theorem lp54 : loadD Zs g 54 (.ptr r off) = match g r with | some (.cells _ cs) => cs[off]? | _ => none := by first | (simp only [loadD, tz54, pack, TInfo.isAgg, Bool.false_eq_true, if_false, List.head?_drop]; done) | (simp only [loadD, tz54, pack, TInfo.isAgg, Bool.false_eq_true, if_false, List.head?_drop]; rfl)
theorem so54 : storeE Zs g 54 (.ptr r off) y = match y.cells with | some ys => (match g r with | some (.cells e cs) => if ys.length = 1 ∧ off + ys.length ≤ cs.length then some (.put r (.cells e (splice cs off ys))) else none | _ => none) | _ => none := by simp only [storeE, tz54]; cases y.cells <;> rfl
theorem al54 : allocR Zs 54 = some (.new (.cells 54 [.nilfunc])) := by rfl
theorem mi54 : ifaceD Zs 54 x = some (.iface 54 x) := by first | (simp only [ifaceD, tz54]; done) | (simp only [ifaceD, tz54]; rfl)
theorem ld55 : loadD Zs g 55 (.at cs) = cs[0]? := by first | (simp only [loadD, tz55, pack, TInfo.isAgg, Bool.false_eq_true, if_false, List.head?_eq_getElem?]; done) | (simp only [loadD, tz55, pack, TInfo.isAgg, Bool.false_eq_true, if_false, List.head?_eq_getElem?]; rfl)
theorem lp55 : loadD Zs g 55 (.ptr r off) = match g r with | some (.cells _ cs) => cs[off]? | _ => none := by first | (simp only [loadD, tz55, pack, TInfo.isAgg, Bool.false_eq_true, if_false, List.head?_drop]; done) | (simp only [loadD, tz55, pack, TInfo.isAgg, Bool.false_eq_true, if_false, List.head?_drop]; rfl)
theorem so55 : storeE Zs g 55 (.ptr r off) y = match y.cells with | some ys => (match g r with | some (.cells e cs) => if ys.length = 1 ∧ off + ys.length ≤ cs.length then some (.put r (.cells e (splice cs off ys))) else none | _ => none) | _ => none := by simp only [storeE, tz55]; cases y.cells <;> rfl
theorem al55 : allocR Zs 55 = some (.new (.cells 55 [.sl .nil 0 []])) := by rfl
theorem mi55 : ifaceD Zs 55 x = some (.iface 55 x) := by first | (simp only [ifaceD, tz55]; done) | (simp only [ifaceD, tz55]; rfl)
theorem mk55 {k' : IntKind} {m : Int} : makeSliceR Zs 0 55 (.int k i) (.int k' m) nx = if 0 ≤ i ∧ i ≤ m ∧ ((24 : Nat) : Int) * m ≤ 281474976710656 ∧ m ≤ (big : Int) then some (.row nx 0 i.toNat (some m.toNat) 1, .new (.cells 23 (List.replicate m.toNat (.sl .nil 0 [])))) else none := by exact mk_one tz55 tz23 rfl rfl rfl
theorem bs55_1 : buildSliceR Zs 0 55 1 [(0, x)] nx = lit1 x := by exact build1 tz55 tz23 rfl rfl rfl
theorem bs55_2 : buildSliceR Zs 0 55 2 [(0, x), (1, y)] nx = lit2 x y := by exact build2 tz55 tz23 rfl rfl rfl
theorem bs55_3 : buildSliceR Zs 0 55 3 [(0, x), (1, y), (2, x3)] nx = lit3 x y x3 := by exact build3 tz55 tz23 rfl rfl rfl
theorem ln55 : lenD Zs g #[55] (.sl o n cs) = some (.int .i64 n) := by simp [lenD, tz55]
theorem cpn55 : capD Zs #[55] (.sl .nil n cs) = some (.int .i64 0) := by simp [capD, tz55]
theorem cpr55 {kk z0 : Nat} : capD Zs #[55] (.row r off n (some kk) z0) = some (.int .i64 kk) := by simp [capD, tz55]
theorem lr55 {c0 : Option Nat} {z0 : Nat} : lenD Zs g #[55] (.row r off n c0 z0) = some (.int .i64 n) := by simp [lenD, tz55]
theorem ix55 : indexAddrD Zs 55 (.sl o n cs) (.int k i) = if (0 ≤ i ∧ i < n) ∧ 0 < cs.length then some (.at (cs.drop (i.toNat))) else none := by first | (simp only [indexAddrD, tz55, tz23, Nat.mul_one]; done) | (simp only [indexAddrD, tz55, tz23, Nat.mul_one]; rfl)
theorem ir55 {c0 : Option Nat} {z0 : Nat} : indexAddrD Zs 55 (.row r off n c0 z0) (.int k i) = if 0 ≤ i ∧ i < n then some (.ptr r (off + i.toNat)) else none := by first | (simp only [indexAddrD, tz55, tz23, Nat.mul_one]; done) | (simp only [indexAddrD, tz55, tz23, Nat.mul_one]; rfl)
theorem sl55 : sliceD Zs g 55 (.sl o n cs) lo hi none = match bound lo 0, bound hi n with | some l, some h => if 0 ≤ l ∧ l ≤ h ∧ h ≤ n ∧ cs.length = n then some (.sl (cutOwn o) (h.toNat - l.toNat) ((cs.drop (l.toNat)).take ((h.toNat - l.toNat)))) else none | _, _ => none := by simp only [sliceD, tz55, tz23, Nat.mul_one]; cases bound lo 0 <;> cases bound hi n <;> simp only [Nat.mul_one]
theorem en55 : binD Zs .eql 55 (.sl o n cs) (.sl .nil n' cs') = (nilOf o n).map .bool := by simp [binD, isNum, eqT, tz55]
theorem enr55 {c0 : Option Nat} {z0 : Nat} : binD Zs .eql 55 (.row r off n c0 z0) (.sl .nil n' cs') = some (.bool false) := by simp [binD, isNum, eqT, tz55]
theorem nn55 : binD Zs .neq 55 (.sl o n cs) (.sl .nil n' cs') = (nilOf o n).map fun b => .bool (!b) := by simp [binD, isNum, eqT, tz55]
theorem nnr55 {c0 : Option Nat} {z0 : Nat} : binD Zs .neq 55 (.row r off n c0 z0) (.sl .nil n' cs') = some (.bool true) := by simp [binD, isNum, eqT, tz55]
theorem ld57 : loadD Zs g 57 (.at cs) = cs[0]? := by first | (simp only [loadD, tz57, pack, TInfo.isAgg, Bool.false_eq_true, if_false, List.head?_eq_getElem?]; done) | (simp only [loadD, tz57, pack, TInfo.isAgg, Bool.false_eq_true, if_false, List.head?_eq_getElem?]; rfl)
theorem lp57 : loadD Zs g 57 (.ptr r off) = match g r with | some (.cells _ cs) => cs[off]? | _ => none := by first | (simp only [loadD, tz57, pack, TInfo.isAgg, Bool.false_eq_true, if_false, List.head?_drop]; done) | (simp only [loadD, tz57, pack, TInfo.isAgg, Bool.false_eq_true, if_false, List.head?_drop]; rfl)
theorem so57 : storeE Zs g 57 (.ptr r off) y = match y.cells with | some ys => (match g r with | some (.cells e cs) => if ys.length = 1 ∧ off + ys.length ≤ cs.length then some (.put r (.cells e (splice cs off ys))) else none | _ => none) | _ => none := by simp only [storeE, tz57]; cases y.cells <;> rfl
theorem al57 : allocR Zs 57 = some (.new (.cells 57 [.nilmap])) := by rfl
theorem mi57 : ifaceD Zs 57 x = some (.iface 57 x) := by first | (simp only [ifaceD, tz57]; done) | (simp only [ifaceD, tz57]; rfl)
theorem meql57 : binD Zs .eql 57 (.map r) .nilmap = some (.bool false) := by simp [binD, isNum, eqT, tz57]
theorem mneql57 : binD Zs .eql 57 .nilmap .nilmap = some (.bool true) := by simp [binD, isNum, eqT, tz57]
theorem mneq57 : binD Zs .neq 57 (.map r) .nilmap = some (.bool true) := by simp [binD, isNum, eqT, tz57]
theorem mnneq57 : binD Zs .neq 57 .nilmap .nilmap = some (.bool false) := by simp [binD, isNum, eqT, tz57]
theorem lnn57 : lenD Zs g #[57] .nilmap = some (.int .i64 0) := by simp [lenD, tz57]
theorem lnm57 : lenD Zs g #[57] (.map r) = match g r with | some (.map es _) => some (.int .i64 es.length) | _ => none := by simp [lenD, tz57]; rfl
theorem ld58 : loadD Zs g 58 (.at cs) = if 2 ≤ cs.length then some (.agg (cs.take 2)) else none := by first | (simp only [loadD, tz58, pack, TInfo.isAgg, if_true]; done) | (simp only [loadD, tz58, pack, TInfo.isAgg, if_true]; rfl)
theorem lp58 : loadD Zs g 58 (.ptr r off) = match g r with | some (.cells _ cs) => (if 2 ≤ (cs.drop off).length then some (.agg ((cs.drop off).take 2)) else none) | _ => none := by first | (simp only [loadD, tz58, pack, TInfo.isAgg, if_true]; done) | (simp only [loadD, tz58, pack, TInfo.isAgg, if_true]; rfl)
theorem so58 : storeE Zs g 58 (.ptr r off) y = match y.cells with | some ys => (match g r with | some (.cells e cs) => if ys.length = 2 ∧ off + ys.length ≤ cs.length then some (.put r (.cells e (splice cs off ys))) else none | _ => none) | _ => none := by simp only [storeE, tz58]; cases y.cells <;> rfl
theorem al58 : allocR Zs 58 = some (.new (.cells 58 [.int .i64 0, .int .i64 0])) := by rfl
theorem mi58 : ifaceD Zs 58 x = some (.iface 58 x) := by first | (simp only [ifaceD, tz58]; done) | (simp only [ifaceD, tz58]; rfl)
theorem fa58_0 : fieldAddrD Zs 58 0 (.at cs) = some (.at (cs.drop 0)) := by simp [fieldAddrD, fieldOf, tz58, tz3]
theorem fp58_0 : fieldAddrD Zs 58 0 (.ptr r o') = some (.ptr r (o' + 0)) := by simp [fieldAddrD, fieldOf, tz58, tz3]
theorem fl58_0 : fieldD Zs 58 0 (.agg cs) = cs[0]? := by simp [fieldD, fieldOf, tz58, tz3, partD, TInfo.isAgg]
theorem fa58_1 : fieldAddrD Zs 58 1 (.at cs) = some (.at (cs.drop 1)) := by simp [fieldAddrD, fieldOf, tz58, tz3]
theorem fp58_1 : fieldAddrD Zs 58 1 (.ptr r o') = some (.ptr r (o' + 1)) := by simp [fieldAddrD, fieldOf, tz58, tz3]
theorem fl58_1 : fieldD Zs 58 1 (.agg cs) = cs[1]? := by simp [fieldD, fieldOf, tz58, tz3, partD, TInfo.isAgg]
theorem ld59 : loadD Zs g 59 (.at cs) = if 2 ≤ cs.length then some (.agg (cs.take 2)) else none := by first | (simp only [loadD, tz59, pack, TInfo.isAgg, if_true]; done) | (simp only [loadD, tz59, pack, TInfo.isAgg, if_true]; rfl)
theorem lp59 : loadD Zs g 59 (.ptr r off) = match g r with | some (.cells _ cs) => (if 2 ≤ (cs.drop off).length then some (.agg ((cs.drop off).take 2)) else none) | _ => none := by first | (simp only [loadD, tz59, pack, TInfo.isAgg, if_true]; done) | (simp only [loadD, tz59, pack, TInfo.isAgg, if_true]; rfl)
theorem so59 : storeE Zs g 59 (.ptr r off) y = match y.cells with | some ys => (match g r with | some (.cells e cs) => if ys.length = 2 ∧ off + ys.length ≤ cs.length then some (.put r (.cells e (splice cs off ys))) else none | _ => none) | _ => none := by simp only [storeE, tz59]; cases y.cells <;> rfl
theorem al59 : allocR Zs 59 = some (.new (.cells 59 [.int .i64 0, .int .i64 0])) := by rfl
theorem mi59 : ifaceD Zs 59 x = some (.iface 59 x) := by first | (simp only [ifaceD, tz59]; done) | (simp only [ifaceD, tz59]; rfl)
theorem fa59_0 : fieldAddrD Zs 59 0 (.at cs) = some (.at (cs.drop 0)) := by simp [fieldAddrD, fieldOf, tz59, tz3]
theorem fp59_0 : fieldAddrD Zs 59 0 (.ptr r o') = some (.ptr r (o' + 0)) := by simp [fieldAddrD, fieldOf, tz59, tz3]
theorem fl59_0 : fieldD Zs 59 0 (.agg cs) = cs[0]? := by simp [fieldD, fieldOf, tz59, tz3, partD, TInfo.isAgg]
theorem fa59_1 : fieldAddrD Zs 59 1 (.at cs) = some (.at (cs.drop 1)) := by simp [fieldAddrD, fieldOf, tz59, tz3]
theorem fp59_1 : fieldAddrD Zs 59 1 (.ptr r o') = some (.ptr r (o' + 1)) := by simp [fieldAddrD, fieldOf, tz59, tz3]
theorem fl59_1 : fieldD Zs 59 1 (.agg cs) = cs[1]? := by simp [fieldD, fieldOf, tz59, tz3, partD, TInfo.isAgg]
theorem ld62 : loadD Zs g 62 (.at cs) = cs[0]? := by first | (simp only [loadD, tz62, pack, TInfo.isAgg, Bool.false_eq_true, if_false, List.head?_eq_getElem?]; done) | (simp only [loadD, tz62, pack, TInfo.isAgg, Bool.false_eq_true, if_false, List.head?_eq_getElem?]; rfl)
theorem lp62 : loadD Zs g 62 (.ptr r off) = match g r with | some (.cells _ cs) => cs[off]? | _ => none := by first | (simp only [loadD, tz62, pack, TInfo.isAgg, Bool.false_eq_true, if_false, List.head?_drop]; done) | (simp only [loadD, tz62, pack, TInfo.isAgg, Bool.false_eq_true, if_false, List.head?_drop]; rfl)
theorem so62 : storeE Zs g 62 (.ptr r off) y = match y.cells with | some ys => (match g r with | some (.cells e cs) => if ys.length = 1 ∧ off + ys.length ≤ cs.length then some (.put r (.cells e (splice cs off ys))) else none | _ => none) | _ => none := by simp only [storeE, tz62]; cases y.cells <;> rfl
theorem al62 : allocR Zs 62 = some (.new (.cells 62 [.nilfunc])) := by rfl
theorem mi62 : ifaceD Zs 62 x = some (.iface 62 x) := by first | (simp only [ifaceD, tz62]; done) | (simp only [ifaceD, tz62]; rfl)
theorem ld67 : loadD Zs g 67 (.at cs) = cs[0]? := by first | (simp only [loadD, tz67, pack, TInfo.isAgg, Bool.false_eq_true, if_false, List.head?_eq_getElem?]; done) | (simp only [loadD, tz67, pack, TInfo.isAgg, Bool.false_eq_true, if_false, List.head?_eq_getElem?]; rfl)
theorem lp67 : loadD Zs g 67 (.ptr r off) = match g r with | some (.cells _ cs) => cs[off]? | _ => none := by first | (simp only [loadD, tz67, pack, TInfo.isAgg, Bool.false_eq_true, if_false, List.head?_drop]; done) | (simp only [loadD, tz67, pack, TInfo.isAgg, Bool.false_eq_true, if_false, List.head?_drop]; rfl)
theorem so67 : storeE Zs g 67 (.ptr r off) y = match y.cells with | some ys => (match g r with | some (.cells e cs) => if ys.length = 1 ∧ off + ys.length ≤ cs.length then some (.put r (.cells e (splice cs off ys))) else none | _ => none) | _ => none := by simp only [storeE, tz67]; cases y.cells <;> rfl
theorem al67 : allocR Zs 67 = some (.new (.cells 67 [.int .u64 0])) := by rfl
theorem mi67 : ifaceD Zs 67 x = some (.iface 67 x) := by first | (simp only [ifaceD, tz67]; done) | (simp only [ifaceD, tz67]; rfl)
theorem ld70 : loadD Zs g 70 (.at cs) = cs[0]? := by first | (simp only [loadD, tz70, pack, TInfo.isAgg, Bool.false_eq_true, if_false, List.head?_eq_getElem?]; done) | (simp only [loadD, tz70, pack, TInfo.isAgg, Bool.false_eq_true, if_false, List.head?_eq_getElem?]; rfl)
theorem lp70 : loadD Zs g 70 (.ptr r off) = match g r with | some (.cells _ cs) => cs[off]? | _ => none := by first | (simp only [loadD, tz70, pack, TInfo.isAgg, Bool.false_eq_true, if_false, List.head?_drop]; done) | (simp only [loadD, tz70, pack, TInfo.isAgg, Bool.false_eq_true, if_false, List.head?_drop]; rfl)
theorem so70 : storeE Zs g 70 (.ptr r off) y = match y.cells with | some ys => (match g r with | some (.cells e cs) => if ys.length = 1 ∧ off + ys.length ≤ cs.length then some (.put r (.cells e (splice cs off ys))) else none | _ => none) | _ => none := by simp only [storeE, tz70]; cases y.cells <;> rfl
theorem al70 : allocR Zs 70 = some (.new (.cells 70 [.nilptr])) := by rfl
theorem mi70 : ifaceD Zs 70 x = some (.iface 70 x) := by first | (simp only [ifaceD, tz70]; done) | (simp only [ifaceD, tz70]; rfl)
theorem peql70 : binD Zs .eql 70 (.ptr r off) .nilptr = some (.bool false) := by simp [binD, isNum, eqT, tz70]
theorem paeql70 : binD Zs .eql 70 (.at cs) .nilptr = some (.bool false) := by simp [binD, isNum, eqT, tz70]
theorem pneql70 : binD Zs .eql 70 .nilptr .nilptr = some (.bool true) := by simp [binD, isNum, eqT, tz70]
theorem pneq70 : binD Zs .neq 70 (.ptr r off) .nilptr = some (.bool true) := by simp [binD, isNum, eqT, tz70]
theorem paneq70 : binD Zs .neq 70 (.at cs) .nilptr = some (.bool true) := by simp [binD, isNum, eqT, tz70]
theorem pnneq70 : binD Zs .neq 70 .nilptr .nilptr = some (.bool false) := by simp [binD, isNum, eqT, tz70]
theorem ld71 : loadD Zs g 71 (.at cs) = cs[0]? := by first | (simp only [loadD, tz71, pack, TInfo.isAgg, Bool.false_eq_true, if_false, List.head?_eq_getElem?]; done) | (simp only [loadD, tz71, pack, TInfo.isAgg, Bool.false_eq_true, if_false, List.head?_eq_getElem?]; rfl)
theorem lp71 : loadD Zs g 71 (.ptr r off) = match g r with | some (.cells _ cs) => cs[off]? | _ => none := by first | (simp only [loadD, tz71, pack, TInfo.isAgg, Bool.false_eq_true, if_false, List.head?_drop]; done) | (simp only [loadD, tz71, pack, TInfo.isAgg, Bool.false_eq_true, if_false, List.head?_drop]; rfl)
theorem so71 : storeE Zs g 71 (.ptr r off) y = match y.cells with | some ys => (match g r with | some (.cells e cs) => if ys.length = 1 ∧ off + ys.length ≤ cs.length then some (.put r (.cells e (splice cs off ys))) else none | _ => none) | _ => none := by simp only [storeE, tz71]; cases y.cells <;> rfl
theorem al71 : allocR Zs 71 = some (.new (.cells 71 [.sl .nil 0 []])) := by rfl
theorem mi71 : ifaceD Zs 71 x = some (.iface 71 x) := by first | (simp only [ifaceD, tz71]; done) | (simp only [ifaceD, tz71]; rfl)
theorem mk71 {k' : IntKind} {m : Int} : makeSliceR Zs 0 71 (.int k i) (.int k' m) nx = if 0 ≤ i ∧ i ≤ m ∧ ((1 : Nat) : Int) * m ≤ 281474976710656 ∧ m ≤ (big : Int) then some (.row nx 0 i.toNat (some m.toNat) 1, .new (.cells 5 (List.replicate m.toNat (.int .u8 0)))) else none := by exact mk_one tz71 tz5 rfl rfl rfl
theorem bs71_1 : buildSliceR Zs 0 71 1 [(0, x)] nx = lit1 x := by exact build1 tz71 tz5 rfl rfl rfl
theorem bs71_2 : buildSliceR Zs 0 71 2 [(0, x), (1, y)] nx = lit2 x y := by exact build2 tz71 tz5 rfl rfl rfl
theorem bs71_3 : buildSliceR Zs 0 71 3 [(0, x), (1, y), (2, x3)] nx = lit3 x y x3 := by exact build3 tz71 tz5 rfl rfl rfl
theorem ln71 : lenD Zs g #[71] (.sl o n cs) = some (.int .i64 n) := by simp [lenD, tz71]
theorem cpn71 : capD Zs #[71] (.sl .nil n cs) = some (.int .i64 0) := by simp [capD, tz71]
theorem cpr71 {kk z0 : Nat} : capD Zs #[71] (.row r off n (some kk) z0) = some (.int .i64 kk) := by simp [capD, tz71]
theorem lr71 {c0 : Option Nat} {z0 : Nat} : lenD Zs g #[71] (.row r off n c0 z0) = some (.int .i64 n) := by simp [lenD, tz71]
theorem ix71 : indexAddrD Zs 71 (.sl o n cs) (.int k i) = if (0 ≤ i ∧ i < n) ∧ 0 < cs.length then some (.at (cs.drop (i.toNat))) else none := by first | (simp only [indexAddrD, tz71, tz5, Nat.mul_one]; done) | (simp only [indexAddrD, tz71, tz5, Nat.mul_one]; rfl)
theorem ir71 {c0 : Option Nat} {z0 : Nat} : indexAddrD Zs 71 (.row r off n c0 z0) (.int k i) = if 0 ≤ i ∧ i < n then some (.ptr r (off + i.toNat)) else none := by first | (simp only [indexAddrD, tz71, tz5, Nat.mul_one]; done) | (simp only [indexAddrD, tz71, tz5, Nat.mul_one]; rfl)
theorem sl71 : sliceD Zs g 71 (.sl o n cs) lo hi none = match bound lo 0, bound hi n with | some l, some h => if 0 ≤ l ∧ l ≤ h ∧ h ≤ n ∧ cs.length = n then some (.sl (cutOwn o) (h.toNat - l.toNat) ((cs.drop (l.toNat)).take ((h.toNat - l.toNat)))) else none | _, _ => none := by simp only [sliceD, tz71, tz5, Nat.mul_one]; cases bound lo 0 <;> cases bound hi n <;> simp only [Nat.mul_one]
theorem en71 : binD Zs .eql 71 (.sl o n cs) (.sl .nil n' cs') = (nilOf o n).map .bool := by simp [binD, isNum, eqT, tz71]
theorem enr71 {c0 : Option Nat} {z0 : Nat} : binD Zs .eql 71 (.row r off n c0 z0) (.sl .nil n' cs') = some (.bool false) := by simp [binD, isNum, eqT, tz71]
theorem nn71 : binD Zs .neq 71 (.sl o n cs) (.sl .nil n' cs') = (nilOf o n).map fun b => .bool (!b) := by simp [binD, isNum, eqT, tz71]
theorem nnr71 {c0 : Option Nat} {z0 : Nat} : binD Zs .neq 71 (.row r off n c0 z0) (.sl .nil n' cs') = some (.bool true) := by simp [binD, isNum, eqT, tz71]
theorem ld72 : loadD Zs g 72 (.at cs) = if 2 ≤ cs.length then some (.agg (cs.take 2)) else none := by first | (simp only [loadD, tz72, pack, TInfo.isAgg, if_true]; done) | (simp only [loadD, tz72, pack, TInfo.isAgg, if_true]; rfl)
theorem lp72 : loadD Zs g 72 (.ptr r off) = match g r with | some (.cells _ cs) => (if 2 ≤ (cs.drop off).length then some (.agg ((cs.drop off).take 2)) else none) | _ => none := by first | (simp only [loadD, tz72, pack, TInfo.isAgg, if_true]; done) | (simp only [loadD, tz72, pack, TInfo.isAgg, if_true]; rfl)
theorem so72 : storeE Zs g 72 (.ptr r off) y = match y.cells with | some ys => (match g r with | some (.cells e cs) => if ys.length = 2 ∧ off + ys.length ≤ cs.length then some (.put r (.cells e (splice cs off ys))) else none | _ => none) | _ => none := by simp only [storeE, tz72]; cases y.cells <;> rfl
theorem al72 : allocR Zs 72 = some (.new (.cells 72 [.nilptr, .sl .nil 0 []])) := by rfl
theorem mi72 : ifaceD Zs 72 x = some (.iface 72 x) := by first | (simp only [ifaceD, tz72]; done) | (simp only [ifaceD, tz72]; rfl)
theorem fa72_0 : fieldAddrD Zs 72 0 (.at cs) = some (.at (cs.drop 0)) := by simp [fieldAddrD, fieldOf, tz72, tz70]
theorem fp72_0 : fieldAddrD Zs 72 0 (.ptr r o') = some (.ptr r (o' + 0)) := by simp [fieldAddrD, fieldOf, tz72, tz70]
theorem fl72_0 : fieldD Zs 72 0 (.agg cs) = cs[0]? := by simp [fieldD, fieldOf, tz72, tz70, partD, TInfo.isAgg]
theorem fa72_1 : fieldAddrD Zs 72 1 (.at cs) = some (.at (cs.drop 1)) := by simp [fieldAddrD, fieldOf, tz72, tz71]
theorem fp72_1 : fieldAddrD Zs 72 1 (.ptr r o') = some (.ptr r (o' + 1)) := by simp [fieldAddrD, fieldOf, tz72, tz71]
theorem fl72_1 : fieldD Zs 72 1 (.agg cs) = cs[1]? := by simp [fieldD, fieldOf, tz72, tz71, partD, TInfo.isAgg]
theorem ld73 : loadD Zs g 73 (.at cs) = if 2 ≤ cs.length then some (.agg (cs.take 2)) else none := by first | (simp only [loadD, tz73, pack, TInfo.isAgg, if_true]; done) | (simp only [loadD, tz73, pack, TInfo.isAgg, if_true]; rfl)
theorem lp73 : loadD Zs g 73 (.ptr r off) = match g r with | some (.cells _ cs) => (if 2 ≤ (cs.drop off).length then some (.agg ((cs.drop off).take 2)) else none) | _ => none := by first | (simp only [loadD, tz73, pack, TInfo.isAgg, if_true]; done) | (simp only [loadD, tz73, pack, TInfo.isAgg, if_true]; rfl)
theorem so73 : storeE Zs g 73 (.ptr r off) y = match y.cells with | some ys => (match g r with | some (.cells e cs) => if ys.length = 2 ∧ off + ys.length ≤ cs.length then some (.put r (.cells e (splice cs off ys))) else none | _ => none) | _ => none := by simp only [storeE, tz73]; cases y.cells <;> rfl
theorem al73 : allocR Zs 73 = some (.new (.cells 73 [.nilptr, .sl .nil 0 []])) := by rfl
theorem mi73 : ifaceD Zs 73 x = some (.iface 73 x) := by first | (simp only [ifaceD, tz73]; done) | (simp only [ifaceD, tz73]; rfl)
theorem fa73_0 : fieldAddrD Zs 73 0 (.at cs) = some (.at (cs.drop 0)) := by simp [fieldAddrD, fieldOf, tz73, tz70]
theorem fp73_0 : fieldAddrD Zs 73 0 (.ptr r o') = some (.ptr r (o' + 0)) := by simp [fieldAddrD, fieldOf, tz73, tz70]
theorem fl73_0 : fieldD Zs 73 0 (.agg cs) = cs[0]? := by simp [fieldD, fieldOf, tz73, tz70, partD, TInfo.isAgg]
theorem fa73_1 : fieldAddrD Zs 73 1 (.at cs) = some (.at (cs.drop 1)) := by simp [fieldAddrD, fieldOf, tz73, tz71]
theorem fp73_1 : fieldAddrD Zs 73 1 (.ptr r o') = some (.ptr r (o' + 1)) := by simp [fieldAddrD, fieldOf, tz73, tz71]
theorem fl73_1 : fieldD Zs 73 1 (.agg cs) = cs[1]? := by simp [fieldD, fieldOf, tz73, tz71, partD, TInfo.isAgg]
theorem ld82 : loadD Zs g 82 (.at cs) = cs[0]? := by first | (simp only [loadD, tz82, pack, TInfo.isAgg, Bool.false_eq_true, if_false, List.head?_eq_getElem?]; done) | (simp only [loadD, tz82, pack, TInfo.isAgg, Bool.false_eq_true, if_false, List.head?_eq_getElem?]; rfl)
theorem lp82 : loadD Zs g 82 (.ptr r off) = match g r with | some (.cells _ cs) => cs[off]? | _ => none := by first | (simp only [loadD, tz82, pack, TInfo.isAgg, Bool.false_eq_true, if_false, List.head?_drop]; done) | (simp only [loadD, tz82, pack, TInfo.isAgg, Bool.false_eq_true, if_false, List.head?_drop]; rfl)
theorem so82 : storeE Zs g 82 (.ptr r off) y = match y.cells with | some ys => (match g r with | some (.cells e cs) => if ys.length = 1 ∧ off + ys.length ≤ cs.length then some (.put r (.cells e (splice cs off ys))) else none | _ => none) | _ => none := by simp only [storeE, tz82]; cases y.cells <;> rfl
theorem al82 : allocR Zs 82 = some (.new (.cells 82 [.int .i64 0])) := by rfl
theorem mi82 : ifaceD Zs 82 x = some (.iface 82 x) := by first | (simp only [ifaceD, tz82]; done) | (simp only [ifaceD, tz82]; rfl)
theorem ld90 : loadD Zs g 90 (.at cs) = cs[0]? := by first | (simp only [loadD, tz90, pack, TInfo.isAgg, Bool.false_eq_true, if_false, List.head?_eq_getElem?]; done) | (simp only [loadD, tz90, pack, TInfo.isAgg, Bool.false_eq_true, if_false, List.head?_eq_getElem?]; rfl)
theorem lp90 : loadD Zs g 90 (.ptr r off) = match g r with | some (.cells _ cs) => cs[off]? | _ => none := by first | (simp only [loadD, tz90, pack, TInfo.isAgg, Bool.false_eq_true, if_false, List.head?_drop]; done) | (simp only [loadD, tz90, pack, TInfo.isAgg, Bool.false_eq_true, if_false, List.head?_drop]; rfl)
theorem so90 : storeE Zs g 90 (.ptr r off) y = match y.cells with | some ys => (match g r with | some (.cells e cs) => if ys.length = 1 ∧ off + ys.length ≤ cs.length then some (.put r (.cells e (splice cs off ys))) else none | _ => none) | _ => none := by simp only [storeE, tz90]; cases y.cells <;> rfl
theorem al90 : allocR Zs 90 = some (.new (.cells 90 [.int .u32 0])) := by rfl
theorem mi90 : ifaceD Zs 90 x = some (.iface 90 x) := by first | (simp only [ifaceD, tz90]; done) | (simp only [ifaceD, tz90]; rfl)
theorem ld92 : loadD Zs g 92 (.at cs) = cs[0]? := by first | (simp only [loadD, tz92, pack, TInfo.isAgg, Bool.false_eq_true, if_false, List.head?_eq_getElem?]; done) | (simp only [loadD, tz92, pack, TInfo.isAgg, Bool.false_eq_true, if_false, List.head?_eq_getElem?]; rfl)
theorem lp92 : loadD Zs g 92 (.ptr r off) = match g r with | some (.cells _ cs) => cs[off]? | _ => none := by first | (simp only [loadD, tz92, pack, TInfo.isAgg, Bool.false_eq_true, if_false, List.head?_drop]; done) | (simp only [loadD, tz92, pack, TInfo.isAgg, Bool.false_eq_true, if_false, List.head?_drop]; rfl)
theorem so92 : storeE Zs g 92 (.ptr r off) y = match y.cells with | some ys => (match g r with | some (.cells e cs) => if ys.length = 1 ∧ off + ys.length ≤ cs.length then some (.put r (.cells e (splice cs off ys))) else none | _ => none) | _ => none := by simp only [storeE, tz92]; cases y.cells <;> rfl
theorem al92 : allocR Zs 92 = some (.new (.cells 92 [.int .u64 0])) := by rfl
theorem mi92 : ifaceD Zs 92 x = some (.iface 92 x) := by first | (simp only [ifaceD, tz92]; done) | (simp only [ifaceD, tz92]; rfl)
theorem ld95 : loadD Zs g 95 (.at cs) = cs[0]? := by first | (simp only [loadD, tz95, pack, TInfo.isAgg, Bool.false_eq_true, if_false, List.head?_eq_getElem?]; done) | (simp only [loadD, tz95, pack, TInfo.isAgg, Bool.false_eq_true, if_false, List.head?_eq_getElem?]; rfl)
theorem lp95 : loadD Zs g 95 (.ptr r off) = match g r with | some (.cells _ cs) => cs[off]? | _ => none := by first | (simp only [loadD, tz95, pack, TInfo.isAgg, Bool.false_eq_true, if_false, List.head?_drop]; done) | (simp only [loadD, tz95, pack, TInfo.isAgg, Bool.false_eq_true, if_false, List.head?_drop]; rfl)
theorem so95 : storeE Zs g 95 (.ptr r off) y = match y.cells with | some ys => (match g r with | some (.cells e cs) => if ys.length = 1 ∧ off + ys.length ≤ cs.length then some (.put r (.cells e (splice cs off ys))) else none | _ => none) | _ => none := by simp only [storeE, tz95]; cases y.cells <;> rfl
theorem al95 : allocR Zs 95 = some (.new (.cells 95 [.nilptr])) := by rfl
theorem mi95 : ifaceD Zs 95 x = some (.iface 95 x) := by first | (simp only [ifaceD, tz95]; done) | (simp only [ifaceD, tz95]; rfl)
theorem peql95 : binD Zs .eql 95 (.ptr r off) .nilptr = some (.bool false) := by simp [binD, isNum, eqT, tz95]
theorem paeql95 : binD Zs .eql 95 (.at cs) .nilptr = some (.bool false) := by simp [binD, isNum, eqT, tz95]
theorem pneql95 : binD Zs .eql 95 .nilptr .nilptr = some (.bool true) := by simp [binD, isNum, eqT, tz95]
theorem pneq95 : binD Zs .neq 95 (.ptr r off) .nilptr = some (.bool true) := by simp [binD, isNum, eqT, tz95]
theorem paneq95 : binD Zs .neq 95 (.at cs) .nilptr = some (.bool true) := by simp [binD, isNum, eqT, tz95]
theorem pnneq95 : binD Zs .neq 95 .nilptr .nilptr = some (.bool false) := by simp [binD, isNum, eqT, tz95]
theorem ld97 : loadD Zs g 97 (.at cs) = cs[0]? := by first | (simp only [loadD, tz97, pack, TInfo.isAgg, Bool.false_eq_true, if_false, List.head?_eq_getElem?]; done) | (simp only [loadD, tz97, pack, TInfo.isAgg, Bool.false_eq_true, if_false, List.head?_eq_getElem?]; rfl)
theorem lp97 : loadD Zs g 97 (.ptr r off) = match g r with | some (.cells _ cs) => cs[off]? | _ => none := by first | (simp only [loadD, tz97, pack, TInfo.isAgg, Bool.false_eq_true, if_false, List.head?_drop]; done) | (simp only [loadD, tz97, pack, TInfo.isAgg, Bool.false_eq_true, if_false, List.head?_drop]; rfl)
theorem so97 : storeE Zs g 97 (.ptr r off) y = match y.cells with | some ys => (match g r with | some (.cells e cs) => if ys.length = 1 ∧ off + ys.length ≤ cs.length then some (.put r (.cells e (splice cs off ys))) else none | _ => none) | _ => none := by simp only [storeE, tz97]; cases y.cells <;> rfl
theorem al97 : allocR Zs 97 = some (.new (.cells 97 [.int .u64 0])) := by rfl
theorem mi97 : ifaceD Zs 97 x = some (.iface 97 x) := by first | (simp only [ifaceD, tz97]; done) | (simp only [ifaceD, tz97]; rfl)
theorem ld101 : loadD Zs g 101 (.at cs) = cs[0]? := by first | (simp only [loadD, tz101, pack, TInfo.isAgg, Bool.false_eq_true, if_false, List.head?_eq_getElem?]; done) | (simp only [loadD, tz101, pack, TInfo.isAgg, Bool.false_eq_true, if_false, List.head?_eq_getElem?]; rfl)
theorem lp101 : loadD Zs g 101 (.ptr r off) = match g r with | some (.cells _ cs) => cs[off]? | _ => none := by first | (simp only [loadD, tz101, pack, TInfo.isAgg, Bool.false_eq_true, if_false, List.head?_drop]; done) | (simp only [loadD, tz101, pack, TInfo.isAgg, Bool.false_eq_true, if_false, List.head?_drop]; rfl)
theorem so101 : storeE Zs g 101 (.ptr r off) y = match y.cells with | some ys => (match g r with | some (.cells e cs) => if ys.length = 1 ∧ off + ys.length ≤ cs.length then some (.put r (.cells e (splice cs off ys))) else none | _ => none) | _ => none := by simp only [storeE, tz101]; cases y.cells <;> rfl
theorem al101 : allocR Zs 101 = some (.new (.cells 101 [.nilptr])) := by rfl
theorem mi101 : ifaceD Zs 101 x = some (.iface 101 x) := by first | (simp only [ifaceD, tz101]; done) | (simp only [ifaceD, tz101]; rfl)
theorem peql101 : binD Zs .eql 101 (.ptr r off) .nilptr = some (.bool false) := by simp [binD, isNum, eqT, tz101]
theorem paeql101 : binD Zs .eql 101 (.at cs) .nilptr = some (.bool false) := by simp [binD, isNum, eqT, tz101]
theorem pneql101 : binD Zs .eql 101 .nilptr .nilptr = some (.bool true) := by simp [binD, isNum, eqT, tz101]
theorem pneq101 : binD Zs .neq 101 (.ptr r off) .nilptr = some (.bool true) := by simp [binD, isNum, eqT, tz101]
theorem paneq101 : binD Zs .neq 101 (.at cs) .nilptr = some (.bool true) := by simp [binD, isNum, eqT, tz101]
theorem pnneq101 : binD Zs .neq 101 .nilptr .nilptr = some (.bool false) := by simp [binD, isNum, eqT, tz101]
theorem ld103 : loadD Zs g 103 (.at cs) = cs[0]? := by first | (simp only [loadD, tz103, pack, TInfo.isAgg, Bool.false_eq_true, if_false, List.head?_eq_getElem?]; done) | (simp only [loadD, tz103, pack, TInfo.isAgg, Bool.false_eq_true, if_false, List.head?_eq_getElem?]; rfl)
theorem lp103 : loadD Zs g 103 (.ptr r off) = match g r with | some (.cells _ cs) => cs[off]? | _ => none := by first | (simp only [loadD, tz103, pack, TInfo.isAgg, Bool.false_eq_true, if_false, List.head?_drop]; done) | (simp only [loadD, tz103, pack, TInfo.isAgg, Bool.false_eq_true, if_false, List.head?_drop]; rfl)
theorem so103 : storeE Zs g 103 (.ptr r off) y = match y.cells with | some ys => (match g r with | some (.cells e cs) => if ys.length = 1 ∧ off + ys.length ≤ cs.length then some (.put r (.cells e (splice cs off ys))) else none | _ => none) | _ => none := by simp only [storeE, tz103]; cases y.cells <;> rfl
theorem al103 : allocR Zs 103 = some (.new (.cells 103 [.nilptr])) := by rfl
theorem mi103 : ifaceD Zs 103 x = some (.iface 103 x) := by first | (simp only [ifaceD, tz103]; done) | (simp only [ifaceD, tz103]; rfl)
theorem ld115 : loadD Zs g 115 (.at cs) = if 2 ≤ cs.length then some (.agg (cs.take 2)) else none := by first | (simp only [loadD, tz115, pack, TInfo.isAgg, if_true]; done) | (simp only [loadD, tz115, pack, TInfo.isAgg, if_true]; rfl)
theorem lp115 : loadD Zs g 115 (.ptr r off) = match g r with | some (.cells _ cs) => (if 2 ≤ (cs.drop off).length then some (.agg ((cs.drop off).take 2)) else none) | _ => none := by first | (simp only [loadD, tz115, pack, TInfo.isAgg, if_true]; done) | (simp only [loadD, tz115, pack, TInfo.isAgg, if_true]; rfl)
theorem so115 : storeE Zs g 115 (.ptr r off) y = match y.cells with | some ys => (match g r with | some (.cells e cs) => if ys.length = 2 ∧ off + ys.length ≤ cs.length then some (.put r (.cells e (splice cs off ys))) else none | _ => none) | _ => none := by simp only [storeE, tz115]; cases y.cells <;> rfl
theorem al115 : allocR Zs 115 = some (.new (.cells 115 [.int .u8 0, .int .u8 0])) := by rfl
theorem mi115 : ifaceD Zs 115 x = some (.iface 115 x) := by first | (simp only [ifaceD, tz115]; done) | (simp only [ifaceD, tz115]; rfl)
theorem fa115_0 : fieldAddrD Zs 115 0 (.at cs) = some (.at (cs.drop 0)) := by simp [fieldAddrD, fieldOf, tz115, tz5]
theorem fp115_0 : fieldAddrD Zs 115 0 (.ptr r o') = some (.ptr r (o' + 0)) := by simp [fieldAddrD, fieldOf, tz115, tz5]
theorem fl115_0 : fieldD Zs 115 0 (.agg cs) = cs[0]? := by simp [fieldD, fieldOf, tz115, tz5, partD, TInfo.isAgg]
theorem fa115_1 : fieldAddrD Zs 115 1 (.at cs) = some (.at (cs.drop 1)) := by simp [fieldAddrD, fieldOf, tz115, tz5]
theorem fp115_1 : fieldAddrD Zs 115 1 (.ptr r o') = some (.ptr r (o' + 1)) := by simp [fieldAddrD, fieldOf, tz115, tz5]
theorem fl115_1 : fieldD Zs 115 1 (.agg cs) = cs[1]? := by simp [fieldD, fieldOf, tz115, tz5, partD, TInfo.isAgg]
theorem ld116 : loadD Zs g 116 (.at cs) = if 2 ≤ cs.length then some (.agg (cs.take 2)) else none := by first | (simp only [loadD, tz116, pack, TInfo.isAgg, if_true]; done) | (simp only [loadD, tz116, pack, TInfo.isAgg, if_true]; rfl)
theorem lp116 : loadD Zs g 116 (.ptr r off) = match g r with | some (.cells _ cs) => (if 2 ≤ (cs.drop off).length then some (.agg ((cs.drop off).take 2)) else none) | _ => none := by first | (simp only [loadD, tz116, pack, TInfo.isAgg, if_true]; done) | (simp only [loadD, tz116, pack, TInfo.isAgg, if_true]; rfl)
theorem so116 : storeE Zs g 116 (.ptr r off) y = match y.cells with | some ys => (match g r with | some (.cells e cs) => if ys.length = 2 ∧ off + ys.length ≤ cs.length then some (.put r (.cells e (splice cs off ys))) else none | _ => none) | _ => none := by simp only [storeE, tz116]; cases y.cells <;> rfl
theorem al116 : allocR Zs 116 = some (.new (.cells 116 [.int .u8 0, .int .u8 0])) := by rfl
theorem mi116 : ifaceD Zs 116 x = some (.iface 116 x) := by first | (simp only [ifaceD, tz116]; done) | (simp only [ifaceD, tz116]; rfl)
theorem fa116_0 : fieldAddrD Zs 116 0 (.at cs) = some (.at (cs.drop 0)) := by simp [fieldAddrD, fieldOf, tz116, tz5]
theorem fp116_0 : fieldAddrD Zs 116 0 (.ptr r o') = some (.ptr r (o' + 0)) := by simp [fieldAddrD, fieldOf, tz116, tz5]
theorem fl116_0 : fieldD Zs 116 0 (.agg cs) = cs[0]? := by simp [fieldD, fieldOf, tz116, tz5, partD, TInfo.isAgg]
theorem fa116_1 : fieldAddrD Zs 116 1 (.at cs) = some (.at (cs.drop 1)) := by simp [fieldAddrD, fieldOf, tz116, tz5]
theorem fp116_1 : fieldAddrD Zs 116 1 (.ptr r o') = some (.ptr r (o' + 1)) := by simp [fieldAddrD, fieldOf, tz116, tz5]
theorem fl116_1 : fieldD Zs 116 1 (.agg cs) = cs[1]? := by simp [fieldD, fieldOf, tz116, tz5, partD, TInfo.isAgg]
theorem ld117 : loadD Zs g 117 (.at cs) = if 32 ≤ cs.length then some (.agg (cs.take 32)) else none := by first | (simp only [loadD, tz117, pack, TInfo.isAgg, if_true]; done) | (simp only [loadD, tz117, pack, TInfo.isAgg, if_true]; rfl)
theorem lp117 : loadD Zs g 117 (.ptr r off) = match g r with | some (.cells _ cs) => (if 32 ≤ (cs.drop off).length then some (.agg ((cs.drop off).take 32)) else none) | _ => none := by first | (simp only [loadD, tz117, pack, TInfo.isAgg, if_true]; done) | (simp only [loadD, tz117, pack, TInfo.isAgg, if_true]; rfl)
theorem so117 : storeE Zs g 117 (.ptr r off) y = match y.cells with | some ys => (match g r with | some (.cells e cs) => if ys.length = 32 ∧ off + ys.length ≤ cs.length then some (.put r (.cells e (splice cs off ys))) else none | _ => none) | _ => none := by simp only [storeE, tz117]; cases y.cells <;> rfl
theorem al117 : allocR Zs 117 = some (.new (.cells 117 [.int .u8 0, .int .u8 0, .int .u8 0, .int .u8 0, .int .u8 0, .int .u8 0, .int .u8 0, .int .u8 0, .int .u8 0, .int .u8 0, .int .u8 0, .int .u8 0, .int .u8 0, .int .u8 0, .int .u8 0, .int .u8 0, .int .u8 0, .int .u8 0, .int .u8 0, .int .u8 0, .int .u8 0, .int .u8 0, .int .u8 0, .int .u8 0, .int .u8 0, .int .u8 0, .int .u8 0, .int .u8 0, .int .u8 0, .int .u8 0, .int .u8 0, .int .u8 0])) := by rfl
theorem mi117 : ifaceD Zs 117 x = some (.iface 117 x) := by first | (simp only [ifaceD, tz117]; done) | (simp only [ifaceD, tz117]; rfl)
theorem ln117 : lenD Zs g #[117] x = some (.int .i64 16) := by cases x <;> simp [lenD, tz117]
theorem ix117 : indexAddrD Zs 117 (.at cs) (.int k i) = if 0 ≤ i ∧ i < (16 : Nat) then some (.at (cs.drop (i.toNat * 2))) else none := by first | (simp only [indexAddrD, tz117, tz116, Nat.mul_one]; done) | (simp only [indexAddrD, tz117, tz116, Nat.mul_one]; rfl)
theorem ir117 : indexAddrD Zs 117 (.ptr r off) (.int k i) = if 0 ≤ i ∧ i < (16 : Nat) then some (.ptr r (off + i.toNat * 2)) else none := by first | (simp only [indexAddrD, tz117, tz116, Nat.mul_one]; done) | (simp only [indexAddrD, tz117, tz116, Nat.mul_one]; rfl)
theorem cv3_67 : convD Zs 3 67 (.int k i) = some (.int .u64 (IntKind.wrap .u64 i)) := by first | (simp only [convD, tz3, tz67]; done) | (simp only [convD, tz3, tz67]; rfl)
theorem cv3_97 : convD Zs 3 97 (.int k i) = some (.int .u64 (IntKind.wrap .u64 i)) := by first | (simp only [convD, tz3, tz97]; done) | (simp only [convD, tz3, tz97]; rfl)
theorem cv5_3 : convD Zs 5 3 (.int k i) = some (.int .i64 (IntKind.wrap .i64 i)) := by first | (simp only [convD, tz5, tz3]; done) | (simp only [convD, tz5, tz3]; rfl)
theorem cv5_21 : convD Zs 5 21 (.int k i) = some (.int .i32 (IntKind.wrap .i32 i)) := by first | (simp only [convD, tz5, tz21]; done) | (simp only [convD, tz5, tz21]; rfl)
theorem cv5_90 : convD Zs 5 90 (.int k i) = some (.int .u32 (IntKind.wrap .u32 i)) := by first | (simp only [convD, tz5, tz90]; done) | (simp only [convD, tz5, tz90]; rfl)
theorem cv67_3 : convD Zs 67 3 (.int k i) = some (.int .i64 (IntKind.wrap .i64 i)) := by first | (simp only [convD, tz67, tz3]; done) | (simp only [convD, tz67, tz3]; rfl)
theorem cv67_90 : convD Zs 67 90 (.int k i) = some (.int .u32 (IntKind.wrap .u32 i)) := by first | (simp only [convD, tz67, tz90]; done) | (simp only [convD, tz67, tz90]; rfl)
theorem cv90_5 : convD Zs 90 5 (.int k i) = some (.int .u8 (IntKind.wrap .u8 i)) := by first | (simp only [convD, tz90, tz5]; done) | (simp only [convD, tz90, tz5]; rfl)
theorem cv92_5 : convD Zs 92 5 (.int k i) = some (.int .u8 (IntKind.wrap .u8 i)) := by first | (simp only [convD, tz92, tz5]; done) | (simp only [convD, tz92, tz5]; rfl)
theorem co0 : ofV (.string ⟨#[115, 116, 114, 105, 110, 103, 115, 46, 66, 117, 105, 108, 100, 101, 114, 46, 71, 114, 111, 119, 58, 32, 110, 101, 103, 97, 116, 105, 118, 101, 32, 99, 111, 117, 110, 116]⟩) = .str ⟨#[115, 116, 114, 105, 110, 103, 115, 46, 66, 117, 105, 108, 100, 101, 114, 46, 71, 114, 111, 119, 58, 32, 110, 101, 103, 97, 116, 105, 118, 101, 32, 99, 111, 117, 110, 116]⟩ := (rfl)
theorem co1 : ofV (.string ⟨#[115, 116, 114, 105, 110, 103, 115, 58, 32, 74, 111, 105, 110, 32, 111, 117, 116, 112, 117, 116, 32, 108, 101, 110, 103, 116, 104, 32, 111, 118, 101, 114, 102, 108, 111, 119]⟩) = .str ⟨#[115, 116, 114, 105, 110, 103, 115, 58, 32, 74, 111, 105, 110, 32, 111, 117, 116, 112, 117, 116, 32, 108, 101, 110, 103, 116, 104, 32, 111, 118, 101, 114, 102, 108, 111, 119]⟩ := (rfl)
theorem co2 : ofV (.string ⟨#[32]⟩) = .str ⟨#[32]⟩ := (rfl)
theorem co3 : ofV (.string ⟨#[78]⟩) = .str ⟨#[78]⟩ := (rfl)
theorem co4 : ofV (.string ⟨#[86]⟩) = .str ⟨#[86]⟩ := (rfl)
theorem co5 : ofV (.string ⟨#[97]⟩) = .str ⟨#[97]⟩ := (rfl)
theorem co6 : ofV (.string ⟨#[98]⟩) = .str ⟨#[98]⟩ := (rfl)
theorem co7 : ofV (.string ⟨#[]⟩) = .str ⟨#[]⟩ := (rfl)
end
end Go.Proofs.YthchlpikcpidaaaDoor.Vs
