/- Operations at the seat's types, written by dgen.py. -/
import Derived.Test.YtldlcejlfaogbaaDmTy
import Derived.Test.YtldlcejlfaogbaaDmLib
namespace Go.Proofs.Ytldlcejlfaogbaa.Vs
set_option linter.unusedVariables false
set_option linter.unusedSimpArgs false
section
variable {g : Nat → Option AO} {cs cs' : List D} {x y x3 : D} {o : Own} {n n' nx : Nat} {r off o' : Nat} {i : Int} {k : IntKind} {s : ByteArray} {lo hi : Option D}
theorem ld3 : loadD Zs g 3 (.at cs) = cs[0]? := by first | (simp only [loadD, tz3, pack, TInfo.isAgg, Bool.false_eq_true, if_false, List.head?_eq_getElem?]; done) | (simp only [loadD, tz3, pack, TInfo.isAgg, Bool.false_eq_true, if_false, List.head?_eq_getElem?]; rfl)
theorem lp3 : loadD Zs g 3 (.ptr r off) = match g r with | some (.cells _ cs) => cs[off]? | _ => none := by first | (simp only [loadD, tz3, pack, TInfo.isAgg, Bool.false_eq_true, if_false, List.head?_drop]; done) | (simp only [loadD, tz3, pack, TInfo.isAgg, Bool.false_eq_true, if_false, List.head?_drop]; rfl)
theorem so3 : storeE Zs g 3 (.ptr r off) y = match y.cells with | some ys => (match g r with | some (.cells e cs) => if ys.length = 1 ∧ off + ys.length ≤ cs.length then some (.put r (.cells e (splice cs off ys))) else none | _ => none) | _ => none := by simp only [storeE, tz3]; cases y.cells <;> rfl
theorem al3 : allocR Zs 3 = some (.new (.cells 3 [.int .i64 0])) := by rfl
theorem mi3 : ifaceD Zs 3 x = some (.iface 3 x) := by first | (simp only [ifaceD, tz3]; done) | (simp only [ifaceD, tz3]; rfl)
theorem ld4 : loadD Zs g 4 (.at cs) = cs[0]? := by first | (simp only [loadD, tz4, pack, TInfo.isAgg, Bool.false_eq_true, if_false, List.head?_eq_getElem?]; done) | (simp only [loadD, tz4, pack, TInfo.isAgg, Bool.false_eq_true, if_false, List.head?_eq_getElem?]; rfl)
theorem lp4 : loadD Zs g 4 (.ptr r off) = match g r with | some (.cells _ cs) => cs[off]? | _ => none := by first | (simp only [loadD, tz4, pack, TInfo.isAgg, Bool.false_eq_true, if_false, List.head?_drop]; done) | (simp only [loadD, tz4, pack, TInfo.isAgg, Bool.false_eq_true, if_false, List.head?_drop]; rfl)
theorem so4 : storeE Zs g 4 (.ptr r off) y = match y.cells with | some ys => (match g r with | some (.cells e cs) => if ys.length = 1 ∧ off + ys.length ≤ cs.length then some (.put r (.cells e (splice cs off ys))) else none | _ => none) | _ => none := by simp only [storeE, tz4]; cases y.cells <;> rfl
theorem al4 : allocR Zs 4 = some (.new (.cells 4 [.bool false])) := by rfl
theorem mi4 : ifaceD Zs 4 x = some (.iface 4 x) := by first | (simp only [ifaceD, tz4]; done) | (simp only [ifaceD, tz4]; rfl)
theorem bq4 {a b : Bool} : binD Zs .eql 4 (.bool a) (.bool b) = some (.bool (a == b)) := by simp [binD, isNum, eqT, tz4, eqS]
theorem bn4 {a b : Bool} : binD Zs .neq 4 (.bool a) (.bool b) = some (.bool (!(a == b))) := by simp [binD, isNum, eqT, tz4, eqS]
theorem ld5 : loadD Zs g 5 (.at cs) = cs[0]? := by first | (simp only [loadD, tz5, pack, TInfo.isAgg, Bool.false_eq_true, if_false, List.head?_eq_getElem?]; done) | (simp only [loadD, tz5, pack, TInfo.isAgg, Bool.false_eq_true, if_false, List.head?_eq_getElem?]; rfl)
theorem lp5 : loadD Zs g 5 (.ptr r off) = match g r with | some (.cells _ cs) => cs[off]? | _ => none := by first | (simp only [loadD, tz5, pack, TInfo.isAgg, Bool.false_eq_true, if_false, List.head?_drop]; done) | (simp only [loadD, tz5, pack, TInfo.isAgg, Bool.false_eq_true, if_false, List.head?_drop]; rfl)
theorem so5 : storeE Zs g 5 (.ptr r off) y = match y.cells with | some ys => (match g r with | some (.cells e cs) => if ys.length = 1 ∧ off + ys.length ≤ cs.length then some (.put r (.cells e (splice cs off ys))) else none | _ => none) | _ => none := by simp only [storeE, tz5]; cases y.cells <;> rfl
theorem al5 : allocR Zs 5 = some (.new (.cells 5 [.int .u8 0])) := by rfl
theorem mi5 : ifaceD Zs 5 x = some (.iface 5 x) := by first | (simp only [ifaceD, tz5]; done) | (simp only [ifaceD, tz5]; rfl)
theorem ld9 : loadD Zs g 9 (.at cs) = cs[0]? := by first | (simp only [loadD, tz9, pack, TInfo.isAgg, Bool.false_eq_true, if_false, List.head?_eq_getElem?]; done) | (simp only [loadD, tz9, pack, TInfo.isAgg, Bool.false_eq_true, if_false, List.head?_eq_getElem?]; rfl)
theorem lp9 : loadD Zs g 9 (.ptr r off) = match g r with | some (.cells _ cs) => cs[off]? | _ => none := by first | (simp only [loadD, tz9, pack, TInfo.isAgg, Bool.false_eq_true, if_false, List.head?_drop]; done) | (simp only [loadD, tz9, pack, TInfo.isAgg, Bool.false_eq_true, if_false, List.head?_drop]; rfl)
theorem so9 : storeE Zs g 9 (.ptr r off) y = match y.cells with | some ys => (match g r with | some (.cells e cs) => if ys.length = 1 ∧ off + ys.length ≤ cs.length then some (.put r (.cells e (splice cs off ys))) else none | _ => none) | _ => none := by simp only [storeE, tz9]; cases y.cells <;> rfl
theorem al9 : allocR Zs 9 = some (.new (.cells 9 [.str ⟨#[]⟩])) := by rfl
theorem mi9 : ifaceD Zs 9 x = some (.iface 9 x) := by first | (simp only [ifaceD, tz9]; done) | (simp only [ifaceD, tz9]; rfl)
theorem ln9 : lenD Zs g #[9] (.str s) = some (.int .i64 s.size) := by simp [lenD, tz9]
theorem ie9 : indexD Zs 9 (.str s) (.int k i) = if 0 ≤ i ∧ i < s.size then some (.int .u8 (byteAt s i.toNat)) else none := by first | (simp only [indexD, tz9]; done) | (simp only [indexD, tz9]; rfl)
theorem sl9 : sliceD Zs g 9 (.str s) lo hi none = match bound lo 0, bound hi s.size with | some l, some h => if 0 ≤ l ∧ l ≤ h ∧ h ≤ s.size then some (.str (s.extract l.toNat h.toNat)) else none | _, _ => none := by first | (simp only [sliceD, tz9]; done) | (simp only [sliceD, tz9]; rfl)
theorem ld22 : loadD Zs g 22 (.at cs) = cs[0]? := by first | (simp only [loadD, tz22, pack, TInfo.isAgg, Bool.false_eq_true, if_false, List.head?_eq_getElem?]; done) | (simp only [loadD, tz22, pack, TInfo.isAgg, Bool.false_eq_true, if_false, List.head?_eq_getElem?]; rfl)
theorem lp22 : loadD Zs g 22 (.ptr r off) = match g r with | some (.cells _ cs) => cs[off]? | _ => none := by first | (simp only [loadD, tz22, pack, TInfo.isAgg, Bool.false_eq_true, if_false, List.head?_drop]; done) | (simp only [loadD, tz22, pack, TInfo.isAgg, Bool.false_eq_true, if_false, List.head?_drop]; rfl)
theorem so22 : storeE Zs g 22 (.ptr r off) y = match y.cells with | some ys => (match g r with | some (.cells e cs) => if ys.length = 1 ∧ off + ys.length ≤ cs.length then some (.put r (.cells e (splice cs off ys))) else none | _ => none) | _ => none := by simp only [storeE, tz22]; cases y.cells <;> rfl
theorem al22 : allocR Zs 22 = some (.new (.cells 22 [.sl .nil 0 []])) := by rfl
theorem mi22 : ifaceD Zs 22 x = some (.iface 22 x) := by first | (simp only [ifaceD, tz22]; done) | (simp only [ifaceD, tz22]; rfl)
theorem ln22 : lenD Zs g #[22] (.sl o n cs) = some (.int .i64 n) := by simp [lenD, tz22]
theorem lr22 {c0 : Option Nat} {z0 : Nat} : lenD Zs g #[22] (.row r off n c0 z0) = some (.int .i64 n) := by simp [lenD, tz22]
theorem ix22 : indexAddrD Zs 22 (.sl o n cs) (.int k i) = if (0 ≤ i ∧ i < n) ∧ 0 < cs.length then some (.at (cs.drop (i.toNat * 2))) else none := by first | (simp only [indexAddrD, tz22, tz50, Nat.mul_one]; done) | (simp only [indexAddrD, tz22, tz50, Nat.mul_one]; rfl)
theorem ir22 {c0 : Option Nat} {z0 : Nat} : indexAddrD Zs 22 (.row r off n c0 z0) (.int k i) = if 0 ≤ i ∧ i < n then some (.ptr r (off + i.toNat * 2)) else none := by first | (simp only [indexAddrD, tz22, tz50, Nat.mul_one]; done) | (simp only [indexAddrD, tz22, tz50, Nat.mul_one]; rfl)
theorem sl22 : sliceD Zs g 22 (.sl o n cs) lo hi none = match bound lo 0, bound hi n with | some l, some h => if 0 ≤ l ∧ l ≤ h ∧ h ≤ n ∧ cs.length = n * 2 then some (.sl .no (h.toNat - l.toNat) ((cs.drop (l.toNat * 2)).take ((h.toNat - l.toNat) * 2))) else none | _, _ => none := by simp only [sliceD, tz22, tz50, Nat.mul_one]; cases bound lo 0 <;> cases bound hi n <;> simp only [Nat.mul_one]
theorem en22 : binD Zs .eql 22 (.sl o n cs) (.sl .nil n' cs') = (nilOf o n).map .bool := by simp [binD, isNum, eqT, tz22]
theorem enr22 {c0 : Option Nat} {z0 : Nat} : binD Zs .eql 22 (.row r off n c0 z0) (.sl .nil n' cs') = some (.bool false) := by simp [binD, isNum, eqT, tz22]
theorem nn22 : binD Zs .neq 22 (.sl o n cs) (.sl .nil n' cs') = (nilOf o n).map fun b => .bool (!b) := by simp [binD, isNum, eqT, tz22]
theorem nnr22 {c0 : Option Nat} {z0 : Nat} : binD Zs .neq 22 (.row r off n c0 z0) (.sl .nil n' cs') = some (.bool true) := by simp [binD, isNum, eqT, tz22]
theorem ld23 : loadD Zs g 23 (.at cs) = cs[0]? := by first | (simp only [loadD, tz23, pack, TInfo.isAgg, Bool.false_eq_true, if_false, List.head?_eq_getElem?]; done) | (simp only [loadD, tz23, pack, TInfo.isAgg, Bool.false_eq_true, if_false, List.head?_eq_getElem?]; rfl)
theorem lp23 : loadD Zs g 23 (.ptr r off) = match g r with | some (.cells _ cs) => cs[off]? | _ => none := by first | (simp only [loadD, tz23, pack, TInfo.isAgg, Bool.false_eq_true, if_false, List.head?_drop]; done) | (simp only [loadD, tz23, pack, TInfo.isAgg, Bool.false_eq_true, if_false, List.head?_drop]; rfl)
theorem so23 : storeE Zs g 23 (.ptr r off) y = match y.cells with | some ys => (match g r with | some (.cells e cs) => if ys.length = 1 ∧ off + ys.length ≤ cs.length then some (.put r (.cells e (splice cs off ys))) else none | _ => none) | _ => none := by simp only [storeE, tz23]; cases y.cells <;> rfl
theorem al23 : allocR Zs 23 = some (.new (.cells 23 [.sl .nil 0 []])) := by rfl
theorem mi23 : ifaceD Zs 23 x = some (.iface 23 x) := by first | (simp only [ifaceD, tz23]; done) | (simp only [ifaceD, tz23]; rfl)
theorem mk23 {k' : IntKind} {m : Int} : makeSliceR Zs 0 23 (.int k i) (.int k' m) nx = if 0 ≤ i ∧ i ≤ m ∧ ((16 : Nat) : Int) * m ≤ 281474976710656 ∧ m ≤ (big : Int) then some (.row nx 0 i.toNat (some m.toNat) 1, .new (.cells 9 (List.replicate m.toNat (.str ⟨#[]⟩)))) else none := by exact mk_one tz23 tz9 rfl rfl rfl
theorem bs23_1 : buildSliceR Zs 0 23 1 [(0, x)] nx = lit1 x := by exact build1 tz23 tz9 rfl rfl rfl
theorem bs23_2 : buildSliceR Zs 0 23 2 [(0, x), (1, y)] nx = lit2 x y := by exact build2 tz23 tz9 rfl rfl rfl
theorem bs23_3 : buildSliceR Zs 0 23 3 [(0, x), (1, y), (2, x3)] nx = lit3 x y x3 := by exact build3 tz23 tz9 rfl rfl rfl
theorem ln23 : lenD Zs g #[23] (.sl o n cs) = some (.int .i64 n) := by simp [lenD, tz23]
theorem lr23 {c0 : Option Nat} {z0 : Nat} : lenD Zs g #[23] (.row r off n c0 z0) = some (.int .i64 n) := by simp [lenD, tz23]
theorem ix23 : indexAddrD Zs 23 (.sl o n cs) (.int k i) = if (0 ≤ i ∧ i < n) ∧ 0 < cs.length then some (.at (cs.drop (i.toNat))) else none := by first | (simp only [indexAddrD, tz23, tz9, Nat.mul_one]; done) | (simp only [indexAddrD, tz23, tz9, Nat.mul_one]; rfl)
theorem ir23 {c0 : Option Nat} {z0 : Nat} : indexAddrD Zs 23 (.row r off n c0 z0) (.int k i) = if 0 ≤ i ∧ i < n then some (.ptr r (off + i.toNat)) else none := by first | (simp only [indexAddrD, tz23, tz9, Nat.mul_one]; done) | (simp only [indexAddrD, tz23, tz9, Nat.mul_one]; rfl)
theorem sl23 : sliceD Zs g 23 (.sl o n cs) lo hi none = match bound lo 0, bound hi n with | some l, some h => if 0 ≤ l ∧ l ≤ h ∧ h ≤ n ∧ cs.length = n then some (.sl .no (h.toNat - l.toNat) ((cs.drop (l.toNat)).take ((h.toNat - l.toNat)))) else none | _, _ => none := by simp only [sliceD, tz23, tz9, Nat.mul_one]; cases bound lo 0 <;> cases bound hi n <;> simp only [Nat.mul_one]
theorem en23 : binD Zs .eql 23 (.sl o n cs) (.sl .nil n' cs') = (nilOf o n).map .bool := by simp [binD, isNum, eqT, tz23]
theorem enr23 {c0 : Option Nat} {z0 : Nat} : binD Zs .eql 23 (.row r off n c0 z0) (.sl .nil n' cs') = some (.bool false) := by simp [binD, isNum, eqT, tz23]
theorem nn23 : binD Zs .neq 23 (.sl o n cs) (.sl .nil n' cs') = (nilOf o n).map fun b => .bool (!b) := by simp [binD, isNum, eqT, tz23]
theorem nnr23 {c0 : Option Nat} {z0 : Nat} : binD Zs .neq 23 (.row r off n c0 z0) (.sl .nil n' cs') = some (.bool true) := by simp [binD, isNum, eqT, tz23]
theorem ld27 : loadD Zs g 27 (.at cs) = cs[0]? := by first | (simp only [loadD, tz27, pack, TInfo.isAgg, Bool.false_eq_true, if_false, List.head?_eq_getElem?]; done) | (simp only [loadD, tz27, pack, TInfo.isAgg, Bool.false_eq_true, if_false, List.head?_eq_getElem?]; rfl)
theorem lp27 : loadD Zs g 27 (.ptr r off) = match g r with | some (.cells _ cs) => cs[off]? | _ => none := by first | (simp only [loadD, tz27, pack, TInfo.isAgg, Bool.false_eq_true, if_false, List.head?_drop]; done) | (simp only [loadD, tz27, pack, TInfo.isAgg, Bool.false_eq_true, if_false, List.head?_drop]; rfl)
theorem so27 : storeE Zs g 27 (.ptr r off) y = match y.cells with | some ys => (match g r with | some (.cells e cs) => if ys.length = 1 ∧ off + ys.length ≤ cs.length then some (.put r (.cells e (splice cs off ys))) else none | _ => none) | _ => none := by simp only [storeE, tz27]; cases y.cells <;> rfl
theorem al27 : allocR Zs 27 = some (.new (.cells 27 [.int .i64 0])) := by rfl
theorem mi27 : ifaceD Zs 27 x = some (.iface 27 x) := by first | (simp only [ifaceD, tz27]; done) | (simp only [ifaceD, tz27]; rfl)
theorem ld35 : loadD Zs g 35 (.at cs) = cs[0]? := by first | (simp only [loadD, tz35, pack, TInfo.isAgg, Bool.false_eq_true, if_false, List.head?_eq_getElem?]; done) | (simp only [loadD, tz35, pack, TInfo.isAgg, Bool.false_eq_true, if_false, List.head?_eq_getElem?]; rfl)
theorem lp35 : loadD Zs g 35 (.ptr r off) = match g r with | some (.cells _ cs) => cs[off]? | _ => none := by first | (simp only [loadD, tz35, pack, TInfo.isAgg, Bool.false_eq_true, if_false, List.head?_drop]; done) | (simp only [loadD, tz35, pack, TInfo.isAgg, Bool.false_eq_true, if_false, List.head?_drop]; rfl)
theorem so35 : storeE Zs g 35 (.ptr r off) y = match y.cells with | some ys => (match g r with | some (.cells e cs) => if ys.length = 1 ∧ off + ys.length ≤ cs.length then some (.put r (.cells e (splice cs off ys))) else none | _ => none) | _ => none := by simp only [storeE, tz35]; cases y.cells <;> rfl
theorem al35 : allocR Zs 35 = some (.new (.cells 35 [.sl .nil 0 []])) := by rfl
theorem mi35 : ifaceD Zs 35 x = some (.iface 35 x) := by first | (simp only [ifaceD, tz35]; done) | (simp only [ifaceD, tz35]; rfl)
theorem mk35 {k' : IntKind} {m : Int} : makeSliceR Zs 0 35 (.int k i) (.int k' m) nx = if 0 ≤ i ∧ i ≤ m ∧ ((24 : Nat) : Int) * m ≤ 281474976710656 ∧ m ≤ (big : Int) then some (.row nx 0 i.toNat (some m.toNat) 1, .new (.cells 23 (List.replicate m.toNat (.sl .nil 0 [])))) else none := by exact mk_one tz35 tz23 rfl rfl rfl
theorem bs35_1 : buildSliceR Zs 0 35 1 [(0, x)] nx = lit1 x := by exact build1 tz35 tz23 rfl rfl rfl
theorem bs35_2 : buildSliceR Zs 0 35 2 [(0, x), (1, y)] nx = lit2 x y := by exact build2 tz35 tz23 rfl rfl rfl
theorem bs35_3 : buildSliceR Zs 0 35 3 [(0, x), (1, y), (2, x3)] nx = lit3 x y x3 := by exact build3 tz35 tz23 rfl rfl rfl
theorem ln35 : lenD Zs g #[35] (.sl o n cs) = some (.int .i64 n) := by simp [lenD, tz35]
theorem lr35 {c0 : Option Nat} {z0 : Nat} : lenD Zs g #[35] (.row r off n c0 z0) = some (.int .i64 n) := by simp [lenD, tz35]
theorem ix35 : indexAddrD Zs 35 (.sl o n cs) (.int k i) = if (0 ≤ i ∧ i < n) ∧ 0 < cs.length then some (.at (cs.drop (i.toNat))) else none := by first | (simp only [indexAddrD, tz35, tz23, Nat.mul_one]; done) | (simp only [indexAddrD, tz35, tz23, Nat.mul_one]; rfl)
theorem ir35 {c0 : Option Nat} {z0 : Nat} : indexAddrD Zs 35 (.row r off n c0 z0) (.int k i) = if 0 ≤ i ∧ i < n then some (.ptr r (off + i.toNat)) else none := by first | (simp only [indexAddrD, tz35, tz23, Nat.mul_one]; done) | (simp only [indexAddrD, tz35, tz23, Nat.mul_one]; rfl)
theorem sl35 : sliceD Zs g 35 (.sl o n cs) lo hi none = match bound lo 0, bound hi n with | some l, some h => if 0 ≤ l ∧ l ≤ h ∧ h ≤ n ∧ cs.length = n then some (.sl .no (h.toNat - l.toNat) ((cs.drop (l.toNat)).take ((h.toNat - l.toNat)))) else none | _, _ => none := by simp only [sliceD, tz35, tz23, Nat.mul_one]; cases bound lo 0 <;> cases bound hi n <;> simp only [Nat.mul_one]
theorem en35 : binD Zs .eql 35 (.sl o n cs) (.sl .nil n' cs') = (nilOf o n).map .bool := by simp [binD, isNum, eqT, tz35]
theorem enr35 {c0 : Option Nat} {z0 : Nat} : binD Zs .eql 35 (.row r off n c0 z0) (.sl .nil n' cs') = some (.bool false) := by simp [binD, isNum, eqT, tz35]
theorem nn35 : binD Zs .neq 35 (.sl o n cs) (.sl .nil n' cs') = (nilOf o n).map fun b => .bool (!b) := by simp [binD, isNum, eqT, tz35]
theorem nnr35 {c0 : Option Nat} {z0 : Nat} : binD Zs .neq 35 (.row r off n c0 z0) (.sl .nil n' cs') = some (.bool true) := by simp [binD, isNum, eqT, tz35]
theorem ld36 : loadD Zs g 36 (.at cs) = cs[0]? := by first | (simp only [loadD, tz36, pack, TInfo.isAgg, Bool.false_eq_true, if_false, List.head?_eq_getElem?]; done) | (simp only [loadD, tz36, pack, TInfo.isAgg, Bool.false_eq_true, if_false, List.head?_eq_getElem?]; rfl)
theorem lp36 : loadD Zs g 36 (.ptr r off) = match g r with | some (.cells _ cs) => cs[off]? | _ => none := by first | (simp only [loadD, tz36, pack, TInfo.isAgg, Bool.false_eq_true, if_false, List.head?_drop]; done) | (simp only [loadD, tz36, pack, TInfo.isAgg, Bool.false_eq_true, if_false, List.head?_drop]; rfl)
theorem so36 : storeE Zs g 36 (.ptr r off) y = match y.cells with | some ys => (match g r with | some (.cells e cs) => if ys.length = 1 ∧ off + ys.length ≤ cs.length then some (.put r (.cells e (splice cs off ys))) else none | _ => none) | _ => none := by simp only [storeE, tz36]; cases y.cells <;> rfl
theorem al36 : allocR Zs 36 = some (.new (.cells 36 [.sl .nil 0 []])) := by rfl
theorem mi36 : ifaceD Zs 36 x = some (.iface 36 x) := by first | (simp only [ifaceD, tz36]; done) | (simp only [ifaceD, tz36]; rfl)
theorem mk36 {k' : IntKind} {m : Int} : makeSliceR Zs 0 36 (.int k i) (.int k' m) nx = if 0 ≤ i ∧ i ≤ m ∧ ((24 : Nat) : Int) * m ≤ 281474976710656 ∧ m ≤ (big : Int) then some (.row nx 0 i.toNat (some m.toNat) 1, .new (.cells 42 (List.replicate m.toNat (.sl .nil 0 [])))) else none := by exact mk_one tz36 tz42 rfl rfl rfl
theorem bs36_1 : buildSliceR Zs 0 36 1 [(0, x)] nx = lit1 x := by exact build1 tz36 tz42 rfl rfl rfl
theorem bs36_2 : buildSliceR Zs 0 36 2 [(0, x), (1, y)] nx = lit2 x y := by exact build2 tz36 tz42 rfl rfl rfl
theorem bs36_3 : buildSliceR Zs 0 36 3 [(0, x), (1, y), (2, x3)] nx = lit3 x y x3 := by exact build3 tz36 tz42 rfl rfl rfl
theorem ln36 : lenD Zs g #[36] (.sl o n cs) = some (.int .i64 n) := by simp [lenD, tz36]
theorem lr36 {c0 : Option Nat} {z0 : Nat} : lenD Zs g #[36] (.row r off n c0 z0) = some (.int .i64 n) := by simp [lenD, tz36]
theorem ix36 : indexAddrD Zs 36 (.sl o n cs) (.int k i) = if (0 ≤ i ∧ i < n) ∧ 0 < cs.length then some (.at (cs.drop (i.toNat))) else none := by first | (simp only [indexAddrD, tz36, tz42, Nat.mul_one]; done) | (simp only [indexAddrD, tz36, tz42, Nat.mul_one]; rfl)
theorem ir36 {c0 : Option Nat} {z0 : Nat} : indexAddrD Zs 36 (.row r off n c0 z0) (.int k i) = if 0 ≤ i ∧ i < n then some (.ptr r (off + i.toNat)) else none := by first | (simp only [indexAddrD, tz36, tz42, Nat.mul_one]; done) | (simp only [indexAddrD, tz36, tz42, Nat.mul_one]; rfl)
theorem sl36 : sliceD Zs g 36 (.sl o n cs) lo hi none = match bound lo 0, bound hi n with | some l, some h => if 0 ≤ l ∧ l ≤ h ∧ h ≤ n ∧ cs.length = n then some (.sl .no (h.toNat - l.toNat) ((cs.drop (l.toNat)).take ((h.toNat - l.toNat)))) else none | _, _ => none := by simp only [sliceD, tz36, tz42, Nat.mul_one]; cases bound lo 0 <;> cases bound hi n <;> simp only [Nat.mul_one]
theorem en36 : binD Zs .eql 36 (.sl o n cs) (.sl .nil n' cs') = (nilOf o n).map .bool := by simp [binD, isNum, eqT, tz36]
theorem enr36 {c0 : Option Nat} {z0 : Nat} : binD Zs .eql 36 (.row r off n c0 z0) (.sl .nil n' cs') = some (.bool false) := by simp [binD, isNum, eqT, tz36]
theorem nn36 : binD Zs .neq 36 (.sl o n cs) (.sl .nil n' cs') = (nilOf o n).map fun b => .bool (!b) := by simp [binD, isNum, eqT, tz36]
theorem nnr36 {c0 : Option Nat} {z0 : Nat} : binD Zs .neq 36 (.row r off n c0 z0) (.sl .nil n' cs') = some (.bool true) := by simp [binD, isNum, eqT, tz36]
theorem ld42 : loadD Zs g 42 (.at cs) = cs[0]? := by first | (simp only [loadD, tz42, pack, TInfo.isAgg, Bool.false_eq_true, if_false, List.head?_eq_getElem?]; done) | (simp only [loadD, tz42, pack, TInfo.isAgg, Bool.false_eq_true, if_false, List.head?_eq_getElem?]; rfl)
theorem lp42 : loadD Zs g 42 (.ptr r off) = match g r with | some (.cells _ cs) => cs[off]? | _ => none := by first | (simp only [loadD, tz42, pack, TInfo.isAgg, Bool.false_eq_true, if_false, List.head?_drop]; done) | (simp only [loadD, tz42, pack, TInfo.isAgg, Bool.false_eq_true, if_false, List.head?_drop]; rfl)
theorem so42 : storeE Zs g 42 (.ptr r off) y = match y.cells with | some ys => (match g r with | some (.cells e cs) => if ys.length = 1 ∧ off + ys.length ≤ cs.length then some (.put r (.cells e (splice cs off ys))) else none | _ => none) | _ => none := by simp only [storeE, tz42]; cases y.cells <;> rfl
theorem al42 : allocR Zs 42 = some (.new (.cells 42 [.sl .nil 0 []])) := by rfl
theorem mi42 : ifaceD Zs 42 x = some (.iface 42 x) := by first | (simp only [ifaceD, tz42]; done) | (simp only [ifaceD, tz42]; rfl)
theorem mk42 {k' : IntKind} {m : Int} : makeSliceR Zs 0 42 (.int k i) (.int k' m) nx = if 0 ≤ i ∧ i ≤ m ∧ ((8 : Nat) : Int) * m ≤ 281474976710656 ∧ m ≤ (big : Int) then some (.row nx 0 i.toNat (some m.toNat) 1, .new (.cells 3 (List.replicate m.toNat (.int .i64 0)))) else none := by exact mk_one tz42 tz3 rfl rfl rfl
theorem bs42_1 : buildSliceR Zs 0 42 1 [(0, x)] nx = lit1 x := by exact build1 tz42 tz3 rfl rfl rfl
theorem bs42_2 : buildSliceR Zs 0 42 2 [(0, x), (1, y)] nx = lit2 x y := by exact build2 tz42 tz3 rfl rfl rfl
theorem bs42_3 : buildSliceR Zs 0 42 3 [(0, x), (1, y), (2, x3)] nx = lit3 x y x3 := by exact build3 tz42 tz3 rfl rfl rfl
theorem ln42 : lenD Zs g #[42] (.sl o n cs) = some (.int .i64 n) := by simp [lenD, tz42]
theorem lr42 {c0 : Option Nat} {z0 : Nat} : lenD Zs g #[42] (.row r off n c0 z0) = some (.int .i64 n) := by simp [lenD, tz42]
theorem ix42 : indexAddrD Zs 42 (.sl o n cs) (.int k i) = if (0 ≤ i ∧ i < n) ∧ 0 < cs.length then some (.at (cs.drop (i.toNat))) else none := by first | (simp only [indexAddrD, tz42, tz3, Nat.mul_one]; done) | (simp only [indexAddrD, tz42, tz3, Nat.mul_one]; rfl)
theorem ir42 {c0 : Option Nat} {z0 : Nat} : indexAddrD Zs 42 (.row r off n c0 z0) (.int k i) = if 0 ≤ i ∧ i < n then some (.ptr r (off + i.toNat)) else none := by first | (simp only [indexAddrD, tz42, tz3, Nat.mul_one]; done) | (simp only [indexAddrD, tz42, tz3, Nat.mul_one]; rfl)
theorem sl42 : sliceD Zs g 42 (.sl o n cs) lo hi none = match bound lo 0, bound hi n with | some l, some h => if 0 ≤ l ∧ l ≤ h ∧ h ≤ n ∧ cs.length = n then some (.sl .no (h.toNat - l.toNat) ((cs.drop (l.toNat)).take ((h.toNat - l.toNat)))) else none | _, _ => none := by simp only [sliceD, tz42, tz3, Nat.mul_one]; cases bound lo 0 <;> cases bound hi n <;> simp only [Nat.mul_one]
theorem en42 : binD Zs .eql 42 (.sl o n cs) (.sl .nil n' cs') = (nilOf o n).map .bool := by simp [binD, isNum, eqT, tz42]
theorem enr42 {c0 : Option Nat} {z0 : Nat} : binD Zs .eql 42 (.row r off n c0 z0) (.sl .nil n' cs') = some (.bool false) := by simp [binD, isNum, eqT, tz42]
theorem nn42 : binD Zs .neq 42 (.sl o n cs) (.sl .nil n' cs') = (nilOf o n).map fun b => .bool (!b) := by simp [binD, isNum, eqT, tz42]
theorem nnr42 {c0 : Option Nat} {z0 : Nat} : binD Zs .neq 42 (.row r off n c0 z0) (.sl .nil n' cs') = some (.bool true) := by simp [binD, isNum, eqT, tz42]
theorem ld49 : loadD Zs g 49 (.at cs) = if 2 ≤ cs.length then some (.agg (cs.take 2)) else none := by first | (simp only [loadD, tz49, pack, TInfo.isAgg, if_true]; done) | (simp only [loadD, tz49, pack, TInfo.isAgg, if_true]; rfl)
theorem lp49 : loadD Zs g 49 (.ptr r off) = match g r with | some (.cells _ cs) => (if 2 ≤ (cs.drop off).length then some (.agg ((cs.drop off).take 2)) else none) | _ => none := by first | (simp only [loadD, tz49, pack, TInfo.isAgg, if_true]; done) | (simp only [loadD, tz49, pack, TInfo.isAgg, if_true]; rfl)
theorem so49 : storeE Zs g 49 (.ptr r off) y = match y.cells with | some ys => (match g r with | some (.cells e cs) => if ys.length = 2 ∧ off + ys.length ≤ cs.length then some (.put r (.cells e (splice cs off ys))) else none | _ => none) | _ => none := by simp only [storeE, tz49]; cases y.cells <;> rfl
theorem al49 : allocR Zs 49 = some (.new (.cells 49 [.sl .nil 0 [], .sl .nil 0 []])) := by rfl
theorem mi49 : ifaceD Zs 49 x = some (.iface 49 x) := by first | (simp only [ifaceD, tz49]; done) | (simp only [ifaceD, tz49]; rfl)
theorem fa49_0 : fieldAddrD Zs 49 0 (.at cs) = some (.at (cs.drop 0)) := by simp [fieldAddrD, fieldOf, tz49, tz23]
theorem fp49_0 : fieldAddrD Zs 49 0 (.ptr r o') = some (.ptr r (o' + 0)) := by simp [fieldAddrD, fieldOf, tz49, tz23]
theorem fl49_0 : fieldD Zs 49 0 (.agg cs) = cs[0]? := by simp [fieldD, fieldOf, tz49, tz23, partD, TInfo.isAgg]
theorem fa49_1 : fieldAddrD Zs 49 1 (.at cs) = some (.at (cs.drop 1)) := by simp [fieldAddrD, fieldOf, tz49, tz23]
theorem fp49_1 : fieldAddrD Zs 49 1 (.ptr r o') = some (.ptr r (o' + 1)) := by simp [fieldAddrD, fieldOf, tz49, tz23]
theorem fl49_1 : fieldD Zs 49 1 (.agg cs) = cs[1]? := by simp [fieldD, fieldOf, tz49, tz23, partD, TInfo.isAgg]
theorem ld50 : loadD Zs g 50 (.at cs) = if 2 ≤ cs.length then some (.agg (cs.take 2)) else none := by first | (simp only [loadD, tz50, pack, TInfo.isAgg, if_true]; done) | (simp only [loadD, tz50, pack, TInfo.isAgg, if_true]; rfl)
theorem lp50 : loadD Zs g 50 (.ptr r off) = match g r with | some (.cells _ cs) => (if 2 ≤ (cs.drop off).length then some (.agg ((cs.drop off).take 2)) else none) | _ => none := by first | (simp only [loadD, tz50, pack, TInfo.isAgg, if_true]; done) | (simp only [loadD, tz50, pack, TInfo.isAgg, if_true]; rfl)
theorem so50 : storeE Zs g 50 (.ptr r off) y = match y.cells with | some ys => (match g r with | some (.cells e cs) => if ys.length = 2 ∧ off + ys.length ≤ cs.length then some (.put r (.cells e (splice cs off ys))) else none | _ => none) | _ => none := by simp only [storeE, tz50]; cases y.cells <;> rfl
theorem al50 : allocR Zs 50 = some (.new (.cells 50 [.sl .nil 0 [], .sl .nil 0 []])) := by rfl
theorem mi50 : ifaceD Zs 50 x = some (.iface 50 x) := by first | (simp only [ifaceD, tz50]; done) | (simp only [ifaceD, tz50]; rfl)
theorem fa50_0 : fieldAddrD Zs 50 0 (.at cs) = some (.at (cs.drop 0)) := by simp [fieldAddrD, fieldOf, tz50, tz23]
theorem fp50_0 : fieldAddrD Zs 50 0 (.ptr r o') = some (.ptr r (o' + 0)) := by simp [fieldAddrD, fieldOf, tz50, tz23]
theorem fl50_0 : fieldD Zs 50 0 (.agg cs) = cs[0]? := by simp [fieldD, fieldOf, tz50, tz23, partD, TInfo.isAgg]
theorem fa50_1 : fieldAddrD Zs 50 1 (.at cs) = some (.at (cs.drop 1)) := by simp [fieldAddrD, fieldOf, tz50, tz23]
theorem fp50_1 : fieldAddrD Zs 50 1 (.ptr r o') = some (.ptr r (o' + 1)) := by simp [fieldAddrD, fieldOf, tz50, tz23]
theorem fl50_1 : fieldD Zs 50 1 (.agg cs) = cs[1]? := by simp [fieldD, fieldOf, tz50, tz23, partD, TInfo.isAgg]
theorem ld51 : loadD Zs g 51 (.at cs) = if 2 ≤ cs.length then some (.agg (cs.take 2)) else none := by first | (simp only [loadD, tz51, pack, TInfo.isAgg, if_true]; done) | (simp only [loadD, tz51, pack, TInfo.isAgg, if_true]; rfl)
theorem lp51 : loadD Zs g 51 (.ptr r off) = match g r with | some (.cells _ cs) => (if 2 ≤ (cs.drop off).length then some (.agg ((cs.drop off).take 2)) else none) | _ => none := by first | (simp only [loadD, tz51, pack, TInfo.isAgg, if_true]; done) | (simp only [loadD, tz51, pack, TInfo.isAgg, if_true]; rfl)
theorem so51 : storeE Zs g 51 (.ptr r off) y = match y.cells with | some ys => (match g r with | some (.cells e cs) => if ys.length = 2 ∧ off + ys.length ≤ cs.length then some (.put r (.cells e (splice cs off ys))) else none | _ => none) | _ => none := by simp only [storeE, tz51]; cases y.cells <;> rfl
theorem al51 : allocR Zs 51 = some (.new (.cells 51 [.sl .nil 0 [], .sl .nil 0 []])) := by rfl
theorem mi51 : ifaceD Zs 51 x = some (.iface 51 x) := by first | (simp only [ifaceD, tz51]; done) | (simp only [ifaceD, tz51]; rfl)
theorem ln51 : lenD Zs g #[51] x = some (.int .i64 2) := by cases x <;> simp [lenD, tz51]
theorem ix51 : indexAddrD Zs 51 (.at cs) (.int k i) = if 0 ≤ i ∧ i < (2 : Nat) then some (.at (cs.drop (i.toNat))) else none := by first | (simp only [indexAddrD, tz51, tz23, Nat.mul_one]; done) | (simp only [indexAddrD, tz51, tz23, Nat.mul_one]; rfl)
theorem ir51 : indexAddrD Zs 51 (.ptr r off) (.int k i) = if 0 ≤ i ∧ i < (2 : Nat) then some (.ptr r (off + i.toNat)) else none := by first | (simp only [indexAddrD, tz51, tz23, Nat.mul_one]; done) | (simp only [indexAddrD, tz51, tz23, Nat.mul_one]; rfl)
theorem ie51 : indexD Zs 51 (.agg cs) (.int k i) = if 0 ≤ i ∧ i < (2 : Nat) then cs[i.toNat]? else none := by first | (simp only [indexD, tz51, tz23, Nat.mul_one, partD, TInfo.isAgg, Bool.false_eq_true, if_false]; done) | (simp only [indexD, tz51, tz23, Nat.mul_one, partD, TInfo.isAgg, Bool.false_eq_true, if_false]; rfl)
theorem ld61 : loadD Zs g 61 (.at cs) = cs[0]? := by first | (simp only [loadD, tz61, pack, TInfo.isAgg, Bool.false_eq_true, if_false, List.head?_eq_getElem?]; done) | (simp only [loadD, tz61, pack, TInfo.isAgg, Bool.false_eq_true, if_false, List.head?_eq_getElem?]; rfl)
theorem lp61 : loadD Zs g 61 (.ptr r off) = match g r with | some (.cells _ cs) => cs[off]? | _ => none := by first | (simp only [loadD, tz61, pack, TInfo.isAgg, Bool.false_eq_true, if_false, List.head?_drop]; done) | (simp only [loadD, tz61, pack, TInfo.isAgg, Bool.false_eq_true, if_false, List.head?_drop]; rfl)
theorem so61 : storeE Zs g 61 (.ptr r off) y = match y.cells with | some ys => (match g r with | some (.cells e cs) => if ys.length = 1 ∧ off + ys.length ≤ cs.length then some (.put r (.cells e (splice cs off ys))) else none | _ => none) | _ => none := by simp only [storeE, tz61]; cases y.cells <;> rfl
theorem al61 : allocR Zs 61 = some (.new (.cells 61 [.nilfunc])) := by rfl
theorem mi61 : ifaceD Zs 61 x = some (.iface 61 x) := by first | (simp only [ifaceD, tz61]; done) | (simp only [ifaceD, tz61]; rfl)
theorem ld63 : loadD Zs g 63 (.at cs) = cs[0]? := by first | (simp only [loadD, tz63, pack, TInfo.isAgg, Bool.false_eq_true, if_false, List.head?_eq_getElem?]; done) | (simp only [loadD, tz63, pack, TInfo.isAgg, Bool.false_eq_true, if_false, List.head?_eq_getElem?]; rfl)
theorem lp63 : loadD Zs g 63 (.ptr r off) = match g r with | some (.cells _ cs) => cs[off]? | _ => none := by first | (simp only [loadD, tz63, pack, TInfo.isAgg, Bool.false_eq_true, if_false, List.head?_drop]; done) | (simp only [loadD, tz63, pack, TInfo.isAgg, Bool.false_eq_true, if_false, List.head?_drop]; rfl)
theorem so63 : storeE Zs g 63 (.ptr r off) y = match y.cells with | some ys => (match g r with | some (.cells e cs) => if ys.length = 1 ∧ off + ys.length ≤ cs.length then some (.put r (.cells e (splice cs off ys))) else none | _ => none) | _ => none := by simp only [storeE, tz63]; cases y.cells <;> rfl
theorem al63 : allocR Zs 63 = some (.new (.cells 63 [.nilptr])) := by rfl
theorem mi63 : ifaceD Zs 63 x = some (.iface 63 x) := by first | (simp only [ifaceD, tz63]; done) | (simp only [ifaceD, tz63]; rfl)
theorem peql63 : binD Zs .eql 63 (.ptr r off) .nilptr = some (.bool false) := by simp [binD, isNum, eqT, tz63]
theorem paeql63 : binD Zs .eql 63 (.at cs) .nilptr = some (.bool false) := by simp [binD, isNum, eqT, tz63]
theorem pneql63 : binD Zs .eql 63 .nilptr .nilptr = some (.bool true) := by simp [binD, isNum, eqT, tz63]
theorem pneq63 : binD Zs .neq 63 (.ptr r off) .nilptr = some (.bool true) := by simp [binD, isNum, eqT, tz63]
theorem paneq63 : binD Zs .neq 63 (.at cs) .nilptr = some (.bool true) := by simp [binD, isNum, eqT, tz63]
theorem pnneq63 : binD Zs .neq 63 .nilptr .nilptr = some (.bool false) := by simp [binD, isNum, eqT, tz63]
theorem ld64 : loadD Zs g 64 (.at cs) = if 3 ≤ cs.length then some (.agg (cs.take 3)) else none := by first | (simp only [loadD, tz64, pack, TInfo.isAgg, if_true]; done) | (simp only [loadD, tz64, pack, TInfo.isAgg, if_true]; rfl)
theorem lp64 : loadD Zs g 64 (.ptr r off) = match g r with | some (.cells _ cs) => (if 3 ≤ (cs.drop off).length then some (.agg ((cs.drop off).take 3)) else none) | _ => none := by first | (simp only [loadD, tz64, pack, TInfo.isAgg, if_true]; done) | (simp only [loadD, tz64, pack, TInfo.isAgg, if_true]; rfl)
theorem so64 : storeE Zs g 64 (.ptr r off) y = match y.cells with | some ys => (match g r with | some (.cells e cs) => if ys.length = 3 ∧ off + ys.length ≤ cs.length then some (.put r (.cells e (splice cs off ys))) else none | _ => none) | _ => none := by simp only [storeE, tz64]; cases y.cells <;> rfl
theorem al64 : allocR Zs 64 = some (.new (.cells 64 [.sl .nil 0 [], .sl .nil 0 [], .sl .nil 0 []])) := by rfl
theorem mi64 : ifaceD Zs 64 x = some (.iface 64 x) := by first | (simp only [ifaceD, tz64]; done) | (simp only [ifaceD, tz64]; rfl)
theorem fa64_0 : fieldAddrD Zs 64 0 (.at cs) = some (.at (cs.drop 0)) := by simp [fieldAddrD, fieldOf, tz64, tz35]
theorem fp64_0 : fieldAddrD Zs 64 0 (.ptr r o') = some (.ptr r (o' + 0)) := by simp [fieldAddrD, fieldOf, tz64, tz35]
theorem fl64_0 : fieldD Zs 64 0 (.agg cs) = cs[0]? := by simp [fieldD, fieldOf, tz64, tz35, partD, TInfo.isAgg]
theorem fa64_1 : fieldAddrD Zs 64 1 (.at cs) = some (.at (cs.drop 1)) := by simp [fieldAddrD, fieldOf, tz64, tz35]
theorem fp64_1 : fieldAddrD Zs 64 1 (.ptr r o') = some (.ptr r (o' + 1)) := by simp [fieldAddrD, fieldOf, tz64, tz35]
theorem fl64_1 : fieldD Zs 64 1 (.agg cs) = cs[1]? := by simp [fieldD, fieldOf, tz64, tz35, partD, TInfo.isAgg]
theorem fa64_2 : fieldAddrD Zs 64 2 (.at cs) = some (.at (cs.drop 2)) := by simp [fieldAddrD, fieldOf, tz64, tz42]
theorem fp64_2 : fieldAddrD Zs 64 2 (.ptr r o') = some (.ptr r (o' + 2)) := by simp [fieldAddrD, fieldOf, tz64, tz42]
theorem fl64_2 : fieldD Zs 64 2 (.agg cs) = cs[2]? := by simp [fieldD, fieldOf, tz64, tz42, partD, TInfo.isAgg]
theorem ld65 : loadD Zs g 65 (.at cs) = if 3 ≤ cs.length then some (.agg (cs.take 3)) else none := by first | (simp only [loadD, tz65, pack, TInfo.isAgg, if_true]; done) | (simp only [loadD, tz65, pack, TInfo.isAgg, if_true]; rfl)
theorem lp65 : loadD Zs g 65 (.ptr r off) = match g r with | some (.cells _ cs) => (if 3 ≤ (cs.drop off).length then some (.agg ((cs.drop off).take 3)) else none) | _ => none := by first | (simp only [loadD, tz65, pack, TInfo.isAgg, if_true]; done) | (simp only [loadD, tz65, pack, TInfo.isAgg, if_true]; rfl)
theorem so65 : storeE Zs g 65 (.ptr r off) y = match y.cells with | some ys => (match g r with | some (.cells e cs) => if ys.length = 3 ∧ off + ys.length ≤ cs.length then some (.put r (.cells e (splice cs off ys))) else none | _ => none) | _ => none := by simp only [storeE, tz65]; cases y.cells <;> rfl
theorem al65 : allocR Zs 65 = some (.new (.cells 65 [.sl .nil 0 [], .sl .nil 0 [], .sl .nil 0 []])) := by rfl
theorem mi65 : ifaceD Zs 65 x = some (.iface 65 x) := by first | (simp only [ifaceD, tz65]; done) | (simp only [ifaceD, tz65]; rfl)
theorem fa65_0 : fieldAddrD Zs 65 0 (.at cs) = some (.at (cs.drop 0)) := by simp [fieldAddrD, fieldOf, tz65, tz35]
theorem fp65_0 : fieldAddrD Zs 65 0 (.ptr r o') = some (.ptr r (o' + 0)) := by simp [fieldAddrD, fieldOf, tz65, tz35]
theorem fl65_0 : fieldD Zs 65 0 (.agg cs) = cs[0]? := by simp [fieldD, fieldOf, tz65, tz35, partD, TInfo.isAgg]
theorem fa65_1 : fieldAddrD Zs 65 1 (.at cs) = some (.at (cs.drop 1)) := by simp [fieldAddrD, fieldOf, tz65, tz35]
theorem fp65_1 : fieldAddrD Zs 65 1 (.ptr r o') = some (.ptr r (o' + 1)) := by simp [fieldAddrD, fieldOf, tz65, tz35]
theorem fl65_1 : fieldD Zs 65 1 (.agg cs) = cs[1]? := by simp [fieldD, fieldOf, tz65, tz35, partD, TInfo.isAgg]
theorem fa65_2 : fieldAddrD Zs 65 2 (.at cs) = some (.at (cs.drop 2)) := by simp [fieldAddrD, fieldOf, tz65, tz42]
theorem fp65_2 : fieldAddrD Zs 65 2 (.ptr r o') = some (.ptr r (o' + 2)) := by simp [fieldAddrD, fieldOf, tz65, tz42]
theorem fl65_2 : fieldD Zs 65 2 (.agg cs) = cs[2]? := by simp [fieldD, fieldOf, tz65, tz42, partD, TInfo.isAgg]
theorem ld71 : loadD Zs g 71 (.at cs) = cs[0]? := by first | (simp only [loadD, tz71, pack, TInfo.isAgg, Bool.false_eq_true, if_false, List.head?_eq_getElem?]; done) | (simp only [loadD, tz71, pack, TInfo.isAgg, Bool.false_eq_true, if_false, List.head?_eq_getElem?]; rfl)
theorem lp71 : loadD Zs g 71 (.ptr r off) = match g r with | some (.cells _ cs) => cs[off]? | _ => none := by first | (simp only [loadD, tz71, pack, TInfo.isAgg, Bool.false_eq_true, if_false, List.head?_drop]; done) | (simp only [loadD, tz71, pack, TInfo.isAgg, Bool.false_eq_true, if_false, List.head?_drop]; rfl)
theorem so71 : storeE Zs g 71 (.ptr r off) y = match y.cells with | some ys => (match g r with | some (.cells e cs) => if ys.length = 1 ∧ off + ys.length ≤ cs.length then some (.put r (.cells e (splice cs off ys))) else none | _ => none) | _ => none := by simp only [storeE, tz71]; cases y.cells <;> rfl
theorem al71 : allocR Zs 71 = some (.new (.cells 71 [.nilfunc])) := by rfl
theorem mi71 : ifaceD Zs 71 x = some (.iface 71 x) := by first | (simp only [ifaceD, tz71]; done) | (simp only [ifaceD, tz71]; rfl)
theorem ld74 : loadD Zs g 74 (.at cs) = cs[0]? := by first | (simp only [loadD, tz74, pack, TInfo.isAgg, Bool.false_eq_true, if_false, List.head?_eq_getElem?]; done) | (simp only [loadD, tz74, pack, TInfo.isAgg, Bool.false_eq_true, if_false, List.head?_eq_getElem?]; rfl)
theorem lp74 : loadD Zs g 74 (.ptr r off) = match g r with | some (.cells _ cs) => cs[off]? | _ => none := by first | (simp only [loadD, tz74, pack, TInfo.isAgg, Bool.false_eq_true, if_false, List.head?_drop]; done) | (simp only [loadD, tz74, pack, TInfo.isAgg, Bool.false_eq_true, if_false, List.head?_drop]; rfl)
theorem so74 : storeE Zs g 74 (.ptr r off) y = match y.cells with | some ys => (match g r with | some (.cells e cs) => if ys.length = 1 ∧ off + ys.length ≤ cs.length then some (.put r (.cells e (splice cs off ys))) else none | _ => none) | _ => none := by simp only [storeE, tz74]; cases y.cells <;> rfl
theorem al74 : allocR Zs 74 = some (.new (.cells 74 [.sl .nil 0 []])) := by rfl
theorem mi74 : ifaceD Zs 74 x = some (.iface 74 x) := by first | (simp only [ifaceD, tz74]; done) | (simp only [ifaceD, tz74]; rfl)
theorem ln74 : lenD Zs g #[74] (.sl o n cs) = some (.int .i64 n) := by simp [lenD, tz74]
theorem lr74 {c0 : Option Nat} {z0 : Nat} : lenD Zs g #[74] (.row r off n c0 z0) = some (.int .i64 n) := by simp [lenD, tz74]
theorem ix74 : indexAddrD Zs 74 (.sl o n cs) (.int k i) = if (0 ≤ i ∧ i < n) ∧ 0 < cs.length then some (.at (cs.drop (i.toNat * 4))) else none := by first | (simp only [indexAddrD, tz74, tz76, Nat.mul_one]; done) | (simp only [indexAddrD, tz74, tz76, Nat.mul_one]; rfl)
theorem ir74 {c0 : Option Nat} {z0 : Nat} : indexAddrD Zs 74 (.row r off n c0 z0) (.int k i) = if 0 ≤ i ∧ i < n then some (.ptr r (off + i.toNat * 4)) else none := by first | (simp only [indexAddrD, tz74, tz76, Nat.mul_one]; done) | (simp only [indexAddrD, tz74, tz76, Nat.mul_one]; rfl)
theorem sl74 : sliceD Zs g 74 (.sl o n cs) lo hi none = match bound lo 0, bound hi n with | some l, some h => if 0 ≤ l ∧ l ≤ h ∧ h ≤ n ∧ cs.length = n * 4 then some (.sl .no (h.toNat - l.toNat) ((cs.drop (l.toNat * 4)).take ((h.toNat - l.toNat) * 4))) else none | _, _ => none := by simp only [sliceD, tz74, tz76, Nat.mul_one]; cases bound lo 0 <;> cases bound hi n <;> simp only [Nat.mul_one]
theorem en74 : binD Zs .eql 74 (.sl o n cs) (.sl .nil n' cs') = (nilOf o n).map .bool := by simp [binD, isNum, eqT, tz74]
theorem enr74 {c0 : Option Nat} {z0 : Nat} : binD Zs .eql 74 (.row r off n c0 z0) (.sl .nil n' cs') = some (.bool false) := by simp [binD, isNum, eqT, tz74]
theorem nn74 : binD Zs .neq 74 (.sl o n cs) (.sl .nil n' cs') = (nilOf o n).map fun b => .bool (!b) := by simp [binD, isNum, eqT, tz74]
theorem nnr74 {c0 : Option Nat} {z0 : Nat} : binD Zs .neq 74 (.row r off n c0 z0) (.sl .nil n' cs') = some (.bool true) := by simp [binD, isNum, eqT, tz74]
theorem ld75 : loadD Zs g 75 (.at cs) = if 4 ≤ cs.length then some (.agg (cs.take 4)) else none := by first | (simp only [loadD, tz75, pack, TInfo.isAgg, if_true]; done) | (simp only [loadD, tz75, pack, TInfo.isAgg, if_true]; rfl)
theorem lp75 : loadD Zs g 75 (.ptr r off) = match g r with | some (.cells _ cs) => (if 4 ≤ (cs.drop off).length then some (.agg ((cs.drop off).take 4)) else none) | _ => none := by first | (simp only [loadD, tz75, pack, TInfo.isAgg, if_true]; done) | (simp only [loadD, tz75, pack, TInfo.isAgg, if_true]; rfl)
theorem so75 : storeE Zs g 75 (.ptr r off) y = match y.cells with | some ys => (match g r with | some (.cells e cs) => if ys.length = 4 ∧ off + ys.length ≤ cs.length then some (.put r (.cells e (splice cs off ys))) else none | _ => none) | _ => none := by simp only [storeE, tz75]; cases y.cells <;> rfl
theorem al75 : allocR Zs 75 = some (.new (.cells 75 [.sl .nil 0 [], .int .i64 0, .sl .nil 0 [], .sl .nil 0 []])) := by rfl
theorem mi75 : ifaceD Zs 75 x = some (.iface 75 x) := by first | (simp only [ifaceD, tz75]; done) | (simp only [ifaceD, tz75]; rfl)
theorem fa75_0 : fieldAddrD Zs 75 0 (.at cs) = some (.at (cs.drop 0)) := by simp [fieldAddrD, fieldOf, tz75, tz23]
theorem fp75_0 : fieldAddrD Zs 75 0 (.ptr r o') = some (.ptr r (o' + 0)) := by simp [fieldAddrD, fieldOf, tz75, tz23]
theorem fl75_0 : fieldD Zs 75 0 (.agg cs) = cs[0]? := by simp [fieldD, fieldOf, tz75, tz23, partD, TInfo.isAgg]
theorem fa75_1 : fieldAddrD Zs 75 1 (.at cs) = some (.at (cs.drop 1)) := by simp [fieldAddrD, fieldOf, tz75, tz3]
theorem fp75_1 : fieldAddrD Zs 75 1 (.ptr r o') = some (.ptr r (o' + 1)) := by simp [fieldAddrD, fieldOf, tz75, tz3]
theorem fl75_1 : fieldD Zs 75 1 (.agg cs) = cs[1]? := by simp [fieldD, fieldOf, tz75, tz3, partD, TInfo.isAgg]
theorem fa75_2 : fieldAddrD Zs 75 2 (.at cs) = some (.at (cs.drop 2)) := by simp [fieldAddrD, fieldOf, tz75, tz42]
theorem fp75_2 : fieldAddrD Zs 75 2 (.ptr r o') = some (.ptr r (o' + 2)) := by simp [fieldAddrD, fieldOf, tz75, tz42]
theorem fl75_2 : fieldD Zs 75 2 (.agg cs) = cs[2]? := by simp [fieldD, fieldOf, tz75, tz42, partD, TInfo.isAgg]
theorem fa75_3 : fieldAddrD Zs 75 3 (.at cs) = some (.at (cs.drop 3)) := by simp [fieldAddrD, fieldOf, tz75, tz42]
theorem fp75_3 : fieldAddrD Zs 75 3 (.ptr r o') = some (.ptr r (o' + 3)) := by simp [fieldAddrD, fieldOf, tz75, tz42]
theorem fl75_3 : fieldD Zs 75 3 (.agg cs) = cs[3]? := by simp [fieldD, fieldOf, tz75, tz42, partD, TInfo.isAgg]
theorem ld76 : loadD Zs g 76 (.at cs) = if 4 ≤ cs.length then some (.agg (cs.take 4)) else none := by first | (simp only [loadD, tz76, pack, TInfo.isAgg, if_true]; done) | (simp only [loadD, tz76, pack, TInfo.isAgg, if_true]; rfl)
theorem lp76 : loadD Zs g 76 (.ptr r off) = match g r with | some (.cells _ cs) => (if 4 ≤ (cs.drop off).length then some (.agg ((cs.drop off).take 4)) else none) | _ => none := by first | (simp only [loadD, tz76, pack, TInfo.isAgg, if_true]; done) | (simp only [loadD, tz76, pack, TInfo.isAgg, if_true]; rfl)
theorem so76 : storeE Zs g 76 (.ptr r off) y = match y.cells with | some ys => (match g r with | some (.cells e cs) => if ys.length = 4 ∧ off + ys.length ≤ cs.length then some (.put r (.cells e (splice cs off ys))) else none | _ => none) | _ => none := by simp only [storeE, tz76]; cases y.cells <;> rfl
theorem al76 : allocR Zs 76 = some (.new (.cells 76 [.sl .nil 0 [], .int .i64 0, .sl .nil 0 [], .sl .nil 0 []])) := by rfl
theorem mi76 : ifaceD Zs 76 x = some (.iface 76 x) := by first | (simp only [ifaceD, tz76]; done) | (simp only [ifaceD, tz76]; rfl)
theorem fa76_0 : fieldAddrD Zs 76 0 (.at cs) = some (.at (cs.drop 0)) := by simp [fieldAddrD, fieldOf, tz76, tz23]
theorem fp76_0 : fieldAddrD Zs 76 0 (.ptr r o') = some (.ptr r (o' + 0)) := by simp [fieldAddrD, fieldOf, tz76, tz23]
theorem fl76_0 : fieldD Zs 76 0 (.agg cs) = cs[0]? := by simp [fieldD, fieldOf, tz76, tz23, partD, TInfo.isAgg]
theorem fa76_1 : fieldAddrD Zs 76 1 (.at cs) = some (.at (cs.drop 1)) := by simp [fieldAddrD, fieldOf, tz76, tz3]
theorem fp76_1 : fieldAddrD Zs 76 1 (.ptr r o') = some (.ptr r (o' + 1)) := by simp [fieldAddrD, fieldOf, tz76, tz3]
theorem fl76_1 : fieldD Zs 76 1 (.agg cs) = cs[1]? := by simp [fieldD, fieldOf, tz76, tz3, partD, TInfo.isAgg]
theorem fa76_2 : fieldAddrD Zs 76 2 (.at cs) = some (.at (cs.drop 2)) := by simp [fieldAddrD, fieldOf, tz76, tz42]
theorem fp76_2 : fieldAddrD Zs 76 2 (.ptr r o') = some (.ptr r (o' + 2)) := by simp [fieldAddrD, fieldOf, tz76, tz42]
theorem fl76_2 : fieldD Zs 76 2 (.agg cs) = cs[2]? := by simp [fieldD, fieldOf, tz76, tz42, partD, TInfo.isAgg]
theorem fa76_3 : fieldAddrD Zs 76 3 (.at cs) = some (.at (cs.drop 3)) := by simp [fieldAddrD, fieldOf, tz76, tz42]
theorem fp76_3 : fieldAddrD Zs 76 3 (.ptr r o') = some (.ptr r (o' + 3)) := by simp [fieldAddrD, fieldOf, tz76, tz42]
theorem fl76_3 : fieldD Zs 76 3 (.agg cs) = cs[3]? := by simp [fieldD, fieldOf, tz76, tz42, partD, TInfo.isAgg]
theorem ld77 : loadD Zs g 77 (.at cs) = cs[0]? := by first | (simp only [loadD, tz77, pack, TInfo.isAgg, Bool.false_eq_true, if_false, List.head?_eq_getElem?]; done) | (simp only [loadD, tz77, pack, TInfo.isAgg, Bool.false_eq_true, if_false, List.head?_eq_getElem?]; rfl)
theorem lp77 : loadD Zs g 77 (.ptr r off) = match g r with | some (.cells _ cs) => cs[off]? | _ => none := by first | (simp only [loadD, tz77, pack, TInfo.isAgg, Bool.false_eq_true, if_false, List.head?_drop]; done) | (simp only [loadD, tz77, pack, TInfo.isAgg, Bool.false_eq_true, if_false, List.head?_drop]; rfl)
theorem so77 : storeE Zs g 77 (.ptr r off) y = match y.cells with | some ys => (match g r with | some (.cells e cs) => if ys.length = 1 ∧ off + ys.length ≤ cs.length then some (.put r (.cells e (splice cs off ys))) else none | _ => none) | _ => none := by simp only [storeE, tz77]; cases y.cells <;> rfl
theorem al77 : allocR Zs 77 = some (.new (.cells 77 [.nilmap])) := by rfl
theorem mi77 : ifaceD Zs 77 x = some (.iface 77 x) := by first | (simp only [ifaceD, tz77]; done) | (simp only [ifaceD, tz77]; rfl)
theorem meql77 : binD Zs .eql 77 (.map r) .nilmap = some (.bool false) := by simp [binD, isNum, eqT, tz77]
theorem mneql77 : binD Zs .eql 77 .nilmap .nilmap = some (.bool true) := by simp [binD, isNum, eqT, tz77]
theorem mneq77 : binD Zs .neq 77 (.map r) .nilmap = some (.bool true) := by simp [binD, isNum, eqT, tz77]
theorem mnneq77 : binD Zs .neq 77 .nilmap .nilmap = some (.bool false) := by simp [binD, isNum, eqT, tz77]
theorem lnn77 : lenD Zs g #[77] .nilmap = some (.int .i64 0) := by simp [lenD, tz77]
theorem lnm77 : lenD Zs g #[77] (.map r) = match g r with | some (.map es _) => some (.int .i64 es.length) | _ => none := by simp [lenD, tz77]; rfl
theorem ld82 : loadD Zs g 82 (.at cs) = cs[0]? := by first | (simp only [loadD, tz82, pack, TInfo.isAgg, Bool.false_eq_true, if_false, List.head?_eq_getElem?]; done) | (simp only [loadD, tz82, pack, TInfo.isAgg, Bool.false_eq_true, if_false, List.head?_eq_getElem?]; rfl)
theorem lp82 : loadD Zs g 82 (.ptr r off) = match g r with | some (.cells _ cs) => cs[off]? | _ => none := by first | (simp only [loadD, tz82, pack, TInfo.isAgg, Bool.false_eq_true, if_false, List.head?_drop]; done) | (simp only [loadD, tz82, pack, TInfo.isAgg, Bool.false_eq_true, if_false, List.head?_drop]; rfl)
theorem so82 : storeE Zs g 82 (.ptr r off) y = match y.cells with | some ys => (match g r with | some (.cells e cs) => if ys.length = 1 ∧ off + ys.length ≤ cs.length then some (.put r (.cells e (splice cs off ys))) else none | _ => none) | _ => none := by simp only [storeE, tz82]; cases y.cells <;> rfl
theorem al82 : allocR Zs 82 = some (.new (.cells 82 [.nilfunc])) := by rfl
theorem mi82 : ifaceD Zs 82 x = some (.iface 82 x) := by first | (simp only [ifaceD, tz82]; done) | (simp only [ifaceD, tz82]; rfl)
theorem ld86 : loadD Zs g 86 (.at cs) = cs[0]? := by first | (simp only [loadD, tz86, pack, TInfo.isAgg, Bool.false_eq_true, if_false, List.head?_eq_getElem?]; done) | (simp only [loadD, tz86, pack, TInfo.isAgg, Bool.false_eq_true, if_false, List.head?_eq_getElem?]; rfl)
theorem lp86 : loadD Zs g 86 (.ptr r off) = match g r with | some (.cells _ cs) => cs[off]? | _ => none := by first | (simp only [loadD, tz86, pack, TInfo.isAgg, Bool.false_eq_true, if_false, List.head?_drop]; done) | (simp only [loadD, tz86, pack, TInfo.isAgg, Bool.false_eq_true, if_false, List.head?_drop]; rfl)
theorem so86 : storeE Zs g 86 (.ptr r off) y = match y.cells with | some ys => (match g r with | some (.cells e cs) => if ys.length = 1 ∧ off + ys.length ≤ cs.length then some (.put r (.cells e (splice cs off ys))) else none | _ => none) | _ => none := by simp only [storeE, tz86]; cases y.cells <;> rfl
theorem al86 : allocR Zs 86 = some (.new (.cells 86 [.nilptr])) := by rfl
theorem mi86 : ifaceD Zs 86 x = some (.iface 86 x) := by first | (simp only [ifaceD, tz86]; done) | (simp only [ifaceD, tz86]; rfl)
theorem peql86 : binD Zs .eql 86 (.ptr r off) .nilptr = some (.bool false) := by simp [binD, isNum, eqT, tz86]
theorem paeql86 : binD Zs .eql 86 (.at cs) .nilptr = some (.bool false) := by simp [binD, isNum, eqT, tz86]
theorem pneql86 : binD Zs .eql 86 .nilptr .nilptr = some (.bool true) := by simp [binD, isNum, eqT, tz86]
theorem pneq86 : binD Zs .neq 86 (.ptr r off) .nilptr = some (.bool true) := by simp [binD, isNum, eqT, tz86]
theorem paneq86 : binD Zs .neq 86 (.at cs) .nilptr = some (.bool true) := by simp [binD, isNum, eqT, tz86]
theorem pnneq86 : binD Zs .neq 86 .nilptr .nilptr = some (.bool false) := by simp [binD, isNum, eqT, tz86]
theorem ld87 : loadD Zs g 87 (.at cs) = cs[0]? := by first | (simp only [loadD, tz87, pack, TInfo.isAgg, Bool.false_eq_true, if_false, List.head?_eq_getElem?]; done) | (simp only [loadD, tz87, pack, TInfo.isAgg, Bool.false_eq_true, if_false, List.head?_eq_getElem?]; rfl)
theorem lp87 : loadD Zs g 87 (.ptr r off) = match g r with | some (.cells _ cs) => cs[off]? | _ => none := by first | (simp only [loadD, tz87, pack, TInfo.isAgg, Bool.false_eq_true, if_false, List.head?_drop]; done) | (simp only [loadD, tz87, pack, TInfo.isAgg, Bool.false_eq_true, if_false, List.head?_drop]; rfl)
theorem so87 : storeE Zs g 87 (.ptr r off) y = match y.cells with | some ys => (match g r with | some (.cells e cs) => if ys.length = 1 ∧ off + ys.length ≤ cs.length then some (.put r (.cells e (splice cs off ys))) else none | _ => none) | _ => none := by simp only [storeE, tz87]; cases y.cells <;> rfl
theorem al87 : allocR Zs 87 = some (.new (.cells 87 [.sl .nil 0 []])) := by rfl
theorem mi87 : ifaceD Zs 87 x = some (.iface 87 x) := by first | (simp only [ifaceD, tz87]; done) | (simp only [ifaceD, tz87]; rfl)
theorem mk87 {k' : IntKind} {m : Int} : makeSliceR Zs 0 87 (.int k i) (.int k' m) nx = if 0 ≤ i ∧ i ≤ m ∧ ((1 : Nat) : Int) * m ≤ 281474976710656 ∧ m ≤ (big : Int) then some (.row nx 0 i.toNat (some m.toNat) 1, .new (.cells 5 (List.replicate m.toNat (.int .u8 0)))) else none := by exact mk_one tz87 tz5 rfl rfl rfl
theorem bs87_1 : buildSliceR Zs 0 87 1 [(0, x)] nx = lit1 x := by exact build1 tz87 tz5 rfl rfl rfl
theorem bs87_2 : buildSliceR Zs 0 87 2 [(0, x), (1, y)] nx = lit2 x y := by exact build2 tz87 tz5 rfl rfl rfl
theorem bs87_3 : buildSliceR Zs 0 87 3 [(0, x), (1, y), (2, x3)] nx = lit3 x y x3 := by exact build3 tz87 tz5 rfl rfl rfl
theorem ln87 : lenD Zs g #[87] (.sl o n cs) = some (.int .i64 n) := by simp [lenD, tz87]
theorem lr87 {c0 : Option Nat} {z0 : Nat} : lenD Zs g #[87] (.row r off n c0 z0) = some (.int .i64 n) := by simp [lenD, tz87]
theorem ix87 : indexAddrD Zs 87 (.sl o n cs) (.int k i) = if (0 ≤ i ∧ i < n) ∧ 0 < cs.length then some (.at (cs.drop (i.toNat))) else none := by first | (simp only [indexAddrD, tz87, tz5, Nat.mul_one]; done) | (simp only [indexAddrD, tz87, tz5, Nat.mul_one]; rfl)
theorem ir87 {c0 : Option Nat} {z0 : Nat} : indexAddrD Zs 87 (.row r off n c0 z0) (.int k i) = if 0 ≤ i ∧ i < n then some (.ptr r (off + i.toNat)) else none := by first | (simp only [indexAddrD, tz87, tz5, Nat.mul_one]; done) | (simp only [indexAddrD, tz87, tz5, Nat.mul_one]; rfl)
theorem sl87 : sliceD Zs g 87 (.sl o n cs) lo hi none = match bound lo 0, bound hi n with | some l, some h => if 0 ≤ l ∧ l ≤ h ∧ h ≤ n ∧ cs.length = n then some (.sl .no (h.toNat - l.toNat) ((cs.drop (l.toNat)).take ((h.toNat - l.toNat)))) else none | _, _ => none := by simp only [sliceD, tz87, tz5, Nat.mul_one]; cases bound lo 0 <;> cases bound hi n <;> simp only [Nat.mul_one]
theorem en87 : binD Zs .eql 87 (.sl o n cs) (.sl .nil n' cs') = (nilOf o n).map .bool := by simp [binD, isNum, eqT, tz87]
theorem enr87 {c0 : Option Nat} {z0 : Nat} : binD Zs .eql 87 (.row r off n c0 z0) (.sl .nil n' cs') = some (.bool false) := by simp [binD, isNum, eqT, tz87]
theorem nn87 : binD Zs .neq 87 (.sl o n cs) (.sl .nil n' cs') = (nilOf o n).map fun b => .bool (!b) := by simp [binD, isNum, eqT, tz87]
theorem nnr87 {c0 : Option Nat} {z0 : Nat} : binD Zs .neq 87 (.row r off n c0 z0) (.sl .nil n' cs') = some (.bool true) := by simp [binD, isNum, eqT, tz87]
theorem ld88 : loadD Zs g 88 (.at cs) = if 2 ≤ cs.length then some (.agg (cs.take 2)) else none := by first | (simp only [loadD, tz88, pack, TInfo.isAgg, if_true]; done) | (simp only [loadD, tz88, pack, TInfo.isAgg, if_true]; rfl)
theorem lp88 : loadD Zs g 88 (.ptr r off) = match g r with | some (.cells _ cs) => (if 2 ≤ (cs.drop off).length then some (.agg ((cs.drop off).take 2)) else none) | _ => none := by first | (simp only [loadD, tz88, pack, TInfo.isAgg, if_true]; done) | (simp only [loadD, tz88, pack, TInfo.isAgg, if_true]; rfl)
theorem so88 : storeE Zs g 88 (.ptr r off) y = match y.cells with | some ys => (match g r with | some (.cells e cs) => if ys.length = 2 ∧ off + ys.length ≤ cs.length then some (.put r (.cells e (splice cs off ys))) else none | _ => none) | _ => none := by simp only [storeE, tz88]; cases y.cells <;> rfl
theorem al88 : allocR Zs 88 = some (.new (.cells 88 [.nilptr, .sl .nil 0 []])) := by rfl
theorem mi88 : ifaceD Zs 88 x = some (.iface 88 x) := by first | (simp only [ifaceD, tz88]; done) | (simp only [ifaceD, tz88]; rfl)
theorem fa88_0 : fieldAddrD Zs 88 0 (.at cs) = some (.at (cs.drop 0)) := by simp [fieldAddrD, fieldOf, tz88, tz86]
theorem fp88_0 : fieldAddrD Zs 88 0 (.ptr r o') = some (.ptr r (o' + 0)) := by simp [fieldAddrD, fieldOf, tz88, tz86]
theorem fl88_0 : fieldD Zs 88 0 (.agg cs) = cs[0]? := by simp [fieldD, fieldOf, tz88, tz86, partD, TInfo.isAgg]
theorem fa88_1 : fieldAddrD Zs 88 1 (.at cs) = some (.at (cs.drop 1)) := by simp [fieldAddrD, fieldOf, tz88, tz87]
theorem fp88_1 : fieldAddrD Zs 88 1 (.ptr r o') = some (.ptr r (o' + 1)) := by simp [fieldAddrD, fieldOf, tz88, tz87]
theorem fl88_1 : fieldD Zs 88 1 (.agg cs) = cs[1]? := by simp [fieldD, fieldOf, tz88, tz87, partD, TInfo.isAgg]
theorem ld89 : loadD Zs g 89 (.at cs) = if 2 ≤ cs.length then some (.agg (cs.take 2)) else none := by first | (simp only [loadD, tz89, pack, TInfo.isAgg, if_true]; done) | (simp only [loadD, tz89, pack, TInfo.isAgg, if_true]; rfl)
theorem lp89 : loadD Zs g 89 (.ptr r off) = match g r with | some (.cells _ cs) => (if 2 ≤ (cs.drop off).length then some (.agg ((cs.drop off).take 2)) else none) | _ => none := by first | (simp only [loadD, tz89, pack, TInfo.isAgg, if_true]; done) | (simp only [loadD, tz89, pack, TInfo.isAgg, if_true]; rfl)
theorem so89 : storeE Zs g 89 (.ptr r off) y = match y.cells with | some ys => (match g r with | some (.cells e cs) => if ys.length = 2 ∧ off + ys.length ≤ cs.length then some (.put r (.cells e (splice cs off ys))) else none | _ => none) | _ => none := by simp only [storeE, tz89]; cases y.cells <;> rfl
theorem al89 : allocR Zs 89 = some (.new (.cells 89 [.nilptr, .sl .nil 0 []])) := by rfl
theorem mi89 : ifaceD Zs 89 x = some (.iface 89 x) := by first | (simp only [ifaceD, tz89]; done) | (simp only [ifaceD, tz89]; rfl)
theorem fa89_0 : fieldAddrD Zs 89 0 (.at cs) = some (.at (cs.drop 0)) := by simp [fieldAddrD, fieldOf, tz89, tz86]
theorem fp89_0 : fieldAddrD Zs 89 0 (.ptr r o') = some (.ptr r (o' + 0)) := by simp [fieldAddrD, fieldOf, tz89, tz86]
theorem fl89_0 : fieldD Zs 89 0 (.agg cs) = cs[0]? := by simp [fieldD, fieldOf, tz89, tz86, partD, TInfo.isAgg]
theorem fa89_1 : fieldAddrD Zs 89 1 (.at cs) = some (.at (cs.drop 1)) := by simp [fieldAddrD, fieldOf, tz89, tz87]
theorem fp89_1 : fieldAddrD Zs 89 1 (.ptr r o') = some (.ptr r (o' + 1)) := by simp [fieldAddrD, fieldOf, tz89, tz87]
theorem fl89_1 : fieldD Zs 89 1 (.agg cs) = cs[1]? := by simp [fieldD, fieldOf, tz89, tz87, partD, TInfo.isAgg]
theorem ld96 : loadD Zs g 96 (.at cs) = cs[0]? := by first | (simp only [loadD, tz96, pack, TInfo.isAgg, Bool.false_eq_true, if_false, List.head?_eq_getElem?]; done) | (simp only [loadD, tz96, pack, TInfo.isAgg, Bool.false_eq_true, if_false, List.head?_eq_getElem?]; rfl)
theorem lp96 : loadD Zs g 96 (.ptr r off) = match g r with | some (.cells _ cs) => cs[off]? | _ => none := by first | (simp only [loadD, tz96, pack, TInfo.isAgg, Bool.false_eq_true, if_false, List.head?_drop]; done) | (simp only [loadD, tz96, pack, TInfo.isAgg, Bool.false_eq_true, if_false, List.head?_drop]; rfl)
theorem so96 : storeE Zs g 96 (.ptr r off) y = match y.cells with | some ys => (match g r with | some (.cells e cs) => if ys.length = 1 ∧ off + ys.length ≤ cs.length then some (.put r (.cells e (splice cs off ys))) else none | _ => none) | _ => none := by simp only [storeE, tz96]; cases y.cells <;> rfl
theorem al96 : allocR Zs 96 = some (.new (.cells 96 [.nilptr])) := by rfl
theorem mi96 : ifaceD Zs 96 x = some (.iface 96 x) := by first | (simp only [ifaceD, tz96]; done) | (simp only [ifaceD, tz96]; rfl)
theorem peql96 : binD Zs .eql 96 (.ptr r off) .nilptr = some (.bool false) := by simp [binD, isNum, eqT, tz96]
theorem paeql96 : binD Zs .eql 96 (.at cs) .nilptr = some (.bool false) := by simp [binD, isNum, eqT, tz96]
theorem pneql96 : binD Zs .eql 96 .nilptr .nilptr = some (.bool true) := by simp [binD, isNum, eqT, tz96]
theorem pneq96 : binD Zs .neq 96 (.ptr r off) .nilptr = some (.bool true) := by simp [binD, isNum, eqT, tz96]
theorem paneq96 : binD Zs .neq 96 (.at cs) .nilptr = some (.bool true) := by simp [binD, isNum, eqT, tz96]
theorem pnneq96 : binD Zs .neq 96 .nilptr .nilptr = some (.bool false) := by simp [binD, isNum, eqT, tz96]
theorem ld97 : loadD Zs g 97 (.at cs) = cs[0]? := by first | (simp only [loadD, tz97, pack, TInfo.isAgg, Bool.false_eq_true, if_false, List.head?_eq_getElem?]; done) | (simp only [loadD, tz97, pack, TInfo.isAgg, Bool.false_eq_true, if_false, List.head?_eq_getElem?]; rfl)
theorem lp97 : loadD Zs g 97 (.ptr r off) = match g r with | some (.cells _ cs) => cs[off]? | _ => none := by first | (simp only [loadD, tz97, pack, TInfo.isAgg, Bool.false_eq_true, if_false, List.head?_drop]; done) | (simp only [loadD, tz97, pack, TInfo.isAgg, Bool.false_eq_true, if_false, List.head?_drop]; rfl)
theorem so97 : storeE Zs g 97 (.ptr r off) y = match y.cells with | some ys => (match g r with | some (.cells e cs) => if ys.length = 1 ∧ off + ys.length ≤ cs.length then some (.put r (.cells e (splice cs off ys))) else none | _ => none) | _ => none := by simp only [storeE, tz97]; cases y.cells <;> rfl
theorem al97 : allocR Zs 97 = some (.new (.cells 97 [.nilptr])) := by rfl
theorem mi97 : ifaceD Zs 97 x = some (.iface 97 x) := by first | (simp only [ifaceD, tz97]; done) | (simp only [ifaceD, tz97]; rfl)
theorem co0 : ofV (.string ⟨#[115, 116, 114, 105, 110, 103, 115, 46, 66, 117, 105, 108, 100, 101, 114, 46, 71, 114, 111, 119, 58, 32, 110, 101, 103, 97, 116, 105, 118, 101, 32, 99, 111, 117, 110, 116]⟩) = .str ⟨#[115, 116, 114, 105, 110, 103, 115, 46, 66, 117, 105, 108, 100, 101, 114, 46, 71, 114, 111, 119, 58, 32, 110, 101, 103, 97, 116, 105, 118, 101, 32, 99, 111, 117, 110, 116]⟩ := (rfl)
theorem co1 : ofV (.string ⟨#[115, 116, 114, 105, 110, 103, 115, 58, 32, 74, 111, 105, 110, 32, 111, 117, 116, 112, 117, 116, 32, 108, 101, 110, 103, 116, 104, 32, 111, 118, 101, 114, 102, 108, 111, 119]⟩) = .str ⟨#[115, 116, 114, 105, 110, 103, 115, 58, 32, 74, 111, 105, 110, 32, 111, 117, 116, 112, 117, 116, 32, 108, 101, 110, 103, 116, 104, 32, 111, 118, 101, 114, 102, 108, 111, 119]⟩ := (rfl)
theorem co2 : ofV (.string ⟨#[120]⟩) = .str ⟨#[120]⟩ := (rfl)
theorem co3 : ofV (.string ⟨#[32]⟩) = .str ⟨#[32]⟩ := (rfl)
theorem co4 : ofV (.string ⟨#[97]⟩) = .str ⟨#[97]⟩ := (rfl)
theorem co5 : ofV (.string ⟨#[98]⟩) = .str ⟨#[98]⟩ := (rfl)
theorem co6 : ofV (.string ⟨#[]⟩) = .str ⟨#[]⟩ := (rfl)
end
end Go.Proofs.Ytldlcejlfaogbaa.Vs
