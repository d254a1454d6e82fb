/- Operations at the seat's types, written by dgen.py. -/
import Derived.Test.YtapkbkniooleaaaDoorDmTy
import Derived.Test.YtapkbkniooleaaaDoorDmLib
namespace Go.Proofs.YtapkbkniooleaaaDoor.Vs
set_option linter.unusedVariables false
set_option linter.unusedSimpArgs false
set_option maxRecDepth 100000
section
variable {g : Nat → Option AO} {cs cs' : List D} {x y x3 : D} {o : Own} {n n' nx : Nat} {r off o' : Nat} {i : Int} {k : IntKind} {s : ByteArray} {lo hi : Option D}
theorem ld3 : loadD Zs g 3 (.at cs) = cs[0]? := by first | (simp only [loadD, tz3, pack, TInfo.isAgg, Bool.false_eq_true, if_false, List.head?_eq_getElem?]; done) | (simp only [loadD, tz3, pack, TInfo.isAgg, Bool.false_eq_true, if_false, List.head?_eq_getElem?]; rfl)
theorem lp3 : loadD Zs g 3 (.ptr r off) = match g r with | some (.cells _ cs) => cs[off]? | _ => none := by first | (simp only [loadD, tz3, pack, TInfo.isAgg, Bool.false_eq_true, if_false, List.head?_drop]; done) | (simp only [loadD, tz3, pack, TInfo.isAgg, Bool.false_eq_true, if_false, List.head?_drop]; rfl)
theorem so3 : storeE Zs g 3 (.ptr r off) y = match y.cells with | some ys => (match g r with | some (.cells e cs) => if ys.length = 1 ∧ off + ys.length ≤ cs.length then some (.put r (.cells e (splice cs off ys))) else none | _ => none) | _ => none := by simp only [storeE, tz3]; cases y.cells <;> rfl
theorem al3 : allocR Zs 3 = some (.new (.cells 3 [.int .i64 0])) := by rfl
theorem mi3 : ifaceD Zs 3 x = some (.iface 3 x) := by first | (simp only [ifaceD, tz3]; done) | (simp only [ifaceD, tz3]; rfl)
theorem ld4 : loadD Zs g 4 (.at cs) = cs[0]? := by first | (simp only [loadD, tz4, pack, TInfo.isAgg, Bool.false_eq_true, if_false, List.head?_eq_getElem?]; done) | (simp only [loadD, tz4, pack, TInfo.isAgg, Bool.false_eq_true, if_false, List.head?_eq_getElem?]; rfl)
theorem lp4 : loadD Zs g 4 (.ptr r off) = match g r with | some (.cells _ cs) => cs[off]? | _ => none := by first | (simp only [loadD, tz4, pack, TInfo.isAgg, Bool.false_eq_true, if_false, List.head?_drop]; done) | (simp only [loadD, tz4, pack, TInfo.isAgg, Bool.false_eq_true, if_false, List.head?_drop]; rfl)
theorem so4 : storeE Zs g 4 (.ptr r off) y = match y.cells with | some ys => (match g r with | some (.cells e cs) => if ys.length = 1 ∧ off + ys.length ≤ cs.length then some (.put r (.cells e (splice cs off ys))) else none | _ => none) | _ => none := by simp only [storeE, tz4]; cases y.cells <;> rfl
theorem al4 : allocR Zs 4 = some (.new (.cells 4 [.bool false])) := by rfl
theorem mi4 : ifaceD Zs 4 x = some (.iface 4 x) := by first | (simp only [ifaceD, tz4]; done) | (simp only [ifaceD, tz4]; rfl)
theorem bq4 {a b : Bool} : binD Zs .eql 4 (.bool a) (.bool b) = some (.bool (a == b)) := by simp [binD, isNum, eqT, tz4, eqS]
theorem bn4 {a b : Bool} : binD Zs .neq 4 (.bool a) (.bool b) = some (.bool (!(a == b))) := by simp [binD, isNum, eqT, tz4, eqS]
theorem ld5 : loadD Zs g 5 (.at cs) = cs[0]? := by first | (simp only [loadD, tz5, pack, TInfo.isAgg, Bool.false_eq_true, if_false, List.head?_eq_getElem?]; done) | (simp only [loadD, tz5, pack, TInfo.isAgg, Bool.false_eq_true, if_false, List.head?_eq_getElem?]; rfl)
theorem lp5 : loadD Zs g 5 (.ptr r off) = match g r with | some (.cells _ cs) => cs[off]? | _ => none := by first | (simp only [loadD, tz5, pack, TInfo.isAgg, Bool.false_eq_true, if_false, List.head?_drop]; done) | (simp only [loadD, tz5, pack, TInfo.isAgg, Bool.false_eq_true, if_false, List.head?_drop]; rfl)
theorem so5 : storeE Zs g 5 (.ptr r off) y = match y.cells with | some ys => (match g r with | some (.cells e cs) => if ys.length = 1 ∧ off + ys.length ≤ cs.length then some (.put r (.cells e (splice cs off ys))) else none | _ => none) | _ => none := by simp only [storeE, tz5]; cases y.cells <;> rfl
theorem al5 : allocR Zs 5 = some (.new (.cells 5 [.int .u8 0])) := by rfl
theorem mi5 : ifaceD Zs 5 x = some (.iface 5 x) := by first | (simp only [ifaceD, tz5]; done) | (simp only [ifaceD, tz5]; rfl)
theorem ld9 : loadD Zs g 9 (.at cs) = cs[0]? := by first | (simp only [loadD, tz9, pack, TInfo.isAgg, Bool.false_eq_true, if_false, List.head?_eq_getElem?]; done) | (simp only [loadD, tz9, pack, TInfo.isAgg, Bool.false_eq_true, if_false, List.head?_eq_getElem?]; rfl)
theorem lp9 : loadD Zs g 9 (.ptr r off) = match g r with | some (.cells _ cs) => cs[off]? | _ => none := by first | (simp only [loadD, tz9, pack, TInfo.isAgg, Bool.false_eq_true, if_false, List.head?_drop]; done) | (simp only [loadD, tz9, pack, TInfo.isAgg, Bool.false_eq_true, if_false, List.head?_drop]; rfl)
theorem so9 : storeE Zs g 9 (.ptr r off) y = match y.cells with | some ys => (match g r with | some (.cells e cs) => if ys.length = 1 ∧ off + ys.length ≤ cs.length then some (.put r (.cells e (splice cs off ys))) else none | _ => none) | _ => none := by simp only [storeE, tz9]; cases y.cells <;> rfl
theorem al9 : allocR Zs 9 = some (.new (.cells 9 [.str ⟨#[]⟩])) := by rfl
theorem mi9 : ifaceD Zs 9 x = some (.iface 9 x) := by first | (simp only [ifaceD, tz9]; done) | (simp only [ifaceD, tz9]; rfl)
theorem ln9 : lenD Zs g #[9] (.str s) = some (.int .i64 s.size) := by simp [lenD, tz9]
theorem ie9 : indexD Zs 9 (.str s) (.int k i) = if 0 ≤ i ∧ i < s.size then some (.int .u8 (byteAt s i.toNat)) else none := by first | (simp only [indexD, tz9]; done) | (simp only [indexD, tz9]; rfl)
theorem sl9 : sliceD Zs g 9 (.str s) lo hi none = match bound lo 0, bound hi s.size with | some l, some h => if 0 ≤ l ∧ l ≤ h ∧ h ≤ s.size then some (.str (s.extract l.toNat h.toNat)) else none | _, _ => none := by first | (simp only [sliceD, tz9]; done) | (simp only [sliceD, tz9]; rfl)
theorem ld21 : loadD Zs g 21 (.at cs) = cs[0]? := by first | (simp only [loadD, tz21, pack, TInfo.isAgg, Bool.false_eq_true, if_false, List.head?_eq_getElem?]; done) | (simp only [loadD, tz21, pack, TInfo.isAgg, Bool.false_eq_true, if_false, List.head?_eq_getElem?]; rfl)
theorem lp21 : loadD Zs g 21 (.ptr r off) = match g r with | some (.cells _ cs) => cs[off]? | _ => none := by first | (simp only [loadD, tz21, pack, TInfo.isAgg, Bool.false_eq_true, if_false, List.head?_drop]; done) | (simp only [loadD, tz21, pack, TInfo.isAgg, Bool.false_eq_true, if_false, List.head?_drop]; rfl)
theorem so21 : storeE Zs g 21 (.ptr r off) y = match y.cells with | some ys => (match g r with | some (.cells e cs) => if ys.length = 1 ∧ off + ys.length ≤ cs.length then some (.put r (.cells e (splice cs off ys))) else none | _ => none) | _ => none := by simp only [storeE, tz21]; cases y.cells <;> rfl
theorem al21 : allocR Zs 21 = some (.new (.cells 21 [.int .i32 0])) := by rfl
theorem mi21 : ifaceD Zs 21 x = some (.iface 21 x) := by first | (simp only [ifaceD, tz21]; done) | (simp only [ifaceD, tz21]; rfl)
theorem ld26 : loadD Zs g 26 (.at cs) = cs[0]? := by first | (simp only [loadD, tz26, pack, TInfo.isAgg, Bool.false_eq_true, if_false, List.head?_eq_getElem?]; done) | (simp only [loadD, tz26, pack, TInfo.isAgg, Bool.false_eq_true, if_false, List.head?_eq_getElem?]; rfl)
theorem lp26 : loadD Zs g 26 (.ptr r off) = match g r with | some (.cells _ cs) => cs[off]? | _ => none := by first | (simp only [loadD, tz26, pack, TInfo.isAgg, Bool.false_eq_true, if_false, List.head?_drop]; done) | (simp only [loadD, tz26, pack, TInfo.isAgg, Bool.false_eq_true, if_false, List.head?_drop]; rfl)
theorem so26 : storeE Zs g 26 (.ptr r off) y = match y.cells with | some ys => (match g r with | some (.cells e cs) => if ys.length = 1 ∧ off + ys.length ≤ cs.length then some (.put r (.cells e (splice cs off ys))) else none | _ => none) | _ => none := by simp only [storeE, tz26]; cases y.cells <;> rfl
theorem al26 : allocR Zs 26 = some (.new (.cells 26 [.nilfunc])) := by rfl
theorem mi26 : ifaceD Zs 26 x = some (.iface 26 x) := by first | (simp only [ifaceD, tz26]; done) | (simp only [ifaceD, tz26]; rfl)
theorem ld27 : loadD Zs g 27 (.at cs) = cs[0]? := by first | (simp only [loadD, tz27, pack, TInfo.isAgg, Bool.false_eq_true, if_false, List.head?_eq_getElem?]; done) | (simp only [loadD, tz27, pack, TInfo.isAgg, Bool.false_eq_true, if_false, List.head?_eq_getElem?]; rfl)
theorem lp27 : loadD Zs g 27 (.ptr r off) = match g r with | some (.cells _ cs) => cs[off]? | _ => none := by first | (simp only [loadD, tz27, pack, TInfo.isAgg, Bool.false_eq_true, if_false, List.head?_drop]; done) | (simp only [loadD, tz27, pack, TInfo.isAgg, Bool.false_eq_true, if_false, List.head?_drop]; rfl)
theorem so27 : storeE Zs g 27 (.ptr r off) y = match y.cells with | some ys => (match g r with | some (.cells e cs) => if ys.length = 1 ∧ off + ys.length ≤ cs.length then some (.put r (.cells e (splice cs off ys))) else none | _ => none) | _ => none := by simp only [storeE, tz27]; cases y.cells <;> rfl
theorem al27 : allocR Zs 27 = some (.new (.cells 27 [.int .i64 0])) := by rfl
theorem mi27 : ifaceD Zs 27 x = some (.iface 27 x) := by first | (simp only [ifaceD, tz27]; done) | (simp only [ifaceD, tz27]; rfl)
theorem ld34 : loadD Zs g 34 (.at cs) = cs[0]? := by first | (simp only [loadD, tz34, pack, TInfo.isAgg, Bool.false_eq_true, if_false, List.head?_eq_getElem?]; done) | (simp only [loadD, tz34, pack, TInfo.isAgg, Bool.false_eq_true, if_false, List.head?_eq_getElem?]; rfl)
theorem lp34 : loadD Zs g 34 (.ptr r off) = match g r with | some (.cells _ cs) => cs[off]? | _ => none := by first | (simp only [loadD, tz34, pack, TInfo.isAgg, Bool.false_eq_true, if_false, List.head?_drop]; done) | (simp only [loadD, tz34, pack, TInfo.isAgg, Bool.false_eq_true, if_false, List.head?_drop]; rfl)
theorem so34 : storeE Zs g 34 (.ptr r off) y = match y.cells with | some ys => (match g r with | some (.cells e cs) => if ys.length = 1 ∧ off + ys.length ≤ cs.length then some (.put r (.cells e (splice cs off ys))) else none | _ => none) | _ => none := by simp only [storeE, tz34]; cases y.cells <;> rfl
theorem al34 : allocR Zs 34 = some (.new (.cells 34 [.sl .nil 0 []])) := by rfl
theorem mi34 : ifaceD Zs 34 x = some (.iface 34 x) := by first | (simp only [ifaceD, tz34]; done) | (simp only [ifaceD, tz34]; rfl)
theorem mk34 {k' : IntKind} {m : Int} : makeSliceR Zs 0 34 (.int k i) (.int k' m) nx = if 0 ≤ i ∧ i ≤ m ∧ ((16 : Nat) : Int) * m ≤ 281474976710656 ∧ m ≤ (big : Int) then some (.row nx 0 i.toNat (some m.toNat) 1, .new (.cells 9 (List.replicate m.toNat (.str ⟨#[]⟩)))) else none := by exact mk_one tz34 tz9 rfl rfl rfl
theorem bs34_1 : buildSliceR Zs 0 34 1 [(0, x)] nx = lit1 x := by exact build1 tz34 tz9 rfl rfl rfl
theorem bs34_2 : buildSliceR Zs 0 34 2 [(0, x), (1, y)] nx = lit2 x y := by exact build2 tz34 tz9 rfl rfl rfl
theorem bs34_3 : buildSliceR Zs 0 34 3 [(0, x), (1, y), (2, x3)] nx = lit3 x y x3 := by exact build3 tz34 tz9 rfl rfl rfl
theorem ln34 : lenD Zs g #[34] (.sl o n cs) = some (.int .i64 n) := by simp [lenD, tz34]
theorem cpn34 : capD Zs #[34] (.sl .nil n cs) = some (.int .i64 0) := by simp [capD, tz34]
theorem cpr34 {kk z0 : Nat} : capD Zs #[34] (.row r off n (some kk) z0) = some (.int .i64 kk) := by simp [capD, tz34]
theorem lr34 {c0 : Option Nat} {z0 : Nat} : lenD Zs g #[34] (.row r off n c0 z0) = some (.int .i64 n) := by simp [lenD, tz34]
theorem ix34 : indexAddrD Zs 34 (.sl o n cs) (.int k i) = if (0 ≤ i ∧ i < n) ∧ 0 < cs.length then some (.at (cs.drop (i.toNat))) else none := by first | (simp only [indexAddrD, tz34, tz9, Nat.mul_one]; done) | (simp only [indexAddrD, tz34, tz9, Nat.mul_one]; rfl)
theorem ir34 {c0 : Option Nat} {z0 : Nat} : indexAddrD Zs 34 (.row r off n c0 z0) (.int k i) = if 0 ≤ i ∧ i < n then some (.ptr r (off + i.toNat)) else none := by first | (simp only [indexAddrD, tz34, tz9, Nat.mul_one]; done) | (simp only [indexAddrD, tz34, tz9, Nat.mul_one]; rfl)
theorem sl34 : sliceD Zs g 34 (.sl o n cs) lo hi none = match bound lo 0, bound hi n with | some l, some h => if 0 ≤ l ∧ l ≤ h ∧ h ≤ n ∧ cs.length = n then some (.sl (cutOwn o) (h.toNat - l.toNat) ((cs.drop (l.toNat)).take ((h.toNat - l.toNat)))) else none | _, _ => none := by simp only [sliceD, tz34, tz9, Nat.mul_one]; cases bound lo 0 <;> cases bound hi n <;> simp only [Nat.mul_one]
theorem en34 : binD Zs .eql 34 (.sl o n cs) (.sl .nil n' cs') = (nilOf o n).map .bool := by simp [binD, isNum, eqT, tz34]
theorem enr34 {c0 : Option Nat} {z0 : Nat} : binD Zs .eql 34 (.row r off n c0 z0) (.sl .nil n' cs') = some (.bool false) := by simp [binD, isNum, eqT, tz34]
theorem nn34 : binD Zs .neq 34 (.sl o n cs) (.sl .nil n' cs') = (nilOf o n).map fun b => .bool (!b) := by simp [binD, isNum, eqT, tz34]
theorem nnr34 {c0 : Option Nat} {z0 : Nat} : binD Zs .neq 34 (.row r off n c0 z0) (.sl .nil n' cs') = some (.bool true) := by simp [binD, isNum, eqT, tz34]
theorem ld35 : loadD Zs g 35 (.at cs) = if 4 ≤ cs.length then some (.agg (cs.take 4)) else none := by first | (simp only [loadD, tz35, pack, TInfo.isAgg, if_true]; done) | (simp only [loadD, tz35, pack, TInfo.isAgg, if_true]; rfl)
theorem lp35 : loadD Zs g 35 (.ptr r off) = match g r with | some (.cells _ cs) => (if 4 ≤ (cs.drop off).length then some (.agg ((cs.drop off).take 4)) else none) | _ => none := by first | (simp only [loadD, tz35, pack, TInfo.isAgg, if_true]; done) | (simp only [loadD, tz35, pack, TInfo.isAgg, if_true]; rfl)
theorem so35 : storeE Zs g 35 (.ptr r off) y = match y.cells with | some ys => (match g r with | some (.cells e cs) => if ys.length = 4 ∧ off + ys.length ≤ cs.length then some (.put r (.cells e (splice cs off ys))) else none | _ => none) | _ => none := by simp only [storeE, tz35]; cases y.cells <;> rfl
theorem al35 : allocR Zs 35 = some (.new (.cells 35 [.sl .nil 0 [], .sl .nil 0 [], .sl .nil 0 [], .sl .nil 0 []])) := by rfl
theorem mi35 : ifaceD Zs 35 x = some (.iface 35 x) := by first | (simp only [ifaceD, tz35]; done) | (simp only [ifaceD, tz35]; rfl)
theorem fa35_0 : fieldAddrD Zs 35 0 (.at cs) = some (.at (cs.drop 0)) := by simp [fieldAddrD, fieldOf, tz35, tz34]
theorem fp35_0 : fieldAddrD Zs 35 0 (.ptr r o') = some (.ptr r (o' + 0)) := by simp [fieldAddrD, fieldOf, tz35, tz34]
theorem fl35_0 : fieldD Zs 35 0 (.agg cs) = cs[0]? := by simp [fieldD, fieldOf, tz35, tz34, partD, TInfo.isAgg]
theorem fa35_1 : fieldAddrD Zs 35 1 (.at cs) = some (.at (cs.drop 1)) := by simp [fieldAddrD, fieldOf, tz35, tz34]
theorem fp35_1 : fieldAddrD Zs 35 1 (.ptr r o') = some (.ptr r (o' + 1)) := by simp [fieldAddrD, fieldOf, tz35, tz34]
theorem fl35_1 : fieldD Zs 35 1 (.agg cs) = cs[1]? := by simp [fieldD, fieldOf, tz35, tz34, partD, TInfo.isAgg]
theorem fa35_2 : fieldAddrD Zs 35 2 (.at cs) = some (.at (cs.drop 2)) := by simp [fieldAddrD, fieldOf, tz35, tz34]
theorem fp35_2 : fieldAddrD Zs 35 2 (.ptr r o') = some (.ptr r (o' + 2)) := by simp [fieldAddrD, fieldOf, tz35, tz34]
theorem fl35_2 : fieldD Zs 35 2 (.agg cs) = cs[2]? := by simp [fieldD, fieldOf, tz35, tz34, partD, TInfo.isAgg]
theorem fa35_3 : fieldAddrD Zs 35 3 (.at cs) = some (.at (cs.drop 3)) := by simp [fieldAddrD, fieldOf, tz35, tz34]
theorem fp35_3 : fieldAddrD Zs 35 3 (.ptr r o') = some (.ptr r (o' + 3)) := by simp [fieldAddrD, fieldOf, tz35, tz34]
theorem fl35_3 : fieldD Zs 35 3 (.agg cs) = cs[3]? := by simp [fieldD, fieldOf, tz35, tz34, partD, TInfo.isAgg]
theorem ld36 : loadD Zs g 36 (.at cs) = if 4 ≤ cs.length then some (.agg (cs.take 4)) else none := by first | (simp only [loadD, tz36, pack, TInfo.isAgg, if_true]; done) | (simp only [loadD, tz36, pack, TInfo.isAgg, if_true]; rfl)
theorem lp36 : loadD Zs g 36 (.ptr r off) = match g r with | some (.cells _ cs) => (if 4 ≤ (cs.drop off).length then some (.agg ((cs.drop off).take 4)) else none) | _ => none := by first | (simp only [loadD, tz36, pack, TInfo.isAgg, if_true]; done) | (simp only [loadD, tz36, pack, TInfo.isAgg, if_true]; rfl)
theorem so36 : storeE Zs g 36 (.ptr r off) y = match y.cells with | some ys => (match g r with | some (.cells e cs) => if ys.length = 4 ∧ off + ys.length ≤ cs.length then some (.put r (.cells e (splice cs off ys))) else none | _ => none) | _ => none := by simp only [storeE, tz36]; cases y.cells <;> rfl
theorem al36 : allocR Zs 36 = some (.new (.cells 36 [.sl .nil 0 [], .sl .nil 0 [], .sl .nil 0 [], .sl .nil 0 []])) := by rfl
theorem mi36 : ifaceD Zs 36 x = some (.iface 36 x) := by first | (simp only [ifaceD, tz36]; done) | (simp only [ifaceD, tz36]; rfl)
theorem fa36_0 : fieldAddrD Zs 36 0 (.at cs) = some (.at (cs.drop 0)) := by simp [fieldAddrD, fieldOf, tz36, tz34]
theorem fp36_0 : fieldAddrD Zs 36 0 (.ptr r o') = some (.ptr r (o' + 0)) := by simp [fieldAddrD, fieldOf, tz36, tz34]
theorem fl36_0 : fieldD Zs 36 0 (.agg cs) = cs[0]? := by simp [fieldD, fieldOf, tz36, tz34, partD, TInfo.isAgg]
theorem fa36_1 : fieldAddrD Zs 36 1 (.at cs) = some (.at (cs.drop 1)) := by simp [fieldAddrD, fieldOf, tz36, tz34]
theorem fp36_1 : fieldAddrD Zs 36 1 (.ptr r o') = some (.ptr r (o' + 1)) := by simp [fieldAddrD, fieldOf, tz36, tz34]
theorem fl36_1 : fieldD Zs 36 1 (.agg cs) = cs[1]? := by simp [fieldD, fieldOf, tz36, tz34, partD, TInfo.isAgg]
theorem fa36_2 : fieldAddrD Zs 36 2 (.at cs) = some (.at (cs.drop 2)) := by simp [fieldAddrD, fieldOf, tz36, tz34]
theorem fp36_2 : fieldAddrD Zs 36 2 (.ptr r o') = some (.ptr r (o' + 2)) := by simp [fieldAddrD, fieldOf, tz36, tz34]
theorem fl36_2 : fieldD Zs 36 2 (.agg cs) = cs[2]? := by simp [fieldD, fieldOf, tz36, tz34, partD, TInfo.isAgg]
theorem fa36_3 : fieldAddrD Zs 36 3 (.at cs) = some (.at (cs.drop 3)) := by simp [fieldAddrD, fieldOf, tz36, tz34]
theorem fp36_3 : fieldAddrD Zs 36 3 (.ptr r o') = some (.ptr r (o' + 3)) := by simp [fieldAddrD, fieldOf, tz36, tz34]
theorem fl36_3 : fieldD Zs 36 3 (.agg cs) = cs[3]? := by simp [fieldD, fieldOf, tz36, tz34, partD, TInfo.isAgg]
theorem ld37 : loadD Zs g 37 (.at cs) = cs[0]? := by first | (simp only [loadD, tz37, pack, TInfo.isAgg, Bool.false_eq_true, if_false, List.head?_eq_getElem?]; done) | (simp only [loadD, tz37, pack, TInfo.isAgg, Bool.false_eq_true, if_false, List.head?_eq_getElem?]; rfl)
theorem lp37 : loadD Zs g 37 (.ptr r off) = match g r with | some (.cells _ cs) => cs[off]? | _ => none := by first | (simp only [loadD, tz37, pack, TInfo.isAgg, Bool.false_eq_true, if_false, List.head?_drop]; done) | (simp only [loadD, tz37, pack, TInfo.isAgg, Bool.false_eq_true, if_false, List.head?_drop]; rfl)
theorem so37 : storeE Zs g 37 (.ptr r off) y = match y.cells with | some ys => (match g r with | some (.cells e cs) => if ys.length = 1 ∧ off + ys.length ≤ cs.length then some (.put r (.cells e (splice cs off ys))) else none | _ => none) | _ => none := by simp only [storeE, tz37]; cases y.cells <;> rfl
theorem al37 : allocR Zs 37 = some (.new (.cells 37 [.sl .nil 0 []])) := by rfl
theorem mi37 : ifaceD Zs 37 x = some (.iface 37 x) := by first | (simp only [ifaceD, tz37]; done) | (simp only [ifaceD, tz37]; rfl)
theorem ln37 : lenD Zs g #[37] (.sl o n cs) = some (.int .i64 n) := by simp [lenD, tz37]
theorem cpn37 : capD Zs #[37] (.sl .nil n cs) = some (.int .i64 0) := by simp [capD, tz37]
theorem cpr37 {kk z0 : Nat} : capD Zs #[37] (.row r off n (some kk) z0) = some (.int .i64 kk) := by simp [capD, tz37]
theorem lr37 {c0 : Option Nat} {z0 : Nat} : lenD Zs g #[37] (.row r off n c0 z0) = some (.int .i64 n) := by simp [lenD, tz37]
theorem ix37 : indexAddrD Zs 37 (.sl o n cs) (.int k i) = if (0 ≤ i ∧ i < n) ∧ 0 < cs.length then some (.at (cs.drop (i.toNat * 4))) else none := by first | (simp only [indexAddrD, tz37, tz44, Nat.mul_one]; done) | (simp only [indexAddrD, tz37, tz44, Nat.mul_one]; rfl)
theorem ir37 {c0 : Option Nat} {z0 : Nat} : indexAddrD Zs 37 (.row r off n c0 z0) (.int k i) = if 0 ≤ i ∧ i < n then some (.ptr r (off + i.toNat * 4)) else none := by first | (simp only [indexAddrD, tz37, tz44, Nat.mul_one]; done) | (simp only [indexAddrD, tz37, tz44, Nat.mul_one]; rfl)
theorem sl37 : sliceD Zs g 37 (.sl o n cs) lo hi none = match bound lo 0, bound hi n with | some l, some h => if 0 ≤ l ∧ l ≤ h ∧ h ≤ n ∧ cs.length = n * 4 then some (.sl (cutOwn o) (h.toNat - l.toNat) ((cs.drop (l.toNat * 4)).take ((h.toNat - l.toNat) * 4))) else none | _, _ => none := by simp only [sliceD, tz37, tz44, Nat.mul_one]; cases bound lo 0 <;> cases bound hi n <;> simp only [Nat.mul_one]
theorem en37 : binD Zs .eql 37 (.sl o n cs) (.sl .nil n' cs') = (nilOf o n).map .bool := by simp [binD, isNum, eqT, tz37]
theorem enr37 {c0 : Option Nat} {z0 : Nat} : binD Zs .eql 37 (.row r off n c0 z0) (.sl .nil n' cs') = some (.bool false) := by simp [binD, isNum, eqT, tz37]
theorem nn37 : binD Zs .neq 37 (.sl o n cs) (.sl .nil n' cs') = (nilOf o n).map fun b => .bool (!b) := by simp [binD, isNum, eqT, tz37]
theorem nnr37 {c0 : Option Nat} {z0 : Nat} : binD Zs .neq 37 (.row r off n c0 z0) (.sl .nil n' cs') = some (.bool true) := by simp [binD, isNum, eqT, tz37]
theorem ld40 : loadD Zs g 40 (.at cs) = cs[0]? := by first | (simp only [loadD, tz40, pack, TInfo.isAgg, Bool.false_eq_true, if_false, List.head?_eq_getElem?]; done) | (simp only [loadD, tz40, pack, TInfo.isAgg, Bool.false_eq_true, if_false, List.head?_eq_getElem?]; rfl)
theorem lp40 : loadD Zs g 40 (.ptr r off) = match g r with | some (.cells _ cs) => cs[off]? | _ => none := by first | (simp only [loadD, tz40, pack, TInfo.isAgg, Bool.false_eq_true, if_false, List.head?_drop]; done) | (simp only [loadD, tz40, pack, TInfo.isAgg, Bool.false_eq_true, if_false, List.head?_drop]; rfl)
theorem so40 : storeE Zs g 40 (.ptr r off) y = match y.cells with | some ys => (match g r with | some (.cells e cs) => if ys.length = 1 ∧ off + ys.length ≤ cs.length then some (.put r (.cells e (splice cs off ys))) else none | _ => none) | _ => none := by simp only [storeE, tz40]; cases y.cells <;> rfl
theorem al40 : allocR Zs 40 = some (.new (.cells 40 [.sl .nil 0 []])) := by rfl
theorem mi40 : ifaceD Zs 40 x = some (.iface 40 x) := by first | (simp only [ifaceD, tz40]; done) | (simp only [ifaceD, tz40]; rfl)
theorem mk40 {k' : IntKind} {m : Int} : makeSliceR Zs 0 40 (.int k i) (.int k' m) nx = if 0 ≤ i ∧ i ≤ m ∧ ((8 : Nat) : Int) * m ≤ 281474976710656 ∧ m ≤ (big : Int) then some (.row nx 0 i.toNat (some m.toNat) 1, .new (.cells 3 (List.replicate m.toNat (.int .i64 0)))) else none := by exact mk_one tz40 tz3 rfl rfl rfl
theorem bs40_1 : buildSliceR Zs 0 40 1 [(0, x)] nx = lit1 x := by exact build1 tz40 tz3 rfl rfl rfl
theorem bs40_2 : buildSliceR Zs 0 40 2 [(0, x), (1, y)] nx = lit2 x y := by exact build2 tz40 tz3 rfl rfl rfl
theorem bs40_3 : buildSliceR Zs 0 40 3 [(0, x), (1, y), (2, x3)] nx = lit3 x y x3 := by exact build3 tz40 tz3 rfl rfl rfl
theorem ln40 : lenD Zs g #[40] (.sl o n cs) = some (.int .i64 n) := by simp [lenD, tz40]
theorem cpn40 : capD Zs #[40] (.sl .nil n cs) = some (.int .i64 0) := by simp [capD, tz40]
theorem cpr40 {kk z0 : Nat} : capD Zs #[40] (.row r off n (some kk) z0) = some (.int .i64 kk) := by simp [capD, tz40]
theorem lr40 {c0 : Option Nat} {z0 : Nat} : lenD Zs g #[40] (.row r off n c0 z0) = some (.int .i64 n) := by simp [lenD, tz40]
theorem ix40 : indexAddrD Zs 40 (.sl o n cs) (.int k i) = if (0 ≤ i ∧ i < n) ∧ 0 < cs.length then some (.at (cs.drop (i.toNat))) else none := by first | (simp only [indexAddrD, tz40, tz3, Nat.mul_one]; done) | (simp only [indexAddrD, tz40, tz3, Nat.mul_one]; rfl)
theorem ir40 {c0 : Option Nat} {z0 : Nat} : indexAddrD Zs 40 (.row r off n c0 z0) (.int k i) = if 0 ≤ i ∧ i < n then some (.ptr r (off + i.toNat)) else none := by first | (simp only [indexAddrD, tz40, tz3, Nat.mul_one]; done) | (simp only [indexAddrD, tz40, tz3, Nat.mul_one]; rfl)
theorem sl40 : sliceD Zs g 40 (.sl o n cs) lo hi none = match bound lo 0, bound hi n with | some l, some h => if 0 ≤ l ∧ l ≤ h ∧ h ≤ n ∧ cs.length = n then some (.sl (cutOwn o) (h.toNat - l.toNat) ((cs.drop (l.toNat)).take ((h.toNat - l.toNat)))) else none | _, _ => none := by simp only [sliceD, tz40, tz3, Nat.mul_one]; cases bound lo 0 <;> cases bound hi n <;> simp only [Nat.mul_one]
theorem en40 : binD Zs .eql 40 (.sl o n cs) (.sl .nil n' cs') = (nilOf o n).map .bool := by simp [binD, isNum, eqT, tz40]
theorem enr40 {c0 : Option Nat} {z0 : Nat} : binD Zs .eql 40 (.row r off n c0 z0) (.sl .nil n' cs') = some (.bool false) := by simp [binD, isNum, eqT, tz40]
theorem nn40 : binD Zs .neq 40 (.sl o n cs) (.sl .nil n' cs') = (nilOf o n).map fun b => .bool (!b) := by simp [binD, isNum, eqT, tz40]
theorem nnr40 {c0 : Option Nat} {z0 : Nat} : binD Zs .neq 40 (.row r off n c0 z0) (.sl .nil n' cs') = some (.bool true) := by simp [binD, isNum, eqT, tz40]
theorem ld43 : loadD Zs g 43 (.at cs) = if 4 ≤ cs.length then some (.agg (cs.take 4)) else none := by first | (simp only [loadD, tz43, pack, TInfo.isAgg, if_true]; done) | (simp only [loadD, tz43, pack, TInfo.isAgg, if_true]; rfl)
theorem lp43 : loadD Zs g 43 (.ptr r off) = match g r with | some (.cells _ cs) => (if 4 ≤ (cs.drop off).length then some (.agg ((cs.drop off).take 4)) else none) | _ => none := by first | (simp only [loadD, tz43, pack, TInfo.isAgg, if_true]; done) | (simp only [loadD, tz43, pack, TInfo.isAgg, if_true]; rfl)
theorem so43 : storeE Zs g 43 (.ptr r off) y = match y.cells with | some ys => (match g r with | some (.cells e cs) => if ys.length = 4 ∧ off + ys.length ≤ cs.length then some (.put r (.cells e (splice cs off ys))) else none | _ => none) | _ => none := by simp only [storeE, tz43]; cases y.cells <;> rfl
theorem al43 : allocR Zs 43 = some (.new (.cells 43 [.int .i64 0, .int .i64 0, .int .i64 0, .str ⟨#[]⟩])) := by rfl
theorem mi43 : ifaceD Zs 43 x = some (.iface 43 x) := by first | (simp only [ifaceD, tz43]; done) | (simp only [ifaceD, tz43]; rfl)
theorem fa43_0 : fieldAddrD Zs 43 0 (.at cs) = some (.at (cs.drop 0)) := by simp [fieldAddrD, fieldOf, tz43, tz3]
theorem fp43_0 : fieldAddrD Zs 43 0 (.ptr r o') = some (.ptr r (o' + 0)) := by simp [fieldAddrD, fieldOf, tz43, tz3]
theorem fl43_0 : fieldD Zs 43 0 (.agg cs) = cs[0]? := by simp [fieldD, fieldOf, tz43, tz3, partD, TInfo.isAgg]
theorem fa43_1 : fieldAddrD Zs 43 1 (.at cs) = some (.at (cs.drop 1)) := by simp [fieldAddrD, fieldOf, tz43, tz3]
theorem fp43_1 : fieldAddrD Zs 43 1 (.ptr r o') = some (.ptr r (o' + 1)) := by simp [fieldAddrD, fieldOf, tz43, tz3]
theorem fl43_1 : fieldD Zs 43 1 (.agg cs) = cs[1]? := by simp [fieldD, fieldOf, tz43, tz3, partD, TInfo.isAgg]
theorem fa43_2 : fieldAddrD Zs 43 2 (.at cs) = some (.at (cs.drop 2)) := by simp [fieldAddrD, fieldOf, tz43, tz3]
theorem fp43_2 : fieldAddrD Zs 43 2 (.ptr r o') = some (.ptr r (o' + 2)) := by simp [fieldAddrD, fieldOf, tz43, tz3]
theorem fl43_2 : fieldD Zs 43 2 (.agg cs) = cs[2]? := by simp [fieldD, fieldOf, tz43, tz3, partD, TInfo.isAgg]
theorem fa43_3 : fieldAddrD Zs 43 3 (.at cs) = some (.at (cs.drop 3)) := by simp [fieldAddrD, fieldOf, tz43, tz9]
theorem fp43_3 : fieldAddrD Zs 43 3 (.ptr r o') = some (.ptr r (o' + 3)) := by simp [fieldAddrD, fieldOf, tz43, tz9]
theorem fl43_3 : fieldD Zs 43 3 (.agg cs) = cs[3]? := by simp [fieldD, fieldOf, tz43, tz9, partD, TInfo.isAgg]
theorem ld44 : loadD Zs g 44 (.at cs) = if 4 ≤ cs.length then some (.agg (cs.take 4)) else none := by first | (simp only [loadD, tz44, pack, TInfo.isAgg, if_true]; done) | (simp only [loadD, tz44, pack, TInfo.isAgg, if_true]; rfl)
theorem lp44 : loadD Zs g 44 (.ptr r off) = match g r with | some (.cells _ cs) => (if 4 ≤ (cs.drop off).length then some (.agg ((cs.drop off).take 4)) else none) | _ => none := by first | (simp only [loadD, tz44, pack, TInfo.isAgg, if_true]; done) | (simp only [loadD, tz44, pack, TInfo.isAgg, if_true]; rfl)
theorem so44 : storeE Zs g 44 (.ptr r off) y = match y.cells with | some ys => (match g r with | some (.cells e cs) => if ys.length = 4 ∧ off + ys.length ≤ cs.length then some (.put r (.cells e (splice cs off ys))) else none | _ => none) | _ => none := by simp only [storeE, tz44]; cases y.cells <;> rfl
theorem al44 : allocR Zs 44 = some (.new (.cells 44 [.int .i64 0, .int .i64 0, .int .i64 0, .str ⟨#[]⟩])) := by rfl
theorem mi44 : ifaceD Zs 44 x = some (.iface 44 x) := by first | (simp only [ifaceD, tz44]; done) | (simp only [ifaceD, tz44]; rfl)
theorem fa44_0 : fieldAddrD Zs 44 0 (.at cs) = some (.at (cs.drop 0)) := by simp [fieldAddrD, fieldOf, tz44, tz3]
theorem fp44_0 : fieldAddrD Zs 44 0 (.ptr r o') = some (.ptr r (o' + 0)) := by simp [fieldAddrD, fieldOf, tz44, tz3]
theorem fl44_0 : fieldD Zs 44 0 (.agg cs) = cs[0]? := by simp [fieldD, fieldOf, tz44, tz3, partD, TInfo.isAgg]
theorem fa44_1 : fieldAddrD Zs 44 1 (.at cs) = some (.at (cs.drop 1)) := by simp [fieldAddrD, fieldOf, tz44, tz3]
theorem fp44_1 : fieldAddrD Zs 44 1 (.ptr r o') = some (.ptr r (o' + 1)) := by simp [fieldAddrD, fieldOf, tz44, tz3]
theorem fl44_1 : fieldD Zs 44 1 (.agg cs) = cs[1]? := by simp [fieldD, fieldOf, tz44, tz3, partD, TInfo.isAgg]
theorem fa44_2 : fieldAddrD Zs 44 2 (.at cs) = some (.at (cs.drop 2)) := by simp [fieldAddrD, fieldOf, tz44, tz3]
theorem fp44_2 : fieldAddrD Zs 44 2 (.ptr r o') = some (.ptr r (o' + 2)) := by simp [fieldAddrD, fieldOf, tz44, tz3]
theorem fl44_2 : fieldD Zs 44 2 (.agg cs) = cs[2]? := by simp [fieldD, fieldOf, tz44, tz3, partD, TInfo.isAgg]
theorem fa44_3 : fieldAddrD Zs 44 3 (.at cs) = some (.at (cs.drop 3)) := by simp [fieldAddrD, fieldOf, tz44, tz9]
theorem fp44_3 : fieldAddrD Zs 44 3 (.ptr r o') = some (.ptr r (o' + 3)) := by simp [fieldAddrD, fieldOf, tz44, tz9]
theorem fl44_3 : fieldD Zs 44 3 (.agg cs) = cs[3]? := by simp [fieldD, fieldOf, tz44, tz9, partD, TInfo.isAgg]
theorem ld49 : loadD Zs g 49 (.at cs) = cs[0]? := by first | (simp only [loadD, tz49, pack, TInfo.isAgg, Bool.false_eq_true, if_false, List.head?_eq_getElem?]; done) | (simp only [loadD, tz49, pack, TInfo.isAgg, Bool.false_eq_true, if_false, List.head?_eq_getElem?]; rfl)
theorem lp49 : loadD Zs g 49 (.ptr r off) = match g r with | some (.cells _ cs) => cs[off]? | _ => none := by first | (simp only [loadD, tz49, pack, TInfo.isAgg, Bool.false_eq_true, if_false, List.head?_drop]; done) | (simp only [loadD, tz49, pack, TInfo.isAgg, Bool.false_eq_true, if_false, List.head?_drop]; rfl)
theorem so49 : storeE Zs g 49 (.ptr r off) y = match y.cells with | some ys => (match g r with | some (.cells e cs) => if ys.length = 1 ∧ off + ys.length ≤ cs.length then some (.put r (.cells e (splice cs off ys))) else none | _ => none) | _ => none := by simp only [storeE, tz49]; cases y.cells <;> rfl
theorem al49 : allocR Zs 49 = some (.new (.cells 49 [.sl .nil 0 []])) := by rfl
theorem mi49 : ifaceD Zs 49 x = some (.iface 49 x) := by first | (simp only [ifaceD, tz49]; done) | (simp only [ifaceD, tz49]; rfl)
theorem mk49 {k' : IntKind} {m : Int} : makeSliceR Zs 0 49 (.int k i) (.int k' m) nx = if 0 ≤ i ∧ i ≤ m ∧ ((1 : Nat) : Int) * m ≤ 281474976710656 ∧ m ≤ (big : Int) then some (.row nx 0 i.toNat (some m.toNat) 1, .new (.cells 5 (List.replicate m.toNat (.int .u8 0)))) else none := by exact mk_one tz49 tz5 rfl rfl rfl
theorem bs49_1 : buildSliceR Zs 0 49 1 [(0, x)] nx = lit1 x := by exact build1 tz49 tz5 rfl rfl rfl
theorem bs49_2 : buildSliceR Zs 0 49 2 [(0, x), (1, y)] nx = lit2 x y := by exact build2 tz49 tz5 rfl rfl rfl
theorem bs49_3 : buildSliceR Zs 0 49 3 [(0, x), (1, y), (2, x3)] nx = lit3 x y x3 := by exact build3 tz49 tz5 rfl rfl rfl
theorem ln49 : lenD Zs g #[49] (.sl o n cs) = some (.int .i64 n) := by simp [lenD, tz49]
theorem cpn49 : capD Zs #[49] (.sl .nil n cs) = some (.int .i64 0) := by simp [capD, tz49]
theorem cpr49 {kk z0 : Nat} : capD Zs #[49] (.row r off n (some kk) z0) = some (.int .i64 kk) := by simp [capD, tz49]
theorem lr49 {c0 : Option Nat} {z0 : Nat} : lenD Zs g #[49] (.row r off n c0 z0) = some (.int .i64 n) := by simp [lenD, tz49]
theorem ix49 : indexAddrD Zs 49 (.sl o n cs) (.int k i) = if (0 ≤ i ∧ i < n) ∧ 0 < cs.length then some (.at (cs.drop (i.toNat))) else none := by first | (simp only [indexAddrD, tz49, tz5, Nat.mul_one]; done) | (simp only [indexAddrD, tz49, tz5, Nat.mul_one]; rfl)
theorem ir49 {c0 : Option Nat} {z0 : Nat} : indexAddrD Zs 49 (.row r off n c0 z0) (.int k i) = if 0 ≤ i ∧ i < n then some (.ptr r (off + i.toNat)) else none := by first | (simp only [indexAddrD, tz49, tz5, Nat.mul_one]; done) | (simp only [indexAddrD, tz49, tz5, Nat.mul_one]; rfl)
theorem sl49 : sliceD Zs g 49 (.sl o n cs) lo hi none = match bound lo 0, bound hi n with | some l, some h => if 0 ≤ l ∧ l ≤ h ∧ h ≤ n ∧ cs.length = n then some (.sl (cutOwn o) (h.toNat - l.toNat) ((cs.drop (l.toNat)).take ((h.toNat - l.toNat)))) else none | _, _ => none := by simp only [sliceD, tz49, tz5, Nat.mul_one]; cases bound lo 0 <;> cases bound hi n <;> simp only [Nat.mul_one]
theorem en49 : binD Zs .eql 49 (.sl o n cs) (.sl .nil n' cs') = (nilOf o n).map .bool := by simp [binD, isNum, eqT, tz49]
theorem enr49 {c0 : Option Nat} {z0 : Nat} : binD Zs .eql 49 (.row r off n c0 z0) (.sl .nil n' cs') = some (.bool false) := by simp [binD, isNum, eqT, tz49]
theorem nn49 : binD Zs .neq 49 (.sl o n cs) (.sl .nil n' cs') = (nilOf o n).map fun b => .bool (!b) := by simp [binD, isNum, eqT, tz49]
theorem nnr49 {c0 : Option Nat} {z0 : Nat} : binD Zs .neq 49 (.row r off n c0 z0) (.sl .nil n' cs') = some (.bool true) := by simp [binD, isNum, eqT, tz49]
theorem ld56 : loadD Zs g 56 (.at cs) = cs[0]? := by first | (simp only [loadD, tz56, pack, TInfo.isAgg, Bool.false_eq_true, if_false, List.head?_eq_getElem?]; done) | (simp only [loadD, tz56, pack, TInfo.isAgg, Bool.false_eq_true, if_false, List.head?_eq_getElem?]; rfl)
theorem lp56 : loadD Zs g 56 (.ptr r off) = match g r with | some (.cells _ cs) => cs[off]? | _ => none := by first | (simp only [loadD, tz56, pack, TInfo.isAgg, Bool.false_eq_true, if_false, List.head?_drop]; done) | (simp only [loadD, tz56, pack, TInfo.isAgg, Bool.false_eq_true, if_false, List.head?_drop]; rfl)
theorem so56 : storeE Zs g 56 (.ptr r off) y = match y.cells with | some ys => (match g r with | some (.cells e cs) => if ys.length = 1 ∧ off + ys.length ≤ cs.length then some (.put r (.cells e (splice cs off ys))) else none | _ => none) | _ => none := by simp only [storeE, tz56]; cases y.cells <;> rfl
theorem al56 : allocR Zs 56 = some (.new (.cells 56 [.sl .nil 0 []])) := by rfl
theorem mi56 : ifaceD Zs 56 x = some (.iface 56 x) := by first | (simp only [ifaceD, tz56]; done) | (simp only [ifaceD, tz56]; rfl)
theorem mk56 {k' : IntKind} {m : Int} : makeSliceR Zs 0 56 (.int k i) (.int k' m) nx = if 0 ≤ i ∧ i ≤ m ∧ ((16 : Nat) : Int) * m ≤ 281474976710656 ∧ m ≤ (big : Int) then some (.row nx 0 i.toNat (some m.toNat) 1, .new (.cells 9 (List.replicate m.toNat (.str ⟨#[]⟩)))) else none := by exact mk_one tz56 tz9 rfl rfl rfl
theorem bs56_1 : buildSliceR Zs 0 56 1 [(0, x)] nx = lit1 x := by exact build1 tz56 tz9 rfl rfl rfl
theorem bs56_2 : buildSliceR Zs 0 56 2 [(0, x), (1, y)] nx = lit2 x y := by exact build2 tz56 tz9 rfl rfl rfl
theorem bs56_3 : buildSliceR Zs 0 56 3 [(0, x), (1, y), (2, x3)] nx = lit3 x y x3 := by exact build3 tz56 tz9 rfl rfl rfl
theorem ln56 : lenD Zs g #[56] (.sl o n cs) = some (.int .i64 n) := by simp [lenD, tz56]
theorem cpn56 : capD Zs #[56] (.sl .nil n cs) = some (.int .i64 0) := by simp [capD, tz56]
theorem cpr56 {kk z0 : Nat} : capD Zs #[56] (.row r off n (some kk) z0) = some (.int .i64 kk) := by simp [capD, tz56]
theorem lr56 {c0 : Option Nat} {z0 : Nat} : lenD Zs g #[56] (.row r off n c0 z0) = some (.int .i64 n) := by simp [lenD, tz56]
theorem ix56 : indexAddrD Zs 56 (.sl o n cs) (.int k i) = if (0 ≤ i ∧ i < n) ∧ 0 < cs.length then some (.at (cs.drop (i.toNat))) else none := by first | (simp only [indexAddrD, tz56, tz9, Nat.mul_one]; done) | (simp only [indexAddrD, tz56, tz9, Nat.mul_one]; rfl)
theorem ir56 {c0 : Option Nat} {z0 : Nat} : indexAddrD Zs 56 (.row r off n c0 z0) (.int k i) = if 0 ≤ i ∧ i < n then some (.ptr r (off + i.toNat)) else none := by first | (simp only [indexAddrD, tz56, tz9, Nat.mul_one]; done) | (simp only [indexAddrD, tz56, tz9, Nat.mul_one]; rfl)
theorem sl56 : sliceD Zs g 56 (.sl o n cs) lo hi none = match bound lo 0, bound hi n with | some l, some h => if 0 ≤ l ∧ l ≤ h ∧ h ≤ n ∧ cs.length = n then some (.sl (cutOwn o) (h.toNat - l.toNat) ((cs.drop (l.toNat)).take ((h.toNat - l.toNat)))) else none | _, _ => none := by simp only [sliceD, tz56, tz9, Nat.mul_one]; cases bound lo 0 <;> cases bound hi n <;> simp only [Nat.mul_one]
theorem en56 : binD Zs .eql 56 (.sl o n cs) (.sl .nil n' cs') = (nilOf o n).map .bool := by simp [binD, isNum, eqT, tz56]
theorem enr56 {c0 : Option Nat} {z0 : Nat} : binD Zs .eql 56 (.row r off n c0 z0) (.sl .nil n' cs') = some (.bool false) := by simp [binD, isNum, eqT, tz56]
theorem nn56 : binD Zs .neq 56 (.sl o n cs) (.sl .nil n' cs') = (nilOf o n).map fun b => .bool (!b) := by simp [binD, isNum, eqT, tz56]
theorem nnr56 {c0 : Option Nat} {z0 : Nat} : binD Zs .neq 56 (.row r off n c0 z0) (.sl .nil n' cs') = some (.bool true) := by simp [binD, isNum, eqT, tz56]
theorem ld57 : loadD Zs g 57 (.at cs) = if 0 ≤ cs.length then some (.agg (cs.take 0)) else none := by first | (simp only [loadD, tz57, pack, TInfo.isAgg, if_true]; done) | (simp only [loadD, tz57, pack, TInfo.isAgg, if_true]; rfl)
theorem lp57 : loadD Zs g 57 (.ptr r off) = match g r with | some (.cells _ cs) => (if 0 ≤ (cs.drop off).length then some (.agg ((cs.drop off).take 0)) else none) | _ => none := by first | (simp only [loadD, tz57, pack, TInfo.isAgg, if_true]; done) | (simp only [loadD, tz57, pack, TInfo.isAgg, if_true]; rfl)
theorem so57 : storeE Zs g 57 (.ptr r off) y = match y.cells with | some ys => (match g r with | some (.cells e cs) => if ys.length = 0 ∧ off + ys.length ≤ cs.length then some (.put r (.cells e (splice cs off ys))) else none | _ => none) | _ => none := by simp only [storeE, tz57]; cases y.cells <;> rfl
theorem al57 : allocR Zs 57 = some (.new (.cells 57 [])) := by rfl
theorem mi57 : ifaceD Zs 57 x = some (.iface 57 x) := by first | (simp only [ifaceD, tz57]; done) | (simp only [ifaceD, tz57]; rfl)
theorem ld58 : loadD Zs g 58 (.at cs) = if 0 ≤ cs.length then some (.agg (cs.take 0)) else none := by first | (simp only [loadD, tz58, pack, TInfo.isAgg, if_true]; done) | (simp only [loadD, tz58, pack, TInfo.isAgg, if_true]; rfl)
theorem lp58 : loadD Zs g 58 (.ptr r off) = match g r with | some (.cells _ cs) => (if 0 ≤ (cs.drop off).length then some (.agg ((cs.drop off).take 0)) else none) | _ => none := by first | (simp only [loadD, tz58, pack, TInfo.isAgg, if_true]; done) | (simp only [loadD, tz58, pack, TInfo.isAgg, if_true]; rfl)
theorem so58 : storeE Zs g 58 (.ptr r off) y = match y.cells with | some ys => (match g r with | some (.cells e cs) => if ys.length = 0 ∧ off + ys.length ≤ cs.length then some (.put r (.cells e (splice cs off ys))) else none | _ => none) | _ => none := by simp only [storeE, tz58]; cases y.cells <;> rfl
theorem al58 : allocR Zs 58 = some (.new (.cells 58 [])) := by rfl
theorem mi58 : ifaceD Zs 58 x = some (.iface 58 x) := by first | (simp only [ifaceD, tz58]; done) | (simp only [ifaceD, tz58]; rfl)
theorem ld59 : loadD Zs g 59 (.at cs) = if 0 ≤ cs.length then some (.agg (cs.take 0)) else none := by first | (simp only [loadD, tz59, pack, TInfo.isAgg, if_true]; done) | (simp only [loadD, tz59, pack, TInfo.isAgg, if_true]; rfl)
theorem lp59 : loadD Zs g 59 (.ptr r off) = match g r with | some (.cells _ cs) => (if 0 ≤ (cs.drop off).length then some (.agg ((cs.drop off).take 0)) else none) | _ => none := by first | (simp only [loadD, tz59, pack, TInfo.isAgg, if_true]; done) | (simp only [loadD, tz59, pack, TInfo.isAgg, if_true]; rfl)
theorem so59 : storeE Zs g 59 (.ptr r off) y = match y.cells with | some ys => (match g r with | some (.cells e cs) => if ys.length = 0 ∧ off + ys.length ≤ cs.length then some (.put r (.cells e (splice cs off ys))) else none | _ => none) | _ => none := by simp only [storeE, tz59]; cases y.cells <;> rfl
theorem al59 : allocR Zs 59 = some (.new (.cells 59 [])) := by rfl
theorem mi59 : ifaceD Zs 59 x = some (.iface 59 x) := by first | (simp only [ifaceD, tz59]; done) | (simp only [ifaceD, tz59]; rfl)
theorem ld60 : loadD Zs g 60 (.at cs) = if 0 ≤ cs.length then some (.agg (cs.take 0)) else none := by first | (simp only [loadD, tz60, pack, TInfo.isAgg, if_true]; done) | (simp only [loadD, tz60, pack, TInfo.isAgg, if_true]; rfl)
theorem lp60 : loadD Zs g 60 (.ptr r off) = match g r with | some (.cells _ cs) => (if 0 ≤ (cs.drop off).length then some (.agg ((cs.drop off).take 0)) else none) | _ => none := by first | (simp only [loadD, tz60, pack, TInfo.isAgg, if_true]; done) | (simp only [loadD, tz60, pack, TInfo.isAgg, if_true]; rfl)
theorem so60 : storeE Zs g 60 (.ptr r off) y = match y.cells with | some ys => (match g r with | some (.cells e cs) => if ys.length = 0 ∧ off + ys.length ≤ cs.length then some (.put r (.cells e (splice cs off ys))) else none | _ => none) | _ => none := by simp only [storeE, tz60]; cases y.cells <;> rfl
theorem al60 : allocR Zs 60 = some (.new (.cells 60 [])) := by rfl
theorem mi60 : ifaceD Zs 60 x = some (.iface 60 x) := by first | (simp only [ifaceD, tz60]; done) | (simp only [ifaceD, tz60]; rfl)
theorem ld61 : loadD Zs g 61 (.at cs) = cs[0]? := by first | (simp only [loadD, tz61, pack, TInfo.isAgg, Bool.false_eq_true, if_false, List.head?_eq_getElem?]; done) | (simp only [loadD, tz61, pack, TInfo.isAgg, Bool.false_eq_true, if_false, List.head?_eq_getElem?]; rfl)
theorem lp61 : loadD Zs g 61 (.ptr r off) = match g r with | some (.cells _ cs) => cs[off]? | _ => none := by first | (simp only [loadD, tz61, pack, TInfo.isAgg, Bool.false_eq_true, if_false, List.head?_drop]; done) | (simp only [loadD, tz61, pack, TInfo.isAgg, Bool.false_eq_true, if_false, List.head?_drop]; rfl)
theorem so61 : storeE Zs g 61 (.ptr r off) y = match y.cells with | some ys => (match g r with | some (.cells e cs) => if ys.length = 1 ∧ off + ys.length ≤ cs.length then some (.put r (.cells e (splice cs off ys))) else none | _ => none) | _ => none := by simp only [storeE, tz61]; cases y.cells <;> rfl
theorem al61 : allocR Zs 61 = some (.new (.cells 61 [.sl .nil 0 []])) := by rfl
theorem mi61 : ifaceD Zs 61 x = some (.iface 61 x) := by first | (simp only [ifaceD, tz61]; done) | (simp only [ifaceD, tz61]; rfl)
theorem mk61 {k' : IntKind} {m : Int} : makeSliceR Zs 0 61 (.int k i) (.int k' m) nx = if 0 ≤ i ∧ i ≤ m ∧ ((16 : Nat) : Int) * m ≤ 281474976710656 ∧ m ≤ (big : Int) then some (.row nx 0 i.toNat (some m.toNat) 1, .new (.cells 63 (List.replicate m.toNat (.nilif)))) else none := by exact mk_one tz61 tz63 rfl rfl rfl
theorem bs61_1 : buildSliceR Zs 0 61 1 [(0, x)] nx = lit1 x := by exact build1 tz61 tz63 rfl rfl rfl
theorem bs61_2 : buildSliceR Zs 0 61 2 [(0, x), (1, y)] nx = lit2 x y := by exact build2 tz61 tz63 rfl rfl rfl
theorem bs61_3 : buildSliceR Zs 0 61 3 [(0, x), (1, y), (2, x3)] nx = lit3 x y x3 := by exact build3 tz61 tz63 rfl rfl rfl
theorem ln61 : lenD Zs g #[61] (.sl o n cs) = some (.int .i64 n) := by simp [lenD, tz61]
theorem cpn61 : capD Zs #[61] (.sl .nil n cs) = some (.int .i64 0) := by simp [capD, tz61]
theorem cpr61 {kk z0 : Nat} : capD Zs #[61] (.row r off n (some kk) z0) = some (.int .i64 kk) := by simp [capD, tz61]
theorem lr61 {c0 : Option Nat} {z0 : Nat} : lenD Zs g #[61] (.row r off n c0 z0) = some (.int .i64 n) := by simp [lenD, tz61]
theorem ix61 : indexAddrD Zs 61 (.sl o n cs) (.int k i) = if (0 ≤ i ∧ i < n) ∧ 0 < cs.length then some (.at (cs.drop (i.toNat))) else none := by first | (simp only [indexAddrD, tz61, tz63, Nat.mul_one]; done) | (simp only [indexAddrD, tz61, tz63, Nat.mul_one]; rfl)
theorem ir61 {c0 : Option Nat} {z0 : Nat} : indexAddrD Zs 61 (.row r off n c0 z0) (.int k i) = if 0 ≤ i ∧ i < n then some (.ptr r (off + i.toNat)) else none := by first | (simp only [indexAddrD, tz61, tz63, Nat.mul_one]; done) | (simp only [indexAddrD, tz61, tz63, Nat.mul_one]; rfl)
theorem sl61 : sliceD Zs g 61 (.sl o n cs) lo hi none = match bound lo 0, bound hi n with | some l, some h => if 0 ≤ l ∧ l ≤ h ∧ h ≤ n ∧ cs.length = n then some (.sl (cutOwn o) (h.toNat - l.toNat) ((cs.drop (l.toNat)).take ((h.toNat - l.toNat)))) else none | _, _ => none := by simp only [sliceD, tz61, tz63, Nat.mul_one]; cases bound lo 0 <;> cases bound hi n <;> simp only [Nat.mul_one]
theorem en61 : binD Zs .eql 61 (.sl o n cs) (.sl .nil n' cs') = (nilOf o n).map .bool := by simp [binD, isNum, eqT, tz61]
theorem enr61 {c0 : Option Nat} {z0 : Nat} : binD Zs .eql 61 (.row r off n c0 z0) (.sl .nil n' cs') = some (.bool false) := by simp [binD, isNum, eqT, tz61]
theorem nn61 : binD Zs .neq 61 (.sl o n cs) (.sl .nil n' cs') = (nilOf o n).map fun b => .bool (!b) := by simp [binD, isNum, eqT, tz61]
theorem nnr61 {c0 : Option Nat} {z0 : Nat} : binD Zs .neq 61 (.row r off n c0 z0) (.sl .nil n' cs') = some (.bool true) := by simp [binD, isNum, eqT, tz61]
theorem ld62 : loadD Zs g 62 (.at cs) = cs[0]? := by first | (simp only [loadD, tz62, pack, TInfo.isAgg, Bool.false_eq_true, if_false, List.head?_eq_getElem?]; done) | (simp only [loadD, tz62, pack, TInfo.isAgg, Bool.false_eq_true, if_false, List.head?_eq_getElem?]; rfl)
theorem lp62 : loadD Zs g 62 (.ptr r off) = match g r with | some (.cells _ cs) => cs[off]? | _ => none := by first | (simp only [loadD, tz62, pack, TInfo.isAgg, Bool.false_eq_true, if_false, List.head?_drop]; done) | (simp only [loadD, tz62, pack, TInfo.isAgg, Bool.false_eq_true, if_false, List.head?_drop]; rfl)
theorem so62 : storeE Zs g 62 (.ptr r off) y = match y.cells with | some ys => (match g r with | some (.cells e cs) => if ys.length = 1 ∧ off + ys.length ≤ cs.length then some (.put r (.cells e (splice cs off ys))) else none | _ => none) | _ => none := by simp only [storeE, tz62]; cases y.cells <;> rfl
theorem al62 : allocR Zs 62 = some (.new (.cells 62 [.nilif])) := by rfl
theorem ld63 : loadD Zs g 63 (.at cs) = cs[0]? := by first | (simp only [loadD, tz63, pack, TInfo.isAgg, Bool.false_eq_true, if_false, List.head?_eq_getElem?]; done) | (simp only [loadD, tz63, pack, TInfo.isAgg, Bool.false_eq_true, if_false, List.head?_eq_getElem?]; rfl)
theorem lp63 : loadD Zs g 63 (.ptr r off) = match g r with | some (.cells _ cs) => cs[off]? | _ => none := by first | (simp only [loadD, tz63, pack, TInfo.isAgg, Bool.false_eq_true, if_false, List.head?_drop]; done) | (simp only [loadD, tz63, pack, TInfo.isAgg, Bool.false_eq_true, if_false, List.head?_drop]; rfl)
theorem so63 : storeE Zs g 63 (.ptr r off) y = match y.cells with | some ys => (match g r with | some (.cells e cs) => if ys.length = 1 ∧ off + ys.length ≤ cs.length then some (.put r (.cells e (splice cs off ys))) else none | _ => none) | _ => none := by simp only [storeE, tz63]; cases y.cells <;> rfl
theorem al63 : allocR Zs 63 = some (.new (.cells 63 [.nilif])) := by rfl
theorem ld69 : loadD Zs g 69 (.at cs) = if 20 ≤ cs.length then some (.agg (cs.take 20)) else none := by first | (simp only [loadD, tz69, pack, TInfo.isAgg, if_true]; done) | (simp only [loadD, tz69, pack, TInfo.isAgg, if_true]; rfl)
theorem lp69 : loadD Zs g 69 (.ptr r off) = match g r with | some (.cells _ cs) => (if 20 ≤ (cs.drop off).length then some (.agg ((cs.drop off).take 20)) else none) | _ => none := by first | (simp only [loadD, tz69, pack, TInfo.isAgg, if_true]; done) | (simp only [loadD, tz69, pack, TInfo.isAgg, if_true]; rfl)
theorem so69 : storeE Zs g 69 (.ptr r off) y = match y.cells with | some ys => (match g r with | some (.cells e cs) => if ys.length = 20 ∧ off + ys.length ≤ cs.length then some (.put r (.cells e (splice cs off ys))) else none | _ => none) | _ => none := by simp only [storeE, tz69]; cases y.cells <;> rfl
theorem al69 : allocR Zs 69 = some (.new (.cells 69 [.str ⟨#[]⟩, .str ⟨#[]⟩, .str ⟨#[]⟩, .str ⟨#[]⟩, .str ⟨#[]⟩, .str ⟨#[]⟩, .str ⟨#[]⟩, .str ⟨#[]⟩, .str ⟨#[]⟩, .str ⟨#[]⟩, .str ⟨#[]⟩, .str ⟨#[]⟩, .str ⟨#[]⟩, .str ⟨#[]⟩, .str ⟨#[]⟩, .str ⟨#[]⟩, .str ⟨#[]⟩, .str ⟨#[]⟩, .str ⟨#[]⟩, .str ⟨#[]⟩])) := by rfl
theorem mi69 : ifaceD Zs 69 x = some (.iface 69 x) := by first | (simp only [ifaceD, tz69]; done) | (simp only [ifaceD, tz69]; rfl)
theorem ln69 : lenD Zs g #[69] x = some (.int .i64 20) := by cases x <;> simp [lenD, tz69]
theorem ix69 : indexAddrD Zs 69 (.at cs) (.int k i) = if 0 ≤ i ∧ i < (20 : Nat) then some (.at (cs.drop (i.toNat))) else none := by first | (simp only [indexAddrD, tz69, tz9, Nat.mul_one]; done) | (simp only [indexAddrD, tz69, tz9, Nat.mul_one]; rfl)
theorem ir69 : indexAddrD Zs 69 (.ptr r off) (.int k i) = if 0 ≤ i ∧ i < (20 : Nat) then some (.ptr r (off + i.toNat)) else none := by first | (simp only [indexAddrD, tz69, tz9, Nat.mul_one]; done) | (simp only [indexAddrD, tz69, tz9, Nat.mul_one]; rfl)
theorem ie69 : indexD Zs 69 (.agg cs) (.int k i) = if 0 ≤ i ∧ i < (20 : Nat) then cs[i.toNat]? else none := by first | (simp only [indexD, tz69, tz9, Nat.mul_one, partD, TInfo.isAgg, Bool.false_eq_true, if_false]; done) | (simp only [indexD, tz69, tz9, Nat.mul_one, partD, TInfo.isAgg, Bool.false_eq_true, if_false]; rfl)
theorem ld71 : loadD Zs g 71 (.at cs) = if 10 ≤ cs.length then some (.agg (cs.take 10)) else none := by first | (simp only [loadD, tz71, pack, TInfo.isAgg, if_true]; done) | (simp only [loadD, tz71, pack, TInfo.isAgg, if_true]; rfl)
theorem lp71 : loadD Zs g 71 (.ptr r off) = match g r with | some (.cells _ cs) => (if 10 ≤ (cs.drop off).length then some (.agg ((cs.drop off).take 10)) else none) | _ => none := by first | (simp only [loadD, tz71, pack, TInfo.isAgg, if_true]; done) | (simp only [loadD, tz71, pack, TInfo.isAgg, if_true]; rfl)
theorem so71 : storeE Zs g 71 (.ptr r off) y = match y.cells with | some ys => (match g r with | some (.cells e cs) => if ys.length = 10 ∧ off + ys.length ≤ cs.length then some (.put r (.cells e (splice cs off ys))) else none | _ => none) | _ => none := by simp only [storeE, tz71]; cases y.cells <;> rfl
theorem al71 : allocR Zs 71 = some (.new (.cells 71 [.str ⟨#[]⟩, .str ⟨#[]⟩, .str ⟨#[]⟩, .str ⟨#[]⟩, .str ⟨#[]⟩, .str ⟨#[]⟩, .str ⟨#[]⟩, .str ⟨#[]⟩, .str ⟨#[]⟩, .str ⟨#[]⟩])) := by rfl
theorem mi71 : ifaceD Zs 71 x = some (.iface 71 x) := by first | (simp only [ifaceD, tz71]; done) | (simp only [ifaceD, tz71]; rfl)
theorem ln71 : lenD Zs g #[71] x = some (.int .i64 10) := by cases x <;> simp [lenD, tz71]
theorem ix71 : indexAddrD Zs 71 (.at cs) (.int k i) = if 0 ≤ i ∧ i < (10 : Nat) then some (.at (cs.drop (i.toNat))) else none := by first | (simp only [indexAddrD, tz71, tz9, Nat.mul_one]; done) | (simp only [indexAddrD, tz71, tz9, Nat.mul_one]; rfl)
theorem ir71 : indexAddrD Zs 71 (.ptr r off) (.int k i) = if 0 ≤ i ∧ i < (10 : Nat) then some (.ptr r (off + i.toNat)) else none := by first | (simp only [indexAddrD, tz71, tz9, Nat.mul_one]; done) | (simp only [indexAddrD, tz71, tz9, Nat.mul_one]; rfl)
theorem ie71 : indexD Zs 71 (.agg cs) (.int k i) = if 0 ≤ i ∧ i < (10 : Nat) then cs[i.toNat]? else none := by first | (simp only [indexD, tz71, tz9, Nat.mul_one, partD, TInfo.isAgg, Bool.false_eq_true, if_false]; done) | (simp only [indexD, tz71, tz9, Nat.mul_one, partD, TInfo.isAgg, Bool.false_eq_true, if_false]; rfl)
theorem ld73 : loadD Zs g 73 (.at cs) = cs[0]? := by first | (simp only [loadD, tz73, pack, TInfo.isAgg, Bool.false_eq_true, if_false, List.head?_eq_getElem?]; done) | (simp only [loadD, tz73, pack, TInfo.isAgg, Bool.false_eq_true, if_false, List.head?_eq_getElem?]; rfl)
theorem lp73 : loadD Zs g 73 (.ptr r off) = match g r with | some (.cells _ cs) => cs[off]? | _ => none := by first | (simp only [loadD, tz73, pack, TInfo.isAgg, Bool.false_eq_true, if_false, List.head?_drop]; done) | (simp only [loadD, tz73, pack, TInfo.isAgg, Bool.false_eq_true, if_false, List.head?_drop]; rfl)
theorem so73 : storeE Zs g 73 (.ptr r off) y = match y.cells with | some ys => (match g r with | some (.cells e cs) => if ys.length = 1 ∧ off + ys.length ≤ cs.length then some (.put r (.cells e (splice cs off ys))) else none | _ => none) | _ => none := by simp only [storeE, tz73]; cases y.cells <;> rfl
theorem al73 : allocR Zs 73 = some (.new (.cells 73 [.sl .nil 0 []])) := by rfl
theorem mi73 : ifaceD Zs 73 x = some (.iface 73 x) := by first | (simp only [ifaceD, tz73]; done) | (simp only [ifaceD, tz73]; rfl)
theorem mk73 {k' : IntKind} {m : Int} : makeSliceR Zs 0 73 (.int k i) (.int k' m) nx = if 0 ≤ i ∧ i ≤ m ∧ ((24 : Nat) : Int) * m ≤ 281474976710656 ∧ m ≤ (big : Int) then some (.row nx 0 i.toNat (some m.toNat) 1, .new (.cells 34 (List.replicate m.toNat (.sl .nil 0 [])))) else none := by exact mk_one tz73 tz34 rfl rfl rfl
theorem bs73_1 : buildSliceR Zs 0 73 1 [(0, x)] nx = lit1 x := by exact build1 tz73 tz34 rfl rfl rfl
theorem bs73_2 : buildSliceR Zs 0 73 2 [(0, x), (1, y)] nx = lit2 x y := by exact build2 tz73 tz34 rfl rfl rfl
theorem bs73_3 : buildSliceR Zs 0 73 3 [(0, x), (1, y), (2, x3)] nx = lit3 x y x3 := by exact build3 tz73 tz34 rfl rfl rfl
theorem ln73 : lenD Zs g #[73] (.sl o n cs) = some (.int .i64 n) := by simp [lenD, tz73]
theorem cpn73 : capD Zs #[73] (.sl .nil n cs) = some (.int .i64 0) := by simp [capD, tz73]
theorem cpr73 {kk z0 : Nat} : capD Zs #[73] (.row r off n (some kk) z0) = some (.int .i64 kk) := by simp [capD, tz73]
theorem lr73 {c0 : Option Nat} {z0 : Nat} : lenD Zs g #[73] (.row r off n c0 z0) = some (.int .i64 n) := by simp [lenD, tz73]
theorem ix73 : indexAddrD Zs 73 (.sl o n cs) (.int k i) = if (0 ≤ i ∧ i < n) ∧ 0 < cs.length then some (.at (cs.drop (i.toNat))) else none := by first | (simp only [indexAddrD, tz73, tz34, Nat.mul_one]; done) | (simp only [indexAddrD, tz73, tz34, Nat.mul_one]; rfl)
theorem ir73 {c0 : Option Nat} {z0 : Nat} : indexAddrD Zs 73 (.row r off n c0 z0) (.int k i) = if 0 ≤ i ∧ i < n then some (.ptr r (off + i.toNat)) else none := by first | (simp only [indexAddrD, tz73, tz34, Nat.mul_one]; done) | (simp only [indexAddrD, tz73, tz34, Nat.mul_one]; rfl)
theorem sl73 : sliceD Zs g 73 (.sl o n cs) lo hi none = match bound lo 0, bound hi n with | some l, some h => if 0 ≤ l ∧ l ≤ h ∧ h ≤ n ∧ cs.length = n then some (.sl (cutOwn o) (h.toNat - l.toNat) ((cs.drop (l.toNat)).take ((h.toNat - l.toNat)))) else none | _, _ => none := by simp only [sliceD, tz73, tz34, Nat.mul_one]; cases bound lo 0 <;> cases bound hi n <;> simp only [Nat.mul_one]
theorem en73 : binD Zs .eql 73 (.sl o n cs) (.sl .nil n' cs') = (nilOf o n).map .bool := by simp [binD, isNum, eqT, tz73]
theorem enr73 {c0 : Option Nat} {z0 : Nat} : binD Zs .eql 73 (.row r off n c0 z0) (.sl .nil n' cs') = some (.bool false) := by simp [binD, isNum, eqT, tz73]
theorem nn73 : binD Zs .neq 73 (.sl o n cs) (.sl .nil n' cs') = (nilOf o n).map fun b => .bool (!b) := by simp [binD, isNum, eqT, tz73]
theorem nnr73 {c0 : Option Nat} {z0 : Nat} : binD Zs .neq 73 (.row r off n c0 z0) (.sl .nil n' cs') = some (.bool true) := by simp [binD, isNum, eqT, tz73]
theorem ld77 : loadD Zs g 77 (.at cs) = cs[0]? := by first | (simp only [loadD, tz77, pack, TInfo.isAgg, Bool.false_eq_true, if_false, List.head?_eq_getElem?]; done) | (simp only [loadD, tz77, pack, TInfo.isAgg, Bool.false_eq_true, if_false, List.head?_eq_getElem?]; rfl)
theorem lp77 : loadD Zs g 77 (.ptr r off) = match g r with | some (.cells _ cs) => cs[off]? | _ => none := by first | (simp only [loadD, tz77, pack, TInfo.isAgg, Bool.false_eq_true, if_false, List.head?_drop]; done) | (simp only [loadD, tz77, pack, TInfo.isAgg, Bool.false_eq_true, if_false, List.head?_drop]; rfl)
theorem so77 : storeE Zs g 77 (.ptr r off) y = match y.cells with | some ys => (match g r with | some (.cells e cs) => if ys.length = 1 ∧ off + ys.length ≤ cs.length then some (.put r (.cells e (splice cs off ys))) else none | _ => none) | _ => none := by simp only [storeE, tz77]; cases y.cells <;> rfl
theorem al77 : allocR Zs 77 = some (.new (.cells 77 [.nilfunc])) := by rfl
theorem mi77 : ifaceD Zs 77 x = some (.iface 77 x) := by first | (simp only [ifaceD, tz77]; done) | (simp only [ifaceD, tz77]; rfl)
theorem ld78 : loadD Zs g 78 (.at cs) = cs[0]? := by first | (simp only [loadD, tz78, pack, TInfo.isAgg, Bool.false_eq_true, if_false, List.head?_eq_getElem?]; done) | (simp only [loadD, tz78, pack, TInfo.isAgg, Bool.false_eq_true, if_false, List.head?_eq_getElem?]; rfl)
theorem lp78 : loadD Zs g 78 (.ptr r off) = match g r with | some (.cells _ cs) => cs[off]? | _ => none := by first | (simp only [loadD, tz78, pack, TInfo.isAgg, Bool.false_eq_true, if_false, List.head?_drop]; done) | (simp only [loadD, tz78, pack, TInfo.isAgg, Bool.false_eq_true, if_false, List.head?_drop]; rfl)
theorem so78 : storeE Zs g 78 (.ptr r off) y = match y.cells with | some ys => (match g r with | some (.cells e cs) => if ys.length = 1 ∧ off + ys.length ≤ cs.length then some (.put r (.cells e (splice cs off ys))) else none | _ => none) | _ => none := by simp only [storeE, tz78]; cases y.cells <;> rfl
theorem al78 : allocR Zs 78 = some (.new (.cells 78 [.nilfunc])) := by rfl
theorem mi78 : ifaceD Zs 78 x = some (.iface 78 x) := by first | (simp only [ifaceD, tz78]; done) | (simp only [ifaceD, tz78]; rfl)
theorem ld82 : loadD Zs g 82 (.at cs) = cs[0]? := by first | (simp only [loadD, tz82, pack, TInfo.isAgg, Bool.false_eq_true, if_false, List.head?_eq_getElem?]; done) | (simp only [loadD, tz82, pack, TInfo.isAgg, Bool.false_eq_true, if_false, List.head?_eq_getElem?]; rfl)
theorem lp82 : loadD Zs g 82 (.ptr r off) = match g r with | some (.cells _ cs) => cs[off]? | _ => none := by first | (simp only [loadD, tz82, pack, TInfo.isAgg, Bool.false_eq_true, if_false, List.head?_drop]; done) | (simp only [loadD, tz82, pack, TInfo.isAgg, Bool.false_eq_true, if_false, List.head?_drop]; rfl)
theorem so82 : storeE Zs g 82 (.ptr r off) y = match y.cells with | some ys => (match g r with | some (.cells e cs) => if ys.length = 1 ∧ off + ys.length ≤ cs.length then some (.put r (.cells e (splice cs off ys))) else none | _ => none) | _ => none := by simp only [storeE, tz82]; cases y.cells <;> rfl
theorem al82 : allocR Zs 82 = some (.new (.cells 82 [.nilfunc])) := by rfl
theorem mi82 : ifaceD Zs 82 x = some (.iface 82 x) := by first | (simp only [ifaceD, tz82]; done) | (simp only [ifaceD, tz82]; rfl)
theorem ld93 : loadD Zs g 93 (.at cs) = cs[0]? := by first | (simp only [loadD, tz93, pack, TInfo.isAgg, Bool.false_eq_true, if_false, List.head?_eq_getElem?]; done) | (simp only [loadD, tz93, pack, TInfo.isAgg, Bool.false_eq_true, if_false, List.head?_eq_getElem?]; rfl)
theorem lp93 : loadD Zs g 93 (.ptr r off) = match g r with | some (.cells _ cs) => cs[off]? | _ => none := by first | (simp only [loadD, tz93, pack, TInfo.isAgg, Bool.false_eq_true, if_false, List.head?_drop]; done) | (simp only [loadD, tz93, pack, TInfo.isAgg, Bool.false_eq_true, if_false, List.head?_drop]; rfl)
theorem so93 : storeE Zs g 93 (.ptr r off) y = match y.cells with | some ys => (match g r with | some (.cells e cs) => if ys.length = 1 ∧ off + ys.length ≤ cs.length then some (.put r (.cells e (splice cs off ys))) else none | _ => none) | _ => none := by simp only [storeE, tz93]; cases y.cells <;> rfl
theorem al93 : allocR Zs 93 = some (.new (.cells 93 [.int .u64 0])) := by rfl
theorem mi93 : ifaceD Zs 93 x = some (.iface 93 x) := by first | (simp only [ifaceD, tz93]; done) | (simp only [ifaceD, tz93]; rfl)
theorem ld98 : loadD Zs g 98 (.at cs) = cs[0]? := by first | (simp only [loadD, tz98, pack, TInfo.isAgg, Bool.false_eq_true, if_false, List.head?_eq_getElem?]; done) | (simp only [loadD, tz98, pack, TInfo.isAgg, Bool.false_eq_true, if_false, List.head?_eq_getElem?]; rfl)
theorem lp98 : loadD Zs g 98 (.ptr r off) = match g r with | some (.cells _ cs) => cs[off]? | _ => none := by first | (simp only [loadD, tz98, pack, TInfo.isAgg, Bool.false_eq_true, if_false, List.head?_drop]; done) | (simp only [loadD, tz98, pack, TInfo.isAgg, Bool.false_eq_true, if_false, List.head?_drop]; rfl)
theorem so98 : storeE Zs g 98 (.ptr r off) y = match y.cells with | some ys => (match g r with | some (.cells e cs) => if ys.length = 1 ∧ off + ys.length ≤ cs.length then some (.put r (.cells e (splice cs off ys))) else none | _ => none) | _ => none := by simp only [storeE, tz98]; cases y.cells <;> rfl
theorem al98 : allocR Zs 98 = some (.new (.cells 98 [.nilfunc])) := by rfl
theorem mi98 : ifaceD Zs 98 x = some (.iface 98 x) := by first | (simp only [ifaceD, tz98]; done) | (simp only [ifaceD, tz98]; rfl)
theorem ld102 : loadD Zs g 102 (.at cs) = cs[0]? := by first | (simp only [loadD, tz102, pack, TInfo.isAgg, Bool.false_eq_true, if_false, List.head?_eq_getElem?]; done) | (simp only [loadD, tz102, pack, TInfo.isAgg, Bool.false_eq_true, if_false, List.head?_eq_getElem?]; rfl)
theorem lp102 : loadD Zs g 102 (.ptr r off) = match g r with | some (.cells _ cs) => cs[off]? | _ => none := by first | (simp only [loadD, tz102, pack, TInfo.isAgg, Bool.false_eq_true, if_false, List.head?_drop]; done) | (simp only [loadD, tz102, pack, TInfo.isAgg, Bool.false_eq_true, if_false, List.head?_drop]; rfl)
theorem so102 : storeE Zs g 102 (.ptr r off) y = match y.cells with | some ys => (match g r with | some (.cells e cs) => if ys.length = 1 ∧ off + ys.length ≤ cs.length then some (.put r (.cells e (splice cs off ys))) else none | _ => none) | _ => none := by simp only [storeE, tz102]; cases y.cells <;> rfl
theorem al102 : allocR Zs 102 = some (.new (.cells 102 [.int .u32 0])) := by rfl
theorem mi102 : ifaceD Zs 102 x = some (.iface 102 x) := by first | (simp only [ifaceD, tz102]; done) | (simp only [ifaceD, tz102]; rfl)
theorem ld105 : loadD Zs g 105 (.at cs) = cs[0]? := by first | (simp only [loadD, tz105, pack, TInfo.isAgg, Bool.false_eq_true, if_false, List.head?_eq_getElem?]; done) | (simp only [loadD, tz105, pack, TInfo.isAgg, Bool.false_eq_true, if_false, List.head?_eq_getElem?]; rfl)
theorem lp105 : loadD Zs g 105 (.ptr r off) = match g r with | some (.cells _ cs) => cs[off]? | _ => none := by first | (simp only [loadD, tz105, pack, TInfo.isAgg, Bool.false_eq_true, if_false, List.head?_drop]; done) | (simp only [loadD, tz105, pack, TInfo.isAgg, Bool.false_eq_true, if_false, List.head?_drop]; rfl)
theorem so105 : storeE Zs g 105 (.ptr r off) y = match y.cells with | some ys => (match g r with | some (.cells e cs) => if ys.length = 1 ∧ off + ys.length ≤ cs.length then some (.put r (.cells e (splice cs off ys))) else none | _ => none) | _ => none := by simp only [storeE, tz105]; cases y.cells <;> rfl
theorem al105 : allocR Zs 105 = some (.new (.cells 105 [.sl .nil 0 []])) := by rfl
theorem mi105 : ifaceD Zs 105 x = some (.iface 105 x) := by first | (simp only [ifaceD, tz105]; done) | (simp only [ifaceD, tz105]; rfl)
theorem ln105 : lenD Zs g #[105] (.sl o n cs) = some (.int .i64 n) := by simp [lenD, tz105]
theorem cpn105 : capD Zs #[105] (.sl .nil n cs) = some (.int .i64 0) := by simp [capD, tz105]
theorem cpr105 {kk z0 : Nat} : capD Zs #[105] (.row r off n (some kk) z0) = some (.int .i64 kk) := by simp [capD, tz105]
theorem lr105 {c0 : Option Nat} {z0 : Nat} : lenD Zs g #[105] (.row r off n c0 z0) = some (.int .i64 n) := by simp [lenD, tz105]
theorem ix105 : indexAddrD Zs 105 (.sl o n cs) (.int k i) = if (0 ≤ i ∧ i < n) ∧ 0 < cs.length then some (.at (cs.drop (i.toNat * 2))) else none := by first | (simp only [indexAddrD, tz105, tz107, Nat.mul_one]; done) | (simp only [indexAddrD, tz105, tz107, Nat.mul_one]; rfl)
theorem ir105 {c0 : Option Nat} {z0 : Nat} : indexAddrD Zs 105 (.row r off n c0 z0) (.int k i) = if 0 ≤ i ∧ i < n then some (.ptr r (off + i.toNat * 2)) else none := by first | (simp only [indexAddrD, tz105, tz107, Nat.mul_one]; done) | (simp only [indexAddrD, tz105, tz107, Nat.mul_one]; rfl)
theorem sl105 : sliceD Zs g 105 (.sl o n cs) lo hi none = match bound lo 0, bound hi n with | some l, some h => if 0 ≤ l ∧ l ≤ h ∧ h ≤ n ∧ cs.length = n * 2 then some (.sl (cutOwn o) (h.toNat - l.toNat) ((cs.drop (l.toNat * 2)).take ((h.toNat - l.toNat) * 2))) else none | _, _ => none := by simp only [sliceD, tz105, tz107, Nat.mul_one]; cases bound lo 0 <;> cases bound hi n <;> simp only [Nat.mul_one]
theorem en105 : binD Zs .eql 105 (.sl o n cs) (.sl .nil n' cs') = (nilOf o n).map .bool := by simp [binD, isNum, eqT, tz105]
theorem enr105 {c0 : Option Nat} {z0 : Nat} : binD Zs .eql 105 (.row r off n c0 z0) (.sl .nil n' cs') = some (.bool false) := by simp [binD, isNum, eqT, tz105]
theorem nn105 : binD Zs .neq 105 (.sl o n cs) (.sl .nil n' cs') = (nilOf o n).map fun b => .bool (!b) := by simp [binD, isNum, eqT, tz105]
theorem nnr105 {c0 : Option Nat} {z0 : Nat} : binD Zs .neq 105 (.row r off n c0 z0) (.sl .nil n' cs') = some (.bool true) := by simp [binD, isNum, eqT, tz105]
theorem ld106 : loadD Zs g 106 (.at cs) = if 2 ≤ cs.length then some (.agg (cs.take 2)) else none := by first | (simp only [loadD, tz106, pack, TInfo.isAgg, if_true]; done) | (simp only [loadD, tz106, pack, TInfo.isAgg, if_true]; rfl)
theorem lp106 : loadD Zs g 106 (.ptr r off) = match g r with | some (.cells _ cs) => (if 2 ≤ (cs.drop off).length then some (.agg ((cs.drop off).take 2)) else none) | _ => none := by first | (simp only [loadD, tz106, pack, TInfo.isAgg, if_true]; done) | (simp only [loadD, tz106, pack, TInfo.isAgg, if_true]; rfl)
theorem so106 : storeE Zs g 106 (.ptr r off) y = match y.cells with | some ys => (match g r with | some (.cells e cs) => if ys.length = 2 ∧ off + ys.length ≤ cs.length then some (.put r (.cells e (splice cs off ys))) else none | _ => none) | _ => none := by simp only [storeE, tz106]; cases y.cells <;> rfl
theorem al106 : allocR Zs 106 = some (.new (.cells 106 [.int .i64 0, .int .i64 0])) := by rfl
theorem mi106 : ifaceD Zs 106 x = some (.iface 106 x) := by first | (simp only [ifaceD, tz106]; done) | (simp only [ifaceD, tz106]; rfl)
theorem fa106_0 : fieldAddrD Zs 106 0 (.at cs) = some (.at (cs.drop 0)) := by simp [fieldAddrD, fieldOf, tz106, tz3]
theorem fp106_0 : fieldAddrD Zs 106 0 (.ptr r o') = some (.ptr r (o' + 0)) := by simp [fieldAddrD, fieldOf, tz106, tz3]
theorem fl106_0 : fieldD Zs 106 0 (.agg cs) = cs[0]? := by simp [fieldD, fieldOf, tz106, tz3, partD, TInfo.isAgg]
theorem fa106_1 : fieldAddrD Zs 106 1 (.at cs) = some (.at (cs.drop 1)) := by simp [fieldAddrD, fieldOf, tz106, tz3]
theorem fp106_1 : fieldAddrD Zs 106 1 (.ptr r o') = some (.ptr r (o' + 1)) := by simp [fieldAddrD, fieldOf, tz106, tz3]
theorem fl106_1 : fieldD Zs 106 1 (.agg cs) = cs[1]? := by simp [fieldD, fieldOf, tz106, tz3, partD, TInfo.isAgg]
theorem ld107 : loadD Zs g 107 (.at cs) = if 2 ≤ cs.length then some (.agg (cs.take 2)) else none := by first | (simp only [loadD, tz107, pack, TInfo.isAgg, if_true]; done) | (simp only [loadD, tz107, pack, TInfo.isAgg, if_true]; rfl)
theorem lp107 : loadD Zs g 107 (.ptr r off) = match g r with | some (.cells _ cs) => (if 2 ≤ (cs.drop off).length then some (.agg ((cs.drop off).take 2)) else none) | _ => none := by first | (simp only [loadD, tz107, pack, TInfo.isAgg, if_true]; done) | (simp only [loadD, tz107, pack, TInfo.isAgg, if_true]; rfl)
theorem so107 : storeE Zs g 107 (.ptr r off) y = match y.cells with | some ys => (match g r with | some (.cells e cs) => if ys.length = 2 ∧ off + ys.length ≤ cs.length then some (.put r (.cells e (splice cs off ys))) else none | _ => none) | _ => none := by simp only [storeE, tz107]; cases y.cells <;> rfl
theorem al107 : allocR Zs 107 = some (.new (.cells 107 [.int .i64 0, .int .i64 0])) := by rfl
theorem mi107 : ifaceD Zs 107 x = some (.iface 107 x) := by first | (simp only [ifaceD, tz107]; done) | (simp only [ifaceD, tz107]; rfl)
theorem fa107_0 : fieldAddrD Zs 107 0 (.at cs) = some (.at (cs.drop 0)) := by simp [fieldAddrD, fieldOf, tz107, tz3]
theorem fp107_0 : fieldAddrD Zs 107 0 (.ptr r o') = some (.ptr r (o' + 0)) := by simp [fieldAddrD, fieldOf, tz107, tz3]
theorem fl107_0 : fieldD Zs 107 0 (.agg cs) = cs[0]? := by simp [fieldD, fieldOf, tz107, tz3, partD, TInfo.isAgg]
theorem fa107_1 : fieldAddrD Zs 107 1 (.at cs) = some (.at (cs.drop 1)) := by simp [fieldAddrD, fieldOf, tz107, tz3]
theorem fp107_1 : fieldAddrD Zs 107 1 (.ptr r o') = some (.ptr r (o' + 1)) := by simp [fieldAddrD, fieldOf, tz107, tz3]
theorem fl107_1 : fieldD Zs 107 1 (.agg cs) = cs[1]? := by simp [fieldD, fieldOf, tz107, tz3, partD, TInfo.isAgg]
theorem ld109 : loadD Zs g 109 (.at cs) = cs[0]? := by first | (simp only [loadD, tz109, pack, TInfo.isAgg, Bool.false_eq_true, if_false, List.head?_eq_getElem?]; done) | (simp only [loadD, tz109, pack, TInfo.isAgg, Bool.false_eq_true, if_false, List.head?_eq_getElem?]; rfl)
theorem lp109 : loadD Zs g 109 (.ptr r off) = match g r with | some (.cells _ cs) => cs[off]? | _ => none := by first | (simp only [loadD, tz109, pack, TInfo.isAgg, Bool.false_eq_true, if_false, List.head?_drop]; done) | (simp only [loadD, tz109, pack, TInfo.isAgg, Bool.false_eq_true, if_false, List.head?_drop]; rfl)
theorem so109 : storeE Zs g 109 (.ptr r off) y = match y.cells with | some ys => (match g r with | some (.cells e cs) => if ys.length = 1 ∧ off + ys.length ≤ cs.length then some (.put r (.cells e (splice cs off ys))) else none | _ => none) | _ => none := by simp only [storeE, tz109]; cases y.cells <;> rfl
theorem al109 : allocR Zs 109 = some (.new (.cells 109 [.nilptr])) := by rfl
theorem mi109 : ifaceD Zs 109 x = some (.iface 109 x) := by first | (simp only [ifaceD, tz109]; done) | (simp only [ifaceD, tz109]; rfl)
theorem peql109 : binD Zs .eql 109 (.ptr r off) .nilptr = some (.bool false) := by simp [binD, isNum, eqT, tz109]
theorem paeql109 : binD Zs .eql 109 (.at cs) .nilptr = some (.bool false) := by simp [binD, isNum, eqT, tz109]
theorem pneql109 : binD Zs .eql 109 .nilptr .nilptr = some (.bool true) := by simp [binD, isNum, eqT, tz109]
theorem pneq109 : binD Zs .neq 109 (.ptr r off) .nilptr = some (.bool true) := by simp [binD, isNum, eqT, tz109]
theorem paneq109 : binD Zs .neq 109 (.at cs) .nilptr = some (.bool true) := by simp [binD, isNum, eqT, tz109]
theorem pnneq109 : binD Zs .neq 109 .nilptr .nilptr = some (.bool false) := by simp [binD, isNum, eqT, tz109]
theorem ld111 : loadD Zs g 111 (.at cs) = cs[0]? := by first | (simp only [loadD, tz111, pack, TInfo.isAgg, Bool.false_eq_true, if_false, List.head?_eq_getElem?]; done) | (simp only [loadD, tz111, pack, TInfo.isAgg, Bool.false_eq_true, if_false, List.head?_eq_getElem?]; rfl)
theorem lp111 : loadD Zs g 111 (.ptr r off) = match g r with | some (.cells _ cs) => cs[off]? | _ => none := by first | (simp only [loadD, tz111, pack, TInfo.isAgg, Bool.false_eq_true, if_false, List.head?_drop]; done) | (simp only [loadD, tz111, pack, TInfo.isAgg, Bool.false_eq_true, if_false, List.head?_drop]; rfl)
theorem so111 : storeE Zs g 111 (.ptr r off) y = match y.cells with | some ys => (match g r with | some (.cells e cs) => if ys.length = 1 ∧ off + ys.length ≤ cs.length then some (.put r (.cells e (splice cs off ys))) else none | _ => none) | _ => none := by simp only [storeE, tz111]; cases y.cells <;> rfl
theorem al111 : allocR Zs 111 = some (.new (.cells 111 [.int .i64 0])) := by rfl
theorem mi111 : ifaceD Zs 111 x = some (.iface 111 x) := by first | (simp only [ifaceD, tz111]; done) | (simp only [ifaceD, tz111]; rfl)
theorem ld119 : loadD Zs g 119 (.at cs) = cs[0]? := by first | (simp only [loadD, tz119, pack, TInfo.isAgg, Bool.false_eq_true, if_false, List.head?_eq_getElem?]; done) | (simp only [loadD, tz119, pack, TInfo.isAgg, Bool.false_eq_true, if_false, List.head?_eq_getElem?]; rfl)
theorem lp119 : loadD Zs g 119 (.ptr r off) = match g r with | some (.cells _ cs) => cs[off]? | _ => none := by first | (simp only [loadD, tz119, pack, TInfo.isAgg, Bool.false_eq_true, if_false, List.head?_drop]; done) | (simp only [loadD, tz119, pack, TInfo.isAgg, Bool.false_eq_true, if_false, List.head?_drop]; rfl)
theorem so119 : storeE Zs g 119 (.ptr r off) y = match y.cells with | some ys => (match g r with | some (.cells e cs) => if ys.length = 1 ∧ off + ys.length ≤ cs.length then some (.put r (.cells e (splice cs off ys))) else none | _ => none) | _ => none := by simp only [storeE, tz119]; cases y.cells <;> rfl
theorem al119 : allocR Zs 119 = some (.new (.cells 119 [.int .u64 0])) := by rfl
theorem mi119 : ifaceD Zs 119 x = some (.iface 119 x) := by first | (simp only [ifaceD, tz119]; done) | (simp only [ifaceD, tz119]; rfl)
theorem ld120 : loadD Zs g 120 (.at cs) = if 2 ≤ cs.length then some (.agg (cs.take 2)) else none := by first | (simp only [loadD, tz120, pack, TInfo.isAgg, if_true]; done) | (simp only [loadD, tz120, pack, TInfo.isAgg, if_true]; rfl)
theorem lp120 : loadD Zs g 120 (.ptr r off) = match g r with | some (.cells _ cs) => (if 2 ≤ (cs.drop off).length then some (.agg ((cs.drop off).take 2)) else none) | _ => none := by first | (simp only [loadD, tz120, pack, TInfo.isAgg, if_true]; done) | (simp only [loadD, tz120, pack, TInfo.isAgg, if_true]; rfl)
theorem so120 : storeE Zs g 120 (.ptr r off) y = match y.cells with | some ys => (match g r with | some (.cells e cs) => if ys.length = 2 ∧ off + ys.length ≤ cs.length then some (.put r (.cells e (splice cs off ys))) else none | _ => none) | _ => none := by simp only [storeE, tz120]; cases y.cells <;> rfl
theorem al120 : allocR Zs 120 = some (.new (.cells 120 [.int .u8 0, .int .u8 0])) := by rfl
theorem mi120 : ifaceD Zs 120 x = some (.iface 120 x) := by first | (simp only [ifaceD, tz120]; done) | (simp only [ifaceD, tz120]; rfl)
theorem fa120_0 : fieldAddrD Zs 120 0 (.at cs) = some (.at (cs.drop 0)) := by simp [fieldAddrD, fieldOf, tz120, tz5]
theorem fp120_0 : fieldAddrD Zs 120 0 (.ptr r o') = some (.ptr r (o' + 0)) := by simp [fieldAddrD, fieldOf, tz120, tz5]
theorem fl120_0 : fieldD Zs 120 0 (.agg cs) = cs[0]? := by simp [fieldD, fieldOf, tz120, tz5, partD, TInfo.isAgg]
theorem fa120_1 : fieldAddrD Zs 120 1 (.at cs) = some (.at (cs.drop 1)) := by simp [fieldAddrD, fieldOf, tz120, tz5]
theorem fp120_1 : fieldAddrD Zs 120 1 (.ptr r o') = some (.ptr r (o' + 1)) := by simp [fieldAddrD, fieldOf, tz120, tz5]
theorem fl120_1 : fieldD Zs 120 1 (.agg cs) = cs[1]? := by simp [fieldD, fieldOf, tz120, tz5, partD, TInfo.isAgg]
theorem ld121 : loadD Zs g 121 (.at cs) = if 2 ≤ cs.length then some (.agg (cs.take 2)) else none := by first | (simp only [loadD, tz121, pack, TInfo.isAgg, if_true]; done) | (simp only [loadD, tz121, pack, TInfo.isAgg, if_true]; rfl)
theorem lp121 : loadD Zs g 121 (.ptr r off) = match g r with | some (.cells _ cs) => (if 2 ≤ (cs.drop off).length then some (.agg ((cs.drop off).take 2)) else none) | _ => none := by first | (simp only [loadD, tz121, pack, TInfo.isAgg, if_true]; done) | (simp only [loadD, tz121, pack, TInfo.isAgg, if_true]; rfl)
theorem so121 : storeE Zs g 121 (.ptr r off) y = match y.cells with | some ys => (match g r with | some (.cells e cs) => if ys.length = 2 ∧ off + ys.length ≤ cs.length then some (.put r (.cells e (splice cs off ys))) else none | _ => none) | _ => none := by simp only [storeE, tz121]; cases y.cells <;> rfl
theorem al121 : allocR Zs 121 = some (.new (.cells 121 [.int .u8 0, .int .u8 0])) := by rfl
theorem mi121 : ifaceD Zs 121 x = some (.iface 121 x) := by first | (simp only [ifaceD, tz121]; done) | (simp only [ifaceD, tz121]; rfl)
theorem fa121_0 : fieldAddrD Zs 121 0 (.at cs) = some (.at (cs.drop 0)) := by simp [fieldAddrD, fieldOf, tz121, tz5]
theorem fp121_0 : fieldAddrD Zs 121 0 (.ptr r o') = some (.ptr r (o' + 0)) := by simp [fieldAddrD, fieldOf, tz121, tz5]
theorem fl121_0 : fieldD Zs 121 0 (.agg cs) = cs[0]? := by simp [fieldD, fieldOf, tz121, tz5, partD, TInfo.isAgg]
theorem fa121_1 : fieldAddrD Zs 121 1 (.at cs) = some (.at (cs.drop 1)) := by simp [fieldAddrD, fieldOf, tz121, tz5]
theorem fp121_1 : fieldAddrD Zs 121 1 (.ptr r o') = some (.ptr r (o' + 1)) := by simp [fieldAddrD, fieldOf, tz121, tz5]
theorem fl121_1 : fieldD Zs 121 1 (.agg cs) = cs[1]? := by simp [fieldD, fieldOf, tz121, tz5, partD, TInfo.isAgg]
theorem ld122 : loadD Zs g 122 (.at cs) = if 32 ≤ cs.length then some (.agg (cs.take 32)) else none := by first | (simp only [loadD, tz122, pack, TInfo.isAgg, if_true]; done) | (simp only [loadD, tz122, pack, TInfo.isAgg, if_true]; rfl)
theorem lp122 : loadD Zs g 122 (.ptr r off) = match g r with | some (.cells _ cs) => (if 32 ≤ (cs.drop off).length then some (.agg ((cs.drop off).take 32)) else none) | _ => none := by first | (simp only [loadD, tz122, pack, TInfo.isAgg, if_true]; done) | (simp only [loadD, tz122, pack, TInfo.isAgg, if_true]; rfl)
theorem so122 : storeE Zs g 122 (.ptr r off) y = match y.cells with | some ys => (match g r with | some (.cells e cs) => if ys.length = 32 ∧ off + ys.length ≤ cs.length then some (.put r (.cells e (splice cs off ys))) else none | _ => none) | _ => none := by simp only [storeE, tz122]; cases y.cells <;> rfl
theorem al122 : allocR Zs 122 = some (.new (.cells 122 [.int .u8 0, .int .u8 0, .int .u8 0, .int .u8 0, .int .u8 0, .int .u8 0, .int .u8 0, .int .u8 0, .int .u8 0, .int .u8 0, .int .u8 0, .int .u8 0, .int .u8 0, .int .u8 0, .int .u8 0, .int .u8 0, .int .u8 0, .int .u8 0, .int .u8 0, .int .u8 0, .int .u8 0, .int .u8 0, .int .u8 0, .int .u8 0, .int .u8 0, .int .u8 0, .int .u8 0, .int .u8 0, .int .u8 0, .int .u8 0, .int .u8 0, .int .u8 0])) := by rfl
theorem mi122 : ifaceD Zs 122 x = some (.iface 122 x) := by first | (simp only [ifaceD, tz122]; done) | (simp only [ifaceD, tz122]; rfl)
theorem ln122 : lenD Zs g #[122] x = some (.int .i64 16) := by cases x <;> simp [lenD, tz122]
theorem ix122 : indexAddrD Zs 122 (.at cs) (.int k i) = if 0 ≤ i ∧ i < (16 : Nat) then some (.at (cs.drop (i.toNat * 2))) else none := by first | (simp only [indexAddrD, tz122, tz121, Nat.mul_one]; done) | (simp only [indexAddrD, tz122, tz121, Nat.mul_one]; rfl)
theorem ir122 : indexAddrD Zs 122 (.ptr r off) (.int k i) = if 0 ≤ i ∧ i < (16 : Nat) then some (.ptr r (off + i.toNat * 2)) else none := by first | (simp only [indexAddrD, tz122, tz121, Nat.mul_one]; done) | (simp only [indexAddrD, tz122, tz121, Nat.mul_one]; rfl)
theorem ld123 : loadD Zs g 123 (.at cs) = cs[0]? := by first | (simp only [loadD, tz123, pack, TInfo.isAgg, Bool.false_eq_true, if_false, List.head?_eq_getElem?]; done) | (simp only [loadD, tz123, pack, TInfo.isAgg, Bool.false_eq_true, if_false, List.head?_eq_getElem?]; rfl)
theorem lp123 : loadD Zs g 123 (.ptr r off) = match g r with | some (.cells _ cs) => cs[off]? | _ => none := by first | (simp only [loadD, tz123, pack, TInfo.isAgg, Bool.false_eq_true, if_false, List.head?_drop]; done) | (simp only [loadD, tz123, pack, TInfo.isAgg, Bool.false_eq_true, if_false, List.head?_drop]; rfl)
theorem so123 : storeE Zs g 123 (.ptr r off) y = match y.cells with | some ys => (match g r with | some (.cells e cs) => if ys.length = 1 ∧ off + ys.length ≤ cs.length then some (.put r (.cells e (splice cs off ys))) else none | _ => none) | _ => none := by simp only [storeE, tz123]; cases y.cells <;> rfl
theorem al123 : allocR Zs 123 = some (.new (.cells 123 [.sl .nil 0 []])) := by rfl
theorem mi123 : ifaceD Zs 123 x = some (.iface 123 x) := by first | (simp only [ifaceD, tz123]; done) | (simp only [ifaceD, tz123]; rfl)
theorem ln123 : lenD Zs g #[123] (.sl o n cs) = some (.int .i64 n) := by simp [lenD, tz123]
theorem cpn123 : capD Zs #[123] (.sl .nil n cs) = some (.int .i64 0) := by simp [capD, tz123]
theorem cpr123 {kk z0 : Nat} : capD Zs #[123] (.row r off n (some kk) z0) = some (.int .i64 kk) := by simp [capD, tz123]
theorem lr123 {c0 : Option Nat} {z0 : Nat} : lenD Zs g #[123] (.row r off n c0 z0) = some (.int .i64 n) := by simp [lenD, tz123]
theorem ix123 : indexAddrD Zs 123 (.sl o n cs) (.int k i) = if (0 ≤ i ∧ i < n) ∧ 0 < cs.length then some (.at (cs.drop (i.toNat * 3))) else none := by first | (simp only [indexAddrD, tz123, tz129, Nat.mul_one]; done) | (simp only [indexAddrD, tz123, tz129, Nat.mul_one]; rfl)
theorem ir123 {c0 : Option Nat} {z0 : Nat} : indexAddrD Zs 123 (.row r off n c0 z0) (.int k i) = if 0 ≤ i ∧ i < n then some (.ptr r (off + i.toNat * 3)) else none := by first | (simp only [indexAddrD, tz123, tz129, Nat.mul_one]; done) | (simp only [indexAddrD, tz123, tz129, Nat.mul_one]; rfl)
theorem sl123 : sliceD Zs g 123 (.sl o n cs) lo hi none = match bound lo 0, bound hi n with | some l, some h => if 0 ≤ l ∧ l ≤ h ∧ h ≤ n ∧ cs.length = n * 3 then some (.sl (cutOwn o) (h.toNat - l.toNat) ((cs.drop (l.toNat * 3)).take ((h.toNat - l.toNat) * 3))) else none | _, _ => none := by simp only [sliceD, tz123, tz129, Nat.mul_one]; cases bound lo 0 <;> cases bound hi n <;> simp only [Nat.mul_one]
theorem en123 : binD Zs .eql 123 (.sl o n cs) (.sl .nil n' cs') = (nilOf o n).map .bool := by simp [binD, isNum, eqT, tz123]
theorem enr123 {c0 : Option Nat} {z0 : Nat} : binD Zs .eql 123 (.row r off n c0 z0) (.sl .nil n' cs') = some (.bool false) := by simp [binD, isNum, eqT, tz123]
theorem nn123 : binD Zs .neq 123 (.sl o n cs) (.sl .nil n' cs') = (nilOf o n).map fun b => .bool (!b) := by simp [binD, isNum, eqT, tz123]
theorem nnr123 {c0 : Option Nat} {z0 : Nat} : binD Zs .neq 123 (.row r off n c0 z0) (.sl .nil n' cs') = some (.bool true) := by simp [binD, isNum, eqT, tz123]
theorem ld124 : loadD Zs g 124 (.at cs) = cs[0]? := by first | (simp only [loadD, tz124, pack, TInfo.isAgg, Bool.false_eq_true, if_false, List.head?_eq_getElem?]; done) | (simp only [loadD, tz124, pack, TInfo.isAgg, Bool.false_eq_true, if_false, List.head?_eq_getElem?]; rfl)
theorem lp124 : loadD Zs g 124 (.ptr r off) = match g r with | some (.cells _ cs) => cs[off]? | _ => none := by first | (simp only [loadD, tz124, pack, TInfo.isAgg, Bool.false_eq_true, if_false, List.head?_drop]; done) | (simp only [loadD, tz124, pack, TInfo.isAgg, Bool.false_eq_true, if_false, List.head?_drop]; rfl)
theorem so124 : storeE Zs g 124 (.ptr r off) y = match y.cells with | some ys => (match g r with | some (.cells e cs) => if ys.length = 1 ∧ off + ys.length ≤ cs.length then some (.put r (.cells e (splice cs off ys))) else none | _ => none) | _ => none := by simp only [storeE, tz124]; cases y.cells <;> rfl
theorem al124 : allocR Zs 124 = some (.new (.cells 124 [.sl .nil 0 []])) := by rfl
theorem mi124 : ifaceD Zs 124 x = some (.iface 124 x) := by first | (simp only [ifaceD, tz124]; done) | (simp only [ifaceD, tz124]; rfl)
theorem ln124 : lenD Zs g #[124] (.sl o n cs) = some (.int .i64 n) := by simp [lenD, tz124]
theorem cpn124 : capD Zs #[124] (.sl .nil n cs) = some (.int .i64 0) := by simp [capD, tz124]
theorem cpr124 {kk z0 : Nat} : capD Zs #[124] (.row r off n (some kk) z0) = some (.int .i64 kk) := by simp [capD, tz124]
theorem lr124 {c0 : Option Nat} {z0 : Nat} : lenD Zs g #[124] (.row r off n c0 z0) = some (.int .i64 n) := by simp [lenD, tz124]
theorem ix124 : indexAddrD Zs 124 (.sl o n cs) (.int k i) = if (0 ≤ i ∧ i < n) ∧ 0 < cs.length then some (.at (cs.drop (i.toNat * 3))) else none := by first | (simp only [indexAddrD, tz124, tz132, Nat.mul_one]; done) | (simp only [indexAddrD, tz124, tz132, Nat.mul_one]; rfl)
theorem ir124 {c0 : Option Nat} {z0 : Nat} : indexAddrD Zs 124 (.row r off n c0 z0) (.int k i) = if 0 ≤ i ∧ i < n then some (.ptr r (off + i.toNat * 3)) else none := by first | (simp only [indexAddrD, tz124, tz132, Nat.mul_one]; done) | (simp only [indexAddrD, tz124, tz132, Nat.mul_one]; rfl)
theorem sl124 : sliceD Zs g 124 (.sl o n cs) lo hi none = match bound lo 0, bound hi n with | some l, some h => if 0 ≤ l ∧ l ≤ h ∧ h ≤ n ∧ cs.length = n * 3 then some (.sl (cutOwn o) (h.toNat - l.toNat) ((cs.drop (l.toNat * 3)).take ((h.toNat - l.toNat) * 3))) else none | _, _ => none := by simp only [sliceD, tz124, tz132, Nat.mul_one]; cases bound lo 0 <;> cases bound hi n <;> simp only [Nat.mul_one]
theorem en124 : binD Zs .eql 124 (.sl o n cs) (.sl .nil n' cs') = (nilOf o n).map .bool := by simp [binD, isNum, eqT, tz124]
theorem enr124 {c0 : Option Nat} {z0 : Nat} : binD Zs .eql 124 (.row r off n c0 z0) (.sl .nil n' cs') = some (.bool false) := by simp [binD, isNum, eqT, tz124]
theorem nn124 : binD Zs .neq 124 (.sl o n cs) (.sl .nil n' cs') = (nilOf o n).map fun b => .bool (!b) := by simp [binD, isNum, eqT, tz124]
theorem nnr124 {c0 : Option Nat} {z0 : Nat} : binD Zs .neq 124 (.row r off n c0 z0) (.sl .nil n' cs') = some (.bool true) := by simp [binD, isNum, eqT, tz124]
theorem ld125 : loadD Zs g 125 (.at cs) = if 3 ≤ cs.length then some (.agg (cs.take 3)) else none := by first | (simp only [loadD, tz125, pack, TInfo.isAgg, if_true]; done) | (simp only [loadD, tz125, pack, TInfo.isAgg, if_true]; rfl)
theorem lp125 : loadD Zs g 125 (.ptr r off) = match g r with | some (.cells _ cs) => (if 3 ≤ (cs.drop off).length then some (.agg ((cs.drop off).take 3)) else none) | _ => none := by first | (simp only [loadD, tz125, pack, TInfo.isAgg, if_true]; done) | (simp only [loadD, tz125, pack, TInfo.isAgg, if_true]; rfl)
theorem so125 : storeE Zs g 125 (.ptr r off) y = match y.cells with | some ys => (match g r with | some (.cells e cs) => if ys.length = 3 ∧ off + ys.length ≤ cs.length then some (.put r (.cells e (splice cs off ys))) else none | _ => none) | _ => none := by simp only [storeE, tz125]; cases y.cells <;> rfl
theorem al125 : allocR Zs 125 = some (.new (.cells 125 [.sl .nil 0 [], .sl .nil 0 [], .int .i64 0])) := by rfl
theorem mi125 : ifaceD Zs 125 x = some (.iface 125 x) := by first | (simp only [ifaceD, tz125]; done) | (simp only [ifaceD, tz125]; rfl)
theorem fa125_0 : fieldAddrD Zs 125 0 (.at cs) = some (.at (cs.drop 0)) := by simp [fieldAddrD, fieldOf, tz125, tz123]
theorem fp125_0 : fieldAddrD Zs 125 0 (.ptr r o') = some (.ptr r (o' + 0)) := by simp [fieldAddrD, fieldOf, tz125, tz123]
theorem fl125_0 : fieldD Zs 125 0 (.agg cs) = cs[0]? := by simp [fieldD, fieldOf, tz125, tz123, partD, TInfo.isAgg]
theorem fa125_1 : fieldAddrD Zs 125 1 (.at cs) = some (.at (cs.drop 1)) := by simp [fieldAddrD, fieldOf, tz125, tz124]
theorem fp125_1 : fieldAddrD Zs 125 1 (.ptr r o') = some (.ptr r (o' + 1)) := by simp [fieldAddrD, fieldOf, tz125, tz124]
theorem fl125_1 : fieldD Zs 125 1 (.agg cs) = cs[1]? := by simp [fieldD, fieldOf, tz125, tz124, partD, TInfo.isAgg]
theorem fa125_2 : fieldAddrD Zs 125 2 (.at cs) = some (.at (cs.drop 2)) := by simp [fieldAddrD, fieldOf, tz125, tz3]
theorem fp125_2 : fieldAddrD Zs 125 2 (.ptr r o') = some (.ptr r (o' + 2)) := by simp [fieldAddrD, fieldOf, tz125, tz3]
theorem fl125_2 : fieldD Zs 125 2 (.agg cs) = cs[2]? := by simp [fieldD, fieldOf, tz125, tz3, partD, TInfo.isAgg]
theorem ld126 : loadD Zs g 126 (.at cs) = if 3 ≤ cs.length then some (.agg (cs.take 3)) else none := by first | (simp only [loadD, tz126, pack, TInfo.isAgg, if_true]; done) | (simp only [loadD, tz126, pack, TInfo.isAgg, if_true]; rfl)
theorem lp126 : loadD Zs g 126 (.ptr r off) = match g r with | some (.cells _ cs) => (if 3 ≤ (cs.drop off).length then some (.agg ((cs.drop off).take 3)) else none) | _ => none := by first | (simp only [loadD, tz126, pack, TInfo.isAgg, if_true]; done) | (simp only [loadD, tz126, pack, TInfo.isAgg, if_true]; rfl)
theorem so126 : storeE Zs g 126 (.ptr r off) y = match y.cells with | some ys => (match g r with | some (.cells e cs) => if ys.length = 3 ∧ off + ys.length ≤ cs.length then some (.put r (.cells e (splice cs off ys))) else none | _ => none) | _ => none := by simp only [storeE, tz126]; cases y.cells <;> rfl
theorem al126 : allocR Zs 126 = some (.new (.cells 126 [.sl .nil 0 [], .sl .nil 0 [], .int .i64 0])) := by rfl
theorem mi126 : ifaceD Zs 126 x = some (.iface 126 x) := by first | (simp only [ifaceD, tz126]; done) | (simp only [ifaceD, tz126]; rfl)
theorem fa126_0 : fieldAddrD Zs 126 0 (.at cs) = some (.at (cs.drop 0)) := by simp [fieldAddrD, fieldOf, tz126, tz123]
theorem fp126_0 : fieldAddrD Zs 126 0 (.ptr r o') = some (.ptr r (o' + 0)) := by simp [fieldAddrD, fieldOf, tz126, tz123]
theorem fl126_0 : fieldD Zs 126 0 (.agg cs) = cs[0]? := by simp [fieldD, fieldOf, tz126, tz123, partD, TInfo.isAgg]
theorem fa126_1 : fieldAddrD Zs 126 1 (.at cs) = some (.at (cs.drop 1)) := by simp [fieldAddrD, fieldOf, tz126, tz124]
theorem fp126_1 : fieldAddrD Zs 126 1 (.ptr r o') = some (.ptr r (o' + 1)) := by simp [fieldAddrD, fieldOf, tz126, tz124]
theorem fl126_1 : fieldD Zs 126 1 (.agg cs) = cs[1]? := by simp [fieldD, fieldOf, tz126, tz124, partD, TInfo.isAgg]
theorem fa126_2 : fieldAddrD Zs 126 2 (.at cs) = some (.at (cs.drop 2)) := by simp [fieldAddrD, fieldOf, tz126, tz3]
theorem fp126_2 : fieldAddrD Zs 126 2 (.ptr r o') = some (.ptr r (o' + 2)) := by simp [fieldAddrD, fieldOf, tz126, tz3]
theorem fl126_2 : fieldD Zs 126 2 (.agg cs) = cs[2]? := by simp [fieldD, fieldOf, tz126, tz3, partD, TInfo.isAgg]
theorem ld127 : loadD Zs g 127 (.at cs) = cs[0]? := by first | (simp only [loadD, tz127, pack, TInfo.isAgg, Bool.false_eq_true, if_false, List.head?_eq_getElem?]; done) | (simp only [loadD, tz127, pack, TInfo.isAgg, Bool.false_eq_true, if_false, List.head?_eq_getElem?]; rfl)
theorem lp127 : loadD Zs g 127 (.ptr r off) = match g r with | some (.cells _ cs) => cs[off]? | _ => none := by first | (simp only [loadD, tz127, pack, TInfo.isAgg, Bool.false_eq_true, if_false, List.head?_drop]; done) | (simp only [loadD, tz127, pack, TInfo.isAgg, Bool.false_eq_true, if_false, List.head?_drop]; rfl)
theorem so127 : storeE Zs g 127 (.ptr r off) y = match y.cells with | some ys => (match g r with | some (.cells e cs) => if ys.length = 1 ∧ off + ys.length ≤ cs.length then some (.put r (.cells e (splice cs off ys))) else none | _ => none) | _ => none := by simp only [storeE, tz127]; cases y.cells <;> rfl
theorem al127 : allocR Zs 127 = some (.new (.cells 127 [.int .u16 0])) := by rfl
theorem mi127 : ifaceD Zs 127 x = some (.iface 127 x) := by first | (simp only [ifaceD, tz127]; done) | (simp only [ifaceD, tz127]; rfl)
theorem ld128 : loadD Zs g 128 (.at cs) = if 3 ≤ cs.length then some (.agg (cs.take 3)) else none := by first | (simp only [loadD, tz128, pack, TInfo.isAgg, if_true]; done) | (simp only [loadD, tz128, pack, TInfo.isAgg, if_true]; rfl)
theorem lp128 : loadD Zs g 128 (.ptr r off) = match g r with | some (.cells _ cs) => (if 3 ≤ (cs.drop off).length then some (.agg ((cs.drop off).take 3)) else none) | _ => none := by first | (simp only [loadD, tz128, pack, TInfo.isAgg, if_true]; done) | (simp only [loadD, tz128, pack, TInfo.isAgg, if_true]; rfl)
theorem so128 : storeE Zs g 128 (.ptr r off) y = match y.cells with | some ys => (match g r with | some (.cells e cs) => if ys.length = 3 ∧ off + ys.length ≤ cs.length then some (.put r (.cells e (splice cs off ys))) else none | _ => none) | _ => none := by simp only [storeE, tz128]; cases y.cells <;> rfl
theorem al128 : allocR Zs 128 = some (.new (.cells 128 [.int .u16 0, .int .u16 0, .int .u16 0])) := by rfl
theorem mi128 : ifaceD Zs 128 x = some (.iface 128 x) := by first | (simp only [ifaceD, tz128]; done) | (simp only [ifaceD, tz128]; rfl)
theorem fa128_0 : fieldAddrD Zs 128 0 (.at cs) = some (.at (cs.drop 0)) := by simp [fieldAddrD, fieldOf, tz128, tz127]
theorem fp128_0 : fieldAddrD Zs 128 0 (.ptr r o') = some (.ptr r (o' + 0)) := by simp [fieldAddrD, fieldOf, tz128, tz127]
theorem fl128_0 : fieldD Zs 128 0 (.agg cs) = cs[0]? := by simp [fieldD, fieldOf, tz128, tz127, partD, TInfo.isAgg]
theorem fa128_1 : fieldAddrD Zs 128 1 (.at cs) = some (.at (cs.drop 1)) := by simp [fieldAddrD, fieldOf, tz128, tz127]
theorem fp128_1 : fieldAddrD Zs 128 1 (.ptr r o') = some (.ptr r (o' + 1)) := by simp [fieldAddrD, fieldOf, tz128, tz127]
theorem fl128_1 : fieldD Zs 128 1 (.agg cs) = cs[1]? := by simp [fieldD, fieldOf, tz128, tz127, partD, TInfo.isAgg]
theorem fa128_2 : fieldAddrD Zs 128 2 (.at cs) = some (.at (cs.drop 2)) := by simp [fieldAddrD, fieldOf, tz128, tz127]
theorem fp128_2 : fieldAddrD Zs 128 2 (.ptr r o') = some (.ptr r (o' + 2)) := by simp [fieldAddrD, fieldOf, tz128, tz127]
theorem fl128_2 : fieldD Zs 128 2 (.agg cs) = cs[2]? := by simp [fieldD, fieldOf, tz128, tz127, partD, TInfo.isAgg]
theorem ld129 : loadD Zs g 129 (.at cs) = if 3 ≤ cs.length then some (.agg (cs.take 3)) else none := by first | (simp only [loadD, tz129, pack, TInfo.isAgg, if_true]; done) | (simp only [loadD, tz129, pack, TInfo.isAgg, if_true]; rfl)
theorem lp129 : loadD Zs g 129 (.ptr r off) = match g r with | some (.cells _ cs) => (if 3 ≤ (cs.drop off).length then some (.agg ((cs.drop off).take 3)) else none) | _ => none := by first | (simp only [loadD, tz129, pack, TInfo.isAgg, if_true]; done) | (simp only [loadD, tz129, pack, TInfo.isAgg, if_true]; rfl)
theorem so129 : storeE Zs g 129 (.ptr r off) y = match y.cells with | some ys => (match g r with | some (.cells e cs) => if ys.length = 3 ∧ off + ys.length ≤ cs.length then some (.put r (.cells e (splice cs off ys))) else none | _ => none) | _ => none := by simp only [storeE, tz129]; cases y.cells <;> rfl
theorem al129 : allocR Zs 129 = some (.new (.cells 129 [.int .u16 0, .int .u16 0, .int .u16 0])) := by rfl
theorem mi129 : ifaceD Zs 129 x = some (.iface 129 x) := by first | (simp only [ifaceD, tz129]; done) | (simp only [ifaceD, tz129]; rfl)
theorem fa129_0 : fieldAddrD Zs 129 0 (.at cs) = some (.at (cs.drop 0)) := by simp [fieldAddrD, fieldOf, tz129, tz127]
theorem fp129_0 : fieldAddrD Zs 129 0 (.ptr r o') = some (.ptr r (o' + 0)) := by simp [fieldAddrD, fieldOf, tz129, tz127]
theorem fl129_0 : fieldD Zs 129 0 (.agg cs) = cs[0]? := by simp [fieldD, fieldOf, tz129, tz127, partD, TInfo.isAgg]
theorem fa129_1 : fieldAddrD Zs 129 1 (.at cs) = some (.at (cs.drop 1)) := by simp [fieldAddrD, fieldOf, tz129, tz127]
theorem fp129_1 : fieldAddrD Zs 129 1 (.ptr r o') = some (.ptr r (o' + 1)) := by simp [fieldAddrD, fieldOf, tz129, tz127]
theorem fl129_1 : fieldD Zs 129 1 (.agg cs) = cs[1]? := by simp [fieldD, fieldOf, tz129, tz127, partD, TInfo.isAgg]
theorem fa129_2 : fieldAddrD Zs 129 2 (.at cs) = some (.at (cs.drop 2)) := by simp [fieldAddrD, fieldOf, tz129, tz127]
theorem fp129_2 : fieldAddrD Zs 129 2 (.ptr r o') = some (.ptr r (o' + 2)) := by simp [fieldAddrD, fieldOf, tz129, tz127]
theorem fl129_2 : fieldD Zs 129 2 (.agg cs) = cs[2]? := by simp [fieldD, fieldOf, tz129, tz127, partD, TInfo.isAgg]
theorem ld131 : loadD Zs g 131 (.at cs) = if 3 ≤ cs.length then some (.agg (cs.take 3)) else none := by first | (simp only [loadD, tz131, pack, TInfo.isAgg, if_true]; done) | (simp only [loadD, tz131, pack, TInfo.isAgg, if_true]; rfl)
theorem lp131 : loadD Zs g 131 (.ptr r off) = match g r with | some (.cells _ cs) => (if 3 ≤ (cs.drop off).length then some (.agg ((cs.drop off).take 3)) else none) | _ => none := by first | (simp only [loadD, tz131, pack, TInfo.isAgg, if_true]; done) | (simp only [loadD, tz131, pack, TInfo.isAgg, if_true]; rfl)
theorem so131 : storeE Zs g 131 (.ptr r off) y = match y.cells with | some ys => (match g r with | some (.cells e cs) => if ys.length = 3 ∧ off + ys.length ≤ cs.length then some (.put r (.cells e (splice cs off ys))) else none | _ => none) | _ => none := by simp only [storeE, tz131]; cases y.cells <;> rfl
theorem al131 : allocR Zs 131 = some (.new (.cells 131 [.int .u32 0, .int .u32 0, .int .u32 0])) := by rfl
theorem mi131 : ifaceD Zs 131 x = some (.iface 131 x) := by first | (simp only [ifaceD, tz131]; done) | (simp only [ifaceD, tz131]; rfl)
theorem fa131_0 : fieldAddrD Zs 131 0 (.at cs) = some (.at (cs.drop 0)) := by simp [fieldAddrD, fieldOf, tz131, tz102]
theorem fp131_0 : fieldAddrD Zs 131 0 (.ptr r o') = some (.ptr r (o' + 0)) := by simp [fieldAddrD, fieldOf, tz131, tz102]
theorem fl131_0 : fieldD Zs 131 0 (.agg cs) = cs[0]? := by simp [fieldD, fieldOf, tz131, tz102, partD, TInfo.isAgg]
theorem fa131_1 : fieldAddrD Zs 131 1 (.at cs) = some (.at (cs.drop 1)) := by simp [fieldAddrD, fieldOf, tz131, tz102]
theorem fp131_1 : fieldAddrD Zs 131 1 (.ptr r o') = some (.ptr r (o' + 1)) := by simp [fieldAddrD, fieldOf, tz131, tz102]
theorem fl131_1 : fieldD Zs 131 1 (.agg cs) = cs[1]? := by simp [fieldD, fieldOf, tz131, tz102, partD, TInfo.isAgg]
theorem fa131_2 : fieldAddrD Zs 131 2 (.at cs) = some (.at (cs.drop 2)) := by simp [fieldAddrD, fieldOf, tz131, tz102]
theorem fp131_2 : fieldAddrD Zs 131 2 (.ptr r o') = some (.ptr r (o' + 2)) := by simp [fieldAddrD, fieldOf, tz131, tz102]
theorem fl131_2 : fieldD Zs 131 2 (.agg cs) = cs[2]? := by simp [fieldD, fieldOf, tz131, tz102, partD, TInfo.isAgg]
theorem ld132 : loadD Zs g 132 (.at cs) = if 3 ≤ cs.length then some (.agg (cs.take 3)) else none := by first | (simp only [loadD, tz132, pack, TInfo.isAgg, if_true]; done) | (simp only [loadD, tz132, pack, TInfo.isAgg, if_true]; rfl)
theorem lp132 : loadD Zs g 132 (.ptr r off) = match g r with | some (.cells _ cs) => (if 3 ≤ (cs.drop off).length then some (.agg ((cs.drop off).take 3)) else none) | _ => none := by first | (simp only [loadD, tz132, pack, TInfo.isAgg, if_true]; done) | (simp only [loadD, tz132, pack, TInfo.isAgg, if_true]; rfl)
theorem so132 : storeE Zs g 132 (.ptr r off) y = match y.cells with | some ys => (match g r with | some (.cells e cs) => if ys.length = 3 ∧ off + ys.length ≤ cs.length then some (.put r (.cells e (splice cs off ys))) else none | _ => none) | _ => none := by simp only [storeE, tz132]; cases y.cells <;> rfl
theorem al132 : allocR Zs 132 = some (.new (.cells 132 [.int .u32 0, .int .u32 0, .int .u32 0])) := by rfl
theorem mi132 : ifaceD Zs 132 x = some (.iface 132 x) := by first | (simp only [ifaceD, tz132]; done) | (simp only [ifaceD, tz132]; rfl)
theorem fa132_0 : fieldAddrD Zs 132 0 (.at cs) = some (.at (cs.drop 0)) := by simp [fieldAddrD, fieldOf, tz132, tz102]
theorem fp132_0 : fieldAddrD Zs 132 0 (.ptr r o') = some (.ptr r (o' + 0)) := by simp [fieldAddrD, fieldOf, tz132, tz102]
theorem fl132_0 : fieldD Zs 132 0 (.agg cs) = cs[0]? := by simp [fieldD, fieldOf, tz132, tz102, partD, TInfo.isAgg]
theorem fa132_1 : fieldAddrD Zs 132 1 (.at cs) = some (.at (cs.drop 1)) := by simp [fieldAddrD, fieldOf, tz132, tz102]
theorem fp132_1 : fieldAddrD Zs 132 1 (.ptr r o') = some (.ptr r (o' + 1)) := by simp [fieldAddrD, fieldOf, tz132, tz102]
theorem fl132_1 : fieldD Zs 132 1 (.agg cs) = cs[1]? := by simp [fieldD, fieldOf, tz132, tz102, partD, TInfo.isAgg]
theorem fa132_2 : fieldAddrD Zs 132 2 (.at cs) = some (.at (cs.drop 2)) := by simp [fieldAddrD, fieldOf, tz132, tz102]
theorem fp132_2 : fieldAddrD Zs 132 2 (.ptr r o') = some (.ptr r (o' + 2)) := by simp [fieldAddrD, fieldOf, tz132, tz102]
theorem fl132_2 : fieldD Zs 132 2 (.agg cs) = cs[2]? := by simp [fieldD, fieldOf, tz132, tz102, partD, TInfo.isAgg]
theorem ld134 : loadD Zs g 134 (.at cs) = cs[0]? := by first | (simp only [loadD, tz134, pack, TInfo.isAgg, Bool.false_eq_true, if_false, List.head?_eq_getElem?]; done) | (simp only [loadD, tz134, pack, TInfo.isAgg, Bool.false_eq_true, if_false, List.head?_eq_getElem?]; rfl)
theorem lp134 : loadD Zs g 134 (.ptr r off) = match g r with | some (.cells _ cs) => cs[off]? | _ => none := by first | (simp only [loadD, tz134, pack, TInfo.isAgg, Bool.false_eq_true, if_false, List.head?_drop]; done) | (simp only [loadD, tz134, pack, TInfo.isAgg, Bool.false_eq_true, if_false, List.head?_drop]; rfl)
theorem so134 : storeE Zs g 134 (.ptr r off) y = match y.cells with | some ys => (match g r with | some (.cells e cs) => if ys.length = 1 ∧ off + ys.length ≤ cs.length then some (.put r (.cells e (splice cs off ys))) else none | _ => none) | _ => none := by simp only [storeE, tz134]; cases y.cells <;> rfl
theorem al134 : allocR Zs 134 = some (.new (.cells 134 [.int .u64 0])) := by rfl
theorem mi134 : ifaceD Zs 134 x = some (.iface 134 x) := by first | (simp only [ifaceD, tz134]; done) | (simp only [ifaceD, tz134]; rfl)
theorem ld138 : loadD Zs g 138 (.at cs) = cs[0]? := by first | (simp only [loadD, tz138, pack, TInfo.isAgg, Bool.false_eq_true, if_false, List.head?_eq_getElem?]; done) | (simp only [loadD, tz138, pack, TInfo.isAgg, Bool.false_eq_true, if_false, List.head?_eq_getElem?]; rfl)
theorem lp138 : loadD Zs g 138 (.ptr r off) = match g r with | some (.cells _ cs) => cs[off]? | _ => none := by first | (simp only [loadD, tz138, pack, TInfo.isAgg, Bool.false_eq_true, if_false, List.head?_drop]; done) | (simp only [loadD, tz138, pack, TInfo.isAgg, Bool.false_eq_true, if_false, List.head?_drop]; rfl)
theorem so138 : storeE Zs g 138 (.ptr r off) y = match y.cells with | some ys => (match g r with | some (.cells e cs) => if ys.length = 1 ∧ off + ys.length ≤ cs.length then some (.put r (.cells e (splice cs off ys))) else none | _ => none) | _ => none := by simp only [storeE, tz138]; cases y.cells <;> rfl
theorem al138 : allocR Zs 138 = some (.new (.cells 138 [.nilptr])) := by rfl
theorem mi138 : ifaceD Zs 138 x = some (.iface 138 x) := by first | (simp only [ifaceD, tz138]; done) | (simp only [ifaceD, tz138]; rfl)
theorem peql138 : binD Zs .eql 138 (.ptr r off) .nilptr = some (.bool false) := by simp [binD, isNum, eqT, tz138]
theorem paeql138 : binD Zs .eql 138 (.at cs) .nilptr = some (.bool false) := by simp [binD, isNum, eqT, tz138]
theorem pneql138 : binD Zs .eql 138 .nilptr .nilptr = some (.bool true) := by simp [binD, isNum, eqT, tz138]
theorem pneq138 : binD Zs .neq 138 (.ptr r off) .nilptr = some (.bool true) := by simp [binD, isNum, eqT, tz138]
theorem paneq138 : binD Zs .neq 138 (.at cs) .nilptr = some (.bool true) := by simp [binD, isNum, eqT, tz138]
theorem pnneq138 : binD Zs .neq 138 .nilptr .nilptr = some (.bool false) := by simp [binD, isNum, eqT, tz138]
theorem cv3_93 : convD Zs 3 93 (.int k i) = some (.int .u64 (IntKind.wrap .u64 i)) := by first | (simp only [convD, tz3, tz93]; done) | (simp only [convD, tz3, tz93]; rfl)
theorem cv3_134 : convD Zs 3 134 (.int k i) = some (.int .u64 (IntKind.wrap .u64 i)) := by first | (simp only [convD, tz3, tz134]; done) | (simp only [convD, tz3, tz134]; rfl)
theorem cv5_3 : convD Zs 5 3 (.int k i) = some (.int .i64 (IntKind.wrap .i64 i)) := by first | (simp only [convD, tz5, tz3]; done) | (simp only [convD, tz5, tz3]; rfl)
theorem cv5_21 : convD Zs 5 21 (.int k i) = some (.int .i32 (IntKind.wrap .i32 i)) := by first | (simp only [convD, tz5, tz21]; done) | (simp only [convD, tz5, tz21]; rfl)
theorem cv5_102 : convD Zs 5 102 (.int k i) = some (.int .u32 (IntKind.wrap .u32 i)) := by first | (simp only [convD, tz5, tz102]; done) | (simp only [convD, tz5, tz102]; rfl)
theorem cv9_49 : convD Zs 9 49 (.str s) = some (.sl .no s.size (s.data.toList.map fun b => .int .u8 b.toNat)) := by first | (simp only [convD, tz9, tz49, tz5]; done) | (simp only [convD, tz9, tz49, tz5]; rfl)
theorem cv21_102 : convD Zs 21 102 (.int k i) = some (.int .u32 (IntKind.wrap .u32 i)) := by first | (simp only [convD, tz21, tz102]; done) | (simp only [convD, tz21, tz102]; rfl)
theorem cv21_127 : convD Zs 21 127 (.int k i) = some (.int .u16 (IntKind.wrap .u16 i)) := by first | (simp only [convD, tz21, tz127]; done) | (simp only [convD, tz21, tz127]; rfl)
theorem cv49_9 : convD Zs 49 9 (.sl o n cs) = if cs.length = n then (bytesD cs).map fun ns => .str (pushB ns) else none := by first | (simp only [convD, tz49, tz9, tz5]; done) | (simp only [convD, tz49, tz9, tz5]; rfl)
theorem cv93_3 : convD Zs 93 3 (.int k i) = some (.int .i64 (IntKind.wrap .i64 i)) := by first | (simp only [convD, tz93, tz3]; done) | (simp only [convD, tz93, tz3]; rfl)
theorem cv93_102 : convD Zs 93 102 (.int k i) = some (.int .u32 (IntKind.wrap .u32 i)) := by first | (simp only [convD, tz93, tz102]; done) | (simp only [convD, tz93, tz102]; rfl)
theorem cv102_5 : convD Zs 102 5 (.int k i) = some (.int .u8 (IntKind.wrap .u8 i)) := by first | (simp only [convD, tz102, tz5]; done) | (simp only [convD, tz102, tz5]; rfl)
theorem cv102_21 : convD Zs 102 21 (.int k i) = some (.int .i32 (IntKind.wrap .i32 i)) := by first | (simp only [convD, tz102, tz21]; done) | (simp only [convD, tz102, tz21]; rfl)
theorem cv119_5 : convD Zs 119 5 (.int k i) = some (.int .u8 (IntKind.wrap .u8 i)) := by first | (simp only [convD, tz119, tz5]; done) | (simp only [convD, tz119, tz5]; rfl)
theorem cv127_102 : convD Zs 127 102 (.int k i) = some (.int .u32 (IntKind.wrap .u32 i)) := by first | (simp only [convD, tz127, tz102]; done) | (simp only [convD, tz127, tz102]; rfl)
theorem km56_128 {ds : List D} {σ : Heap} {K : D → Heap → Prop} {h : Keep K} : kMeth Zs 56 "ablaut/token.length" x ds σ K h = kCall Zs 128 (x :: ds) σ K h := kMeth_some zm56_128
theorem ks56_128 {ds : List D} {σ : Heap} {K : D → Prop} {h : Keep K} : kSMeth Zs 56 "ablaut/token.length" x ds σ K h = kSCall Zs 128 (x :: ds) σ K h := kSMeth_some zm56_128
theorem md56_128 : methD Zs "ablaut/token.length" 56 = some (.meth "ablaut/token.length" 56) := by simp [methD, zm56_128]
theorem km58_130 {ds : List D} {σ : Heap} {K : D → Heap → Prop} {h : Keep K} : kMeth Zs 58 "ablaut/token.length" x ds σ K h = kCall Zs 130 (x :: ds) σ K h := kMeth_some zm58_130
theorem ks58_130 {ds : List D} {σ : Heap} {K : D → Prop} {h : Keep K} : kSMeth Zs 58 "ablaut/token.length" x ds σ K h = kSCall Zs 130 (x :: ds) σ K h := kSMeth_some zm58_130
theorem md58_130 : methD Zs "ablaut/token.length" 58 = some (.meth "ablaut/token.length" 58) := by simp [methD, zm58_130]
theorem km59_131 {ds : List D} {σ : Heap} {K : D → Heap → Prop} {h : Keep K} : kMeth Zs 59 "ablaut/token.length" x ds σ K h = kCall Zs 131 (x :: ds) σ K h := kMeth_some zm59_131
theorem ks59_131 {ds : List D} {σ : Heap} {K : D → Prop} {h : Keep K} : kSMeth Zs 59 "ablaut/token.length" x ds σ K h = kSCall Zs 131 (x :: ds) σ K h := kSMeth_some zm59_131
theorem md59_131 : methD Zs "ablaut/token.length" 59 = some (.meth "ablaut/token.length" 59) := by simp [methD, zm59_131]
theorem km60_132 {ds : List D} {σ : Heap} {K : D → Heap → Prop} {h : Keep K} : kMeth Zs 60 "ablaut/token.length" x ds σ K h = kCall Zs 132 (x :: ds) σ K h := kMeth_some zm60_132
theorem ks60_132 {ds : List D} {σ : Heap} {K : D → Prop} {h : Keep K} : kSMeth Zs 60 "ablaut/token.length" x ds σ K h = kSCall Zs 132 (x :: ds) σ K h := kSMeth_some zm60_132
theorem md60_132 : methD Zs "ablaut/token.length" 60 = some (.meth "ablaut/token.length" 60) := by simp [methD, zm60_132]
theorem ta56_56 : assertD Zs 56 (.iface 56 x) true = some (.tup [x, .bool true]) := by simp [assertD, tz56, zeroD, ofV]
theorem ta56_58 : assertD Zs 56 (.iface 58 x) true = some (.tup [.sl .nil 0 [], .bool false]) := by simp [assertD, tz56, zeroD, ofV]
theorem ta56_59 : assertD Zs 56 (.iface 59 x) true = some (.tup [.sl .nil 0 [], .bool false]) := by simp [assertD, tz56, zeroD, ofV]
theorem ta56_60 : assertD Zs 56 (.iface 60 x) true = some (.tup [.sl .nil 0 [], .bool false]) := by simp [assertD, tz56, zeroD, ofV]
theorem ta58_56 : assertD Zs 58 (.iface 56 x) true = some (.tup [.agg [], .bool false]) := by simp [assertD, tz58, zeroD, ofV]
theorem ta58_58 : assertD Zs 58 (.iface 58 x) true = some (.tup [x, .bool true]) := by simp [assertD, tz58, zeroD, ofV]
theorem ta58_59 : assertD Zs 58 (.iface 59 x) true = some (.tup [.agg [], .bool false]) := by simp [assertD, tz58, zeroD, ofV]
theorem ta58_60 : assertD Zs 58 (.iface 60 x) true = some (.tup [.agg [], .bool false]) := by simp [assertD, tz58, zeroD, ofV]
theorem ta59_56 : assertD Zs 59 (.iface 56 x) true = some (.tup [.agg [], .bool false]) := by simp [assertD, tz59, zeroD, ofV]
theorem ta59_58 : assertD Zs 59 (.iface 58 x) true = some (.tup [.agg [], .bool false]) := by simp [assertD, tz59, zeroD, ofV]
theorem ta59_59 : assertD Zs 59 (.iface 59 x) true = some (.tup [x, .bool true]) := by simp [assertD, tz59, zeroD, ofV]
theorem ta59_60 : assertD Zs 59 (.iface 60 x) true = some (.tup [.agg [], .bool false]) := by simp [assertD, tz59, zeroD, ofV]
theorem co0 : ofV (.string ⟨#[101, 105, 103, 104, 116, 101, 101, 110]⟩) = .str ⟨#[101, 105, 103, 104, 116, 101, 101, 110]⟩ := (rfl)
theorem co1 : ofV (.string ⟨#[101, 105, 103, 104, 116, 121]⟩) = .str ⟨#[101, 105, 103, 104, 116, 121]⟩ := (rfl)
theorem co2 : ofV (.string ⟨#[101, 105, 103, 104, 116]⟩) = .str ⟨#[101, 105, 103, 104, 116]⟩ := (rfl)
theorem co3 : ofV (.string ⟨#[101, 108, 101, 118, 101, 110]⟩) = .str ⟨#[101, 108, 101, 118, 101, 110]⟩ := (rfl)
theorem co4 : ofV (.string ⟨#[102, 105, 102, 116, 101, 101, 110]⟩) = .str ⟨#[102, 105, 102, 116, 101, 101, 110]⟩ := (rfl)
theorem co5 : ofV (.string ⟨#[102, 105, 102, 116, 121]⟩) = .str ⟨#[102, 105, 102, 116, 121]⟩ := (rfl)
theorem co6 : ofV (.string ⟨#[102, 105, 118, 101]⟩) = .str ⟨#[102, 105, 118, 101]⟩ := (rfl)
theorem co7 : ofV (.string ⟨#[102, 111, 114, 116, 121]⟩) = .str ⟨#[102, 111, 114, 116, 121]⟩ := (rfl)
theorem co8 : ofV (.string ⟨#[102, 111, 117, 114, 116, 101, 101, 110]⟩) = .str ⟨#[102, 111, 117, 114, 116, 101, 101, 110]⟩ := (rfl)
theorem co9 : ofV (.string ⟨#[102, 111, 117, 114]⟩) = .str ⟨#[102, 111, 117, 114]⟩ := (rfl)
theorem co10 : ofV (.string ⟨#[110, 105, 110, 101, 116, 101, 101, 110]⟩) = .str ⟨#[110, 105, 110, 101, 116, 101, 101, 110]⟩ := (rfl)
theorem co11 : ofV (.string ⟨#[110, 105, 110, 101, 116, 121]⟩) = .str ⟨#[110, 105, 110, 101, 116, 121]⟩ := (rfl)
theorem co12 : ofV (.string ⟨#[110, 105, 110, 101]⟩) = .str ⟨#[110, 105, 110, 101]⟩ := (rfl)
theorem co13 : ofV (.string ⟨#[111, 110, 101]⟩) = .str ⟨#[111, 110, 101]⟩ := (rfl)
theorem co14 : ofV (.string ⟨#[115, 101, 118, 101, 110, 116, 101, 101, 110]⟩) = .str ⟨#[115, 101, 118, 101, 110, 116, 101, 101, 110]⟩ := (rfl)
theorem co15 : ofV (.string ⟨#[115, 101, 118, 101, 110, 116, 121]⟩) = .str ⟨#[115, 101, 118, 101, 110, 116, 121]⟩ := (rfl)
theorem co16 : ofV (.string ⟨#[115, 101, 118, 101, 110]⟩) = .str ⟨#[115, 101, 118, 101, 110]⟩ := (rfl)
theorem co17 : ofV (.string ⟨#[115, 105, 120, 116, 101, 101, 110]⟩) = .str ⟨#[115, 105, 120, 116, 101, 101, 110]⟩ := (rfl)
theorem co18 : ofV (.string ⟨#[115, 105, 120, 116, 121]⟩) = .str ⟨#[115, 105, 120, 116, 121]⟩ := (rfl)
theorem co19 : ofV (.string ⟨#[115, 105, 120]⟩) = .str ⟨#[115, 105, 120]⟩ := (rfl)
theorem co20 : ofV (.string ⟨#[116, 101, 110]⟩) = .str ⟨#[116, 101, 110]⟩ := (rfl)
theorem co21 : ofV (.string ⟨#[116, 104, 105, 114, 116, 101, 101, 110]⟩) = .str ⟨#[116, 104, 105, 114, 116, 101, 101, 110]⟩ := (rfl)
theorem co22 : ofV (.string ⟨#[116, 104, 105, 114, 116, 121]⟩) = .str ⟨#[116, 104, 105, 114, 116, 121]⟩ := (rfl)
theorem co23 : ofV (.string ⟨#[116, 104, 114, 101, 101]⟩) = .str ⟨#[116, 104, 114, 101, 101]⟩ := (rfl)
theorem co24 : ofV (.string ⟨#[116, 119, 101, 108, 118, 101]⟩) = .str ⟨#[116, 119, 101, 108, 118, 101]⟩ := (rfl)
theorem co25 : ofV (.string ⟨#[116, 119, 101, 110, 116, 121, 32, 116, 104, 105, 114, 116, 121, 32, 102, 111, 114, 116, 121, 32, 102, 105, 102, 116, 121, 32, 115, 105, 120, 116, 121, 32, 115, 101, 118, 101, 110, 116, 121, 32, 101, 105, 103, 104, 116, 121, 32, 110, 105, 110, 101, 116, 121]⟩) = .str ⟨#[116, 119, 101, 110, 116, 121, 32, 116, 104, 105, 114, 116, 121, 32, 102, 111, 114, 116, 121, 32, 102, 105, 102, 116, 121, 32, 115, 105, 120, 116, 121, 32, 115, 101, 118, 101, 110, 116, 121, 32, 101, 105, 103, 104, 116, 121, 32, 110, 105, 110, 101, 116, 121]⟩ := (rfl)
theorem co26 : ofV (.string ⟨#[116, 119, 101, 110, 116, 121]⟩) = .str ⟨#[116, 119, 101, 110, 116, 121]⟩ := (rfl)
theorem co27 : ofV (.string ⟨#[116, 119, 111]⟩) = .str ⟨#[116, 119, 111]⟩ := (rfl)
theorem co28 : ofV (.string ⟨#[122, 101, 114, 111, 32, 111, 110, 101, 32, 116, 119, 111, 32, 116, 104, 114, 101, 101, 32, 102, 111, 117, 114, 32, 102, 105, 118, 101, 32, 115, 105, 120, 32, 115, 101, 118, 101, 110, 32, 101, 105, 103, 104, 116, 32, 110, 105, 110, 101, 32, 116, 101, 110, 32, 101, 108, 101, 118, 101, 110, 32, 116, 119, 101, 108, 118, 101, 32, 116, 104, 105, 114, 116, 101, 101, 110, 32, 102, 111, 117, 114, 116, 101, 101, 110, 32, 102, 105, 102, 116, 101, 101, 110, 32, 115, 105, 120, 116, 101, 101, 110, 32, 115, 101, 118, 101, 110, 116, 101, 101, 110, 32, 101, 105, 103, 104, 116, 101, 101, 110, 32, 110, 105, 110, 101, 116, 101, 101, 110]⟩) = .str ⟨#[122, 101, 114, 111, 32, 111, 110, 101, 32, 116, 119, 111, 32, 116, 104, 114, 101, 101, 32, 102, 111, 117, 114, 32, 102, 105, 118, 101, 32, 115, 105, 120, 32, 115, 101, 118, 101, 110, 32, 101, 105, 103, 104, 116, 32, 110, 105, 110, 101, 32, 116, 101, 110, 32, 101, 108, 101, 118, 101, 110, 32, 116, 119, 101, 108, 118, 101, 32, 116, 104, 105, 114, 116, 101, 101, 110, 32, 102, 111, 117, 114, 116, 101, 101, 110, 32, 102, 105, 102, 116, 101, 101, 110, 32, 115, 105, 120, 116, 101, 101, 110, 32, 115, 101, 118, 101, 110, 116, 101, 101, 110, 32, 101, 105, 103, 104, 116, 101, 101, 110, 32, 110, 105, 110, 101, 116, 101, 101, 110]⟩ := (rfl)
theorem co29 : ofV (.string ⟨#[122, 101, 114, 111]⟩) = .str ⟨#[122, 101, 114, 111]⟩ := (rfl)
theorem co30 : ofV (.string ⟨#[32, 104, 117, 110, 100, 114, 101, 100]⟩) = .str ⟨#[32, 104, 117, 110, 100, 114, 101, 100]⟩ := (rfl)
theorem co31 : ofV (.string ⟨#[32, 116, 104, 111, 117, 115, 97, 110, 100]⟩) = .str ⟨#[32, 116, 104, 111, 117, 115, 97, 110, 100]⟩ := (rfl)
theorem co32 : ofV (.string ⟨#[32, 97, 110, 100, 32]⟩) = .str ⟨#[32, 97, 110, 100, 32]⟩ := (rfl)
theorem co33 : ofV (.string ⟨#[32]⟩) = .str ⟨#[32]⟩ := (rfl)
theorem co34 : ofV (.string ⟨#[34, 41, 39]⟩) = .str ⟨#[34, 41, 39]⟩ := (rfl)
theorem co35 : ofV (.string ⟨#[39, 115]⟩) = .str ⟨#[39, 115]⟩ := (rfl)
theorem co36 : ofV (.string ⟨#[44]⟩) = .str ⟨#[44]⟩ := (rfl)
theorem co37 : ofV (.string ⟨#[45]⟩) = .str ⟨#[45]⟩ := (rfl)
theorem co38 : ofV (.string ⟨#[46, 33, 63]⟩) = .str ⟨#[46, 33, 63]⟩ := (rfl)
theorem co39 : ofV (.string ⟨#[46]⟩) = .str ⟨#[46]⟩ := (rfl)
theorem co40 : ofV (.string ⟨#[68, 114, 46, 32, 76, 101, 101, 39, 115, 32, 99, 97, 116, 46, 32, 73, 116, 32, 114, 97, 110, 46]⟩) = .str ⟨#[68, 114, 46, 32, 76, 101, 101, 39, 115, 32, 99, 97, 116, 46, 32, 73, 116, 32, 114, 97, 110, 46]⟩ := (rfl)
theorem co41 : ofV (.string ⟨#[68, 114, 46]⟩) = .str ⟨#[68, 114, 46]⟩ := (rfl)
theorem co42 : ofV (.string ⟨#[97, 110, 100, 32]⟩) = .str ⟨#[97, 110, 100, 32]⟩ := (rfl)
theorem co43 : ofV (.string ⟨#[]⟩) = .str ⟨#[]⟩ := (rfl)
end
end Go.Proofs.YtapkbkniooleaaaDoor.Vs
