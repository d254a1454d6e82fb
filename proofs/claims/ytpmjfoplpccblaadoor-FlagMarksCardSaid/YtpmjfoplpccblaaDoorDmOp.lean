/- Operations at the seat's types, written by dgen.py. -/
import Derived.Test.YtpmjfoplpccblaaDoorDmTy
import Derived.Test.YtpmjfoplpccblaaDoorDmLib
namespace Go.Proofs.YtpmjfoplpccblaaDoor.Vs
set_option linter.unusedVariables false
set_option linter.unusedSimpArgs false
section
variable {g : Nat → Option AO} {cs cs' : List D} {x y x3 : D} {o : Own} {n n' nx : Nat} {r off o' : Nat} {i : Int} {k : IntKind} {s : ByteArray} {lo hi : Option D}
theorem ld3 : loadD Zs g 3 (.at cs) = cs[0]? := by first | (simp only [loadD, tz3, pack, TInfo.isAgg, Bool.false_eq_true, if_false, List.head?_eq_getElem?]; done) | (simp only [loadD, tz3, pack, TInfo.isAgg, Bool.false_eq_true, if_false, List.head?_eq_getElem?]; rfl)
theorem lp3 : loadD Zs g 3 (.ptr r off) = match g r with | some (.cells _ cs) => cs[off]? | _ => none := by first | (simp only [loadD, tz3, pack, TInfo.isAgg, Bool.false_eq_true, if_false, List.head?_drop]; done) | (simp only [loadD, tz3, pack, TInfo.isAgg, Bool.false_eq_true, if_false, List.head?_drop]; rfl)
theorem so3 : storeE Zs g 3 (.ptr r off) y = match y.cells with | some ys => (match g r with | some (.cells e cs) => if ys.length = 1 ∧ off + ys.length ≤ cs.length then some (.put r (.cells e (splice cs off ys))) else none | _ => none) | _ => none := by simp only [storeE, tz3]; cases y.cells <;> rfl
theorem al3 : allocR Zs 3 = some (.new (.cells 3 [.int .i64 0])) := by rfl
theorem mi3 : ifaceD Zs 3 x = some (.iface 3 x) := by first | (simp only [ifaceD, tz3]; done) | (simp only [ifaceD, tz3]; rfl)
theorem ld4 : loadD Zs g 4 (.at cs) = cs[0]? := by first | (simp only [loadD, tz4, pack, TInfo.isAgg, Bool.false_eq_true, if_false, List.head?_eq_getElem?]; done) | (simp only [loadD, tz4, pack, TInfo.isAgg, Bool.false_eq_true, if_false, List.head?_eq_getElem?]; rfl)
theorem lp4 : loadD Zs g 4 (.ptr r off) = match g r with | some (.cells _ cs) => cs[off]? | _ => none := by first | (simp only [loadD, tz4, pack, TInfo.isAgg, Bool.false_eq_true, if_false, List.head?_drop]; done) | (simp only [loadD, tz4, pack, TInfo.isAgg, Bool.false_eq_true, if_false, List.head?_drop]; rfl)
theorem so4 : storeE Zs g 4 (.ptr r off) y = match y.cells with | some ys => (match g r with | some (.cells e cs) => if ys.length = 1 ∧ off + ys.length ≤ cs.length then some (.put r (.cells e (splice cs off ys))) else none | _ => none) | _ => none := by simp only [storeE, tz4]; cases y.cells <;> rfl
theorem al4 : allocR Zs 4 = some (.new (.cells 4 [.bool false])) := by rfl
theorem mi4 : ifaceD Zs 4 x = some (.iface 4 x) := by first | (simp only [ifaceD, tz4]; done) | (simp only [ifaceD, tz4]; rfl)
theorem bq4 {a b : Bool} : binD Zs .eql 4 (.bool a) (.bool b) = some (.bool (a == b)) := by simp [binD, isNum, eqT, tz4, eqS]
theorem bn4 {a b : Bool} : binD Zs .neq 4 (.bool a) (.bool b) = some (.bool (!(a == b))) := by simp [binD, isNum, eqT, tz4, eqS]
theorem ld5 : loadD Zs g 5 (.at cs) = cs[0]? := by first | (simp only [loadD, tz5, pack, TInfo.isAgg, Bool.false_eq_true, if_false, List.head?_eq_getElem?]; done) | (simp only [loadD, tz5, pack, TInfo.isAgg, Bool.false_eq_true, if_false, List.head?_eq_getElem?]; rfl)
theorem lp5 : loadD Zs g 5 (.ptr r off) = match g r with | some (.cells _ cs) => cs[off]? | _ => none := by first | (simp only [loadD, tz5, pack, TInfo.isAgg, Bool.false_eq_true, if_false, List.head?_drop]; done) | (simp only [loadD, tz5, pack, TInfo.isAgg, Bool.false_eq_true, if_false, List.head?_drop]; rfl)
theorem so5 : storeE Zs g 5 (.ptr r off) y = match y.cells with | some ys => (match g r with | some (.cells e cs) => if ys.length = 1 ∧ off + ys.length ≤ cs.length then some (.put r (.cells e (splice cs off ys))) else none | _ => none) | _ => none := by simp only [storeE, tz5]; cases y.cells <;> rfl
theorem al5 : allocR Zs 5 = some (.new (.cells 5 [.int .u8 0])) := by rfl
theorem mi5 : ifaceD Zs 5 x = some (.iface 5 x) := by first | (simp only [ifaceD, tz5]; done) | (simp only [ifaceD, tz5]; rfl)
theorem ld9 : loadD Zs g 9 (.at cs) = cs[0]? := by first | (simp only [loadD, tz9, pack, TInfo.isAgg, Bool.false_eq_true, if_false, List.head?_eq_getElem?]; done) | (simp only [loadD, tz9, pack, TInfo.isAgg, Bool.false_eq_true, if_false, List.head?_eq_getElem?]; rfl)
theorem lp9 : loadD Zs g 9 (.ptr r off) = match g r with | some (.cells _ cs) => cs[off]? | _ => none := by first | (simp only [loadD, tz9, pack, TInfo.isAgg, Bool.false_eq_true, if_false, List.head?_drop]; done) | (simp only [loadD, tz9, pack, TInfo.isAgg, Bool.false_eq_true, if_false, List.head?_drop]; rfl)
theorem so9 : storeE Zs g 9 (.ptr r off) y = match y.cells with | some ys => (match g r with | some (.cells e cs) => if ys.length = 1 ∧ off + ys.length ≤ cs.length then some (.put r (.cells e (splice cs off ys))) else none | _ => none) | _ => none := by simp only [storeE, tz9]; cases y.cells <;> rfl
theorem al9 : allocR Zs 9 = some (.new (.cells 9 [.str ⟨#[]⟩])) := by rfl
theorem mi9 : ifaceD Zs 9 x = some (.iface 9 x) := by first | (simp only [ifaceD, tz9]; done) | (simp only [ifaceD, tz9]; rfl)
theorem ln9 : lenD Zs g #[9] (.str s) = some (.int .i64 s.size) := by simp [lenD, tz9]
theorem ie9 : indexD Zs 9 (.str s) (.int k i) = if 0 ≤ i ∧ i < s.size then some (.int .u8 (byteAt s i.toNat)) else none := by first | (simp only [indexD, tz9]; done) | (simp only [indexD, tz9]; rfl)
theorem sl9 : sliceD Zs g 9 (.str s) lo hi none = match bound lo 0, bound hi s.size with | some l, some h => if 0 ≤ l ∧ l ≤ h ∧ h ≤ s.size then some (.str (s.extract l.toNat h.toNat)) else none | _, _ => none := by first | (simp only [sliceD, tz9]; done) | (simp only [sliceD, tz9]; rfl)
theorem ld22 : loadD Zs g 22 (.at cs) = cs[0]? := by first | (simp only [loadD, tz22, pack, TInfo.isAgg, Bool.false_eq_true, if_false, List.head?_eq_getElem?]; done) | (simp only [loadD, tz22, pack, TInfo.isAgg, Bool.false_eq_true, if_false, List.head?_eq_getElem?]; rfl)
theorem lp22 : loadD Zs g 22 (.ptr r off) = match g r with | some (.cells _ cs) => cs[off]? | _ => none := by first | (simp only [loadD, tz22, pack, TInfo.isAgg, Bool.false_eq_true, if_false, List.head?_drop]; done) | (simp only [loadD, tz22, pack, TInfo.isAgg, Bool.false_eq_true, if_false, List.head?_drop]; rfl)
theorem so22 : storeE Zs g 22 (.ptr r off) y = match y.cells with | some ys => (match g r with | some (.cells e cs) => if ys.length = 1 ∧ off + ys.length ≤ cs.length then some (.put r (.cells e (splice cs off ys))) else none | _ => none) | _ => none := by simp only [storeE, tz22]; cases y.cells <;> rfl
theorem al22 : allocR Zs 22 = some (.new (.cells 22 [.sl .nil 0 []])) := by rfl
theorem mi22 : ifaceD Zs 22 x = some (.iface 22 x) := by first | (simp only [ifaceD, tz22]; done) | (simp only [ifaceD, tz22]; rfl)
theorem mk22 {k' : IntKind} {m : Int} : makeSliceR Zs 0 22 (.int k i) (.int k' m) nx = if 0 ≤ i ∧ i ≤ m ∧ ((16 : Nat) : Int) * m ≤ 281474976710656 ∧ m ≤ (big : Int) then some (.row nx 0 i.toNat (some m.toNat) 1, .new (.cells 9 (List.replicate m.toNat (.str ⟨#[]⟩)))) else none := by exact mk_one tz22 tz9 rfl rfl rfl
theorem bs22_1 : buildSliceR Zs 0 22 1 [(0, x)] nx = lit1 x := by exact build1 tz22 tz9 rfl rfl rfl
theorem bs22_2 : buildSliceR Zs 0 22 2 [(0, x), (1, y)] nx = lit2 x y := by exact build2 tz22 tz9 rfl rfl rfl
theorem bs22_3 : buildSliceR Zs 0 22 3 [(0, x), (1, y), (2, x3)] nx = lit3 x y x3 := by exact build3 tz22 tz9 rfl rfl rfl
theorem ln22 : lenD Zs g #[22] (.sl o n cs) = some (.int .i64 n) := by simp [lenD, tz22]
theorem cpn22 : capD Zs #[22] (.sl .nil n cs) = some (.int .i64 0) := by simp [capD, tz22]
theorem cpr22 {kk z0 : Nat} : capD Zs #[22] (.row r off n (some kk) z0) = some (.int .i64 kk) := by simp [capD, tz22]
theorem lr22 {c0 : Option Nat} {z0 : Nat} : lenD Zs g #[22] (.row r off n c0 z0) = some (.int .i64 n) := by simp [lenD, tz22]
theorem ix22 : indexAddrD Zs 22 (.sl o n cs) (.int k i) = if (0 ≤ i ∧ i < n) ∧ 0 < cs.length then some (.at (cs.drop (i.toNat))) else none := by first | (simp only [indexAddrD, tz22, tz9, Nat.mul_one]; done) | (simp only [indexAddrD, tz22, tz9, Nat.mul_one]; rfl)
theorem ir22 {c0 : Option Nat} {z0 : Nat} : indexAddrD Zs 22 (.row r off n c0 z0) (.int k i) = if 0 ≤ i ∧ i < n then some (.ptr r (off + i.toNat)) else none := by first | (simp only [indexAddrD, tz22, tz9, Nat.mul_one]; done) | (simp only [indexAddrD, tz22, tz9, Nat.mul_one]; rfl)
theorem sl22 : sliceD Zs g 22 (.sl o n cs) lo hi none = match bound lo 0, bound hi n with | some l, some h => if 0 ≤ l ∧ l ≤ h ∧ h ≤ n ∧ cs.length = n then some (.sl (cutOwn o) (h.toNat - l.toNat) ((cs.drop (l.toNat)).take ((h.toNat - l.toNat)))) else none | _, _ => none := by simp only [sliceD, tz22, tz9, Nat.mul_one]; cases bound lo 0 <;> cases bound hi n <;> simp only [Nat.mul_one]
theorem en22 : binD Zs .eql 22 (.sl o n cs) (.sl .nil n' cs') = (nilOf o n).map .bool := by simp [binD, isNum, eqT, tz22]
theorem enr22 {c0 : Option Nat} {z0 : Nat} : binD Zs .eql 22 (.row r off n c0 z0) (.sl .nil n' cs') = some (.bool false) := by simp [binD, isNum, eqT, tz22]
theorem nn22 : binD Zs .neq 22 (.sl o n cs) (.sl .nil n' cs') = (nilOf o n).map fun b => .bool (!b) := by simp [binD, isNum, eqT, tz22]
theorem nnr22 {c0 : Option Nat} {z0 : Nat} : binD Zs .neq 22 (.row r off n c0 z0) (.sl .nil n' cs') = some (.bool true) := by simp [binD, isNum, eqT, tz22]
theorem ld25 : loadD Zs g 25 (.at cs) = cs[0]? := by first | (simp only [loadD, tz25, pack, TInfo.isAgg, Bool.false_eq_true, if_false, List.head?_eq_getElem?]; done) | (simp only [loadD, tz25, pack, TInfo.isAgg, Bool.false_eq_true, if_false, List.head?_eq_getElem?]; rfl)
theorem lp25 : loadD Zs g 25 (.ptr r off) = match g r with | some (.cells _ cs) => cs[off]? | _ => none := by first | (simp only [loadD, tz25, pack, TInfo.isAgg, Bool.false_eq_true, if_false, List.head?_drop]; done) | (simp only [loadD, tz25, pack, TInfo.isAgg, Bool.false_eq_true, if_false, List.head?_drop]; rfl)
theorem so25 : storeE Zs g 25 (.ptr r off) y = match y.cells with | some ys => (match g r with | some (.cells e cs) => if ys.length = 1 ∧ off + ys.length ≤ cs.length then some (.put r (.cells e (splice cs off ys))) else none | _ => none) | _ => none := by simp only [storeE, tz25]; cases y.cells <;> rfl
theorem al25 : allocR Zs 25 = some (.new (.cells 25 [.nilfunc])) := by rfl
theorem mi25 : ifaceD Zs 25 x = some (.iface 25 x) := by first | (simp only [ifaceD, tz25]; done) | (simp only [ifaceD, tz25]; rfl)
theorem ld26 : loadD Zs g 26 (.at cs) = cs[0]? := by first | (simp only [loadD, tz26, pack, TInfo.isAgg, Bool.false_eq_true, if_false, List.head?_eq_getElem?]; done) | (simp only [loadD, tz26, pack, TInfo.isAgg, Bool.false_eq_true, if_false, List.head?_eq_getElem?]; rfl)
theorem lp26 : loadD Zs g 26 (.ptr r off) = match g r with | some (.cells _ cs) => cs[off]? | _ => none := by first | (simp only [loadD, tz26, pack, TInfo.isAgg, Bool.false_eq_true, if_false, List.head?_drop]; done) | (simp only [loadD, tz26, pack, TInfo.isAgg, Bool.false_eq_true, if_false, List.head?_drop]; rfl)
theorem so26 : storeE Zs g 26 (.ptr r off) y = match y.cells with | some ys => (match g r with | some (.cells e cs) => if ys.length = 1 ∧ off + ys.length ≤ cs.length then some (.put r (.cells e (splice cs off ys))) else none | _ => none) | _ => none := by simp only [storeE, tz26]; cases y.cells <;> rfl
theorem al26 : allocR Zs 26 = some (.new (.cells 26 [.int .i64 0])) := by rfl
theorem mi26 : ifaceD Zs 26 x = some (.iface 26 x) := by first | (simp only [ifaceD, tz26]; done) | (simp only [ifaceD, tz26]; rfl)
theorem ld31 : loadD Zs g 31 (.at cs) = cs[0]? := by first | (simp only [loadD, tz31, pack, TInfo.isAgg, Bool.false_eq_true, if_false, List.head?_eq_getElem?]; done) | (simp only [loadD, tz31, pack, TInfo.isAgg, Bool.false_eq_true, if_false, List.head?_eq_getElem?]; rfl)
theorem lp31 : loadD Zs g 31 (.ptr r off) = match g r with | some (.cells _ cs) => cs[off]? | _ => none := by first | (simp only [loadD, tz31, pack, TInfo.isAgg, Bool.false_eq_true, if_false, List.head?_drop]; done) | (simp only [loadD, tz31, pack, TInfo.isAgg, Bool.false_eq_true, if_false, List.head?_drop]; rfl)
theorem so31 : storeE Zs g 31 (.ptr r off) y = match y.cells with | some ys => (match g r with | some (.cells e cs) => if ys.length = 1 ∧ off + ys.length ≤ cs.length then some (.put r (.cells e (splice cs off ys))) else none | _ => none) | _ => none := by simp only [storeE, tz31]; cases y.cells <;> rfl
theorem al31 : allocR Zs 31 = some (.new (.cells 31 [.sl .nil 0 []])) := by rfl
theorem mi31 : ifaceD Zs 31 x = some (.iface 31 x) := by first | (simp only [ifaceD, tz31]; done) | (simp only [ifaceD, tz31]; rfl)
theorem mk31 {k' : IntKind} {m : Int} : makeSliceR Zs 0 31 (.int k i) (.int k' m) nx = if 0 ≤ i ∧ i ≤ m ∧ ((24 : Nat) : Int) * m ≤ 281474976710656 ∧ m ≤ (big : Int) then some (.row nx 0 i.toNat (some m.toNat) 1, .new (.cells 22 (List.replicate m.toNat (.sl .nil 0 [])))) else none := by exact mk_one tz31 tz22 rfl rfl rfl
theorem bs31_1 : buildSliceR Zs 0 31 1 [(0, x)] nx = lit1 x := by exact build1 tz31 tz22 rfl rfl rfl
theorem bs31_2 : buildSliceR Zs 0 31 2 [(0, x), (1, y)] nx = lit2 x y := by exact build2 tz31 tz22 rfl rfl rfl
theorem bs31_3 : buildSliceR Zs 0 31 3 [(0, x), (1, y), (2, x3)] nx = lit3 x y x3 := by exact build3 tz31 tz22 rfl rfl rfl
theorem ln31 : lenD Zs g #[31] (.sl o n cs) = some (.int .i64 n) := by simp [lenD, tz31]
theorem cpn31 : capD Zs #[31] (.sl .nil n cs) = some (.int .i64 0) := by simp [capD, tz31]
theorem cpr31 {kk z0 : Nat} : capD Zs #[31] (.row r off n (some kk) z0) = some (.int .i64 kk) := by simp [capD, tz31]
theorem lr31 {c0 : Option Nat} {z0 : Nat} : lenD Zs g #[31] (.row r off n c0 z0) = some (.int .i64 n) := by simp [lenD, tz31]
theorem ix31 : indexAddrD Zs 31 (.sl o n cs) (.int k i) = if (0 ≤ i ∧ i < n) ∧ 0 < cs.length then some (.at (cs.drop (i.toNat))) else none := by first | (simp only [indexAddrD, tz31, tz22, Nat.mul_one]; done) | (simp only [indexAddrD, tz31, tz22, Nat.mul_one]; rfl)
theorem ir31 {c0 : Option Nat} {z0 : Nat} : indexAddrD Zs 31 (.row r off n c0 z0) (.int k i) = if 0 ≤ i ∧ i < n then some (.ptr r (off + i.toNat)) else none := by first | (simp only [indexAddrD, tz31, tz22, Nat.mul_one]; done) | (simp only [indexAddrD, tz31, tz22, Nat.mul_one]; rfl)
theorem sl31 : sliceD Zs g 31 (.sl o n cs) lo hi none = match bound lo 0, bound hi n with | some l, some h => if 0 ≤ l ∧ l ≤ h ∧ h ≤ n ∧ cs.length = n then some (.sl (cutOwn o) (h.toNat - l.toNat) ((cs.drop (l.toNat)).take ((h.toNat - l.toNat)))) else none | _, _ => none := by simp only [sliceD, tz31, tz22, Nat.mul_one]; cases bound lo 0 <;> cases bound hi n <;> simp only [Nat.mul_one]
theorem en31 : binD Zs .eql 31 (.sl o n cs) (.sl .nil n' cs') = (nilOf o n).map .bool := by simp [binD, isNum, eqT, tz31]
theorem enr31 {c0 : Option Nat} {z0 : Nat} : binD Zs .eql 31 (.row r off n c0 z0) (.sl .nil n' cs') = some (.bool false) := by simp [binD, isNum, eqT, tz31]
theorem nn31 : binD Zs .neq 31 (.sl o n cs) (.sl .nil n' cs') = (nilOf o n).map fun b => .bool (!b) := by simp [binD, isNum, eqT, tz31]
theorem nnr31 {c0 : Option Nat} {z0 : Nat} : binD Zs .neq 31 (.row r off n c0 z0) (.sl .nil n' cs') = some (.bool true) := by simp [binD, isNum, eqT, tz31]
theorem ld34 : loadD Zs g 34 (.at cs) = if 3 ≤ cs.length then some (.agg (cs.take 3)) else none := by first | (simp only [loadD, tz34, pack, TInfo.isAgg, if_true]; done) | (simp only [loadD, tz34, pack, TInfo.isAgg, if_true]; rfl)
theorem lp34 : loadD Zs g 34 (.ptr r off) = match g r with | some (.cells _ cs) => (if 3 ≤ (cs.drop off).length then some (.agg ((cs.drop off).take 3)) else none) | _ => none := by first | (simp only [loadD, tz34, pack, TInfo.isAgg, if_true]; done) | (simp only [loadD, tz34, pack, TInfo.isAgg, if_true]; rfl)
theorem so34 : storeE Zs g 34 (.ptr r off) y = match y.cells with | some ys => (match g r with | some (.cells e cs) => if ys.length = 3 ∧ off + ys.length ≤ cs.length then some (.put r (.cells e (splice cs off ys))) else none | _ => none) | _ => none := by simp only [storeE, tz34]; cases y.cells <;> rfl
theorem al34 : allocR Zs 34 = some (.new (.cells 34 [.int .u8 0, .str ⟨#[]⟩, .str ⟨#[]⟩])) := by rfl
theorem mi34 : ifaceD Zs 34 x = some (.iface 34 x) := by first | (simp only [ifaceD, tz34]; done) | (simp only [ifaceD, tz34]; rfl)
theorem fa34_0 : fieldAddrD Zs 34 0 (.at cs) = some (.at (cs.drop 0)) := by simp [fieldAddrD, fieldOf, tz34, tz5]
theorem fp34_0 : fieldAddrD Zs 34 0 (.ptr r o') = some (.ptr r (o' + 0)) := by simp [fieldAddrD, fieldOf, tz34, tz5]
theorem fl34_0 : fieldD Zs 34 0 (.agg cs) = cs[0]? := by simp [fieldD, fieldOf, tz34, tz5, partD, TInfo.isAgg]
theorem fa34_1 : fieldAddrD Zs 34 1 (.at cs) = some (.at (cs.drop 1)) := by simp [fieldAddrD, fieldOf, tz34, tz9]
theorem fp34_1 : fieldAddrD Zs 34 1 (.ptr r o') = some (.ptr r (o' + 1)) := by simp [fieldAddrD, fieldOf, tz34, tz9]
theorem fl34_1 : fieldD Zs 34 1 (.agg cs) = cs[1]? := by simp [fieldD, fieldOf, tz34, tz9, partD, TInfo.isAgg]
theorem fa34_2 : fieldAddrD Zs 34 2 (.at cs) = some (.at (cs.drop 2)) := by simp [fieldAddrD, fieldOf, tz34, tz9]
theorem fp34_2 : fieldAddrD Zs 34 2 (.ptr r o') = some (.ptr r (o' + 2)) := by simp [fieldAddrD, fieldOf, tz34, tz9]
theorem fl34_2 : fieldD Zs 34 2 (.agg cs) = cs[2]? := by simp [fieldD, fieldOf, tz34, tz9, partD, TInfo.isAgg]
theorem ld35 : loadD Zs g 35 (.at cs) = if 3 ≤ cs.length then some (.agg (cs.take 3)) else none := by first | (simp only [loadD, tz35, pack, TInfo.isAgg, if_true]; done) | (simp only [loadD, tz35, pack, TInfo.isAgg, if_true]; rfl)
theorem lp35 : loadD Zs g 35 (.ptr r off) = match g r with | some (.cells _ cs) => (if 3 ≤ (cs.drop off).length then some (.agg ((cs.drop off).take 3)) else none) | _ => none := by first | (simp only [loadD, tz35, pack, TInfo.isAgg, if_true]; done) | (simp only [loadD, tz35, pack, TInfo.isAgg, if_true]; rfl)
theorem so35 : storeE Zs g 35 (.ptr r off) y = match y.cells with | some ys => (match g r with | some (.cells e cs) => if ys.length = 3 ∧ off + ys.length ≤ cs.length then some (.put r (.cells e (splice cs off ys))) else none | _ => none) | _ => none := by simp only [storeE, tz35]; cases y.cells <;> rfl
theorem al35 : allocR Zs 35 = some (.new (.cells 35 [.int .u8 0, .str ⟨#[]⟩, .str ⟨#[]⟩])) := by rfl
theorem mi35 : ifaceD Zs 35 x = some (.iface 35 x) := by first | (simp only [ifaceD, tz35]; done) | (simp only [ifaceD, tz35]; rfl)
theorem fa35_0 : fieldAddrD Zs 35 0 (.at cs) = some (.at (cs.drop 0)) := by simp [fieldAddrD, fieldOf, tz35, tz5]
theorem fp35_0 : fieldAddrD Zs 35 0 (.ptr r o') = some (.ptr r (o' + 0)) := by simp [fieldAddrD, fieldOf, tz35, tz5]
theorem fl35_0 : fieldD Zs 35 0 (.agg cs) = cs[0]? := by simp [fieldD, fieldOf, tz35, tz5, partD, TInfo.isAgg]
theorem fa35_1 : fieldAddrD Zs 35 1 (.at cs) = some (.at (cs.drop 1)) := by simp [fieldAddrD, fieldOf, tz35, tz9]
theorem fp35_1 : fieldAddrD Zs 35 1 (.ptr r o') = some (.ptr r (o' + 1)) := by simp [fieldAddrD, fieldOf, tz35, tz9]
theorem fl35_1 : fieldD Zs 35 1 (.agg cs) = cs[1]? := by simp [fieldD, fieldOf, tz35, tz9, partD, TInfo.isAgg]
theorem fa35_2 : fieldAddrD Zs 35 2 (.at cs) = some (.at (cs.drop 2)) := by simp [fieldAddrD, fieldOf, tz35, tz9]
theorem fp35_2 : fieldAddrD Zs 35 2 (.ptr r o') = some (.ptr r (o' + 2)) := by simp [fieldAddrD, fieldOf, tz35, tz9]
theorem fl35_2 : fieldD Zs 35 2 (.agg cs) = cs[2]? := by simp [fieldD, fieldOf, tz35, tz9, partD, TInfo.isAgg]
theorem ld38 : loadD Zs g 38 (.at cs) = if 4 ≤ cs.length then some (.agg (cs.take 4)) else none := by first | (simp only [loadD, tz38, pack, TInfo.isAgg, if_true]; done) | (simp only [loadD, tz38, pack, TInfo.isAgg, if_true]; rfl)
theorem lp38 : loadD Zs g 38 (.ptr r off) = match g r with | some (.cells _ cs) => (if 4 ≤ (cs.drop off).length then some (.agg ((cs.drop off).take 4)) else none) | _ => none := by first | (simp only [loadD, tz38, pack, TInfo.isAgg, if_true]; done) | (simp only [loadD, tz38, pack, TInfo.isAgg, if_true]; rfl)
theorem so38 : storeE Zs g 38 (.ptr r off) y = match y.cells with | some ys => (match g r with | some (.cells e cs) => if ys.length = 4 ∧ off + ys.length ≤ cs.length then some (.put r (.cells e (splice cs off ys))) else none | _ => none) | _ => none := by simp only [storeE, tz38]; cases y.cells <;> rfl
theorem al38 : allocR Zs 38 = some (.new (.cells 38 [.int .u8 0, .str ⟨#[]⟩, .str ⟨#[]⟩, .bool false])) := by rfl
theorem mi38 : ifaceD Zs 38 x = some (.iface 38 x) := by first | (simp only [ifaceD, tz38]; done) | (simp only [ifaceD, tz38]; rfl)
theorem fa38_0 : fieldAddrD Zs 38 0 (.at cs) = some (.at (cs.drop 0)) := by simp [fieldAddrD, fieldOf, tz38, tz5]
theorem fp38_0 : fieldAddrD Zs 38 0 (.ptr r o') = some (.ptr r (o' + 0)) := by simp [fieldAddrD, fieldOf, tz38, tz5]
theorem fl38_0 : fieldD Zs 38 0 (.agg cs) = cs[0]? := by simp [fieldD, fieldOf, tz38, tz5, partD, TInfo.isAgg]
theorem fa38_1 : fieldAddrD Zs 38 1 (.at cs) = some (.at (cs.drop 1)) := by simp [fieldAddrD, fieldOf, tz38, tz9]
theorem fp38_1 : fieldAddrD Zs 38 1 (.ptr r o') = some (.ptr r (o' + 1)) := by simp [fieldAddrD, fieldOf, tz38, tz9]
theorem fl38_1 : fieldD Zs 38 1 (.agg cs) = cs[1]? := by simp [fieldD, fieldOf, tz38, tz9, partD, TInfo.isAgg]
theorem fa38_2 : fieldAddrD Zs 38 2 (.at cs) = some (.at (cs.drop 2)) := by simp [fieldAddrD, fieldOf, tz38, tz9]
theorem fp38_2 : fieldAddrD Zs 38 2 (.ptr r o') = some (.ptr r (o' + 2)) := by simp [fieldAddrD, fieldOf, tz38, tz9]
theorem fl38_2 : fieldD Zs 38 2 (.agg cs) = cs[2]? := by simp [fieldD, fieldOf, tz38, tz9, partD, TInfo.isAgg]
theorem fa38_3 : fieldAddrD Zs 38 3 (.at cs) = some (.at (cs.drop 3)) := by simp [fieldAddrD, fieldOf, tz38, tz4]
theorem fp38_3 : fieldAddrD Zs 38 3 (.ptr r o') = some (.ptr r (o' + 3)) := by simp [fieldAddrD, fieldOf, tz38, tz4]
theorem fl38_3 : fieldD Zs 38 3 (.agg cs) = cs[3]? := by simp [fieldD, fieldOf, tz38, tz4, partD, TInfo.isAgg]
theorem ld39 : loadD Zs g 39 (.at cs) = if 4 ≤ cs.length then some (.agg (cs.take 4)) else none := by first | (simp only [loadD, tz39, pack, TInfo.isAgg, if_true]; done) | (simp only [loadD, tz39, pack, TInfo.isAgg, if_true]; rfl)
theorem lp39 : loadD Zs g 39 (.ptr r off) = match g r with | some (.cells _ cs) => (if 4 ≤ (cs.drop off).length then some (.agg ((cs.drop off).take 4)) else none) | _ => none := by first | (simp only [loadD, tz39, pack, TInfo.isAgg, if_true]; done) | (simp only [loadD, tz39, pack, TInfo.isAgg, if_true]; rfl)
theorem so39 : storeE Zs g 39 (.ptr r off) y = match y.cells with | some ys => (match g r with | some (.cells e cs) => if ys.length = 4 ∧ off + ys.length ≤ cs.length then some (.put r (.cells e (splice cs off ys))) else none | _ => none) | _ => none := by simp only [storeE, tz39]; cases y.cells <;> rfl
theorem al39 : allocR Zs 39 = some (.new (.cells 39 [.int .u8 0, .str ⟨#[]⟩, .str ⟨#[]⟩, .bool false])) := by rfl
theorem mi39 : ifaceD Zs 39 x = some (.iface 39 x) := by first | (simp only [ifaceD, tz39]; done) | (simp only [ifaceD, tz39]; rfl)
theorem fa39_0 : fieldAddrD Zs 39 0 (.at cs) = some (.at (cs.drop 0)) := by simp [fieldAddrD, fieldOf, tz39, tz5]
theorem fp39_0 : fieldAddrD Zs 39 0 (.ptr r o') = some (.ptr r (o' + 0)) := by simp [fieldAddrD, fieldOf, tz39, tz5]
theorem fl39_0 : fieldD Zs 39 0 (.agg cs) = cs[0]? := by simp [fieldD, fieldOf, tz39, tz5, partD, TInfo.isAgg]
theorem fa39_1 : fieldAddrD Zs 39 1 (.at cs) = some (.at (cs.drop 1)) := by simp [fieldAddrD, fieldOf, tz39, tz9]
theorem fp39_1 : fieldAddrD Zs 39 1 (.ptr r o') = some (.ptr r (o' + 1)) := by simp [fieldAddrD, fieldOf, tz39, tz9]
theorem fl39_1 : fieldD Zs 39 1 (.agg cs) = cs[1]? := by simp [fieldD, fieldOf, tz39, tz9, partD, TInfo.isAgg]
theorem fa39_2 : fieldAddrD Zs 39 2 (.at cs) = some (.at (cs.drop 2)) := by simp [fieldAddrD, fieldOf, tz39, tz9]
theorem fp39_2 : fieldAddrD Zs 39 2 (.ptr r o') = some (.ptr r (o' + 2)) := by simp [fieldAddrD, fieldOf, tz39, tz9]
theorem fl39_2 : fieldD Zs 39 2 (.agg cs) = cs[2]? := by simp [fieldD, fieldOf, tz39, tz9, partD, TInfo.isAgg]
theorem fa39_3 : fieldAddrD Zs 39 3 (.at cs) = some (.at (cs.drop 3)) := by simp [fieldAddrD, fieldOf, tz39, tz4]
theorem fp39_3 : fieldAddrD Zs 39 3 (.ptr r o') = some (.ptr r (o' + 3)) := by simp [fieldAddrD, fieldOf, tz39, tz4]
theorem fl39_3 : fieldD Zs 39 3 (.agg cs) = cs[3]? := by simp [fieldD, fieldOf, tz39, tz4, partD, TInfo.isAgg]
theorem ld44 : loadD Zs g 44 (.at cs) = cs[0]? := by first | (simp only [loadD, tz44, pack, TInfo.isAgg, Bool.false_eq_true, if_false, List.head?_eq_getElem?]; done) | (simp only [loadD, tz44, pack, TInfo.isAgg, Bool.false_eq_true, if_false, List.head?_eq_getElem?]; rfl)
theorem lp44 : loadD Zs g 44 (.ptr r off) = match g r with | some (.cells _ cs) => cs[off]? | _ => none := by first | (simp only [loadD, tz44, pack, TInfo.isAgg, Bool.false_eq_true, if_false, List.head?_drop]; done) | (simp only [loadD, tz44, pack, TInfo.isAgg, Bool.false_eq_true, if_false, List.head?_drop]; rfl)
theorem so44 : storeE Zs g 44 (.ptr r off) y = match y.cells with | some ys => (match g r with | some (.cells e cs) => if ys.length = 1 ∧ off + ys.length ≤ cs.length then some (.put r (.cells e (splice cs off ys))) else none | _ => none) | _ => none := by simp only [storeE, tz44]; cases y.cells <;> rfl
theorem al44 : allocR Zs 44 = some (.new (.cells 44 [.nilmap])) := by rfl
theorem mi44 : ifaceD Zs 44 x = some (.iface 44 x) := by first | (simp only [ifaceD, tz44]; done) | (simp only [ifaceD, tz44]; rfl)
theorem meql44 : binD Zs .eql 44 (.map r) .nilmap = some (.bool false) := by simp [binD, isNum, eqT, tz44]
theorem mneql44 : binD Zs .eql 44 .nilmap .nilmap = some (.bool true) := by simp [binD, isNum, eqT, tz44]
theorem mneq44 : binD Zs .neq 44 (.map r) .nilmap = some (.bool true) := by simp [binD, isNum, eqT, tz44]
theorem mnneq44 : binD Zs .neq 44 .nilmap .nilmap = some (.bool false) := by simp [binD, isNum, eqT, tz44]
theorem lnn44 : lenD Zs g #[44] .nilmap = some (.int .i64 0) := by simp [lenD, tz44]
theorem lnm44 : lenD Zs g #[44] (.map r) = match g r with | some (.map es _) => some (.int .i64 es.length) | _ => none := by simp [lenD, tz44]; rfl
theorem ld45 : loadD Zs g 45 (.at cs) = if 2 ≤ cs.length then some (.agg (cs.take 2)) else none := by first | (simp only [loadD, tz45, pack, TInfo.isAgg, if_true]; done) | (simp only [loadD, tz45, pack, TInfo.isAgg, if_true]; rfl)
theorem lp45 : loadD Zs g 45 (.ptr r off) = match g r with | some (.cells _ cs) => (if 2 ≤ (cs.drop off).length then some (.agg ((cs.drop off).take 2)) else none) | _ => none := by first | (simp only [loadD, tz45, pack, TInfo.isAgg, if_true]; done) | (simp only [loadD, tz45, pack, TInfo.isAgg, if_true]; rfl)
theorem so45 : storeE Zs g 45 (.ptr r off) y = match y.cells with | some ys => (match g r with | some (.cells e cs) => if ys.length = 2 ∧ off + ys.length ≤ cs.length then some (.put r (.cells e (splice cs off ys))) else none | _ => none) | _ => none := by simp only [storeE, tz45]; cases y.cells <;> rfl
theorem al45 : allocR Zs 45 = some (.new (.cells 45 [.str ⟨#[]⟩, .bool false])) := by rfl
theorem mi45 : ifaceD Zs 45 x = some (.iface 45 x) := by first | (simp only [ifaceD, tz45]; done) | (simp only [ifaceD, tz45]; rfl)
theorem fa45_0 : fieldAddrD Zs 45 0 (.at cs) = some (.at (cs.drop 0)) := by simp [fieldAddrD, fieldOf, tz45, tz9]
theorem fp45_0 : fieldAddrD Zs 45 0 (.ptr r o') = some (.ptr r (o' + 0)) := by simp [fieldAddrD, fieldOf, tz45, tz9]
theorem fl45_0 : fieldD Zs 45 0 (.agg cs) = cs[0]? := by simp [fieldD, fieldOf, tz45, tz9, partD, TInfo.isAgg]
theorem fa45_1 : fieldAddrD Zs 45 1 (.at cs) = some (.at (cs.drop 1)) := by simp [fieldAddrD, fieldOf, tz45, tz4]
theorem fp45_1 : fieldAddrD Zs 45 1 (.ptr r o') = some (.ptr r (o' + 1)) := by simp [fieldAddrD, fieldOf, tz45, tz4]
theorem fl45_1 : fieldD Zs 45 1 (.agg cs) = cs[1]? := by simp [fieldD, fieldOf, tz45, tz4, partD, TInfo.isAgg]
theorem ld46 : loadD Zs g 46 (.at cs) = if 2 ≤ cs.length then some (.agg (cs.take 2)) else none := by first | (simp only [loadD, tz46, pack, TInfo.isAgg, if_true]; done) | (simp only [loadD, tz46, pack, TInfo.isAgg, if_true]; rfl)
theorem lp46 : loadD Zs g 46 (.ptr r off) = match g r with | some (.cells _ cs) => (if 2 ≤ (cs.drop off).length then some (.agg ((cs.drop off).take 2)) else none) | _ => none := by first | (simp only [loadD, tz46, pack, TInfo.isAgg, if_true]; done) | (simp only [loadD, tz46, pack, TInfo.isAgg, if_true]; rfl)
theorem so46 : storeE Zs g 46 (.ptr r off) y = match y.cells with | some ys => (match g r with | some (.cells e cs) => if ys.length = 2 ∧ off + ys.length ≤ cs.length then some (.put r (.cells e (splice cs off ys))) else none | _ => none) | _ => none := by simp only [storeE, tz46]; cases y.cells <;> rfl
theorem al46 : allocR Zs 46 = some (.new (.cells 46 [.str ⟨#[]⟩, .bool false])) := by rfl
theorem mi46 : ifaceD Zs 46 x = some (.iface 46 x) := by first | (simp only [ifaceD, tz46]; done) | (simp only [ifaceD, tz46]; rfl)
theorem fa46_0 : fieldAddrD Zs 46 0 (.at cs) = some (.at (cs.drop 0)) := by simp [fieldAddrD, fieldOf, tz46, tz9]
theorem fp46_0 : fieldAddrD Zs 46 0 (.ptr r o') = some (.ptr r (o' + 0)) := by simp [fieldAddrD, fieldOf, tz46, tz9]
theorem fl46_0 : fieldD Zs 46 0 (.agg cs) = cs[0]? := by simp [fieldD, fieldOf, tz46, tz9, partD, TInfo.isAgg]
theorem fa46_1 : fieldAddrD Zs 46 1 (.at cs) = some (.at (cs.drop 1)) := by simp [fieldAddrD, fieldOf, tz46, tz4]
theorem fp46_1 : fieldAddrD Zs 46 1 (.ptr r o') = some (.ptr r (o' + 1)) := by simp [fieldAddrD, fieldOf, tz46, tz4]
theorem fl46_1 : fieldD Zs 46 1 (.agg cs) = cs[1]? := by simp [fieldD, fieldOf, tz46, tz4, partD, TInfo.isAgg]
theorem ld51 : loadD Zs g 51 (.at cs) = if 3 ≤ cs.length then some (.agg (cs.take 3)) else none := by first | (simp only [loadD, tz51, pack, TInfo.isAgg, if_true]; done) | (simp only [loadD, tz51, pack, TInfo.isAgg, if_true]; rfl)
theorem lp51 : loadD Zs g 51 (.ptr r off) = match g r with | some (.cells _ cs) => (if 3 ≤ (cs.drop off).length then some (.agg ((cs.drop off).take 3)) else none) | _ => none := by first | (simp only [loadD, tz51, pack, TInfo.isAgg, if_true]; done) | (simp only [loadD, tz51, pack, TInfo.isAgg, if_true]; rfl)
theorem so51 : storeE Zs g 51 (.ptr r off) y = match y.cells with | some ys => (match g r with | some (.cells e cs) => if ys.length = 3 ∧ off + ys.length ≤ cs.length then some (.put r (.cells e (splice cs off ys))) else none | _ => none) | _ => none := by simp only [storeE, tz51]; cases y.cells <;> rfl
theorem al51 : allocR Zs 51 = some (.new (.cells 51 [.int .u8 0, .str ⟨#[]⟩, .str ⟨#[]⟩])) := by rfl
theorem mi51 : ifaceD Zs 51 x = some (.iface 51 x) := by first | (simp only [ifaceD, tz51]; done) | (simp only [ifaceD, tz51]; rfl)
theorem fa51_0 : fieldAddrD Zs 51 0 (.at cs) = some (.at (cs.drop 0)) := by simp [fieldAddrD, fieldOf, tz51, tz35]
theorem fp51_0 : fieldAddrD Zs 51 0 (.ptr r o') = some (.ptr r (o' + 0)) := by simp [fieldAddrD, fieldOf, tz51, tz35]
theorem fl51_0 : fieldD Zs 51 0 (.agg cs) = if 0 + 3 ≤ cs.length then some (.agg ((cs.drop 0).take 3)) else none := by simp [fieldD, fieldOf, tz51, tz35, partD, TInfo.isAgg]
theorem ld52 : loadD Zs g 52 (.at cs) = if 3 ≤ cs.length then some (.agg (cs.take 3)) else none := by first | (simp only [loadD, tz52, pack, TInfo.isAgg, if_true]; done) | (simp only [loadD, tz52, pack, TInfo.isAgg, if_true]; rfl)
theorem lp52 : loadD Zs g 52 (.ptr r off) = match g r with | some (.cells _ cs) => (if 3 ≤ (cs.drop off).length then some (.agg ((cs.drop off).take 3)) else none) | _ => none := by first | (simp only [loadD, tz52, pack, TInfo.isAgg, if_true]; done) | (simp only [loadD, tz52, pack, TInfo.isAgg, if_true]; rfl)
theorem so52 : storeE Zs g 52 (.ptr r off) y = match y.cells with | some ys => (match g r with | some (.cells e cs) => if ys.length = 3 ∧ off + ys.length ≤ cs.length then some (.put r (.cells e (splice cs off ys))) else none | _ => none) | _ => none := by simp only [storeE, tz52]; cases y.cells <;> rfl
theorem al52 : allocR Zs 52 = some (.new (.cells 52 [.int .u8 0, .str ⟨#[]⟩, .str ⟨#[]⟩])) := by rfl
theorem mi52 : ifaceD Zs 52 x = some (.iface 52 x) := by first | (simp only [ifaceD, tz52]; done) | (simp only [ifaceD, tz52]; rfl)
theorem fa52_0 : fieldAddrD Zs 52 0 (.at cs) = some (.at (cs.drop 0)) := by simp [fieldAddrD, fieldOf, tz52, tz35]
theorem fp52_0 : fieldAddrD Zs 52 0 (.ptr r o') = some (.ptr r (o' + 0)) := by simp [fieldAddrD, fieldOf, tz52, tz35]
theorem fl52_0 : fieldD Zs 52 0 (.agg cs) = if 0 + 3 ≤ cs.length then some (.agg ((cs.drop 0).take 3)) else none := by simp [fieldD, fieldOf, tz52, tz35, partD, TInfo.isAgg]
theorem ld65 : loadD Zs g 65 (.at cs) = cs[0]? := by first | (simp only [loadD, tz65, pack, TInfo.isAgg, Bool.false_eq_true, if_false, List.head?_eq_getElem?]; done) | (simp only [loadD, tz65, pack, TInfo.isAgg, Bool.false_eq_true, if_false, List.head?_eq_getElem?]; rfl)
theorem lp65 : loadD Zs g 65 (.ptr r off) = match g r with | some (.cells _ cs) => cs[off]? | _ => none := by first | (simp only [loadD, tz65, pack, TInfo.isAgg, Bool.false_eq_true, if_false, List.head?_drop]; done) | (simp only [loadD, tz65, pack, TInfo.isAgg, Bool.false_eq_true, if_false, List.head?_drop]; rfl)
theorem so65 : storeE Zs g 65 (.ptr r off) y = match y.cells with | some ys => (match g r with | some (.cells e cs) => if ys.length = 1 ∧ off + ys.length ≤ cs.length then some (.put r (.cells e (splice cs off ys))) else none | _ => none) | _ => none := by simp only [storeE, tz65]; cases y.cells <;> rfl
theorem al65 : allocR Zs 65 = some (.new (.cells 65 [.nilptr])) := by rfl
theorem mi65 : ifaceD Zs 65 x = some (.iface 65 x) := by first | (simp only [ifaceD, tz65]; done) | (simp only [ifaceD, tz65]; rfl)
theorem peql65 : binD Zs .eql 65 (.ptr r off) .nilptr = some (.bool false) := by simp [binD, isNum, eqT, tz65]
theorem paeql65 : binD Zs .eql 65 (.at cs) .nilptr = some (.bool false) := by simp [binD, isNum, eqT, tz65]
theorem pneql65 : binD Zs .eql 65 .nilptr .nilptr = some (.bool true) := by simp [binD, isNum, eqT, tz65]
theorem pneq65 : binD Zs .neq 65 (.ptr r off) .nilptr = some (.bool true) := by simp [binD, isNum, eqT, tz65]
theorem paneq65 : binD Zs .neq 65 (.at cs) .nilptr = some (.bool true) := by simp [binD, isNum, eqT, tz65]
theorem pnneq65 : binD Zs .neq 65 .nilptr .nilptr = some (.bool false) := by simp [binD, isNum, eqT, tz65]
theorem ld69 : loadD Zs g 69 (.at cs) = cs[0]? := by first | (simp only [loadD, tz69, pack, TInfo.isAgg, Bool.false_eq_true, if_false, List.head?_eq_getElem?]; done) | (simp only [loadD, tz69, pack, TInfo.isAgg, Bool.false_eq_true, if_false, List.head?_eq_getElem?]; rfl)
theorem lp69 : loadD Zs g 69 (.ptr r off) = match g r with | some (.cells _ cs) => cs[off]? | _ => none := by first | (simp only [loadD, tz69, pack, TInfo.isAgg, Bool.false_eq_true, if_false, List.head?_drop]; done) | (simp only [loadD, tz69, pack, TInfo.isAgg, Bool.false_eq_true, if_false, List.head?_drop]; rfl)
theorem so69 : storeE Zs g 69 (.ptr r off) y = match y.cells with | some ys => (match g r with | some (.cells e cs) => if ys.length = 1 ∧ off + ys.length ≤ cs.length then some (.put r (.cells e (splice cs off ys))) else none | _ => none) | _ => none := by simp only [storeE, tz69]; cases y.cells <;> rfl
theorem al69 : allocR Zs 69 = some (.new (.cells 69 [.int .u64 0])) := by rfl
theorem mi69 : ifaceD Zs 69 x = some (.iface 69 x) := by first | (simp only [ifaceD, tz69]; done) | (simp only [ifaceD, tz69]; rfl)
theorem cv5_3 : convD Zs 5 3 (.int k i) = some (.int .i64 (IntKind.wrap .i64 i)) := by first | (simp only [convD, tz5, tz3]; done) | (simp only [convD, tz5, tz3]; rfl)
theorem co0 : ofV (.string ⟨#[46]⟩) = .str ⟨#[46]⟩ := (rfl)
theorem co1 : ofV (.string ⟨#[64, 78, 46, 110, 46, 115, 103, 64]⟩) = .str ⟨#[64, 78, 46, 110, 46, 115, 103, 64]⟩ := (rfl)
theorem co2 : ofV (.string ⟨#[64, 80, 46, 110, 46, 115, 103, 64]⟩) = .str ⟨#[64, 80, 46, 110, 46, 115, 103, 64]⟩ := (rfl)
theorem co3 : ofV (.string ⟨#[64, 82, 46, 110, 46, 112, 108, 64]⟩) = .str ⟨#[64, 82, 46, 110, 46, 112, 108, 64]⟩ := (rfl)
theorem co4 : ofV (.string ⟨#[64, 85, 46, 110, 46, 112, 108, 64]⟩) = .str ⟨#[64, 85, 46, 110, 46, 112, 108, 64]⟩ := (rfl)
theorem co5 : ofV (.string ⟨#[97, 98, 99, 100, 101, 102, 103, 104, 105, 106, 107, 108, 109, 110, 111, 112, 113, 114, 115, 116, 117, 118, 119, 120, 121, 122]⟩) = .str ⟨#[97, 98, 99, 100, 101, 102, 103, 104, 105, 106, 107, 108, 109, 110, 111, 112, 113, 114, 115, 116, 117, 118, 119, 120, 121, 122]⟩ := (rfl)
theorem co6 : ofV (.string ⟨#[97]⟩) = .str ⟨#[97]⟩ := (rfl)
theorem co7 : ofV (.string ⟨#[]⟩) = .str ⟨#[]⟩ := (rfl)
end
end Go.Proofs.YtpmjfoplpccblaaDoor.Vs
