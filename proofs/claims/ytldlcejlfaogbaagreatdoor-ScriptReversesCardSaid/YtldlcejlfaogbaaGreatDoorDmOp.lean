/- Operations at the seat's types, written by dgen.py. -/
import Derived.Test.YtldlcejlfaogbaaGreatDoorDmTy
import Derived.Test.YtldlcejlfaogbaaGreatDoorDmLib
namespace Go.Proofs.YtldlcejlfaogbaaGreatDoor.Vs
set_option linter.unusedVariables false
set_option linter.unusedSimpArgs false
set_option maxRecDepth 100000
section
variable {g : Nat → Option AO} {cs cs' : List D} {x y x3 : D} {o : Own} {n n' nx : Nat} {r off o' : Nat} {i : Int} {k : IntKind} {s : ByteArray} {lo hi : Option D}
theorem ld3 : loadD Zs g 3 (.at cs) = cs[0]? := by first | (simp only [loadD, tz3, pack, TInfo.isAgg, Bool.false_eq_true, if_false, List.head?_eq_getElem?]; done) | (simp only [loadD, tz3, pack, TInfo.isAgg, Bool.false_eq_true, if_false, List.head?_eq_getElem?]; rfl)
theorem lp3 : loadD Zs g 3 (.ptr r off) = match g r with | some (.cells _ cs) => cs[off]? | _ => none := by first | (simp only [loadD, tz3, pack, TInfo.isAgg, Bool.false_eq_true, if_false, List.head?_drop]; done) | (simp only [loadD, tz3, pack, TInfo.isAgg, Bool.false_eq_true, if_false, List.head?_drop]; rfl)
theorem so3 : storeE Zs g 3 (.ptr r off) y = match y.cells with | some ys => (match g r with | some (.cells e cs) => if ys.length = 1 ∧ off + ys.length ≤ cs.length then some (.put r (.cells e (splice cs off ys))) else none | _ => none) | _ => none := by simp only [storeE, tz3]; cases y.cells <;> rfl
theorem al3 : allocR Zs 3 = some (.new (.cells 3 [.int .i64 0])) := by rfl
theorem mi3 : ifaceD Zs 3 x = some (.iface 3 x) := by first | (simp only [ifaceD, tz3]; done) | (simp only [ifaceD, tz3]; rfl)
theorem ld4 : loadD Zs g 4 (.at cs) = cs[0]? := by first | (simp only [loadD, tz4, pack, TInfo.isAgg, Bool.false_eq_true, if_false, List.head?_eq_getElem?]; done) | (simp only [loadD, tz4, pack, TInfo.isAgg, Bool.false_eq_true, if_false, List.head?_eq_getElem?]; rfl)
theorem lp4 : loadD Zs g 4 (.ptr r off) = match g r with | some (.cells _ cs) => cs[off]? | _ => none := by first | (simp only [loadD, tz4, pack, TInfo.isAgg, Bool.false_eq_true, if_false, List.head?_drop]; done) | (simp only [loadD, tz4, pack, TInfo.isAgg, Bool.false_eq_true, if_false, List.head?_drop]; rfl)
theorem so4 : storeE Zs g 4 (.ptr r off) y = match y.cells with | some ys => (match g r with | some (.cells e cs) => if ys.length = 1 ∧ off + ys.length ≤ cs.length then some (.put r (.cells e (splice cs off ys))) else none | _ => none) | _ => none := by simp only [storeE, tz4]; cases y.cells <;> rfl
theorem al4 : allocR Zs 4 = some (.new (.cells 4 [.bool false])) := by rfl
theorem mi4 : ifaceD Zs 4 x = some (.iface 4 x) := by first | (simp only [ifaceD, tz4]; done) | (simp only [ifaceD, tz4]; rfl)
theorem bq4 {a b : Bool} : binD Zs .eql 4 (.bool a) (.bool b) = some (.bool (a == b)) := by simp [binD, isNum, eqT, tz4, eqS]
theorem bn4 {a b : Bool} : binD Zs .neq 4 (.bool a) (.bool b) = some (.bool (!(a == b))) := by simp [binD, isNum, eqT, tz4, eqS]
theorem ld5 : loadD Zs g 5 (.at cs) = cs[0]? := by first | (simp only [loadD, tz5, pack, TInfo.isAgg, Bool.false_eq_true, if_false, List.head?_eq_getElem?]; done) | (simp only [loadD, tz5, pack, TInfo.isAgg, Bool.false_eq_true, if_false, List.head?_eq_getElem?]; rfl)
theorem lp5 : loadD Zs g 5 (.ptr r off) = match g r with | some (.cells _ cs) => cs[off]? | _ => none := by first | (simp only [loadD, tz5, pack, TInfo.isAgg, Bool.false_eq_true, if_false, List.head?_drop]; done) | (simp only [loadD, tz5, pack, TInfo.isAgg, Bool.false_eq_true, if_false, List.head?_drop]; rfl)
theorem so5 : storeE Zs g 5 (.ptr r off) y = match y.cells with | some ys => (match g r with | some (.cells e cs) => if ys.length = 1 ∧ off + ys.length ≤ cs.length then some (.put r (.cells e (splice cs off ys))) else none | _ => none) | _ => none := by simp only [storeE, tz5]; cases y.cells <;> rfl
theorem al5 : allocR Zs 5 = some (.new (.cells 5 [.int .u8 0])) := by rfl
theorem mi5 : ifaceD Zs 5 x = some (.iface 5 x) := by first | (simp only [ifaceD, tz5]; done) | (simp only [ifaceD, tz5]; rfl)
theorem ld9 : loadD Zs g 9 (.at cs) = cs[0]? := by first | (simp only [loadD, tz9, pack, TInfo.isAgg, Bool.false_eq_true, if_false, List.head?_eq_getElem?]; done) | (simp only [loadD, tz9, pack, TInfo.isAgg, Bool.false_eq_true, if_false, List.head?_eq_getElem?]; rfl)
theorem lp9 : loadD Zs g 9 (.ptr r off) = match g r with | some (.cells _ cs) => cs[off]? | _ => none := by first | (simp only [loadD, tz9, pack, TInfo.isAgg, Bool.false_eq_true, if_false, List.head?_drop]; done) | (simp only [loadD, tz9, pack, TInfo.isAgg, Bool.false_eq_true, if_false, List.head?_drop]; rfl)
theorem so9 : storeE Zs g 9 (.ptr r off) y = match y.cells with | some ys => (match g r with | some (.cells e cs) => if ys.length = 1 ∧ off + ys.length ≤ cs.length then some (.put r (.cells e (splice cs off ys))) else none | _ => none) | _ => none := by simp only [storeE, tz9]; cases y.cells <;> rfl
theorem al9 : allocR Zs 9 = some (.new (.cells 9 [.str ⟨#[]⟩])) := by rfl
theorem mi9 : ifaceD Zs 9 x = some (.iface 9 x) := by first | (simp only [ifaceD, tz9]; done) | (simp only [ifaceD, tz9]; rfl)
theorem ln9 : lenD Zs g #[9] (.str s) = some (.int .i64 s.size) := by simp [lenD, tz9]
theorem ie9 : indexD Zs 9 (.str s) (.int k i) = if 0 ≤ i ∧ i < s.size then some (.int .u8 (byteAt s i.toNat)) else none := by first | (simp only [indexD, tz9]; done) | (simp only [indexD, tz9]; rfl)
theorem sl9 : sliceD Zs g 9 (.str s) lo hi none = match bound lo 0, bound hi s.size with | some l, some h => if 0 ≤ l ∧ l ≤ h ∧ h ≤ s.size then some (.str (s.extract l.toNat h.toNat)) else none | _, _ => none := by first | (simp only [sliceD, tz9]; done) | (simp only [sliceD, tz9]; rfl)
theorem ld22 : loadD Zs g 22 (.at cs) = cs[0]? := by first | (simp only [loadD, tz22, pack, TInfo.isAgg, Bool.false_eq_true, if_false, List.head?_eq_getElem?]; done) | (simp only [loadD, tz22, pack, TInfo.isAgg, Bool.false_eq_true, if_false, List.head?_eq_getElem?]; rfl)
theorem lp22 : loadD Zs g 22 (.ptr r off) = match g r with | some (.cells _ cs) => cs[off]? | _ => none := by first | (simp only [loadD, tz22, pack, TInfo.isAgg, Bool.false_eq_true, if_false, List.head?_drop]; done) | (simp only [loadD, tz22, pack, TInfo.isAgg, Bool.false_eq_true, if_false, List.head?_drop]; rfl)
theorem so22 : storeE Zs g 22 (.ptr r off) y = match y.cells with | some ys => (match g r with | some (.cells e cs) => if ys.length = 1 ∧ off + ys.length ≤ cs.length then some (.put r (.cells e (splice cs off ys))) else none | _ => none) | _ => none := by simp only [storeE, tz22]; cases y.cells <;> rfl
theorem al22 : allocR Zs 22 = some (.new (.cells 22 [.sl .nil 0 []])) := by rfl
theorem mi22 : ifaceD Zs 22 x = some (.iface 22 x) := by first | (simp only [ifaceD, tz22]; done) | (simp only [ifaceD, tz22]; rfl)
theorem ln22 : lenD Zs g #[22] (.sl o n cs) = some (.int .i64 n) := by simp [lenD, tz22]
theorem cpn22 : capD Zs #[22] (.sl .nil n cs) = some (.int .i64 0) := by simp [capD, tz22]
theorem cpr22 {kk z0 : Nat} : capD Zs #[22] (.row r off n (some kk) z0) = some (.int .i64 kk) := by simp [capD, tz22]
theorem lr22 {c0 : Option Nat} {z0 : Nat} : lenD Zs g #[22] (.row r off n c0 z0) = some (.int .i64 n) := by simp [lenD, tz22]
theorem ix22 : indexAddrD Zs 22 (.sl o n cs) (.int k i) = if (0 ≤ i ∧ i < n) ∧ 0 < cs.length then some (.at (cs.drop (i.toNat * 2))) else none := by first | (simp only [indexAddrD, tz22, tz67, Nat.mul_one]; done) | (simp only [indexAddrD, tz22, tz67, Nat.mul_one]; rfl)
theorem ir22 {c0 : Option Nat} {z0 : Nat} : indexAddrD Zs 22 (.row r off n c0 z0) (.int k i) = if 0 ≤ i ∧ i < n then some (.ptr r (off + i.toNat * 2)) else none := by first | (simp only [indexAddrD, tz22, tz67, Nat.mul_one]; done) | (simp only [indexAddrD, tz22, tz67, Nat.mul_one]; rfl)
theorem sl22 : sliceD Zs g 22 (.sl o n cs) lo hi none = match bound lo 0, bound hi n with | some l, some h => if 0 ≤ l ∧ l ≤ h ∧ h ≤ n ∧ cs.length = n * 2 then some (.sl (cutOwn o) (h.toNat - l.toNat) ((cs.drop (l.toNat * 2)).take ((h.toNat - l.toNat) * 2))) else none | _, _ => none := by simp only [sliceD, tz22, tz67, Nat.mul_one]; cases bound lo 0 <;> cases bound hi n <;> simp only [Nat.mul_one]
theorem en22 : binD Zs .eql 22 (.sl o n cs) (.sl .nil n' cs') = (nilOf o n).map .bool := by simp [binD, isNum, eqT, tz22]
theorem enr22 {c0 : Option Nat} {z0 : Nat} : binD Zs .eql 22 (.row r off n c0 z0) (.sl .nil n' cs') = some (.bool false) := by simp [binD, isNum, eqT, tz22]
theorem nn22 : binD Zs .neq 22 (.sl o n cs) (.sl .nil n' cs') = (nilOf o n).map fun b => .bool (!b) := by simp [binD, isNum, eqT, tz22]
theorem nnr22 {c0 : Option Nat} {z0 : Nat} : binD Zs .neq 22 (.row r off n c0 z0) (.sl .nil n' cs') = some (.bool true) := by simp [binD, isNum, eqT, tz22]
theorem ld23 : loadD Zs g 23 (.at cs) = cs[0]? := by first | (simp only [loadD, tz23, pack, TInfo.isAgg, Bool.false_eq_true, if_false, List.head?_eq_getElem?]; done) | (simp only [loadD, tz23, pack, TInfo.isAgg, Bool.false_eq_true, if_false, List.head?_eq_getElem?]; rfl)
theorem lp23 : loadD Zs g 23 (.ptr r off) = match g r with | some (.cells _ cs) => cs[off]? | _ => none := by first | (simp only [loadD, tz23, pack, TInfo.isAgg, Bool.false_eq_true, if_false, List.head?_drop]; done) | (simp only [loadD, tz23, pack, TInfo.isAgg, Bool.false_eq_true, if_false, List.head?_drop]; rfl)
theorem so23 : storeE Zs g 23 (.ptr r off) y = match y.cells with | some ys => (match g r with | some (.cells e cs) => if ys.length = 1 ∧ off + ys.length ≤ cs.length then some (.put r (.cells e (splice cs off ys))) else none | _ => none) | _ => none := by simp only [storeE, tz23]; cases y.cells <;> rfl
theorem al23 : allocR Zs 23 = some (.new (.cells 23 [.sl .nil 0 []])) := by rfl
theorem mi23 : ifaceD Zs 23 x = some (.iface 23 x) := by first | (simp only [ifaceD, tz23]; done) | (simp only [ifaceD, tz23]; rfl)
theorem mk23 {k' : IntKind} {m : Int} : makeSliceR Zs 0 23 (.int k i) (.int k' m) nx = if 0 ≤ i ∧ i ≤ m ∧ ((16 : Nat) : Int) * m ≤ 281474976710656 ∧ m ≤ (big : Int) then some (.row nx 0 i.toNat (some m.toNat) 1, .new (.cells 9 (List.replicate m.toNat (.str ⟨#[]⟩)))) else none := by exact mk_one tz23 tz9 rfl rfl rfl
theorem bs23_1 : buildSliceR Zs 0 23 1 [(0, x)] nx = lit1 x := by exact build1 tz23 tz9 rfl rfl rfl
theorem bs23_2 : buildSliceR Zs 0 23 2 [(0, x), (1, y)] nx = lit2 x y := by exact build2 tz23 tz9 rfl rfl rfl
theorem bs23_3 : buildSliceR Zs 0 23 3 [(0, x), (1, y), (2, x3)] nx = lit3 x y x3 := by exact build3 tz23 tz9 rfl rfl rfl
theorem ln23 : lenD Zs g #[23] (.sl o n cs) = some (.int .i64 n) := by simp [lenD, tz23]
theorem cpn23 : capD Zs #[23] (.sl .nil n cs) = some (.int .i64 0) := by simp [capD, tz23]
theorem cpr23 {kk z0 : Nat} : capD Zs #[23] (.row r off n (some kk) z0) = some (.int .i64 kk) := by simp [capD, tz23]
theorem lr23 {c0 : Option Nat} {z0 : Nat} : lenD Zs g #[23] (.row r off n c0 z0) = some (.int .i64 n) := by simp [lenD, tz23]
theorem ix23 : indexAddrD Zs 23 (.sl o n cs) (.int k i) = if (0 ≤ i ∧ i < n) ∧ 0 < cs.length then some (.at (cs.drop (i.toNat))) else none := by first | (simp only [indexAddrD, tz23, tz9, Nat.mul_one]; done) | (simp only [indexAddrD, tz23, tz9, Nat.mul_one]; rfl)
theorem ir23 {c0 : Option Nat} {z0 : Nat} : indexAddrD Zs 23 (.row r off n c0 z0) (.int k i) = if 0 ≤ i ∧ i < n then some (.ptr r (off + i.toNat)) else none := by first | (simp only [indexAddrD, tz23, tz9, Nat.mul_one]; done) | (simp only [indexAddrD, tz23, tz9, Nat.mul_one]; rfl)
theorem sl23 : sliceD Zs g 23 (.sl o n cs) lo hi none = match bound lo 0, bound hi n with | some l, some h => if 0 ≤ l ∧ l ≤ h ∧ h ≤ n ∧ cs.length = n then some (.sl (cutOwn o) (h.toNat - l.toNat) ((cs.drop (l.toNat)).take ((h.toNat - l.toNat)))) else none | _, _ => none := by simp only [sliceD, tz23, tz9, Nat.mul_one]; cases bound lo 0 <;> cases bound hi n <;> simp only [Nat.mul_one]
theorem en23 : binD Zs .eql 23 (.sl o n cs) (.sl .nil n' cs') = (nilOf o n).map .bool := by simp [binD, isNum, eqT, tz23]
theorem enr23 {c0 : Option Nat} {z0 : Nat} : binD Zs .eql 23 (.row r off n c0 z0) (.sl .nil n' cs') = some (.bool false) := by simp [binD, isNum, eqT, tz23]
theorem nn23 : binD Zs .neq 23 (.sl o n cs) (.sl .nil n' cs') = (nilOf o n).map fun b => .bool (!b) := by simp [binD, isNum, eqT, tz23]
theorem nnr23 {c0 : Option Nat} {z0 : Nat} : binD Zs .neq 23 (.row r off n c0 z0) (.sl .nil n' cs') = some (.bool true) := by simp [binD, isNum, eqT, tz23]
theorem ld24 : loadD Zs g 24 (.at cs) = if 2 ≤ cs.length then some (.agg (cs.take 2)) else none := by first | (simp only [loadD, tz24, pack, TInfo.isAgg, if_true]; done) | (simp only [loadD, tz24, pack, TInfo.isAgg, if_true]; rfl)
theorem lp24 : loadD Zs g 24 (.ptr r off) = match g r with | some (.cells _ cs) => (if 2 ≤ (cs.drop off).length then some (.agg ((cs.drop off).take 2)) else none) | _ => none := by first | (simp only [loadD, tz24, pack, TInfo.isAgg, if_true]; done) | (simp only [loadD, tz24, pack, TInfo.isAgg, if_true]; rfl)
theorem so24 : storeE Zs g 24 (.ptr r off) y = match y.cells with | some ys => (match g r with | some (.cells e cs) => if ys.length = 2 ∧ off + ys.length ≤ cs.length then some (.put r (.cells e (splice cs off ys))) else none | _ => none) | _ => none := by simp only [storeE, tz24]; cases y.cells <;> rfl
theorem al24 : allocR Zs 24 = some (.new (.cells 24 [.sl .nil 0 [], .sl .nil 0 []])) := by rfl
theorem mi24 : ifaceD Zs 24 x = some (.iface 24 x) := by first | (simp only [ifaceD, tz24]; done) | (simp only [ifaceD, tz24]; rfl)
theorem ln24 : lenD Zs g #[24] x = some (.int .i64 2) := by cases x <;> simp [lenD, tz24]
theorem ix24 : indexAddrD Zs 24 (.at cs) (.int k i) = if 0 ≤ i ∧ i < (2 : Nat) then some (.at (cs.drop (i.toNat))) else none := by first | (simp only [indexAddrD, tz24, tz23, Nat.mul_one]; done) | (simp only [indexAddrD, tz24, tz23, Nat.mul_one]; rfl)
theorem ir24 : indexAddrD Zs 24 (.ptr r off) (.int k i) = if 0 ≤ i ∧ i < (2 : Nat) then some (.ptr r (off + i.toNat)) else none := by first | (simp only [indexAddrD, tz24, tz23, Nat.mul_one]; done) | (simp only [indexAddrD, tz24, tz23, Nat.mul_one]; rfl)
theorem ie24 : indexD Zs 24 (.agg cs) (.int k i) = if 0 ≤ i ∧ i < (2 : Nat) then cs[i.toNat]? else none := by first | (simp only [indexD, tz24, tz23, Nat.mul_one, partD, TInfo.isAgg, Bool.false_eq_true, if_false]; done) | (simp only [indexD, tz24, tz23, Nat.mul_one, partD, TInfo.isAgg, Bool.false_eq_true, if_false]; rfl)
theorem ld32 : loadD Zs g 32 (.at cs) = cs[0]? := by first | (simp only [loadD, tz32, pack, TInfo.isAgg, Bool.false_eq_true, if_false, List.head?_eq_getElem?]; done) | (simp only [loadD, tz32, pack, TInfo.isAgg, Bool.false_eq_true, if_false, List.head?_eq_getElem?]; rfl)
theorem lp32 : loadD Zs g 32 (.ptr r off) = match g r with | some (.cells _ cs) => cs[off]? | _ => none := by first | (simp only [loadD, tz32, pack, TInfo.isAgg, Bool.false_eq_true, if_false, List.head?_drop]; done) | (simp only [loadD, tz32, pack, TInfo.isAgg, Bool.false_eq_true, if_false, List.head?_drop]; rfl)
theorem so32 : storeE Zs g 32 (.ptr r off) y = match y.cells with | some ys => (match g r with | some (.cells e cs) => if ys.length = 1 ∧ off + ys.length ≤ cs.length then some (.put r (.cells e (splice cs off ys))) else none | _ => none) | _ => none := by simp only [storeE, tz32]; cases y.cells <;> rfl
theorem al32 : allocR Zs 32 = some (.new (.cells 32 [.int .i64 0])) := by rfl
theorem mi32 : ifaceD Zs 32 x = some (.iface 32 x) := by first | (simp only [ifaceD, tz32]; done) | (simp only [ifaceD, tz32]; rfl)
theorem ld39 : loadD Zs g 39 (.at cs) = cs[0]? := by first | (simp only [loadD, tz39, pack, TInfo.isAgg, Bool.false_eq_true, if_false, List.head?_eq_getElem?]; done) | (simp only [loadD, tz39, pack, TInfo.isAgg, Bool.false_eq_true, if_false, List.head?_eq_getElem?]; rfl)
theorem lp39 : loadD Zs g 39 (.ptr r off) = match g r with | some (.cells _ cs) => cs[off]? | _ => none := by first | (simp only [loadD, tz39, pack, TInfo.isAgg, Bool.false_eq_true, if_false, List.head?_drop]; done) | (simp only [loadD, tz39, pack, TInfo.isAgg, Bool.false_eq_true, if_false, List.head?_drop]; rfl)
theorem so39 : storeE Zs g 39 (.ptr r off) y = match y.cells with | some ys => (match g r with | some (.cells e cs) => if ys.length = 1 ∧ off + ys.length ≤ cs.length then some (.put r (.cells e (splice cs off ys))) else none | _ => none) | _ => none := by simp only [storeE, tz39]; cases y.cells <;> rfl
theorem al39 : allocR Zs 39 = some (.new (.cells 39 [.sl .nil 0 []])) := by rfl
theorem mi39 : ifaceD Zs 39 x = some (.iface 39 x) := by first | (simp only [ifaceD, tz39]; done) | (simp only [ifaceD, tz39]; rfl)
theorem mk39 {k' : IntKind} {m : Int} : makeSliceR Zs 0 39 (.int k i) (.int k' m) nx = if 0 ≤ i ∧ i ≤ m ∧ ((8 : Nat) : Int) * m ≤ 281474976710656 ∧ m ≤ (big : Int) then some (.row nx 0 i.toNat (some m.toNat) 1, .new (.cells 3 (List.replicate m.toNat (.int .i64 0)))) else none := by exact mk_one tz39 tz3 rfl rfl rfl
theorem bs39_1 : buildSliceR Zs 0 39 1 [(0, x)] nx = lit1 x := by exact build1 tz39 tz3 rfl rfl rfl
theorem bs39_2 : buildSliceR Zs 0 39 2 [(0, x), (1, y)] nx = lit2 x y := by exact build2 tz39 tz3 rfl rfl rfl
theorem bs39_3 : buildSliceR Zs 0 39 3 [(0, x), (1, y), (2, x3)] nx = lit3 x y x3 := by exact build3 tz39 tz3 rfl rfl rfl
theorem ln39 : lenD Zs g #[39] (.sl o n cs) = some (.int .i64 n) := by simp [lenD, tz39]
theorem cpn39 : capD Zs #[39] (.sl .nil n cs) = some (.int .i64 0) := by simp [capD, tz39]
theorem cpr39 {kk z0 : Nat} : capD Zs #[39] (.row r off n (some kk) z0) = some (.int .i64 kk) := by simp [capD, tz39]
theorem lr39 {c0 : Option Nat} {z0 : Nat} : lenD Zs g #[39] (.row r off n c0 z0) = some (.int .i64 n) := by simp [lenD, tz39]
theorem ix39 : indexAddrD Zs 39 (.sl o n cs) (.int k i) = if (0 ≤ i ∧ i < n) ∧ 0 < cs.length then some (.at (cs.drop (i.toNat))) else none := by first | (simp only [indexAddrD, tz39, tz3, Nat.mul_one]; done) | (simp only [indexAddrD, tz39, tz3, Nat.mul_one]; rfl)
theorem ir39 {c0 : Option Nat} {z0 : Nat} : indexAddrD Zs 39 (.row r off n c0 z0) (.int k i) = if 0 ≤ i ∧ i < n then some (.ptr r (off + i.toNat)) else none := by first | (simp only [indexAddrD, tz39, tz3, Nat.mul_one]; done) | (simp only [indexAddrD, tz39, tz3, Nat.mul_one]; rfl)
theorem sl39 : sliceD Zs g 39 (.sl o n cs) lo hi none = match bound lo 0, bound hi n with | some l, some h => if 0 ≤ l ∧ l ≤ h ∧ h ≤ n ∧ cs.length = n then some (.sl (cutOwn o) (h.toNat - l.toNat) ((cs.drop (l.toNat)).take ((h.toNat - l.toNat)))) else none | _, _ => none := by simp only [sliceD, tz39, tz3, Nat.mul_one]; cases bound lo 0 <;> cases bound hi n <;> simp only [Nat.mul_one]
theorem en39 : binD Zs .eql 39 (.sl o n cs) (.sl .nil n' cs') = (nilOf o n).map .bool := by simp [binD, isNum, eqT, tz39]
theorem enr39 {c0 : Option Nat} {z0 : Nat} : binD Zs .eql 39 (.row r off n c0 z0) (.sl .nil n' cs') = some (.bool false) := by simp [binD, isNum, eqT, tz39]
theorem nn39 : binD Zs .neq 39 (.sl o n cs) (.sl .nil n' cs') = (nilOf o n).map fun b => .bool (!b) := by simp [binD, isNum, eqT, tz39]
theorem nnr39 {c0 : Option Nat} {z0 : Nat} : binD Zs .neq 39 (.row r off n c0 z0) (.sl .nil n' cs') = some (.bool true) := by simp [binD, isNum, eqT, tz39]
theorem ld58 : loadD Zs g 58 (.at cs) = cs[0]? := by first | (simp only [loadD, tz58, pack, TInfo.isAgg, Bool.false_eq_true, if_false, List.head?_eq_getElem?]; done) | (simp only [loadD, tz58, pack, TInfo.isAgg, Bool.false_eq_true, if_false, List.head?_eq_getElem?]; rfl)
theorem lp58 : loadD Zs g 58 (.ptr r off) = match g r with | some (.cells _ cs) => cs[off]? | _ => none := by first | (simp only [loadD, tz58, pack, TInfo.isAgg, Bool.false_eq_true, if_false, List.head?_drop]; done) | (simp only [loadD, tz58, pack, TInfo.isAgg, Bool.false_eq_true, if_false, List.head?_drop]; rfl)
theorem so58 : storeE Zs g 58 (.ptr r off) y = match y.cells with | some ys => (match g r with | some (.cells e cs) => if ys.length = 1 ∧ off + ys.length ≤ cs.length then some (.put r (.cells e (splice cs off ys))) else none | _ => none) | _ => none := by simp only [storeE, tz58]; cases y.cells <;> rfl
theorem al58 : allocR Zs 58 = some (.new (.cells 58 [.sl .nil 0 []])) := by rfl
theorem mi58 : ifaceD Zs 58 x = some (.iface 58 x) := by first | (simp only [ifaceD, tz58]; done) | (simp only [ifaceD, tz58]; rfl)
theorem mk58 {k' : IntKind} {m : Int} : makeSliceR Zs 0 58 (.int k i) (.int k' m) nx = if 0 ≤ i ∧ i ≤ m ∧ ((24 : Nat) : Int) * m ≤ 281474976710656 ∧ m ≤ (big : Int) then some (.row nx 0 i.toNat (some m.toNat) 1, .new (.cells 23 (List.replicate m.toNat (.sl .nil 0 [])))) else none := by exact mk_one tz58 tz23 rfl rfl rfl
theorem bs58_1 : buildSliceR Zs 0 58 1 [(0, x)] nx = lit1 x := by exact build1 tz58 tz23 rfl rfl rfl
theorem bs58_2 : buildSliceR Zs 0 58 2 [(0, x), (1, y)] nx = lit2 x y := by exact build2 tz58 tz23 rfl rfl rfl
theorem bs58_3 : buildSliceR Zs 0 58 3 [(0, x), (1, y), (2, x3)] nx = lit3 x y x3 := by exact build3 tz58 tz23 rfl rfl rfl
theorem ln58 : lenD Zs g #[58] (.sl o n cs) = some (.int .i64 n) := by simp [lenD, tz58]
theorem cpn58 : capD Zs #[58] (.sl .nil n cs) = some (.int .i64 0) := by simp [capD, tz58]
theorem cpr58 {kk z0 : Nat} : capD Zs #[58] (.row r off n (some kk) z0) = some (.int .i64 kk) := by simp [capD, tz58]
theorem lr58 {c0 : Option Nat} {z0 : Nat} : lenD Zs g #[58] (.row r off n c0 z0) = some (.int .i64 n) := by simp [lenD, tz58]
theorem ix58 : indexAddrD Zs 58 (.sl o n cs) (.int k i) = if (0 ≤ i ∧ i < n) ∧ 0 < cs.length then some (.at (cs.drop (i.toNat))) else none := by first | (simp only [indexAddrD, tz58, tz23, Nat.mul_one]; done) | (simp only [indexAddrD, tz58, tz23, Nat.mul_one]; rfl)
theorem ir58 {c0 : Option Nat} {z0 : Nat} : indexAddrD Zs 58 (.row r off n c0 z0) (.int k i) = if 0 ≤ i ∧ i < n then some (.ptr r (off + i.toNat)) else none := by first | (simp only [indexAddrD, tz58, tz23, Nat.mul_one]; done) | (simp only [indexAddrD, tz58, tz23, Nat.mul_one]; rfl)
theorem sl58 : sliceD Zs g 58 (.sl o n cs) lo hi none = match bound lo 0, bound hi n with | some l, some h => if 0 ≤ l ∧ l ≤ h ∧ h ≤ n ∧ cs.length = n then some (.sl (cutOwn o) (h.toNat - l.toNat) ((cs.drop (l.toNat)).take ((h.toNat - l.toNat)))) else none | _, _ => none := by simp only [sliceD, tz58, tz23, Nat.mul_one]; cases bound lo 0 <;> cases bound hi n <;> simp only [Nat.mul_one]
theorem en58 : binD Zs .eql 58 (.sl o n cs) (.sl .nil n' cs') = (nilOf o n).map .bool := by simp [binD, isNum, eqT, tz58]
theorem enr58 {c0 : Option Nat} {z0 : Nat} : binD Zs .eql 58 (.row r off n c0 z0) (.sl .nil n' cs') = some (.bool false) := by simp [binD, isNum, eqT, tz58]
theorem nn58 : binD Zs .neq 58 (.sl o n cs) (.sl .nil n' cs') = (nilOf o n).map fun b => .bool (!b) := by simp [binD, isNum, eqT, tz58]
theorem nnr58 {c0 : Option Nat} {z0 : Nat} : binD Zs .neq 58 (.row r off n c0 z0) (.sl .nil n' cs') = some (.bool true) := by simp [binD, isNum, eqT, tz58]
theorem ld66 : loadD Zs g 66 (.at cs) = if 2 ≤ cs.length then some (.agg (cs.take 2)) else none := by first | (simp only [loadD, tz66, pack, TInfo.isAgg, if_true]; done) | (simp only [loadD, tz66, pack, TInfo.isAgg, if_true]; rfl)
theorem lp66 : loadD Zs g 66 (.ptr r off) = match g r with | some (.cells _ cs) => (if 2 ≤ (cs.drop off).length then some (.agg ((cs.drop off).take 2)) else none) | _ => none := by first | (simp only [loadD, tz66, pack, TInfo.isAgg, if_true]; done) | (simp only [loadD, tz66, pack, TInfo.isAgg, if_true]; rfl)
theorem so66 : storeE Zs g 66 (.ptr r off) y = match y.cells with | some ys => (match g r with | some (.cells e cs) => if ys.length = 2 ∧ off + ys.length ≤ cs.length then some (.put r (.cells e (splice cs off ys))) else none | _ => none) | _ => none := by simp only [storeE, tz66]; cases y.cells <;> rfl
theorem al66 : allocR Zs 66 = some (.new (.cells 66 [.sl .nil 0 [], .sl .nil 0 []])) := by rfl
theorem mi66 : ifaceD Zs 66 x = some (.iface 66 x) := by first | (simp only [ifaceD, tz66]; done) | (simp only [ifaceD, tz66]; rfl)
theorem fa66_0 : fieldAddrD Zs 66 0 (.at cs) = some (.at (cs.drop 0)) := by simp [fieldAddrD, fieldOf, tz66, tz23]
theorem fp66_0 : fieldAddrD Zs 66 0 (.ptr r o') = some (.ptr r (o' + 0)) := by simp [fieldAddrD, fieldOf, tz66, tz23]
theorem fl66_0 : fieldD Zs 66 0 (.agg cs) = cs[0]? := by simp [fieldD, fieldOf, tz66, tz23, partD, TInfo.isAgg]
theorem fa66_1 : fieldAddrD Zs 66 1 (.at cs) = some (.at (cs.drop 1)) := by simp [fieldAddrD, fieldOf, tz66, tz23]
theorem fp66_1 : fieldAddrD Zs 66 1 (.ptr r o') = some (.ptr r (o' + 1)) := by simp [fieldAddrD, fieldOf, tz66, tz23]
theorem fl66_1 : fieldD Zs 66 1 (.agg cs) = cs[1]? := by simp [fieldD, fieldOf, tz66, tz23, partD, TInfo.isAgg]
theorem ld67 : loadD Zs g 67 (.at cs) = if 2 ≤ cs.length then some (.agg (cs.take 2)) else none := by first | (simp only [loadD, tz67, pack, TInfo.isAgg, if_true]; done) | (simp only [loadD, tz67, pack, TInfo.isAgg, if_true]; rfl)
theorem lp67 : loadD Zs g 67 (.ptr r off) = match g r with | some (.cells _ cs) => (if 2 ≤ (cs.drop off).length then some (.agg ((cs.drop off).take 2)) else none) | _ => none := by first | (simp only [loadD, tz67, pack, TInfo.isAgg, if_true]; done) | (simp only [loadD, tz67, pack, TInfo.isAgg, if_true]; rfl)
theorem so67 : storeE Zs g 67 (.ptr r off) y = match y.cells with | some ys => (match g r with | some (.cells e cs) => if ys.length = 2 ∧ off + ys.length ≤ cs.length then some (.put r (.cells e (splice cs off ys))) else none | _ => none) | _ => none := by simp only [storeE, tz67]; cases y.cells <;> rfl
theorem al67 : allocR Zs 67 = some (.new (.cells 67 [.sl .nil 0 [], .sl .nil 0 []])) := by rfl
theorem mi67 : ifaceD Zs 67 x = some (.iface 67 x) := by first | (simp only [ifaceD, tz67]; done) | (simp only [ifaceD, tz67]; rfl)
theorem fa67_0 : fieldAddrD Zs 67 0 (.at cs) = some (.at (cs.drop 0)) := by simp [fieldAddrD, fieldOf, tz67, tz23]
theorem fp67_0 : fieldAddrD Zs 67 0 (.ptr r o') = some (.ptr r (o' + 0)) := by simp [fieldAddrD, fieldOf, tz67, tz23]
theorem fl67_0 : fieldD Zs 67 0 (.agg cs) = cs[0]? := by simp [fieldD, fieldOf, tz67, tz23, partD, TInfo.isAgg]
theorem fa67_1 : fieldAddrD Zs 67 1 (.at cs) = some (.at (cs.drop 1)) := by simp [fieldAddrD, fieldOf, tz67, tz23]
theorem fp67_1 : fieldAddrD Zs 67 1 (.ptr r o') = some (.ptr r (o' + 1)) := by simp [fieldAddrD, fieldOf, tz67, tz23]
theorem fl67_1 : fieldD Zs 67 1 (.agg cs) = cs[1]? := by simp [fieldD, fieldOf, tz67, tz23, partD, TInfo.isAgg]
theorem ld98 : loadD Zs g 98 (.at cs) = cs[0]? := by first | (simp only [loadD, tz98, pack, TInfo.isAgg, Bool.false_eq_true, if_false, List.head?_eq_getElem?]; done) | (simp only [loadD, tz98, pack, TInfo.isAgg, Bool.false_eq_true, if_false, List.head?_eq_getElem?]; rfl)
theorem lp98 : loadD Zs g 98 (.ptr r off) = match g r with | some (.cells _ cs) => cs[off]? | _ => none := by first | (simp only [loadD, tz98, pack, TInfo.isAgg, Bool.false_eq_true, if_false, List.head?_drop]; done) | (simp only [loadD, tz98, pack, TInfo.isAgg, Bool.false_eq_true, if_false, List.head?_drop]; rfl)
theorem so98 : storeE Zs g 98 (.ptr r off) y = match y.cells with | some ys => (match g r with | some (.cells e cs) => if ys.length = 1 ∧ off + ys.length ≤ cs.length then some (.put r (.cells e (splice cs off ys))) else none | _ => none) | _ => none := by simp only [storeE, tz98]; cases y.cells <;> rfl
theorem al98 : allocR Zs 98 = some (.new (.cells 98 [.nilfunc])) := by rfl
theorem mi98 : ifaceD Zs 98 x = some (.iface 98 x) := by first | (simp only [ifaceD, tz98]; done) | (simp only [ifaceD, tz98]; rfl)
theorem ld104 : loadD Zs g 104 (.at cs) = cs[0]? := by first | (simp only [loadD, tz104, pack, TInfo.isAgg, Bool.false_eq_true, if_false, List.head?_eq_getElem?]; done) | (simp only [loadD, tz104, pack, TInfo.isAgg, Bool.false_eq_true, if_false, List.head?_eq_getElem?]; rfl)
theorem lp104 : loadD Zs g 104 (.ptr r off) = match g r with | some (.cells _ cs) => cs[off]? | _ => none := by first | (simp only [loadD, tz104, pack, TInfo.isAgg, Bool.false_eq_true, if_false, List.head?_drop]; done) | (simp only [loadD, tz104, pack, TInfo.isAgg, Bool.false_eq_true, if_false, List.head?_drop]; rfl)
theorem so104 : storeE Zs g 104 (.ptr r off) y = match y.cells with | some ys => (match g r with | some (.cells e cs) => if ys.length = 1 ∧ off + ys.length ≤ cs.length then some (.put r (.cells e (splice cs off ys))) else none | _ => none) | _ => none := by simp only [storeE, tz104]; cases y.cells <;> rfl
theorem al104 : allocR Zs 104 = some (.new (.cells 104 [.sl .nil 0 []])) := by rfl
theorem mi104 : ifaceD Zs 104 x = some (.iface 104 x) := by first | (simp only [ifaceD, tz104]; done) | (simp only [ifaceD, tz104]; rfl)
theorem mk104 {k' : IntKind} {m : Int} : makeSliceR Zs 0 104 (.int k i) (.int k' m) nx = if 0 ≤ i ∧ i ≤ m ∧ ((24 : Nat) : Int) * m ≤ 281474976710656 ∧ m ≤ (big : Int) then some (.row nx 0 i.toNat (some m.toNat) 1, .new (.cells 39 (List.replicate m.toNat (.sl .nil 0 [])))) else none := by exact mk_one tz104 tz39 rfl rfl rfl
theorem bs104_1 : buildSliceR Zs 0 104 1 [(0, x)] nx = lit1 x := by exact build1 tz104 tz39 rfl rfl rfl
theorem bs104_2 : buildSliceR Zs 0 104 2 [(0, x), (1, y)] nx = lit2 x y := by exact build2 tz104 tz39 rfl rfl rfl
theorem bs104_3 : buildSliceR Zs 0 104 3 [(0, x), (1, y), (2, x3)] nx = lit3 x y x3 := by exact build3 tz104 tz39 rfl rfl rfl
theorem ln104 : lenD Zs g #[104] (.sl o n cs) = some (.int .i64 n) := by simp [lenD, tz104]
theorem cpn104 : capD Zs #[104] (.sl .nil n cs) = some (.int .i64 0) := by simp [capD, tz104]
theorem cpr104 {kk z0 : Nat} : capD Zs #[104] (.row r off n (some kk) z0) = some (.int .i64 kk) := by simp [capD, tz104]
theorem lr104 {c0 : Option Nat} {z0 : Nat} : lenD Zs g #[104] (.row r off n c0 z0) = some (.int .i64 n) := by simp [lenD, tz104]
theorem ix104 : indexAddrD Zs 104 (.sl o n cs) (.int k i) = if (0 ≤ i ∧ i < n) ∧ 0 < cs.length then some (.at (cs.drop (i.toNat))) else none := by first | (simp only [indexAddrD, tz104, tz39, Nat.mul_one]; done) | (simp only [indexAddrD, tz104, tz39, Nat.mul_one]; rfl)
theorem ir104 {c0 : Option Nat} {z0 : Nat} : indexAddrD Zs 104 (.row r off n c0 z0) (.int k i) = if 0 ≤ i ∧ i < n then some (.ptr r (off + i.toNat)) else none := by first | (simp only [indexAddrD, tz104, tz39, Nat.mul_one]; done) | (simp only [indexAddrD, tz104, tz39, Nat.mul_one]; rfl)
theorem sl104 : sliceD Zs g 104 (.sl o n cs) lo hi none = match bound lo 0, bound hi n with | some l, some h => if 0 ≤ l ∧ l ≤ h ∧ h ≤ n ∧ cs.length = n then some (.sl (cutOwn o) (h.toNat - l.toNat) ((cs.drop (l.toNat)).take ((h.toNat - l.toNat)))) else none | _, _ => none := by simp only [sliceD, tz104, tz39, Nat.mul_one]; cases bound lo 0 <;> cases bound hi n <;> simp only [Nat.mul_one]
theorem en104 : binD Zs .eql 104 (.sl o n cs) (.sl .nil n' cs') = (nilOf o n).map .bool := by simp [binD, isNum, eqT, tz104]
theorem enr104 {c0 : Option Nat} {z0 : Nat} : binD Zs .eql 104 (.row r off n c0 z0) (.sl .nil n' cs') = some (.bool false) := by simp [binD, isNum, eqT, tz104]
theorem nn104 : binD Zs .neq 104 (.sl o n cs) (.sl .nil n' cs') = (nilOf o n).map fun b => .bool (!b) := by simp [binD, isNum, eqT, tz104]
theorem nnr104 {c0 : Option Nat} {z0 : Nat} : binD Zs .neq 104 (.row r off n c0 z0) (.sl .nil n' cs') = some (.bool true) := by simp [binD, isNum, eqT, tz104]
theorem ld108 : loadD Zs g 108 (.at cs) = cs[0]? := by first | (simp only [loadD, tz108, pack, TInfo.isAgg, Bool.false_eq_true, if_false, List.head?_eq_getElem?]; done) | (simp only [loadD, tz108, pack, TInfo.isAgg, Bool.false_eq_true, if_false, List.head?_eq_getElem?]; rfl)
theorem lp108 : loadD Zs g 108 (.ptr r off) = match g r with | some (.cells _ cs) => cs[off]? | _ => none := by first | (simp only [loadD, tz108, pack, TInfo.isAgg, Bool.false_eq_true, if_false, List.head?_drop]; done) | (simp only [loadD, tz108, pack, TInfo.isAgg, Bool.false_eq_true, if_false, List.head?_drop]; rfl)
theorem so108 : storeE Zs g 108 (.ptr r off) y = match y.cells with | some ys => (match g r with | some (.cells e cs) => if ys.length = 1 ∧ off + ys.length ≤ cs.length then some (.put r (.cells e (splice cs off ys))) else none | _ => none) | _ => none := by simp only [storeE, tz108]; cases y.cells <;> rfl
theorem al108 : allocR Zs 108 = some (.new (.cells 108 [.nilfunc])) := by rfl
theorem mi108 : ifaceD Zs 108 x = some (.iface 108 x) := by first | (simp only [ifaceD, tz108]; done) | (simp only [ifaceD, tz108]; rfl)
theorem ld114 : loadD Zs g 114 (.at cs) = cs[0]? := by first | (simp only [loadD, tz114, pack, TInfo.isAgg, Bool.false_eq_true, if_false, List.head?_eq_getElem?]; done) | (simp only [loadD, tz114, pack, TInfo.isAgg, Bool.false_eq_true, if_false, List.head?_eq_getElem?]; rfl)
theorem lp114 : loadD Zs g 114 (.ptr r off) = match g r with | some (.cells _ cs) => cs[off]? | _ => none := by first | (simp only [loadD, tz114, pack, TInfo.isAgg, Bool.false_eq_true, if_false, List.head?_drop]; done) | (simp only [loadD, tz114, pack, TInfo.isAgg, Bool.false_eq_true, if_false, List.head?_drop]; rfl)
theorem so114 : storeE Zs g 114 (.ptr r off) y = match y.cells with | some ys => (match g r with | some (.cells e cs) => if ys.length = 1 ∧ off + ys.length ≤ cs.length then some (.put r (.cells e (splice cs off ys))) else none | _ => none) | _ => none := by simp only [storeE, tz114]; cases y.cells <;> rfl
theorem al114 : allocR Zs 114 = some (.new (.cells 114 [.nilfunc])) := by rfl
theorem mi114 : ifaceD Zs 114 x = some (.iface 114 x) := by first | (simp only [ifaceD, tz114]; done) | (simp only [ifaceD, tz114]; rfl)
theorem ld130 : loadD Zs g 130 (.at cs) = cs[0]? := by first | (simp only [loadD, tz130, pack, TInfo.isAgg, Bool.false_eq_true, if_false, List.head?_eq_getElem?]; done) | (simp only [loadD, tz130, pack, TInfo.isAgg, Bool.false_eq_true, if_false, List.head?_eq_getElem?]; rfl)
theorem lp130 : loadD Zs g 130 (.ptr r off) = match g r with | some (.cells _ cs) => cs[off]? | _ => none := by first | (simp only [loadD, tz130, pack, TInfo.isAgg, Bool.false_eq_true, if_false, List.head?_drop]; done) | (simp only [loadD, tz130, pack, TInfo.isAgg, Bool.false_eq_true, if_false, List.head?_drop]; rfl)
theorem so130 : storeE Zs g 130 (.ptr r off) y = match y.cells with | some ys => (match g r with | some (.cells e cs) => if ys.length = 1 ∧ off + ys.length ≤ cs.length then some (.put r (.cells e (splice cs off ys))) else none | _ => none) | _ => none := by simp only [storeE, tz130]; cases y.cells <;> rfl
theorem al130 : allocR Zs 130 = some (.new (.cells 130 [.nilfunc])) := by rfl
theorem mi130 : ifaceD Zs 130 x = some (.iface 130 x) := by first | (simp only [ifaceD, tz130]; done) | (simp only [ifaceD, tz130]; rfl)
theorem ld158 : loadD Zs g 158 (.at cs) = cs[0]? := by first | (simp only [loadD, tz158, pack, TInfo.isAgg, Bool.false_eq_true, if_false, List.head?_eq_getElem?]; done) | (simp only [loadD, tz158, pack, TInfo.isAgg, Bool.false_eq_true, if_false, List.head?_eq_getElem?]; rfl)
theorem lp158 : loadD Zs g 158 (.ptr r off) = match g r with | some (.cells _ cs) => cs[off]? | _ => none := by first | (simp only [loadD, tz158, pack, TInfo.isAgg, Bool.false_eq_true, if_false, List.head?_drop]; done) | (simp only [loadD, tz158, pack, TInfo.isAgg, Bool.false_eq_true, if_false, List.head?_drop]; rfl)
theorem so158 : storeE Zs g 158 (.ptr r off) y = match y.cells with | some ys => (match g r with | some (.cells e cs) => if ys.length = 1 ∧ off + ys.length ≤ cs.length then some (.put r (.cells e (splice cs off ys))) else none | _ => none) | _ => none := by simp only [storeE, tz158]; cases y.cells <;> rfl
theorem al158 : allocR Zs 158 = some (.new (.cells 158 [.int .u64 0])) := by rfl
theorem mi158 : ifaceD Zs 158 x = some (.iface 158 x) := by first | (simp only [ifaceD, tz158]; done) | (simp only [ifaceD, tz158]; rfl)
theorem ld160 : loadD Zs g 160 (.at cs) = cs[0]? := by first | (simp only [loadD, tz160, pack, TInfo.isAgg, Bool.false_eq_true, if_false, List.head?_eq_getElem?]; done) | (simp only [loadD, tz160, pack, TInfo.isAgg, Bool.false_eq_true, if_false, List.head?_eq_getElem?]; rfl)
theorem lp160 : loadD Zs g 160 (.ptr r off) = match g r with | some (.cells _ cs) => cs[off]? | _ => none := by first | (simp only [loadD, tz160, pack, TInfo.isAgg, Bool.false_eq_true, if_false, List.head?_drop]; done) | (simp only [loadD, tz160, pack, TInfo.isAgg, Bool.false_eq_true, if_false, List.head?_drop]; rfl)
theorem so160 : storeE Zs g 160 (.ptr r off) y = match y.cells with | some ys => (match g r with | some (.cells e cs) => if ys.length = 1 ∧ off + ys.length ≤ cs.length then some (.put r (.cells e (splice cs off ys))) else none | _ => none) | _ => none := by simp only [storeE, tz160]; cases y.cells <;> rfl
theorem al160 : allocR Zs 160 = some (.new (.cells 160 [.nilmap])) := by rfl
theorem mi160 : ifaceD Zs 160 x = some (.iface 160 x) := by first | (simp only [ifaceD, tz160]; done) | (simp only [ifaceD, tz160]; rfl)
theorem meql160 : binD Zs .eql 160 (.map r) .nilmap = some (.bool false) := by simp [binD, isNum, eqT, tz160]
theorem mneql160 : binD Zs .eql 160 .nilmap .nilmap = some (.bool true) := by simp [binD, isNum, eqT, tz160]
theorem mneq160 : binD Zs .neq 160 (.map r) .nilmap = some (.bool true) := by simp [binD, isNum, eqT, tz160]
theorem mnneq160 : binD Zs .neq 160 .nilmap .nilmap = some (.bool false) := by simp [binD, isNum, eqT, tz160]
theorem lnn160 : lenD Zs g #[160] .nilmap = some (.int .i64 0) := by simp [lenD, tz160]
theorem lnm160 : lenD Zs g #[160] (.map r) = match g r with | some (.map es _) => some (.int .i64 es.length) | _ => none := by simp [lenD, tz160]; rfl
theorem ld164 : loadD Zs g 164 (.at cs) = cs[0]? := by first | (simp only [loadD, tz164, pack, TInfo.isAgg, Bool.false_eq_true, if_false, List.head?_eq_getElem?]; done) | (simp only [loadD, tz164, pack, TInfo.isAgg, Bool.false_eq_true, if_false, List.head?_eq_getElem?]; rfl)
theorem lp164 : loadD Zs g 164 (.ptr r off) = match g r with | some (.cells _ cs) => cs[off]? | _ => none := by first | (simp only [loadD, tz164, pack, TInfo.isAgg, Bool.false_eq_true, if_false, List.head?_drop]; done) | (simp only [loadD, tz164, pack, TInfo.isAgg, Bool.false_eq_true, if_false, List.head?_drop]; rfl)
theorem so164 : storeE Zs g 164 (.ptr r off) y = match y.cells with | some ys => (match g r with | some (.cells e cs) => if ys.length = 1 ∧ off + ys.length ≤ cs.length then some (.put r (.cells e (splice cs off ys))) else none | _ => none) | _ => none := by simp only [storeE, tz164]; cases y.cells <;> rfl
theorem al164 : allocR Zs 164 = some (.new (.cells 164 [.sl .nil 0 []])) := by rfl
theorem mi164 : ifaceD Zs 164 x = some (.iface 164 x) := by first | (simp only [ifaceD, tz164]; done) | (simp only [ifaceD, tz164]; rfl)
theorem ln164 : lenD Zs g #[164] (.sl o n cs) = some (.int .i64 n) := by simp [lenD, tz164]
theorem cpn164 : capD Zs #[164] (.sl .nil n cs) = some (.int .i64 0) := by simp [capD, tz164]
theorem cpr164 {kk z0 : Nat} : capD Zs #[164] (.row r off n (some kk) z0) = some (.int .i64 kk) := by simp [capD, tz164]
theorem lr164 {c0 : Option Nat} {z0 : Nat} : lenD Zs g #[164] (.row r off n c0 z0) = some (.int .i64 n) := by simp [lenD, tz164]
theorem ix164 : indexAddrD Zs 164 (.sl o n cs) (.int k i) = if (0 ≤ i ∧ i < n) ∧ 0 < cs.length then some (.at (cs.drop (i.toNat * 4))) else none := by first | (simp only [indexAddrD, tz164, tz166, Nat.mul_one]; done) | (simp only [indexAddrD, tz164, tz166, Nat.mul_one]; rfl)
theorem ir164 {c0 : Option Nat} {z0 : Nat} : indexAddrD Zs 164 (.row r off n c0 z0) (.int k i) = if 0 ≤ i ∧ i < n then some (.ptr r (off + i.toNat * 4)) else none := by first | (simp only [indexAddrD, tz164, tz166, Nat.mul_one]; done) | (simp only [indexAddrD, tz164, tz166, Nat.mul_one]; rfl)
theorem sl164 : sliceD Zs g 164 (.sl o n cs) lo hi none = match bound lo 0, bound hi n with | some l, some h => if 0 ≤ l ∧ l ≤ h ∧ h ≤ n ∧ cs.length = n * 4 then some (.sl (cutOwn o) (h.toNat - l.toNat) ((cs.drop (l.toNat * 4)).take ((h.toNat - l.toNat) * 4))) else none | _, _ => none := by simp only [sliceD, tz164, tz166, Nat.mul_one]; cases bound lo 0 <;> cases bound hi n <;> simp only [Nat.mul_one]
theorem en164 : binD Zs .eql 164 (.sl o n cs) (.sl .nil n' cs') = (nilOf o n).map .bool := by simp [binD, isNum, eqT, tz164]
theorem enr164 {c0 : Option Nat} {z0 : Nat} : binD Zs .eql 164 (.row r off n c0 z0) (.sl .nil n' cs') = some (.bool false) := by simp [binD, isNum, eqT, tz164]
theorem nn164 : binD Zs .neq 164 (.sl o n cs) (.sl .nil n' cs') = (nilOf o n).map fun b => .bool (!b) := by simp [binD, isNum, eqT, tz164]
theorem nnr164 {c0 : Option Nat} {z0 : Nat} : binD Zs .neq 164 (.row r off n c0 z0) (.sl .nil n' cs') = some (.bool true) := by simp [binD, isNum, eqT, tz164]
theorem ld165 : loadD Zs g 165 (.at cs) = if 4 ≤ cs.length then some (.agg (cs.take 4)) else none := by first | (simp only [loadD, tz165, pack, TInfo.isAgg, if_true]; done) | (simp only [loadD, tz165, pack, TInfo.isAgg, if_true]; rfl)
theorem lp165 : loadD Zs g 165 (.ptr r off) = match g r with | some (.cells _ cs) => (if 4 ≤ (cs.drop off).length then some (.agg ((cs.drop off).take 4)) else none) | _ => none := by first | (simp only [loadD, tz165, pack, TInfo.isAgg, if_true]; done) | (simp only [loadD, tz165, pack, TInfo.isAgg, if_true]; rfl)
theorem so165 : storeE Zs g 165 (.ptr r off) y = match y.cells with | some ys => (match g r with | some (.cells e cs) => if ys.length = 4 ∧ off + ys.length ≤ cs.length then some (.put r (.cells e (splice cs off ys))) else none | _ => none) | _ => none := by simp only [storeE, tz165]; cases y.cells <;> rfl
theorem al165 : allocR Zs 165 = some (.new (.cells 165 [.sl .nil 0 [], .int .i64 0, .sl .nil 0 [], .sl .nil 0 []])) := by rfl
theorem mi165 : ifaceD Zs 165 x = some (.iface 165 x) := by first | (simp only [ifaceD, tz165]; done) | (simp only [ifaceD, tz165]; rfl)
theorem fa165_0 : fieldAddrD Zs 165 0 (.at cs) = some (.at (cs.drop 0)) := by simp [fieldAddrD, fieldOf, tz165, tz23]
theorem fp165_0 : fieldAddrD Zs 165 0 (.ptr r o') = some (.ptr r (o' + 0)) := by simp [fieldAddrD, fieldOf, tz165, tz23]
theorem fl165_0 : fieldD Zs 165 0 (.agg cs) = cs[0]? := by simp [fieldD, fieldOf, tz165, tz23, partD, TInfo.isAgg]
theorem fa165_1 : fieldAddrD Zs 165 1 (.at cs) = some (.at (cs.drop 1)) := by simp [fieldAddrD, fieldOf, tz165, tz3]
theorem fp165_1 : fieldAddrD Zs 165 1 (.ptr r o') = some (.ptr r (o' + 1)) := by simp [fieldAddrD, fieldOf, tz165, tz3]
theorem fl165_1 : fieldD Zs 165 1 (.agg cs) = cs[1]? := by simp [fieldD, fieldOf, tz165, tz3, partD, TInfo.isAgg]
theorem fa165_2 : fieldAddrD Zs 165 2 (.at cs) = some (.at (cs.drop 2)) := by simp [fieldAddrD, fieldOf, tz165, tz39]
theorem fp165_2 : fieldAddrD Zs 165 2 (.ptr r o') = some (.ptr r (o' + 2)) := by simp [fieldAddrD, fieldOf, tz165, tz39]
theorem fl165_2 : fieldD Zs 165 2 (.agg cs) = cs[2]? := by simp [fieldD, fieldOf, tz165, tz39, partD, TInfo.isAgg]
theorem fa165_3 : fieldAddrD Zs 165 3 (.at cs) = some (.at (cs.drop 3)) := by simp [fieldAddrD, fieldOf, tz165, tz39]
theorem fp165_3 : fieldAddrD Zs 165 3 (.ptr r o') = some (.ptr r (o' + 3)) := by simp [fieldAddrD, fieldOf, tz165, tz39]
theorem fl165_3 : fieldD Zs 165 3 (.agg cs) = cs[3]? := by simp [fieldD, fieldOf, tz165, tz39, partD, TInfo.isAgg]
theorem ld166 : loadD Zs g 166 (.at cs) = if 4 ≤ cs.length then some (.agg (cs.take 4)) else none := by first | (simp only [loadD, tz166, pack, TInfo.isAgg, if_true]; done) | (simp only [loadD, tz166, pack, TInfo.isAgg, if_true]; rfl)
theorem lp166 : loadD Zs g 166 (.ptr r off) = match g r with | some (.cells _ cs) => (if 4 ≤ (cs.drop off).length then some (.agg ((cs.drop off).take 4)) else none) | _ => none := by first | (simp only [loadD, tz166, pack, TInfo.isAgg, if_true]; done) | (simp only [loadD, tz166, pack, TInfo.isAgg, if_true]; rfl)
theorem so166 : storeE Zs g 166 (.ptr r off) y = match y.cells with | some ys => (match g r with | some (.cells e cs) => if ys.length = 4 ∧ off + ys.length ≤ cs.length then some (.put r (.cells e (splice cs off ys))) else none | _ => none) | _ => none := by simp only [storeE, tz166]; cases y.cells <;> rfl
theorem al166 : allocR Zs 166 = some (.new (.cells 166 [.sl .nil 0 [], .int .i64 0, .sl .nil 0 [], .sl .nil 0 []])) := by rfl
theorem mi166 : ifaceD Zs 166 x = some (.iface 166 x) := by first | (simp only [ifaceD, tz166]; done) | (simp only [ifaceD, tz166]; rfl)
theorem fa166_0 : fieldAddrD Zs 166 0 (.at cs) = some (.at (cs.drop 0)) := by simp [fieldAddrD, fieldOf, tz166, tz23]
theorem fp166_0 : fieldAddrD Zs 166 0 (.ptr r o') = some (.ptr r (o' + 0)) := by simp [fieldAddrD, fieldOf, tz166, tz23]
theorem fl166_0 : fieldD Zs 166 0 (.agg cs) = cs[0]? := by simp [fieldD, fieldOf, tz166, tz23, partD, TInfo.isAgg]
theorem fa166_1 : fieldAddrD Zs 166 1 (.at cs) = some (.at (cs.drop 1)) := by simp [fieldAddrD, fieldOf, tz166, tz3]
theorem fp166_1 : fieldAddrD Zs 166 1 (.ptr r o') = some (.ptr r (o' + 1)) := by simp [fieldAddrD, fieldOf, tz166, tz3]
theorem fl166_1 : fieldD Zs 166 1 (.agg cs) = cs[1]? := by simp [fieldD, fieldOf, tz166, tz3, partD, TInfo.isAgg]
theorem fa166_2 : fieldAddrD Zs 166 2 (.at cs) = some (.at (cs.drop 2)) := by simp [fieldAddrD, fieldOf, tz166, tz39]
theorem fp166_2 : fieldAddrD Zs 166 2 (.ptr r o') = some (.ptr r (o' + 2)) := by simp [fieldAddrD, fieldOf, tz166, tz39]
theorem fl166_2 : fieldD Zs 166 2 (.agg cs) = cs[2]? := by simp [fieldD, fieldOf, tz166, tz39, partD, TInfo.isAgg]
theorem fa166_3 : fieldAddrD Zs 166 3 (.at cs) = some (.at (cs.drop 3)) := by simp [fieldAddrD, fieldOf, tz166, tz39]
theorem fp166_3 : fieldAddrD Zs 166 3 (.ptr r o') = some (.ptr r (o' + 3)) := by simp [fieldAddrD, fieldOf, tz166, tz39]
theorem fl166_3 : fieldD Zs 166 3 (.agg cs) = cs[3]? := by simp [fieldD, fieldOf, tz166, tz39, partD, TInfo.isAgg]
theorem ld169 : loadD Zs g 169 (.at cs) = cs[0]? := by first | (simp only [loadD, tz169, pack, TInfo.isAgg, Bool.false_eq_true, if_false, List.head?_eq_getElem?]; done) | (simp only [loadD, tz169, pack, TInfo.isAgg, Bool.false_eq_true, if_false, List.head?_eq_getElem?]; rfl)
theorem lp169 : loadD Zs g 169 (.ptr r off) = match g r with | some (.cells _ cs) => cs[off]? | _ => none := by first | (simp only [loadD, tz169, pack, TInfo.isAgg, Bool.false_eq_true, if_false, List.head?_drop]; done) | (simp only [loadD, tz169, pack, TInfo.isAgg, Bool.false_eq_true, if_false, List.head?_drop]; rfl)
theorem so169 : storeE Zs g 169 (.ptr r off) y = match y.cells with | some ys => (match g r with | some (.cells e cs) => if ys.length = 1 ∧ off + ys.length ≤ cs.length then some (.put r (.cells e (splice cs off ys))) else none | _ => none) | _ => none := by simp only [storeE, tz169]; cases y.cells <;> rfl
theorem al169 : allocR Zs 169 = some (.new (.cells 169 [.nilptr])) := by rfl
theorem mi169 : ifaceD Zs 169 x = some (.iface 169 x) := by first | (simp only [ifaceD, tz169]; done) | (simp only [ifaceD, tz169]; rfl)
theorem peql169 : binD Zs .eql 169 (.ptr r off) .nilptr = some (.bool false) := by simp [binD, isNum, eqT, tz169]
theorem paeql169 : binD Zs .eql 169 (.at cs) .nilptr = some (.bool false) := by simp [binD, isNum, eqT, tz169]
theorem pneql169 : binD Zs .eql 169 .nilptr .nilptr = some (.bool true) := by simp [binD, isNum, eqT, tz169]
theorem pneq169 : binD Zs .neq 169 (.ptr r off) .nilptr = some (.bool true) := by simp [binD, isNum, eqT, tz169]
theorem paneq169 : binD Zs .neq 169 (.at cs) .nilptr = some (.bool true) := by simp [binD, isNum, eqT, tz169]
theorem pnneq169 : binD Zs .neq 169 .nilptr .nilptr = some (.bool false) := by simp [binD, isNum, eqT, tz169]
theorem ld170 : loadD Zs g 170 (.at cs) = if 3 ≤ cs.length then some (.agg (cs.take 3)) else none := by first | (simp only [loadD, tz170, pack, TInfo.isAgg, if_true]; done) | (simp only [loadD, tz170, pack, TInfo.isAgg, if_true]; rfl)
theorem lp170 : loadD Zs g 170 (.ptr r off) = match g r with | some (.cells _ cs) => (if 3 ≤ (cs.drop off).length then some (.agg ((cs.drop off).take 3)) else none) | _ => none := by first | (simp only [loadD, tz170, pack, TInfo.isAgg, if_true]; done) | (simp only [loadD, tz170, pack, TInfo.isAgg, if_true]; rfl)
theorem so170 : storeE Zs g 170 (.ptr r off) y = match y.cells with | some ys => (match g r with | some (.cells e cs) => if ys.length = 3 ∧ off + ys.length ≤ cs.length then some (.put r (.cells e (splice cs off ys))) else none | _ => none) | _ => none := by simp only [storeE, tz170]; cases y.cells <;> rfl
theorem al170 : allocR Zs 170 = some (.new (.cells 170 [.sl .nil 0 [], .sl .nil 0 [], .sl .nil 0 []])) := by rfl
theorem mi170 : ifaceD Zs 170 x = some (.iface 170 x) := by first | (simp only [ifaceD, tz170]; done) | (simp only [ifaceD, tz170]; rfl)
theorem fa170_0 : fieldAddrD Zs 170 0 (.at cs) = some (.at (cs.drop 0)) := by simp [fieldAddrD, fieldOf, tz170, tz58]
theorem fp170_0 : fieldAddrD Zs 170 0 (.ptr r o') = some (.ptr r (o' + 0)) := by simp [fieldAddrD, fieldOf, tz170, tz58]
theorem fl170_0 : fieldD Zs 170 0 (.agg cs) = cs[0]? := by simp [fieldD, fieldOf, tz170, tz58, partD, TInfo.isAgg]
theorem fa170_1 : fieldAddrD Zs 170 1 (.at cs) = some (.at (cs.drop 1)) := by simp [fieldAddrD, fieldOf, tz170, tz58]
theorem fp170_1 : fieldAddrD Zs 170 1 (.ptr r o') = some (.ptr r (o' + 1)) := by simp [fieldAddrD, fieldOf, tz170, tz58]
theorem fl170_1 : fieldD Zs 170 1 (.agg cs) = cs[1]? := by simp [fieldD, fieldOf, tz170, tz58, partD, TInfo.isAgg]
theorem fa170_2 : fieldAddrD Zs 170 2 (.at cs) = some (.at (cs.drop 2)) := by simp [fieldAddrD, fieldOf, tz170, tz39]
theorem fp170_2 : fieldAddrD Zs 170 2 (.ptr r o') = some (.ptr r (o' + 2)) := by simp [fieldAddrD, fieldOf, tz170, tz39]
theorem fl170_2 : fieldD Zs 170 2 (.agg cs) = cs[2]? := by simp [fieldD, fieldOf, tz170, tz39, partD, TInfo.isAgg]
theorem ld171 : loadD Zs g 171 (.at cs) = if 3 ≤ cs.length then some (.agg (cs.take 3)) else none := by first | (simp only [loadD, tz171, pack, TInfo.isAgg, if_true]; done) | (simp only [loadD, tz171, pack, TInfo.isAgg, if_true]; rfl)
theorem lp171 : loadD Zs g 171 (.ptr r off) = match g r with | some (.cells _ cs) => (if 3 ≤ (cs.drop off).length then some (.agg ((cs.drop off).take 3)) else none) | _ => none := by first | (simp only [loadD, tz171, pack, TInfo.isAgg, if_true]; done) | (simp only [loadD, tz171, pack, TInfo.isAgg, if_true]; rfl)
theorem so171 : storeE Zs g 171 (.ptr r off) y = match y.cells with | some ys => (match g r with | some (.cells e cs) => if ys.length = 3 ∧ off + ys.length ≤ cs.length then some (.put r (.cells e (splice cs off ys))) else none | _ => none) | _ => none := by simp only [storeE, tz171]; cases y.cells <;> rfl
theorem al171 : allocR Zs 171 = some (.new (.cells 171 [.sl .nil 0 [], .sl .nil 0 [], .sl .nil 0 []])) := by rfl
theorem mi171 : ifaceD Zs 171 x = some (.iface 171 x) := by first | (simp only [ifaceD, tz171]; done) | (simp only [ifaceD, tz171]; rfl)
theorem fa171_0 : fieldAddrD Zs 171 0 (.at cs) = some (.at (cs.drop 0)) := by simp [fieldAddrD, fieldOf, tz171, tz58]
theorem fp171_0 : fieldAddrD Zs 171 0 (.ptr r o') = some (.ptr r (o' + 0)) := by simp [fieldAddrD, fieldOf, tz171, tz58]
theorem fl171_0 : fieldD Zs 171 0 (.agg cs) = cs[0]? := by simp [fieldD, fieldOf, tz171, tz58, partD, TInfo.isAgg]
theorem fa171_1 : fieldAddrD Zs 171 1 (.at cs) = some (.at (cs.drop 1)) := by simp [fieldAddrD, fieldOf, tz171, tz58]
theorem fp171_1 : fieldAddrD Zs 171 1 (.ptr r o') = some (.ptr r (o' + 1)) := by simp [fieldAddrD, fieldOf, tz171, tz58]
theorem fl171_1 : fieldD Zs 171 1 (.agg cs) = cs[1]? := by simp [fieldD, fieldOf, tz171, tz58, partD, TInfo.isAgg]
theorem fa171_2 : fieldAddrD Zs 171 2 (.at cs) = some (.at (cs.drop 2)) := by simp [fieldAddrD, fieldOf, tz171, tz39]
theorem fp171_2 : fieldAddrD Zs 171 2 (.ptr r o') = some (.ptr r (o' + 2)) := by simp [fieldAddrD, fieldOf, tz171, tz39]
theorem fl171_2 : fieldD Zs 171 2 (.agg cs) = cs[2]? := by simp [fieldD, fieldOf, tz171, tz39, partD, TInfo.isAgg]
theorem ld173 : loadD Zs g 173 (.at cs) = cs[0]? := by first | (simp only [loadD, tz173, pack, TInfo.isAgg, Bool.false_eq_true, if_false, List.head?_eq_getElem?]; done) | (simp only [loadD, tz173, pack, TInfo.isAgg, Bool.false_eq_true, if_false, List.head?_eq_getElem?]; rfl)
theorem lp173 : loadD Zs g 173 (.ptr r off) = match g r with | some (.cells _ cs) => cs[off]? | _ => none := by first | (simp only [loadD, tz173, pack, TInfo.isAgg, Bool.false_eq_true, if_false, List.head?_drop]; done) | (simp only [loadD, tz173, pack, TInfo.isAgg, Bool.false_eq_true, if_false, List.head?_drop]; rfl)
theorem so173 : storeE Zs g 173 (.ptr r off) y = match y.cells with | some ys => (match g r with | some (.cells e cs) => if ys.length = 1 ∧ off + ys.length ≤ cs.length then some (.put r (.cells e (splice cs off ys))) else none | _ => none) | _ => none := by simp only [storeE, tz173]; cases y.cells <;> rfl
theorem al173 : allocR Zs 173 = some (.new (.cells 173 [.nilptr])) := by rfl
theorem mi173 : ifaceD Zs 173 x = some (.iface 173 x) := by first | (simp only [ifaceD, tz173]; done) | (simp only [ifaceD, tz173]; rfl)
theorem peql173 : binD Zs .eql 173 (.ptr r off) .nilptr = some (.bool false) := by simp [binD, isNum, eqT, tz173]
theorem paeql173 : binD Zs .eql 173 (.at cs) .nilptr = some (.bool false) := by simp [binD, isNum, eqT, tz173]
theorem pneql173 : binD Zs .eql 173 .nilptr .nilptr = some (.bool true) := by simp [binD, isNum, eqT, tz173]
theorem pneq173 : binD Zs .neq 173 (.ptr r off) .nilptr = some (.bool true) := by simp [binD, isNum, eqT, tz173]
theorem paneq173 : binD Zs .neq 173 (.at cs) .nilptr = some (.bool true) := by simp [binD, isNum, eqT, tz173]
theorem pnneq173 : binD Zs .neq 173 .nilptr .nilptr = some (.bool false) := by simp [binD, isNum, eqT, tz173]
theorem ld174 : loadD Zs g 174 (.at cs) = cs[0]? := by first | (simp only [loadD, tz174, pack, TInfo.isAgg, Bool.false_eq_true, if_false, List.head?_eq_getElem?]; done) | (simp only [loadD, tz174, pack, TInfo.isAgg, Bool.false_eq_true, if_false, List.head?_eq_getElem?]; rfl)
theorem lp174 : loadD Zs g 174 (.ptr r off) = match g r with | some (.cells _ cs) => cs[off]? | _ => none := by first | (simp only [loadD, tz174, pack, TInfo.isAgg, Bool.false_eq_true, if_false, List.head?_drop]; done) | (simp only [loadD, tz174, pack, TInfo.isAgg, Bool.false_eq_true, if_false, List.head?_drop]; rfl)
theorem so174 : storeE Zs g 174 (.ptr r off) y = match y.cells with | some ys => (match g r with | some (.cells e cs) => if ys.length = 1 ∧ off + ys.length ≤ cs.length then some (.put r (.cells e (splice cs off ys))) else none | _ => none) | _ => none := by simp only [storeE, tz174]; cases y.cells <;> rfl
theorem al174 : allocR Zs 174 = some (.new (.cells 174 [.sl .nil 0 []])) := by rfl
theorem mi174 : ifaceD Zs 174 x = some (.iface 174 x) := by first | (simp only [ifaceD, tz174]; done) | (simp only [ifaceD, tz174]; rfl)
theorem mk174 {k' : IntKind} {m : Int} : makeSliceR Zs 0 174 (.int k i) (.int k' m) nx = if 0 ≤ i ∧ i ≤ m ∧ ((1 : Nat) : Int) * m ≤ 281474976710656 ∧ m ≤ (big : Int) then some (.row nx 0 i.toNat (some m.toNat) 1, .new (.cells 5 (List.replicate m.toNat (.int .u8 0)))) else none := by exact mk_one tz174 tz5 rfl rfl rfl
theorem bs174_1 : buildSliceR Zs 0 174 1 [(0, x)] nx = lit1 x := by exact build1 tz174 tz5 rfl rfl rfl
theorem bs174_2 : buildSliceR Zs 0 174 2 [(0, x), (1, y)] nx = lit2 x y := by exact build2 tz174 tz5 rfl rfl rfl
theorem bs174_3 : buildSliceR Zs 0 174 3 [(0, x), (1, y), (2, x3)] nx = lit3 x y x3 := by exact build3 tz174 tz5 rfl rfl rfl
theorem ln174 : lenD Zs g #[174] (.sl o n cs) = some (.int .i64 n) := by simp [lenD, tz174]
theorem cpn174 : capD Zs #[174] (.sl .nil n cs) = some (.int .i64 0) := by simp [capD, tz174]
theorem cpr174 {kk z0 : Nat} : capD Zs #[174] (.row r off n (some kk) z0) = some (.int .i64 kk) := by simp [capD, tz174]
theorem lr174 {c0 : Option Nat} {z0 : Nat} : lenD Zs g #[174] (.row r off n c0 z0) = some (.int .i64 n) := by simp [lenD, tz174]
theorem ix174 : indexAddrD Zs 174 (.sl o n cs) (.int k i) = if (0 ≤ i ∧ i < n) ∧ 0 < cs.length then some (.at (cs.drop (i.toNat))) else none := by first | (simp only [indexAddrD, tz174, tz5, Nat.mul_one]; done) | (simp only [indexAddrD, tz174, tz5, Nat.mul_one]; rfl)
theorem ir174 {c0 : Option Nat} {z0 : Nat} : indexAddrD Zs 174 (.row r off n c0 z0) (.int k i) = if 0 ≤ i ∧ i < n then some (.ptr r (off + i.toNat)) else none := by first | (simp only [indexAddrD, tz174, tz5, Nat.mul_one]; done) | (simp only [indexAddrD, tz174, tz5, Nat.mul_one]; rfl)
theorem sl174 : sliceD Zs g 174 (.sl o n cs) lo hi none = match bound lo 0, bound hi n with | some l, some h => if 0 ≤ l ∧ l ≤ h ∧ h ≤ n ∧ cs.length = n then some (.sl (cutOwn o) (h.toNat - l.toNat) ((cs.drop (l.toNat)).take ((h.toNat - l.toNat)))) else none | _, _ => none := by simp only [sliceD, tz174, tz5, Nat.mul_one]; cases bound lo 0 <;> cases bound hi n <;> simp only [Nat.mul_one]
theorem en174 : binD Zs .eql 174 (.sl o n cs) (.sl .nil n' cs') = (nilOf o n).map .bool := by simp [binD, isNum, eqT, tz174]
theorem enr174 {c0 : Option Nat} {z0 : Nat} : binD Zs .eql 174 (.row r off n c0 z0) (.sl .nil n' cs') = some (.bool false) := by simp [binD, isNum, eqT, tz174]
theorem nn174 : binD Zs .neq 174 (.sl o n cs) (.sl .nil n' cs') = (nilOf o n).map fun b => .bool (!b) := by simp [binD, isNum, eqT, tz174]
theorem nnr174 {c0 : Option Nat} {z0 : Nat} : binD Zs .neq 174 (.row r off n c0 z0) (.sl .nil n' cs') = some (.bool true) := by simp [binD, isNum, eqT, tz174]
theorem ld175 : loadD Zs g 175 (.at cs) = if 2 ≤ cs.length then some (.agg (cs.take 2)) else none := by first | (simp only [loadD, tz175, pack, TInfo.isAgg, if_true]; done) | (simp only [loadD, tz175, pack, TInfo.isAgg, if_true]; rfl)
theorem lp175 : loadD Zs g 175 (.ptr r off) = match g r with | some (.cells _ cs) => (if 2 ≤ (cs.drop off).length then some (.agg ((cs.drop off).take 2)) else none) | _ => none := by first | (simp only [loadD, tz175, pack, TInfo.isAgg, if_true]; done) | (simp only [loadD, tz175, pack, TInfo.isAgg, if_true]; rfl)
theorem so175 : storeE Zs g 175 (.ptr r off) y = match y.cells with | some ys => (match g r with | some (.cells e cs) => if ys.length = 2 ∧ off + ys.length ≤ cs.length then some (.put r (.cells e (splice cs off ys))) else none | _ => none) | _ => none := by simp only [storeE, tz175]; cases y.cells <;> rfl
theorem al175 : allocR Zs 175 = some (.new (.cells 175 [.nilptr, .sl .nil 0 []])) := by rfl
theorem mi175 : ifaceD Zs 175 x = some (.iface 175 x) := by first | (simp only [ifaceD, tz175]; done) | (simp only [ifaceD, tz175]; rfl)
theorem fa175_0 : fieldAddrD Zs 175 0 (.at cs) = some (.at (cs.drop 0)) := by simp [fieldAddrD, fieldOf, tz175, tz173]
theorem fp175_0 : fieldAddrD Zs 175 0 (.ptr r o') = some (.ptr r (o' + 0)) := by simp [fieldAddrD, fieldOf, tz175, tz173]
theorem fl175_0 : fieldD Zs 175 0 (.agg cs) = cs[0]? := by simp [fieldD, fieldOf, tz175, tz173, partD, TInfo.isAgg]
theorem fa175_1 : fieldAddrD Zs 175 1 (.at cs) = some (.at (cs.drop 1)) := by simp [fieldAddrD, fieldOf, tz175, tz174]
theorem fp175_1 : fieldAddrD Zs 175 1 (.ptr r o') = some (.ptr r (o' + 1)) := by simp [fieldAddrD, fieldOf, tz175, tz174]
theorem fl175_1 : fieldD Zs 175 1 (.agg cs) = cs[1]? := by simp [fieldD, fieldOf, tz175, tz174, partD, TInfo.isAgg]
theorem ld176 : loadD Zs g 176 (.at cs) = if 2 ≤ cs.length then some (.agg (cs.take 2)) else none := by first | (simp only [loadD, tz176, pack, TInfo.isAgg, if_true]; done) | (simp only [loadD, tz176, pack, TInfo.isAgg, if_true]; rfl)
theorem lp176 : loadD Zs g 176 (.ptr r off) = match g r with | some (.cells _ cs) => (if 2 ≤ (cs.drop off).length then some (.agg ((cs.drop off).take 2)) else none) | _ => none := by first | (simp only [loadD, tz176, pack, TInfo.isAgg, if_true]; done) | (simp only [loadD, tz176, pack, TInfo.isAgg, if_true]; rfl)
theorem so176 : storeE Zs g 176 (.ptr r off) y = match y.cells with | some ys => (match g r with | some (.cells e cs) => if ys.length = 2 ∧ off + ys.length ≤ cs.length then some (.put r (.cells e (splice cs off ys))) else none | _ => none) | _ => none := by simp only [storeE, tz176]; cases y.cells <;> rfl
theorem al176 : allocR Zs 176 = some (.new (.cells 176 [.nilptr, .sl .nil 0 []])) := by rfl
theorem mi176 : ifaceD Zs 176 x = some (.iface 176 x) := by first | (simp only [ifaceD, tz176]; done) | (simp only [ifaceD, tz176]; rfl)
theorem fa176_0 : fieldAddrD Zs 176 0 (.at cs) = some (.at (cs.drop 0)) := by simp [fieldAddrD, fieldOf, tz176, tz173]
theorem fp176_0 : fieldAddrD Zs 176 0 (.ptr r o') = some (.ptr r (o' + 0)) := by simp [fieldAddrD, fieldOf, tz176, tz173]
theorem fl176_0 : fieldD Zs 176 0 (.agg cs) = cs[0]? := by simp [fieldD, fieldOf, tz176, tz173, partD, TInfo.isAgg]
theorem fa176_1 : fieldAddrD Zs 176 1 (.at cs) = some (.at (cs.drop 1)) := by simp [fieldAddrD, fieldOf, tz176, tz174]
theorem fp176_1 : fieldAddrD Zs 176 1 (.ptr r o') = some (.ptr r (o' + 1)) := by simp [fieldAddrD, fieldOf, tz176, tz174]
theorem fl176_1 : fieldD Zs 176 1 (.agg cs) = cs[1]? := by simp [fieldD, fieldOf, tz176, tz174, partD, TInfo.isAgg]
theorem ld203 : loadD Zs g 203 (.at cs) = cs[0]? := by first | (simp only [loadD, tz203, pack, TInfo.isAgg, Bool.false_eq_true, if_false, List.head?_eq_getElem?]; done) | (simp only [loadD, tz203, pack, TInfo.isAgg, Bool.false_eq_true, if_false, List.head?_eq_getElem?]; rfl)
theorem lp203 : loadD Zs g 203 (.ptr r off) = match g r with | some (.cells _ cs) => cs[off]? | _ => none := by first | (simp only [loadD, tz203, pack, TInfo.isAgg, Bool.false_eq_true, if_false, List.head?_drop]; done) | (simp only [loadD, tz203, pack, TInfo.isAgg, Bool.false_eq_true, if_false, List.head?_drop]; rfl)
theorem so203 : storeE Zs g 203 (.ptr r off) y = match y.cells with | some ys => (match g r with | some (.cells e cs) => if ys.length = 1 ∧ off + ys.length ≤ cs.length then some (.put r (.cells e (splice cs off ys))) else none | _ => none) | _ => none := by simp only [storeE, tz203]; cases y.cells <;> rfl
theorem al203 : allocR Zs 203 = some (.new (.cells 203 [.int .i64 0])) := by rfl
theorem mi203 : ifaceD Zs 203 x = some (.iface 203 x) := by first | (simp only [ifaceD, tz203]; done) | (simp only [ifaceD, tz203]; rfl)
theorem ld210 : loadD Zs g 210 (.at cs) = cs[0]? := by first | (simp only [loadD, tz210, pack, TInfo.isAgg, Bool.false_eq_true, if_false, List.head?_eq_getElem?]; done) | (simp only [loadD, tz210, pack, TInfo.isAgg, Bool.false_eq_true, if_false, List.head?_eq_getElem?]; rfl)
theorem lp210 : loadD Zs g 210 (.ptr r off) = match g r with | some (.cells _ cs) => cs[off]? | _ => none := by first | (simp only [loadD, tz210, pack, TInfo.isAgg, Bool.false_eq_true, if_false, List.head?_drop]; done) | (simp only [loadD, tz210, pack, TInfo.isAgg, Bool.false_eq_true, if_false, List.head?_drop]; rfl)
theorem so210 : storeE Zs g 210 (.ptr r off) y = match y.cells with | some ys => (match g r with | some (.cells e cs) => if ys.length = 1 ∧ off + ys.length ≤ cs.length then some (.put r (.cells e (splice cs off ys))) else none | _ => none) | _ => none := by simp only [storeE, tz210]; cases y.cells <;> rfl
theorem al210 : allocR Zs 210 = some (.new (.cells 210 [.int .u32 0])) := by rfl
theorem mi210 : ifaceD Zs 210 x = some (.iface 210 x) := by first | (simp only [ifaceD, tz210]; done) | (simp only [ifaceD, tz210]; rfl)
theorem ld212 : loadD Zs g 212 (.at cs) = cs[0]? := by first | (simp only [loadD, tz212, pack, TInfo.isAgg, Bool.false_eq_true, if_false, List.head?_eq_getElem?]; done) | (simp only [loadD, tz212, pack, TInfo.isAgg, Bool.false_eq_true, if_false, List.head?_eq_getElem?]; rfl)
theorem lp212 : loadD Zs g 212 (.ptr r off) = match g r with | some (.cells _ cs) => cs[off]? | _ => none := by first | (simp only [loadD, tz212, pack, TInfo.isAgg, Bool.false_eq_true, if_false, List.head?_drop]; done) | (simp only [loadD, tz212, pack, TInfo.isAgg, Bool.false_eq_true, if_false, List.head?_drop]; rfl)
theorem so212 : storeE Zs g 212 (.ptr r off) y = match y.cells with | some ys => (match g r with | some (.cells e cs) => if ys.length = 1 ∧ off + ys.length ≤ cs.length then some (.put r (.cells e (splice cs off ys))) else none | _ => none) | _ => none := by simp only [storeE, tz212]; cases y.cells <;> rfl
theorem al212 : allocR Zs 212 = some (.new (.cells 212 [.int .u64 0])) := by rfl
theorem mi212 : ifaceD Zs 212 x = some (.iface 212 x) := by first | (simp only [ifaceD, tz212]; done) | (simp only [ifaceD, tz212]; rfl)
theorem ld214 : loadD Zs g 214 (.at cs) = cs[0]? := by first | (simp only [loadD, tz214, pack, TInfo.isAgg, Bool.false_eq_true, if_false, List.head?_eq_getElem?]; done) | (simp only [loadD, tz214, pack, TInfo.isAgg, Bool.false_eq_true, if_false, List.head?_eq_getElem?]; rfl)
theorem lp214 : loadD Zs g 214 (.ptr r off) = match g r with | some (.cells _ cs) => cs[off]? | _ => none := by first | (simp only [loadD, tz214, pack, TInfo.isAgg, Bool.false_eq_true, if_false, List.head?_drop]; done) | (simp only [loadD, tz214, pack, TInfo.isAgg, Bool.false_eq_true, if_false, List.head?_drop]; rfl)
theorem so214 : storeE Zs g 214 (.ptr r off) y = match y.cells with | some ys => (match g r with | some (.cells e cs) => if ys.length = 1 ∧ off + ys.length ≤ cs.length then some (.put r (.cells e (splice cs off ys))) else none | _ => none) | _ => none := by simp only [storeE, tz214]; cases y.cells <;> rfl
theorem al214 : allocR Zs 214 = some (.new (.cells 214 [.nilptr])) := by rfl
theorem mi214 : ifaceD Zs 214 x = some (.iface 214 x) := by first | (simp only [ifaceD, tz214]; done) | (simp only [ifaceD, tz214]; rfl)
theorem peql214 : binD Zs .eql 214 (.ptr r off) .nilptr = some (.bool false) := by simp [binD, isNum, eqT, tz214]
theorem paeql214 : binD Zs .eql 214 (.at cs) .nilptr = some (.bool false) := by simp [binD, isNum, eqT, tz214]
theorem pneql214 : binD Zs .eql 214 .nilptr .nilptr = some (.bool true) := by simp [binD, isNum, eqT, tz214]
theorem pneq214 : binD Zs .neq 214 (.ptr r off) .nilptr = some (.bool true) := by simp [binD, isNum, eqT, tz214]
theorem paneq214 : binD Zs .neq 214 (.at cs) .nilptr = some (.bool true) := by simp [binD, isNum, eqT, tz214]
theorem pnneq214 : binD Zs .neq 214 .nilptr .nilptr = some (.bool false) := by simp [binD, isNum, eqT, tz214]
theorem ld233 : loadD Zs g 233 (.at cs) = cs[0]? := by first | (simp only [loadD, tz233, pack, TInfo.isAgg, Bool.false_eq_true, if_false, List.head?_eq_getElem?]; done) | (simp only [loadD, tz233, pack, TInfo.isAgg, Bool.false_eq_true, if_false, List.head?_eq_getElem?]; rfl)
theorem lp233 : loadD Zs g 233 (.ptr r off) = match g r with | some (.cells _ cs) => cs[off]? | _ => none := by first | (simp only [loadD, tz233, pack, TInfo.isAgg, Bool.false_eq_true, if_false, List.head?_drop]; done) | (simp only [loadD, tz233, pack, TInfo.isAgg, Bool.false_eq_true, if_false, List.head?_drop]; rfl)
theorem so233 : storeE Zs g 233 (.ptr r off) y = match y.cells with | some ys => (match g r with | some (.cells e cs) => if ys.length = 1 ∧ off + ys.length ≤ cs.length then some (.put r (.cells e (splice cs off ys))) else none | _ => none) | _ => none := by simp only [storeE, tz233]; cases y.cells <;> rfl
theorem al233 : allocR Zs 233 = some (.new (.cells 233 [.nilptr])) := by rfl
theorem mi233 : ifaceD Zs 233 x = some (.iface 233 x) := by first | (simp only [ifaceD, tz233]; done) | (simp only [ifaceD, tz233]; rfl)
theorem cv3_158 : convD Zs 3 158 (.int k i) = some (.int .u64 (IntKind.wrap .u64 i)) := by first | (simp only [convD, tz3, tz158]; done) | (simp only [convD, tz3, tz158]; rfl)
theorem cv5_3 : convD Zs 5 3 (.int k i) = some (.int .i64 (IntKind.wrap .i64 i)) := by first | (simp only [convD, tz5, tz3]; done) | (simp only [convD, tz5, tz3]; rfl)
theorem cv5_210 : convD Zs 5 210 (.int k i) = some (.int .u32 (IntKind.wrap .u32 i)) := by first | (simp only [convD, tz5, tz210]; done) | (simp only [convD, tz5, tz210]; rfl)
theorem cv158_3 : convD Zs 158 3 (.int k i) = some (.int .i64 (IntKind.wrap .i64 i)) := by first | (simp only [convD, tz158, tz3]; done) | (simp only [convD, tz158, tz3]; rfl)
theorem cv158_210 : convD Zs 158 210 (.int k i) = some (.int .u32 (IntKind.wrap .u32 i)) := by first | (simp only [convD, tz158, tz210]; done) | (simp only [convD, tz158, tz210]; rfl)
theorem cv210_5 : convD Zs 210 5 (.int k i) = some (.int .u8 (IntKind.wrap .u8 i)) := by first | (simp only [convD, tz210, tz5]; done) | (simp only [convD, tz210, tz5]; rfl)
theorem cv212_5 : convD Zs 212 5 (.int k i) = some (.int .u8 (IntKind.wrap .u8 i)) := by first | (simp only [convD, tz212, tz5]; done) | (simp only [convD, tz212, tz5]; rfl)
theorem co0 : ofV (.string ⟨#[108, 101, 110, 32, 111, 117, 116, 32, 111, 102, 32, 114, 97, 110, 103, 101]⟩) = .str ⟨#[108, 101, 110, 32, 111, 117, 116, 32, 111, 102, 32, 114, 97, 110, 103, 101]⟩ := (rfl)
theorem co1 : ofV (.string ⟨#[115, 116, 114, 105, 110, 103, 115, 46, 66, 117, 105, 108, 100, 101, 114, 46, 71, 114, 111, 119, 58, 32, 110, 101, 103, 97, 116, 105, 118, 101, 32, 99, 111, 117, 110, 116]⟩) = .str ⟨#[115, 116, 114, 105, 110, 103, 115, 46, 66, 117, 105, 108, 100, 101, 114, 46, 71, 114, 111, 119, 58, 32, 110, 101, 103, 97, 116, 105, 118, 101, 32, 99, 111, 117, 110, 116]⟩ := (rfl)
theorem co2 : ofV (.string ⟨#[115, 116, 114, 105, 110, 103, 115, 58, 32, 74, 111, 105, 110, 32, 111, 117, 116, 112, 117, 116, 32, 108, 101, 110, 103, 116, 104, 32, 111, 118, 101, 114, 102, 108, 111, 119]⟩) = .str ⟨#[115, 116, 114, 105, 110, 103, 115, 58, 32, 74, 111, 105, 110, 32, 111, 117, 116, 112, 117, 116, 32, 108, 101, 110, 103, 116, 104, 32, 111, 118, 101, 114, 102, 108, 111, 119]⟩ := (rfl)
theorem co3 : ofV (.string ⟨#[120]⟩) = .str ⟨#[120]⟩ := (rfl)
theorem co4 : ofV (.string ⟨#[32]⟩) = .str ⟨#[32]⟩ := (rfl)
theorem co5 : ofV (.string ⟨#[97]⟩) = .str ⟨#[97]⟩ := (rfl)
theorem co6 : ofV (.string ⟨#[98]⟩) = .str ⟨#[98]⟩ := (rfl)
theorem co7 : ofV (.string ⟨#[99, 97, 110, 110, 111, 116, 32, 98, 101, 32, 110, 101, 103, 97, 116, 105, 118, 101]⟩) = .str ⟨#[99, 97, 110, 110, 111, 116, 32, 98, 101, 32, 110, 101, 103, 97, 116, 105, 118, 101]⟩ := (rfl)
theorem co8 : ofV (.string ⟨#[]⟩) = .str ⟨#[]⟩ := (rfl)
end
end Go.Proofs.YtldlcejlfaogbaaGreatDoor.Vs
