/- Operations at the seat's types, written by dgen.py. -/
import Derived.Test.YtldlcejlfaogbaaDoorDmTy
import Derived.Test.YtldlcejlfaogbaaDoorDmLib
namespace Go.Proofs.YtldlcejlfaogbaaDoor.Vs
set_option linter.unusedVariables false
set_option linter.unusedSimpArgs false
section
variable {g : Nat → Option AO} {cs cs' : List D} {x y x3 : D} {o : Own} {n n' nx : Nat} {r off o' : Nat} {i : Int} {k : IntKind} {s : ByteArray} {lo hi : Option D}
theorem ld3 : loadD Zs g 3 (.at cs) = cs[0]? := by first | (simp only [loadD, tz3, pack, TInfo.isAgg, Bool.false_eq_true, if_false, List.head?_eq_getElem?]; done) | (simp only [loadD, tz3, pack, TInfo.isAgg, Bool.false_eq_true, if_false, List.head?_eq_getElem?]; rfl)
theorem lp3 : loadD Zs g 3 (.ptr r off) = match g r with | some (.cells _ cs) => cs[off]? | _ => none := by first | (simp only [loadD, tz3, pack, TInfo.isAgg, Bool.false_eq_true, if_false, List.head?_drop]; done) | (simp only [loadD, tz3, pack, TInfo.isAgg, Bool.false_eq_true, if_false, List.head?_drop]; rfl)
theorem so3 : storeE Zs g 3 (.ptr r off) y = match y.cells with | some ys => (match g r with | some (.cells e cs) => if ys.length = 1 ∧ off + ys.length ≤ cs.length then some (.put r (.cells e (splice cs off ys))) else none | _ => none) | _ => none := by simp only [storeE, tz3]; cases y.cells <;> rfl
theorem al3 : allocR Zs 3 = some (.new (.cells 3 [.int .i64 0])) := by rfl
theorem mi3 : ifaceD Zs 3 x = some (.iface 3 x) := by first | (simp only [ifaceD, tz3]; done) | (simp only [ifaceD, tz3]; rfl)
theorem ld4 : loadD Zs g 4 (.at cs) = cs[0]? := by first | (simp only [loadD, tz4, pack, TInfo.isAgg, Bool.false_eq_true, if_false, List.head?_eq_getElem?]; done) | (simp only [loadD, tz4, pack, TInfo.isAgg, Bool.false_eq_true, if_false, List.head?_eq_getElem?]; rfl)
theorem lp4 : loadD Zs g 4 (.ptr r off) = match g r with | some (.cells _ cs) => cs[off]? | _ => none := by first | (simp only [loadD, tz4, pack, TInfo.isAgg, Bool.false_eq_true, if_false, List.head?_drop]; done) | (simp only [loadD, tz4, pack, TInfo.isAgg, Bool.false_eq_true, if_false, List.head?_drop]; rfl)
theorem so4 : storeE Zs g 4 (.ptr r off) y = match y.cells with | some ys => (match g r with | some (.cells e cs) => if ys.length = 1 ∧ off + ys.length ≤ cs.length then some (.put r (.cells e (splice cs off ys))) else none | _ => none) | _ => none := by simp only [storeE, tz4]; cases y.cells <;> rfl
theorem al4 : allocR Zs 4 = some (.new (.cells 4 [.bool false])) := by rfl
theorem mi4 : ifaceD Zs 4 x = some (.iface 4 x) := by first | (simp only [ifaceD, tz4]; done) | (simp only [ifaceD, tz4]; rfl)
theorem bq4 {a b : Bool} : binD Zs .eql 4 (.bool a) (.bool b) = some (.bool (a == b)) := by simp [binD, isNum, eqT, tz4, eqS]
theorem bn4 {a b : Bool} : binD Zs .neq 4 (.bool a) (.bool b) = some (.bool (!(a == b))) := by simp [binD, isNum, eqT, tz4, eqS]
theorem ld5 : loadD Zs g 5 (.at cs) = cs[0]? := by first | (simp only [loadD, tz5, pack, TInfo.isAgg, Bool.false_eq_true, if_false, List.head?_eq_getElem?]; done) | (simp only [loadD, tz5, pack, TInfo.isAgg, Bool.false_eq_true, if_false, List.head?_eq_getElem?]; rfl)
theorem lp5 : loadD Zs g 5 (.ptr r off) = match g r with | some (.cells _ cs) => cs[off]? | _ => none := by first | (simp only [loadD, tz5, pack, TInfo.isAgg, Bool.false_eq_true, if_false, List.head?_drop]; done) | (simp only [loadD, tz5, pack, TInfo.isAgg, Bool.false_eq_true, if_false, List.head?_drop]; rfl)
theorem so5 : storeE Zs g 5 (.ptr r off) y = match y.cells with | some ys => (match g r with | some (.cells e cs) => if ys.length = 1 ∧ off + ys.length ≤ cs.length then some (.put r (.cells e (splice cs off ys))) else none | _ => none) | _ => none := by simp only [storeE, tz5]; cases y.cells <;> rfl
theorem al5 : allocR Zs 5 = some (.new (.cells 5 [.int .u8 0])) := by rfl
theorem mi5 : ifaceD Zs 5 x = some (.iface 5 x) := by first | (simp only [ifaceD, tz5]; done) | (simp only [ifaceD, tz5]; rfl)
theorem ld9 : loadD Zs g 9 (.at cs) = cs[0]? := by first | (simp only [loadD, tz9, pack, TInfo.isAgg, Bool.false_eq_true, if_false, List.head?_eq_getElem?]; done) | (simp only [loadD, tz9, pack, TInfo.isAgg, Bool.false_eq_true, if_false, List.head?_eq_getElem?]; rfl)
theorem lp9 : loadD Zs g 9 (.ptr r off) = match g r with | some (.cells _ cs) => cs[off]? | _ => none := by first | (simp only [loadD, tz9, pack, TInfo.isAgg, Bool.false_eq_true, if_false, List.head?_drop]; done) | (simp only [loadD, tz9, pack, TInfo.isAgg, Bool.false_eq_true, if_false, List.head?_drop]; rfl)
theorem so9 : storeE Zs g 9 (.ptr r off) y = match y.cells with | some ys => (match g r with | some (.cells e cs) => if ys.length = 1 ∧ off + ys.length ≤ cs.length then some (.put r (.cells e (splice cs off ys))) else none | _ => none) | _ => none := by simp only [storeE, tz9]; cases y.cells <;> rfl
theorem al9 : allocR Zs 9 = some (.new (.cells 9 [.str ⟨#[]⟩])) := by rfl
theorem mi9 : ifaceD Zs 9 x = some (.iface 9 x) := by first | (simp only [ifaceD, tz9]; done) | (simp only [ifaceD, tz9]; rfl)
theorem ln9 : lenD Zs g #[9] (.str s) = some (.int .i64 s.size) := by simp [lenD, tz9]
theorem ie9 : indexD Zs 9 (.str s) (.int k i) = if 0 ≤ i ∧ i < s.size then some (.int .u8 (byteAt s i.toNat)) else none := by first | (simp only [indexD, tz9]; done) | (simp only [indexD, tz9]; rfl)
theorem sl9 : sliceD Zs g 9 (.str s) lo hi none = match bound lo 0, bound hi s.size with | some l, some h => if 0 ≤ l ∧ l ≤ h ∧ h ≤ s.size then some (.str (s.extract l.toNat h.toNat)) else none | _, _ => none := by first | (simp only [sliceD, tz9]; done) | (simp only [sliceD, tz9]; rfl)
theorem ld21 : loadD Zs g 21 (.at cs) = cs[0]? := by first | (simp only [loadD, tz21, pack, TInfo.isAgg, Bool.false_eq_true, if_false, List.head?_eq_getElem?]; done) | (simp only [loadD, tz21, pack, TInfo.isAgg, Bool.false_eq_true, if_false, List.head?_eq_getElem?]; rfl)
theorem lp21 : loadD Zs g 21 (.ptr r off) = match g r with | some (.cells _ cs) => cs[off]? | _ => none := by first | (simp only [loadD, tz21, pack, TInfo.isAgg, Bool.false_eq_true, if_false, List.head?_drop]; done) | (simp only [loadD, tz21, pack, TInfo.isAgg, Bool.false_eq_true, if_false, List.head?_drop]; rfl)
theorem so21 : storeE Zs g 21 (.ptr r off) y = match y.cells with | some ys => (match g r with | some (.cells e cs) => if ys.length = 1 ∧ off + ys.length ≤ cs.length then some (.put r (.cells e (splice cs off ys))) else none | _ => none) | _ => none := by simp only [storeE, tz21]; cases y.cells <;> rfl
theorem al21 : allocR Zs 21 = some (.new (.cells 21 [.int .i32 0])) := by rfl
theorem mi21 : ifaceD Zs 21 x = some (.iface 21 x) := by first | (simp only [ifaceD, tz21]; done) | (simp only [ifaceD, tz21]; rfl)
theorem ld22 : loadD Zs g 22 (.at cs) = cs[0]? := by first | (simp only [loadD, tz22, pack, TInfo.isAgg, Bool.false_eq_true, if_false, List.head?_eq_getElem?]; done) | (simp only [loadD, tz22, pack, TInfo.isAgg, Bool.false_eq_true, if_false, List.head?_eq_getElem?]; rfl)
theorem lp22 : loadD Zs g 22 (.ptr r off) = match g r with | some (.cells _ cs) => cs[off]? | _ => none := by first | (simp only [loadD, tz22, pack, TInfo.isAgg, Bool.false_eq_true, if_false, List.head?_drop]; done) | (simp only [loadD, tz22, pack, TInfo.isAgg, Bool.false_eq_true, if_false, List.head?_drop]; rfl)
theorem so22 : storeE Zs g 22 (.ptr r off) y = match y.cells with | some ys => (match g r with | some (.cells e cs) => if ys.length = 1 ∧ off + ys.length ≤ cs.length then some (.put r (.cells e (splice cs off ys))) else none | _ => none) | _ => none := by simp only [storeE, tz22]; cases y.cells <;> rfl
theorem al22 : allocR Zs 22 = some (.new (.cells 22 [.sl .nil 0 []])) := by rfl
theorem mi22 : ifaceD Zs 22 x = some (.iface 22 x) := by first | (simp only [ifaceD, tz22]; done) | (simp only [ifaceD, tz22]; rfl)
theorem ln22 : lenD Zs g #[22] (.sl o n cs) = some (.int .i64 n) := by simp [lenD, tz22]
theorem cpn22 : capD Zs #[22] (.sl .nil n cs) = some (.int .i64 0) := by simp [capD, tz22]
theorem cpr22 {kk z0 : Nat} : capD Zs #[22] (.row r off n (some kk) z0) = some (.int .i64 kk) := by simp [capD, tz22]
theorem lr22 {c0 : Option Nat} {z0 : Nat} : lenD Zs g #[22] (.row r off n c0 z0) = some (.int .i64 n) := by simp [lenD, tz22]
theorem ix22 : indexAddrD Zs 22 (.sl o n cs) (.int k i) = if (0 ≤ i ∧ i < n) ∧ 0 < cs.length then some (.at (cs.drop (i.toNat * 2))) else none := by first | (simp only [indexAddrD, tz22, tz46, Nat.mul_one]; done) | (simp only [indexAddrD, tz22, tz46, Nat.mul_one]; rfl)
theorem ir22 {c0 : Option Nat} {z0 : Nat} : indexAddrD Zs 22 (.row r off n c0 z0) (.int k i) = if 0 ≤ i ∧ i < n then some (.ptr r (off + i.toNat * 2)) else none := by first | (simp only [indexAddrD, tz22, tz46, Nat.mul_one]; done) | (simp only [indexAddrD, tz22, tz46, Nat.mul_one]; rfl)
theorem sl22 : sliceD Zs g 22 (.sl o n cs) lo hi none = match bound lo 0, bound hi n with | some l, some h => if 0 ≤ l ∧ l ≤ h ∧ h ≤ n ∧ cs.length = n * 2 then some (.sl (cutOwn o) (h.toNat - l.toNat) ((cs.drop (l.toNat * 2)).take ((h.toNat - l.toNat) * 2))) else none | _, _ => none := by simp only [sliceD, tz22, tz46, Nat.mul_one]; cases bound lo 0 <;> cases bound hi n <;> simp only [Nat.mul_one]
theorem en22 : binD Zs .eql 22 (.sl o n cs) (.sl .nil n' cs') = (nilOf o n).map .bool := by simp [binD, isNum, eqT, tz22]
theorem enr22 {c0 : Option Nat} {z0 : Nat} : binD Zs .eql 22 (.row r off n c0 z0) (.sl .nil n' cs') = some (.bool false) := by simp [binD, isNum, eqT, tz22]
theorem nn22 : binD Zs .neq 22 (.sl o n cs) (.sl .nil n' cs') = (nilOf o n).map fun b => .bool (!b) := by simp [binD, isNum, eqT, tz22]
theorem nnr22 {c0 : Option Nat} {z0 : Nat} : binD Zs .neq 22 (.row r off n c0 z0) (.sl .nil n' cs') = some (.bool true) := by simp [binD, isNum, eqT, tz22]
theorem ld25 : loadD Zs g 25 (.at cs) = cs[0]? := by first | (simp only [loadD, tz25, pack, TInfo.isAgg, Bool.false_eq_true, if_false, List.head?_eq_getElem?]; done) | (simp only [loadD, tz25, pack, TInfo.isAgg, Bool.false_eq_true, if_false, List.head?_eq_getElem?]; rfl)
theorem lp25 : loadD Zs g 25 (.ptr r off) = match g r with | some (.cells _ cs) => cs[off]? | _ => none := by first | (simp only [loadD, tz25, pack, TInfo.isAgg, Bool.false_eq_true, if_false, List.head?_drop]; done) | (simp only [loadD, tz25, pack, TInfo.isAgg, Bool.false_eq_true, if_false, List.head?_drop]; rfl)
theorem so25 : storeE Zs g 25 (.ptr r off) y = match y.cells with | some ys => (match g r with | some (.cells e cs) => if ys.length = 1 ∧ off + ys.length ≤ cs.length then some (.put r (.cells e (splice cs off ys))) else none | _ => none) | _ => none := by simp only [storeE, tz25]; cases y.cells <;> rfl
theorem al25 : allocR Zs 25 = some (.new (.cells 25 [.int .i64 0])) := by rfl
theorem mi25 : ifaceD Zs 25 x = some (.iface 25 x) := by first | (simp only [ifaceD, tz25]; done) | (simp only [ifaceD, tz25]; rfl)
theorem ld29 : loadD Zs g 29 (.at cs) = cs[0]? := by first | (simp only [loadD, tz29, pack, TInfo.isAgg, Bool.false_eq_true, if_false, List.head?_eq_getElem?]; done) | (simp only [loadD, tz29, pack, TInfo.isAgg, Bool.false_eq_true, if_false, List.head?_eq_getElem?]; rfl)
theorem lp29 : loadD Zs g 29 (.ptr r off) = match g r with | some (.cells _ cs) => cs[off]? | _ => none := by first | (simp only [loadD, tz29, pack, TInfo.isAgg, Bool.false_eq_true, if_false, List.head?_drop]; done) | (simp only [loadD, tz29, pack, TInfo.isAgg, Bool.false_eq_true, if_false, List.head?_drop]; rfl)
theorem so29 : storeE Zs g 29 (.ptr r off) y = match y.cells with | some ys => (match g r with | some (.cells e cs) => if ys.length = 1 ∧ off + ys.length ≤ cs.length then some (.put r (.cells e (splice cs off ys))) else none | _ => none) | _ => none := by simp only [storeE, tz29]; cases y.cells <;> rfl
theorem al29 : allocR Zs 29 = some (.new (.cells 29 [.sl .nil 0 []])) := by rfl
theorem mi29 : ifaceD Zs 29 x = some (.iface 29 x) := by first | (simp only [ifaceD, tz29]; done) | (simp only [ifaceD, tz29]; rfl)
theorem mk29 {k' : IntKind} {m : Int} : makeSliceR Zs 0 29 (.int k i) (.int k' m) nx = if 0 ≤ i ∧ i ≤ m ∧ ((16 : Nat) : Int) * m ≤ 281474976710656 ∧ m ≤ (big : Int) then some (.row nx 0 i.toNat (some m.toNat) 1, .new (.cells 9 (List.replicate m.toNat (.str ⟨#[]⟩)))) else none := by exact mk_one tz29 tz9 rfl rfl rfl
theorem bs29_1 : buildSliceR Zs 0 29 1 [(0, x)] nx = lit1 x := by exact build1 tz29 tz9 rfl rfl rfl
theorem bs29_2 : buildSliceR Zs 0 29 2 [(0, x), (1, y)] nx = lit2 x y := by exact build2 tz29 tz9 rfl rfl rfl
theorem bs29_3 : buildSliceR Zs 0 29 3 [(0, x), (1, y), (2, x3)] nx = lit3 x y x3 := by exact build3 tz29 tz9 rfl rfl rfl
theorem ln29 : lenD Zs g #[29] (.sl o n cs) = some (.int .i64 n) := by simp [lenD, tz29]
theorem cpn29 : capD Zs #[29] (.sl .nil n cs) = some (.int .i64 0) := by simp [capD, tz29]
theorem cpr29 {kk z0 : Nat} : capD Zs #[29] (.row r off n (some kk) z0) = some (.int .i64 kk) := by simp [capD, tz29]
theorem lr29 {c0 : Option Nat} {z0 : Nat} : lenD Zs g #[29] (.row r off n c0 z0) = some (.int .i64 n) := by simp [lenD, tz29]
theorem ix29 : indexAddrD Zs 29 (.sl o n cs) (.int k i) = if (0 ≤ i ∧ i < n) ∧ 0 < cs.length then some (.at (cs.drop (i.toNat))) else none := by first | (simp only [indexAddrD, tz29, tz9, Nat.mul_one]; done) | (simp only [indexAddrD, tz29, tz9, Nat.mul_one]; rfl)
theorem ir29 {c0 : Option Nat} {z0 : Nat} : indexAddrD Zs 29 (.row r off n c0 z0) (.int k i) = if 0 ≤ i ∧ i < n then some (.ptr r (off + i.toNat)) else none := by first | (simp only [indexAddrD, tz29, tz9, Nat.mul_one]; done) | (simp only [indexAddrD, tz29, tz9, Nat.mul_one]; rfl)
theorem sl29 : sliceD Zs g 29 (.sl o n cs) lo hi none = match bound lo 0, bound hi n with | some l, some h => if 0 ≤ l ∧ l ≤ h ∧ h ≤ n ∧ cs.length = n then some (.sl (cutOwn o) (h.toNat - l.toNat) ((cs.drop (l.toNat)).take ((h.toNat - l.toNat)))) else none | _, _ => none := by simp only [sliceD, tz29, tz9, Nat.mul_one]; cases bound lo 0 <;> cases bound hi n <;> simp only [Nat.mul_one]
theorem en29 : binD Zs .eql 29 (.sl o n cs) (.sl .nil n' cs') = (nilOf o n).map .bool := by simp [binD, isNum, eqT, tz29]
theorem enr29 {c0 : Option Nat} {z0 : Nat} : binD Zs .eql 29 (.row r off n c0 z0) (.sl .nil n' cs') = some (.bool false) := by simp [binD, isNum, eqT, tz29]
theorem nn29 : binD Zs .neq 29 (.sl o n cs) (.sl .nil n' cs') = (nilOf o n).map fun b => .bool (!b) := by simp [binD, isNum, eqT, tz29]
theorem nnr29 {c0 : Option Nat} {z0 : Nat} : binD Zs .neq 29 (.row r off n c0 z0) (.sl .nil n' cs') = some (.bool true) := by simp [binD, isNum, eqT, tz29]
theorem ld39 : loadD Zs g 39 (.at cs) = cs[0]? := by first | (simp only [loadD, tz39, pack, TInfo.isAgg, Bool.false_eq_true, if_false, List.head?_eq_getElem?]; done) | (simp only [loadD, tz39, pack, TInfo.isAgg, Bool.false_eq_true, if_false, List.head?_eq_getElem?]; rfl)
theorem lp39 : loadD Zs g 39 (.ptr r off) = match g r with | some (.cells _ cs) => cs[off]? | _ => none := by first | (simp only [loadD, tz39, pack, TInfo.isAgg, Bool.false_eq_true, if_false, List.head?_drop]; done) | (simp only [loadD, tz39, pack, TInfo.isAgg, Bool.false_eq_true, if_false, List.head?_drop]; rfl)
theorem so39 : storeE Zs g 39 (.ptr r off) y = match y.cells with | some ys => (match g r with | some (.cells e cs) => if ys.length = 1 ∧ off + ys.length ≤ cs.length then some (.put r (.cells e (splice cs off ys))) else none | _ => none) | _ => none := by simp only [storeE, tz39]; cases y.cells <;> rfl
theorem al39 : allocR Zs 39 = some (.new (.cells 39 [.nilfunc])) := by rfl
theorem mi39 : ifaceD Zs 39 x = some (.iface 39 x) := by first | (simp only [ifaceD, tz39]; done) | (simp only [ifaceD, tz39]; rfl)
theorem ld41 : loadD Zs g 41 (.at cs) = if 2 ≤ cs.length then some (.agg (cs.take 2)) else none := by first | (simp only [loadD, tz41, pack, TInfo.isAgg, if_true]; done) | (simp only [loadD, tz41, pack, TInfo.isAgg, if_true]; rfl)
theorem lp41 : loadD Zs g 41 (.ptr r off) = match g r with | some (.cells _ cs) => (if 2 ≤ (cs.drop off).length then some (.agg ((cs.drop off).take 2)) else none) | _ => none := by first | (simp only [loadD, tz41, pack, TInfo.isAgg, if_true]; done) | (simp only [loadD, tz41, pack, TInfo.isAgg, if_true]; rfl)
theorem so41 : storeE Zs g 41 (.ptr r off) y = match y.cells with | some ys => (match g r with | some (.cells e cs) => if ys.length = 2 ∧ off + ys.length ≤ cs.length then some (.put r (.cells e (splice cs off ys))) else none | _ => none) | _ => none := by simp only [storeE, tz41]; cases y.cells <;> rfl
theorem al41 : allocR Zs 41 = some (.new (.cells 41 [.sl .nil 0 [], .sl .nil 0 []])) := by rfl
theorem mi41 : ifaceD Zs 41 x = some (.iface 41 x) := by first | (simp only [ifaceD, tz41]; done) | (simp only [ifaceD, tz41]; rfl)
theorem ln41 : lenD Zs g #[41] x = some (.int .i64 2) := by cases x <;> simp [lenD, tz41]
theorem ix41 : indexAddrD Zs 41 (.at cs) (.int k i) = if 0 ≤ i ∧ i < (2 : Nat) then some (.at (cs.drop (i.toNat))) else none := by first | (simp only [indexAddrD, tz41, tz29, Nat.mul_one]; done) | (simp only [indexAddrD, tz41, tz29, Nat.mul_one]; rfl)
theorem ir41 : indexAddrD Zs 41 (.ptr r off) (.int k i) = if 0 ≤ i ∧ i < (2 : Nat) then some (.ptr r (off + i.toNat)) else none := by first | (simp only [indexAddrD, tz41, tz29, Nat.mul_one]; done) | (simp only [indexAddrD, tz41, tz29, Nat.mul_one]; rfl)
theorem ie41 : indexD Zs 41 (.agg cs) (.int k i) = if 0 ≤ i ∧ i < (2 : Nat) then cs[i.toNat]? else none := by first | (simp only [indexD, tz41, tz29, Nat.mul_one, partD, TInfo.isAgg, Bool.false_eq_true, if_false]; done) | (simp only [indexD, tz41, tz29, Nat.mul_one, partD, TInfo.isAgg, Bool.false_eq_true, if_false]; rfl)
theorem ld45 : loadD Zs g 45 (.at cs) = if 2 ≤ cs.length then some (.agg (cs.take 2)) else none := by first | (simp only [loadD, tz45, pack, TInfo.isAgg, if_true]; done) | (simp only [loadD, tz45, pack, TInfo.isAgg, if_true]; rfl)
theorem lp45 : loadD Zs g 45 (.ptr r off) = match g r with | some (.cells _ cs) => (if 2 ≤ (cs.drop off).length then some (.agg ((cs.drop off).take 2)) else none) | _ => none := by first | (simp only [loadD, tz45, pack, TInfo.isAgg, if_true]; done) | (simp only [loadD, tz45, pack, TInfo.isAgg, if_true]; rfl)
theorem so45 : storeE Zs g 45 (.ptr r off) y = match y.cells with | some ys => (match g r with | some (.cells e cs) => if ys.length = 2 ∧ off + ys.length ≤ cs.length then some (.put r (.cells e (splice cs off ys))) else none | _ => none) | _ => none := by simp only [storeE, tz45]; cases y.cells <;> rfl
theorem al45 : allocR Zs 45 = some (.new (.cells 45 [.sl .nil 0 [], .sl .nil 0 []])) := by rfl
theorem mi45 : ifaceD Zs 45 x = some (.iface 45 x) := by first | (simp only [ifaceD, tz45]; done) | (simp only [ifaceD, tz45]; rfl)
theorem fa45_0 : fieldAddrD Zs 45 0 (.at cs) = some (.at (cs.drop 0)) := by simp [fieldAddrD, fieldOf, tz45, tz29]
theorem fp45_0 : fieldAddrD Zs 45 0 (.ptr r o') = some (.ptr r (o' + 0)) := by simp [fieldAddrD, fieldOf, tz45, tz29]
theorem fl45_0 : fieldD Zs 45 0 (.agg cs) = cs[0]? := by simp [fieldD, fieldOf, tz45, tz29, partD, TInfo.isAgg]
theorem fa45_1 : fieldAddrD Zs 45 1 (.at cs) = some (.at (cs.drop 1)) := by simp [fieldAddrD, fieldOf, tz45, tz29]
theorem fp45_1 : fieldAddrD Zs 45 1 (.ptr r o') = some (.ptr r (o' + 1)) := by simp [fieldAddrD, fieldOf, tz45, tz29]
theorem fl45_1 : fieldD Zs 45 1 (.agg cs) = cs[1]? := by simp [fieldD, fieldOf, tz45, tz29, partD, TInfo.isAgg]
theorem ld46 : loadD Zs g 46 (.at cs) = if 2 ≤ cs.length then some (.agg (cs.take 2)) else none := by first | (simp only [loadD, tz46, pack, TInfo.isAgg, if_true]; done) | (simp only [loadD, tz46, pack, TInfo.isAgg, if_true]; rfl)
theorem lp46 : loadD Zs g 46 (.ptr r off) = match g r with | some (.cells _ cs) => (if 2 ≤ (cs.drop off).length then some (.agg ((cs.drop off).take 2)) else none) | _ => none := by first | (simp only [loadD, tz46, pack, TInfo.isAgg, if_true]; done) | (simp only [loadD, tz46, pack, TInfo.isAgg, if_true]; rfl)
theorem so46 : storeE Zs g 46 (.ptr r off) y = match y.cells with | some ys => (match g r with | some (.cells e cs) => if ys.length = 2 ∧ off + ys.length ≤ cs.length then some (.put r (.cells e (splice cs off ys))) else none | _ => none) | _ => none := by simp only [storeE, tz46]; cases y.cells <;> rfl
theorem al46 : allocR Zs 46 = some (.new (.cells 46 [.sl .nil 0 [], .sl .nil 0 []])) := by rfl
theorem mi46 : ifaceD Zs 46 x = some (.iface 46 x) := by first | (simp only [ifaceD, tz46]; done) | (simp only [ifaceD, tz46]; rfl)
theorem fa46_0 : fieldAddrD Zs 46 0 (.at cs) = some (.at (cs.drop 0)) := by simp [fieldAddrD, fieldOf, tz46, tz29]
theorem fp46_0 : fieldAddrD Zs 46 0 (.ptr r o') = some (.ptr r (o' + 0)) := by simp [fieldAddrD, fieldOf, tz46, tz29]
theorem fl46_0 : fieldD Zs 46 0 (.agg cs) = cs[0]? := by simp [fieldD, fieldOf, tz46, tz29, partD, TInfo.isAgg]
theorem fa46_1 : fieldAddrD Zs 46 1 (.at cs) = some (.at (cs.drop 1)) := by simp [fieldAddrD, fieldOf, tz46, tz29]
theorem fp46_1 : fieldAddrD Zs 46 1 (.ptr r o') = some (.ptr r (o' + 1)) := by simp [fieldAddrD, fieldOf, tz46, tz29]
theorem fl46_1 : fieldD Zs 46 1 (.agg cs) = cs[1]? := by simp [fieldD, fieldOf, tz46, tz29, partD, TInfo.isAgg]
theorem ld47 : loadD Zs g 47 (.at cs) = cs[0]? := by first | (simp only [loadD, tz47, pack, TInfo.isAgg, Bool.false_eq_true, if_false, List.head?_eq_getElem?]; done) | (simp only [loadD, tz47, pack, TInfo.isAgg, Bool.false_eq_true, if_false, List.head?_eq_getElem?]; rfl)
theorem lp47 : loadD Zs g 47 (.ptr r off) = match g r with | some (.cells _ cs) => cs[off]? | _ => none := by first | (simp only [loadD, tz47, pack, TInfo.isAgg, Bool.false_eq_true, if_false, List.head?_drop]; done) | (simp only [loadD, tz47, pack, TInfo.isAgg, Bool.false_eq_true, if_false, List.head?_drop]; rfl)
theorem so47 : storeE Zs g 47 (.ptr r off) y = match y.cells with | some ys => (match g r with | some (.cells e cs) => if ys.length = 1 ∧ off + ys.length ≤ cs.length then some (.put r (.cells e (splice cs off ys))) else none | _ => none) | _ => none := by simp only [storeE, tz47]; cases y.cells <;> rfl
theorem al47 : allocR Zs 47 = some (.new (.cells 47 [.sl .nil 0 []])) := by rfl
theorem mi47 : ifaceD Zs 47 x = some (.iface 47 x) := by first | (simp only [ifaceD, tz47]; done) | (simp only [ifaceD, tz47]; rfl)
theorem mk47 {k' : IntKind} {m : Int} : makeSliceR Zs 0 47 (.int k i) (.int k' m) nx = if 0 ≤ i ∧ i ≤ m ∧ ((24 : Nat) : Int) * m ≤ 281474976710656 ∧ m ≤ (big : Int) then some (.row nx 0 i.toNat (some m.toNat) 1, .new (.cells 22 (List.replicate m.toNat (.sl .nil 0 [])))) else none := by exact mk_one tz47 tz22 rfl rfl rfl
theorem bs47_1 : buildSliceR Zs 0 47 1 [(0, x)] nx = lit1 x := by exact build1 tz47 tz22 rfl rfl rfl
theorem bs47_2 : buildSliceR Zs 0 47 2 [(0, x), (1, y)] nx = lit2 x y := by exact build2 tz47 tz22 rfl rfl rfl
theorem bs47_3 : buildSliceR Zs 0 47 3 [(0, x), (1, y), (2, x3)] nx = lit3 x y x3 := by exact build3 tz47 tz22 rfl rfl rfl
theorem ln47 : lenD Zs g #[47] (.sl o n cs) = some (.int .i64 n) := by simp [lenD, tz47]
theorem cpn47 : capD Zs #[47] (.sl .nil n cs) = some (.int .i64 0) := by simp [capD, tz47]
theorem cpr47 {kk z0 : Nat} : capD Zs #[47] (.row r off n (some kk) z0) = some (.int .i64 kk) := by simp [capD, tz47]
theorem lr47 {c0 : Option Nat} {z0 : Nat} : lenD Zs g #[47] (.row r off n c0 z0) = some (.int .i64 n) := by simp [lenD, tz47]
theorem ix47 : indexAddrD Zs 47 (.sl o n cs) (.int k i) = if (0 ≤ i ∧ i < n) ∧ 0 < cs.length then some (.at (cs.drop (i.toNat))) else none := by first | (simp only [indexAddrD, tz47, tz22, Nat.mul_one]; done) | (simp only [indexAddrD, tz47, tz22, Nat.mul_one]; rfl)
theorem ir47 {c0 : Option Nat} {z0 : Nat} : indexAddrD Zs 47 (.row r off n c0 z0) (.int k i) = if 0 ≤ i ∧ i < n then some (.ptr r (off + i.toNat)) else none := by first | (simp only [indexAddrD, tz47, tz22, Nat.mul_one]; done) | (simp only [indexAddrD, tz47, tz22, Nat.mul_one]; rfl)
theorem sl47 : sliceD Zs g 47 (.sl o n cs) lo hi none = match bound lo 0, bound hi n with | some l, some h => if 0 ≤ l ∧ l ≤ h ∧ h ≤ n ∧ cs.length = n then some (.sl (cutOwn o) (h.toNat - l.toNat) ((cs.drop (l.toNat)).take ((h.toNat - l.toNat)))) else none | _, _ => none := by simp only [sliceD, tz47, tz22, Nat.mul_one]; cases bound lo 0 <;> cases bound hi n <;> simp only [Nat.mul_one]
theorem en47 : binD Zs .eql 47 (.sl o n cs) (.sl .nil n' cs') = (nilOf o n).map .bool := by simp [binD, isNum, eqT, tz47]
theorem enr47 {c0 : Option Nat} {z0 : Nat} : binD Zs .eql 47 (.row r off n c0 z0) (.sl .nil n' cs') = some (.bool false) := by simp [binD, isNum, eqT, tz47]
theorem nn47 : binD Zs .neq 47 (.sl o n cs) (.sl .nil n' cs') = (nilOf o n).map fun b => .bool (!b) := by simp [binD, isNum, eqT, tz47]
theorem nnr47 {c0 : Option Nat} {z0 : Nat} : binD Zs .neq 47 (.row r off n c0 z0) (.sl .nil n' cs') = some (.bool true) := by simp [binD, isNum, eqT, tz47]
theorem ld49 : loadD Zs g 49 (.at cs) = cs[0]? := by first | (simp only [loadD, tz49, pack, TInfo.isAgg, Bool.false_eq_true, if_false, List.head?_eq_getElem?]; done) | (simp only [loadD, tz49, pack, TInfo.isAgg, Bool.false_eq_true, if_false, List.head?_eq_getElem?]; rfl)
theorem lp49 : loadD Zs g 49 (.ptr r off) = match g r with | some (.cells _ cs) => cs[off]? | _ => none := by first | (simp only [loadD, tz49, pack, TInfo.isAgg, Bool.false_eq_true, if_false, List.head?_drop]; done) | (simp only [loadD, tz49, pack, TInfo.isAgg, Bool.false_eq_true, if_false, List.head?_drop]; rfl)
theorem so49 : storeE Zs g 49 (.ptr r off) y = match y.cells with | some ys => (match g r with | some (.cells e cs) => if ys.length = 1 ∧ off + ys.length ≤ cs.length then some (.put r (.cells e (splice cs off ys))) else none | _ => none) | _ => none := by simp only [storeE, tz49]; cases y.cells <;> rfl
theorem al49 : allocR Zs 49 = some (.new (.cells 49 [.sl .nil 0 []])) := by rfl
theorem mi49 : ifaceD Zs 49 x = some (.iface 49 x) := by first | (simp only [ifaceD, tz49]; done) | (simp only [ifaceD, tz49]; rfl)
theorem mk49 {k' : IntKind} {m : Int} : makeSliceR Zs 0 49 (.int k i) (.int k' m) nx = if 0 ≤ i ∧ i ≤ m ∧ ((24 : Nat) : Int) * m ≤ 281474976710656 ∧ m ≤ (big : Int) then some (.row nx 0 i.toNat (some m.toNat) 1, .new (.cells 29 (List.replicate m.toNat (.sl .nil 0 [])))) else none := by exact mk_one tz49 tz29 rfl rfl rfl
theorem bs49_1 : buildSliceR Zs 0 49 1 [(0, x)] nx = lit1 x := by exact build1 tz49 tz29 rfl rfl rfl
theorem bs49_2 : buildSliceR Zs 0 49 2 [(0, x), (1, y)] nx = lit2 x y := by exact build2 tz49 tz29 rfl rfl rfl
theorem bs49_3 : buildSliceR Zs 0 49 3 [(0, x), (1, y), (2, x3)] nx = lit3 x y x3 := by exact build3 tz49 tz29 rfl rfl rfl
theorem ln49 : lenD Zs g #[49] (.sl o n cs) = some (.int .i64 n) := by simp [lenD, tz49]
theorem cpn49 : capD Zs #[49] (.sl .nil n cs) = some (.int .i64 0) := by simp [capD, tz49]
theorem cpr49 {kk z0 : Nat} : capD Zs #[49] (.row r off n (some kk) z0) = some (.int .i64 kk) := by simp [capD, tz49]
theorem lr49 {c0 : Option Nat} {z0 : Nat} : lenD Zs g #[49] (.row r off n c0 z0) = some (.int .i64 n) := by simp [lenD, tz49]
theorem ix49 : indexAddrD Zs 49 (.sl o n cs) (.int k i) = if (0 ≤ i ∧ i < n) ∧ 0 < cs.length then some (.at (cs.drop (i.toNat))) else none := by first | (simp only [indexAddrD, tz49, tz29, Nat.mul_one]; done) | (simp only [indexAddrD, tz49, tz29, Nat.mul_one]; rfl)
theorem ir49 {c0 : Option Nat} {z0 : Nat} : indexAddrD Zs 49 (.row r off n c0 z0) (.int k i) = if 0 ≤ i ∧ i < n then some (.ptr r (off + i.toNat)) else none := by first | (simp only [indexAddrD, tz49, tz29, Nat.mul_one]; done) | (simp only [indexAddrD, tz49, tz29, Nat.mul_one]; rfl)
theorem sl49 : sliceD Zs g 49 (.sl o n cs) lo hi none = match bound lo 0, bound hi n with | some l, some h => if 0 ≤ l ∧ l ≤ h ∧ h ≤ n ∧ cs.length = n then some (.sl (cutOwn o) (h.toNat - l.toNat) ((cs.drop (l.toNat)).take ((h.toNat - l.toNat)))) else none | _, _ => none := by simp only [sliceD, tz49, tz29, Nat.mul_one]; cases bound lo 0 <;> cases bound hi n <;> simp only [Nat.mul_one]
theorem en49 : binD Zs .eql 49 (.sl o n cs) (.sl .nil n' cs') = (nilOf o n).map .bool := by simp [binD, isNum, eqT, tz49]
theorem enr49 {c0 : Option Nat} {z0 : Nat} : binD Zs .eql 49 (.row r off n c0 z0) (.sl .nil n' cs') = some (.bool false) := by simp [binD, isNum, eqT, tz49]
theorem nn49 : binD Zs .neq 49 (.sl o n cs) (.sl .nil n' cs') = (nilOf o n).map fun b => .bool (!b) := by simp [binD, isNum, eqT, tz49]
theorem nnr49 {c0 : Option Nat} {z0 : Nat} : binD Zs .neq 49 (.row r off n c0 z0) (.sl .nil n' cs') = some (.bool true) := by simp [binD, isNum, eqT, tz49]
theorem ld56 : loadD Zs g 56 (.at cs) = cs[0]? := by first | (simp only [loadD, tz56, pack, TInfo.isAgg, Bool.false_eq_true, if_false, List.head?_eq_getElem?]; done) | (simp only [loadD, tz56, pack, TInfo.isAgg, Bool.false_eq_true, if_false, List.head?_eq_getElem?]; rfl)
theorem lp56 : loadD Zs g 56 (.ptr r off) = match g r with | some (.cells _ cs) => cs[off]? | _ => none := by first | (simp only [loadD, tz56, pack, TInfo.isAgg, Bool.false_eq_true, if_false, List.head?_drop]; done) | (simp only [loadD, tz56, pack, TInfo.isAgg, Bool.false_eq_true, if_false, List.head?_drop]; rfl)
theorem so56 : storeE Zs g 56 (.ptr r off) y = match y.cells with | some ys => (match g r with | some (.cells e cs) => if ys.length = 1 ∧ off + ys.length ≤ cs.length then some (.put r (.cells e (splice cs off ys))) else none | _ => none) | _ => none := by simp only [storeE, tz56]; cases y.cells <;> rfl
theorem al56 : allocR Zs 56 = some (.new (.cells 56 [.sl .nil 0 []])) := by rfl
theorem mi56 : ifaceD Zs 56 x = some (.iface 56 x) := by first | (simp only [ifaceD, tz56]; done) | (simp only [ifaceD, tz56]; rfl)
theorem mk56 {k' : IntKind} {m : Int} : makeSliceR Zs 0 56 (.int k i) (.int k' m) nx = if 0 ≤ i ∧ i ≤ m ∧ ((8 : Nat) : Int) * m ≤ 281474976710656 ∧ m ≤ (big : Int) then some (.row nx 0 i.toNat (some m.toNat) 1, .new (.cells 3 (List.replicate m.toNat (.int .i64 0)))) else none := by exact mk_one tz56 tz3 rfl rfl rfl
theorem bs56_1 : buildSliceR Zs 0 56 1 [(0, x)] nx = lit1 x := by exact build1 tz56 tz3 rfl rfl rfl
theorem bs56_2 : buildSliceR Zs 0 56 2 [(0, x), (1, y)] nx = lit2 x y := by exact build2 tz56 tz3 rfl rfl rfl
theorem bs56_3 : buildSliceR Zs 0 56 3 [(0, x), (1, y), (2, x3)] nx = lit3 x y x3 := by exact build3 tz56 tz3 rfl rfl rfl
theorem ln56 : lenD Zs g #[56] (.sl o n cs) = some (.int .i64 n) := by simp [lenD, tz56]
theorem cpn56 : capD Zs #[56] (.sl .nil n cs) = some (.int .i64 0) := by simp [capD, tz56]
theorem cpr56 {kk z0 : Nat} : capD Zs #[56] (.row r off n (some kk) z0) = some (.int .i64 kk) := by simp [capD, tz56]
theorem lr56 {c0 : Option Nat} {z0 : Nat} : lenD Zs g #[56] (.row r off n c0 z0) = some (.int .i64 n) := by simp [lenD, tz56]
theorem ix56 : indexAddrD Zs 56 (.sl o n cs) (.int k i) = if (0 ≤ i ∧ i < n) ∧ 0 < cs.length then some (.at (cs.drop (i.toNat))) else none := by first | (simp only [indexAddrD, tz56, tz3, Nat.mul_one]; done) | (simp only [indexAddrD, tz56, tz3, Nat.mul_one]; rfl)
theorem ir56 {c0 : Option Nat} {z0 : Nat} : indexAddrD Zs 56 (.row r off n c0 z0) (.int k i) = if 0 ≤ i ∧ i < n then some (.ptr r (off + i.toNat)) else none := by first | (simp only [indexAddrD, tz56, tz3, Nat.mul_one]; done) | (simp only [indexAddrD, tz56, tz3, Nat.mul_one]; rfl)
theorem sl56 : sliceD Zs g 56 (.sl o n cs) lo hi none = match bound lo 0, bound hi n with | some l, some h => if 0 ≤ l ∧ l ≤ h ∧ h ≤ n ∧ cs.length = n then some (.sl (cutOwn o) (h.toNat - l.toNat) ((cs.drop (l.toNat)).take ((h.toNat - l.toNat)))) else none | _, _ => none := by simp only [sliceD, tz56, tz3, Nat.mul_one]; cases bound lo 0 <;> cases bound hi n <;> simp only [Nat.mul_one]
theorem en56 : binD Zs .eql 56 (.sl o n cs) (.sl .nil n' cs') = (nilOf o n).map .bool := by simp [binD, isNum, eqT, tz56]
theorem enr56 {c0 : Option Nat} {z0 : Nat} : binD Zs .eql 56 (.row r off n c0 z0) (.sl .nil n' cs') = some (.bool false) := by simp [binD, isNum, eqT, tz56]
theorem nn56 : binD Zs .neq 56 (.sl o n cs) (.sl .nil n' cs') = (nilOf o n).map fun b => .bool (!b) := by simp [binD, isNum, eqT, tz56]
theorem nnr56 {c0 : Option Nat} {z0 : Nat} : binD Zs .neq 56 (.row r off n c0 z0) (.sl .nil n' cs') = some (.bool true) := by simp [binD, isNum, eqT, tz56]
theorem ld60 : loadD Zs g 60 (.at cs) = cs[0]? := by first | (simp only [loadD, tz60, pack, TInfo.isAgg, Bool.false_eq_true, if_false, List.head?_eq_getElem?]; done) | (simp only [loadD, tz60, pack, TInfo.isAgg, Bool.false_eq_true, if_false, List.head?_eq_getElem?]; rfl)
theorem lp60 : loadD Zs g 60 (.ptr r off) = match g r with | some (.cells _ cs) => cs[off]? | _ => none := by first | (simp only [loadD, tz60, pack, TInfo.isAgg, Bool.false_eq_true, if_false, List.head?_drop]; done) | (simp only [loadD, tz60, pack, TInfo.isAgg, Bool.false_eq_true, if_false, List.head?_drop]; rfl)
theorem so60 : storeE Zs g 60 (.ptr r off) y = match y.cells with | some ys => (match g r with | some (.cells e cs) => if ys.length = 1 ∧ off + ys.length ≤ cs.length then some (.put r (.cells e (splice cs off ys))) else none | _ => none) | _ => none := by simp only [storeE, tz60]; cases y.cells <;> rfl
theorem al60 : allocR Zs 60 = some (.new (.cells 60 [.nilmap])) := by rfl
theorem mi60 : ifaceD Zs 60 x = some (.iface 60 x) := by first | (simp only [ifaceD, tz60]; done) | (simp only [ifaceD, tz60]; rfl)
theorem meql60 : binD Zs .eql 60 (.map r) .nilmap = some (.bool false) := by simp [binD, isNum, eqT, tz60]
theorem mneql60 : binD Zs .eql 60 .nilmap .nilmap = some (.bool true) := by simp [binD, isNum, eqT, tz60]
theorem mneq60 : binD Zs .neq 60 (.map r) .nilmap = some (.bool true) := by simp [binD, isNum, eqT, tz60]
theorem mnneq60 : binD Zs .neq 60 .nilmap .nilmap = some (.bool false) := by simp [binD, isNum, eqT, tz60]
theorem lnn60 : lenD Zs g #[60] .nilmap = some (.int .i64 0) := by simp [lenD, tz60]
theorem lnm60 : lenD Zs g #[60] (.map r) = match g r with | some (.map es _) => some (.int .i64 es.length) | _ => none := by simp [lenD, tz60]; rfl
theorem ld71 : loadD Zs g 71 (.at cs) = cs[0]? := by first | (simp only [loadD, tz71, pack, TInfo.isAgg, Bool.false_eq_true, if_false, List.head?_eq_getElem?]; done) | (simp only [loadD, tz71, pack, TInfo.isAgg, Bool.false_eq_true, if_false, List.head?_eq_getElem?]; rfl)
theorem lp71 : loadD Zs g 71 (.ptr r off) = match g r with | some (.cells _ cs) => cs[off]? | _ => none := by first | (simp only [loadD, tz71, pack, TInfo.isAgg, Bool.false_eq_true, if_false, List.head?_drop]; done) | (simp only [loadD, tz71, pack, TInfo.isAgg, Bool.false_eq_true, if_false, List.head?_drop]; rfl)
theorem so71 : storeE Zs g 71 (.ptr r off) y = match y.cells with | some ys => (match g r with | some (.cells e cs) => if ys.length = 1 ∧ off + ys.length ≤ cs.length then some (.put r (.cells e (splice cs off ys))) else none | _ => none) | _ => none := by simp only [storeE, tz71]; cases y.cells <;> rfl
theorem al71 : allocR Zs 71 = some (.new (.cells 71 [.nilfunc])) := by rfl
theorem mi71 : ifaceD Zs 71 x = some (.iface 71 x) := by first | (simp only [ifaceD, tz71]; done) | (simp only [ifaceD, tz71]; rfl)
theorem ld73 : loadD Zs g 73 (.at cs) = cs[0]? := by first | (simp only [loadD, tz73, pack, TInfo.isAgg, Bool.false_eq_true, if_false, List.head?_eq_getElem?]; done) | (simp only [loadD, tz73, pack, TInfo.isAgg, Bool.false_eq_true, if_false, List.head?_eq_getElem?]; rfl)
theorem lp73 : loadD Zs g 73 (.ptr r off) = match g r with | some (.cells _ cs) => cs[off]? | _ => none := by first | (simp only [loadD, tz73, pack, TInfo.isAgg, Bool.false_eq_true, if_false, List.head?_drop]; done) | (simp only [loadD, tz73, pack, TInfo.isAgg, Bool.false_eq_true, if_false, List.head?_drop]; rfl)
theorem so73 : storeE Zs g 73 (.ptr r off) y = match y.cells with | some ys => (match g r with | some (.cells e cs) => if ys.length = 1 ∧ off + ys.length ≤ cs.length then some (.put r (.cells e (splice cs off ys))) else none | _ => none) | _ => none := by simp only [storeE, tz73]; cases y.cells <;> rfl
theorem al73 : allocR Zs 73 = some (.new (.cells 73 [.nilfunc])) := by rfl
theorem mi73 : ifaceD Zs 73 x = some (.iface 73 x) := by first | (simp only [ifaceD, tz73]; done) | (simp only [ifaceD, tz73]; rfl)
theorem ld76 : loadD Zs g 76 (.at cs) = cs[0]? := by first | (simp only [loadD, tz76, pack, TInfo.isAgg, Bool.false_eq_true, if_false, List.head?_eq_getElem?]; done) | (simp only [loadD, tz76, pack, TInfo.isAgg, Bool.false_eq_true, if_false, List.head?_eq_getElem?]; rfl)
theorem lp76 : loadD Zs g 76 (.ptr r off) = match g r with | some (.cells _ cs) => cs[off]? | _ => none := by first | (simp only [loadD, tz76, pack, TInfo.isAgg, Bool.false_eq_true, if_false, List.head?_drop]; done) | (simp only [loadD, tz76, pack, TInfo.isAgg, Bool.false_eq_true, if_false, List.head?_drop]; rfl)
theorem so76 : storeE Zs g 76 (.ptr r off) y = match y.cells with | some ys => (match g r with | some (.cells e cs) => if ys.length = 1 ∧ off + ys.length ≤ cs.length then some (.put r (.cells e (splice cs off ys))) else none | _ => none) | _ => none := by simp only [storeE, tz76]; cases y.cells <;> rfl
theorem al76 : allocR Zs 76 = some (.new (.cells 76 [.sl .nil 0 []])) := by rfl
theorem mi76 : ifaceD Zs 76 x = some (.iface 76 x) := by first | (simp only [ifaceD, tz76]; done) | (simp only [ifaceD, tz76]; rfl)
theorem mk76 {k' : IntKind} {m : Int} : makeSliceR Zs 0 76 (.int k i) (.int k' m) nx = if 0 ≤ i ∧ i ≤ m ∧ ((24 : Nat) : Int) * m ≤ 281474976710656 ∧ m ≤ (big : Int) then some (.row nx 0 i.toNat (some m.toNat) 1, .new (.cells 56 (List.replicate m.toNat (.sl .nil 0 [])))) else none := by exact mk_one tz76 tz56 rfl rfl rfl
theorem bs76_1 : buildSliceR Zs 0 76 1 [(0, x)] nx = lit1 x := by exact build1 tz76 tz56 rfl rfl rfl
theorem bs76_2 : buildSliceR Zs 0 76 2 [(0, x), (1, y)] nx = lit2 x y := by exact build2 tz76 tz56 rfl rfl rfl
theorem bs76_3 : buildSliceR Zs 0 76 3 [(0, x), (1, y), (2, x3)] nx = lit3 x y x3 := by exact build3 tz76 tz56 rfl rfl rfl
theorem ln76 : lenD Zs g #[76] (.sl o n cs) = some (.int .i64 n) := by simp [lenD, tz76]
theorem cpn76 : capD Zs #[76] (.sl .nil n cs) = some (.int .i64 0) := by simp [capD, tz76]
theorem cpr76 {kk z0 : Nat} : capD Zs #[76] (.row r off n (some kk) z0) = some (.int .i64 kk) := by simp [capD, tz76]
theorem lr76 {c0 : Option Nat} {z0 : Nat} : lenD Zs g #[76] (.row r off n c0 z0) = some (.int .i64 n) := by simp [lenD, tz76]
theorem ix76 : indexAddrD Zs 76 (.sl o n cs) (.int k i) = if (0 ≤ i ∧ i < n) ∧ 0 < cs.length then some (.at (cs.drop (i.toNat))) else none := by first | (simp only [indexAddrD, tz76, tz56, Nat.mul_one]; done) | (simp only [indexAddrD, tz76, tz56, Nat.mul_one]; rfl)
theorem ir76 {c0 : Option Nat} {z0 : Nat} : indexAddrD Zs 76 (.row r off n c0 z0) (.int k i) = if 0 ≤ i ∧ i < n then some (.ptr r (off + i.toNat)) else none := by first | (simp only [indexAddrD, tz76, tz56, Nat.mul_one]; done) | (simp only [indexAddrD, tz76, tz56, Nat.mul_one]; rfl)
theorem sl76 : sliceD Zs g 76 (.sl o n cs) lo hi none = match bound lo 0, bound hi n with | some l, some h => if 0 ≤ l ∧ l ≤ h ∧ h ≤ n ∧ cs.length = n then some (.sl (cutOwn o) (h.toNat - l.toNat) ((cs.drop (l.toNat)).take ((h.toNat - l.toNat)))) else none | _, _ => none := by simp only [sliceD, tz76, tz56, Nat.mul_one]; cases bound lo 0 <;> cases bound hi n <;> simp only [Nat.mul_one]
theorem en76 : binD Zs .eql 76 (.sl o n cs) (.sl .nil n' cs') = (nilOf o n).map .bool := by simp [binD, isNum, eqT, tz76]
theorem enr76 {c0 : Option Nat} {z0 : Nat} : binD Zs .eql 76 (.row r off n c0 z0) (.sl .nil n' cs') = some (.bool false) := by simp [binD, isNum, eqT, tz76]
theorem nn76 : binD Zs .neq 76 (.sl o n cs) (.sl .nil n' cs') = (nilOf o n).map fun b => .bool (!b) := by simp [binD, isNum, eqT, tz76]
theorem nnr76 {c0 : Option Nat} {z0 : Nat} : binD Zs .neq 76 (.row r off n c0 z0) (.sl .nil n' cs') = some (.bool true) := by simp [binD, isNum, eqT, tz76]
theorem ld92 : loadD Zs g 92 (.at cs) = cs[0]? := by first | (simp only [loadD, tz92, pack, TInfo.isAgg, Bool.false_eq_true, if_false, List.head?_eq_getElem?]; done) | (simp only [loadD, tz92, pack, TInfo.isAgg, Bool.false_eq_true, if_false, List.head?_eq_getElem?]; rfl)
theorem lp92 : loadD Zs g 92 (.ptr r off) = match g r with | some (.cells _ cs) => cs[off]? | _ => none := by first | (simp only [loadD, tz92, pack, TInfo.isAgg, Bool.false_eq_true, if_false, List.head?_drop]; done) | (simp only [loadD, tz92, pack, TInfo.isAgg, Bool.false_eq_true, if_false, List.head?_drop]; rfl)
theorem so92 : storeE Zs g 92 (.ptr r off) y = match y.cells with | some ys => (match g r with | some (.cells e cs) => if ys.length = 1 ∧ off + ys.length ≤ cs.length then some (.put r (.cells e (splice cs off ys))) else none | _ => none) | _ => none := by simp only [storeE, tz92]; cases y.cells <;> rfl
theorem al92 : allocR Zs 92 = some (.new (.cells 92 [.int .u64 0])) := by rfl
theorem mi92 : ifaceD Zs 92 x = some (.iface 92 x) := by first | (simp only [ifaceD, tz92]; done) | (simp only [ifaceD, tz92]; rfl)
theorem ld95 : loadD Zs g 95 (.at cs) = cs[0]? := by first | (simp only [loadD, tz95, pack, TInfo.isAgg, Bool.false_eq_true, if_false, List.head?_eq_getElem?]; done) | (simp only [loadD, tz95, pack, TInfo.isAgg, Bool.false_eq_true, if_false, List.head?_eq_getElem?]; rfl)
theorem lp95 : loadD Zs g 95 (.ptr r off) = match g r with | some (.cells _ cs) => cs[off]? | _ => none := by first | (simp only [loadD, tz95, pack, TInfo.isAgg, Bool.false_eq_true, if_false, List.head?_drop]; done) | (simp only [loadD, tz95, pack, TInfo.isAgg, Bool.false_eq_true, if_false, List.head?_drop]; rfl)
theorem so95 : storeE Zs g 95 (.ptr r off) y = match y.cells with | some ys => (match g r with | some (.cells e cs) => if ys.length = 1 ∧ off + ys.length ≤ cs.length then some (.put r (.cells e (splice cs off ys))) else none | _ => none) | _ => none := by simp only [storeE, tz95]; cases y.cells <;> rfl
theorem al95 : allocR Zs 95 = some (.new (.cells 95 [.nilfunc])) := by rfl
theorem mi95 : ifaceD Zs 95 x = some (.iface 95 x) := by first | (simp only [ifaceD, tz95]; done) | (simp only [ifaceD, tz95]; rfl)
theorem ld96 : loadD Zs g 96 (.at cs) = cs[0]? := by first | (simp only [loadD, tz96, pack, TInfo.isAgg, Bool.false_eq_true, if_false, List.head?_eq_getElem?]; done) | (simp only [loadD, tz96, pack, TInfo.isAgg, Bool.false_eq_true, if_false, List.head?_eq_getElem?]; rfl)
theorem lp96 : loadD Zs g 96 (.ptr r off) = match g r with | some (.cells _ cs) => cs[off]? | _ => none := by first | (simp only [loadD, tz96, pack, TInfo.isAgg, Bool.false_eq_true, if_false, List.head?_drop]; done) | (simp only [loadD, tz96, pack, TInfo.isAgg, Bool.false_eq_true, if_false, List.head?_drop]; rfl)
theorem so96 : storeE Zs g 96 (.ptr r off) y = match y.cells with | some ys => (match g r with | some (.cells e cs) => if ys.length = 1 ∧ off + ys.length ≤ cs.length then some (.put r (.cells e (splice cs off ys))) else none | _ => none) | _ => none := by simp only [storeE, tz96]; cases y.cells <;> rfl
theorem al96 : allocR Zs 96 = some (.new (.cells 96 [.sl .nil 0 []])) := by rfl
theorem mi96 : ifaceD Zs 96 x = some (.iface 96 x) := by first | (simp only [ifaceD, tz96]; done) | (simp only [ifaceD, tz96]; rfl)
theorem ln96 : lenD Zs g #[96] (.sl o n cs) = some (.int .i64 n) := by simp [lenD, tz96]
theorem cpn96 : capD Zs #[96] (.sl .nil n cs) = some (.int .i64 0) := by simp [capD, tz96]
theorem cpr96 {kk z0 : Nat} : capD Zs #[96] (.row r off n (some kk) z0) = some (.int .i64 kk) := by simp [capD, tz96]
theorem lr96 {c0 : Option Nat} {z0 : Nat} : lenD Zs g #[96] (.row r off n c0 z0) = some (.int .i64 n) := by simp [lenD, tz96]
theorem ix96 : indexAddrD Zs 96 (.sl o n cs) (.int k i) = if (0 ≤ i ∧ i < n) ∧ 0 < cs.length then some (.at (cs.drop (i.toNat * 4))) else none := by first | (simp only [indexAddrD, tz96, tz98, Nat.mul_one]; done) | (simp only [indexAddrD, tz96, tz98, Nat.mul_one]; rfl)
theorem ir96 {c0 : Option Nat} {z0 : Nat} : indexAddrD Zs 96 (.row r off n c0 z0) (.int k i) = if 0 ≤ i ∧ i < n then some (.ptr r (off + i.toNat * 4)) else none := by first | (simp only [indexAddrD, tz96, tz98, Nat.mul_one]; done) | (simp only [indexAddrD, tz96, tz98, Nat.mul_one]; rfl)
theorem sl96 : sliceD Zs g 96 (.sl o n cs) lo hi none = match bound lo 0, bound hi n with | some l, some h => if 0 ≤ l ∧ l ≤ h ∧ h ≤ n ∧ cs.length = n * 4 then some (.sl (cutOwn o) (h.toNat - l.toNat) ((cs.drop (l.toNat * 4)).take ((h.toNat - l.toNat) * 4))) else none | _, _ => none := by simp only [sliceD, tz96, tz98, Nat.mul_one]; cases bound lo 0 <;> cases bound hi n <;> simp only [Nat.mul_one]
theorem en96 : binD Zs .eql 96 (.sl o n cs) (.sl .nil n' cs') = (nilOf o n).map .bool := by simp [binD, isNum, eqT, tz96]
theorem enr96 {c0 : Option Nat} {z0 : Nat} : binD Zs .eql 96 (.row r off n c0 z0) (.sl .nil n' cs') = some (.bool false) := by simp [binD, isNum, eqT, tz96]
theorem nn96 : binD Zs .neq 96 (.sl o n cs) (.sl .nil n' cs') = (nilOf o n).map fun b => .bool (!b) := by simp [binD, isNum, eqT, tz96]
theorem nnr96 {c0 : Option Nat} {z0 : Nat} : binD Zs .neq 96 (.row r off n c0 z0) (.sl .nil n' cs') = some (.bool true) := by simp [binD, isNum, eqT, tz96]
theorem ld97 : loadD Zs g 97 (.at cs) = if 4 ≤ cs.length then some (.agg (cs.take 4)) else none := by first | (simp only [loadD, tz97, pack, TInfo.isAgg, if_true]; done) | (simp only [loadD, tz97, pack, TInfo.isAgg, if_true]; rfl)
theorem lp97 : loadD Zs g 97 (.ptr r off) = match g r with | some (.cells _ cs) => (if 4 ≤ (cs.drop off).length then some (.agg ((cs.drop off).take 4)) else none) | _ => none := by first | (simp only [loadD, tz97, pack, TInfo.isAgg, if_true]; done) | (simp only [loadD, tz97, pack, TInfo.isAgg, if_true]; rfl)
theorem so97 : storeE Zs g 97 (.ptr r off) y = match y.cells with | some ys => (match g r with | some (.cells e cs) => if ys.length = 4 ∧ off + ys.length ≤ cs.length then some (.put r (.cells e (splice cs off ys))) else none | _ => none) | _ => none := by simp only [storeE, tz97]; cases y.cells <;> rfl
theorem al97 : allocR Zs 97 = some (.new (.cells 97 [.sl .nil 0 [], .int .i64 0, .sl .nil 0 [], .sl .nil 0 []])) := by rfl
theorem mi97 : ifaceD Zs 97 x = some (.iface 97 x) := by first | (simp only [ifaceD, tz97]; done) | (simp only [ifaceD, tz97]; rfl)
theorem fa97_0 : fieldAddrD Zs 97 0 (.at cs) = some (.at (cs.drop 0)) := by simp [fieldAddrD, fieldOf, tz97, tz29]
theorem fp97_0 : fieldAddrD Zs 97 0 (.ptr r o') = some (.ptr r (o' + 0)) := by simp [fieldAddrD, fieldOf, tz97, tz29]
theorem fl97_0 : fieldD Zs 97 0 (.agg cs) = cs[0]? := by simp [fieldD, fieldOf, tz97, tz29, partD, TInfo.isAgg]
theorem fa97_1 : fieldAddrD Zs 97 1 (.at cs) = some (.at (cs.drop 1)) := by simp [fieldAddrD, fieldOf, tz97, tz3]
theorem fp97_1 : fieldAddrD Zs 97 1 (.ptr r o') = some (.ptr r (o' + 1)) := by simp [fieldAddrD, fieldOf, tz97, tz3]
theorem fl97_1 : fieldD Zs 97 1 (.agg cs) = cs[1]? := by simp [fieldD, fieldOf, tz97, tz3, partD, TInfo.isAgg]
theorem fa97_2 : fieldAddrD Zs 97 2 (.at cs) = some (.at (cs.drop 2)) := by simp [fieldAddrD, fieldOf, tz97, tz56]
theorem fp97_2 : fieldAddrD Zs 97 2 (.ptr r o') = some (.ptr r (o' + 2)) := by simp [fieldAddrD, fieldOf, tz97, tz56]
theorem fl97_2 : fieldD Zs 97 2 (.agg cs) = cs[2]? := by simp [fieldD, fieldOf, tz97, tz56, partD, TInfo.isAgg]
theorem fa97_3 : fieldAddrD Zs 97 3 (.at cs) = some (.at (cs.drop 3)) := by simp [fieldAddrD, fieldOf, tz97, tz56]
theorem fp97_3 : fieldAddrD Zs 97 3 (.ptr r o') = some (.ptr r (o' + 3)) := by simp [fieldAddrD, fieldOf, tz97, tz56]
theorem fl97_3 : fieldD Zs 97 3 (.agg cs) = cs[3]? := by simp [fieldD, fieldOf, tz97, tz56, partD, TInfo.isAgg]
theorem ld98 : loadD Zs g 98 (.at cs) = if 4 ≤ cs.length then some (.agg (cs.take 4)) else none := by first | (simp only [loadD, tz98, pack, TInfo.isAgg, if_true]; done) | (simp only [loadD, tz98, pack, TInfo.isAgg, if_true]; rfl)
theorem lp98 : loadD Zs g 98 (.ptr r off) = match g r with | some (.cells _ cs) => (if 4 ≤ (cs.drop off).length then some (.agg ((cs.drop off).take 4)) else none) | _ => none := by first | (simp only [loadD, tz98, pack, TInfo.isAgg, if_true]; done) | (simp only [loadD, tz98, pack, TInfo.isAgg, if_true]; rfl)
theorem so98 : storeE Zs g 98 (.ptr r off) y = match y.cells with | some ys => (match g r with | some (.cells e cs) => if ys.length = 4 ∧ off + ys.length ≤ cs.length then some (.put r (.cells e (splice cs off ys))) else none | _ => none) | _ => none := by simp only [storeE, tz98]; cases y.cells <;> rfl
theorem al98 : allocR Zs 98 = some (.new (.cells 98 [.sl .nil 0 [], .int .i64 0, .sl .nil 0 [], .sl .nil 0 []])) := by rfl
theorem mi98 : ifaceD Zs 98 x = some (.iface 98 x) := by first | (simp only [ifaceD, tz98]; done) | (simp only [ifaceD, tz98]; rfl)
theorem fa98_0 : fieldAddrD Zs 98 0 (.at cs) = some (.at (cs.drop 0)) := by simp [fieldAddrD, fieldOf, tz98, tz29]
theorem fp98_0 : fieldAddrD Zs 98 0 (.ptr r o') = some (.ptr r (o' + 0)) := by simp [fieldAddrD, fieldOf, tz98, tz29]
theorem fl98_0 : fieldD Zs 98 0 (.agg cs) = cs[0]? := by simp [fieldD, fieldOf, tz98, tz29, partD, TInfo.isAgg]
theorem fa98_1 : fieldAddrD Zs 98 1 (.at cs) = some (.at (cs.drop 1)) := by simp [fieldAddrD, fieldOf, tz98, tz3]
theorem fp98_1 : fieldAddrD Zs 98 1 (.ptr r o') = some (.ptr r (o' + 1)) := by simp [fieldAddrD, fieldOf, tz98, tz3]
theorem fl98_1 : fieldD Zs 98 1 (.agg cs) = cs[1]? := by simp [fieldD, fieldOf, tz98, tz3, partD, TInfo.isAgg]
theorem fa98_2 : fieldAddrD Zs 98 2 (.at cs) = some (.at (cs.drop 2)) := by simp [fieldAddrD, fieldOf, tz98, tz56]
theorem fp98_2 : fieldAddrD Zs 98 2 (.ptr r o') = some (.ptr r (o' + 2)) := by simp [fieldAddrD, fieldOf, tz98, tz56]
theorem fl98_2 : fieldD Zs 98 2 (.agg cs) = cs[2]? := by simp [fieldD, fieldOf, tz98, tz56, partD, TInfo.isAgg]
theorem fa98_3 : fieldAddrD Zs 98 3 (.at cs) = some (.at (cs.drop 3)) := by simp [fieldAddrD, fieldOf, tz98, tz56]
theorem fp98_3 : fieldAddrD Zs 98 3 (.ptr r o') = some (.ptr r (o' + 3)) := by simp [fieldAddrD, fieldOf, tz98, tz56]
theorem fl98_3 : fieldD Zs 98 3 (.agg cs) = cs[3]? := by simp [fieldD, fieldOf, tz98, tz56, partD, TInfo.isAgg]
theorem ld106 : loadD Zs g 106 (.at cs) = cs[0]? := by first | (simp only [loadD, tz106, pack, TInfo.isAgg, Bool.false_eq_true, if_false, List.head?_eq_getElem?]; done) | (simp only [loadD, tz106, pack, TInfo.isAgg, Bool.false_eq_true, if_false, List.head?_eq_getElem?]; rfl)
theorem lp106 : loadD Zs g 106 (.ptr r off) = match g r with | some (.cells _ cs) => cs[off]? | _ => none := by first | (simp only [loadD, tz106, pack, TInfo.isAgg, Bool.false_eq_true, if_false, List.head?_drop]; done) | (simp only [loadD, tz106, pack, TInfo.isAgg, Bool.false_eq_true, if_false, List.head?_drop]; rfl)
theorem so106 : storeE Zs g 106 (.ptr r off) y = match y.cells with | some ys => (match g r with | some (.cells e cs) => if ys.length = 1 ∧ off + ys.length ≤ cs.length then some (.put r (.cells e (splice cs off ys))) else none | _ => none) | _ => none := by simp only [storeE, tz106]; cases y.cells <;> rfl
theorem al106 : allocR Zs 106 = some (.new (.cells 106 [.int .i64 0])) := by rfl
theorem mi106 : ifaceD Zs 106 x = some (.iface 106 x) := by first | (simp only [ifaceD, tz106]; done) | (simp only [ifaceD, tz106]; rfl)
theorem ld114 : loadD Zs g 114 (.at cs) = cs[0]? := by first | (simp only [loadD, tz114, pack, TInfo.isAgg, Bool.false_eq_true, if_false, List.head?_eq_getElem?]; done) | (simp only [loadD, tz114, pack, TInfo.isAgg, Bool.false_eq_true, if_false, List.head?_eq_getElem?]; rfl)
theorem lp114 : loadD Zs g 114 (.ptr r off) = match g r with | some (.cells _ cs) => cs[off]? | _ => none := by first | (simp only [loadD, tz114, pack, TInfo.isAgg, Bool.false_eq_true, if_false, List.head?_drop]; done) | (simp only [loadD, tz114, pack, TInfo.isAgg, Bool.false_eq_true, if_false, List.head?_drop]; rfl)
theorem so114 : storeE Zs g 114 (.ptr r off) y = match y.cells with | some ys => (match g r with | some (.cells e cs) => if ys.length = 1 ∧ off + ys.length ≤ cs.length then some (.put r (.cells e (splice cs off ys))) else none | _ => none) | _ => none := by simp only [storeE, tz114]; cases y.cells <;> rfl
theorem al114 : allocR Zs 114 = some (.new (.cells 114 [.int .u32 0])) := by rfl
theorem mi114 : ifaceD Zs 114 x = some (.iface 114 x) := by first | (simp only [ifaceD, tz114]; done) | (simp only [ifaceD, tz114]; rfl)
theorem ld116 : loadD Zs g 116 (.at cs) = cs[0]? := by first | (simp only [loadD, tz116, pack, TInfo.isAgg, Bool.false_eq_true, if_false, List.head?_eq_getElem?]; done) | (simp only [loadD, tz116, pack, TInfo.isAgg, Bool.false_eq_true, if_false, List.head?_eq_getElem?]; rfl)
theorem lp116 : loadD Zs g 116 (.ptr r off) = match g r with | some (.cells _ cs) => cs[off]? | _ => none := by first | (simp only [loadD, tz116, pack, TInfo.isAgg, Bool.false_eq_true, if_false, List.head?_drop]; done) | (simp only [loadD, tz116, pack, TInfo.isAgg, Bool.false_eq_true, if_false, List.head?_drop]; rfl)
theorem so116 : storeE Zs g 116 (.ptr r off) y = match y.cells with | some ys => (match g r with | some (.cells e cs) => if ys.length = 1 ∧ off + ys.length ≤ cs.length then some (.put r (.cells e (splice cs off ys))) else none | _ => none) | _ => none := by simp only [storeE, tz116]; cases y.cells <;> rfl
theorem al116 : allocR Zs 116 = some (.new (.cells 116 [.int .u64 0])) := by rfl
theorem mi116 : ifaceD Zs 116 x = some (.iface 116 x) := by first | (simp only [ifaceD, tz116]; done) | (simp only [ifaceD, tz116]; rfl)
theorem ld118 : loadD Zs g 118 (.at cs) = cs[0]? := by first | (simp only [loadD, tz118, pack, TInfo.isAgg, Bool.false_eq_true, if_false, List.head?_eq_getElem?]; done) | (simp only [loadD, tz118, pack, TInfo.isAgg, Bool.false_eq_true, if_false, List.head?_eq_getElem?]; rfl)
theorem lp118 : loadD Zs g 118 (.ptr r off) = match g r with | some (.cells _ cs) => cs[off]? | _ => none := by first | (simp only [loadD, tz118, pack, TInfo.isAgg, Bool.false_eq_true, if_false, List.head?_drop]; done) | (simp only [loadD, tz118, pack, TInfo.isAgg, Bool.false_eq_true, if_false, List.head?_drop]; rfl)
theorem so118 : storeE Zs g 118 (.ptr r off) y = match y.cells with | some ys => (match g r with | some (.cells e cs) => if ys.length = 1 ∧ off + ys.length ≤ cs.length then some (.put r (.cells e (splice cs off ys))) else none | _ => none) | _ => none := by simp only [storeE, tz118]; cases y.cells <;> rfl
theorem al118 : allocR Zs 118 = some (.new (.cells 118 [.nilptr])) := by rfl
theorem mi118 : ifaceD Zs 118 x = some (.iface 118 x) := by first | (simp only [ifaceD, tz118]; done) | (simp only [ifaceD, tz118]; rfl)
theorem peql118 : binD Zs .eql 118 (.ptr r off) .nilptr = some (.bool false) := by simp [binD, isNum, eqT, tz118]
theorem paeql118 : binD Zs .eql 118 (.at cs) .nilptr = some (.bool false) := by simp [binD, isNum, eqT, tz118]
theorem pneql118 : binD Zs .eql 118 .nilptr .nilptr = some (.bool true) := by simp [binD, isNum, eqT, tz118]
theorem pneq118 : binD Zs .neq 118 (.ptr r off) .nilptr = some (.bool true) := by simp [binD, isNum, eqT, tz118]
theorem paneq118 : binD Zs .neq 118 (.at cs) .nilptr = some (.bool true) := by simp [binD, isNum, eqT, tz118]
theorem pnneq118 : binD Zs .neq 118 .nilptr .nilptr = some (.bool false) := by simp [binD, isNum, eqT, tz118]
theorem ld119 : loadD Zs g 119 (.at cs) = cs[0]? := by first | (simp only [loadD, tz119, pack, TInfo.isAgg, Bool.false_eq_true, if_false, List.head?_eq_getElem?]; done) | (simp only [loadD, tz119, pack, TInfo.isAgg, Bool.false_eq_true, if_false, List.head?_eq_getElem?]; rfl)
theorem lp119 : loadD Zs g 119 (.ptr r off) = match g r with | some (.cells _ cs) => cs[off]? | _ => none := by first | (simp only [loadD, tz119, pack, TInfo.isAgg, Bool.false_eq_true, if_false, List.head?_drop]; done) | (simp only [loadD, tz119, pack, TInfo.isAgg, Bool.false_eq_true, if_false, List.head?_drop]; rfl)
theorem so119 : storeE Zs g 119 (.ptr r off) y = match y.cells with | some ys => (match g r with | some (.cells e cs) => if ys.length = 1 ∧ off + ys.length ≤ cs.length then some (.put r (.cells e (splice cs off ys))) else none | _ => none) | _ => none := by simp only [storeE, tz119]; cases y.cells <;> rfl
theorem al119 : allocR Zs 119 = some (.new (.cells 119 [.sl .nil 0 []])) := by rfl
theorem mi119 : ifaceD Zs 119 x = some (.iface 119 x) := by first | (simp only [ifaceD, tz119]; done) | (simp only [ifaceD, tz119]; rfl)
theorem mk119 {k' : IntKind} {m : Int} : makeSliceR Zs 0 119 (.int k i) (.int k' m) nx = if 0 ≤ i ∧ i ≤ m ∧ ((1 : Nat) : Int) * m ≤ 281474976710656 ∧ m ≤ (big : Int) then some (.row nx 0 i.toNat (some m.toNat) 1, .new (.cells 5 (List.replicate m.toNat (.int .u8 0)))) else none := by exact mk_one tz119 tz5 rfl rfl rfl
theorem bs119_1 : buildSliceR Zs 0 119 1 [(0, x)] nx = lit1 x := by exact build1 tz119 tz5 rfl rfl rfl
theorem bs119_2 : buildSliceR Zs 0 119 2 [(0, x), (1, y)] nx = lit2 x y := by exact build2 tz119 tz5 rfl rfl rfl
theorem bs119_3 : buildSliceR Zs 0 119 3 [(0, x), (1, y), (2, x3)] nx = lit3 x y x3 := by exact build3 tz119 tz5 rfl rfl rfl
theorem ln119 : lenD Zs g #[119] (.sl o n cs) = some (.int .i64 n) := by simp [lenD, tz119]
theorem cpn119 : capD Zs #[119] (.sl .nil n cs) = some (.int .i64 0) := by simp [capD, tz119]
theorem cpr119 {kk z0 : Nat} : capD Zs #[119] (.row r off n (some kk) z0) = some (.int .i64 kk) := by simp [capD, tz119]
theorem lr119 {c0 : Option Nat} {z0 : Nat} : lenD Zs g #[119] (.row r off n c0 z0) = some (.int .i64 n) := by simp [lenD, tz119]
theorem ix119 : indexAddrD Zs 119 (.sl o n cs) (.int k i) = if (0 ≤ i ∧ i < n) ∧ 0 < cs.length then some (.at (cs.drop (i.toNat))) else none := by first | (simp only [indexAddrD, tz119, tz5, Nat.mul_one]; done) | (simp only [indexAddrD, tz119, tz5, Nat.mul_one]; rfl)
theorem ir119 {c0 : Option Nat} {z0 : Nat} : indexAddrD Zs 119 (.row r off n c0 z0) (.int k i) = if 0 ≤ i ∧ i < n then some (.ptr r (off + i.toNat)) else none := by first | (simp only [indexAddrD, tz119, tz5, Nat.mul_one]; done) | (simp only [indexAddrD, tz119, tz5, Nat.mul_one]; rfl)
theorem sl119 : sliceD Zs g 119 (.sl o n cs) lo hi none = match bound lo 0, bound hi n with | some l, some h => if 0 ≤ l ∧ l ≤ h ∧ h ≤ n ∧ cs.length = n then some (.sl (cutOwn o) (h.toNat - l.toNat) ((cs.drop (l.toNat)).take ((h.toNat - l.toNat)))) else none | _, _ => none := by simp only [sliceD, tz119, tz5, Nat.mul_one]; cases bound lo 0 <;> cases bound hi n <;> simp only [Nat.mul_one]
theorem en119 : binD Zs .eql 119 (.sl o n cs) (.sl .nil n' cs') = (nilOf o n).map .bool := by simp [binD, isNum, eqT, tz119]
theorem enr119 {c0 : Option Nat} {z0 : Nat} : binD Zs .eql 119 (.row r off n c0 z0) (.sl .nil n' cs') = some (.bool false) := by simp [binD, isNum, eqT, tz119]
theorem nn119 : binD Zs .neq 119 (.sl o n cs) (.sl .nil n' cs') = (nilOf o n).map fun b => .bool (!b) := by simp [binD, isNum, eqT, tz119]
theorem nnr119 {c0 : Option Nat} {z0 : Nat} : binD Zs .neq 119 (.row r off n c0 z0) (.sl .nil n' cs') = some (.bool true) := by simp [binD, isNum, eqT, tz119]
theorem ld120 : loadD Zs g 120 (.at cs) = if 2 ≤ cs.length then some (.agg (cs.take 2)) else none := by first | (simp only [loadD, tz120, pack, TInfo.isAgg, if_true]; done) | (simp only [loadD, tz120, pack, TInfo.isAgg, if_true]; rfl)
theorem lp120 : loadD Zs g 120 (.ptr r off) = match g r with | some (.cells _ cs) => (if 2 ≤ (cs.drop off).length then some (.agg ((cs.drop off).take 2)) else none) | _ => none := by first | (simp only [loadD, tz120, pack, TInfo.isAgg, if_true]; done) | (simp only [loadD, tz120, pack, TInfo.isAgg, if_true]; rfl)
theorem so120 : storeE Zs g 120 (.ptr r off) y = match y.cells with | some ys => (match g r with | some (.cells e cs) => if ys.length = 2 ∧ off + ys.length ≤ cs.length then some (.put r (.cells e (splice cs off ys))) else none | _ => none) | _ => none := by simp only [storeE, tz120]; cases y.cells <;> rfl
theorem al120 : allocR Zs 120 = some (.new (.cells 120 [.nilptr, .sl .nil 0 []])) := by rfl
theorem mi120 : ifaceD Zs 120 x = some (.iface 120 x) := by first | (simp only [ifaceD, tz120]; done) | (simp only [ifaceD, tz120]; rfl)
theorem fa120_0 : fieldAddrD Zs 120 0 (.at cs) = some (.at (cs.drop 0)) := by simp [fieldAddrD, fieldOf, tz120, tz118]
theorem fp120_0 : fieldAddrD Zs 120 0 (.ptr r o') = some (.ptr r (o' + 0)) := by simp [fieldAddrD, fieldOf, tz120, tz118]
theorem fl120_0 : fieldD Zs 120 0 (.agg cs) = cs[0]? := by simp [fieldD, fieldOf, tz120, tz118, partD, TInfo.isAgg]
theorem fa120_1 : fieldAddrD Zs 120 1 (.at cs) = some (.at (cs.drop 1)) := by simp [fieldAddrD, fieldOf, tz120, tz119]
theorem fp120_1 : fieldAddrD Zs 120 1 (.ptr r o') = some (.ptr r (o' + 1)) := by simp [fieldAddrD, fieldOf, tz120, tz119]
theorem fl120_1 : fieldD Zs 120 1 (.agg cs) = cs[1]? := by simp [fieldD, fieldOf, tz120, tz119, partD, TInfo.isAgg]
theorem ld121 : loadD Zs g 121 (.at cs) = if 2 ≤ cs.length then some (.agg (cs.take 2)) else none := by first | (simp only [loadD, tz121, pack, TInfo.isAgg, if_true]; done) | (simp only [loadD, tz121, pack, TInfo.isAgg, if_true]; rfl)
theorem lp121 : loadD Zs g 121 (.ptr r off) = match g r with | some (.cells _ cs) => (if 2 ≤ (cs.drop off).length then some (.agg ((cs.drop off).take 2)) else none) | _ => none := by first | (simp only [loadD, tz121, pack, TInfo.isAgg, if_true]; done) | (simp only [loadD, tz121, pack, TInfo.isAgg, if_true]; rfl)
theorem so121 : storeE Zs g 121 (.ptr r off) y = match y.cells with | some ys => (match g r with | some (.cells e cs) => if ys.length = 2 ∧ off + ys.length ≤ cs.length then some (.put r (.cells e (splice cs off ys))) else none | _ => none) | _ => none := by simp only [storeE, tz121]; cases y.cells <;> rfl
theorem al121 : allocR Zs 121 = some (.new (.cells 121 [.nilptr, .sl .nil 0 []])) := by rfl
theorem mi121 : ifaceD Zs 121 x = some (.iface 121 x) := by first | (simp only [ifaceD, tz121]; done) | (simp only [ifaceD, tz121]; rfl)
theorem fa121_0 : fieldAddrD Zs 121 0 (.at cs) = some (.at (cs.drop 0)) := by simp [fieldAddrD, fieldOf, tz121, tz118]
theorem fp121_0 : fieldAddrD Zs 121 0 (.ptr r o') = some (.ptr r (o' + 0)) := by simp [fieldAddrD, fieldOf, tz121, tz118]
theorem fl121_0 : fieldD Zs 121 0 (.agg cs) = cs[0]? := by simp [fieldD, fieldOf, tz121, tz118, partD, TInfo.isAgg]
theorem fa121_1 : fieldAddrD Zs 121 1 (.at cs) = some (.at (cs.drop 1)) := by simp [fieldAddrD, fieldOf, tz121, tz119]
theorem fp121_1 : fieldAddrD Zs 121 1 (.ptr r o') = some (.ptr r (o' + 1)) := by simp [fieldAddrD, fieldOf, tz121, tz119]
theorem fl121_1 : fieldD Zs 121 1 (.agg cs) = cs[1]? := by simp [fieldD, fieldOf, tz121, tz119, partD, TInfo.isAgg]
theorem ld132 : loadD Zs g 132 (.at cs) = cs[0]? := by first | (simp only [loadD, tz132, pack, TInfo.isAgg, Bool.false_eq_true, if_false, List.head?_eq_getElem?]; done) | (simp only [loadD, tz132, pack, TInfo.isAgg, Bool.false_eq_true, if_false, List.head?_eq_getElem?]; rfl)
theorem lp132 : loadD Zs g 132 (.ptr r off) = match g r with | some (.cells _ cs) => cs[off]? | _ => none := by first | (simp only [loadD, tz132, pack, TInfo.isAgg, Bool.false_eq_true, if_false, List.head?_drop]; done) | (simp only [loadD, tz132, pack, TInfo.isAgg, Bool.false_eq_true, if_false, List.head?_drop]; rfl)
theorem so132 : storeE Zs g 132 (.ptr r off) y = match y.cells with | some ys => (match g r with | some (.cells e cs) => if ys.length = 1 ∧ off + ys.length ≤ cs.length then some (.put r (.cells e (splice cs off ys))) else none | _ => none) | _ => none := by simp only [storeE, tz132]; cases y.cells <;> rfl
theorem al132 : allocR Zs 132 = some (.new (.cells 132 [.int .u64 0])) := by rfl
theorem mi132 : ifaceD Zs 132 x = some (.iface 132 x) := by first | (simp only [ifaceD, tz132]; done) | (simp only [ifaceD, tz132]; rfl)
theorem ld136 : loadD Zs g 136 (.at cs) = cs[0]? := by first | (simp only [loadD, tz136, pack, TInfo.isAgg, Bool.false_eq_true, if_false, List.head?_eq_getElem?]; done) | (simp only [loadD, tz136, pack, TInfo.isAgg, Bool.false_eq_true, if_false, List.head?_eq_getElem?]; rfl)
theorem lp136 : loadD Zs g 136 (.ptr r off) = match g r with | some (.cells _ cs) => cs[off]? | _ => none := by first | (simp only [loadD, tz136, pack, TInfo.isAgg, Bool.false_eq_true, if_false, List.head?_drop]; done) | (simp only [loadD, tz136, pack, TInfo.isAgg, Bool.false_eq_true, if_false, List.head?_drop]; rfl)
theorem so136 : storeE Zs g 136 (.ptr r off) y = match y.cells with | some ys => (match g r with | some (.cells e cs) => if ys.length = 1 ∧ off + ys.length ≤ cs.length then some (.put r (.cells e (splice cs off ys))) else none | _ => none) | _ => none := by simp only [storeE, tz136]; cases y.cells <;> rfl
theorem al136 : allocR Zs 136 = some (.new (.cells 136 [.nilptr])) := by rfl
theorem mi136 : ifaceD Zs 136 x = some (.iface 136 x) := by first | (simp only [ifaceD, tz136]; done) | (simp only [ifaceD, tz136]; rfl)
theorem peql136 : binD Zs .eql 136 (.ptr r off) .nilptr = some (.bool false) := by simp [binD, isNum, eqT, tz136]
theorem paeql136 : binD Zs .eql 136 (.at cs) .nilptr = some (.bool false) := by simp [binD, isNum, eqT, tz136]
theorem pneql136 : binD Zs .eql 136 .nilptr .nilptr = some (.bool true) := by simp [binD, isNum, eqT, tz136]
theorem pneq136 : binD Zs .neq 136 (.ptr r off) .nilptr = some (.bool true) := by simp [binD, isNum, eqT, tz136]
theorem paneq136 : binD Zs .neq 136 (.at cs) .nilptr = some (.bool true) := by simp [binD, isNum, eqT, tz136]
theorem pnneq136 : binD Zs .neq 136 .nilptr .nilptr = some (.bool false) := by simp [binD, isNum, eqT, tz136]
theorem ld138 : loadD Zs g 138 (.at cs) = cs[0]? := by first | (simp only [loadD, tz138, pack, TInfo.isAgg, Bool.false_eq_true, if_false, List.head?_eq_getElem?]; done) | (simp only [loadD, tz138, pack, TInfo.isAgg, Bool.false_eq_true, if_false, List.head?_eq_getElem?]; rfl)
theorem lp138 : loadD Zs g 138 (.ptr r off) = match g r with | some (.cells _ cs) => cs[off]? | _ => none := by first | (simp only [loadD, tz138, pack, TInfo.isAgg, Bool.false_eq_true, if_false, List.head?_drop]; done) | (simp only [loadD, tz138, pack, TInfo.isAgg, Bool.false_eq_true, if_false, List.head?_drop]; rfl)
theorem so138 : storeE Zs g 138 (.ptr r off) y = match y.cells with | some ys => (match g r with | some (.cells e cs) => if ys.length = 1 ∧ off + ys.length ≤ cs.length then some (.put r (.cells e (splice cs off ys))) else none | _ => none) | _ => none := by simp only [storeE, tz138]; cases y.cells <;> rfl
theorem al138 : allocR Zs 138 = some (.new (.cells 138 [.nilptr])) := by rfl
theorem mi138 : ifaceD Zs 138 x = some (.iface 138 x) := by first | (simp only [ifaceD, tz138]; done) | (simp only [ifaceD, tz138]; rfl)
theorem peql138 : binD Zs .eql 138 (.ptr r off) .nilptr = some (.bool false) := by simp [binD, isNum, eqT, tz138]
theorem paeql138 : binD Zs .eql 138 (.at cs) .nilptr = some (.bool false) := by simp [binD, isNum, eqT, tz138]
theorem pneql138 : binD Zs .eql 138 .nilptr .nilptr = some (.bool true) := by simp [binD, isNum, eqT, tz138]
theorem pneq138 : binD Zs .neq 138 (.ptr r off) .nilptr = some (.bool true) := by simp [binD, isNum, eqT, tz138]
theorem paneq138 : binD Zs .neq 138 (.at cs) .nilptr = some (.bool true) := by simp [binD, isNum, eqT, tz138]
theorem pnneq138 : binD Zs .neq 138 .nilptr .nilptr = some (.bool false) := by simp [binD, isNum, eqT, tz138]
theorem ld144 : loadD Zs g 144 (.at cs) = cs[0]? := by first | (simp only [loadD, tz144, pack, TInfo.isAgg, Bool.false_eq_true, if_false, List.head?_eq_getElem?]; done) | (simp only [loadD, tz144, pack, TInfo.isAgg, Bool.false_eq_true, if_false, List.head?_eq_getElem?]; rfl)
theorem lp144 : loadD Zs g 144 (.ptr r off) = match g r with | some (.cells _ cs) => cs[off]? | _ => none := by first | (simp only [loadD, tz144, pack, TInfo.isAgg, Bool.false_eq_true, if_false, List.head?_drop]; done) | (simp only [loadD, tz144, pack, TInfo.isAgg, Bool.false_eq_true, if_false, List.head?_drop]; rfl)
theorem so144 : storeE Zs g 144 (.ptr r off) y = match y.cells with | some ys => (match g r with | some (.cells e cs) => if ys.length = 1 ∧ off + ys.length ≤ cs.length then some (.put r (.cells e (splice cs off ys))) else none | _ => none) | _ => none := by simp only [storeE, tz144]; cases y.cells <;> rfl
theorem al144 : allocR Zs 144 = some (.new (.cells 144 [.nilptr])) := by rfl
theorem mi144 : ifaceD Zs 144 x = some (.iface 144 x) := by first | (simp only [ifaceD, tz144]; done) | (simp only [ifaceD, tz144]; rfl)
theorem ld148 : loadD Zs g 148 (.at cs) = if 2 ≤ cs.length then some (.agg (cs.take 2)) else none := by first | (simp only [loadD, tz148, pack, TInfo.isAgg, if_true]; done) | (simp only [loadD, tz148, pack, TInfo.isAgg, if_true]; rfl)
theorem lp148 : loadD Zs g 148 (.ptr r off) = match g r with | some (.cells _ cs) => (if 2 ≤ (cs.drop off).length then some (.agg ((cs.drop off).take 2)) else none) | _ => none := by first | (simp only [loadD, tz148, pack, TInfo.isAgg, if_true]; done) | (simp only [loadD, tz148, pack, TInfo.isAgg, if_true]; rfl)
theorem so148 : storeE Zs g 148 (.ptr r off) y = match y.cells with | some ys => (match g r with | some (.cells e cs) => if ys.length = 2 ∧ off + ys.length ≤ cs.length then some (.put r (.cells e (splice cs off ys))) else none | _ => none) | _ => none := by simp only [storeE, tz148]; cases y.cells <;> rfl
theorem al148 : allocR Zs 148 = some (.new (.cells 148 [.int .u8 0, .int .u8 0])) := by rfl
theorem mi148 : ifaceD Zs 148 x = some (.iface 148 x) := by first | (simp only [ifaceD, tz148]; done) | (simp only [ifaceD, tz148]; rfl)
theorem fa148_0 : fieldAddrD Zs 148 0 (.at cs) = some (.at (cs.drop 0)) := by simp [fieldAddrD, fieldOf, tz148, tz5]
theorem fp148_0 : fieldAddrD Zs 148 0 (.ptr r o') = some (.ptr r (o' + 0)) := by simp [fieldAddrD, fieldOf, tz148, tz5]
theorem fl148_0 : fieldD Zs 148 0 (.agg cs) = cs[0]? := by simp [fieldD, fieldOf, tz148, tz5, partD, TInfo.isAgg]
theorem fa148_1 : fieldAddrD Zs 148 1 (.at cs) = some (.at (cs.drop 1)) := by simp [fieldAddrD, fieldOf, tz148, tz5]
theorem fp148_1 : fieldAddrD Zs 148 1 (.ptr r o') = some (.ptr r (o' + 1)) := by simp [fieldAddrD, fieldOf, tz148, tz5]
theorem fl148_1 : fieldD Zs 148 1 (.agg cs) = cs[1]? := by simp [fieldD, fieldOf, tz148, tz5, partD, TInfo.isAgg]
theorem ld149 : loadD Zs g 149 (.at cs) = if 2 ≤ cs.length then some (.agg (cs.take 2)) else none := by first | (simp only [loadD, tz149, pack, TInfo.isAgg, if_true]; done) | (simp only [loadD, tz149, pack, TInfo.isAgg, if_true]; rfl)
theorem lp149 : loadD Zs g 149 (.ptr r off) = match g r with | some (.cells _ cs) => (if 2 ≤ (cs.drop off).length then some (.agg ((cs.drop off).take 2)) else none) | _ => none := by first | (simp only [loadD, tz149, pack, TInfo.isAgg, if_true]; done) | (simp only [loadD, tz149, pack, TInfo.isAgg, if_true]; rfl)
theorem so149 : storeE Zs g 149 (.ptr r off) y = match y.cells with | some ys => (match g r with | some (.cells e cs) => if ys.length = 2 ∧ off + ys.length ≤ cs.length then some (.put r (.cells e (splice cs off ys))) else none | _ => none) | _ => none := by simp only [storeE, tz149]; cases y.cells <;> rfl
theorem al149 : allocR Zs 149 = some (.new (.cells 149 [.int .u8 0, .int .u8 0])) := by rfl
theorem mi149 : ifaceD Zs 149 x = some (.iface 149 x) := by first | (simp only [ifaceD, tz149]; done) | (simp only [ifaceD, tz149]; rfl)
theorem fa149_0 : fieldAddrD Zs 149 0 (.at cs) = some (.at (cs.drop 0)) := by simp [fieldAddrD, fieldOf, tz149, tz5]
theorem fp149_0 : fieldAddrD Zs 149 0 (.ptr r o') = some (.ptr r (o' + 0)) := by simp [fieldAddrD, fieldOf, tz149, tz5]
theorem fl149_0 : fieldD Zs 149 0 (.agg cs) = cs[0]? := by simp [fieldD, fieldOf, tz149, tz5, partD, TInfo.isAgg]
theorem fa149_1 : fieldAddrD Zs 149 1 (.at cs) = some (.at (cs.drop 1)) := by simp [fieldAddrD, fieldOf, tz149, tz5]
theorem fp149_1 : fieldAddrD Zs 149 1 (.ptr r o') = some (.ptr r (o' + 1)) := by simp [fieldAddrD, fieldOf, tz149, tz5]
theorem fl149_1 : fieldD Zs 149 1 (.agg cs) = cs[1]? := by simp [fieldD, fieldOf, tz149, tz5, partD, TInfo.isAgg]
theorem ld150 : loadD Zs g 150 (.at cs) = if 32 ≤ cs.length then some (.agg (cs.take 32)) else none := by first | (simp only [loadD, tz150, pack, TInfo.isAgg, if_true]; done) | (simp only [loadD, tz150, pack, TInfo.isAgg, if_true]; rfl)
theorem lp150 : loadD Zs g 150 (.ptr r off) = match g r with | some (.cells _ cs) => (if 32 ≤ (cs.drop off).length then some (.agg ((cs.drop off).take 32)) else none) | _ => none := by first | (simp only [loadD, tz150, pack, TInfo.isAgg, if_true]; done) | (simp only [loadD, tz150, pack, TInfo.isAgg, if_true]; rfl)
theorem so150 : storeE Zs g 150 (.ptr r off) y = match y.cells with | some ys => (match g r with | some (.cells e cs) => if ys.length = 32 ∧ off + ys.length ≤ cs.length then some (.put r (.cells e (splice cs off ys))) else none | _ => none) | _ => none := by simp only [storeE, tz150]; cases y.cells <;> rfl
theorem al150 : allocR Zs 150 = some (.new (.cells 150 [.int .u8 0, .int .u8 0, .int .u8 0, .int .u8 0, .int .u8 0, .int .u8 0, .int .u8 0, .int .u8 0, .int .u8 0, .int .u8 0, .int .u8 0, .int .u8 0, .int .u8 0, .int .u8 0, .int .u8 0, .int .u8 0, .int .u8 0, .int .u8 0, .int .u8 0, .int .u8 0, .int .u8 0, .int .u8 0, .int .u8 0, .int .u8 0, .int .u8 0, .int .u8 0, .int .u8 0, .int .u8 0, .int .u8 0, .int .u8 0, .int .u8 0, .int .u8 0])) := by rfl
theorem mi150 : ifaceD Zs 150 x = some (.iface 150 x) := by first | (simp only [ifaceD, tz150]; done) | (simp only [ifaceD, tz150]; rfl)
theorem ln150 : lenD Zs g #[150] x = some (.int .i64 16) := by cases x <;> simp [lenD, tz150]
theorem ix150 : indexAddrD Zs 150 (.at cs) (.int k i) = if 0 ≤ i ∧ i < (16 : Nat) then some (.at (cs.drop (i.toNat * 2))) else none := by first | (simp only [indexAddrD, tz150, tz149, Nat.mul_one]; done) | (simp only [indexAddrD, tz150, tz149, Nat.mul_one]; rfl)
theorem ir150 : indexAddrD Zs 150 (.ptr r off) (.int k i) = if 0 ≤ i ∧ i < (16 : Nat) then some (.ptr r (off + i.toNat * 2)) else none := by first | (simp only [indexAddrD, tz150, tz149, Nat.mul_one]; done) | (simp only [indexAddrD, tz150, tz149, Nat.mul_one]; rfl)
theorem cv3_92 : convD Zs 3 92 (.int k i) = some (.int .u64 (IntKind.wrap .u64 i)) := by first | (simp only [convD, tz3, tz92]; done) | (simp only [convD, tz3, tz92]; rfl)
theorem cv3_132 : convD Zs 3 132 (.int k i) = some (.int .u64 (IntKind.wrap .u64 i)) := by first | (simp only [convD, tz3, tz132]; done) | (simp only [convD, tz3, tz132]; rfl)
theorem cv5_3 : convD Zs 5 3 (.int k i) = some (.int .i64 (IntKind.wrap .i64 i)) := by first | (simp only [convD, tz5, tz3]; done) | (simp only [convD, tz5, tz3]; rfl)
theorem cv5_21 : convD Zs 5 21 (.int k i) = some (.int .i32 (IntKind.wrap .i32 i)) := by first | (simp only [convD, tz5, tz21]; done) | (simp only [convD, tz5, tz21]; rfl)
theorem cv5_114 : convD Zs 5 114 (.int k i) = some (.int .u32 (IntKind.wrap .u32 i)) := by first | (simp only [convD, tz5, tz114]; done) | (simp only [convD, tz5, tz114]; rfl)
theorem cv92_3 : convD Zs 92 3 (.int k i) = some (.int .i64 (IntKind.wrap .i64 i)) := by first | (simp only [convD, tz92, tz3]; done) | (simp only [convD, tz92, tz3]; rfl)
theorem cv92_114 : convD Zs 92 114 (.int k i) = some (.int .u32 (IntKind.wrap .u32 i)) := by first | (simp only [convD, tz92, tz114]; done) | (simp only [convD, tz92, tz114]; rfl)
theorem cv114_5 : convD Zs 114 5 (.int k i) = some (.int .u8 (IntKind.wrap .u8 i)) := by first | (simp only [convD, tz114, tz5]; done) | (simp only [convD, tz114, tz5]; rfl)
theorem cv116_5 : convD Zs 116 5 (.int k i) = some (.int .u8 (IntKind.wrap .u8 i)) := by first | (simp only [convD, tz116, tz5]; done) | (simp only [convD, tz116, tz5]; rfl)
theorem co0 : ofV (.string ⟨#[108, 101, 110, 32, 111, 117, 116, 32, 111, 102, 32, 114, 97, 110, 103, 101]⟩) = .str ⟨#[108, 101, 110, 32, 111, 117, 116, 32, 111, 102, 32, 114, 97, 110, 103, 101]⟩ := (rfl)
theorem co1 : ofV (.string ⟨#[10]⟩) = .str ⟨#[10]⟩ := (rfl)
theorem co2 : ofV (.string ⟨#[115, 116, 114, 105, 110, 103, 115, 46, 66, 117, 105, 108, 100, 101, 114, 46, 71, 114, 111, 119, 58, 32, 110, 101, 103, 97, 116, 105, 118, 101, 32, 99, 111, 117, 110, 116]⟩) = .str ⟨#[115, 116, 114, 105, 110, 103, 115, 46, 66, 117, 105, 108, 100, 101, 114, 46, 71, 114, 111, 119, 58, 32, 110, 101, 103, 97, 116, 105, 118, 101, 32, 99, 111, 117, 110, 116]⟩ := (rfl)
theorem co3 : ofV (.string ⟨#[115, 116, 114, 105, 110, 103, 115, 58, 32, 74, 111, 105, 110, 32, 111, 117, 116, 112, 117, 116, 32, 108, 101, 110, 103, 116, 104, 32, 111, 118, 101, 114, 102, 108, 111, 119]⟩) = .str ⟨#[115, 116, 114, 105, 110, 103, 115, 58, 32, 74, 111, 105, 110, 32, 111, 117, 116, 112, 117, 116, 32, 108, 101, 110, 103, 116, 104, 32, 111, 118, 101, 114, 102, 108, 111, 119]⟩ := (rfl)
theorem co4 : ofV (.string ⟨#[120]⟩) = .str ⟨#[120]⟩ := (rfl)
theorem co5 : ofV (.string ⟨#[32]⟩) = .str ⟨#[32]⟩ := (rfl)
theorem co6 : ofV (.string ⟨#[60]⟩) = .str ⟨#[60]⟩ := (rfl)
theorem co7 : ofV (.string ⟨#[61]⟩) = .str ⟨#[61]⟩ := (rfl)
theorem co8 : ofV (.string ⟨#[62]⟩) = .str ⟨#[62]⟩ := (rfl)
theorem co9 : ofV (.string ⟨#[91, 93]⟩) = .str ⟨#[91, 93]⟩ := (rfl)
theorem co10 : ofV (.string ⟨#[97]⟩) = .str ⟨#[97]⟩ := (rfl)
theorem co11 : ofV (.string ⟨#[98]⟩) = .str ⟨#[98]⟩ := (rfl)
theorem co12 : ofV (.string ⟨#[99, 97, 110, 110, 111, 116, 32, 98, 101, 32, 110, 101, 103, 97, 116, 105, 118, 101]⟩) = .str ⟨#[99, 97, 110, 110, 111, 116, 32, 98, 101, 32, 110, 101, 103, 97, 116, 105, 118, 101]⟩ := (rfl)
theorem co13 : ofV (.string ⟨#[]⟩) = .str ⟨#[]⟩ := (rfl)
end
end Go.Proofs.YtldlcejlfaogbaaDoor.Vs
