import Derived.Shelf.Strings.Cut
import Derived.Shelf.Strings.Prefix
import Derived.Test.YtapkbkniooleaaaDoorSp1
import Derived.Lib.CutLaws
import Derived.Lib.Strings
/- numbers of YtapkbkniooleaaaDoor -/
namespace Go.Proofs.YtapkbkniooleaaaDoor.Vs
open Go.Shelf Go.RowKit
set_option linter.unusedVariables false
set_option linter.unusedSimpArgs false
set_option maxRecDepth 100000
def Tryd.lays145_ren : Go.Shelf.Ren := ⟨fun | 145 => 20 | 220 => 39 | 219 => 65 | 217 => 77 | 225 => 78 | 224 => 79 | 267 => 80 | 266 => 89 | 314 => 90 | n => n, fun | 9 => 9 | 4 => 4 | 59 => 45 | 3 => 3 | 5 => 5 | 46 => 93 | 146 => 103 | 51 => 102 | n => n, fun | 1 => 0 | n => n⟩
theorem Tryd.lays145 : Go.Proofs.Lays.n145 Tryd.prog Tryd.lays145_ren := {
  mixed := by kernel_rfl
  f145 := Tryd.func20.trans (congrArg some (by kernel_rfl))
  f217 := Tryd.func77.trans (congrArg some (by kernel_rfl))
  f219 := Tryd.func65.trans (congrArg some (by kernel_rfl))
  f220 := Tryd.func39.trans (congrArg some (by kernel_rfl))
  f224 := Tryd.func79.trans (congrArg some (by kernel_rfl))
  f225 := Tryd.func78.trans (congrArg some (by kernel_rfl))
  f266 := Tryd.func89.trans (congrArg some (by kernel_rfl))
  f267 := Tryd.func80.trans (congrArg some (by kernel_rfl))
  f314 := Tryd.func90.trans (congrArg some (by kernel_rfl))
  t3 := Tryd.underlying3
  a3 := Tryd.isAgg3
  z3 := Tryd.sizeOf3
  v3 := Tryd.zeroValue3
  t4 := Tryd.underlying4
  a4 := Tryd.isAgg4
  z4 := Tryd.sizeOf4
  v4 := Tryd.zeroValue4
  t5 := Tryd.underlying5
  a5 := Tryd.isAgg5
  z5 := Tryd.sizeOf5
  v5 := Tryd.zeroValue5
  t9 := Tryd.underlying9
  a9 := Tryd.isAgg9
  z9 := Tryd.sizeOf9
  v9 := Tryd.zeroValue9
  t46 := Tryd.underlying93
  a46 := Tryd.isAgg93
  z46 := Tryd.sizeOf93
  v46 := Tryd.zeroValue93
  t51 := Tryd.underlying102
  a51 := Tryd.isAgg102
  z51 := Tryd.sizeOf102
  v51 := Tryd.zeroValue102
  t59 := Tryd.underlying45
  a59 := Tryd.isAgg45
  z59 := Tryd.sizeOf45
  v59 := Tryd.zeroValue45
  t146 := Tryd.underlying103
  a146 := Tryd.isAgg103
  z146 := Tryd.sizeOf103
  v146 := Tryd.zeroValue103
  g1 := by kernel_rfl }
def Tryd.lays101_ren : Go.Shelf.Ren := ⟨fun | 101 => 32 | 208 => 50 | 206 => 70 | n => n, fun | 9 => 9 | 4 => 4 | 3 => 3 | n => n, fun | n => n⟩
theorem Tryd.lays101 : Go.Proofs.Lays.n101 Tryd.prog Tryd.lays101_ren := {
  mixed := by kernel_rfl
  f101 := Tryd.func32.trans (congrArg some (by kernel_rfl))
  f206 := Tryd.func70.trans (congrArg some (by kernel_rfl))
  f208 := Tryd.func50.trans (congrArg some (by kernel_rfl))
  t3 := Tryd.underlying3
  a3 := Tryd.isAgg3
  z3 := Tryd.sizeOf3
  v3 := Tryd.zeroValue3
  t4 := Tryd.underlying4
  a4 := Tryd.isAgg4
  z4 := Tryd.sizeOf4
  v4 := Tryd.zeroValue4
  t9 := Tryd.underlying9
  a9 := Tryd.isAgg9
  z9 := Tryd.sizeOf9
  v9 := Tryd.zeroValue9 }
theorem trim_len (l p : List UInt8) : (Lib.trimPrefix l p).length ≤ l.length := by
  unfold Lib.trimPrefix
  split
  · rw [List.length_drop]; omega
  · exact Nat.le_refl _
theorem TrimPrefix_c (l p : List UInt8) (hs : l.length ≤ 100000) : Fn Zs 32 [.str (toB l), .str (toB p)] (.str (toB (Lib.trimPrefix l p))) := by
  refine fn_below (Z := Zs) ⟨Tryd.f32, Tryd.func32, by kernel_rfl, by kernel_rfl⟩ fun W s' vs hv hW => ?_
  obtain ⟨v0, v1, rfl⟩ : ∃ a b, vs = #[a, b] := by
    obtain ⟨x⟩ := vs
    match x, hv.1 with
    | [a, b], _ => exact ⟨a, b, rfl⟩
  have e0 : V W (Lim s') v0 (.str (toB l)) := hv.2 0 (by simp)
  have e1 : V W (Lim s') v1 (.str (toB p)) := hv.2 1 (by simp)
  cases e0; cases e1
  have hl := trim_len l p
  refine ⟨.string (toB (Lib.trimPrefix l p)), fun w' => .str _ (by rw [toB_size]; simp only [big]; omega), ?_⟩
  refine (Any.strings_TrimPrefix Tryd.lays101 (toB l) (toB p) W).mono ?_
  rintro e w' ⟨rfl, rfl⟩
  exact ⟨by rw [toB_list, toB_list]; rfl, Below.refl _ _⟩
theorem cut_len (l p : List UInt8) : (Lib.cut l p).1.length ≤ l.length ∧ (Lib.cut l p).2.1.length ≤ l.length := by
  unfold Lib.cut
  split
  · exact ⟨by rw [List.length_take]; omega, by rw [List.length_drop]; omega⟩
  · exact ⟨Nat.le_refl _, Nat.zero_le _⟩
theorem max_at {s : GH} {w : World} (hW : W s w) : ∃ m, w.cell? ⟨0, 0, none⟩ = some (.int .i64 m) := by
  obtain ⟨⟨cs, e, t, h, m, hm⟩, _⟩ := hW.tab _ (List.mem_cons_of_mem _ (List.mem_cons_self ..))
  exact ⟨m, by simp only [World.cell?, h]; simpa using hm⟩
theorem CutS_c (l p : List UInt8) (hs : l.length ≤ 100000) : Fn Zs 20 [.str (toB l), .str (toB p)] (.tup [.str (toB (Lib.cut l p).1), .str (toB (Lib.cut l p).2.1), .bool (Lib.cut l p).2.2]) := by
  refine fn_below (Z := Zs) ⟨Tryd.f20, Tryd.func20, by kernel_rfl, by kernel_rfl⟩ fun W s' vs hv hW => ?_
  obtain ⟨v0, v1, rfl⟩ : ∃ a b, vs = #[a, b] := by
    obtain ⟨x⟩ := vs
    match x, hv.1 with
    | [a, b], _ => exact ⟨a, b, rfl⟩
  have e0 : V W (Lim s') v0 (.str (toB l)) := hv.2 0 (by simp)
  have e1 : V W (Lim s') v1 (.str (toB p)) := hv.2 1 (by simp)
  cases e0; cases e1
  obtain ⟨h1, h2⟩ := cut_len l p
  obtain ⟨m, hm⟩ := max_at hW
  refine ⟨.tuple #[.string (toB (Lib.cut l p).1), .string (toB (Lib.cut l p).2.1), .bool (Lib.cut l p).2.2], fun w' => .tup _ _ rfl fun i hi => ?_, ?_⟩
  · match i, hi with
    | 0, _ => exact .str _ (by rw [toB_size]; simp only [big]; omega)
    | 1, _ => exact .str _ (by rw [toB_size]; simp only [big]; omega)
    | 2, _ => exact .bool _
  · refine (Any.strings_Cut Tryd.lays145 (toB l) (toB p) m W (by rw [toB_size]; omega) hm).mono ?_
    rintro e w' ⟨rfl, n, rfl⟩
    exact ⟨by rw [toB_list, toB_list]; rfl, ⟨rfl, rfl, rfl, Nat.le_refl _, fun _ _ => rfl⟩⟩
end Go.Proofs.YtapkbkniooleaaaDoor.Vs

/- numbers of YtapkbkniooleaaaDoor -/
namespace Go.Proofs.YtapkbkniooleaaaDoor.Vs
set_option linter.unusedVariables false
set_option linter.unusedSimpArgs false
set_option maxRecDepth 100000
def smL : List (List UInt8) := [[122, 101, 114, 111], [111, 110, 101], [116, 119, 111], [116, 104, 114, 101, 101], [102, 111, 117, 114], [102, 105, 118, 101], [115, 105, 120], [115, 101, 118, 101, 110], [101, 105, 103, 104, 116], [110, 105, 110, 101], [116, 101, 110], [101, 108, 101, 118, 101, 110], [116, 119, 101, 108, 118, 101], [116, 104, 105, 114, 116, 101, 101, 110], [102, 111, 117, 114, 116, 101, 101, 110], [102, 105, 102, 116, 101, 101, 110], [115, 105, 120, 116, 101, 101, 110], [115, 101, 118, 101, 110, 116, 101, 101, 110], [101, 105, 103, 104, 116, 101, 101, 110], [110, 105, 110, 101, 116, 101, 101, 110]]
def tnL : List (List UInt8) := [[116, 119, 101, 110, 116, 121], [116, 104, 105, 114, 116, 121], [102, 111, 114, 116, 121], [102, 105, 102, 116, 121], [115, 105, 120, 116, 121], [115, 101, 118, 101, 110, 116, 121], [101, 105, 103, 104, 116, 121], [110, 105, 110, 101, 116, 121]]
def sm (n : Nat) : List UInt8 := smL.getD n []
def tn (n : Nat) : List UInt8 := tnL.getD n []
def two (n : Nat) : List UInt8 := if n < 20 then sm n else if n % 10 = 0 then tn (n / 10 - 2) else tn (n / 10 - 2) ++ [45] ++ sm (n % 10)
def andL : List UInt8 := [32, 97, 110, 100, 32]
def hundL : List UInt8 := [32, 104, 117, 110, 100, 114, 101, 100]
def thouL : List UInt8 := [32, 116, 104, 111, 117, 115, 97, 110, 100]
def beh (s t : List UInt8) (n : Nat) : List UInt8 := if n = 0 then s else if n < 100 then s ++ andL ++ t else s ++ [32] ++ t
def three (n : Nat) : List UInt8 := if n < 100 then two n else beh (sm (n / 100) ++ hundL) (two (n % 100)) (n % 100)
def six (n : Nat) : List UInt8 := if n < 1000 then three n else beh (three (n / 1000) ++ thouL) (three (n % 1000)) (n % 1000)
theorem dl_app (a b : ByteArray) : (a ++ b).data.toList = a.data.toList ++ b.data.toList := by
  rw [ByteArray.data_append, Array.toList_append]
theorem getD_dl (l : List ByteArray) (n : Nat) : (l.getD n ⟨#[]⟩).data.toList = (l.map fun x => x.data.toList).getD n [] := by
  rw [List.getD_eq_getElem?_getD, List.getD_eq_getElem?_getD, List.getElem?_map]
  cases l[n]? <;> rfl
theorem smallW_l (n : Nat) : (smallW n).data.toList = sm n := by
  unfold smallW sm
  rw [getD_dl, smallL_is]; rfl
theorem tensW_l (n : Nat) : (tensW n).data.toList = tn n := by
  unfold tensW tn
  rw [getD_dl, tensL_is]; rfl
theorem twoW_l (n : Nat) : (twoW n).data.toList = two n := by
  unfold twoW two
  split
  · exact smallW_l n
  · split
    · exact tensW_l _
    · rw [dl_app, dl_app, tensW_l, smallW_l]
theorem behW_l (s t : ByteArray) (n : Nat) : (behW s t n).data.toList = beh s.data.toList t.data.toList n := by
  unfold behW beh
  split
  · rfl
  · split
    · rw [dl_app, dl_app]; rfl
    · rw [dl_app, dl_app]
theorem threeW_l (n : Nat) : (threeW n).data.toList = three n := by
  unfold threeW three
  split
  · exact twoW_l n
  · rw [behW_l, dl_app, smallW_l, twoW_l]; rfl
theorem sixW_l (n : Nat) : (sixW n).data.toList = six n := by
  unfold sixW six
  split
  · exact threeW_l n
  · rw [behW_l, dl_app, threeW_l, threeW_l]; rfl
/-- What is read below a hundred. -/
def bel (l : List UInt8) : Int := match (List.range 100).find? (fun n => decide (two n = l)) with
  | some n => (n : Int)
  | none => -1
def hun (l : List UInt8) : Int :=
  if (Lib.cut l hundL).2.2 = false then bel l
  else if bel (Lib.cut l hundL).1 < 1 ∨ 9 < bel (Lib.cut l hundL).1 then -1
  else if (Lib.cut l hundL).2.1 = [] then 100 * bel (Lib.cut l hundL).1
  else if bel (Lib.trimPrefix (Lib.cut l hundL).2.1 andL) < 1 then -1
  else 100 * bel (Lib.cut l hundL).1 + bel (Lib.trimPrefix (Lib.cut l hundL).2.1 andL)
def restT (l : List UInt8) : List UInt8 := Lib.trimPrefix (Lib.trimPrefix l [32]) [97, 110, 100, 32]
def num (l : List UInt8) : Int :=
  if (Lib.cut l thouL).2.2 = false then hun l
  else if restT (Lib.cut l thouL).2.1 = [] then 1000 * hun (Lib.cut l thouL).1
  else 1000 * hun (Lib.cut l thouL).1 + max 0 (hun (restT (Lib.cut l thouL).2.1))
theorem bel_cases (l : List UInt8) : (∃ n, n < 100 ∧ two n = l ∧ bel l = (n : Nat)) ∨ ((∀ n, n < 100 → two n ≠ l) ∧ bel l = -1) := by
  unfold bel
  cases e : (List.range 100).find? (fun n => decide (two n = l)) with
  | some n =>
    have h1 := List.find?_some e
    have h2 := List.mem_of_find?_eq_some e
    exact .inl ⟨n, List.mem_range.1 h2, of_decide_eq_true h1, rfl⟩
  | none =>
    rw [List.find?_eq_none] at e
    exact .inr ⟨fun n hn h => e n (List.mem_range.2 hn) (decide_eq_true h), rfl⟩
theorem bel_range (l : List UInt8) : -1 ≤ bel l ∧ bel l < 100 := by
  rcases bel_cases l with ⟨n, h1, _, h2⟩ | ⟨_, h⟩ <;> omega
theorem hun_range (l : List UInt8) : -1 ≤ hun l ∧ hun l < 1000 := by
  have h1 := bel_range l
  have h2 := bel_range (Lib.cut l hundL).1
  have h3 := bel_range (Lib.trimPrefix (Lib.cut l hundL).2.1 andL)
  unfold hun
  split
  · omega
  · split
    · omega
    · split
      · omega
      · split <;> omega
theorem bel_two_all : (List.range 100).all (fun n => decide (bel (two n) = (n : Int))) = true := by decide +kernel
theorem bel_two (n : Nat) (h : n < 100) : bel (two n) = (n : Nat) := of_decide_eq_true (List.all_eq_true.1 bel_two_all n (List.mem_range.2 h))
theorem two_hund_all : (List.range 100).all (fun n => decide (Lib.cut (two n) hundL = (two n, [], false))) = true := by decide +kernel
theorem two_hund (n : Nat) (h : n < 100) : Lib.cut (two n) hundL = (two n, [], false) := of_decide_eq_true (List.all_eq_true.1 two_hund_all n (List.mem_range.2 h))
theorem sm_hund_all : (List.range 20).all (fun n => decide (Lib.cut (sm n ++ hundL) hundL = (sm n, [], true))) = true := by decide +kernel
theorem sm_hund (n : Nat) (h : n < 20) : Lib.cut (sm n ++ hundL) hundL = (sm n, [], true) := of_decide_eq_true (List.all_eq_true.1 sm_hund_all n (List.mem_range.2 h))
theorem three_thou_all : (List.range 1000).all (fun n => decide (Lib.cut (three n ++ thouL) thouL = (three n, [], true))) = true := by decide +kernel
theorem three_thou (n : Nat) (h : n < 1000) : Lib.cut (three n ++ thouL) thouL = (three n, [], true) := of_decide_eq_true (List.all_eq_true.1 three_thou_all n (List.mem_range.2 h))
theorem three_and_all : (List.range 1000).all (fun n => decide (([97, 110, 100, 32] : List UInt8).isPrefixOf (three n) = false ∧ three n ≠ [])) = true := by decide +kernel
theorem three_and (n : Nat) (h : n < 1000) : ([97, 110, 100, 32] : List UInt8).isPrefixOf (three n) = false ∧ three n ≠ [] := of_decide_eq_true (List.all_eq_true.1 three_and_all n (List.mem_range.2 h))
theorem index_nil (y : List UInt8) : Lib.index y [] = 0 := by
  cases y <;> rfl
theorem index_app (p y : List UInt8) : ∀ x : List UInt8, 0 ≤ Lib.index x p → Lib.index (x ++ y) p = Lib.index x p
  | [], h => by
    cases p with
    | nil => rw [index_nil, index_nil]
    | cons a t =>
      change (0 : Int) ≤ -1 at h
      exact absurd h (by decide)
  | b :: l, h => by
    have ih := index_app p y l
    have g := Lib.index_ge l p
    rw [List.cons_append]
    by_cases c : p.isPrefixOf (b :: l) = true
    · have c' : p.isPrefixOf (b :: (l ++ y)) = true := by
        rw [List.isPrefixOf_iff_prefix] at c ⊢
        exact c.trans (List.prefix_append (b :: l) y)
      unfold Lib.index
      rw [if_pos c, if_pos c']
    · unfold Lib.index at h
      rw [if_neg c] at h
      by_cases c1 : Lib.index l p = -1
      · rw [c1] at h; exact absurd h (by decide)
      have ih' := ih (by omega)
      have room := Lib.index_room l p (by omega)
      have c' : ¬ p.isPrefixOf (b :: (l ++ y)) = true := fun c' => c (by
        rw [List.isPrefixOf_iff_prefix] at c' ⊢
        exact List.prefix_of_prefix_length_le c' (List.prefix_append (b :: l) y) (by rw [List.length_cons]; omega))
      unfold Lib.index
      rw [if_neg c, if_neg c', ih']
theorem cut_app (x y p h r : List UInt8) (hc : Lib.cut x p = (h, r, true)) : Lib.cut (x ++ y) p = (h, r ++ y, true) := by
  unfold Lib.cut at hc
  by_cases c : 0 ≤ Lib.index x p
  · rw [if_pos c] at hc
    have e1 : x.take (Lib.index x p).toNat = h := congrArg (·.1) hc
    have e2 : x.drop ((Lib.index x p).toNat + p.length) = r := congrArg (·.2.1) hc
    have room := Lib.index_room x p c
    unfold Lib.cut
    rw [index_app p y x c, if_pos c, List.take_append_of_le_length (by omega), List.drop_append_of_le_length (by omega), e1, e2]
  · rw [if_neg c] at hc
    exact absurd (congrArg (·.2.2) hc) (by simp)
theorem cut_none_of (x p h : List UInt8) (hp : p ≠ []) (hc : Lib.cut (x ++ p) p = (x, [], true)) : Lib.cut x p = (x, [], false) := by
  by_cases c : 0 ≤ Lib.index x p
  · have e : Lib.cut x p = (x.take (Lib.index x p).toNat, x.drop ((Lib.index x p).toNat + p.length), true) := by unfold Lib.cut; rw [if_pos c]
    have := cut_app x p p _ _ e
    rw [hc] at this
    have h2 : [] = x.drop ((Lib.index x p).toNat + p.length) ++ p := congrArg (·.2.1) this
    exact absurd (List.append_eq_nil_iff.1 h2.symm).2 hp
  · unfold Lib.cut
    rw [if_neg c]
theorem trim_app (p l : List UInt8) : Lib.trimPrefix (p ++ l) p = l := by
  unfold Lib.trimPrefix Lib.hasPrefix
  rw [if_pos (by rw [List.isPrefixOf_iff_prefix]; exact List.prefix_append p l), List.drop_left]
theorem hun_three (n : Nat) (h : n < 1000) : hun (three n) = (n : Nat) := by
  by_cases c : n < 100
  · unfold hun three
    rw [if_pos c, two_hund n c, if_pos rfl, bel_two n c]
  · have hb := sm_hund (n / 100) (by omega)
    have hd : bel (sm (n / 100)) = ((n / 100 : Nat) : Int) := by
      have := bel_two (n / 100) (by omega)
      unfold two at this
      rwa [if_pos (by omega)] at this
    by_cases c1 : n % 100 = 0
    · have e : three n = sm (n / 100) ++ hundL := by unfold three beh; rw [if_neg c, if_pos c1]
      unfold hun
      rw [e, hb, if_neg (by simp), hd, if_neg (by omega), if_pos rfl]; omega
    · have e : three n = sm (n / 100) ++ hundL ++ (andL ++ two (n % 100)) := by
        unfold three beh; rw [if_neg c, if_neg c1, if_pos (by omega), List.append_assoc]
      have hk := bel_two (n % 100) (by omega)
      unfold hun
      rw [e, cut_app _ (andL ++ two (n % 100)) _ _ _ hb, if_neg (by simp), hd, if_neg (by omega), if_neg (by rw [List.nil_append]; simp [andL]), List.nil_append, trim_app, hk, if_neg (by omega)]
      omega
theorem num_six (n : Nat) (h : n < 1000000) : num (six n) = (n : Nat) := by
  by_cases c : n < 1000
  · have e : six n = three n := by unfold six; rw [if_pos c]
    unfold num
    rw [e, cut_none_of _ _ [] (by decide) (three_thou n c), if_pos rfl, hun_three n c]
  · have hb := three_thou (n / 1000) (by omega)
    have hd := hun_three (n / 1000) (by omega)
    by_cases c1 : n % 1000 = 0
    · have e : six n = three (n / 1000) ++ thouL := by unfold six beh; rw [if_neg c, if_pos c1]
      unfold num
      rw [e, hb, if_neg (by simp), if_pos (by rfl), hd]; omega
    · have hk := hun_three (n % 1000) (by omega)
      have ha := three_and (n % 1000) (by omega)
      obtain ⟨t, e, ht⟩ : ∃ t, six n = three (n / 1000) ++ thouL ++ t ∧ restT t = three (n % 1000) := by
        by_cases c2 : n % 1000 < 100
        · refine ⟨andL ++ three (n % 1000), by unfold six beh; rw [if_neg c, if_neg c1, if_pos c2, List.append_assoc], ?_⟩
          unfold restT
          rw [show andL ++ three (n % 1000) = [32] ++ ([97, 110, 100, 32] ++ three (n % 1000)) from rfl, trim_app, trim_app]
        · refine ⟨[32] ++ three (n % 1000), by unfold six beh; rw [if_neg c, if_neg c1, if_neg c2, List.append_assoc], ?_⟩
          unfold restT
          rw [trim_app]
          unfold Lib.trimPrefix Lib.hasPrefix
          rw [ha.1]; rfl
      unfold num
      rw [e, cut_app _ t _ _ _ hb, if_neg (by simp), List.nil_append, ht, if_neg ha.2, hd, hk]
      omega
end Go.Proofs.YtapkbkniooleaaaDoor.Vs

/- numbers of YtapkbkniooleaaaDoor -/
namespace Go.Proofs.YtapkbkniooleaaaDoor.Vs
set_option linter.unusedVariables false
set_option linter.unusedSimpArgs false
set_option maxRecDepth 100000
theorem ba_decS (a b : ByteArray) : (a == b) = decide (a = b) := by
  have e : (a == b) = (a.data == b.data) := rfl
  rw [e, Bool.eq_iff_iff, beq_iff_eq, decide_eq_true_eq]
  exact ⟨fun h => ByteArray.ext h, fun h => by rw [h]⟩
theorem ba_eq_l {a : ByteArray} {l : List UInt8} : (a = toB l) ↔ a.data.toList = l := by
  constructor
  · rintro rfl; exact toB_list l
  · rintro rfl; exact ba_ext' (by simp [toB])
theorem dash_all : (List.range 100).all (fun n => decide (if 20 < n ∧ 0 < n % 10 then Lib.cut (two n) [45] = (tn (n / 10 - 2), sm (n % 10), true) ∧ 45 ∉ tn (n / 10 - 2) else Lib.cut (two n) [45] = (two n, [], false))) = true := by decide +kernel
theorem dash (n : Nat) (h : n < 100) : if 20 < n ∧ 0 < n % 10 then Lib.cut (two n) [45] = (tn (n / 10 - 2), sm (n % 10), true) ∧ 45 ∉ tn (n / 10 - 2) else Lib.cut (two n) [45] = (two n, [], false) := of_decide_eq_true (List.all_eq_true.1 dash_all n (List.mem_range.2 h))
theorem cut_back (l p : List UInt8) (h : (Lib.cut l p).2.2 = true) : (Lib.cut l p).1 ++ p ++ (Lib.cut l p).2.1 = l := by
  unfold Lib.cut at h ⊢
  by_cases c : 0 ≤ Lib.index l p
  · rw [if_pos c]
    rcases Lib.index_spec l p with ⟨h1, _⟩ | ⟨i, h1, h2, h3, _⟩
    · rw [h1] at c; exact absurd c (by decide)
    · rw [h1]
      have h4 : p <+: l.drop i := List.isPrefixOf_iff_prefix.1 h3
      obtain ⟨t, ht⟩ := h4
      show l.take i ++ p ++ l.drop (i + p.length) = l
      have h5 : l.drop (i + p.length) = t := by
        rw [← List.drop_drop, ← ht, List.drop_left]
      rw [h5, List.append_assoc, ht, List.take_append_drop]
  · rw [if_neg c] at h
    exact absurd h (by simp)
theorem cond_dash (l : List UInt8) (n : Nat) (h : n < 100) :
    if (Lib.cut l [45]).2.2 = false then (twoW n == toB l) = decide (two n = l)
    else if 20 < n ∧ 0 < n % 10 then ((tensW (n / 10 - 2) == toB (Lib.cut l [45]).1) && (smallW (n % 10) == toB (Lib.cut l [45]).2.1)) = decide (two n = l)
    else two n ≠ l := by
  have hb : ∀ (a : ByteArray) (x : List UInt8), (a == toB x) = decide (a.data.toList = x) := fun a x => by
    rw [ba_decS]
    exact decide_eq_decide.2 ba_eq_l
  have hd := dash n h
  split
  · rw [hb, twoW_l]
  · rename_i hc
    have hc' : (Lib.cut l [45]).2.2 = true := by simpa using hc
    split
    · rename_i h2
      rw [if_pos h2] at hd
      rw [hb, hb, tensW_l, smallW_l, Bool.eq_iff_iff, Bool.and_eq_true, decide_eq_true_eq, decide_eq_true_eq, decide_eq_true_eq]
      constructor
      · rintro ⟨h3, h4⟩
        have h5 := cut_back l [45] hc'
        have h6 : two n = tn (n / 10 - 2) ++ [45] ++ sm (n % 10) := by unfold two; rw [if_neg (by omega), if_neg (by omega)]
        rw [h6, h3, h4, h5]
      · intro h3
        rw [← h3, hd.1]
        exact ⟨rfl, rfl⟩
    · rename_i h2
      rw [if_neg h2] at hd
      intro h3
      rw [← h3, hd] at hc'
      exact absurd hc' (by simp)
theorem bel_at {l : List UInt8} {n : Nat} (h : n < 100) (he : two n = l) : bel l = (n : Nat) := by rw [← he]; exact bel_two n h
theorem bel_no {l : List UInt8} (h : ∀ n, n < 100 → two n ≠ l) : bel l = -1 := by
  rcases bel_cases l with ⟨n, h1, h2, _⟩ | ⟨_, h3⟩
  · exact absurd h2 (h n h1)
  · exact h3
theorem stepP {p : Nat → Prop} {k : Nat} (h : ∀ j, j < k → p j) (hk : p k) : ∀ j, j < k + 1 → p j := fun j hj => by
  rcases Nat.lt_succ_iff_lt_or_eq.1 hj with h1 | rfl
  · exact h j h1
  · exact hk
set_option maxHeartbeats 1000000 in
theorem below_c (l : List UInt8) (hl : l.length ≤ 100000) : Fn Zs 49 [.str (toB l)] (.int .i64 (bel l)) := by
  have hC := CutS_c l [45] hl
  change Fn Zs 20 [.str (toB l), .str ⟨#[45]⟩] _ at hC
  have hD := cond_dash l
  obtain ⟨hl1, hl2⟩ := cut_len l [45]
  generalize toB (Lib.cut l [45]).1 = c1 at *
  generalize toB (Lib.cut l [45]).2.1 = c2 at *
  refine fn_of (Z := Zs) ok49 fun σ hcl hbl => ?_
  simp -dsimp only [L49, ↓preB, postB, genB, ↓reduceIte, Nat.reduceEqDiff, Int.reduceToNat, Int.reduceLE, Int.reduceLT, Nat.reduceAdd, Nat.reduceLeDiff, intBin, strBin, unD, extractD, lit1, lit2, lit3, keptD, boxR, D.one, D.pub1, D.cells, splice, cutOwn]
  refine Fn.use hC ?_
  cases h3 : (Lib.cut l [45]).2.2
  · rw [h3] at hD
    simp -dsimp only [h3, gate, decide_true, decide_false, Bool.not_true, Bool.not_false, bTT, bTF, bFT, bFF, ↓preB, postB, genB, ↓reduceIte, Nat.reduceEqDiff, Int.reduceToNat, Int.reduceLE, Int.reduceLT, Nat.reduceAdd, Nat.reduceLeDiff, intBin, strBin, unD, extractD, lit1, lit2, lit3, keptD, boxR, D.one, D.pub1, D.cells, splice, cutOwn]
    refine pwp_loopG (fun k env s => k ≤ 100 ∧ (∀ j, j < k → two j ≠ l) ∧ s = σ ∧ env 13 = .int .i64 (k:Nat) ∧ env 0 = .str (toB l) ∧ env 5 = .bool false) (fun k => 100 - k) 0 ?_ ?_
    · simp [upd_apply, envOf]
    · rintro k env s ⟨hk, hp, rfl, e13, e0, e5⟩
      by_cases hlt : k < 100
      · have hk1 : (k : Int) < 100 := by omega
        have hc := hD k hlt
        rw [if_pos rfl] at hc
        by_cases hx : two k = l
        · rw [decide_eq_true hx] at hc
          simp -dsimp only [e13, e0, e5, hk1, hc, gate, decide_true, decide_false, Bool.not_true, Bool.not_false, bTT, bTF, bFT, bFF, ↓preB, postB, genB, ↓reduceIte, Nat.reduceEqDiff, Int.reduceToNat, Int.reduceLE, Int.reduceLT, Nat.reduceAdd, Nat.reduceLeDiff, intBin, strBin, unD, extractD, lit1, lit2, lit3, keptD, boxR, D.one, D.pub1, D.cells, splice, cutOwn]
          refine Fn.use (spelt_2 k hlt) ?_
          simp -dsimp only [e13, e0, e5, hk1, hc, gate, decide_true, decide_false, Bool.not_true, Bool.not_false, bTT, bTF, bFT, bFF, ↓preB, postB, genB, ↓reduceIte, Nat.reduceEqDiff, Int.reduceToNat, Int.reduceLE, Int.reduceLT, Nat.reduceAdd, Nat.reduceLeDiff, intBin, strBin, unD, extractD, lit1, lit2, lit3, keptD, boxR, D.one, D.pub1, D.cells, splice, cutOwn]
          exact Ret.is (by rw [bel_at hlt hx])
        · rw [decide_eq_false hx] at hc
          simp -dsimp only [e13, e0, e5, hk1, hc, gate, decide_true, decide_false, Bool.not_true, Bool.not_false, bTT, bTF, bFT, bFF, ↓preB, postB, genB, ↓reduceIte, Nat.reduceEqDiff, Int.reduceToNat, Int.reduceLE, Int.reduceLT, Nat.reduceAdd, Nat.reduceLeDiff, intBin, strBin, unD, extractD, lit1, lit2, lit3, keptD, boxR, D.one, D.pub1, D.cells, splice, cutOwn]
          refine Fn.use (spelt_2 k hlt) ?_
          simp -dsimp only [e13, e0, e5, hk1, hc, gate, decide_true, decide_false, Bool.not_true, Bool.not_false, bTT, bTF, bFT, bFF, ↓preB, postB, genB, ↓reduceIte, Nat.reduceEqDiff, Int.reduceToNat, Int.reduceLE, Int.reduceLT, Nat.reduceAdd, Nat.reduceLeDiff, intBin, strBin, unD, extractD, lit1, lit2, lit3, keptD, boxR, D.one, D.pub1, D.cells, splice, cutOwn]
          exact ⟨k + 1, ⟨by omega, stepP hp hx, wrap64_succ (by simp only [big]; omega)⟩, by omega⟩
      · have hk1 : ¬ (k : Int) < 100 := by omega
        simp -dsimp only [e13, e0, e5, hk1, gate, decide_true, decide_false, Bool.not_true, Bool.not_false, bTT, bTF, bFT, bFF, ↓preB, postB, genB, ↓reduceIte, Nat.reduceEqDiff, Int.reduceToNat, Int.reduceLE, Int.reduceLT, Nat.reduceAdd, Nat.reduceLeDiff, intBin, strBin, unD, extractD, lit1, lit2, lit3, keptD, boxR, D.one, D.pub1, D.cells, splice, cutOwn]
        exact Ret.is (by rw [bel_no fun n hn => hp n (by omega)])
  · rw [h3] at hD
    simp -dsimp only [h3, gate, decide_true, decide_false, Bool.not_true, Bool.not_false, bTT, bTF, bFT, bFF, ↓preB, postB, genB, ↓reduceIte, Nat.reduceEqDiff, Int.reduceToNat, Int.reduceLE, Int.reduceLT, Nat.reduceAdd, Nat.reduceLeDiff, intBin, strBin, unD, extractD, lit1, lit2, lit3, keptD, boxR, D.one, D.pub1, D.cells, splice, cutOwn]
    refine pwp_loopG (fun k env s => k ≤ 100 ∧ (∀ j, j < k → two j ≠ l) ∧ s = σ ∧ env 13 = .int .i64 (k:Nat) ∧ env 0 = .str (toB l) ∧ env 5 = .bool true ∧ env 3 = .str c1 ∧ env 4 = .str c2) (fun k => 100 - k) 0 ?_ ?_
    · simp [upd_apply, envOf]
    · rintro k env s ⟨hk, hp, rfl, e13, e0, e5, e3, e4⟩
      by_cases hlt : k < 100
      · have hk1 : (k : Int) < 100 := by omega
        have hc := hD k hlt
        rw [if_neg (by decide)] at hc
        have q1 : (k : Int).tdiv 10 = ((k / 10 : Nat) : Int) := quo_nat k 10
        have r1 : (k : Int).tmod 10 = ((k % 10 : Nat) : Int) := rem_nat k 10
        have wq : IntKind.i64.wrap ((k / 10 : Nat) : Int) = ((k / 10 : Nat) : Int) := wrap64_in (by omega) (by omega)
        by_cases a1 : 20 < k
        · have k2 : (20 : Int) < (k : Int) := by omega
          by_cases a2 : 0 < k % 10
          · have k3 : (0 : Int) < ((k % 10 : Nat) : Int) := by omega
            rw [if_pos ⟨a1, a2⟩] at hc
            cases b1 : (tensW (k / 10 - 2) == c1)
            · rw [b1] at hc
              have hx : two k ≠ l := fun h => by rw [decide_eq_true h] at hc; exact absurd hc (by simp)
              simp -dsimp only [e13, e0, e5, e3, e4, hk1, k2, k3, r1, q1, wq, nz10, if_false, b1, gate, decide_true, decide_false, Bool.not_true, Bool.not_false, bTT, bTF, bFT, bFF, ↓preB, postB, genB, ↓reduceIte, Nat.reduceEqDiff, Int.reduceToNat, Int.reduceLE, Int.reduceLT, Nat.reduceAdd, Nat.reduceLeDiff, intBin, strBin, unD, extractD, lit1, lit2, lit3, keptD, boxR, D.one, D.pub1, D.cells, splice, cutOwn]
              refine Fn.use (tens_c (k / 10) (by omega) (by omega)) ?_
              simp -dsimp only [e13, e0, e5, e3, e4, hk1, k2, k3, r1, q1, wq, nz10, if_false, b1, gate, decide_true, decide_false, Bool.not_true, Bool.not_false, bTT, bTF, bFT, bFF, ↓preB, postB, genB, ↓reduceIte, Nat.reduceEqDiff, Int.reduceToNat, Int.reduceLE, Int.reduceLT, Nat.reduceAdd, Nat.reduceLeDiff, intBin, strBin, unD, extractD, lit1, lit2, lit3, keptD, boxR, D.one, D.pub1, D.cells, splice, cutOwn]
              exact ⟨k + 1, ⟨by omega, stepP hp hx, wrap64_succ (by simp only [big]; omega)⟩, by omega⟩
            · rw [b1, Bool.true_and] at hc
              by_cases hx : two k = l
              · rw [decide_eq_true hx] at hc
                simp -dsimp only [e13, e0, e5, e3, e4, hk1, k2, k3, r1, q1, wq, nz10, if_false, b1, hc, gate, decide_true, decide_false, Bool.not_true, Bool.not_false, bTT, bTF, bFT, bFF, ↓preB, postB, genB, ↓reduceIte, Nat.reduceEqDiff, Int.reduceToNat, Int.reduceLE, Int.reduceLT, Nat.reduceAdd, Nat.reduceLeDiff, intBin, strBin, unD, extractD, lit1, lit2, lit3, keptD, boxR, D.one, D.pub1, D.cells, splice, cutOwn]
                refine Fn.use (tens_c (k / 10) (by omega) (by omega)) ?_
                simp -dsimp only [e13, e0, e5, e3, e4, hk1, k2, k3, r1, q1, wq, nz10, if_false, b1, hc, gate, decide_true, decide_false, Bool.not_true, Bool.not_false, bTT, bTF, bFT, bFF, ↓preB, postB, genB, ↓reduceIte, Nat.reduceEqDiff, Int.reduceToNat, Int.reduceLE, Int.reduceLT, Nat.reduceAdd, Nat.reduceLeDiff, intBin, strBin, unD, extractD, lit1, lit2, lit3, keptD, boxR, D.one, D.pub1, D.cells, splice, cutOwn]
                refine Fn.use (small_c (k % 10) (by omega)) ?_
                simp -dsimp only [e13, e0, e5, e3, e4, hk1, k2, k3, r1, q1, wq, nz10, if_false, b1, hc, gate, decide_true, decide_false, Bool.not_true, Bool.not_false, bTT, bTF, bFT, bFF, ↓preB, postB, genB, ↓reduceIte, Nat.reduceEqDiff, Int.reduceToNat, Int.reduceLE, Int.reduceLT, Nat.reduceAdd, Nat.reduceLeDiff, intBin, strBin, unD, extractD, lit1, lit2, lit3, keptD, boxR, D.one, D.pub1, D.cells, splice, cutOwn]
                exact Ret.is (by rw [bel_at hlt hx])
              · rw [decide_eq_false hx] at hc
                simp -dsimp only [e13, e0, e5, e3, e4, hk1, k2, k3, r1, q1, wq, nz10, if_false, b1, hc, gate, decide_true, decide_false, Bool.not_true, Bool.not_false, bTT, bTF, bFT, bFF, ↓preB, postB, genB, ↓reduceIte, Nat.reduceEqDiff, Int.reduceToNat, Int.reduceLE, Int.reduceLT, Nat.reduceAdd, Nat.reduceLeDiff, intBin, strBin, unD, extractD, lit1, lit2, lit3, keptD, boxR, D.one, D.pub1, D.cells, splice, cutOwn]
                refine Fn.use (tens_c (k / 10) (by omega) (by omega)) ?_
                simp -dsimp only [e13, e0, e5, e3, e4, hk1, k2, k3, r1, q1, wq, nz10, if_false, b1, hc, gate, decide_true, decide_false, Bool.not_true, Bool.not_false, bTT, bTF, bFT, bFF, ↓preB, postB, genB, ↓reduceIte, Nat.reduceEqDiff, Int.reduceToNat, Int.reduceLE, Int.reduceLT, Nat.reduceAdd, Nat.reduceLeDiff, intBin, strBin, unD, extractD, lit1, lit2, lit3, keptD, boxR, D.one, D.pub1, D.cells, splice, cutOwn]
                refine Fn.use (small_c (k % 10) (by omega)) ?_
                simp -dsimp only [e13, e0, e5, e3, e4, hk1, k2, k3, r1, q1, wq, nz10, if_false, b1, hc, gate, decide_true, decide_false, Bool.not_true, Bool.not_false, bTT, bTF, bFT, bFF, ↓preB, postB, genB, ↓reduceIte, Nat.reduceEqDiff, Int.reduceToNat, Int.reduceLE, Int.reduceLT, Nat.reduceAdd, Nat.reduceLeDiff, intBin, strBin, unD, extractD, lit1, lit2, lit3, keptD, boxR, D.one, D.pub1, D.cells, splice, cutOwn]
                exact ⟨k + 1, ⟨by omega, stepP hp hx, wrap64_succ (by simp only [big]; omega)⟩, by omega⟩
          · have k3 : ¬ (0 : Int) < ((k % 10 : Nat) : Int) := by omega
            rw [if_neg fun h => a2 h.2] at hc
            simp -dsimp only [e13, e0, e5, e3, e4, hk1, k2, k3, r1, q1, wq, nz10, if_false, gate, decide_true, decide_false, Bool.not_true, Bool.not_false, bTT, bTF, bFT, bFF, ↓preB, postB, genB, ↓reduceIte, Nat.reduceEqDiff, Int.reduceToNat, Int.reduceLE, Int.reduceLT, Nat.reduceAdd, Nat.reduceLeDiff, intBin, strBin, unD, extractD, lit1, lit2, lit3, keptD, boxR, D.one, D.pub1, D.cells, splice, cutOwn]
            exact ⟨k + 1, ⟨by omega, stepP hp hc, wrap64_succ (by simp only [big]; omega)⟩, by omega⟩
        · have k2 : ¬ (20 : Int) < (k : Int) := by omega
          rw [if_neg fun h => a1 h.1] at hc
          simp -dsimp only [e13, e0, e5, e3, e4, hk1, k2, r1, q1, wq, nz10, if_false, gate, decide_true, decide_false, Bool.not_true, Bool.not_false, bTT, bTF, bFT, bFF, ↓preB, postB, genB, ↓reduceIte, Nat.reduceEqDiff, Int.reduceToNat, Int.reduceLE, Int.reduceLT, Nat.reduceAdd, Nat.reduceLeDiff, intBin, strBin, unD, extractD, lit1, lit2, lit3, keptD, boxR, D.one, D.pub1, D.cells, splice, cutOwn]
          exact ⟨k + 1, ⟨by omega, stepP hp hc, wrap64_succ (by simp only [big]; omega)⟩, by omega⟩
      · have hk1 : ¬ (k : Int) < 100 := by omega
        simp -dsimp only [e13, e0, e5, hk1, gate, decide_true, decide_false, Bool.not_true, Bool.not_false, bTT, bTF, bFT, bFF, ↓preB, postB, genB, ↓reduceIte, Nat.reduceEqDiff, Int.reduceToNat, Int.reduceLE, Int.reduceLT, Nat.reduceAdd, Nat.reduceLeDiff, intBin, strBin, unD, extractD, lit1, lit2, lit3, keptD, boxR, D.one, D.pub1, D.cells, splice, cutOwn]
        exact Ret.is (by rw [bel_no fun n hn => hp n (by omega)])
theorem hundreds_c (l : List UInt8) (hl : l.length ≤ 100000) : Fn Zs 31 [.str (toB l)] (.int .i64 (hun l)) := by
  have hC := CutS_c l hundL hl
  change Fn Zs 20 [.str (toB l), .str ⟨#[32, 104, 117, 110, 100, 114, 101, 100]⟩] _ at hC
  obtain ⟨hl1, hl2⟩ := cut_len l hundL
  have hun_d : hun l = if (Lib.cut l hundL).2.2 = false then bel l
    else if bel (Lib.cut l hundL).1 < 1 ∨ 9 < bel (Lib.cut l hundL).1 then -1
    else if (Lib.cut l hundL).2.1 = [] then 100 * bel (Lib.cut l hundL).1
    else if bel (Lib.trimPrefix (Lib.cut l hundL).2.1 andL) < 1 then -1
    else 100 * bel (Lib.cut l hundL).1 + bel (Lib.trimPrefix (Lib.cut l hundL).2.1 andL) := rfl
  have hT := TrimPrefix_c (Lib.cut l hundL).2.1 andL (by omega)
  change Fn Zs 32 [.str (toB (Lib.cut l hundL).2.1), .str ⟨#[32, 97, 110, 100, 32]⟩] _ at hT
  have hlt := trim_len (Lib.cut l hundL).2.1 andL
  generalize (Lib.cut l hundL).1 = c1 at *
  generalize (Lib.cut l hundL).2.1 = c2 at *
  generalize Lib.trimPrefix c2 andL = c4 at *
  have hb1 := below_c c1 (by omega)
  have hb4 := below_c c4 (by omega)
  have hr1 := bel_range c1
  have hr4 := bel_range c4
  have hb0 := below_c l hl
  have hr0 := bel_range l
  generalize bel c1 = n1 at *
  generalize bel c4 = n4 at *
  generalize bel l = n0 at *
  generalize hun l = r at *
  refine fn_of (Z := Zs) ok31 fun σ hcl hbl => ?_
  simp -dsimp only [L31, ↓preB, postB, genB, ↓reduceIte, Nat.reduceEqDiff, Int.reduceToNat, Int.reduceLE, Int.reduceLT, Nat.reduceAdd, Nat.reduceLeDiff, intBin, strBin, unD, extractD, lit1, lit2, lit3, keptD, boxR, D.one, D.pub1, D.cells, splice, cutOwn]
  refine Fn.use hC ?_
  cases h3 : (Lib.cut l hundL).2.2
  · rw [h3, if_pos rfl] at hun_d
    simp -dsimp only [h3, gate, decide_true, decide_false, Bool.not_true, Bool.not_false, bTT, bTF, bFT, bFF, ↓preB, postB, genB, ↓reduceIte, Nat.reduceEqDiff, Int.reduceToNat, Int.reduceLE, Int.reduceLT, Nat.reduceAdd, Nat.reduceLeDiff, intBin, strBin, unD, extractD, lit1, lit2, lit3, keptD, boxR, D.one, D.pub1, D.cells, splice, cutOwn]
    refine Fn.use hb0 ?_
    simp -dsimp only [gate, decide_true, decide_false, Bool.not_true, Bool.not_false, bTT, bTF, bFT, bFF, ↓preB, postB, genB, ↓reduceIte, Nat.reduceEqDiff, Int.reduceToNat, Int.reduceLE, Int.reduceLT, Nat.reduceAdd, Nat.reduceLeDiff, intBin, strBin, unD, extractD, lit1, lit2, lit3, keptD, boxR, D.one, D.pub1, D.cells, splice, cutOwn]
    exact Ret.is (by rw [hun_d])
  rw [h3, if_neg (by decide)] at hun_d
  simp -dsimp only [h3, gate, decide_true, decide_false, Bool.not_true, Bool.not_false, bTT, bTF, bFT, bFF, ↓preB, postB, genB, ↓reduceIte, Nat.reduceEqDiff, Int.reduceToNat, Int.reduceLE, Int.reduceLT, Nat.reduceAdd, Nat.reduceLeDiff, intBin, strBin, unD, extractD, lit1, lit2, lit3, keptD, boxR, D.one, D.pub1, D.cells, splice, cutOwn]
  refine Fn.use hb1 ?_
  by_cases a1 : n1 < 1
  · rw [if_pos (.inl a1)] at hun_d
    simp -dsimp only [a1, gate, decide_true, decide_false, Bool.not_true, Bool.not_false, bTT, bTF, bFT, bFF, ↓preB, postB, genB, ↓reduceIte, Nat.reduceEqDiff, Int.reduceToNat, Int.reduceLE, Int.reduceLT, Nat.reduceAdd, Nat.reduceLeDiff, intBin, strBin, unD, extractD, lit1, lit2, lit3, keptD, boxR, D.one, D.pub1, D.cells, splice, cutOwn]
    exact Ret.is (by rw [hun_d])
  by_cases a2 : 9 < n1
  · rw [if_pos (.inr a2)] at hun_d
    simp -dsimp only [a1, a2, gate, decide_true, decide_false, Bool.not_true, Bool.not_false, bTT, bTF, bFT, bFF, ↓preB, postB, genB, ↓reduceIte, Nat.reduceEqDiff, Int.reduceToNat, Int.reduceLE, Int.reduceLT, Nat.reduceAdd, Nat.reduceLeDiff, intBin, strBin, unD, extractD, lit1, lit2, lit3, keptD, boxR, D.one, D.pub1, D.cells, splice, cutOwn]
    exact Ret.is (by rw [hun_d])
  rw [if_neg (by omega)] at hun_d
  have w1 : IntKind.i64.wrap (100 * n1) = 100 * n1 := wrap64_in (by omega) (by omega)
  by_cases a3 : c2 = []
  · have e3 : (toB c2 == (⟨#[]⟩ : ByteArray)) = true := by rw [a3]; rfl
    rw [if_pos a3] at hun_d
    simp -dsimp only [a1, a2, e3, w1, gate, decide_true, decide_false, Bool.not_true, Bool.not_false, bTT, bTF, bFT, bFF, ↓preB, postB, genB, ↓reduceIte, Nat.reduceEqDiff, Int.reduceToNat, Int.reduceLE, Int.reduceLT, Nat.reduceAdd, Nat.reduceLeDiff, intBin, strBin, unD, extractD, lit1, lit2, lit3, keptD, boxR, D.one, D.pub1, D.cells, splice, cutOwn]
    exact Ret.is (by rw [hun_d])
  have e3 : (toB c2 == (⟨#[]⟩ : ByteArray)) = false := by
    rw [ba_decS, decide_eq_false_iff_not]
    exact fun h => a3 (by rw [← toB_list c2, h])
  rw [if_neg a3] at hun_d
  simp -dsimp only [a1, a2, e3, w1, gate, decide_true, decide_false, Bool.not_true, Bool.not_false, bTT, bTF, bFT, bFF, ↓preB, postB, genB, ↓reduceIte, Nat.reduceEqDiff, Int.reduceToNat, Int.reduceLE, Int.reduceLT, Nat.reduceAdd, Nat.reduceLeDiff, intBin, strBin, unD, extractD, lit1, lit2, lit3, keptD, boxR, D.one, D.pub1, D.cells, splice, cutOwn]
  refine Fn.use hT ?_
  simp -dsimp only [a1, a2, e3, w1, gate, decide_true, decide_false, Bool.not_true, Bool.not_false, bTT, bTF, bFT, bFF, ↓preB, postB, genB, ↓reduceIte, Nat.reduceEqDiff, Int.reduceToNat, Int.reduceLE, Int.reduceLT, Nat.reduceAdd, Nat.reduceLeDiff, intBin, strBin, unD, extractD, lit1, lit2, lit3, keptD, boxR, D.one, D.pub1, D.cells, splice, cutOwn]
  refine Fn.use hb4 ?_
  by_cases a4 : n4 < 1
  · rw [if_pos a4] at hun_d
    simp -dsimp only [a1, a2, a4, e3, w1, gate, decide_true, decide_false, Bool.not_true, Bool.not_false, bTT, bTF, bFT, bFF, ↓preB, postB, genB, ↓reduceIte, Nat.reduceEqDiff, Int.reduceToNat, Int.reduceLE, Int.reduceLT, Nat.reduceAdd, Nat.reduceLeDiff, intBin, strBin, unD, extractD, lit1, lit2, lit3, keptD, boxR, D.one, D.pub1, D.cells, splice, cutOwn]
    exact Ret.is (by rw [hun_d])
  rw [if_neg a4] at hun_d
  have w2 : IntKind.i64.wrap (100 * n1 + n4) = 100 * n1 + n4 := wrap64_in (by omega) (by omega)
  simp -dsimp only [a1, a2, a4, e3, w1, w2, gate, decide_true, decide_false, Bool.not_true, Bool.not_false, bTT, bTF, bFT, bFF, ↓preB, postB, genB, ↓reduceIte, Nat.reduceEqDiff, Int.reduceToNat, Int.reduceLE, Int.reduceLT, Nat.reduceAdd, Nat.reduceLeDiff, intBin, strBin, unD, extractD, lit1, lit2, lit3, keptD, boxR, D.one, D.pub1, D.cells, splice, cutOwn]
  exact Ret.is (by rw [hun_d])
/-- What Unspell answers. -/
def uns (l : List UInt8) : Int × Bool := if num l < 0 ∨ 999999 < num l ∨ six (num l).toNat ≠ l then (0, false) else (num l, true)
set_option maxHeartbeats 1000000 in
theorem Unspell_c (l : List UInt8) (hl : l.length ≤ 100000) : Fn Zs 16 [.str (toB l)] (.tup [.int .i64 (uns l).1, .bool (uns l).2]) := by
  have hC := CutS_c l thouL hl
  change Fn Zs 20 [.str (toB l), .str ⟨#[32, 116, 104, 111, 117, 115, 97, 110, 100]⟩] _ at hC
  obtain ⟨hl1, hl2⟩ := cut_len l thouL
  have num_d : num l = if (Lib.cut l thouL).2.2 = false then hun l
    else if restT (Lib.cut l thouL).2.1 = [] then 1000 * hun (Lib.cut l thouL).1
    else 1000 * hun (Lib.cut l thouL).1 + max 0 (hun (restT (Lib.cut l thouL).2.1)) := rfl
  have hl3 := trim_len (Lib.cut l thouL).2.1 [32]
  have hT1 := TrimPrefix_c (Lib.cut l thouL).2.1 [32] (by omega)
  change Fn Zs 32 [.str (toB (Lib.cut l thouL).2.1), .str ⟨#[32]⟩] _ at hT1
  have hl4 := trim_len (Lib.trimPrefix (Lib.cut l thouL).2.1 [32]) [97, 110, 100, 32]
  have hT2 := TrimPrefix_c (Lib.trimPrefix (Lib.cut l thouL).2.1 [32]) [97, 110, 100, 32] (by omega)
  change Fn Zs 32 [.str (toB (Lib.trimPrefix (Lib.cut l thouL).2.1 [32])), .str ⟨#[97, 110, 100, 32]⟩] _ at hT2
  unfold restT at num_d
  generalize (Lib.cut l thouL).1 = c1 at *
  generalize (Lib.cut l thouL).2.1 = c2 at *
  generalize Lib.trimPrefix c2 [32] = c3 at *
  generalize Lib.trimPrefix c3 [97, 110, 100, 32] = c4 at *
  have hb1 := hundreds_c c1 (by omega)
  have hb4 := hundreds_c c4 (by omega)
  have hb0 := hundreds_c l hl
  have hr1 := hun_range c1
  have hr4 := hun_range c4
  have hr0 := hun_range l
  have hS := spelt_6 (num l).toNat
  have sx := sixW_l (num l).toNat
  have uns_d : uns l = if num l < 0 ∨ 999999 < num l ∨ six (num l).toNat ≠ l then (0, false) else (num l, true) := rfl
  generalize six (num l).toNat = x at *
  generalize sixW (num l).toNat = X at *
  generalize hun c1 = n1 at *
  generalize hun c4 = n4 at *
  generalize hun l = n0 at *
  generalize num l = r at *
  generalize uns l = u at *
  have hX : (X == toB l) = decide (x = l) := by rw [ba_decS, ← sx]; exact decide_eq_decide.2 ba_eq_l
  refine fn_of (Z := Zs) ok16 fun σ hcl hbl => ?_
  simp -dsimp only [L16, ↓preB, postB, genB, ↓reduceIte, Nat.reduceEqDiff, Int.reduceToNat, Int.reduceLE, Int.reduceLT, Nat.reduceAdd, Nat.reduceLeDiff, intBin, strBin, unD, extractD, lit1, lit2, lit3, keptD, boxR, D.one, D.pub1, D.cells, splice, cutOwn]
  refine Fn.use hb0 ?_
  simp -dsimp only [gate, decide_true, decide_false, Bool.not_true, Bool.not_false, bTT, bTF, bFT, bFF, ↓preB, postB, genB, ↓reduceIte, Nat.reduceEqDiff, Int.reduceToNat, Int.reduceLE, Int.reduceLT, Nat.reduceAdd, Nat.reduceLeDiff, intBin, strBin, unD, extractD, lit1, lit2, lit3, keptD, boxR, D.one, D.pub1, D.cells, splice, cutOwn]
  refine Fn.use hC ?_
  cases h3 : (Lib.cut l thouL).2.2
  · rw [h3, if_pos rfl] at num_d
    subst num_d
    by_cases t1 : r < 0
    · rw [if_pos (.inl t1)] at uns_d
      simp -dsimp only [h3, t1, gate, decide_true, decide_false, Bool.not_true, Bool.not_false, bTT, bTF, bFT, bFF, ↓preB, postB, genB, ↓reduceIte, Nat.reduceEqDiff, Int.reduceToNat, Int.reduceLE, Int.reduceLT, Nat.reduceAdd, Nat.reduceLeDiff, intBin, strBin, unD, extractD, lit1, lit2, lit3, keptD, boxR, D.one, D.pub1, D.cells, splice, cutOwn]
      exact Ret.is (by rw [uns_d])
    by_cases t2 : 999999 < r
    · rw [if_pos (.inr (.inl t2))] at uns_d
      simp -dsimp only [h3, t1, t2, gate, decide_true, decide_false, Bool.not_true, Bool.not_false, bTT, bTF, bFT, bFF, ↓preB, postB, genB, ↓reduceIte, Nat.reduceEqDiff, Int.reduceToNat, Int.reduceLE, Int.reduceLT, Nat.reduceAdd, Nat.reduceLeDiff, intBin, strBin, unD, extractD, lit1, lit2, lit3, keptD, boxR, D.one, D.pub1, D.cells, splice, cutOwn]
      exact Ret.is (by rw [uns_d])
    have rn : ((r.toNat : Nat) : Int) = r := by omega
    have hS' := hS (by omega)
    rw [rn] at hS'
    simp -dsimp only [h3, t1, t2, gate, decide_true, decide_false, Bool.not_true, Bool.not_false, bTT, bTF, bFT, bFF, ↓preB, postB, genB, ↓reduceIte, Nat.reduceEqDiff, Int.reduceToNat, Int.reduceLE, Int.reduceLT, Nat.reduceAdd, Nat.reduceLeDiff, intBin, strBin, unD, extractD, lit1, lit2, lit3, keptD, boxR, D.one, D.pub1, D.cells, splice, cutOwn]
    refine Fn.use hS' ?_
    by_cases t3 : x = l
    · rw [if_neg (fun h => h.elim t1 fun h => h.elim t2 fun h => h t3)] at uns_d
      rw [decide_eq_true t3] at hX
      simp -dsimp only [h3, t1, t2, hX, gate, decide_true, decide_false, Bool.not_true, Bool.not_false, bTT, bTF, bFT, bFF, ↓preB, postB, genB, ↓reduceIte, Nat.reduceEqDiff, Int.reduceToNat, Int.reduceLE, Int.reduceLT, Nat.reduceAdd, Nat.reduceLeDiff, intBin, strBin, unD, extractD, lit1, lit2, lit3, keptD, boxR, D.one, D.pub1, D.cells, splice, cutOwn]
      exact Ret.is (by rw [uns_d])
    · rw [if_pos (.inr (.inr t3))] at uns_d
      rw [decide_eq_false t3] at hX
      simp -dsimp only [h3, t1, t2, hX, gate, decide_true, decide_false, Bool.not_true, Bool.not_false, bTT, bTF, bFT, bFF, ↓preB, postB, genB, ↓reduceIte, Nat.reduceEqDiff, Int.reduceToNat, Int.reduceLE, Int.reduceLT, Nat.reduceAdd, Nat.reduceLeDiff, intBin, strBin, unD, extractD, lit1, lit2, lit3, keptD, boxR, D.one, D.pub1, D.cells, splice, cutOwn]
      exact Ret.is (by rw [uns_d])
  rw [h3, if_neg (by decide)] at num_d
  simp -dsimp only [h3, gate, decide_true, decide_false, Bool.not_true, Bool.not_false, bTT, bTF, bFT, bFF, ↓preB, postB, genB, ↓reduceIte, Nat.reduceEqDiff, Int.reduceToNat, Int.reduceLE, Int.reduceLT, Nat.reduceAdd, Nat.reduceLeDiff, intBin, strBin, unD, extractD, lit1, lit2, lit3, keptD, boxR, D.one, D.pub1, D.cells, splice, cutOwn]
  refine Fn.use hb1 ?_
  simp -dsimp only [h3, gate, decide_true, decide_false, Bool.not_true, Bool.not_false, bTT, bTF, bFT, bFF, ↓preB, postB, genB, ↓reduceIte, Nat.reduceEqDiff, Int.reduceToNat, Int.reduceLE, Int.reduceLT, Nat.reduceAdd, Nat.reduceLeDiff, intBin, strBin, unD, extractD, lit1, lit2, lit3, keptD, boxR, D.one, D.pub1, D.cells, splice, cutOwn]
  refine Fn.use hT1 ?_
  simp -dsimp only [h3, gate, decide_true, decide_false, Bool.not_true, Bool.not_false, bTT, bTF, bFT, bFF, ↓preB, postB, genB, ↓reduceIte, Nat.reduceEqDiff, Int.reduceToNat, Int.reduceLE, Int.reduceLT, Nat.reduceAdd, Nat.reduceLeDiff, intBin, strBin, unD, extractD, lit1, lit2, lit3, keptD, boxR, D.one, D.pub1, D.cells, splice, cutOwn]
  refine Fn.use hT2 ?_
  by_cases a3 : c4 = []
  · have e3 : (toB c4 == (⟨#[]⟩ : ByteArray)) = true := by rw [a3]; rfl
    rw [if_pos a3] at num_d
    have w1 : IntKind.i64.wrap (1000 * n1) = r := by rw [num_d]; exact wrap64_in (by omega) (by omega)
    by_cases t1 : r < 0
    · rw [if_pos (.inl t1)] at uns_d
      simp -dsimp only [h3, e3, w1, t1, gate, decide_true, decide_false, Bool.not_true, Bool.not_false, bTT, bTF, bFT, bFF, ↓preB, postB, genB, ↓reduceIte, Nat.reduceEqDiff, Int.reduceToNat, Int.reduceLE, Int.reduceLT, Nat.reduceAdd, Nat.reduceLeDiff, intBin, strBin, unD, extractD, lit1, lit2, lit3, keptD, boxR, D.one, D.pub1, D.cells, splice, cutOwn]
      exact Ret.is (by rw [uns_d])
    by_cases t2 : 999999 < r
    · rw [if_pos (.inr (.inl t2))] at uns_d
      simp -dsimp only [h3, e3, w1, t1, t2, gate, decide_true, decide_false, Bool.not_true, Bool.not_false, bTT, bTF, bFT, bFF, ↓preB, postB, genB, ↓reduceIte, Nat.reduceEqDiff, Int.reduceToNat, Int.reduceLE, Int.reduceLT, Nat.reduceAdd, Nat.reduceLeDiff, intBin, strBin, unD, extractD, lit1, lit2, lit3, keptD, boxR, D.one, D.pub1, D.cells, splice, cutOwn]
      exact Ret.is (by rw [uns_d])
    have rn : ((r.toNat : Nat) : Int) = r := by omega
    have hS' := hS (by omega)
    rw [rn] at hS'
    simp -dsimp only [h3, e3, w1, t1, t2, gate, decide_true, decide_false, Bool.not_true, Bool.not_false, bTT, bTF, bFT, bFF, ↓preB, postB, genB, ↓reduceIte, Nat.reduceEqDiff, Int.reduceToNat, Int.reduceLE, Int.reduceLT, Nat.reduceAdd, Nat.reduceLeDiff, intBin, strBin, unD, extractD, lit1, lit2, lit3, keptD, boxR, D.one, D.pub1, D.cells, splice, cutOwn]
    refine Fn.use hS' ?_
    by_cases t3 : x = l
    · rw [if_neg (fun h => h.elim t1 fun h => h.elim t2 fun h => h t3)] at uns_d
      rw [decide_eq_true t3] at hX
      simp -dsimp only [h3, e3, w1, t1, t2, hX, gate, decide_true, decide_false, Bool.not_true, Bool.not_false, bTT, bTF, bFT, bFF, ↓preB, postB, genB, ↓reduceIte, Nat.reduceEqDiff, Int.reduceToNat, Int.reduceLE, Int.reduceLT, Nat.reduceAdd, Nat.reduceLeDiff, intBin, strBin, unD, extractD, lit1, lit2, lit3, keptD, boxR, D.one, D.pub1, D.cells, splice, cutOwn]
      exact Ret.is (by rw [uns_d])
    · rw [if_pos (.inr (.inr t3))] at uns_d
      rw [decide_eq_false t3] at hX
      simp -dsimp only [h3, e3, w1, t1, t2, hX, gate, decide_true, decide_false, Bool.not_true, Bool.not_false, bTT, bTF, bFT, bFF, ↓preB, postB, genB, ↓reduceIte, Nat.reduceEqDiff, Int.reduceToNat, Int.reduceLE, Int.reduceLT, Nat.reduceAdd, Nat.reduceLeDiff, intBin, strBin, unD, extractD, lit1, lit2, lit3, keptD, boxR, D.one, D.pub1, D.cells, splice, cutOwn]
      exact Ret.is (by rw [uns_d])
  have e3 : (toB c4 == (⟨#[]⟩ : ByteArray)) = false := by
    rw [ba_decS, decide_eq_false_iff_not]
    exact fun h => a3 (by rw [← toB_list c4, h])
  rw [if_neg a3] at num_d
  have w1 : IntKind.i64.wrap (1000 * n1) = 1000 * n1 := wrap64_in (by omega) (by omega)
  have w2 : IntKind.i64.wrap (1000 * n1 + if 0 < n4 then n4 else 0) = r := by
    have hm : (max 0 n4 : Int) = if 0 < n4 then n4 else 0 := by split <;> omega
    rw [num_d, ← hm]; exact wrap64_in (by omega) (by omega)
  simp -dsimp only [h3, e3, w1, gate, decide_true, decide_false, Bool.not_true, Bool.not_false, bTT, bTF, bFT, bFF, ↓preB, postB, genB, ↓reduceIte, Nat.reduceEqDiff, Int.reduceToNat, Int.reduceLE, Int.reduceLT, Nat.reduceAdd, Nat.reduceLeDiff, intBin, strBin, unD, extractD, lit1, lit2, lit3, keptD, boxR, D.one, D.pub1, D.cells, splice, cutOwn]
  refine Fn.use hb4 ?_
  by_cases t1 : r < 0
  · rw [if_pos (.inl t1)] at uns_d
    simp -dsimp only [h3, e3, w1, w2, t1, gate, decide_true, decide_false, Bool.not_true, Bool.not_false, bTT, bTF, bFT, bFF, ↓preB, postB, genB, ↓reduceIte, Nat.reduceEqDiff, Int.reduceToNat, Int.reduceLE, Int.reduceLT, Nat.reduceAdd, Nat.reduceLeDiff, intBin, strBin, unD, extractD, lit1, lit2, lit3, keptD, boxR, D.one, D.pub1, D.cells, splice, cutOwn]
    exact Ret.is (by rw [uns_d])
  by_cases t2 : 999999 < r
  · rw [if_pos (.inr (.inl t2))] at uns_d
    simp -dsimp only [h3, e3, w1, w2, t1, t2, gate, decide_true, decide_false, Bool.not_true, Bool.not_false, bTT, bTF, bFT, bFF, ↓preB, postB, genB, ↓reduceIte, Nat.reduceEqDiff, Int.reduceToNat, Int.reduceLE, Int.reduceLT, Nat.reduceAdd, Nat.reduceLeDiff, intBin, strBin, unD, extractD, lit1, lit2, lit3, keptD, boxR, D.one, D.pub1, D.cells, splice, cutOwn]
    exact Ret.is (by rw [uns_d])
  have rn : ((r.toNat : Nat) : Int) = r := by omega
  have hS' := hS (by omega)
  rw [rn] at hS'
  simp -dsimp only [h3, e3, w1, w2, t1, t2, gate, decide_true, decide_false, Bool.not_true, Bool.not_false, bTT, bTF, bFT, bFF, ↓preB, postB, genB, ↓reduceIte, Nat.reduceEqDiff, Int.reduceToNat, Int.reduceLE, Int.reduceLT, Nat.reduceAdd, Nat.reduceLeDiff, intBin, strBin, unD, extractD, lit1, lit2, lit3, keptD, boxR, D.one, D.pub1, D.cells, splice, cutOwn]
  refine Fn.use hS' ?_
  by_cases t3 : x = l
  · rw [if_neg (fun h => h.elim t1 fun h => h.elim t2 fun h => h t3)] at uns_d
    rw [decide_eq_true t3] at hX
    simp -dsimp only [h3, e3, w1, w2, t1, t2, hX, gate, decide_true, decide_false, Bool.not_true, Bool.not_false, bTT, bTF, bFT, bFF, ↓preB, postB, genB, ↓reduceIte, Nat.reduceEqDiff, Int.reduceToNat, Int.reduceLE, Int.reduceLT, Nat.reduceAdd, Nat.reduceLeDiff, intBin, strBin, unD, extractD, lit1, lit2, lit3, keptD, boxR, D.one, D.pub1, D.cells, splice, cutOwn]
    exact Ret.is (by rw [uns_d])
  · rw [if_pos (.inr (.inr t3))] at uns_d
    rw [decide_eq_false t3] at hX
    simp -dsimp only [h3, e3, w1, w2, t1, t2, hX, gate, decide_true, decide_false, Bool.not_true, Bool.not_false, bTT, bTF, bFT, bFF, ↓preB, postB, genB, ↓reduceIte, Nat.reduceEqDiff, Int.reduceToNat, Int.reduceLE, Int.reduceLT, Nat.reduceAdd, Nat.reduceLeDiff, intBin, strBin, unD, extractD, lit1, lit2, lit3, keptD, boxR, D.one, D.pub1, D.cells, splice, cutOwn]
    exact Ret.is (by rw [uns_d])
end Go.Proofs.YtapkbkniooleaaaDoor.Vs
