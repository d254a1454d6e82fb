import Derived.Sort.Grow
import Derived.WalkKit
import Derived.Deep.LoopGhost
import Derived.Test.YtldlcejlfaogbaaGreatDoorFnC
import Derived.Shelf.SlSortCmp.InsertionK
import Derived.Shelf.SlSortFuncK.HeapSortK
import Derived.Test.YtldlcejlfaogbaaGreatDoorOrdW
import Derived.Test.YtldlcejlfaogbaaGreatDoorBridge
import Derived.Shelf.SlSortCmp.WholeK
/- numbers of YtldlcejlfaogbaaDoor -/
namespace Go.Proofs.YtldlcejlfaogbaaGreatDoor.Vs
open Go.RowKit Go.Sort
set_option linter.unusedVariables false
set_option maxRecDepth 100000
theorem isNaN_raw (s : ByteArray) (w : World) : Calls Tryz.prog 160 #[.string s] w fun e w' => e = .returned (.bool false) ∧ w' = w := by
  have h : (s.toList == s.toList) = true := by simp
  go_enter Tryz.func160, Tryz.ntmps160
  go_wp2
  go_ret
  exact ⟨rfl, rfl⟩
def cmpR (a b : ByteArray) : Int := if Op.bytesLess a.toList b.toList = true then -1 else if (a.toList == b.toList) = true then 0 else 1
theorem cmp_raw (a b : ByteArray) (w : World) : Calls Tryz.prog 113 #[.string a, .string b] w fun e w' => e = .returned (.int .i64 (cmpR a b)) ∧ w' = w := by
  have hn := fun s W => isNaN_raw s W
  unfold cmpR
  cases h1 : Op.bytesLess a.toList b.toList
  · cases h2 : (a.toList == b.toList)
    · go_enter Tryz.func113, Tryz.ntmps113
      go_wp2_with (go_at_call 160; refine (hn _ _).mono ?_; rintro e w' ⟨rfl, rfl⟩)
      go_ret
      exact ⟨rfl, rfl⟩
    · go_enter Tryz.func113, Tryz.ntmps113
      go_wp2_with (go_at_call 160; refine (hn _ _).mono ?_; rintro e w' ⟨rfl, rfl⟩)
      go_ret
      exact ⟨rfl, rfl⟩
  · go_enter Tryz.func113, Tryz.ntmps113
    go_wp2_with (go_at_call 160; refine (hn _ _).mono ?_; rintro e w' ⟨rfl, rfl⟩)
    go_ret
    exact ⟨rfl, rfl⟩
def ordR : Wd → Wd → Int
  | [], [] => 0
  | [], _ :: _ => -1
  | _ :: _, [] => 1
  | x :: a, y :: b => if cmpR x y ≠ 0 then cmpR x y else ordR a b
set_option maxHeartbeats 2000000 in
theorem compare_raw (a b : Wd) (ba oa bb ob c d : Nat) (w : World) (hna : a.length ≤ 100000) (hnb : b.length ≤ 100000) (h0 : a ≠ []) (h1 : b ≠ [])
    (ha : ∀ i, i < a.length → w.cell? ⟨ba, oa + i, none⟩ = some (.string (a.getD i ByteArray.empty))) (hb : ∀ i, i < b.length → w.cell? ⟨bb, ob + i, none⟩ = some (.string (b.getD i ByteArray.empty))) :
    Calls Tryz.prog 61 #[.slice (some ⟨ba, oa, none⟩) a.length c, .slice (some ⟨bb, ob, none⟩) b.length d] w fun e w' => e = .returned (.int .i64 (ordR a b)) ∧ w' = w := by
  have hc := fun x y W => cmp_raw x y W
  generalize hn : a.length = n at *
  generalize hm : b.length = m at *
  generalize hr : ordR a b = r
  go_enter Tryz.func61, Tryz.ntmps61
  go_wp2
  go_loopg [11] n (fun g s11 wr => ∃ k : Nat, k ≤ n ∧ k ≤ m ∧ n - k ≤ g ∧ s11 = .int .i64 k ∧ wr = w ∧ ordR (a.drop k) (b.drop k) = r)
  case atStart => exact ⟨0, Nat.zero_le _, Nat.zero_le _, by omega, rfl, rfl, hr⟩
  case round =>
    obtain ⟨k, hk, hkm, hg, rfl, rfl, hp⟩ := hrel
    by_cases hlt : k < n
    · have g1 := ha k hlt
      generalize hxk : a.getD k ByteArray.empty = x at g1
      by_cases hlm : k < m
      · have g2 := hb k hlm
        generalize hyk : b.getD k ByteArray.empty = y at g2
        clear ha hb
        have hst : ordR (a.drop k) (b.drop k) = if cmpR x y ≠ 0 then cmpR x y else ordR (a.drop (k + 1)) (b.drop (k + 1)) := by
          have e1 : a.drop k = x :: a.drop (k + 1) := by
            rw [List.drop_eq_getElem_cons (by omega), ← hxk, List.getD_eq_getElem?_getD, List.getElem?_eq_getElem (by omega)]; rfl
          have e2 : b.drop k = y :: b.drop (k + 1) := by
            rw [List.drop_eq_getElem_cons (by omega), ← hyk, List.getD_eq_getElem?_getD, List.getElem?_eq_getElem (by omega)]; rfl
          rw [e1, e2, ordR]
        rw [hp] at hst
        cases hz : (cmpR x y != 0)
        · have hz' : cmpR x y = 0 := by simpa using hz
          rw [if_neg (by simpa using hz')] at hst
          go_wp2_with (go_at_call 113; refine (hc _ _ _).mono ?_; rintro e w' ⟨rfl, rfl⟩)
          go_roundg (n - (k + 1))
          case measure => omega
          case rel => exact ⟨k + 1, by omega, by omega, by omega, by go_num, rfl, hst.symm⟩
        · have hz' : cmpR x y ≠ 0 := by simpa using hz
          rw [if_pos hz'] at hst
          go_wp2_with (go_at_call 113; refine (hc _ _ _).mono ?_; rintro e w' ⟨rfl, rfl⟩)
          go_ret
          exact ⟨by rw [hst]; rfl, rfl⟩
      · have hkm' : k = m := by omega
        subst hkm'
        have hst : r = 1 := by
          rw [← hp, List.drop_of_length_le (l := b) (by omega), List.drop_eq_getElem_cons (by omega)]
          rfl
        clear ha hb
        go_wp2
        go_ret
        exact ⟨by rw [hst]; rfl, rfl⟩
    · have hkn : k = n := by omega
      subst hkn
      clear ha hb
      rw [List.drop_of_length_le (l := a) (by omega)] at hp
      by_cases hkm2 : k < m
      · have hst : r = -1 := by
          rw [← hp, List.drop_eq_getElem_cons (l := b) (by omega)]
          rfl
        go_wp2
        go_ret
        exact ⟨by rw [hst]; rfl, rfl⟩
      · have hst : r = 0 := by
          rw [← hp, List.drop_of_length_le (l := b) (by omega)]
          rfl
        go_wp2
        go_ret
        exact ⟨by rw [hst]; rfl, rfl⟩
set_option maxHeartbeats 1000000 in
theorem compare_nilL (b : Wd) (A B : Option Addr) (c d : Nat) (w : World) (hnb : b.length ≤ 100000) :
    Calls Tryz.prog 61 #[.slice A 0 c, .slice B b.length d] w fun e w' => e = .returned (.int .i64 (ordR [] b)) ∧ w' = w := by
  generalize hm : b.length = m at *
  by_cases h : m = 0
  · have hb : b = [] := List.eq_nil_of_length_eq_zero (by omega)
    have hr : ordR [] b = 0 := by rw [hb]; rfl
    rw [hr]
    subst h
    go_enter Tryz.func61, Tryz.ntmps61
    go_wp2
    go_loopg [11] 0 (fun _ s11 wr => s11 = .int .i64 0 ∧ wr = w)
    case atStart => exact ⟨rfl, rfl⟩
    case round =>
      obtain ⟨rfl, rfl⟩ := hrel
      go_wp2
      go_ret
      exact ⟨rfl, rfl⟩
  · have hr : ordR [] b = -1 := by
      cases b with
      | nil => exact absurd hm.symm h
      | cons y b => rfl
    rw [hr]
    have h' : (0 : Int) < (m : Int) := by omega
    go_enter Tryz.func61, Tryz.ntmps61
    go_wp2
    go_loopg [11] 0 (fun _ s11 wr => s11 = .int .i64 0 ∧ wr = w)
    case atStart => exact ⟨rfl, rfl⟩
    case round =>
      obtain ⟨rfl, rfl⟩ := hrel
      go_wp2
      go_ret
      exact ⟨rfl, rfl⟩
set_option maxHeartbeats 1000000 in
theorem compare_nilR (a : Wd) (ba oa c d : Nat) (B : Option Addr) (w : World) (hna : a.length ≤ 100000) (h0 : a ≠ [])
    (ha : ∀ i, i < a.length → w.cell? ⟨ba, oa + i, none⟩ = some (.string (a.getD i ByteArray.empty))) :
    Calls Tryz.prog 61 #[.slice (some ⟨ba, oa, none⟩) a.length c, .slice B 0 d] w fun e w' => e = .returned (.int .i64 (ordR a [])) ∧ w' = w := by
  have hr : ordR a [] = 1 := by
    cases a with
    | nil => exact absurd rfl h0
    | cons x a => rfl
  have hp : 0 < a.length := List.length_pos_iff.2 h0
  rw [hr]
  generalize hn : a.length = n at *
  have g1 := ha 0 hp
  rw [Nat.add_zero] at g1
  generalize a.getD 0 ByteArray.empty = x at g1
  clear ha hn
  go_enter Tryz.func61, Tryz.ntmps61
  go_wp2
  go_loopg [11] 0 (fun _ s11 wr => s11 = .int .i64 0 ∧ wr = w)
  case atStart => exact ⟨rfl, rfl⟩
  case round =>
    obtain ⟨rfl, rfl⟩ := hrel
    go_wp2
    go_ret
    exact ⟨rfl, rfl⟩
/-- A value that reads as a word. -/
def RdW (W : World) (v : Value) (x : Wd) : Prop := ∃ A c, v = .slice A x.length c ∧ x.length ≤ 100000 ∧ (x ≠ [] → ∃ b o, A = some ⟨b, o, none⟩ ∧ ∀ i, i < x.length → W.cell? ⟨b, o + i, none⟩ = some (.string (x.getD i ByteArray.empty)))
theorem RdW.alloc {W : World} {v : Value} {x : Wd} (h : RdW W v x) (o : Obj) : RdW (W.alloc o) v x := by
  obtain ⟨A, c, h1, h2, h3⟩ := h
  refine ⟨A, c, h1, h2, fun hx => ?_⟩
  obtain ⟨b, o', h4, h5⟩ := h3 hx
  exact ⟨b, o', h4, fun i hi => by
    rw [World.cell?_alloc_lt _ _ _ (World.block_lt_of_cell? _ _ (h5 i hi))]; exact h5 i hi⟩
theorem compare_all {W : World} {u v : Value} {x y : Wd} (hu : RdW W u x) (hv : RdW W v y) : Calls Tryz.prog 61 #[u, v] W fun e w' => e = .returned (.int .i64 (ordR x y)) ∧ w' = W := by
  obtain ⟨A, c, rfl, h2, h3⟩ := hu
  obtain ⟨B, d, rfl, k2, k3⟩ := hv
  by_cases hx : x = []
  · subst hx
    exact compare_nilL y A B c d W k2
  · obtain ⟨b, o, rfl, h5⟩ := h3 hx
    by_cases hy : y = []
    · subst hy
      exact compare_nilR x b o c d B W h2 hx h5
    · obtain ⟨b', o', rfl, k5⟩ := k3 hy
      exact compare_raw x y b o b' o' c d W h2 k2 hx hy h5 k5
set_option maxHeartbeats 1000000 in
/-- The closure that Reverse sorts by. -/
theorem closure47 {W : World} {f1 t1 f2 t2 : Value} {x y : Wd} (hu : RdW W f1 x) (hv : RdW W f2 y) (o1 : f1.oneCell' = true) (o2 : t1.oneCell' = true) (o3 : f2.oneCell' = true) (o4 : t2.oneCell' = true) :
    Calls Tryz.prog 60 #[.agg #[f1, t1], .agg #[f2, t2]] W fun e w' => e = .returned (.int .i64 (ordR x y)) ∧ ∃ q os', w' = grow (W.drewN q) os' := by
  have hcon := fun o1 o2 => compare_all ((hu.alloc o1).alloc o2) ((hv.alloc o1).alloc o2)
  obtain ⟨A, c, rfl, _, _⟩ := hu
  obtain ⟨B, d, rfl, _, _⟩ := hv
  generalize ordR x y = r at hcon ⊢
  go_enter Tryz.func60, Tryz.ntmps60
  go_wp2_with (go_at_call 61; refine (hcon _ _).mono ?_; rintro e w' ⟨rfl, rfl⟩)
  go_ret
  exact ⟨rfl, 0, _, by rw [alloc_eq_grow, alloc_eq_grow, grow_grow]; rfl⟩
theorem cmpR_eq (x y : ByteArray) : cmpR x y = cmpS x y := by
  have h1 : Op.bytesLess x.toList y.toList = strLt x y := by rw [ByteArray.toList_eq, ByteArray.toList_eq]; rfl
  have h2 : (x.toList == y.toList) = (x == y) := by
    rw [ByteArray.toList_eq, ByteArray.toList_eq]
    cases h : (x == y) with
    | true => rw [ba_eq h]; simp
    | false =>
      rw [beq_eq_false_iff_ne]
      intro he
      have : x = y := by cases x; cases y; congr 1; exact Array.toList_inj.1 he
      rw [this, ba_refl] at h
      cases h
  unfold cmpR cmpS
  rw [h1, h2]
theorem ordR_eq : ∀ a b : Wd, ordR a b = ordW a b
  | [], [] => rfl
  | [], _ :: _ => rfl
  | _ :: _, [] => rfl
  | x :: a, y :: b => by
    rw [ordR, ordW_cons, cmpR_eq, ordR_eq a b]
    by_cases h : cmpS x y = 0
    · rw [if_neg (by simpa using h), if_pos h]
    · rw [if_pos h, if_neg h]
end Go.Proofs.YtldlcejlfaogbaaGreatDoor.Vs

/- numbers of YtldlcejlfaogbaaDoor -/
namespace Go.Proofs.YtldlcejlfaogbaaGreatDoor.Vs
open Go.RowKit Go.Sort
set_option linter.unusedVariables false
set_option linter.unusedSimpArgs false
set_option maxRecDepth 100000
theorem RdW.of_V {w w' : World} {s : GH} {v : Value} {x : Wd} (h : V w (Lim s) v (encSS x)) (hx : x.length ≤ 100000) (hw : ∀ (a : Addr) u, w.cell? a = some u → (Lim s).ok a.block a.off → w'.cell? a = some u) : RdW w' v x := by
  unfold encSS at h
  cases h with
  | sl o n c A cs us hn hb ho g1 hc hv =>
  refine ⟨A, c, rfl, hx, fun hne => ?_⟩
  have hp : 0 < x.length := List.length_pos_iff.2 hne
  obtain ⟨a, rfl, hc0, _⟩ := hc 0 (by simpa using hp)
  have ha0 : a.add 0 = a := by cases a; simp [Addr.add]
  rw [ha0] at hc0
  have hsa : a.spot = none := cell_spot hc0
  refine ⟨a.block, a.off, by cases a; simp only at hsa; subst hsa; rfl, fun i hi => ?_⟩
  obtain ⟨a', ha', hci, hok⟩ := hc i (by simpa using hi)
  cases ha'
  have e : a.add i = ⟨a.block, a.off + i, none⟩ := by cases a; simp only at hsa; subst hsa; exact addr_add _ _ _
  have hu : us i = .string (x.getD i ByteArray.empty) := by
    have := hv i (by simpa using hi)
    simp only [List.getElem_map] at this
    rw [List.getD_eq_getElem?_getD, List.getElem?_eq_getElem hi]
    generalize us i = u at this
    cases this
    rfl
  rw [e] at hci hok
  have := hw _ _ hci hok
  rw [hu] at this
  exact this
/-- The two values of row i. -/
def rowVals (arr : Array Value) (base : Nat) {n : Nat} (i : Fin n) : List Value := [arr.getD (base + i.val * 2) undef, arr.getD (base + i.val * 2 + 1) undef]
theorem rowsD_two {t : List Sh} {i : Nat} (h : i < t.length) (rest : List D) : ∃ h1 h2, (rowsD t ++ rest)[i * 2]'h1 = encSS t[i].From ∧ (rowsD t ++ rest)[i * 2 + 1]'h2 = encSS t[i].To := by
  have hl : i * 2 + 1 < (rowsD t).length := by rw [rowsD_len]; omega
  have hd := rowsD_at h
  refine ⟨by rw [List.length_append]; omega, by rw [List.length_append]; omega, ?_, ?_⟩
  · rw [List.getElem_append_left (by omega)]
    have : (rowsD t)[i * 2]? = some (encSS t[i].From) := by
      have := congrArg (·[0]?) hd
      simpa using this
    rw [List.getElem?_eq_getElem (by omega)] at this
    exact Option.some.inj this
  · rw [List.getElem_append_left (by omega)]
    have : (rowsD t)[i * 2 + 1]? = some (encSS t[i].To) := by
      have := congrArg (·[1]?) hd
      simpa using this
    rw [List.getElem?_eq_getElem (by omega)] at this
    exact Option.some.inj this
theorem mapBlock_other (w : World) (blk : Nat) (f : Array Value → Array Value) (b : Nat) (h : b ≠ blk) : (mapBlock w blk f).heap[b]? = w.heap[b]? := by
  simp only [mapBlock, Array.getElem?_modify]
  rw [if_neg (fun e => h e.symm)]
theorem mapBlock_same (w : World) (blk : Nat) (f : Array Value → Array Value) {arr : Array Value} {e : TypeId} {fr : Nat × Nat} (h : w.heap[blk]? = some (.cells arr e fr)) : (mapBlock w blk f).heap[blk]? = some (.cells (f arr) e fr) := by
  simp [mapBlock, Array.getElem?_modify, h, onCells]
theorem putCells_size (base : Nat) (F arr : Array Value) : (putCells id base F arr).size = arr.size := by simp [putCells]
theorem putCells_get (base : Nat) (F arr : Array Value) (j : Nat) (h : j < arr.size) : (putCells id base F arr).getD j undef = if base ≤ j ∧ j < base + F.size then F[j - base]! else arr.getD j undef := by
  rw [Array.getD_eq_getD_getElem?, Array.getD_eq_getD_getElem?]
  simp only [putCells, Array.getElem?_mapIdx, Array.getElem?_eq_getElem h, Option.map_some, Option.getD_some, id]
theorem flat_get (arr : Array Value) (base m : Nat) (d' : Array (Fin (m + 1))) (i : Nat) (h : i < d'.size * 2) : (flatK (rowVals arr base) 2 d')[i]! = arr.getD (base + (d'[i / 2]!).val * 2 + i % 2) undef := by
  rw [get_flatK _ _ _ _ h]
  generalize d'[i / 2]! = j
  rcases Nat.mod_two_eq_zero_or_one i with e | e <;> rw [e] <;> rfl
theorem sorted_world {w : World} {s : GH} {q : Nat} {e : TypeId} {t : List Sh} {rest : List D} {m : Nat} (hW : W s w) (hq : s.σ.get q = some (.cells e (rowsD t ++ rest))) (hm : t.length = m + 1)
    {arr : Array Value} (ha : w.heap[(s.ρ q).blk]? = some (.cells arr e (0, 0))) (hcap : (rowsD t ++ rest).length ≤ (s.ρ q).cap) (hbc : (s.ρ q).base + (s.ρ q).cap ≤ arr.size) (hone : ∀ i, i < (rowsD t ++ rest).length → (arr.getD ((s.ρ q).base + i) undef).oneCell' = true)
    (hvs : ∀ i (h : i < (rowsD t ++ rest).length), V w (Lim s) (arr.getD ((s.ρ q).base + i) undef) (rowsD t ++ rest)[i]) (d' : Array (Fin (m + 1))) (hd : d'.size = m + 1) (k : Nat) (os : Array Obj) :
    W (s.put q (.cells e (rowsD (d'.toList.map fun i => t[i.val]'(by omega)) ++ rest))) (sortWorldK (rowVals arr (s.ρ q).base) 2 w (s.ρ q).blk (s.ρ q).base k d' os) ∧
    Ext w s (sortWorldK (rowVals arr (s.ρ q).base) 2 w (s.ρ q).blk (s.ρ q).base k d' os) (s.put q (.cells e (rowsD (d'.toList.map fun i => t[i.val]'(by omega)) ++ rest))) := by
  generalize ht' : (d'.toList.map fun i : Fin (m + 1) => t[i.val]'(by omega)) = t'
  have hl' : t'.length = m + 1 := by rw [← ht']; simp [hd]
  let F := flatK (rowVals arr (s.ρ q).base) 2 d'
  have hFs : F.size = (m + 1) * 2 := by simp [F, hd]
  have hlen : (rowsD t).length = (m + 1) * 2 := by rw [rowsD_len, hm]
  have hlen' : (rowsD t').length = (m + 1) * 2 := by rw [rowsD_len, hl']
  have hcs : (rowsD t ++ rest).length = (m + 1) * 2 + rest.length := by rw [List.length_append, hlen]
  have hcs' : (rowsD t' ++ rest).length = (m + 1) * 2 + rest.length := by rw [List.length_append, hlen']
  let w1 := putRowK (rowVals arr (s.ρ q).base) 2 w (s.ρ q).blk (s.ρ q).base d'
  have hw1 : w1 = mapBlock w (s.ρ q).blk (putCells id (s.ρ q).base F) := rfl
  have hoth : ∀ b, b ≠ (s.ρ q).blk → w1.heap[b]? = w.heap[b]? := fun b hb => by rw [hw1]; exact mapBlock_other _ _ _ _ hb
  have hE1 : Ext w s w1 (s.put q (.cells e (rowsD t' ++ rest))) := put_heap hW hq (by rw [hw1]; simp [mapBlock]) rfl rfl rfl hoth (by simp)
  have hobj : ObjOK w1 (s.put q (.cells e (rowsD t' ++ rest))) q (.cells e (rowsD t' ++ rest)) := by
    refine ⟨putCells id (s.ρ q).base F arr, ?_, by show _ ≤ (s.ρ q).cap; omega, by rw [putCells_size]; exact hbc, fun i hi => ?_, fun i hi => ?_⟩
    · show w1.heap[(s.ρ q).blk]? = _
      rw [hw1]; exact mapBlock_same _ _ _ ha
    · show ((putCells id (s.ρ q).base F arr).getD ((s.ρ q).base + i) undef).oneCell' = true
      rw [putCells_get _ _ _ _ (by omega)]
      by_cases hlt : i < (m + 1) * 2
      · rw [if_pos ⟨by omega, by omega⟩, show (s.ρ q).base + i - (s.ρ q).base = i by omega]
        show ((flatK (rowVals arr (s.ρ q).base) 2 d')[i]!).oneCell' = true
        rw [flat_get _ _ _ _ _ (by omega)]
        have := (d'[i / 2]!).isLt
        have h9 := hone ((d'[i / 2]!).val * 2 + i % 2) (by omega)
        rwa [← Nat.add_assoc] at h9
      · rw [if_neg (by omega)]
        exact hone i (by omega)
    · show V w1 _ ((putCells id (s.ρ q).base F arr).getD ((s.ρ q).base + i) undef) _
      rw [putCells_get _ _ _ _ (by omega)]
      by_cases hlt : i < (m + 1) * 2
      · rw [if_pos ⟨by omega, by omega⟩, show (s.ρ q).base + i - (s.ρ q).base = i by omega]
        show V w1 _ ((flatK (rowVals arr (s.ρ q).base) 2 d')[i]!) _
        rw [flat_get _ _ _ _ _ (by omega)]
        have hi2 : i / 2 < d'.size := by omega
        have hdg : d'[i / 2]! = d'[i / 2] := getElem!_pos d' (i / 2) hi2
        have hjl := (d'[i / 2]).isLt
        have htg : t'[i / 2]'(by omega) = t[(d'[i / 2]).val]'(by omega) := by
          subst ht'
          simp
        obtain ⟨p1, p2, p3, p4⟩ := rowsD_two (t := t') (i := i / 2) (by omega) rest
        obtain ⟨r1, r2, r3, r4⟩ := rowsD_two (t := t) (i := (d'[i / 2]).val) (by omega) rest
        rw [hdg]
        rcases Nat.mod_two_eq_zero_or_one i with e | e
        · have hi0 : (rowsD t' ++ rest)[i] = (rowsD t' ++ rest)[i / 2 * 2]'p1 := by congr 1; omega
          rw [hi0, p3, htg, ← r3, e, Nat.add_zero]
          exact (hvs _ r1).ext hE1
        · have hi0 : (rowsD t' ++ rest)[i] = (rowsD t' ++ rest)[i / 2 * 2 + 1]'p2 := by congr 1; omega
          rw [hi0, p4, htg, ← r4, e, Nat.add_assoc]
          exact (hvs _ r2).ext hE1
      · rw [if_neg (by omega)]
        have h1 : (rowsD t' ++ rest)[i] = (rowsD t ++ rest)[i]'(by omega) := by
          rw [List.getElem_append_right (by omega), List.getElem_append_right (by omega)]
          congr 1
          omega
        rw [h1]
        exact (hvs i (by omega)).ext hE1
  have hW1 := put_W hW hq hE1 hoth hobj
  have hB : Below w1.heap.size w1 (sortWorldK (rowVals arr (s.ρ q).base) 2 w (s.ρ q).blk (s.ρ q).base k d' os) := by
    refine ⟨rfl, rfl, rfl, ?_, fun b hb => ?_⟩
    · show w1.heap.size ≤ (w1.heap ++ os).size
      simp
    · show (w1.heap ++ os)[b]? = _
      exact Array.getElem?_append_left hb
  exact ⟨hW1.of_below hB, hE1.trans (Ext.of_below hW1 hB)⟩
/-- What the shelf's contract of slices.SortFunc says at this program, at rows of two values. -/
def SortOK : Prop := ∀ {m : Nat} (enc : Fin (m + 1) → List Value) (hk : ∀ x, (enc x).length = 2) (h1 : ∀ x, ∀ v ∈ enc x, v.oneCell' = true) (cf : Fin (m + 1) → Fin (m + 1) → Int) (hO : SWO (Go.Proofs.ltOf cf)) (g : Nat) (blk off cap : Nat) (d : Array (Fin (m + 1))) (w : World)
    (eg : ∀ args w, (callFunc g args).run Tryz.prog w = .ok (.enter g args) w) (hcmp : Go.Proofs.CmpLays Tryz.prog g #[] enc 2 cf blk off d.size w) (hH : HoldsK enc 2 w blk off d) (hblk : blk < w.heap.size) (hsz : d.size < 4611686018427387904),
    Calls Tryz.prog 59 #[.slice (some ⟨blk, off, none⟩) d.size cap, .func (.func g) #[] #[]] w fun e w' => e = .returned (.tuple #[]) ∧ ∃ d' n os, PermIn 0 d.size d d' ∧ SortedIn (Go.Proofs.ltOf cf) 0 d.size d' ∧ w' = sortWorldK enc 2 w blk off n d' os
def sortedT (t : List Sh) : Prop := ∀ i j (hj : j < t.length) (h : i < j), ltW (t[j]).From (t[i]).From = false
theorem sort_p (hS : SortOK) {g : Nat} (hg : ∀ {W : World} {f1 t1 f2 t2 : Value} {x y : Wd}, RdW W f1 x → RdW W f2 y → f1.oneCell' = true → t1.oneCell' = true → f2.oneCell' = true → t2.oneCell' = true → Calls Tryz.prog g #[.agg #[f1, t1], .agg #[f2, t2]] W fun e w' => e = .returned (.int .i64 (ordR x y)) ∧ ∃ q os', w' = grow (W.drewN q) os')
    (eg : ∀ args w, (callFunc g args).run Tryz.prog w = .ok (.enter g args) w) (t : List Sh) (h0 : t ≠ []) (hl : t.length ≤ 100000) (hw : ∀ r ∈ t, r.From.length ≤ 100000) (rest : List D) {σ : Heap} {q : Nat} {e : TypeId} {c : Option Nat} (hq : σ.get q = some (.cells e (rowsD t ++ rest))) :
    PCall Zs 59 [.row q 0 t.length c 2, .func g []] σ (fun d τ => d = .tup [] ∧ ∃ t' : List Sh, t'.Perm t ∧ sortedT t' ∧ τ = σ.set q (.cells e (rowsD t' ++ rest))) := by
  obtain ⟨fn, cc, hf, hb, _, _, _, hn, _⟩ := ok59.ok
  refine ⟨⟨fn, hf, by rw [hb]; rfl, hn⟩, fun w s vs hs hv hW => ?_⟩
  subst hs
  obtain ⟨v0, v1, rfl⟩ : ∃ a b, vs = #[a, b] := by
    obtain ⟨l⟩ := vs
    match l, hv.1 with
    | [a, b], _ => exact ⟨a, b, rfl⟩
  have e0 : V w (Lim s) v0 (.row q 0 t.length c 2) := hv.2 0 (by simp)
  have e1 : V w (Lim s) v1 (.func g []) := hv.2 1 (by simp)
  obtain ⟨m, hm⟩ : ∃ m, t.length = m + 1 := ⟨t.length - 1, by have := List.length_pos_iff.2 h0; omega⟩
  cases e1 with
  | func _ us _ hus _ =>
  obtain rfl : us = #[] := Array.eq_empty_of_size_eq_zero hus
  cases e0 with
  | row _ _ _ _ _ a c' hlt hnc hbb hcf haa =>
  obtain ⟨arr, ha, hcap, hbc, hone, hvs⟩ := hW.obj q _ hq
  have ha0 : a = ⟨(s.ρ q).blk, (s.ρ q).base, none⟩ := by
    have := haa (by omega)
    rw [Lim_ρ, Nat.add_zero] at this
    exact this
  subst ha0
  have hcl : (rowsD t ++ rest).length = (m + 1) * 2 + rest.length := by rw [List.length_append, rowsD_len, hm]
  have ain : ∀ p, (s.ρ q).base ≤ p → p < (s.ρ q).base + (m + 1) * 2 → (arr.getD p undef).oneCell' = true := fun p hp1 hp2 => by
    have := hone (p - (s.ρ q).base) (by omega)
    rwa [Nat.add_sub_cancel' hp1] at this
  let enc : Fin (m + 1) → List Value := rowVals arr (s.ρ q).base
  let d : Array (Fin (m + 1)) := Array.ofFn fun i => i
  have hd : d.size = m + 1 := by simp [d]
  have rd : ∀ (w' : World), (∀ (a : Addr) u, w.cell? a = some u → (Lim s).ok a.block a.off → w'.cell? a = some u) → ∀ x : Fin (m + 1), RdW w' (arr.getD ((s.ρ q).base + x.val * 2) undef) (t[x.val]'(by omega)).From := fun w' hw' x => by
    obtain ⟨r1, r2, r3, r4⟩ := rowsD_two (t := t) (i := x.val) (by omega) rest
    have := hvs _ r1
    rw [r3] at this
    exact RdW.of_V this (hw _ (List.getElem_mem _)) hw'
  have keep : ∀ k dk os (a : Addr) u, w.cell? a = some u → (Lim s).ok a.block a.off → (sortWorldK enc 2 w (s.ρ q).blk (s.ρ q).base k dk os).cell? a = some u := fun k dk os a u hc hok => by
    have hne : a.block ≠ (s.ρ q).blk := fun he => hok q _ hq he.symm
    rw [cell?_sortWorldK_other _ _ _ _ _ _ _ _ _ hne (cell_lt hc)]
    exact hc
  have key := hS enc (fun x => rfl) (fun x v hv => by
      have hx := x.isLt
      simp only [enc, rowVals, List.mem_cons, List.not_mem_nil, or_false] at hv
      rcases hv with rfl | rfl
      · exact ain _ (by omega) (by omega)
      · exact ain _ (by omega) (by omega)) (fun x y => ordW (t[x.val]'(by omega)).From (t[y.val]'(by omega)).From) (ltW_swo fun x : Fin (m + 1) => (t[x.val]'(by omega)).From) g (s.ρ q).blk (s.ρ q).base c' d w eg
    (fun k os dk _ x y => by
      have hx := x.isLt
      have hy := y.isLt
      have := hg (rd _ (keep k dk os) x) (rd _ (keep k dk os) y) (ain _ (by omega) (by omega)) (t1 := arr.getD ((s.ρ q).base + x.val * 2 + 1) undef) (ain _ (by omega) (by omega)) (ain _ (by omega) (by omega)) (t2 := arr.getD ((s.ρ q).base + y.val * 2 + 1) undef) (ain _ (by omega) (by omega))
      rw [ordR_eq] at this
      exact this)
    (fun j hj => by
      have hj2 : j < (m + 1) * 2 := by simpa [hd] using hj
      have hdj : (d[j / 2]!).val = j / 2 := by
        rw [getElem!_pos d (j / 2) (by omega)]
        simp [d]
      refine ⟨?_, ?_⟩
      · show w.cell? _ = some (id ((flatK (rowVals arr (s.ρ q).base) 2 d)[j]!))
        rw [flat_get _ _ _ _ _ (by omega), hdj]
        have e2 : (s.ρ q).base + j / 2 * 2 + j % 2 = (s.ρ q).base + j := by omega
        rw [e2]
        simp only [World.cell?, ha, Option.isSome_none, Bool.false_eq_true, if_false, id]
        rw [Array.getD_eq_getD_getElem?, Array.getElem?_eq_getElem (by omega)]
        rfl
      · simp [World.frozen?, ha]) (by
      rw [Array.getElem?_eq_some_iff] at ha
      exact ha.1) (by omega)
  rw [hd] at key
  rw [hm]
  refine key.mono ?_
  rintro ee w' ⟨rfl, d', n, os, hperm, hsrt, rfl⟩
  have hds : d'.size = m + 1 := by rw [hperm.1, hd]
  obtain ⟨hW', hE'⟩ := sorted_world hW hq hm ha hcap hbc hone hvs d' hds n os
  refine ⟨_, .tup [], _, rfl, .tup _ _ rfl fun i hi => absurd hi (by simp), hW', hE', rfl, _, ?_, ?_, rfl⟩
  · have hex : ∀ (A : Array (Fin (m + 1))) (k : Nat), k = A.size → (A.extract 0 k).toList = A.toList := fun A k hk => by subst hk; simp
    have hp := hperm.2.2
    rw [hex d' _ hds.symm, hex d _ hd.symm] at hp
    have h3 : d.toList.map (fun i : Fin (m + 1) => t[i.val]'(by omega)) = t := by
      refine List.ext_getElem (by rw [List.length_map, Array.length_toList, hd, hm]) fun i g1 g2 => ?_
      simp only [List.getElem_map, Array.getElem_toList, d, Array.getElem_ofFn]
    have := hp.map (fun i : Fin (m + 1) => t[i.val]'(by omega))
    rw [h3] at this
    exact this
  · intro i j hj hij
    have hj' : j < m + 1 := by simpa [hds] using hj
    have := hsrt i j (Nat.zero_le _) hij hj'
    rw [getElem!_pos d' j (by omega), getElem!_pos d' i (by omega)] at this
    simp only [List.getElem_map, Array.getElem_toList]
    exact this
end Go.Proofs.YtldlcejlfaogbaaGreatDoor.Vs

/- numbers of YtldlcejlfaogbaaDoor -/
namespace Go.Proofs.YtldlcejlfaogbaaGreatDoor.Vs
open Go.Shelf Go.RowKit Go.Sort
set_option linter.unusedVariables false
set_option maxRecDepth 100000
def Tryz.sort41_ren : Go.Shelf.Ren := ⟨fun | 6 => 59 | 15 => 112 | 14 => 111 | 28 => 158 | 29 => 159 | 20 => 150 | 21 => 151 | 22 => 152 | 23 => 153 | 24 => 154 | 25 => 155 | 26 => 156 | 27 => 157 | 46 => 184 | 47 => 185 | 48 => 186 | 49 => 187 | 50 => 188 | 57 => 209 | n => n, fun | 22 => 22 | 24 => 67 | 25 => 98 | 3 => 3 | 39 => 158 | 0 => 0 | 53 => 210 | 55 => 212 | 4 => 4 | 46 => 204 | 45 => 203 | 50 => 82 | 5 => 5 | 9 => 9 | 66 => 227 | 70 => 231 | 76 => 247 | 77 => 248 | n => n, fun | n => n⟩
theorem Tryz.sort41 : Go.Proofs.SlLaysF0.n6 Tryz.prog Tryz.sort41_ren := {
  mixed := by kernel_rfl
  f6 := ⟨Tryz.f59.name, by decide, Tryz.func59.trans (congrArg some (by kernel_rfl))⟩
  f14 := ⟨Tryz.f111.name, by decide, Tryz.func111.trans (congrArg some (by kernel_rfl))⟩
  f15 := Tryz.func112.trans (congrArg some (by kernel_rfl))
  f20 := ⟨Tryz.f150.name, by decide, Tryz.func150.trans (congrArg some (by kernel_rfl))⟩
  f21 := ⟨Tryz.f151.name, by decide, Tryz.func151.trans (congrArg some (by kernel_rfl))⟩
  f22 := ⟨Tryz.f152.name, by decide, Tryz.func152.trans (congrArg some (by kernel_rfl))⟩
  f23 := ⟨Tryz.f153.name, by decide, Tryz.func153.trans (congrArg some (by kernel_rfl))⟩
  f24 := ⟨Tryz.f154.name, by decide, Tryz.func154.trans (congrArg some (by kernel_rfl))⟩
  f25 := ⟨Tryz.f155.name, by decide, Tryz.func155.trans (congrArg some (by kernel_rfl))⟩
  f26 := ⟨Tryz.f156.name, by decide, Tryz.func156.trans (congrArg some (by kernel_rfl))⟩
  f27 := ⟨Tryz.f157.name, by decide, Tryz.func157.trans (congrArg some (by kernel_rfl))⟩
  f28 := Tryz.func158.trans (congrArg some (by kernel_rfl))
  f29 := Tryz.func159.trans (congrArg some (by kernel_rfl))
  f46 := ⟨Tryz.f184.name, by decide, Tryz.func184.trans (congrArg some (by kernel_rfl))⟩
  f47 := Tryz.func185.trans (congrArg some (by kernel_rfl))
  f48 := Tryz.func186.trans (congrArg some (by kernel_rfl))
  f49 := ⟨Tryz.f187.name, by decide, Tryz.func187.trans (congrArg some (by kernel_rfl))⟩
  f50 := ⟨Tryz.f188.name, by decide, Tryz.func188.trans (congrArg some (by kernel_rfl))⟩
  f57 := ⟨Tryz.f209.name, by decide, Tryz.func209.trans (congrArg some (by kernel_rfl))⟩
  t0 := Tryz.underlying0
  a0 := Tryz.isAgg0
  z0 := Tryz.sizeOf0
  v0 := Tryz.zeroValue0
  t3 := Tryz.underlying3
  a3 := Tryz.isAgg3
  z3 := Tryz.sizeOf3
  v3 := Tryz.zeroValue3
  t4 := Tryz.underlying4
  a4 := Tryz.isAgg4
  z4 := Tryz.sizeOf4
  v4 := Tryz.zeroValue4
  t5 := Tryz.underlying5
  a5 := Tryz.isAgg5
  z5 := Tryz.sizeOf5
  v5 := Tryz.zeroValue5
  t9 := Tryz.underlying9
  a9 := Tryz.isAgg9
  z9 := Tryz.sizeOf9
  v9 := Tryz.zeroValue9
  t22 := Tryz.underlying22
  a22 := Tryz.isAgg22
  z22 := Tryz.sizeOf22
  v22 := Tryz.zeroValue22
  t25 := Tryz.underlying98
  a25 := Tryz.isAgg98
  z25 := Tryz.sizeOf98
  v25 := Tryz.zeroValue98
  t39 := Tryz.underlying158
  a39 := Tryz.isAgg158
  z39 := Tryz.sizeOf158
  v39 := Tryz.zeroValue158
  t45 := Tryz.underlying203
  a45 := Tryz.isAgg203
  z45 := Tryz.sizeOf203
  v45 := Tryz.zeroValue203
  t46 := Tryz.underlying204
  a46 := Tryz.isAgg204
  z46 := Tryz.sizeOf204
  v46 := Tryz.zeroValue204
  t50 := Tryz.underlying82
  a50 := Tryz.isAgg82
  z50 := Tryz.sizeOf82
  v50 := Tryz.zeroValue82
  t53 := Tryz.underlying210
  a53 := Tryz.isAgg210
  z53 := Tryz.sizeOf210
  v53 := Tryz.zeroValue210
  t55 := Tryz.underlying212
  a55 := Tryz.isAgg212
  z55 := Tryz.sizeOf212
  v55 := Tryz.zeroValue212
  t66 := Tryz.underlying227
  a66 := Tryz.isAgg227
  z66 := Tryz.sizeOf227
  v66 := Tryz.zeroValue227
  t70 := Tryz.underlying231
  a70 := Tryz.isAgg231
  z70 := Tryz.sizeOf231
  v70 := Tryz.zeroValue231
  t76 := Tryz.underlying247
  a76 := Tryz.isAgg247
  z76 := Tryz.sizeOf247
  v76 := Tryz.zeroValue247
  t77 := Tryz.underlying248
  a77 := Tryz.isAgg248
  z77 := Tryz.sizeOf248
  v77 := Tryz.zeroValue248 }
theorem sortOK : SortOK := fun enc hk h1 cf hO g blk off cap d w eg hcmp hH hblk hsz =>
  Go.Proofs.AnyQ.slices_SortFunc Tryz.sort41 2 Tryz.isAgg67 Tryz.sizeOf67 enc hk h1 cf hO g #[] blk off cap d w eg hcmp hH hblk hsz
theorem sort47_p (t : List Sh) (h0 : t ≠ []) (hl : t.length ≤ 100000) (hw : ∀ r ∈ t, r.From.length ≤ 100000) (rest : List D) {σ : Heap} {q : Nat} {e : TypeId} {c : Option Nat} (hq : σ.get q = some (.cells e (rowsD t ++ rest))) :
    PCall Zs 59 [.row q 0 t.length c 2, .func 60 []] σ (fun d τ => d = .tup [] ∧ ∃ t' : List Sh, t'.Perm t ∧ sortedT t' ∧ τ = σ.set q (.cells e (rowsD t' ++ rest))) :=
  sort_p sortOK (fun h1 h2 h3 h4 h5 h6 => closure47 h1 h2 h3 h4 h5 h6) (enters_of Tryz.func60 (by kernel_rfl) rfl) t h0 hl hw rest hq
end Go.Proofs.YtldlcejlfaogbaaGreatDoor.Vs
