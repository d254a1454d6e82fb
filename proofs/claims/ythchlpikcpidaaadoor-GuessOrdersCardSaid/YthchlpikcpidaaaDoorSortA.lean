/- numbers of YtldlcejlfaogbaaDoor -/
import Derived.Sort.Grow
import Derived.WalkKit
import Derived.Deep.LoopGhost
import Derived.Test.YthchlpikcpidaaaDoorFnC
namespace Go.Proofs.YthchlpikcpidaaaDoor.Vs
open Go.RowKit Go.Sort
set_option linter.unusedVariables false
set_option maxRecDepth 100000
theorem isNaN_raw (s : ByteArray) (w : World) : Calls Tryd.prog 35 #[.string s] w fun e w' => e = .returned (.bool false) ∧ w' = w := by
  have h : (s.toList == s.toList) = true := by simp
  go_enter Tryd.func35, Tryd.ntmps35
  go_wp2
  go_ret
  exact ⟨rfl, rfl⟩
def cmpR (a b : ByteArray) : Int := if Op.bytesLess a.toList b.toList = true then -1 else if (a.toList == b.toList) = true then 0 else 1
theorem cmp_raw (a b : ByteArray) (w : World) : Calls Tryd.prog 22 #[.string a, .string b] w fun e w' => e = .returned (.int .i64 (cmpR a b)) ∧ w' = w := by
  have hn := fun s W => isNaN_raw s W
  unfold cmpR
  cases h1 : Op.bytesLess a.toList b.toList
  · cases h2 : (a.toList == b.toList)
    · go_enter Tryd.func22, Tryd.ntmps22
      go_wp2_with (go_at_call 35; refine (hn _ _).mono ?_; rintro e w' ⟨rfl, rfl⟩)
      go_ret
      exact ⟨rfl, rfl⟩
    · go_enter Tryd.func22, Tryd.ntmps22
      go_wp2_with (go_at_call 35; refine (hn _ _).mono ?_; rintro e w' ⟨rfl, rfl⟩)
      go_ret
      exact ⟨rfl, rfl⟩
  · go_enter Tryd.func22, Tryd.ntmps22
    go_wp2_with (go_at_call 35; refine (hn _ _).mono ?_; rintro e w' ⟨rfl, rfl⟩)
    go_ret
    exact ⟨rfl, rfl⟩
def ordR : Wd → Wd → Int
  | [], [] => 0
  | [], _ :: _ => -1
  | _ :: _, [] => 1
  | x :: a, y :: b => if cmpR x y ≠ 0 then cmpR x y else ordR a b
set_option maxHeartbeats 2000000 in
theorem compare_raw (a b : Wd) (ba oa bb ob c d : Nat) (w : World) (hna : a.length ≤ 100000) (hnb : b.length ≤ 100000) (h0 : a ≠ []) (h1 : b ≠ [])
    (ha : ∀ i, i < a.length → w.cell? ⟨ba, oa + i, none⟩ = some (.string (a.getD i ByteArray.empty))) (hb : ∀ i, i < b.length → w.cell? ⟨bb, ob + i, none⟩ = some (.string (b.getD i ByteArray.empty))) :
    Calls Tryd.prog 34 #[.slice (some ⟨ba, oa, none⟩) a.length c, .slice (some ⟨bb, ob, none⟩) b.length d] w fun e w' => e = .returned (.int .i64 (ordR a b)) ∧ w' = w := by
  have hc := fun x y W => cmp_raw x y W
  generalize hn : a.length = n at *
  generalize hm : b.length = m at *
  generalize hr : ordR a b = r
  go_enter Tryd.func34, Tryd.ntmps34
  go_wp2
  go_loopg [11] n (fun g s11 wr => ∃ k : Nat, k ≤ n ∧ k ≤ m ∧ n - k ≤ g ∧ s11 = .int .i64 k ∧ wr = w ∧ ordR (a.drop k) (b.drop k) = r)
  case atStart => exact ⟨0, Nat.zero_le _, Nat.zero_le _, by omega, rfl, rfl, hr⟩
  case round =>
    obtain ⟨k, hk, hkm, hg, rfl, rfl, hp⟩ := hrel
    by_cases hlt : k < n
    · have g1 := ha k hlt
      generalize hxk : a.getD k ByteArray.empty = x at g1
      by_cases hlm : k < m
      · have g2 := hb k hlm
        generalize hyk : b.getD k ByteArray.empty = y at g2
        clear ha hb
        have hst : ordR (a.drop k) (b.drop k) = if cmpR x y ≠ 0 then cmpR x y else ordR (a.drop (k + 1)) (b.drop (k + 1)) := by
          have e1 : a.drop k = x :: a.drop (k + 1) := by
            rw [List.drop_eq_getElem_cons (by omega), ← hxk, List.getD_eq_getElem?_getD, List.getElem?_eq_getElem (by omega)]; rfl
          have e2 : b.drop k = y :: b.drop (k + 1) := by
            rw [List.drop_eq_getElem_cons (by omega), ← hyk, List.getD_eq_getElem?_getD, List.getElem?_eq_getElem (by omega)]; rfl
          rw [e1, e2, ordR]
        rw [hp] at hst
        cases hz : (cmpR x y != 0)
        · have hz' : cmpR x y = 0 := by simpa using hz
          rw [if_neg (by simpa using hz')] at hst
          go_wp2_with (go_at_call 22; refine (hc _ _ _).mono ?_; rintro e w' ⟨rfl, rfl⟩)
          go_roundg (n - (k + 1))
          case measure => omega
          case rel => exact ⟨k + 1, by omega, by omega, by omega, by go_num, rfl, hst.symm⟩
        · have hz' : cmpR x y ≠ 0 := by simpa using hz
          rw [if_pos hz'] at hst
          go_wp2_with (go_at_call 22; refine (hc _ _ _).mono ?_; rintro e w' ⟨rfl, rfl⟩)
          go_ret
          exact ⟨by rw [hst]; rfl, rfl⟩
      · have hkm' : k = m := by omega
        subst hkm'
        have hst : r = 1 := by
          rw [← hp, List.drop_of_length_le (l := b) (by omega), List.drop_eq_getElem_cons (by omega)]
          rfl
        clear ha hb
        go_wp2
        go_ret
        exact ⟨by rw [hst]; rfl, rfl⟩
    · have hkn : k = n := by omega
      subst hkn
      clear ha hb
      rw [List.drop_of_length_le (l := a) (by omega)] at hp
      by_cases hkm2 : k < m
      · have hst : r = -1 := by
          rw [← hp, List.drop_eq_getElem_cons (l := b) (by omega)]
          rfl
        go_wp2
        go_ret
        exact ⟨by rw [hst]; rfl, rfl⟩
      · have hst : r = 0 := by
          rw [← hp, List.drop_of_length_le (l := b) (by omega)]
          rfl
        go_wp2
        go_ret
        exact ⟨by rw [hst]; rfl, rfl⟩
set_option maxHeartbeats 1000000 in
theorem compare_nilL (b : Wd) (A B : Option Addr) (c d : Nat) (w : World) (hnb : b.length ≤ 100000) :
    Calls Tryd.prog 34 #[.slice A 0 c, .slice B b.length d] w fun e w' => e = .returned (.int .i64 (ordR [] b)) ∧ w' = w := by
  generalize hm : b.length = m at *
  by_cases h : m = 0
  · have hb : b = [] := List.eq_nil_of_length_eq_zero (by omega)
    have hr : ordR [] b = 0 := by rw [hb]; rfl
    rw [hr]
    subst h
    go_enter Tryd.func34, Tryd.ntmps34
    go_wp2
    go_loopg [11] 0 (fun _ s11 wr => s11 = .int .i64 0 ∧ wr = w)
    case atStart => exact ⟨rfl, rfl⟩
    case round =>
      obtain ⟨rfl, rfl⟩ := hrel
      go_wp2
      go_ret
      exact ⟨rfl, rfl⟩
  · have hr : ordR [] b = -1 := by
      cases b with
      | nil => exact absurd hm.symm h
      | cons y b => rfl
    rw [hr]
    have h' : (0 : Int) < (m : Int) := by omega
    go_enter Tryd.func34, Tryd.ntmps34
    go_wp2
    go_loopg [11] 0 (fun _ s11 wr => s11 = .int .i64 0 ∧ wr = w)
    case atStart => exact ⟨rfl, rfl⟩
    case round =>
      obtain ⟨rfl, rfl⟩ := hrel
      go_wp2
      go_ret
      exact ⟨rfl, rfl⟩
set_option maxHeartbeats 1000000 in
theorem compare_nilR (a : Wd) (ba oa c d : Nat) (B : Option Addr) (w : World) (hna : a.length ≤ 100000) (h0 : a ≠ [])
    (ha : ∀ i, i < a.length → w.cell? ⟨ba, oa + i, none⟩ = some (.string (a.getD i ByteArray.empty))) :
    Calls Tryd.prog 34 #[.slice (some ⟨ba, oa, none⟩) a.length c, .slice B 0 d] w fun e w' => e = .returned (.int .i64 (ordR a [])) ∧ w' = w := by
  have hr : ordR a [] = 1 := by
    cases a with
    | nil => exact absurd rfl h0
    | cons x a => rfl
  have hp : 0 < a.length := List.length_pos_iff.2 h0
  rw [hr]
  generalize hn : a.length = n at *
  have g1 := ha 0 hp
  rw [Nat.add_zero] at g1
  generalize a.getD 0 ByteArray.empty = x at g1
  clear ha hn
  go_enter Tryd.func34, Tryd.ntmps34
  go_wp2
  go_loopg [11] 0 (fun _ s11 wr => s11 = .int .i64 0 ∧ wr = w)
  case atStart => exact ⟨rfl, rfl⟩
  case round =>
    obtain ⟨rfl, rfl⟩ := hrel
    go_wp2
    go_ret
    exact ⟨rfl, rfl⟩
/-- A value that reads as a word. -/
def RdW (W : World) (v : Value) (x : Wd) : Prop := ∃ A c, v = .slice A x.length c ∧ x.length ≤ 100000 ∧ (x ≠ [] → ∃ b o, A = some ⟨b, o, none⟩ ∧ ∀ i, i < x.length → W.cell? ⟨b, o + i, none⟩ = some (.string (x.getD i ByteArray.empty)))
theorem RdW.alloc {W : World} {v : Value} {x : Wd} (h : RdW W v x) (o : Obj) : RdW (W.alloc o) v x := by
  obtain ⟨A, c, h1, h2, h3⟩ := h
  refine ⟨A, c, h1, h2, fun hx => ?_⟩
  obtain ⟨b, o', h4, h5⟩ := h3 hx
  exact ⟨b, o', h4, fun i hi => by
    rw [World.cell?_alloc_lt _ _ _ (World.block_lt_of_cell? _ _ (h5 i hi))]; exact h5 i hi⟩
theorem compare_all {W : World} {u v : Value} {x y : Wd} (hu : RdW W u x) (hv : RdW W v y) : Calls Tryd.prog 34 #[u, v] W fun e w' => e = .returned (.int .i64 (ordR x y)) ∧ w' = W := by
  obtain ⟨A, c, rfl, h2, h3⟩ := hu
  obtain ⟨B, d, rfl, k2, k3⟩ := hv
  by_cases hx : x = []
  · subst hx
    exact compare_nilL y A B c d W k2
  · obtain ⟨b, o, rfl, h5⟩ := h3 hx
    by_cases hy : y = []
    · subst hy
      exact compare_nilR x b o c d B W h2 hx h5
    · obtain ⟨b', o', rfl, k5⟩ := k3 hy
      exact compare_raw x y b o b' o' c d W h2 k2 hx hy h5 k5
set_option maxHeartbeats 1000000 in
theorem cmpR_eq (x y : ByteArray) : cmpR x y = cmpS x y := by
  have h1 : Op.bytesLess x.toList y.toList = strLt x y := by rw [ByteArray.toList_eq, ByteArray.toList_eq]; rfl
  have h2 : (x.toList == y.toList) = (x == y) := by
    rw [ByteArray.toList_eq, ByteArray.toList_eq]
    cases h : (x == y) with
    | true => rw [ba_eq h]; simp
    | false =>
      rw [beq_eq_false_iff_ne]
      intro he
      have : x = y := by cases x; cases y; congr 1; exact Array.toList_inj.1 he
      rw [this, ba_refl] at h
      cases h
  unfold cmpR cmpS
  rw [h1, h2]
theorem ordR_eq : ∀ a b : Wd, ordR a b = ordW a b
  | [], [] => rfl
  | [], _ :: _ => rfl
  | _ :: _, [] => rfl
  | x :: a, y :: b => by
    rw [ordR, ordW_cons, cmpR_eq, ordR_eq a b]
    by_cases h : cmpS x y = 0
    · rw [if_neg (by simpa using h), if_pos h]
    · rw [if_pos h, if_neg h]
end Go.Proofs.YthchlpikcpidaaaDoor.Vs
