/- numbers of YthchlpikcpidaaaDoor -/
import Derived.Test.YthchlpikcpidaaaDoorSortA
import Derived.Test.YthchlpikcpidaaaDoorAlP
namespace Go.Proofs.YthchlpikcpidaaaDoor.Vs
open Go.RowKit Go.Sort
set_option linter.unusedVariables false
set_option maxRecDepth 100000
def cmpN (a b : Int) : Int := if a < b then -1 else if b < a then 1 else 0
theorem isNaNI_raw (n : Int) (w : World) : Calls Tryd.prog 54 #[.int .i64 n] w fun e w' => e = .returned (.bool false) ∧ w' = w := by
  go_enter Tryd.func54, Tryd.ntmps54
  go_wp2
  go_ret
  exact ⟨by simp, rfl⟩
theorem cmpI_raw (a b : Int) (w : World) : Calls Tryd.prog 33 #[.int .i64 a, .int .i64 b] w fun e w' => e = .returned (.int .i64 (cmpN a b)) ∧ w' = w := by
  have hn := fun n W => isNaNI_raw n W
  unfold cmpN
  by_cases h1 : a < b
  · rw [if_pos h1]
    go_enter Tryd.func33, Tryd.ntmps33
    go_wp2_with (go_at_call 54; refine (hn _ _).mono ?_; rintro e w' ⟨rfl, rfl⟩)
    go_ret
    exact ⟨rfl, rfl⟩
  · rw [if_neg h1]
    by_cases h2 : b < a
    · rw [if_pos h2]
      go_enter Tryd.func33, Tryd.ntmps33
      go_wp2_with (go_at_call 54; refine (hn _ _).mono ?_; rintro e w' ⟨rfl, rfl⟩)
      go_ret
      exact ⟨rfl, rfl⟩
    · rw [if_neg h2]
      go_enter Tryd.func33, Tryd.ntmps33
      go_wp2_with (go_at_call 54; refine (hn _ _).mono ?_; rintro e w' ⟨rfl, rfl⟩)
      go_ret
      exact ⟨rfl, rfl⟩
theorem cmpN_len (a b : Wd) : cmpW a b = if cmpN a.length b.length ≠ 0 then cmpN a.length b.length else ordW a b := by
  unfold cmpW cmpN
  by_cases h1 : a.length < b.length
  · rw [if_pos h1, if_pos (show (a.length : Int) < b.length by omega), if_pos (by decide)]
  · by_cases h2 : b.length < a.length
    · rw [if_neg h1, if_pos h2, if_neg (show ¬ (a.length : Int) < b.length by omega), if_pos (show (b.length : Int) < a.length by omega), if_pos (by decide)]
    · rw [if_neg h1, if_neg h2, if_neg (show ¬ (a.length : Int) < b.length by omega), if_neg (show ¬ (b.length : Int) < a.length by omega), if_neg (by decide)]
set_option maxHeartbeats 1000000 in
theorem cmpWd_raw {W : World} {u v : Value} {x y : Wd} (hu : RdW W u x) (hv : RdW W v y) : Calls Tryd.prog 21 #[u, v] W fun e w' => e = .returned (.int .i64 (cmpW x y)) ∧ w' = W := by
  have hcon := compare_all hu hv
  have hci := fun a b W => cmpI_raw a b W
  obtain ⟨A, c, rfl, _, _⟩ := hu
  obtain ⟨B, d, rfl, _, _⟩ := hv
  rw [ordR_eq] at hcon
  have hl := cmpN_len x y
  generalize cmpW x y = r at hl ⊢
  generalize ordW x y = o at hcon hl
  generalize hm : cmpN (x.length : Int) (y.length : Int) = m at hl
  have hm' : cmpN ((x.length : Nat) : Int) ((y.length : Nat) : Int) = m := hm
  generalize x.length = n1 at *
  generalize y.length = n2 at *
  cases hz : (m != 0)
  · have hz' : m = 0 := by simpa using hz
    rw [if_neg (by simpa using hz')] at hl
    subst hl
    go_enter Tryd.func21, Tryd.ntmps21
    go_wp2_with (first | (go_at_call 33; refine (hci _ _ _).mono ?_; rintro e w' ⟨rfl, rfl⟩; rw [hm']) | (go_at_call 34; refine hcon.mono ?_; rintro e w' ⟨rfl, rfl⟩))
    go_ret
    exact ⟨rfl, rfl⟩
  · have hz' : m ≠ 0 := by simpa using hz
    rw [if_pos hz'] at hl
    subst hl
    go_enter Tryd.func21, Tryd.ntmps21
    go_wp2_with (go_at_call 33; refine (hci _ _ _).mono ?_; rintro e w' ⟨rfl, rfl⟩; rw [hm'])
    go_ret
    exact ⟨rfl, rfl⟩
def cmpSmp (x y : Wd) (s t : ByteArray) : Int := if cmpW x y ≠ 0 then cmpW x y else cmpS s t
set_option maxHeartbeats 2000000 in
/-- The closure that All sorts by. -/
theorem closure20 {W : World} {f1 m1 f2 m2 : Value} {x y : Wd} (s t : ByteArray) (hu : RdW W f1 x) (hv : RdW W f2 y) (o1 : f1.oneCell' = true) (o2 : m1.oneCell' = true) (o3 : f2.oneCell' = true) (o4 : m2.oneCell' = true) :
    Calls Tryd.prog 20 #[.agg #[f1, .string s, m1], .agg #[f2, .string t, m2]] W fun e w' => e = .returned (.int .i64 (cmpSmp x y s t)) ∧ ∃ q os', w' = grow (W.drewN q) os' := by
  have hcon := fun o1 o2 => cmpWd_raw ((hu.alloc o1).alloc o2) ((hv.alloc o1).alloc o2)
  have hcs := fun a b W => cmp_raw a b W
  have hce : cmpR s t = cmpS s t := cmpR_eq s t
  obtain ⟨A, c, rfl, _, _⟩ := hu
  obtain ⟨B, d, rfl, _, _⟩ := hv
  unfold cmpSmp
  generalize cmpW x y = r at hcon ⊢
  generalize cmpS s t = v at hce ⊢
  cases hz : (r != 0)
  · have hz' : r = 0 := by simpa using hz
    rw [if_neg (by simpa using hz')]
    subst hz'
    go_enter Tryd.func20, Tryd.ntmps20
    go_wp2_with (first | (go_at_call 21; refine (hcon _ _).mono ?_; rintro e w' ⟨rfl, rfl⟩) | (go_at_call 22; refine (hcs _ _ _).mono ?_; rintro e w' ⟨rfl, rfl⟩; rw [hce]))
    go_ret
    exact ⟨rfl, 0, _, by rw [alloc_eq_grow, alloc_eq_grow, grow_grow]; rfl⟩
  · have hz' : r ≠ 0 := by simpa using hz
    rw [if_pos hz']
    go_enter Tryd.func20, Tryd.ntmps20
    go_wp2_with (go_at_call 21; refine (hcon _ _).mono ?_; rintro e w' ⟨rfl, rfl⟩)
    go_ret
    exact ⟨rfl, 0, _, by rw [alloc_eq_grow, alloc_eq_grow, grow_grow]; rfl⟩
end Go.Proofs.YthchlpikcpidaaaDoor.Vs
