/- Two tables joined, plain: what waits, what is written, which rests there are. -/
import Derived.Test.YtldlcejlfaogbaaGreatDoorMgA
import Derived.Test.YtldlcejlfaogbaaGreatDoorCodeA
import Derived.Test.YtldlcejlfaogbaaGreatDoorFnKey
import Derived.Test.YtldlcejlfaogbaaGreatDoorFnJ
namespace Go.Proofs.YtldlcejlfaogbaaGreatDoor.Vs
set_option linter.unusedVariables false
set_option linter.unusedSimpArgs false
set_option maxRecDepth 20000
def waitsR (w : Wd) (r : Sh) : Bool := decide (w.length < r.From.length) && begW r.From w
def waitsW (t : List Sh) (w : Wd) : Bool := t.any (waitsR w)
def addJ (todo : List Wd) (n : Wd) : List Wd := if todo.any (fun x => eqW x n) = true then todo else todo ++ [n]
theorem anyEq {todo : List Wd} {n : Wd} : todo.any (fun x => eqW x n) = true ↔ n ∈ todo := by
  rw [List.any_eq_true]
  exact ⟨fun ⟨x, hx, h⟩ => by rw [← eqW_iff.1 h]; exact hx, fun h => ⟨n, h, eqW_iff.2 rfl⟩⟩
def prefs (t : List Sh) : List Wd := [] :: t.flatMap fun r => (List.range r.From.length).map fun j => r.From.take j
theorem prefs_len {t : List Sh} (h : ∀ r ∈ t, r.From.length ≤ 60) : (prefs t).length ≤ 1 + 60 * t.length := by
  unfold prefs
  rw [List.length_cons]
  have : ∀ t : List Sh, (∀ r ∈ t, r.From.length ≤ 60) → (t.flatMap fun r => (List.range r.From.length).map fun j => r.From.take j).length ≤ 60 * t.length := fun t => by
    induction t with
    | nil => intro _; simp
    | cons r t ih =>
      intro h
      rw [List.flatMap_cons, List.length_append, List.length_map, List.length_range, List.length_cons]
      have h1 := h r List.mem_cons_self
      have h2 := ih fun r hr => h r (List.mem_cons_of_mem _ hr)
      omega
  have := this t h
  omega
theorem waits_pref {t : List Sh} {w : Wd} (h : w.length = 0 ∨ waitsW t w = true) : w ∈ prefs t := by
  rcases h with h | h
  · rw [List.eq_nil_of_length_eq_zero h]; exact List.mem_cons_self
  · obtain ⟨r, hr, hw⟩ := List.any_eq_true.1 h
    simp only [waitsR, Bool.and_eq_true, decide_eq_true_eq] at hw
    refine List.mem_cons_of_mem _ (List.mem_flatMap.2 ⟨r, hr, List.mem_map.2 ⟨w.length, List.mem_range.2 hw.1, ?_⟩⟩)
    have := hw.2
    rw [begW_take, Bool.and_eq_true] at this
    exact eqW_iff.1 this.2
structure TodoJ (t : List Sh) (todo : List Wd) : Prop where
  nd : todo.Nodup
  sub : ∀ w ∈ todo, w.length = 0 ∨ waitsW t w = true
theorem TodoJ.len {t : List Sh} {todo : List Wd} (h : TodoJ t todo) (ht : ∀ r ∈ t, r.From.length ≤ 60) (h24 : t.length ≤ 24) : todo.length ≤ 1441 := by
  have h1 := nodup_len h.nd fun w hw => waits_pref (h.sub w hw)
  have h2 := prefs_len ht
  omega
theorem TodoJ.add {t : List Sh} {todo : List Wd} (h : TodoJ t todo) {n : Wd} (hn : n.length = 0 ∨ waitsW t n = true) : TodoJ t (addJ todo n) := by
  unfold addJ
  split
  · exact h
  · rename_i hm
    refine ⟨?_, fun w hw => ?_⟩
    · rw [List.nodup_append]
      exact ⟨h.nd, by simp, fun a ha b hb => by simp at hb; subst hb; exact fun e => hm (anyEq.2 (e ▸ ha))⟩
    · rcases List.mem_append.1 hw with hw | hw
      · exact h.sub w hw
      · simp at hw; subst hw; exact hn
theorem TodoJ.init (t : List Sh) : TodoJ t [[]] := ⟨by simp, fun w hw => by simp at hw; subst hw; exact .inl rfl⟩
end Go.Proofs.YtldlcejlfaogbaaGreatDoor.Vs
