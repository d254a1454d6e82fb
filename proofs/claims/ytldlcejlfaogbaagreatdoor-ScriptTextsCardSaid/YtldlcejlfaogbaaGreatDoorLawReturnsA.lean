/- numbers of YtldlcejlfaogbaaDoor -/
import Derived.Test.YtldlcejlfaogbaaGreatDoorLawRoadsA
import Derived.Test.YtldlcejlfaogbaaGreatDoorMgB
namespace Go.Proofs.YtldlcejlfaogbaaGreatDoor.Vs
set_option linter.unusedVariables false
set_option linter.unusedSimpArgs false
set_option maxRecDepth 20000
def fits (t : List Sh) (w : Wd) (b : Option Nat) (k : Nat) : Prop :=
  match b with
  | none => ∀ j r, j < k → t[j]? = some r → begW w r.From = false
  | some i => i < k ∧ ∃ r, t[i]? = some r ∧ begW w r.From = true ∧ ∀ j r', j < k → t[j]? = some r' → begW w r'.From = true → r'.From.length ≤ r.From.length
theorem ordBad_lt : ∀ {t : List Sh} {p : Wd}, ordBad (some p) t = false → (∀ r ∈ t, ltW p r.From = true) ∧ t.Pairwise (fun a b => ltW a.From b.From = true)
  | [], p, _ => ⟨fun r hr => (by cases hr), .nil⟩
  | r :: t, p, h => by
    rw [ordBad, Bool.or_eq_false_iff] at h
    obtain ⟨h1, h2⟩ := h
    have hpr : ltW p r.From = true := by
      simp only [badO, Bool.or_eq_false_iff, decide_eq_false_iff_not, Int.not_le] at h1
      exact decide_eq_true h1.2
    obtain ⟨h3, h4⟩ := ordBad_lt h2
    refine ⟨fun x hx => ?_, .cons h3 h4⟩
    rcases List.mem_cons.1 hx with rfl | hx
    · exact hpr
    · exact ltW_trans hpr (h3 x hx)
theorem ordBad_pair : ∀ {t : List Sh}, ordBad none t = false → t.Pairwise (fun a b => ltW a.From b.From = true)
  | [], _ => .nil
  | r :: t, h => by
    rw [ordBad, Bool.or_eq_false_iff] at h
    obtain ⟨h3, h4⟩ := ordBad_lt h.2
    exact .cons h3 h4
end Go.Proofs.YtldlcejlfaogbaaGreatDoor.Vs
