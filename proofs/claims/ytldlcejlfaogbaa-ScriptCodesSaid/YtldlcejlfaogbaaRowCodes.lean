/- ScriptCodes answers true: for every list of words that can be read, whether it is a code is told as the reference tells it, by two unlike rows that make one of the shortest words; there are no further conditions. -/
import Derived.Test.YtldlcejlfaogbaaRows
import Derived.Test.YtldlcejlfaogbaaLawCodes
import Derived.Test.YtldlcejlfaogbaaBridge2
import Derived.WalkKit
import Derived.ProofKit
import Derived.OpenShut
import Derived.ShutString
import Derived.ChangeOld
import Derived.Below
import Derived.SizedLaws
namespace Go.Proofs.Ytldlcejlfaogbaa.scriptCodes
open Go.ChangeShapes Go.WideShapes Go.ChangeAt Go.RowKit Go.Proofs.Ytldlcejlfaogbaa.Vs
set_option linter.unusedVariables false
theorem own : ownKnob Try.prog.godebug = none := by kernel_rfl
theorem laidOut : laidOutB Try.prog = true := by kernel_rfl
theorem und22 : Try.prog.underlying 22 = some (.slice 50) := (TI.out ti22).1
theorem und23 : Try.prog.underlying 23 = some (.slice 9) := (TI.out ti23).1
theorem und9 : Try.prog.underlying 9 = some .string := (TI.out ti9).1
theorem und35 : Try.prog.underlying 35 = some (.slice 23) := (TI.out ti35).1
theorem und4 : Try.prog.underlying 4 = some .bool := (TI.out ti4).1
theorem pars : Try.f4.params.toList = [35] := by kernel_rfl
set_option maxRecDepth 100000 in
theorem lifted (os : Os) (started : os.Started) (H : Type) (enc : TypeId × Value → H) :
    ReturnsInHanded {} Try.checked os 4 .any (Rows.scriptCodesSpec.pre6 enc Try.prog Try.f4 Rows.scriptCodesRow.domain false) (Rows.scriptCodesSpec.post enc Try.prog Try.f4 false true false false) := by
  refine returnsInHanded_of_change_sized (C := Try.checked) own started (by kernel_rfl) Try.func4
    (ChangeSpec.witness6 (enc := enc) (C := Try.checked) false ⟨#[], #[.slice none 0 0], []⟩ 8 (by kernel_rfl) (by kernel_rfl) (by kernel_rfl) (by kernel_rfl)) ?_
  intro W base args ds gs before hval0 hW hcnd hsz0 _
  have hW' := hW
  obtain ⟨p, q, hA0, hV, rfl, hfz, hnd⟩ := hW
  have hA : DataW.TrodAll enc Try.prog W 0 (fun _ => true) true Try.f4.params.toList args.toList ds p := hA0
  rw [pars] at hA
  obtain ⟨v1, vs1, d1, ds1, p1, q1, hargs, rfl, rfl, h1, r1⟩ := trodAll_cons hA
  obtain ⟨rfl, rfl, rfl⟩ := trodAll_nil r1
  obtain rfl : args = #[v1] := by cases args; simp_all
  obtain ⟨rfl, rfl⟩ := trodVars_none hV
  have hval : ∀ (j : Nat) t v, Try.f4.params[j]? = some t → (#[v1] : Array Value)[j]? = some v → Value.okWide Try.prog W .any base t v := hval0
  obtain ⟨a1, len1, cap1, rfl⟩ := okWide_slice und35 (hval 0 35 v1 (by kernel_rfl) rfl)
  have k1 := h1
  have lt1 : ∀ x ∈ p1, x.block < W.heap.size := by obtain ⟨m, hm⟩ := k1; exact DataW.trod_lt m _ _ _ hm
  obtain ⟨u, hu⟩ : ∃ u, V W (Lim gz) (.slice a1 len1 cap1) (encLL u) := by
    obtain ⟨m, hm⟩ := h1
    exact read_words und35 und23 und9 (by kernel_rfl) (by kernel_rfl) hm
  have hVL : VL W gz #[.slice a1 len1 cap1] [encLL u] := ⟨rfl, fun i hi => by
    match i, hi with
    | 0, _ => exact hu⟩
  clear hA0 hval0 hsz0
  refine (fn_walk (codes_c u) hVL).mono fun e W' ⟨he, bel⟩ => ?_
  subst he
  exact ⟨_, rfl, _, _, _, [], _, [], hW', trodAll_mk1 (shut_bool und4 _), (trodAll_cons_mk (Below.trod laidOut (by kernel_rfl) (of_decide_eq_true (by kernel_rfl)) k1 bel lt1) trodAll_mk0), rfl, bel.frame _, fun h => by cases h⟩
theorem over : Rows.scriptCodesRow.holds Try.pinned (OpenSpec.ofChange Rows.scriptCodesSpec) :=
  OpenClaim.holds_of_wide 4 Try.f4 rfl rfl rfl rfl rfl rfl rfl ⟨rfl, rfl, rfl, rfl, rfl⟩ rfl rfl rfl rfl rfl (by kernel_rfl) Try.func4 (by kernel_rfl)
    (of_decide_eq_true (by kernel_rfl)) (by unfold Func.isWrapper; first | (rw [if_pos (by decide +kernel)]; kernel_rfl) | (rw [if_neg (by decide +kernel)]; exact ⟨rfl, rfl⟩))
    (fun os started H enc _ => lifted os started H enc)
theorem proved : Rows.ScriptCodesSaid := over
end Go.Proofs.Ytldlcejlfaogbaa.scriptCodes
