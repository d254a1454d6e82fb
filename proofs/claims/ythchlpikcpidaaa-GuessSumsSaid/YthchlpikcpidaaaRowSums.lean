/- GuessSums answers true: for all samples and every word, the chances of all tags make 1 and fall in the order of the rank; there are no further conditions. -/
import Derived.Test.YthchlpikcpidaaaRows
import Derived.Test.YthchlpikcpidaaaGuS2
import Derived.Test.YthchlpikcpidaaaBridge3
import Derived.WalkKit
import Derived.ProofKit
import Derived.OpenShut
import Derived.ShutString
import Derived.ChangeOld
import Derived.Below
import Derived.SizedLaws
namespace Go.Proofs.Ythchlpikcpidaaa.guessSums
open Go.ChangeShapes Go.WideShapes Go.ChangeAt Go.RowKit Go.Proofs.Ythchlpikcpidaaa.Vs
set_option linter.unusedVariables false
theorem own : ownKnob Try.prog.godebug = none := by kernel_rfl
theorem laidOut : laidOutB Try.prog = true := by kernel_rfl
theorem und4 : Try.prog.underlying 4 = some .bool := (TI.out ti4).1
theorem und9 : Try.prog.underlying 9 = some .string := (TI.out ti9).1
theorem und22 : Try.prog.underlying 22 = some (.slice 51) := (TI.out ti22).1
theorem und23 : Try.prog.underlying 23 = some (.slice 9) := (TI.out ti23).1
theorem pars : Try.f4.params.toList = [22, 23] := by kernel_rfl
set_option maxRecDepth 100000 in
theorem lifted (os : Os) (started : os.Started) (H : Type) (enc : TypeId × Value → H) :
    ReturnsInHanded {} Try.checked os 4 .any (Rows.guessSumsSpec.pre6 enc Try.prog Try.f4 Rows.guessSumsRow.domain false) (Rows.guessSumsSpec.post enc Try.prog Try.f4 false true false false) := by
  refine returnsInHanded_of_change_sized (C := Try.checked) own started (by kernel_rfl) Try.func4
    (ChangeSpec.witness6 (enc := enc) (C := Try.checked) false ⟨#[], #[.slice none 0 0, .slice none 0 0], []⟩ 8 (by kernel_rfl) (by kernel_rfl) (by kernel_rfl) (by kernel_rfl)) ?_
  intro W base args ds gs before hval0 hW hcnd hsz0 _
  have hW' := hW
  obtain ⟨p, q, hA0, hV, rfl, hfz, hnd⟩ := hW
  have hA : DataW.TrodAll enc Try.prog W 0 (fun _ => true) true Try.f4.params.toList args.toList ds p := hA0
  rw [pars] at hA
  obtain ⟨v0, vs0, d0, ds0, p0, q0, hargs, rfl, rfl, h0, r0⟩ := trodAll_cons hA
  obtain ⟨v1, vs1, d1, ds1, p1, q1, rfl, rfl, rfl, h1, r1⟩ := trodAll_cons r0
  obtain ⟨rfl, rfl, rfl⟩ := trodAll_nil r1
  obtain rfl : args = #[v0, v1] := by cases args; simp_all
  obtain ⟨rfl, rfl⟩ := trodVars_none hV
  have hval : ∀ (j : Nat) t v, Try.f4.params[j]? = some t → (#[v0, v1] : Array Value)[j]? = some v → Value.okWide Try.prog W .any base t v := hval0
  obtain ⟨a0, len0, cap0, rfl⟩ := okWide_slice und22 (hval 0 22 v0 (by kernel_rfl) rfl)
  obtain ⟨a1, len1, cap1, rfl⟩ := okWide_slice und23 (hval 1 23 v1 (by kernel_rfl) rfl)
  have k0 := h0
  have k1 := h1
  have lt0 : ∀ x ∈ p0, x.block < W.heap.size := by obtain ⟨m, hm⟩ := k0; exact DataW.trod_lt m _ _ _ hm
  have lt1 : ∀ x ∈ p1, x.block < W.heap.size := by obtain ⟨m, hm⟩ := k1; exact DataW.trod_lt m _ _ _ hm
  obtain ⟨u0, ht0⟩ : ∃ t, V W (Lim gz) (.slice a0 len0 cap0) (Vs.encS t) := by
    obtain ⟨m, hm⟩ := h0
    exact read_samples und22 (TI.out ti51).1 (by kernel_rfl) rfl rfl rfl (by kernel_rfl) (by kernel_rfl) (by kernel_rfl) und23 und9 (by kernel_rfl) und9 (TI.out ti3).1 hm
  obtain ⟨u1, ht1⟩ : ∃ t, V W (Lim gz) (.slice a1 len1 cap1) (encSS t) := by
    obtain ⟨m, hm⟩ := h1
    exact read_strs und23 und9 (by kernel_rfl) hm
  have hVL : VL W gz #[.slice a0 len0 cap0, .slice a1 len1 cap1] [Vs.encS u0, encSS u1] := ⟨rfl, fun i hi => by
    match i, hi with
    | 0, _ => exact ht0
    | 1, _ => exact ht1⟩
  clear hA0 hval0 hsz0
  refine (fn_walk (sums_c u0 u1) hVL).mono fun e W' ⟨he, bel⟩ => ?_
  subst he
  exact ⟨_, rfl, _, _, _, [], _, [], hW', trodAll_mk1 (shut_bool und4 _), (trodAll_cons_mk (Below.trod laidOut (by kernel_rfl) (of_decide_eq_true (by kernel_rfl)) k0 bel lt0) (trodAll_cons_mk (Below.trod laidOut (by kernel_rfl) (of_decide_eq_true (by kernel_rfl)) k1 bel lt1) trodAll_mk0)), rfl, bel.frame _, fun h => by cases h⟩
theorem over : Rows.guessSumsRow.holds Try.pinned (OpenSpec.ofChange Rows.guessSumsSpec) :=
  OpenClaim.holds_of_wide 4 Try.f4 rfl rfl rfl rfl rfl rfl rfl ⟨rfl, rfl, rfl, rfl, rfl⟩ rfl rfl rfl rfl rfl (by kernel_rfl) Try.func4 (by kernel_rfl)
    (of_decide_eq_true (by kernel_rfl)) (by unfold Func.isWrapper; first | (rw [if_pos (by decide +kernel)]; kernel_rfl) | (rw [if_neg (by decide +kernel)]; exact ⟨rfl, rfl⟩))
    (fun os started H enc _ => lifted os started H enc)
theorem proved : Rows.GuessSumsSaid := over
end Go.Proofs.Ythchlpikcpidaaa.guessSums
