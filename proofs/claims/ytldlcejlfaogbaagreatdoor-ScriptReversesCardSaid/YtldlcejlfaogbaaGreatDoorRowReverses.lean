/- ScriptReverses answers true: for all tables, which are reversible, two unlike clean words with one shifted word of the shortest there are, and the table turned round are those of the document. -/
import Derived.Test.YtldlcejlfaogbaaGreatDoorRows
import Derived.Test.YtldlcejlfaogbaaGreatDoorRv1
import Derived.Test.YtldlcejlfaogbaaGreatDoorBridge
import Derived.Test.YtldlcejlfaogbaaGreatDoorCards
import Derived.Test.YtldlcejlfaogbaaGreatDoorTie
import Derived.LaidMore
import Derived.Lay
import Derived.SevenTiedAt
import Derived.Stop.Joined
import Derived.WalkKit
import Derived.ProofKit
import Derived.OpenShut
import Derived.ShutString
import Derived.ChangeOld
import Derived.Below
import Derived.SizedLaws
namespace Go.Proofs.YtldlcejlfaogbaaGreatDoor.scriptReverses
open Go.ChangeShapes Go.WideShapes Go.ChangeAt Go.RowKit Go.Proofs.YtldlcejlfaogbaaGreatDoor.Vs
set_option linter.unusedVariables false
theorem own : ownKnob Tryz.prog.godebug = none := by kernel_rfl
theorem laidOut : laidOutB Tryz.prog = true := by kernel_rfl
theorem und4 : Tryz.prog.underlying 4 = some .bool := (TI.out ti4).1
theorem und9 : Tryz.prog.underlying 9 = some .string := (TI.out ti9).1
theorem und22 : Tryz.prog.underlying 22 = some (.slice 67) := (TI.out ti22).1
theorem und23 : Tryz.prog.underlying 23 = some (.slice 9) := (TI.out ti23).1
theorem pars : Tryz.f4.params.toList = [22] := by kernel_rfl
set_option maxRecDepth 100000 in
theorem lifted (os : Os) (started : os.Started) (H : Type) (enc : TypeId × Value → H) :
    ReturnsInHanded {} Tryz.checked os 4 .any (fun w args => (Rows.scriptReversesSpec.pre enc Tryz.prog Tryz.f4 Rows.scriptReversesRow.domain false w args ∧ laidMetH Tryz.prog Rows.scriptReversesRow.laid w) ∧ sizedMet enc Tryz.prog Tryz.f4 (OpenSpec.ofChange Rows.scriptReversesSpec) false w args) (Rows.scriptReversesSpec.post enc Tryz.prog Tryz.f4 false true false false) := by
  refine returnsInHanded_of_change_and (C := Tryz.checked) (X := fun w _ => laidMetH Tryz.prog Rows.scriptReversesRow.laid w) (fun _ _ _ hh h => h.of_heap hh) own started (by kernel_rfl) Tryz.func4
    (ChangeSpec.witness_shaped (enc := enc) (C := Tryz.checked) (os := os) (X := fun w _ => laidMetH Tryz.prog Rows.scriptReversesRow.laid w) false (World.laidAll Tryz.prog os Rows.scriptReversesRow.laid) #[.slice none 0 0] 8 (World.laidAll_os _ _ _)
      (World.shaped_of_ZipB (by kernel_rfl) (by kernel_rfl)) (by kernel_rfl) (by kernel_rfl) (by kernel_rfl)
      (by rw [MakeChecks.laidMetH_plain _ _ _ (by kernel_rfl)]; exact laidMet_laidAll _ (by kernel_rfl) (by kernel_rfl))) ?_
  intro W base args ds gs before hval0 hW hcnd hsz0 hL _
  clear hL
  have hW' := hW
  obtain ⟨p, q, hA0, hV, rfl, hfz, hnd⟩ := hW
  have hA : DataW.TrodAll enc Tryz.prog W 0 (fun _ => true) true Tryz.f4.params.toList args.toList ds p := hA0
  rw [pars] at hA
  obtain ⟨v0, vs0, d0, ds0, p0, q0, hargs, rfl, rfl, h0, r0⟩ := trodAll_cons hA
  obtain ⟨rfl, rfl, rfl⟩ := trodAll_nil r0
  obtain rfl : args = #[v0] := by cases args; simp_all
  obtain ⟨rfl, rfl⟩ := trodVars_none hV
  have hval : ∀ (j : Nat) t v, Tryz.f4.params[j]? = some t → (#[v0] : Array Value)[j]? = some v → Value.okWide Tryz.prog W .any base t v := hval0
  obtain ⟨a0, len0, cap0, rfl⟩ := okWide_slice und22 (hval 0 22 v0 (by kernel_rfl) rfl)
  have k0 := h0
  have lt0 : ∀ x ∈ p0, x.block < W.heap.size := by obtain ⟨m, hm⟩ := k0; exact DataW.trod_lt m _ _ _ hm
  obtain ⟨u0, ht0⟩ : ∃ t, V W (Lim gz) (.slice a0 len0 cap0) (encT t) := by
    obtain ⟨m, hm⟩ := h0
    exact read_table und22 (TI.out ti67).1 (by kernel_rfl) rfl rfl (by kernel_rfl) (by kernel_rfl) und23 und23 und9 (by kernel_rfl) hm
  have hVL : VL W gz #[.slice a0 len0 cap0] [encT u0] := ⟨rfl, fun i hi => by
    match i, hi with
    | 0, _ => exact ht0⟩
  clear hA0 hval0 hsz0
  refine (fn_walk (reverses_of u0) hVL).mono fun e W' ⟨he, bel⟩ => ?_
  subst he
  exact ⟨_, rfl, _, _, _, [], _, [], hW', trodAll_mk1 (shut_bool und4 _), (trodAll_cons_mk (Below.trod laidOut (by kernel_rfl) (of_decide_eq_true (by kernel_rfl)) k0 bel lt0) trodAll_mk0), rfl, bel.frame _, fun h => by cases h⟩
theorem over : Rows.scriptReversesRow.holds Tryz.pinned (OpenSpec.ofChange Rows.scriptReversesSpec) :=
  OpenClaim.holds_of_wide 4 Tryz.f4 rfl rfl rfl rfl rfl rfl rfl ⟨rfl, rfl, rfl, rfl, rfl⟩ rfl rfl rfl rfl rfl (by kernel_rfl) Tryz.func4 (by kernel_rfl)
    (of_decide_eq_true (by kernel_rfl)) (by unfold Func.isWrapper; first | (rw [if_pos (by decide +kernel)]; kernel_rfl) | (rw [if_neg (by decide +kernel)]; exact ⟨rfl, rfl⟩))
    (fun os started H enc _ => lifted os started H enc)
theorem proved : Rows.ScriptReversesCardSaid :=
  Claim7.holds_tied_plain_at .later [] [.data, .pinned] true (true, "1b3937318e30d0fd867cce83c546c53cd43e12188c961b49845ddffff708e0ae") false over (fun _ h => by cases h) (by kernel_rfl) (fun _ h => by cases h) scriptReverses_row_tie rfl ⟨rfl, rfl⟩ (by kernel_rfl) rfl
    (fun f fn hf hfn => by
      obtain rfl : f = 4 := Option.some.inj ((show Tryz.prog.funcNamed "ablaut/ablautlaw25.ScriptReverses" = some 4 by kernel_rfl).symm.trans hf) |>.symm
      obtain rfl : fn = Tryz.f4 := (Option.some.inj (Tryz.func4.symm.trans hfn)).symm
      exact ⟨by kernel_rfl, fun j t ht => by
        have hm : t ∈ [22] := by
          have : t ∈ Tryz.f4.params.toList := by simpa using Array.mem_of_getElem? ht
          rw [pars] at this
          simpa using this
        have hall : ([22].all fun u => !Tryz.prog.wantsStandIn u) = true := by kernel_rfl
        exact (show Tryz.prog.wantsStandIn t = false by simpa using List.all_eq_true.1 hall t hm)⟩)
    (by kernel_rfl)
end Go.Proofs.YtldlcejlfaogbaaGreatDoor.scriptReverses
