/- FlagMarks answers true: for all lists of texts, which texts are marks, and the marks of the list, are those of the document; the row lists package variables of libraries, which the walk does not read. -/
import Derived.Test.YtpmjfoplpccblaaDoorRows
import Derived.Test.YtpmjfoplpccblaaDoorLawMarks
import Derived.Test.YtpmjfoplpccblaaDoorBridge5
import Derived.Test.YtpmjfoplpccblaaDoorCards
import Derived.Test.YtpmjfoplpccblaaDoorTie
import Derived.LaidMore
import Derived.Lay
import Derived.SevenTiedAt
import Derived.Stop.Joined
import Derived.WalkKit
import Derived.ProofKit
import Derived.OpenShut
import Derived.ShutString
import Derived.ChangeOld
import Derived.Below
import Derived.SizedLaws
namespace Go.Proofs.YtpmjfoplpccblaaDoor.flagMarks
open Go.ChangeShapes Go.WideShapes Go.ChangeAt Go.RowKit Go.Proofs.YtpmjfoplpccblaaDoor.Vs
set_option linter.unusedVariables false
theorem own : ownKnob Tryd.prog.godebug = none := by kernel_rfl
theorem laidOut : laidOutB Tryd.prog = true := by kernel_rfl
theorem und4 : Tryd.prog.underlying 4 = some .bool := (TI.out ti4).1
theorem und9 : Tryd.prog.underlying 9 = some .string := (TI.out ti9).1
theorem und22 : Tryd.prog.underlying 22 = some (.slice 9) := (TI.out ti22).1
theorem pars : Tryd.f3.params.toList = [22] := by kernel_rfl
set_option maxRecDepth 100000 in
theorem lifted (os : Os) (started : os.Started) (H : Type) (enc : TypeId × Value → H) :
    ReturnsInHanded {} Tryd.checked os 3 .any (fun w args => (Rows.flagMarksSpec.pre enc Tryd.prog Tryd.f3 Rows.flagMarksRow.domain false w args ∧ laidMetH Tryd.prog Rows.flagMarksRow.laid w) ∧ sizedMet enc Tryd.prog Tryd.f3 (OpenSpec.ofChange Rows.flagMarksSpec) false w args) (Rows.flagMarksSpec.post enc Tryd.prog Tryd.f3 false true false false) := by
  refine returnsInHanded_of_change_and (C := Tryd.checked) (X := fun w _ => laidMetH Tryd.prog Rows.flagMarksRow.laid w) (fun _ _ _ hh h => h.of_heap hh) own started (by kernel_rfl) Tryd.func3
    (ChangeSpec.witness_shaped (enc := enc) (C := Tryd.checked) (os := os) (X := fun w _ => laidMetH Tryd.prog Rows.flagMarksRow.laid w) false (World.laidAll Tryd.prog os Rows.flagMarksRow.laid) #[.slice none 0 0] 8 (World.laidAll_os _ _ _)
      (World.shaped_of_ZipB (by kernel_rfl) (by kernel_rfl)) (by kernel_rfl) (by kernel_rfl) (by kernel_rfl)
      (by rw [MakeChecks.laidMetH_plain _ _ _ (by kernel_rfl)]; exact laidMet_laidAll _ (by kernel_rfl) (by kernel_rfl))) ?_
  intro W base args ds gs before hval0 hW hcnd hsz0 hL _
  clear hL
  have hW' := hW
  obtain ⟨p, q, hA0, hV, rfl, hfz, hnd⟩ := hW
  have hA : DataW.TrodAll enc Tryd.prog W 0 (fun _ => true) true Tryd.f3.params.toList args.toList ds p := hA0
  rw [pars] at hA
  obtain ⟨v0, vs0, d0, ds0, p0, q0, hargs, rfl, rfl, h0, r0⟩ := trodAll_cons hA
  obtain ⟨rfl, rfl, rfl⟩ := trodAll_nil r0
  obtain rfl : args = #[v0] := by cases args; simp_all
  obtain ⟨rfl, rfl⟩ := trodVars_none hV
  have hval : ∀ (j : Nat) t v, Tryd.f3.params[j]? = some t → (#[v0] : Array Value)[j]? = some v → Value.okWide Tryd.prog W .any base t v := hval0
  obtain ⟨a0, len0, cap0, rfl⟩ := okWide_slice und22 (hval 0 22 v0 (by kernel_rfl) rfl)
  have k0 := h0
  have lt0 : ∀ x ∈ p0, x.block < W.heap.size := by obtain ⟨m, hm⟩ := k0; exact DataW.trod_lt m _ _ _ hm
  have hsz1 : ∀ n ∈ d0.weights Tryd.prog 22, n ≤ reachBytes := fun n hn => by
    have h := List.all_eq_true.1 hsz0 n (by
      rw [pars]
      simp only [List.cons_append, DataW.weightsEach]
      exact List.mem_append_left _ hn)
    simpa using h
  obtain ⟨u0, ht0, hs0⟩ : ∃ t, V W (Lim gz) (.slice a0 len0 cap0) (encSS t) ∧ ∀ s ∈ t, s.size ≤ 140737488351232 := by
    obtain ⟨m, hm⟩ := h0
    exact read_strsW und22 und9 (by kernel_rfl) hm hsz1
  have hVL : VL W gz #[.slice a0 len0 cap0] [encSS u0] := ⟨rfl, fun i hi => by
    match i, hi with
    | 0, _ => exact ht0⟩
  clear hA0 hval0 hsz0
  refine (fn_walk (marks_of u0 hs0) hVL).mono fun e W' ⟨he, bel⟩ => ?_
  subst he
  exact ⟨_, rfl, _, _, _, [], _, [], hW', trodAll_mk1 (shut_bool und4 _), (trodAll_cons_mk (Below.trod laidOut (by kernel_rfl) (of_decide_eq_true (by kernel_rfl)) k0 bel lt0) trodAll_mk0), rfl, bel.frame _, fun h => by cases h⟩
theorem over : Rows.flagMarksRow.holds Tryd.pinned (OpenSpec.ofChange Rows.flagMarksSpec) :=
  OpenClaim.holds_of_wide 3 Tryd.f3 rfl rfl rfl rfl rfl rfl rfl ⟨rfl, rfl, rfl, rfl, rfl⟩ rfl rfl rfl rfl rfl (by kernel_rfl) Tryd.func3 (by kernel_rfl)
    (of_decide_eq_true (by kernel_rfl)) (by unfold Func.isWrapper; first | (rw [if_pos (by decide +kernel)]; kernel_rfl) | (rw [if_neg (by decide +kernel)]; exact ⟨rfl, rfl⟩))
    (fun os started H enc _ => lifted os started H enc)
theorem proved : Rows.FlagMarksCardSaid :=
  Claim7.holds_tied_plain_at .later [] [.data, .pinned] true (true, "616e530c0ec410fca307ce12456bfcfb35b51d2e6514eaab9d3f28b548c7e44f") false over (fun _ h => by cases h) (by kernel_rfl) (fun _ h => by cases h) flagMarks_row_tie rfl ⟨rfl, rfl⟩ (by kernel_rfl) rfl
    (fun f fn hf hfn => by
      obtain rfl : f = 3 := Option.some.inj ((show Tryd.prog.funcNamed "ablaut/ablautlaw10.FlagMarks" = some 3 by kernel_rfl).symm.trans hf) |>.symm
      obtain rfl : fn = Tryd.f3 := (Option.some.inj (Tryd.func3.symm.trans hfn)).symm
      exact ⟨by kernel_rfl, fun j t ht => by
        have hm : t ∈ [22] := by
          have : t ∈ Tryd.f3.params.toList := by simpa using Array.mem_of_getElem? ht
          rw [pars] at this
          simpa using this
        have hall : ([22].all fun u => !Tryd.prog.wantsStandIn u) = true := by kernel_rfl
        exact (show Tryd.prog.wantsStandIn t = false by simpa using List.all_eq_true.1 hall t hm)⟩)
    (by kernel_rfl)
end Go.Proofs.YtpmjfoplpccblaaDoor.flagMarks
