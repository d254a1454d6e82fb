/- The row: orders, over all inputs. -/
import Derived.Test.YthchlpikcpidaaaDoorRows
import Derived.Test.YthchlpikcpidaaaDoorAl2
import Derived.Test.YthchlpikcpidaaaDoorBridge8
import Derived.Test.YthchlpikcpidaaaDoorCards
import Derived.Test.YthchlpikcpidaaaDoorTie
import Derived.LaidMore
import Derived.Lay
import Derived.SevenTiedAt
import Derived.Stop.Joined
import Derived.WalkKit
import Derived.ProofKit
import Derived.OpenShut
import Derived.ShutString
import Derived.ChangeOld
import Derived.Below
import Derived.SizedLaws
namespace Go.Proofs.YthchlpikcpidaaaDoor.guessOrders
open Go.ChangeShapes Go.WideShapes Go.ChangeAt Go.RowKit Go.Proofs.YthchlpikcpidaaaDoor.Vs
set_option linter.unusedVariables false
theorem own : ownKnob Tryd.prog.godebug = none := by kernel_rfl
theorem laidOut : laidOutB Tryd.prog = true := by kernel_rfl
theorem und4 : Tryd.prog.underlying 4 = some .bool := (TI.out ti4).1
theorem und9 : Tryd.prog.underlying 9 = some .string := (TI.out ti9).1
theorem und22 : Tryd.prog.underlying 22 = some (.slice 25) := (TI.out ti22).1
theorem und23 : Tryd.prog.underlying 23 = some (.slice 9) := (TI.out ti23).1
theorem pars : Tryd.f3.params.toList = [22, 25] := by kernel_rfl
set_option maxRecDepth 100000 in
theorem lifted (os : Os) (started : os.Started) (H : Type) (enc : TypeId × Value → H) :
    ReturnsInHanded {} Tryd.checked os 3 .any (fun w args => (Rows.guessOrdersSpec.pre enc Tryd.prog Tryd.f3 Rows.guessOrdersRow.domain false w args ∧ laidMetH Tryd.prog Rows.guessOrdersRow.laid w) ∧ sizedMet enc Tryd.prog Tryd.f3 (OpenSpec.ofChange Rows.guessOrdersSpec) false w args) (Rows.guessOrdersSpec.post enc Tryd.prog Tryd.f3 false true false false) := by
  refine returnsInHanded_of_change_and (C := Tryd.checked) (X := fun w _ => laidMetH Tryd.prog Rows.guessOrdersRow.laid w) (fun _ _ _ hh h => h.of_heap hh) own started (by kernel_rfl) Tryd.func3
    (ChangeSpec.witness_shaped (enc := enc) (C := Tryd.checked) (os := os) (X := fun w _ => laidMetH Tryd.prog Rows.guessOrdersRow.laid w) false (World.laidAll Tryd.prog os Rows.guessOrdersRow.laid) #[.slice none 0 0, .agg #[.slice none 0 0, .string ⟨#[]⟩, .int .i64 0]] 8 (World.laidAll_os _ _ _)
      (World.shaped_of_ZipB (by kernel_rfl) (by kernel_rfl)) (by kernel_rfl) (by kernel_rfl) (by kernel_rfl)
      (by rw [MakeChecks.laidMetH_plain _ _ _ (by kernel_rfl)]; exact laidMet_laidAll _ (by kernel_rfl) (by kernel_rfl))) ?_
  intro W base args ds gs before hval0 hW hcnd hsz0 hL _
  clear hL
  have hW' := hW
  obtain ⟨p, q, hA0, hV, rfl, hfz, hnd⟩ := hW
  have hA : DataW.TrodAll enc Tryd.prog W 0 (fun _ => true) true Tryd.f3.params.toList args.toList ds p := hA0
  rw [pars] at hA
  obtain ⟨v0, vs0, d0, ds0, p0, q0, hargs, rfl, rfl, h0, r0⟩ := trodAll_cons hA
  obtain ⟨v1, vs1, d1, ds1, p1, q1, rfl, rfl, rfl, h1, r1⟩ := trodAll_cons r0
  obtain ⟨rfl, rfl, rfl⟩ := trodAll_nil r1
  obtain rfl : args = #[v0, v1] := by cases args; simp_all
  obtain ⟨rfl, rfl⟩ := trodVars_none hV
  have hval : ∀ (j : Nat) t v, Tryd.f3.params[j]? = some t → (#[v0, v1] : Array Value)[j]? = some v → Value.okWide Tryd.prog W .any base t v := hval0
  obtain ⟨a0, len0, cap0, rfl⟩ := okWide_slice und22 (hval 0 22 v0 (by kernel_rfl) rfl)
  obtain ⟨cs1, rfl, csz1⟩ := okWide_struct (TI.out ti25).1 (hval 1 25 v1 (by kernel_rfl) rfl)
  have k0 := h0
  have k1 := h1
  have lt0 : ∀ x ∈ p0, x.block < W.heap.size := by obtain ⟨m, hm⟩ := k0; exact DataW.trod_lt m _ _ _ hm
  have lt1 : ∀ x ∈ p1, x.block < W.heap.size := by obtain ⟨m, hm⟩ := k1; exact DataW.trod_lt m _ _ _ hm
  obtain ⟨u0, ht0⟩ : ∃ t, V W (Lim gz) (.slice a0 len0 cap0) (Vs.encS t) := by
    obtain ⟨m, hm⟩ := h0
    exact read_samples und22 (TI.out ti25).1 (by kernel_rfl) rfl rfl rfl (by kernel_rfl) (by kernel_rfl) (by kernel_rfl) und23 und9 (by kernel_rfl) und9 (TI.out ti3).1 hm
  obtain ⟨u1, ht1⟩ : ∃ c, V W (Lim gz) (.agg cs1) (Vs.aggS c) := by
    obtain ⟨m, hm⟩ := h1
    exact read_sample (TI.out ti25).1 rfl rfl rfl (by kernel_rfl) (by kernel_rfl) (by kernel_rfl) und23 und9 (by kernel_rfl) und9 (TI.out ti3).1 (csz1.trans (by kernel_rfl)) hm
  have hVL : VL W gz #[.slice a0 len0 cap0, .agg cs1] [Vs.encS u0, Vs.aggS u1] := ⟨rfl, fun i hi => by
    match i, hi with
    | 0, _ => exact ht0
    | 1, _ => exact ht1⟩
  clear hA0 hval0 hsz0
  refine (fn_walk (orders_c u0 u1) hVL).mono fun e W' ⟨he, bel⟩ => ?_
  subst he
  exact ⟨_, rfl, _, _, _, [], _, [], hW', trodAll_mk1 (shut_bool und4 _), (trodAll_cons_mk (Below.trod laidOut (by kernel_rfl) (of_decide_eq_true (by kernel_rfl)) k0 bel lt0) (trodAll_cons_mk (Below.trod laidOut (by kernel_rfl) (of_decide_eq_true (by kernel_rfl)) k1 bel lt1) trodAll_mk0)), rfl, bel.frame _, fun h => by cases h⟩
theorem over : Rows.guessOrdersRow.holds Tryd.pinned (OpenSpec.ofChange Rows.guessOrdersSpec) :=
  OpenClaim.holds_of_wide 3 Tryd.f3 rfl rfl rfl rfl rfl rfl rfl ⟨rfl, rfl, rfl, rfl, rfl⟩ rfl rfl rfl rfl rfl (by kernel_rfl) Tryd.func3 (by kernel_rfl)
    (of_decide_eq_true (by kernel_rfl)) (by unfold Func.isWrapper; first | (rw [if_pos (by decide +kernel)]; kernel_rfl) | (rw [if_neg (by decide +kernel)]; exact ⟨rfl, rfl⟩))
    (fun os started H enc _ => lifted os started H enc)
theorem proved : Rows.GuessOrdersCardSaid :=
  Claim7.holds_tied_plain_at .later [] [.data, .pinned] true (true, "e21e77fd5e66c521683828f0f9de2bc7f20d57f234f191b55999183e30164275") false over (fun _ h => by cases h) (by kernel_rfl) (fun _ h => by cases h) guessOrders_row_tie rfl ⟨rfl, rfl⟩ (by kernel_rfl) rfl
    (fun f fn hf hfn => by
      obtain rfl : f = 3 := Option.some.inj ((show Tryd.prog.funcNamed "ablaut/ablautlaw18.GuessOrders" = some 3 by kernel_rfl).symm.trans hf) |>.symm
      obtain rfl : fn = Tryd.f3 := (Option.some.inj (Tryd.func3.symm.trans hfn)).symm
      exact ⟨by kernel_rfl, fun j t ht => by
        have hm : t ∈ [22, 25] := by
          have : t ∈ Tryd.f3.params.toList := by simpa using Array.mem_of_getElem? ht
          rw [pars] at this
          simpa using this
        have hall : ([22, 25].all fun u => !Tryd.prog.wantsStandIn u) = true := by kernel_rfl
        exact (show Tryd.prog.wantsStandIn t = false by simpa using List.all_eq_true.1 hall t hm)⟩)
    (by kernel_rfl)
end Go.Proofs.YthchlpikcpidaaaDoor.guessOrders
