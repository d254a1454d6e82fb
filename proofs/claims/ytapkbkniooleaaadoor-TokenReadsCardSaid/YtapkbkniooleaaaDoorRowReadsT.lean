/- TokenReads answers true: for all texts, the number that is written in words is that of the document. -/
import Derived.Test.YtapkbkniooleaaaDoorRows
import Derived.Test.YtapkbkniooleaaaDoorSq2
import Derived.Test.YtapkbkniooleaaaDoorBrX
import Derived.Test.YtapkbkniooleaaaDoorCards
import Derived.Test.YtapkbkniooleaaaDoorTie
import Derived.LaidMore
import Derived.Lay
import Derived.SevenTiedAt
import Derived.Stop.Joined
import Derived.WalkKit
import Derived.ProofKit
import Derived.OpenShut
import Derived.ShutString
import Derived.ChangeOld
import Derived.Below
import Derived.SizedLaws
import Derived.Lib.LaidTab
import Derived.Stop.LaidErr
import Derived.Shelf.Vars
import Derived.Test.YtapkbkniooleaaaDoorWrapL
namespace Go.Proofs.YtapkbkniooleaaaDoor.tokenReads
open Go.ChangeShapes Go.WideShapes Go.ChangeAt Go.RowKit Go.Proofs.YtapkbkniooleaaaDoor.Vs
set_option linter.unusedVariables false
theorem own : ownKnob Tryd.prog.godebug = none := by kernel_rfl
theorem laidOut : laidOutB Tryd.prog = true := by kernel_rfl
theorem und3 : Tryd.prog.underlying 3 = some (.int .i64) := (TI.out ti3).1
theorem und4 : Tryd.prog.underlying 4 = some .bool := (TI.out ti4).1
theorem und9 : Tryd.prog.underlying 9 = some .string := (TI.out ti9).1
theorem pars : Tryd.f5.params.toList = [9] := by kernel_rfl
set_option maxRecDepth 100000 in
theorem lifted (os : Os) (started : os.Started) (H : Type) (enc : TypeId × Value → H) :
    ReturnsInHanded {} Tryd.checked os 5 .any (fun w args => (Rows.tokenReadsSpec.pre enc Tryd.prog Tryd.f5 Rows.tokenReadsRow.domain false w args ∧ laidMetH Tryd.prog Rows.tokenReadsRow.laid w) ∧ sizedMet enc Tryd.prog Tryd.f5 (OpenSpec.ofChange Rows.tokenReadsSpec) false w args) (Rows.tokenReadsSpec.post enc Tryd.prog Tryd.f5 false true false false) := by
  refine wrap_laid_shaped (C := Tryd.checked) (X := fun w _ => laidMetH Tryd.prog Rows.tokenReadsRow.laid w) (fun _ _ _ hh h => h.of_heap hh) own started (by kernel_rfl) Tryd.func5
    (ChangeSpec.witness_shaped (enc := enc) (C := Tryd.checked) (os := os) (X := fun w _ => laidMetH Tryd.prog Rows.tokenReadsRow.laid w) false (World.laidAll Tryd.prog os Rows.tokenReadsRow.laid) #[.string ⟨#[]⟩] 8 (World.laidAll_os _ _ _)
      (World.shaped_of_ZipB (by kernel_rfl) (by kernel_rfl)) (by kernel_rfl) (by kernel_rfl) (by kernel_rfl)
      (by rw [MakeChecks.laidMetH_plain _ _ _ (by kernel_rfl)]; exact laidMet_laidAll _ (by kernel_rfl) (by kernel_rfl))) ?_
  intro W base args ds gs before hval0 hW hcnd hsz0 hL hSh
  have hT : Lib.TabIs Tryd.prog W "strings.asciiSpace" .u8 Lib.asciiSpaceTab := by
    rw [MakeChecks.laidMetH_plain _ _ _ (by kernel_rfl)] at hL
    refine Lib.tabIs_of_head (g := 1) (by kernel_rfl) (by kernel_rfl) (TI.out ti96).1 (TI.out ti5).1 (by kernel_rfl) (by kernel_rfl) (rest := []) ?_
    have h2 := laidMet.tail hL
    have e : Rows.laid_strings_asciiSpace (H := Unit) = Lib.tabData .u8 Lib.asciiSpaceTab := by kernel_rfl
    rw [← e]
    exact h2
  obtain ⟨mx, hm⟩ := cell_of_shapedOpen_int (g := 0) (t := 3) (zero := #[.int .i64 0]) (k := .i64) hSh (of_decide_eq_true (by kernel_rfl)) (by kernel_rfl) rfl (by kernel_rfl) (by kernel_rfl) und3
  have hTab : TabIn W := fun x hx => by
    rcases List.mem_cons.1 hx with rfl | hx
    · unfold Lib.TabIs World.var? at hT
      rw [show Tryd.prog.globalNamed "strings.asciiSpace" = some 1 by kernel_rfl] at hT
      simp only [Option.bind_some] at hT
      split at hT
      · rename_i cs e t h
        exact ⟨cs, e, t, h, Option.some.inj hT⟩
      · cases hT
    · obtain rfl : x = _ := List.mem_singleton.1 hx
      unfold World.cell? at hm
      split at hm
      · rename_i cs e t h
        exact ⟨cs, e, t, h, mx, by simpa using hm⟩
      · cases hm
  clear hL hT hSh hm
  have hW' := hW
  obtain ⟨p, q, hA0, hV, rfl, hfz, hnd⟩ := hW
  have hA : DataW.TrodAll enc Tryd.prog W 0 (fun _ => true) true Tryd.f5.params.toList args.toList ds p := hA0
  rw [pars] at hA
  obtain ⟨v0, vs0, d0, ds0, p0, q0, hargs, rfl, rfl, h0, r0⟩ := trodAll_cons hA
  obtain ⟨rfl, rfl, rfl⟩ := trodAll_nil r0
  obtain rfl : args = #[v0] := by cases args; simp_all
  obtain ⟨rfl, rfl⟩ := trodVars_none hV
  have hval : ∀ (j : Nat) t v, Tryd.f5.params[j]? = some t → (#[v0] : Array Value)[j]? = some v → Value.okWide Tryd.prog W .any base t v := hval0
  obtain ⟨s0, rfl⟩ := okWide_string und9 (hval 0 9 v0 (by kernel_rfl) rfl)
  have k0 := h0
  have lt0 : ∀ x ∈ p0, x.block < W.heap.size := by obtain ⟨m, hm⟩ := k0; exact DataW.trod_lt m _ _ _ hm
  have ht0 : V W (Lim gz) (.string s0) (.str s0) := by
    obtain ⟨m, hm⟩ := h0
    obtain ⟨s, e, hs⟩ := read_str' und9 hm
    cases e; exact hs
  have hVL : VL W gz #[.string s0] [.str s0] := ⟨rfl, fun i hi => by
    match i, hi with
    | 0, _ => exact ht0⟩
  clear hA0 hval0 hsz0
  refine (fn_walk (readsT_of s0) hVL hTab).mono fun e W' ⟨he, bel⟩ => ?_
  subst he
  exact ⟨_, rfl, _, _, _, [], _, [], hW', trodAll_mk1 (shut_bool und4 _), (trodAll_cons_mk (Below.trod laidOut (by kernel_rfl) (of_decide_eq_true (by kernel_rfl)) k0 bel lt0) trodAll_mk0), rfl, bel.frame _, fun h => by cases h⟩
theorem over : Rows.tokenReadsRow.holds Tryd.pinned (OpenSpec.ofChange Rows.tokenReadsSpec) :=
  OpenClaim.holds_of_wide 5 Tryd.f5 rfl rfl rfl rfl rfl rfl rfl ⟨rfl, rfl, rfl, rfl, rfl⟩ rfl rfl rfl rfl rfl (by kernel_rfl) Tryd.func5 (by kernel_rfl)
    (of_decide_eq_true (by kernel_rfl)) (by unfold Func.isWrapper; first | (rw [if_pos (by decide +kernel)]; kernel_rfl) | (rw [if_neg (by decide +kernel)]; exact ⟨rfl, rfl⟩))
    (fun os started H enc _ => lifted os started H enc)
theorem proved : Rows.TokenReadsCardSaid :=
  Claim7.holds_tied_plain_at .later [] [.listed, .data] true (true, "908e4c0634eb816e35deb3d34000566591607ebdb540ab05f244b915007aa2ef") true over (fun _ h => by cases h) (by kernel_rfl) (fun _ h => by cases h) tokenReads_row_tie rfl ⟨rfl, rfl⟩ (by kernel_rfl) rfl
    (fun f fn hf hfn => by
      obtain rfl : f = 5 := Option.some.inj ((show Tryd.prog.funcNamed "ablaut/ablautlaw17.TokenReads" = some 5 by kernel_rfl).symm.trans hf) |>.symm
      obtain rfl : fn = Tryd.f5 := (Option.some.inj (Tryd.func5.symm.trans hfn)).symm
      exact ⟨by kernel_rfl, fun j t ht => by
        have hm : t ∈ [9] := by
          have : t ∈ Tryd.f5.params.toList := by simpa using Array.mem_of_getElem? ht
          rw [pars] at this
          simpa using this
        have hall : ([9].all fun u => !Tryd.prog.wantsStandIn u) = true := by kernel_rfl
        exact (show Tryd.prog.wantsStandIn t = false by simpa using List.all_eq_true.1 hall t hm)⟩)
    (by kernel_rfl)
end Go.Proofs.YtapkbkniooleaaaDoor.tokenReads
