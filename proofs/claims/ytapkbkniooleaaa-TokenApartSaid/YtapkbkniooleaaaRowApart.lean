/- TokenApart answers true: for all cutters and texts, tokens do not overlap, between them there are blanks alone, their texts stand in the text, and joined they are the text. -/
import Derived.Test.YtapkbkniooleaaaRows
import Derived.Test.YtapkbkniooleaaaLawApart
import Derived.Test.YtapkbkniooleaaaBrX
import Derived.WalkKit
import Derived.ProofKit
import Derived.OpenShut
import Derived.ShutString
import Derived.ChangeOld
import Derived.Below
import Derived.SizedLaws
namespace Go.Proofs.Ytapkbkniooleaaa.tokenApart
open Go.ChangeShapes Go.WideShapes Go.ChangeAt Go.RowKit Go.Proofs.Ytapkbkniooleaaa.Vs
set_option linter.unusedVariables false
theorem own : ownKnob Try.prog.godebug = none := by kernel_rfl
theorem laidOut : laidOutB Try.prog = true := by kernel_rfl
theorem und4 : Try.prog.underlying 4 = some .bool := (TI.out ti4).1
theorem und9 : Try.prog.underlying 9 = some .string := (TI.out ti9).1
theorem und22 : Try.prog.underlying 22 = some (.slice 9) := (TI.out ti22).1
theorem pars : Try.f4.params.toList = [24, 9] := by kernel_rfl
set_option maxRecDepth 100000 in
theorem lifted (os : Os) (started : os.Started) (H : Type) (enc : TypeId × Value → H) :
    ReturnsInHanded {} Try.checked os 4 .any (Rows.tokenApartSpec.pre6 enc Try.prog Try.f4 Rows.tokenApartRow.domain false) (Rows.tokenApartSpec.post enc Try.prog Try.f4 false true false false) := by
  refine returnsInHanded_of_change_sized (C := Try.checked) own started (by kernel_rfl) Try.func4
    (ChangeSpec.witness6 (enc := enc) (C := Try.checked) false ⟨#[], #[.agg #[.slice none 0 0, .slice none 0 0, .slice none 0 0, .slice none 0 0], .string ⟨#[]⟩], []⟩ 8 (by kernel_rfl) (by kernel_rfl) (by kernel_rfl) (by kernel_rfl)) ?_
  intro W base args ds gs before hval0 hW hcnd hsz0 _
  have hW' := hW
  obtain ⟨p, q, hA0, hV, rfl, hfz, hnd⟩ := hW
  have hA : DataW.TrodAll enc Try.prog W 0 (fun _ => true) true Try.f4.params.toList args.toList ds p := hA0
  rw [pars] at hA
  obtain ⟨v0, vs0, d0, ds0, p0, q0, hargs, rfl, rfl, h0, r0⟩ := trodAll_cons hA
  obtain ⟨v1, vs1, d1, ds1, p1, q1, rfl, rfl, rfl, h1, r1⟩ := trodAll_cons r0
  obtain ⟨rfl, rfl, rfl⟩ := trodAll_nil r1
  obtain rfl : args = #[v0, v1] := by cases args; simp_all
  obtain ⟨rfl, rfl⟩ := trodVars_none hV
  have hval : ∀ (j : Nat) t v, Try.f4.params[j]? = some t → (#[v0, v1] : Array Value)[j]? = some v → Value.okWide Try.prog W .any base t v := hval0
  obtain ⟨cs0, rfl, csz0⟩ := okWide_struct (TI.out ti24).1 (hval 0 24 v0 (by kernel_rfl) rfl)
  obtain ⟨s1, rfl⟩ := okWide_string und9 (hval 1 9 v1 (by kernel_rfl) rfl)
  have k0 := h0
  have k1 := h1
  have lt0 : ∀ x ∈ p0, x.block < W.heap.size := by obtain ⟨m, hm⟩ := k0; exact DataW.trod_lt m _ _ _ hm
  have lt1 : ∀ x ∈ p1, x.block < W.heap.size := by obtain ⟨m, hm⟩ := k1; exact DataW.trod_lt m _ _ _ hm
  have hwt0 : ∀ n ∈ d0.weights Try.prog 24, n ≤ reachBytes := fun n hn => by
    have h := List.all_eq_true.1 hsz0 n (by
      rw [pars]
      exact weights_each (i := 0) rfl rfl hn)
    simpa using h
  obtain ⟨u0, ht0, hb0⟩ : ∃ c, V W (Lim gz) (.agg cs0) (encC c) ∧ ∀ l ∈ lsC c, ∀ s ∈ l, s.size ≤ 140737488351232 := by
    obtain ⟨m, hm⟩ := h0
    exact read_cutter (TI.out ti24).1 (by kernel_rfl) rfl rfl rfl rfl rfl rfl rfl rfl (by kernel_rfl) und22 und9 (by kernel_rfl) (csz0.trans (by kernel_rfl)) hm hwt0
  have ht1 : V W (Lim gz) (.string s1) (.str s1) := by
    obtain ⟨m, hm⟩ := h1
    obtain ⟨s, e, hs⟩ := read_str' und9 hm
    cases e; exact hs
  have hVL : VL W gz #[.agg cs0, .string s1] [encC u0, .str s1] := ⟨rfl, fun i hi => by
    match i, hi with
    | 0, _ => exact ht0
    | 1, _ => exact ht1⟩
  clear hA0 hval0 hsz0
  refine (fn_walk (apart_of u0 s1 hb0) hVL).mono fun e W' ⟨he, bel⟩ => ?_
  subst he
  exact ⟨_, rfl, _, _, _, [], _, [], hW', trodAll_mk1 (shut_bool und4 _), (trodAll_cons_mk (Below.trod laidOut (by kernel_rfl) (of_decide_eq_true (by kernel_rfl)) k0 bel lt0) (trodAll_cons_mk (Below.trod laidOut (by kernel_rfl) (of_decide_eq_true (by kernel_rfl)) k1 bel lt1) trodAll_mk0)), rfl, bel.frame _, fun h => by cases h⟩
theorem over : Rows.tokenApartRow.holds Try.pinned (OpenSpec.ofChange Rows.tokenApartSpec) :=
  OpenClaim.holds_of_wide 4 Try.f4 rfl rfl rfl rfl rfl rfl rfl ⟨rfl, rfl, rfl, rfl, rfl⟩ rfl rfl rfl rfl rfl (by kernel_rfl) Try.func4 (by kernel_rfl)
    (of_decide_eq_true (by kernel_rfl)) (by unfold Func.isWrapper; first | (rw [if_pos (by decide +kernel)]; kernel_rfl) | (rw [if_neg (by decide +kernel)]; exact ⟨rfl, rfl⟩))
    (fun os started H enc _ => lifted os started H enc)
theorem proved : Rows.TokenApartSaid := over
end Go.Proofs.Ytapkbkniooleaaa.tokenApart
