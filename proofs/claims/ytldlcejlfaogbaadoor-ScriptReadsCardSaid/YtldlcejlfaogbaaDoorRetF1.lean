/- numbers of YtldlcejlfaogbaaDoor -/
/- A word that may be empty, cloned. -/
import Derived.WalkKit
import Derived.Test.YtldlcejlfaogbaaDoorJoF4
namespace Go.Proofs.YtldlcejlfaogbaaDoor.Vs
open Go.RowKit
set_option linter.unusedVariables false
set_option linter.unusedSimpArgs false
set_option maxRecDepth 100000
theorem eql29 (A : Option Addr) (n c : Nat) (w : World) : (binOp .eql 29 (.slice A n c) (.slice none 0 0)).run Tryd.prog w = .ok (.bool A.isNone) w := by
  have h := run_equalIn_slice_nil (P := Tryd.prog) w 9999 29 9 A n c ((TI.out ti29).1)
  have h' : (Op.equal 29 (.slice A n c) (.slice none 0 0)).run Tryd.prog w = .ok A.isNone w := h
  simp [binOp, h']
theorem cloneNil_raw (c : Nat) (w : World) : Calls Tryd.prog 23 #[.slice none 0 c] w fun e w' => (∃ A c', e = .returned (.slice A 0 c') ∧ c' ≤ big) ∧ Below w.heap.size w w' := by
  have hE := fun w => eql29 none 0 c w
  simp only [Option.isNone_none] at hE
  go_enter Tryd.func23, Tryd.ntmps23
  go_wp2
  go_ret
  exact ⟨⟨_, _, rfl, by decide⟩, Below.refl _ _⟩
theorem cloneSome_raw (a : Addr) (c : Nat) (w : World) : Calls Tryd.prog 23 #[.slice (some a) 0 c] w fun e w' => (∃ A c', e = .returned (.slice A 0 c') ∧ c' ≤ big) ∧ Below w.heap.size w w' := by
  have hE := fun w => eql29 (some a) 0 c w
  simp only [Option.isNone_some] at hE
  go_enter Tryd.func23, Tryd.ntmps23
  go_wp2
  go_ret
  exact ⟨⟨_, _, rfl, by decide⟩, (Below.refl _ _).alloc (Nat.le_refl _) _⟩
theorem cloneE_c : Fn Zs 23 [encSS []] (encSS []) := by
  obtain ⟨fn, cc, hf, hb, _, _, _, hn, _⟩ := ok23.ok
  refine fn_new (Z := Zs) ⟨fn, hf, by rw [hb]; rfl, hn⟩ fun w s vs hv hW => ?_
  obtain ⟨v0, rfl⟩ : ∃ a, vs = #[a] := by
    obtain ⟨l⟩ := vs
    match l, hv.1 with
    | [a], _ => exact ⟨a, rfl⟩
  have e0 : V w (Lim s) v0 (encSS []) := hv.2 0 (by simp)
  unfold encSS at e0
  cases e0 with
  | sl o n c A cs us hn2 hbg ho h1 hc hvv =>
  have fin : ∀ (A : Option Addr) (c' : Nat) (w' : World), c' ≤ big → V w' (Lim s) (.slice A 0 c') (encSS []) := fun A c' w' hc' => .sl .no 0 c' A [] (fun _ => undef) (Nat.zero_le _) hc' (fun _ => rfl) (fun i hi => by cases hi) (fun i hi => by cases hi) (fun i hi => by cases hi)
  cases A with
  | none => exact (cloneNil_raw c w).mono fun e w' ⟨⟨A, c', he, hc'⟩, hb⟩ => ⟨_, he, fin A c' w' hc', hb⟩
  | some a => exact (cloneSome_raw a c w).mono fun e w' ⟨⟨A, c', he, hc'⟩, hb⟩ => ⟨_, he, fin A c' w' hc', hb⟩
theorem clone_any (w : Wd) (hb : w.length ≤ 100000) : Fn Zs 23 [encSS w] (encSS w) := by
  by_cases h : w = []
  · subst h; exact cloneE_c
  · exact cloneW_c w h hb
end Go.Proofs.YtldlcejlfaogbaaDoor.Vs
