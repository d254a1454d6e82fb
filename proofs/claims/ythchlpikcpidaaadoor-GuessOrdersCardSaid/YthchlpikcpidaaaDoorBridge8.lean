/- numbers of YthchlpikcpidaaaDoor -/
import Derived.Test.YthchlpikcpidaaaDoorBridge3
namespace Go.Proofs.YthchlpikcpidaaaDoor.Vs
open Go.RowKit
set_option linter.unusedVariables false
set_option linter.unusedSimpArgs false
section
variable {H : Type} {enc : TypeId × Value → H} {P : Program} {w : World}
theorem read_sample {t : TypeId} {f0 f1 f2 : Field} {s : TypeId} {fuel : Nat} {cs : Array Value} {x : DataW H × List MemPlace} (ht : P.underlying t = some (.struct #[f0, f1, f2]))
    (o0 : f0.offset = 0) (o1 : f1.offset = 1) (o2 : f2.offset = 2) (c0 : P.cellsOf f0.type = 1) (c1 : P.cellsOf f1.type = 1) (c2 : P.cellsOf f2.type = 1)
    (u0 : P.underlying f0.type = some (.slice s)) (us : P.underlying s = some .string) (cse : P.cellsOf s = 1) (u1 : P.underlying f1.type = some .string) (u2 : P.underlying f2.type = some (.int .i64)) (hsz : cs.size = 3)
    (h : DataW.trod enc P w 0 (fun _ => true) true fuel t (Value.agg cs).cells.toList = some x) : ∃ c : Smp, V w (Lim gz) (.agg cs) (aggS c) := by
  have hcells : (Value.agg cs).cells.toList = cs.toList := rfl
  rw [hcells] at h
  obtain ⟨xs, k, _, hx, hlen, hxl, hf⟩ := DataW.trod_struct ht h
  obtain ⟨v0, v1, v2, rfl⟩ : ∃ a b c, cs = #[a, b, c] := by
    obtain ⟨l⟩ := cs
    match l, hsz with
    | [a, b, c], _ => exact ⟨a, b, c, rfl⟩
  match xs, hxl with
  | [y0, y1, y2], _ =>
    have q0 := hf 0 f0 rfl
    have q1 := hf 1 f1 rfl
    have q2 := hf 2 f2 rfl
    simp only [o0, o1, o2, c0, c1, c2, List.drop_zero, List.drop_succ_cons, List.take_succ_cons, List.take_zero, List.getElem?_cons_zero, List.getElem?_cons_succ] at q0 q1 q2
    obtain ⟨wd, r0⟩ := read_strs u0 us cse q0
    obtain ⟨tg, _, r1⟩ := read_str u1 q1
    obtain ⟨mn, _, r2⟩ := read_int u2 q2
    refine ⟨⟨wd, tg, mn⟩, .agg _ _ rfl (fun v hv => ?_) (fun i hi => ?_)⟩
    · simp only [List.mem_cons, List.not_mem_nil, or_false] at hv
      rcases hv with rfl | rfl | rfl
      · exact (r0.one rfl).1
      · exact (r1.one rfl).1
      · exact (r2.one rfl).1
    · match i, hi with
      | 0, _ => exact r0
      | 1, _ => exact r1
      | 2, _ => exact r2
end
end Go.Proofs.YthchlpikcpidaaaDoor.Vs
