/- numbers of YtldlcejlfaogbaaDoor -/
import Derived.Test.YtldlcejlfaogbaaGreatDoorRetF1
import Derived.Test.YtldlcejlfaogbaaGreatDoorMgB
import Derived.Test.YtldlcejlfaogbaaGreatDoorLawReturnsA
import Derived.Test.YtldlcejlfaogbaaGreatDoorDmTwo
import Derived.Test.YtldlcejlfaogbaaGreatDoorDmKnown
namespace Go.Proofs.YtldlcejlfaogbaaGreatDoor.Vs
open Go.RowKit
set_option linter.unusedVariables false
set_option linter.unusedSimpArgs false
set_option maxRecDepth 20000
/-- A call whose arguments are told as values, for the call alone: nothing of the heap is forgotten. -/
theorem Fn.useV {Z : Sys} {f : FuncId} {ds ds' : List D} {x : D} {σ : Heap} {K : D → Heap → Prop} {h : Keep K} (c : Fn Z f ds' x) (hx : x.plain = true) (hl : ds.length = ds'.length) (ht : ∀ i (h1 : i < ds.length) (h2 : i < ds'.length), Told σ Heap.nil ds[i] ds'[i]) (hb : ∀ d ∈ ds', Bel 0 d) (hk : K x σ) : kCall Z f ds σ K h := by
  have key : PCall Z f ds σ (fun d τ => d = x ∧ τ = σ) := ⟨(c Heap.nil).1, fun w s vs hs hv hW => by
    subst hs
    have hle : HLe Heap.nil s.σ := ⟨Nat.zero_le _, fun r o hr => by cases hr⟩
    have hc : Closed Heap.nil := ⟨fun r o hr => (by cases hr), fun r o hr => (by cases hr)⟩
    refine ((c Heap.nil).2 w ⟨Heap.nil, s.ρ⟩ vs rfl ⟨by rw [hv.1, hl], fun i hi => (ht i (by omega) hi).ok hW hle (hv.2 i (by omega)) (hb _ (List.getElem_mem hi))⟩ (hW.less hle hc)).mono fun e w' ⟨v, d, s', h1, h2, h3, h4, h5, h6⟩ => ?_
    subst h5
    have hblk : ∀ b, b < w.heap.size → w'.heap[b]? = w.heap[b]? := fun b hb => h4.blk b hb (fun r o hr => by cases hr)
    have hE : Ext w s w' s := ⟨h4.os, h4.tape, h4.output, h4.size, Nat.le_refl _, fun _ _ => rfl, fun b hb _ => hblk b hb, fun _ _ h => h, fun r e x hr o v ho hc =>
      ⟨(cell_of_heap (hblk _ (hW.blk hr)) o).trans hc, ((Ext.refl hW).tip r e x hr o v ho hc).2⟩⟩
    exact ⟨v, d, s, h1, h2.plain hx, hW.step hE (fun r o hr => .inl ⟨hr, hblk _ (hW.blk hr)⟩) hW.inj, hE, rfl, rfl⟩⟩
  exact PCall.use key fun d τ ⟨h1, h2⟩ => by rw [h1, h2]; exact hk
theorem len0_c : Fn Zs 112 [.int .u64 0] (.int .i64 0) := by
  obtain ⟨fn, cc, hf, hb, _, _, _, hn, _⟩ := ok112.ok
  refine fn_below (Z := Zs) ⟨fn, hf, by rw [hb]; rfl, hn⟩ fun W s vs hv hW => ?_
  obtain ⟨v0, rfl⟩ : ∃ a, vs = #[a] := by
    obtain ⟨l⟩ := vs
    match l, hv.1 with
    | [a], _ => exact ⟨a, rfl⟩
  have e0 : V W (Lim s) v0 (.int .u64 0) := hv.2 0 (by simp)
  cases e0
  refine ⟨.int .i64 0, fun w' => .int _ _, ?_⟩
  have L := Tryz.sort41
  refine (Go.Proofs.Any.bits_Len (Go.Proofs.SlLaysF0.n15.bits (P := Tryz.prog) (ρ := Tryz.sort41_ren) { L with }) 0 W (by omega) (by omega)).mono ?_
  rintro e w' ⟨rfl, rfl⟩
  exact ⟨by rfl, Below.refl _ _⟩
end Go.Proofs.YtldlcejlfaogbaaGreatDoor.Vs
