import Derived.WalkKit
import Derived.Test.YtldlcejlfaogbaaGreatDoorJo2
import Derived.Test.YtldlcejlfaogbaaGreatDoorSo1
import Derived.Test.YtldlcejlfaogbaaGreatDoorLawR1
import Derived.Test.YtldlcejlfaogbaaGreatDoorDmTwo
import Derived.Test.YtldlcejlfaogbaaGreatDoorDmKnown
import Derived.Test.YtldlcejlfaogbaaGreatDoorFnR1
/- numbers of YtldlcejlfaogbaaDoor -/
namespace Go.Proofs.YtldlcejlfaogbaaGreatDoor.Vs
open Go.RowKit
set_option linter.unusedVariables false
set_option linter.unusedSimpArgs false
set_option maxRecDepth 100000
theorem eql29 (A : Option Addr) (n c : Nat) (w : World) : (binOp .eql 23 (.slice A n c) (.slice none 0 0)).run Tryz.prog w = .ok (.bool A.isNone) w := by
  have h := run_equalIn_slice_nil (P := Tryz.prog) w 9999 23 9 A n c ((TI.out ti23).1)
  have h' : (Op.equal 23 (.slice A n c) (.slice none 0 0)).run Tryz.prog w = .ok A.isNone w := h
  simp [binOp, h']
theorem cloneNil_raw (c : Nat) (w : World) : Calls Tryz.prog 45 #[.slice none 0 c] w fun e w' => (∃ A c', e = .returned (.slice A 0 c') ∧ c' ≤ big) ∧ Below w.heap.size w w' := by
  have hE := fun w => eql29 none 0 c w
  simp only [Option.isNone_none] at hE
  go_enter Tryz.func45, Tryz.ntmps45
  go_wp2
  go_ret
  exact ⟨⟨_, _, rfl, by decide⟩, Below.refl _ _⟩
theorem cloneSome_raw (a : Addr) (c : Nat) (w : World) : Calls Tryz.prog 45 #[.slice (some a) 0 c] w fun e w' => (∃ A c', e = .returned (.slice A 0 c') ∧ c' ≤ big) ∧ Below w.heap.size w w' := by
  have hE := fun w => eql29 (some a) 0 c w
  simp only [Option.isNone_some] at hE
  go_enter Tryz.func45, Tryz.ntmps45
  go_wp2
  go_ret
  exact ⟨⟨_, _, rfl, by decide⟩, (Below.refl _ _).alloc (Nat.le_refl _) _⟩
theorem cloneE_c : Fn Zs 45 [encSS []] (encSS []) := by
  obtain ⟨fn, cc, hf, hb, _, _, _, hn, _⟩ := ok45.ok
  refine fn_new (Z := Zs) ⟨fn, hf, by rw [hb]; rfl, hn⟩ fun w s vs hv hW => ?_
  obtain ⟨v0, rfl⟩ : ∃ a, vs = #[a] := by
    obtain ⟨l⟩ := vs
    match l, hv.1 with
    | [a], _ => exact ⟨a, rfl⟩
  have e0 : V w (Lim s) v0 (encSS []) := hv.2 0 (by simp)
  unfold encSS at e0
  cases e0 with
  | sl o n c A cs us hn2 hbg ho h1 hc hvv =>
  have fin : ∀ (A : Option Addr) (c' : Nat) (w' : World), c' ≤ big → V w' (Lim s) (.slice A 0 c') (encSS []) := fun A c' w' hc' => .sl .no 0 c' A [] (fun _ => undef) (Nat.zero_le _) hc' (fun _ => rfl) (fun i hi => by cases hi) (fun i hi => by cases hi) (fun i hi => by cases hi)
  cases A with
  | none => exact (cloneNil_raw c w).mono fun e w' ⟨⟨A, c', he, hc'⟩, hb⟩ => ⟨_, he, fin A c' w' hc', hb⟩
  | some a => exact (cloneSome_raw a c w).mono fun e w' ⟨⟨A, c', he, hc'⟩, hb⟩ => ⟨_, he, fin A c' w' hc', hb⟩
theorem clone_any (w : Wd) (hb : w.length ≤ 100000) : Fn Zs 45 [encSS w] (encSS w) := by
  by_cases h : w = []
  · subst h; exact cloneE_c
  · exact cloneW_c w h hb
end Go.Proofs.YtldlcejlfaogbaaGreatDoor.Vs

/- numbers of YtldlcejlfaogbaaDoor -/
namespace Go.Proofs.YtldlcejlfaogbaaGreatDoor.Vs
open Go.RowKit
set_option linter.unusedVariables false
set_option linter.unusedSimpArgs false
set_option maxRecDepth 20000
/-- A call whose arguments are told as values, for the call alone: nothing of the heap is forgotten. -/
theorem Fn.useV {Z : Sys} {f : FuncId} {ds ds' : List D} {x : D} {σ : Heap} {K : D → Heap → Prop} {h : Keep K} (c : Fn Z f ds' x) (hx : x.plain = true) (hl : ds.length = ds'.length) (ht : ∀ i (h1 : i < ds.length) (h2 : i < ds'.length), Told σ Heap.nil ds[i] ds'[i]) (hb : ∀ d ∈ ds', Bel 0 d) (hk : K x σ) : kCall Z f ds σ K h := by
  have key : PCall Z f ds σ (fun d τ => d = x ∧ τ = σ) := ⟨(c Heap.nil).1, fun w s vs hs hv hW => by
    subst hs
    have hle : HLe Heap.nil s.σ := ⟨Nat.zero_le _, fun r o hr => by cases hr⟩
    have hc : Closed Heap.nil := ⟨fun r o hr => (by cases hr), fun r o hr => (by cases hr)⟩
    refine ((c Heap.nil).2 w ⟨Heap.nil, s.ρ⟩ vs rfl ⟨by rw [hv.1, hl], fun i hi => (ht i (by omega) hi).ok hW hle (hv.2 i (by omega)) (hb _ (List.getElem_mem hi))⟩ (hW.less hle hc)).mono fun e w' ⟨v, d, s', h1, h2, h3, h4, h5, h6⟩ => ?_
    subst h5
    have hblk : ∀ b, b < w.heap.size → w'.heap[b]? = w.heap[b]? := fun b hb => h4.blk b hb (fun r o hr => by cases hr)
    have hE : Ext w s w' s := ⟨h4.os, h4.tape, h4.output, h4.size, Nat.le_refl _, fun _ _ => rfl, fun b hb _ => hblk b hb, fun _ _ h => h, fun r e x hr o v ho hc =>
      ⟨(cell_of_heap (hblk _ (hW.blk hr)) o).trans hc, ((Ext.refl hW).tip r e x hr o v ho hc).2⟩⟩
    exact ⟨v, d, s, h1, h2.plain hx, hW.step hE (fun r o hr => .inl ⟨hr, hblk _ (hW.blk hr)⟩) hW.inj, hE, rfl, rfl⟩⟩
  exact PCall.use key fun d τ ⟨h1, h2⟩ => by rw [h1, h2]; exact hk
theorem rev_take {t : List Sh} {k : Nat} (h : k < t.length) : rev (t.take (k + 1)) = rev (t.take k) ++ [⟨t[k].To, t[k].From⟩] := by
  rw [List.take_succ_eq_append_getElem h]
  simp only [rev, List.map_append, List.map_cons, List.map_nil]
theorem len0_c : Fn Zs 112 [.int .u64 0] (.int .i64 0) := by
  obtain ⟨fn, cc, hf, hb, _, _, _, hn, _⟩ := ok112.ok
  refine fn_below (Z := Zs) ⟨fn, hf, by rw [hb]; rfl, hn⟩ fun W s vs hv hW => ?_
  obtain ⟨v0, rfl⟩ : ∃ a, vs = #[a] := by
    obtain ⟨l⟩ := vs
    match l, hv.1 with
    | [a], _ => exact ⟨a, rfl⟩
  have e0 : V W (Lim s) v0 (.int .u64 0) := hv.2 0 (by simp)
  cases e0
  refine ⟨.int .i64 0, fun w' => .int _ _, ?_⟩
  have L := Tryz.sort41
  refine (Go.Proofs.Any.bits_Len (Go.Proofs.SlLaysF0.n15.bits (P := Tryz.prog) (ρ := Tryz.sort41_ren) { L with }) 0 W (by omega) (by omega)).mono ?_
  rintro e w' ⟨rfl, rfl⟩
  exact ⟨by rfl, Below.refl _ _⟩
theorem pdqNil_c : Fn Zs 111 [.sl .nil 0 [], .int .i64 0, .int .i64 0, .int .i64 0, .func 60 []] (.tup []) := run_ok (T := Tb) (n := 200) (by kernel_rfl) (by kernel_rfl) (by kernel_rfl)
theorem sortNil_c : Fn Zs 59 [.sl .nil 0 [], .func 60 []] (.tup []) := by
  refine fn_of (Z := Zs) ok59 fun σ hcl hbl => ?_
  simp -dsimp only [L59, ↓preB, postB, genB, ↓reduceIte, Nat.reduceEqDiff, Int.reduceToNat, Int.reduceLE, Int.reduceLT, Nat.reduceAdd, Nat.reduceLeDiff, intBin, strBin, unD, extractD, lit1, lit2, lit3, keptD, boxR, D.one, D.pub1, D.cells, splice, cutOwn]
  intro _
  refine Fn.use len0_c ?_
  simp -dsimp only [↓preB, postB, genB, ↓reduceIte, Nat.reduceEqDiff, Int.reduceToNat, Int.reduceLE, Int.reduceLT, Nat.reduceAdd, Nat.reduceLeDiff, intBin, strBin, unD, extractD, lit1, lit2, lit3, keptD, boxR, D.one, D.pub1, D.cells, splice, cutOwn]
  refine Fn.use pdqNil_c ?_
  simp -dsimp only [↓preB, postB, genB, ↓reduceIte, Nat.reduceEqDiff, Int.reduceToNat, Int.reduceLE, Int.reduceLT, Nat.reduceAdd, Nat.reduceLeDiff, intBin, strBin, unD, extractD, lit1, lit2, lit3, keptD, boxR, D.one, D.pub1, D.cells, splice, cutOwn]
  exact Ret.is rfl
end Go.Proofs.YtldlcejlfaogbaaGreatDoor.Vs

/- numbers of YtldlcejlfaogbaaDoor -/
namespace Go.Proofs.YtldlcejlfaogbaaGreatDoor.Vs
open Go.RowKit
set_option linter.unusedVariables false
set_option linter.unusedSimpArgs false
set_option maxRecDepth 20000
theorem ares_tct {Z : Sys} {t a b c r off : Nat} {e : TypeId} {cs : List D} {d : D} {env : Env} {g : Nat → Option AO} {i : TInfo} (hT : Z.T t = some i) (ha : env a = .ptr r off) (hg : g r = some (.cells e cs)) (hp : pack i (cs.drop off) = some d) : ares Z [.tmp b, .cell a t, .tmp c] env g = some (.tup [env b, d, env c]) := by
  simp only [ares, rvs, rv, hT, ha, hg, hp]
theorem pack41 (x y : D) (hx : x.one = true) (hy : y.one = true) : ∀ i, Zs.T 24 = some i → pack i ([x, y].drop 0) = some (.agg [x, y]) := fun i hi => by
  rw [tz24] at hi; cases hi
  simp [pack, hx, hy, TInfo.isAgg]
theorem ab41 : aBuilt Zs 24 [] = some [.sl .nil 0 [], .sl .nil 0 []] := by rfl
end Go.Proofs.YtldlcejlfaogbaaGreatDoor.Vs
