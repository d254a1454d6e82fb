import Derived.RangeFuncBox
import Derived.RangeFuncLeaves
import Derived.RangeFuncBound
import Derived.Shelf.Abstract
import Derived.WalkKit
import Derived.OwnWalkIn
import Derived.TacticsInMore
import Derived.LoopNIn
import Derived.LoopIn
import Derived.Maps.AppendAt
import Derived.Test.YtapkbkniooleaaaTkD1
import Derived.Sort.OwnSorted
import Derived.Shelf.SortM.Plain
import Derived.Shelf.SortM.SortNone
import Derived.Test.YtapkbkniooleaaaTkB
/- numbers of Ytapkbkniooleaaa -/
namespace Go.Proofs.Ytapkbkniooleaaa.Vs
open Go.RowKit Go.Shelf
set_option linter.unusedVariables false
set_option linter.unusedSimpArgs false
attribute [local go_sem] Oper.semAt_some
theorem take_snoc (l : Wd) (k : Nat) (h : k < l.length) : l.take (k + 1) = l.take k ++ [l.getD k ByteArray.empty] := by
  rw [List.take_succ_eq_append_getElem h, List.getD_eq_getElem?_getD, List.getElem?_eq_getElem h]; rfl
set_option maxRecDepth 100000 in
set_option maxHeartbeats 2000000 in
/-- The closure of slices.Values, for every loop body that keeps what lay below n₀. -/
theorem values1_in (F : Fence) (n : Nat) (h48 : F.fn 48) (hro : F.round = none) (hn : 1 ≤ n) (l Bs Bo n₀ b off cap : Nat) (zs : Wd) (hreach : zs.length * 16 ≤ 140737488351232) (hb : b < n₀) (J Jx : Wd → World → Prop)
    (hY : ∀ pre x W, J pre W → pre.length < zs.length → YieldAt F (n - 1) Try.prog l #[.string x] W fun e W' =>
      (e = .returned (.bool true) ∧ J (pre ++ [x]) W' ∧ Below n₀ W W') ∨ (e = .returned (.bool false) ∧ Jx (pre ++ [x]) W'))
    (W : World) (hBs : W.cell? ⟨Bs, Bo, none⟩ = some (.slice (some ⟨b, off, none⟩) zs.length cap)) (hc : ∀ j, j < zs.length → W.cell? ⟨b, off + j, none⟩ = some (.string (zs.getD j ByteArray.empty))) (h0 : J [] W) :
    CallsIn F n Try.prog 48 #[.func (.yield l) #[] #[], .pointer (some ⟨Bs, Bo, none⟩)] W fun e W' => (∃ v, e = .returned v) ∧
      ((∃ ys, ys = zs ∧ J ys W') ∨ (∃ pre, pre <+: zs ∧ Jx pre W')) := by
  have htk := fun k h => take_snoc zs k h
  have hta : zs.take zs.length = zs := List.take_length
  have htl : ∀ k, k ≤ zs.length → (zs.take k).length = k := fun k hk => by rw [List.length_take]; omega
  have htp : ∀ k, zs.take k <+: zs := fun k => List.take_prefix k zs
  generalize zs.length = len at *
  refine callsIn_of_wp Try.func48 rfl h48 ?_ hro
  simp only [Try.ntmps48, List.size_toArray, List.length_cons, List.length_nil, Nat.reduceAdd, Nat.reduceSub, Array.replicate_succ, Array.replicate_zero, List.push_toArray, List.append_toArray, List.nil_append, List.cons_append]
  gi_wp2
  gi_loopw [7] (fun i wr => ∃ k : Nat, k ≤ len ∧ i = .int .i64 k ∧ J (zs.take k) wr ∧ Below n₀ W wr)
    (fun i _ => len - (intOf i).toNat)
  case atStart => exact ⟨0, Nat.zero_le _, rfl, h0, Below.refl _ _⟩
  case round =>
    obtain ⟨k, hk, rfl, hJs, hnx⟩ := hrel
    by_cases hlt : k < len
    · have hcx : wr.cell? ⟨b, off + k, none⟩ = some (.string (zs.getD k ByteArray.empty)) := (hnx.cell (p := ⟨b, off + k, none⟩) hb).trans (hc k hlt)
      have hnext := htk k hlt
      generalize zs.getD k ByteArray.empty = x at hcx hnext
      obtain ⟨fn, tmps, assign, body, hy, hR⟩ := hY _ x wr hJs (by rw [htl k hk]; exact hlt)
      clear hc htk htl
      gi_wp2
      refine hR.mono ?_
      rintro e W3 (⟨rfl, hJ3, hk3⟩ | ⟨rfl, hJx3⟩)
      · gi_wp2
        go_roundw
        case rel => exact ⟨k + 1, by omega, by simp, by rw [hnext]; exact hJ3, hnx.trans hk3⟩
        case measure => simp [intOf]; omega
      · gi_wp2
        refine bodyPost_ret (results_none rfl _ _ _) rfl ?_
        exact ⟨⟨_, rfl⟩, .inr ⟨_, by rw [← hnext]; exact htp _, hJx3⟩⟩
    · obtain rfl : k = len := by omega
      clear hc htk htl
      gi_wp2
      go_end0
      exact ⟨⟨_, rfl⟩, .inl ⟨_, hta, hJs⟩⟩
set_option maxRecDepth 100000 in
set_option maxHeartbeats 1000000 in
/-- .. at a slice of nothing: no round. -/
theorem values1_none_in (F : Fence) (n : Nat) (h48 : F.fn 48) (hro : F.round = none) (l Bs Bo : Nat) (A : Option Addr) (c : Nat) (J : Wd → World → Prop) (W : World) (hBs : W.cell? ⟨Bs, Bo, none⟩ = some (.slice A 0 c)) (h0 : J [] W) :
    CallsIn F n Try.prog 48 #[.func (.yield l) #[] #[], .pointer (some ⟨Bs, Bo, none⟩)] W fun e W' => (∃ v, e = .returned v) ∧ J [] W' := by
  refine callsIn_of_wp Try.func48 rfl h48 ?_ hro
  simp only [Try.ntmps48, List.size_toArray, List.length_cons, List.length_nil, Nat.reduceAdd, Nat.reduceSub, Array.replicate_succ, Array.replicate_zero, List.push_toArray, List.append_toArray, List.nil_append, List.cons_append]
  gi_wp2
  gi_loopw [7] (fun i wr => i = .int .i64 0 ∧ J [] wr) (fun _ _ => 0)
  case atStart => exact ⟨rfl, h0⟩
  case round =>
    obtain ⟨rfl, hJs⟩ := hrel
    gi_wp2
    go_end0
    exact ⟨⟨_, rfl⟩, hJs⟩
/-- The slice sv holds the texts zs, in a block below n₀. -/
def StrsAt (n₀ : Nat) (W : World) (sv : Value) (zs : Wd) : Prop :=
  (∃ A c, sv = .slice A 0 c ∧ zs = []) ∨ ∃ b off cap, sv = .slice (some ⟨b, off, none⟩) zs.length cap ∧ b < n₀ ∧ ∀ j, j < zs.length → W.cell? ⟨b, off + j, none⟩ = some (.string (zs.getD j ByteArray.empty))
theorem StrsAt.below {n₀ : Nat} {A B : World} (h : Below n₀ A B) {sv : Value} {zs : Wd} : StrsAt n₀ A sv zs → StrsAt n₀ B sv zs
  | .inl e => .inl e
  | .inr ⟨b, off, cap, e, hb, hc⟩ => .inr ⟨b, off, cap, e, hb, fun j hj => (h.cell (p := ⟨b, off + j, none⟩) hb).trans (hc j hj)⟩
theorem values_stops (F : Fence) (n : Nat) (h48 : F.fn 48) (hro : F.round = none) (hn : 1 ≤ n) (Bs Bo n₀ : Nat) (sv : Value) (zs : Wd) (hreach : zs.length * 16 ≤ 140737488351232) (w : World) (hBs : Bs < w.heap.size) (hn₀ : n₀ ≤ w.heap.size)
    (hc : w.cell? ⟨Bs, Bo, none⟩ = some sv) (hI : StrsAt n₀ w sv zs) :
    SeqStopsK F n Try.prog 48 #[.pointer (some ⟨Bs, Bo, none⟩)] (fun x : ByteArray => #[Value.string x]) (Below n₀) (fun ys => ys = zs) (fun pre => pre <+: zs) zs.length w := fun l J Jx W hW _ _ hY h0 => by
  have hc' := (hW.cell (p := ⟨Bs, Bo, none⟩) hBs).trans hc
  rcases hI.below (hW.mono hn₀) with ⟨A, c, rfl, rfl⟩ | ⟨b, off, cap, rfl, hb, hcs⟩
  · exact (values1_none_in F n h48 hro l Bs Bo A c J W hc' h0).mono fun e W' ⟨he, hj⟩ => ⟨he, .inl ⟨_, rfl, hj⟩⟩
  · exact values1_in F n h48 hro hn l Bs Bo n₀ b off cap zs hreach hb J Jx hY W hc' hcs h0
end Go.Proofs.Ytapkbkniooleaaa.Vs

/- numbers of Ytapkbkniooleaaa -/
namespace Go.Proofs.Ytapkbkniooleaaa.Vs
open Go.RowKit Go.Shelf Go.Sort Go.Maps
set_option linter.unusedVariables false
set_option linter.unusedSimpArgs false
attribute [local go_sem] Oper.semAt_some
def Try.sort47_ren : Go.Shelf.Ren := ⟨fun | 6 => 47 | 8 => 64 | 9 => 63 | 19 => 78 | 20 => 79 | 21 => 69 | 22 => 70 | 23 => 71 | 24 => 72 | 25 => 73 | 26 => 74 | 27 => 75 | 28 => 76 | 29 => 77 | 36 => 81 | 31 => 82 | 32 => 83 | 37 => 84 | 38 => 85 | 39 => 86 | 41 => 88 | n => n, fun | 27 => 22 | 29 => 9 | 3 => 3 | 32 => 95 | 26 => 22 | 0 => 0 | 44 => 107 | 46 => 109 | 4 => 4 | 36 => 100 | 35 => 99 | 41 => 104 | 5 => 5 | 9 => 9 | 53 => 111 | 57 => 115 | 63 => 117 | 64 => 118 | n => n, fun | n => n⟩
theorem Try.sort47 : Go.Proofs.SlLaysM.n6 Try.prog Try.sort47_ren := {
  mixed := by kernel_rfl
  f6 := ⟨Try.f47.name, by decide, Try.func47.trans (congrArg some (by kernel_rfl))⟩
  f8 := Try.func64.trans (congrArg some (by kernel_rfl))
  f9 := ⟨Try.f63.name, by decide, Try.func63.trans (congrArg some (by kernel_rfl))⟩
  f19 := Try.func78.trans (congrArg some (by kernel_rfl))
  f20 := Try.func79.trans (congrArg some (by kernel_rfl))
  f21 := ⟨Try.f69.name, by decide, Try.func69.trans (congrArg some (by kernel_rfl))⟩
  f22 := ⟨Try.f70.name, by decide, Try.func70.trans (congrArg some (by kernel_rfl))⟩
  f23 := ⟨Try.f71.name, by decide, Try.func71.trans (congrArg some (by kernel_rfl))⟩
  f24 := ⟨Try.f72.name, by decide, Try.func72.trans (congrArg some (by kernel_rfl))⟩
  f25 := ⟨Try.f73.name, by decide, Try.func73.trans (congrArg some (by kernel_rfl))⟩
  f26 := ⟨Try.f74.name, by decide, Try.func74.trans (congrArg some (by kernel_rfl))⟩
  f27 := ⟨Try.f75.name, by decide, Try.func75.trans (congrArg some (by kernel_rfl))⟩
  f28 := ⟨Try.f76.name, by decide, Try.func76.trans (congrArg some (by kernel_rfl))⟩
  f29 := ⟨Try.f77.name, by decide, Try.func77.trans (congrArg some (by kernel_rfl))⟩
  f31 := Try.func82.trans (congrArg some (by kernel_rfl))
  f32 := Try.func83.trans (congrArg some (by kernel_rfl))
  f36 := ⟨Try.f81.name, by decide, Try.func81.trans (congrArg some (by kernel_rfl))⟩
  f37 := ⟨Try.f84.name, by decide, Try.func84.trans (congrArg some (by kernel_rfl))⟩
  f38 := ⟨Try.f85.name, by decide, Try.func85.trans (congrArg some (by kernel_rfl))⟩
  f39 := ⟨Try.f86.name, by decide, Try.func86.trans (congrArg some (by kernel_rfl))⟩
  f41 := ⟨Try.f88.name, by decide, Try.func88.trans (congrArg some (by kernel_rfl))⟩
  t0 := Try.underlying0
  a0 := Try.isAgg0
  z0 := Try.sizeOf0
  v0 := Try.zeroValue0
  t3 := Try.underlying3
  a3 := Try.isAgg3
  z3 := Try.sizeOf3
  v3 := Try.zeroValue3
  t4 := Try.underlying4
  a4 := Try.isAgg4
  z4 := Try.sizeOf4
  v4 := Try.zeroValue4
  t5 := Try.underlying5
  a5 := Try.isAgg5
  z5 := Try.sizeOf5
  v5 := Try.zeroValue5
  t9 := Try.underlying9
  a9 := Try.isAgg9
  z9 := Try.sizeOf9
  v9 := Try.zeroValue9
  t26 := Try.underlying22
  a26 := Try.isAgg22
  z26 := Try.sizeOf22
  v26 := Try.zeroValue22
  t27 := Try.underlying22
  a27 := Try.isAgg22
  z27 := Try.sizeOf22
  v27 := Try.zeroValue22
  t29 := Try.underlying9
  a29 := Try.isAgg9
  z29 := Try.sizeOf9
  v29 := Try.zeroValue9
  t32 := Try.underlying95
  a32 := Try.isAgg95
  z32 := Try.sizeOf95
  v32 := Try.zeroValue95
  t35 := Try.underlying99
  a35 := Try.isAgg99
  z35 := Try.sizeOf99
  v35 := Try.zeroValue99
  t36 := Try.underlying100
  a36 := Try.isAgg100
  z36 := Try.sizeOf100
  v36 := Try.zeroValue100
  t41 := Try.underlying104
  a41 := Try.isAgg104
  z41 := Try.sizeOf104
  v41 := Try.zeroValue104
  t44 := Try.underlying107
  a44 := Try.isAgg107
  z44 := Try.sizeOf107
  v44 := Try.zeroValue107
  t46 := Try.underlying109
  a46 := Try.isAgg109
  z46 := Try.sizeOf109
  v46 := Try.zeroValue109
  t53 := Try.underlying111
  a53 := Try.isAgg111
  z53 := Try.sizeOf111
  v53 := Try.zeroValue111
  t57 := Try.underlying115
  a57 := Try.isAgg115
  z57 := Try.sizeOf115
  v57 := Try.zeroValue115
  t63 := Try.underlying117
  a63 := Try.isAgg117
  z63 := Try.sizeOf117
  v63 := Try.zeroValue117
  t64 := Try.underlying118
  a64 := Try.isAgg118
  z64 := Try.sizeOf118
  v64 := Try.zeroValue118 }
theorem infoT9 : (Try.prog.info? 9).map (fun i => (i.zero, i.size, i.bytes)) = some (some (.string ⟨#[]⟩), 1, 16) := by kernel_rfl
set_option maxRecDepth 100000 in
set_option maxHeartbeats 2000000 in
theorem appendSeq_in (F : Fence) (n : Nat) (h62 : F.fn 62) (h48 : F.fn 48) (hro : F.round = none) (hn : 3 ≤ n) (Bs Bo : Nat) (sv : Value) (zs : Wd) (hlen : zs.length ≤ 100000000) (w : World) (hBs : Bs < w.heap.size) (hc : w.cell? ⟨Bs, Bo, none⟩ = some sv) (hI : StrsAt w.heap.size w sv zs) :
    CallsIn F n Try.prog 62 #[.slice none 0 0, .func (.func 48) #[] #[.pointer (some ⟨Bs, Bo, none⟩)]] w fun e W' => ∃ v, e = .returned v ∧ W'.ownsRow w.heap.size 9 1 v zs.length (zs.map Value.string) ∧ (v = .slice none 0 0 ↔ zs = []) ∧ Below w.heap.size w W' := by
  have h1 : 1 ≤ n := by omega
  obtain ⟨i0, hi, hz0, hz1, hz2⟩ := info_parts infoT9
  refine callsIn_of_wp_marks Try.func62 rfl h62 ?_ hro
  simp only [Try.ntmps62, List.size_toArray, List.length_cons, List.length_nil, Nat.reduceAdd, Nat.reduceSub, Array.replicate_succ, Array.replicate_zero, List.push_toArray, List.append_toArray, List.nil_append, List.cons_append]
  gi_wp2
  have bO := Boxed.new w 22 (.slice none 0 0)
  have hB0 : Below w.heap.size w (w.alloc (.cells #[.slice none 0 0] 22)) := (Below.refl _ w).alloc (Nat.le_refl _) _
  refine wpIn_rangeFunc_ownG hro h1 (gf := 48) (lb := #[.pointer (some ⟨Bs, Bo, none⟩)]) rfl h48 (enters_of Try.func48 (by kernel_rfl) rfl)
    (values_stops F (n - 1) h48 hro (by omega) Bs Bo w.heap.size sv zs (by omega) _ (by simp; omega) (by simp) ((hB0.cell (p := ⟨Bs, Bo, none⟩) hBs).trans hc) (hI.below hB0)) belowK_t (belowK_b (by simp)) (Below.refl _ _) (fun _ => rfl)
    (fun pre W => (∃ v, Boxed W w.heap.size 22 v ∧ W.ownsRow w.heap.size 9 1 v pre.length (pre.map Value.string) ∧ (v = .slice none 0 0 ↔ pre = [])) ∧ Below w.heap.size w W)
    (fun _ _ _ => False)
    (OwnFrom.and (Own.from (holdsRow_own w.heap.size w.heap.size 22 9 1 (fun pre => pre.length) (fun pre => pre.map Value.string) (fun pre v => v = .slice none 0 0 ↔ pre = [])) _) (ownFrom_below (Nat.le_refl _) (by simp)))
    (fun _ _ _ _ _ hs _ _ => hs)
    ⟨⟨_, bO, World.ownsRow_nil _ _ _ _, by simp⟩, hB0⟩
    (fun x => { tmps := #[.slice none 0 0, .func (.func 48) #[] #[.pointer (some ⟨Bs, Bo, none⟩)], .pointer (some ⟨w.heap.size, 0, none⟩), undef, .slice none 0 0, .string x, .func (.func 48) #[] #[.pointer (some ⟨Bs, Bo, none⟩)], .string x, undef, undef, undef, undef, undef], defers := [] }) ?assign ?body ?done ?stop
  case assign =>
    intro l x W K hK
    gi_wp2
    exact hK
  case body =>
    rintro l pre x W ⟨⟨v, hv, hrow, hnil⟩, hB⟩ hlt
    have hc := hv.cell
    gi_wp2_with (gi_at_builtin; refine wpListIn_append_own _ rfl _ _ 22 rfl w.heap.size 9 i0 (.string ⟨#[]⟩) 1 16 Try.underlying22 hi hz0 hz1 hz2 rfl (by decide) _ _ _ rfl (hrow.alloc _) ⟨W.heap.size, 0, none⟩ 1 1 [.string x] rfl rfl (cell_one_new _ _ _) (by simp [Value.oneCell']) (by simp [maxLen]; omega) (by omega) (by have := hB.size; simp; omega) ?_; intro v' w1 hown' hgrow _; obtain ⟨g', cap', rfl⟩ := ownsRow_succ hown'; obtain ⟨hv1, hv2, hr2, hk2, hb2⟩ := hv.appended (by decide) hrow hB.size (Nat.le_refl _) hown' hgrow; have hc1 := hv1.cell; have hf1 := hv1.frozen)
    exact ⟨hk2.from _, hb2, ⟨_, hv2, by simpa using hr2, by simp⟩, hB.trans hb2⟩
  case done =>
    rintro D ys W hD rfl ⟨⟨v, hv, hrow, hnil⟩, hB⟩ hK
    have hc := hv.cell
    gi_wp2
    refine ⟨by simp, .inl ⟨_, _, rfl, run_takeDeferred hK, ?_⟩⟩
    exact ⟨_, results_tmp rfl _ _ _, v, rfl, ownsRow_putObj hrow _ hK rfl, hnil, hB.trans (belowK_b (w := w) (Nat.le_refl _) W D _ _ (by simp at hD; omega) hK rfl rfl)⟩
  case stop =>
    rintro D c pre W _ _ h _
    exact h.elim
theorem collect_in (F : Fence) (n : Nat) (h46 : F.fn 46) (h62 : F.fn 62) (h48 : F.fn 48) (hro : F.round = none) (hn : 4 ≤ n) (Bs Bo : Nat) (sv : Value) (zs : Wd) (hlen : zs.length ≤ 100000000) (w : World) (hBs : Bs < w.heap.size) (hc : w.cell? ⟨Bs, Bo, none⟩ = some sv) (hI : StrsAt w.heap.size w sv zs) :
    CallsIn F n Try.prog 46 #[.func (.func 48) #[] #[.pointer (some ⟨Bs, Bo, none⟩)]] w fun e W' => ∃ v, e = .returned v ∧ W'.ownsRow w.heap.size 9 1 v zs.length (zs.map Value.string) ∧ (v = .slice none 0 0 ↔ zs = []) ∧ Below w.heap.size w W' := by
  have h1 : 1 ≤ n := by omega
  have cA := appendSeq_in F (n - 1) h62 h48 hro (by omega) Bs Bo sv zs hlen w hBs hc hI
  clear hI hc
  refine callsIn_of_wp Try.func46 rfl h46 ?_ hro
  simp only [Try.ntmps46, List.size_toArray, List.length_cons, List.length_nil, Nat.reduceAdd, Nat.reduceSub, Array.replicate_succ, Array.replicate_zero, List.push_toArray, List.append_toArray, List.nil_append, List.cons_append]
  gi_wp2_with (gi_at_call 62; refine cA.mono ?_; rintro e W ⟨v, rfl, hrow, hnil, hb⟩)
  go_ret
  exact ⟨v, rfl, hrow, hnil, hb⟩
/-- Texts as the sort reads them. -/
def bss (zs : Wd) : List (List UInt8) := zs.map fun x => x.data.toList
theorem bss_enc (zs : Wd) : (bss zs).map encStr = zs.map Value.string := by
  simp only [bss, List.map_map]
  refine List.map_congr_left fun x _ => ?_
  cases x
  simp [encStr]
theorem sorted_in (F : Fence) (n : Nat) (h25 : F.fn 25) (h46 : F.fn 46) (h47 : F.fn 47) (h62 : F.fn 62) (h48 : F.fn 48) (hro : F.round = none) (hn : 5 ≤ n) (hwide : F = Fence.wide) (Bs Bo : Nat) (sv : Value) (zs : Wd) (hlen : zs.length ≤ 100000000) (w : World) (hBs : Bs < w.heap.size) (hc : w.cell? ⟨Bs, Bo, none⟩ = some sv) (hI : StrsAt w.heap.size w sv zs) :
    CallsIn F n Try.prog 25 #[.func (.func 48) #[] #[.pointer (some ⟨Bs, Bo, none⟩)]] w fun e W' => ∃ v, e = .returned v ∧ W'.ownsRow w.heap.size 9 1 v zs.length (((bss zs).mergeSort fun x y => decide (x ≤ y)).map encStr) ∧ (v = .slice none 0 0 ↔ zs = []) ∧ Below w.heap.size w W' := by
  subst hwide
  have h1 : 1 ≤ n := by omega
  have cA := collect_in Fence.wide (n - 1) h46 h62 h48 hro (by omega) Bs Bo sv zs hlen w hBs hc hI
  clear hI hc
  have hbl : (bss zs).length = zs.length := by simp [bss]
  refine callsIn_of_wp Try.func25 rfl h25 ?_ hro
  simp only [Try.ntmps25, List.size_toArray, List.length_cons, List.length_nil, Nat.reduceAdd, Nat.reduceSub, Array.replicate_succ, Array.replicate_zero, List.push_toArray, List.append_toArray, List.nil_append, List.cons_append]
  gi_wp2_with (gi_at_call 46; refine cA.mono ?_; rintro e W ⟨v, rfl, hrow, hnil, hb⟩)
  rw [← bss_enc, ← hbl] at hrow
  rcases hrow.2 with ⟨rfl, hz⟩ | ⟨gb, cap, cur, rfl, hbase, hgb, r1, r2, r3, r4⟩
  · have hss : bss zs = [] := List.eq_nil_of_length_eq_zero hz
    have cS : CallsIn Fence.wide (n - 1) Try.prog 47 #[.slice none 0 0] W fun e w' => e = .returned (.tuple #[]) ∧ w' = W := callsIn_wide.2 (AnyM.slices_Sort_string_none Try.sort47 none 0 W)
    gi_wp2_with (gi_at_call 47; refine cS.mono ?_; rintro e w' ⟨rfl, rfl⟩)
    go_ret
    refine ⟨.slice none 0 0, rfl, ?_, ⟨fun _ => hnil.1 trivial, fun _ => rfl⟩, hb⟩
    rw [hss] at hrow ⊢
    rw [← hbl, hss]
    simpa using hrow
  · have hH : Holds encStr W gb 0 (bss zs).toArray := holds_of_block hgb (by simpa using r4)
    have hgl : gb < W.heap.size := (Array.getElem?_eq_some_iff.1 hgb).1
    have cS : CallsIn Fence.wide (n - 1) Try.prog 47 #[.slice (some ⟨gb, 0, none⟩) (bss zs).length cap] W _ := callsIn_wide.2 (AnyM.slices_Sort_string Try.sort47 gb 0 cap (bss zs) W hH hgl (by omega))
    gi_wp2_with (gi_at_call 47; refine cS.mono ?_; rintro e w' ⟨rfl, nn, os, rfl⟩)
    go_ret
    refine ⟨.slice (some ⟨gb, 0, none⟩) zs.length cap, rfl, ?_, by rw [← hbl]; exact hnil, hb.grown (grownBy_sorted _) hb.size (fun j hj => by cases hj; exact hbase)⟩
    rw [← hbl]
    exact ownsRow_sorted (by simp) hbase hgb r1 r2 r3
end Go.Proofs.Ytapkbkniooleaaa.Vs

/- numbers of Ytapkbkniooleaaa -/
namespace Go.Proofs.Ytapkbkniooleaaa.Vs
open Go.RowKit Go.Shelf Go.Sort Go.Maps
set_option linter.unusedVariables false
set_option linter.unusedSimpArgs false
set_option maxRecDepth 100000
/-- The texts in order. -/
def srtW (l : Wd) : Wd := ((bss l).mergeSort fun x y => decide (x ≤ y)).map fun x => ⟨x.toArray⟩
theorem srtW_len (l : Wd) : (srtW l).length = l.length := by simp [srtW, bss]
theorem srtW_enc (l : Wd) : ((bss l).mergeSort fun x y => decide (x ≤ y)).map encStr = (srtW l).map Value.string := by
  simp only [srtW, List.map_map]
  rfl
theorem srtW_big {l : Wd} {n : Nat} (h : ∀ x ∈ l, x.size ≤ n) : ∀ x ∈ srtW l, x.size ≤ n := fun x hx => by
  simp only [srtW, List.mem_map] at hx
  obtain ⟨y, hy, rfl⟩ := hx
  have hy2 := (List.mergeSort_perm _ _).mem_iff.1 hy
  simp only [bss, List.mem_map] at hy2
  obtain ⟨z, hz, rfl⟩ := hy2
  exact h z hz
theorem strs_of {w : World} {s : GH} {o : Own} {l : Wd} {v : Value} (h : V w (Lim s) v (.sl o l.length (l.map .str))) : StrsAt w.heap.size w v l ∧ ∀ x ∈ l, x.size ≤ big := by
  cases h with
  | sl _ _ c A _ us hn hb ho h1 hc hv =>
  have hus : ∀ i (h : i < l.length), us i = .string l[i] ∧ l[i].size ≤ big := fun i hi => by
    have := hv i (by simpa using hi)
    rw [List.getElem_map] at this
    generalize us i = u at this
    cases this with
    | str _ hs => exact ⟨rfl, hs⟩
  refine ⟨?_, fun x hx => ?_⟩
  · by_cases h0 : l = []
    · subst h0
      exact .inl ⟨A, c, rfl, rfl⟩
    · have hpos : 0 < l.length := List.length_pos_iff.2 h0
      obtain ⟨a, rfl, hc0, _⟩ := hc 0 (by simpa using hpos)
      obtain ⟨b, o, sp⟩ := a
      cases sp with
      | some q =>
        have := cell_spot hc0
        unfold Addr.add at this
        rw [if_pos rfl] at this
        cases this
      | none =>
        rw [addr_add] at hc0
        refine .inr ⟨b, o, c, by rfl, cell_lt hc0, fun j hj => ?_⟩
        obtain ⟨a', ha', hcj, _⟩ := hc j (by simpa using hj)
        cases ha'
        rw [addr_add] at hcj
        rw [hcj, (hus j hj).1, List.getD_eq_getElem?_getD, List.getElem?_eq_getElem hj]
        rfl
  · obtain ⟨i, hi, rfl⟩ := List.getElem_of_mem hx
    exact (hus i hi).2
theorem Sorted_p (l : Wd) (r : Nat) (σ : Heap) (hl : l.length ≤ 100000000) (hr : σ.get r = some (.cells 22 [encSS l])) :
    PCall Zs 25 [.func 48 [.ptr r 0]] σ (fun d τ => (l = [] ∧ d = .sl .nil 0 [] ∧ τ = σ) ∨ (l ≠ [] ∧ d = .row σ.next 0 l.length none 1 ∧ τ = σ.new (.cells 9 ((srtW l).map .str)))) := by
  obtain ⟨fn, cc, hf, hb, _, _, _, hn, _⟩ := ok25.ok
  refine ⟨⟨fn, hf, by rw [hb]; rfl, hn⟩, fun w s vs hs hv hW => ?_⟩
  subst hs
  obtain ⟨v0, rfl⟩ : ∃ a, vs = #[a] := by
    obtain ⟨l⟩ := vs
    match l, hv.1 with
    | [a], _ => exact ⟨a, rfl⟩
  have e0 : V w (Lim s) v0 (.func 48 [.ptr r 0]) := hv.2 0 (by simp)
  cases e0 with
  | func _ ps _ hpl hpv =>
  obtain ⟨p, rfl⟩ : ∃ a, ps = #[a] := by
    obtain ⟨l⟩ := ps
    match l, hpl with
    | [a], _ => exact ⟨a, rfl⟩
  have e1 : V w (Lim s) p (.ptr r 0) := hpv 0 (by simp)
  cases e1 with
  | ptr _ _ hlt =>
  rw [Lim_ρ, Nat.add_zero]
  obtain ⟨arr, harr, hcap, hbc, hone, hvs⟩ := hW.obj r _ hr
  have hblk := hW.blk hr
  have hv0 := hvs 0 (by simp)
  rw [Nat.add_zero] at hv0
  have hsz : (s.ρ r).base < arr.size := by simp at hcap; omega
  have hcell : w.cell? ⟨(s.ρ r).blk, (s.ρ r).base, none⟩ = some (arr.getD (s.ρ r).base undef) := by
    simp [World.cell?, harr, hsz, Array.getD]
  obtain ⟨hI, hbig⟩ := strs_of (l := l) hv0
  have hcall := (callsIn_wide (n := 6)).1 (sorted_in Fence.wide 6 trivial trivial trivial trivial trivial rfl (by omega) rfl (s.ρ r).blk (s.ρ r).base _ l hl w hblk hcell hI)
  refine hcall.mono ?_
  rintro e W' ⟨v, rfl, hrow, hnil, hB⟩
  rw [srtW_enc] at hrow
  by_cases h0 : l = []
  · have := hnil.2 h0
    subst this
    exact ⟨_, .sl .nil 0 [], s, rfl, .sl .nil 0 0 none [] (fun _ => undef) (Nat.le_refl _) (Nat.zero_le _) ⟨rfl, rfl, rfl⟩ (fun i hi => absurd hi (by simp)) (fun i hi => absurd hi (by simp)) (fun i hi => absurd hi (by simp)), hW.of_below hB, Ext.of_below hW hB, .inl ⟨h0, rfl, rfl⟩⟩
  · rcases hrow.2 with ⟨rfl, hz⟩ | ⟨gb, cap, cur, rfl, hbase, hgb, r1, r2, r3, r4⟩
    · exact absurd (hnil.1 rfl) h0
    · rw [Nat.mul_one] at r3 r4
      have hlen := srtW_len l
      have hcl : (srtW l).length ≤ cur.toList.length := by simp; omega
      have hcur : ∀ i (h : i < (srtW l).length), cur.getD i undef = .string (srtW l)[i] := fun i hi => by
        have h2 : (cur.toList.take l.length)[i]? = ((srtW l).map Value.string)[i]? := by rw [r4]
        rw [List.getElem?_take, if_pos (by omega), List.getElem?_map, List.getElem?_eq_getElem hi] at h2
        have hci : i < cur.size := by simp at hcl; omega
        simp [hci] at h2
        simp [Array.getD, hci, h2]
      have hE : Ext w s W' (s.push (.cells 9 ((srtW l).map .str)) ⟨gb, 0, cap⟩) := Ext.own hW _ ⟨gb, 0, cap⟩ hbase rfl rfl (fun _ _ h => h) hB.os hB.tape hB.output hB.size (fun b hb => hB.block b hb)
      have hW' : W (s.push (.cells 9 ((srtW l).map .str)) ⟨gb, 0, cap⟩) W' := by
        refine hW.own _ ⟨gb, 0, cap⟩ hbase rfl rfl (fun _ _ h => h) hE (fun b hb => hB.block b hb) ⟨cur, ?_, ?_, ?_, fun i hi => ?_, fun i hi => ?_⟩
        · rw [push_ρ_new]; exact hgb
        · rw [push_ρ_new]; simp; omega
        · rw [push_ρ_new]; simp; omega
        · rw [push_ρ_new]
          simp only [Nat.zero_add]
          rw [hcur i (by simpa using hi)]
          rfl
        · rw [push_ρ_new]
          simp only [Nat.zero_add, List.getElem_map]
          rw [hcur i (by simpa using hi)]
          exact .str _ (srtW_big hbig _ (List.getElem_mem _))
      refine ⟨_, .row s.σ.next 0 l.length none 1, _, rfl, new_row r1 (by unfold maxLen at r2; simp only [big]; omega) (by simp only [CapOK]; omega) rfl, hW', hE, .inr ⟨h0, rfl, rfl⟩⟩
end Go.Proofs.Ytapkbkniooleaaa.Vs
