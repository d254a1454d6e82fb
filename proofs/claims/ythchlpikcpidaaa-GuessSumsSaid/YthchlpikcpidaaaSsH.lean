/- numbers of Ythchlpikcpidaaa -/
import Derived.Shelf.SortM.Plain
import Derived.Shelf.SortM.SortNone
import Derived.Test.YthchlpikcpidaaaOrdW
import Derived.Test.YthchlpikcpidaaaSsC
namespace Go.Proofs
open Go.Shelf
def Try.sort39_ren : Go.Shelf.Ren := ⟨fun | 6 => 39 | 8 => 57 | 9 => 56 | 19 => 78 | 20 => 79 | 21 => 69 | 22 => 70 | 23 => 71 | 24 => 72 | 25 => 73 | 26 => 74 | 27 => 75 | 28 => 76 | 29 => 77 | 36 => 84 | 31 => 85 | 32 => 86 | 37 => 87 | 38 => 88 | 39 => 89 | 41 => 93 | n => n, fun | 27 => 23 | 29 => 9 | 3 => 3 | 32 => 89 | 26 => 23 | 0 => 0 | 44 => 114 | 46 => 116 | 4 => 4 | 36 => 107 | 35 => 106 | 41 => 80 | 5 => 5 | 9 => 9 | 53 => 118 | 57 => 122 | 63 => 127 | 64 => 69 | n => n, fun | n => n⟩
theorem Try.sort39 : Go.Proofs.SlLaysM.n6 Try.prog Try.sort39_ren := {
  mixed := by kernel_rfl
  f6 := ⟨Try.f39.name, by decide, Try.func39.trans (congrArg some (by kernel_rfl))⟩
  f8 := Try.func57.trans (congrArg some (by kernel_rfl))
  f9 := ⟨Try.f56.name, by decide, Try.func56.trans (congrArg some (by kernel_rfl))⟩
  f19 := Try.func78.trans (congrArg some (by kernel_rfl))
  f20 := Try.func79.trans (congrArg some (by kernel_rfl))
  f21 := ⟨Try.f69.name, by decide, Try.func69.trans (congrArg some (by kernel_rfl))⟩
  f22 := ⟨Try.f70.name, by decide, Try.func70.trans (congrArg some (by kernel_rfl))⟩
  f23 := ⟨Try.f71.name, by decide, Try.func71.trans (congrArg some (by kernel_rfl))⟩
  f24 := ⟨Try.f72.name, by decide, Try.func72.trans (congrArg some (by kernel_rfl))⟩
  f25 := ⟨Try.f73.name, by decide, Try.func73.trans (congrArg some (by kernel_rfl))⟩
  f26 := ⟨Try.f74.name, by decide, Try.func74.trans (congrArg some (by kernel_rfl))⟩
  f27 := ⟨Try.f75.name, by decide, Try.func75.trans (congrArg some (by kernel_rfl))⟩
  f28 := ⟨Try.f76.name, by decide, Try.func76.trans (congrArg some (by kernel_rfl))⟩
  f29 := ⟨Try.f77.name, by decide, Try.func77.trans (congrArg some (by kernel_rfl))⟩
  f31 := Try.func85.trans (congrArg some (by kernel_rfl))
  f32 := Try.func86.trans (congrArg some (by kernel_rfl))
  f36 := ⟨Try.f84.name, by decide, Try.func84.trans (congrArg some (by kernel_rfl))⟩
  f37 := ⟨Try.f87.name, by decide, Try.func87.trans (congrArg some (by kernel_rfl))⟩
  f38 := ⟨Try.f88.name, by decide, Try.func88.trans (congrArg some (by kernel_rfl))⟩
  f39 := ⟨Try.f89.name, by decide, Try.func89.trans (congrArg some (by kernel_rfl))⟩
  f41 := ⟨Try.f93.name, by decide, Try.func93.trans (congrArg some (by kernel_rfl))⟩
  t0 := Try.underlying0
  a0 := Try.isAgg0
  z0 := Try.sizeOf0
  v0 := Try.zeroValue0
  t3 := Try.underlying3
  a3 := Try.isAgg3
  z3 := Try.sizeOf3
  v3 := Try.zeroValue3
  t4 := Try.underlying4
  a4 := Try.isAgg4
  z4 := Try.sizeOf4
  v4 := Try.zeroValue4
  t5 := Try.underlying5
  a5 := Try.isAgg5
  z5 := Try.sizeOf5
  v5 := Try.zeroValue5
  t9 := Try.underlying9
  a9 := Try.isAgg9
  z9 := Try.sizeOf9
  v9 := Try.zeroValue9
  t26 := Try.underlying23
  a26 := Try.isAgg23
  z26 := Try.sizeOf23
  v26 := Try.zeroValue23
  t27 := Try.underlying23
  a27 := Try.isAgg23
  z27 := Try.sizeOf23
  v27 := Try.zeroValue23
  t29 := Try.underlying9
  a29 := Try.isAgg9
  z29 := Try.sizeOf9
  v29 := Try.zeroValue9
  t32 := Try.underlying89
  a32 := Try.isAgg89
  z32 := Try.sizeOf89
  v32 := Try.zeroValue89
  t35 := Try.underlying106
  a35 := Try.isAgg106
  z35 := Try.sizeOf106
  v35 := Try.zeroValue106
  t36 := Try.underlying107
  a36 := Try.isAgg107
  z36 := Try.sizeOf107
  v36 := Try.zeroValue107
  t41 := Try.underlying80
  a41 := Try.isAgg80
  z41 := Try.sizeOf80
  v41 := Try.zeroValue80
  t44 := Try.underlying114
  a44 := Try.isAgg114
  z44 := Try.sizeOf114
  v44 := Try.zeroValue114
  t46 := Try.underlying116
  a46 := Try.isAgg116
  z46 := Try.sizeOf116
  v46 := Try.zeroValue116
  t53 := Try.underlying118
  a53 := Try.isAgg118
  z53 := Try.sizeOf118
  v53 := Try.zeroValue118
  t57 := Try.underlying122
  a57 := Try.isAgg122
  z57 := Try.sizeOf122
  v57 := Try.zeroValue122
  t63 := Try.underlying127
  a63 := Try.isAgg127
  z63 := Try.sizeOf127
  v63 := Try.zeroValue127
  t64 := Try.underlying69
  a64 := Try.isAgg69
  z64 := Try.sizeOf69
  v64 := Try.zeroValue69 }
end Go.Proofs
namespace Go.Proofs.Ythchlpikcpidaaa.Vs
open Go.Shelf Go.RowKit Go.Sort
set_option linter.unusedVariables false
set_option linter.unusedSimpArgs false
set_option maxRecDepth 100000
theorem mapBlock_otherS (w : World) (blk : Nat) (f : Array Value → Array Value) (b : Nat) (h : b ≠ blk) : (mapBlock w blk f).heap[b]? = w.heap[b]? := by
  simp only [mapBlock, Array.getElem?_modify]
  rw [if_neg (fun e => h e.symm)]
theorem mapBlock_sameS (w : World) (blk : Nat) (f : Array Value → Array Value) {arr : Array Value} {e : TypeId} {fr : Nat × Nat} (h : w.heap[blk]? = some (.cells arr e fr)) : (mapBlock w blk f).heap[blk]? = some (.cells (f arr) e fr) := by
  simp [mapBlock, Array.getElem?_modify, h, onCells]
def bytesA (l : List ByteArray) : Array (List UInt8) := (l.map fun x => x.data.toList).toArray
theorem bytesA_size (l : List ByteArray) : (bytesA l).size = l.length := by simp [bytesA]
theorem bytesA_get {l : List ByteArray} {i : Nat} (h : i < l.length) : encStr (bytesA l)[i]! = .string l[i] := by
  have : (bytesA l)[i]! = l[i].data.toList := by
    rw [getElem!_pos (bytesA l) i (by rw [bytesA_size]; exact h)]
    simp [bytesA]
  rw [this]
theorem putCells_sizeS (base : Nat) (F : Array (List UInt8)) (arr : Array Value) : (putCells encStr base F arr).size = arr.size := by simp [putCells]
theorem putCells_getS (base : Nat) (F : Array (List UInt8)) (arr : Array Value) (j : Nat) (h : j < arr.size) : (putCells encStr base F arr).getD j undef = if base ≤ j ∧ j < base + F.size then encStr F[j - base]! else arr.getD j undef := by
  rw [Array.getD_eq_getD_getElem?, Array.getD_eq_getD_getElem?]
  simp only [putCells, Array.getElem?_mapIdx, Array.getElem?_eq_getElem h, Option.map_some, Option.getD_some]
theorem row_world {w : World} {s : GH} {q : Nat} {e : TypeId} {l l' : List ByteArray} {js : List D} (hW : W s w) (hq : s.σ.get q = some (.cells e (cellsT l js))) (hp : l'.Perm l)
    {arr : Array Value} (ha : w.heap[(s.ρ q).blk]? = some (.cells arr e (0, 0))) (hcap : (cellsT l js).length ≤ (s.ρ q).cap) (hbc : (s.ρ q).base + (s.ρ q).cap ≤ arr.size) (hone : ∀ i, i < (cellsT l js).length → (arr.getD ((s.ρ q).base + i) undef).oneCell' = true)
    (hvs : ∀ i (h : i < (cellsT l js).length), V w (Lim s) (arr.getD ((s.ρ q).base + i) undef) (cellsT l js)[i]) (hbig : ∀ x ∈ l, x.size ≤ big) (k : Nat) (os : Array Obj) :
    W (s.put q (.cells e (cellsT l' js))) (grow (putRow encStr (Sort.ahead w k) (s.ρ q).blk (s.ρ q).base (bytesA l')) os) ∧ Ext w s (grow (putRow encStr (Sort.ahead w k) (s.ρ q).blk (s.ρ q).base (bytesA l')) os) (s.put q (.cells e (cellsT l' js))) := by
  have hl : l'.length = l.length := hp.length_eq
  have hcs : (cellsT l js).length = l.length + js.length := cellsT_len _ _
  have hcs' : (cellsT l' js).length = l.length + js.length := by rw [cellsT_len, hl]
  have hWa := hW.drawn (w.drawn + k)
  have hEa := Ext.drawn hW (w.drawn + k)
  obtain ⟨wa, hwa⟩ : ∃ wa : World, wa = { w with drawn := w.drawn + k } := ⟨_, rfl⟩
  have hah : Sort.ahead w k = wa := hwa.symm
  rw [← hwa] at hWa hEa
  rw [hah]
  have haa : wa.heap[(s.ρ q).blk]? = some (.cells arr e (0, 0)) := by rw [hwa]; exact ha
  obtain ⟨w1, hw1⟩ : ∃ w1, w1 = putRow encStr wa (s.ρ q).blk (s.ρ q).base (bytesA l') := ⟨_, rfl⟩
  have hw1' : w1 = mapBlock wa (s.ρ q).blk (putCells encStr (s.ρ q).base (bytesA l')) := hw1
  have hoth : ∀ b, b ≠ (s.ρ q).blk → w1.heap[b]? = wa.heap[b]? := fun b hb => by rw [hw1']; exact mapBlock_otherS _ _ _ _ hb
  have hE1 : Ext wa s w1 (s.put q (.cells e (cellsT l' js))) := put_heap hWa hq (by rw [hw1']; simp [mapBlock]) (by rw [hw1']; rfl) (by rw [hw1']; rfl) (by rw [hw1']; rfl) hoth (by simp)
  have hobj : ObjOK w1 (s.put q (.cells e (cellsT l' js))) q (.cells e (cellsT l' js)) := by
    refine ⟨putCells encStr (s.ρ q).base (bytesA l') arr, ?_, by show _ ≤ (s.ρ q).cap; omega, by rw [putCells_sizeS]; exact hbc, fun i hi => ?_, fun i hi => ?_⟩
    · show w1.heap[(s.ρ q).blk]? = _
      rw [hw1']; exact mapBlock_sameS _ _ _ haa
    · show ((putCells encStr (s.ρ q).base (bytesA l') arr).getD ((s.ρ q).base + i) undef).oneCell' = true
      rw [putCells_getS _ _ _ _ (by omega), bytesA_size]
      by_cases hlt : i < l'.length
      · rw [if_pos ⟨by omega, by omega⟩, show (s.ρ q).base + i - (s.ρ q).base = i by omega, bytesA_get hlt]; rfl
      · rw [if_neg (by omega)]
        exact hone i (by omega)
    · show V w1 _ ((putCells encStr (s.ρ q).base (bytesA l') arr).getD ((s.ρ q).base + i) undef) _
      rw [putCells_getS _ _ _ _ (by omega), bytesA_size]
      by_cases hlt : i < l'.length
      · rw [if_pos ⟨by omega, by omega⟩, show (s.ρ q).base + i - (s.ρ q).base = i by omega, bytesA_get hlt]
        have hc : (cellsT l' js)[i] = .str l'[i] := by
          have := cellsT_get hlt js
          rw [List.getElem?_eq_getElem hi] at this
          exact Option.some.inj this
        rw [hc]
        exact .str _ (hbig _ (hp.mem_iff.1 (List.getElem_mem hlt)))
      · rw [if_neg (by omega)]
        have hc : (cellsT l' js)[i] = (cellsT l js)[i]'(by omega) := by
          simp only [cellsT]
          rw [List.getElem_append_right (by simp; omega), List.getElem_append_right (by simp; omega)]
          congr 1
          simp [hl]
        rw [hc]
        exact ((hvs i (by omega)).ext hEa).ext hE1
  have hW1 := put_W hWa hq hE1 hoth hobj
  rw [← hw1]
  have hB : Below w1.heap.size w1 (grow w1 os) := by
    refine ⟨rfl, rfl, rfl, ?_, fun b hb => ?_⟩
    · show w1.heap.size ≤ (w1.heap ++ os).size
      simp
    · show (w1.heap ++ os)[b]? = _
      exact Array.getElem?_append_left hb
  exact ⟨hW1.of_below hB, (hEa.trans hE1).trans (Ext.of_below hW1 hB)⟩
def sortB (l : List ByteArray) : List ByteArray := l.mergeSort fun x y => decide (x.data.toList ≤ y.data.toList)
theorem sortB_perm (l : List ByteArray) : (sortB l).Perm l := List.mergeSort_perm _ _
theorem sortB_bytes (l : List ByteArray) : ((l.map fun x => x.data.toList).mergeSort fun x y => decide (x ≤ y)).toArray = bytesA (sortB l) := by
  unfold bytesA sortB
  congr 1
  exact (List.map_mergeSort (f := fun x : ByteArray => x.data.toList) (r := fun x y => decide (x.data.toList ≤ y.data.toList)) (s := fun x y => decide (x ≤ y)) (l := l) (fun a _ b _ => rfl)).symm
theorem strs_size {w : World} {s : GH} {q : Nat} {l : List ByteArray} {js : List D} {arr : Array Value} (hvs : ∀ i (h : i < (cellsT l js).length), V w (Lim s) (arr.getD ((s.ρ q).base + i) undef) (cellsT l js)[i]) : (∀ i (h : i < l.length), arr.getD ((s.ρ q).base + i) undef = .string l[i]) ∧ ∀ x ∈ l, x.size ≤ big := by
  have key : ∀ i (h : i < l.length), arr.getD ((s.ρ q).base + i) undef = .string l[i] ∧ l[i].size ≤ big := fun i h => by
    have hi : i < (cellsT l js).length := by rw [cellsT_len]; omega
    have := hvs i hi
    have hc : (cellsT l js)[i] = .str l[i] := by
      have := cellsT_get h js
      rw [List.getElem?_eq_getElem hi] at this
      exact Option.some.inj this
    rw [hc] at this
    generalize arr.getD ((s.ρ q).base + i) undef = u at this
    cases this with
    | str _ hs => exact ⟨rfl, hs⟩
  refine ⟨fun i h => (key i h).1, fun x hx => ?_⟩
  obtain ⟨i, hi, rfl⟩ := List.getElem_of_mem hx
  exact (key i hi).2
theorem sort_p (l : List ByteArray) (h0 : l ≠ []) (hl : l.length ≤ 100000) (js : List D) (r : Nat) (c : Option Nat) {n : Nat} (hn : n = l.length) {σ : Heap} (hr : σ.get r = some (.cells 9 (cellsT l js))) :
    PCall Zs 39 [.row r 0 n c 1] σ (fun d τ => d = .tup [] ∧ τ = σ.set r (.cells 9 (cellsT (sortB l) js))) := by
  obtain ⟨fn, cc, hf, hb, _, _, _, hnm, _⟩ := ok39.ok
  refine ⟨⟨fn, hf, by rw [hb]; rfl, hnm⟩, fun w s vs hs hv hW => ?_⟩
  subst hs
  obtain ⟨v0, rfl⟩ : ∃ a, vs = #[a] := by
    obtain ⟨l⟩ := vs
    match l, hv.1 with
    | [a], _ => exact ⟨a, rfl⟩
  have e0 : V w (Lim s) v0 (.row r 0 n c 1) := hv.2 0 (by simp)
  have hpos := List.length_pos_iff.2 h0
  cases e0 with
  | row _ _ _ _ _ a c' hlt hnc hbb hcf haa =>
  obtain ⟨arr, ha, hcap, hbc, hone, hvs⟩ := hW.obj r _ hr
  have ha0 : a = ⟨(s.ρ r).blk, (s.ρ r).base, none⟩ := by
    have := haa (by omega)
    rw [Lim_ρ, Nat.add_zero] at this
    exact this
  subst ha0
  obtain ⟨hst, hbig⟩ := strs_size hvs
  have hcl : (cellsT l js).length = l.length + js.length := cellsT_len _ _
  have key := AnyM.slices_Sort_string Try.sort39 (s.ρ r).blk (s.ρ r).base c' (l.map fun x => x.data.toList) w (fun j hj => by
      have hj' : j < l.length := by simpa using hj
      refine ⟨?_, by simp [World.frozen?, ha]⟩
      have hg : ((l.map fun x => x.data.toList).toArray[j]!) = l[j].data.toList := by rw [getElem!_pos _ j (by simpa using hj')]; simp
      rw [hg]
      simp only [World.cell?, ha, Option.isSome_none, Bool.false_eq_true, if_false]
      have h2 := hst j hj'
      rw [Array.getD_eq_getD_getElem?, Array.getElem?_eq_getElem (by omega), Option.getD_some] at h2
      rw [Array.getElem?_eq_getElem (by omega), h2]) (by
      rw [Array.getElem?_eq_some_iff] at ha
      exact ha.1) (by rw [List.length_map]; omega)
  rw [List.length_map, sortB_bytes] at key
  rw [hn]
  refine key.mono ?_
  rintro ee w' ⟨rfl, k, os, rfl⟩
  obtain ⟨hW', hE'⟩ := row_world hW hr (sortB_perm l) ha hcap hbc hone hvs hbig k os
  exact ⟨_, .tup [], _, rfl, .tup _ _ rfl fun i hi => absurd hi (by simp), hW', hE', rfl, rfl⟩
theorem le_lt (a b : ByteArray) : decide (a.data.toList ≤ b.data.toList) = !(strLt b a) := by
  rw [blt_eq]
  by_cases h : b.data.toList < a.data.toList
  · rw [decide_eq_true h, decide_eq_false (by exact fun h2 => h2 h)]; rfl
  · rw [decide_eq_false h, decide_eq_true (by exact h)]; rfl
theorem sortB_sorted (l : List ByteArray) : (sortB l).Pairwise fun a b => strLt b a = false := by
  have := List.pairwise_mergeSort (le := fun x y : ByteArray => decide (x.data.toList ≤ y.data.toList)) (fun a b c h1 h2 => by
    rw [le_lt, Bool.not_eq_true'] at h1 h2 ⊢
    cases h : strLt c a with
    | false => rfl
    | true =>
      rcases strLt_tri a b with h3 | h3 | h3
      · rw [strLt_trans h h3] at h2; cases h2
      · subst h3; rw [h] at h2; cases h2
      · rw [h3] at h1; cases h1) (fun a b => by
    rw [le_lt, le_lt]
    rcases strLt_tri a b with h | h | h
    · rw [strLt_asymm h]; rfl
    · subst h; rw [strLt_irrefl]; rfl
    · rw [h, strLt_asymm h]; rfl) l
  refine this.imp fun {a b} h => ?_
  rw [le_lt, Bool.not_eq_true'] at h
  exact h
end Go.Proofs.Ythchlpikcpidaaa.Vs
