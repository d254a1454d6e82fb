/- numbers of YthchlpikcpidaaaDoor -/
import Derived.Shelf.SlSortCmp.InsertionK
import Derived.Shelf.SlSortFuncK.HeapSortK
import Derived.Shelf.SlSortCmp.WholeK
import Derived.Test.YthchlpikcpidaaaDoorAlA
import Derived.Test.YthchlpikcpidaaaDoorGuA1
import Derived.Test.YthchlpikcpidaaaDoorBridge
namespace Go.Proofs.YthchlpikcpidaaaDoor.Vs
open Go.Shelf Go.RowKit Go.Sort
set_option linter.unusedVariables false
set_option linter.unusedSimpArgs false
set_option maxRecDepth 100000
theorem cmpSmp_lt (x y : Smp) : decide (cmpSmp x.word y.word x.tag y.tag < 0) = ltS x y := by
  unfold cmpSmp ltS
  rw [ltC_cmp]
  by_cases h : cmpW x.word y.word = 0
  · have he := cmpW_zero h
    rw [if_neg (by simpa using h), h, he, eqW_iff.2 rfl]
    simp only [Int.lt_irrefl, decide_false, Bool.false_or, Bool.true_and]
    unfold cmpS
    cases h1 : strLt x.tag y.tag
    · cases h2 : (x.tag == y.tag) <;> simp
    · simp
  · have he : eqW x.word y.word = false := by
      cases h2 : eqW x.word y.word with
      | false => rfl
      | true => rw [eqW_iff.1 h2, cmpW_self] at h; exact absurd rfl h
    rw [if_pos h, he, Bool.false_and, Bool.or_false]
theorem RdW.of_V {w w' : World} {s : GH} {v : Value} {x : Wd} (h : V w (Lim s) v (encSS x)) (hx : x.length ≤ 100000) (hw : ∀ (a : Addr) u, w.cell? a = some u → (Lim s).ok a.block a.off → w'.cell? a = some u) : RdW w' v x := by
  unfold encSS at h
  cases h with
  | sl o n c A cs us hn hb ho g1 hc hv =>
  refine ⟨A, c, rfl, hx, fun hne => ?_⟩
  have hp : 0 < x.length := List.length_pos_iff.2 hne
  obtain ⟨a, rfl, hc0, _⟩ := hc 0 (by simpa using hp)
  have ha0 : a.add 0 = a := by cases a; simp [Addr.add]
  rw [ha0] at hc0
  have hsa : a.spot = none := cell_spot hc0
  refine ⟨a.block, a.off, by cases a; simp only at hsa; subst hsa; rfl, fun i hi => ?_⟩
  obtain ⟨a', ha', hci, hok⟩ := hc i (by simpa using hi)
  cases ha'
  have e : a.add i = ⟨a.block, a.off + i, none⟩ := by cases a; simp only at hsa; subst hsa; exact addr_add _ _ _
  have hu : us i = .string (x.getD i ByteArray.empty) := by
    have := hv i (by simpa using hi)
    simp only [List.getElem_map] at this
    rw [List.getD_eq_getElem?_getD, List.getElem?_eq_getElem hi]
    generalize us i = u at this
    cases this
    rfl
  rw [e] at hci hok
  have := hw _ _ hci hok
  rw [hu] at this
  exact this
/-- The three values of row i. -/
def rowVals (arr : Array Value) (base : Nat) {n : Nat} (i : Fin n) : List Value := [arr.getD (base + i.val * 3) undef, arr.getD (base + i.val * 3 + 1) undef, arr.getD (base + i.val * 3 + 2) undef]
theorem cells_three {t : List Smp} {i : Nat} (h : i < t.length) (rest : List D) : ∃ h0 h1 h2, (cellsS t ++ rest)[i * 3]'h0 = encSS t[i].word ∧ (cellsS t ++ rest)[i * 3 + 1]'h1 = .str t[i].tag ∧ (cellsS t ++ rest)[i * 3 + 2]'h2 = .int .i64 t[i].many := by
  obtain ⟨d0, d1, d2⟩ := cellsS_j h rest
  have hl : i * 3 + 2 < (cellsS t).length := by rw [cellsS_len]; omega
  have hlr : i * 3 + 2 < (cellsS t ++ rest).length := by rw [List.length_append]; omega
  rw [List.getElem?_eq_getElem (by omega)] at d0 d1 d2
  exact ⟨by omega, by omega, hlr, Option.some.inj d0, Option.some.inj d1, Option.some.inj d2⟩
theorem mapBlock_otherA (w : World) (blk : Nat) (f : Array Value → Array Value) (b : Nat) (h : b ≠ blk) : (mapBlock w blk f).heap[b]? = w.heap[b]? := by
  simp only [mapBlock, Array.getElem?_modify]
  rw [if_neg (fun e => h e.symm)]
theorem mapBlock_sameA (w : World) (blk : Nat) (f : Array Value → Array Value) {arr : Array Value} {e : TypeId} {fr : Nat × Nat} (h : w.heap[blk]? = some (.cells arr e fr)) : (mapBlock w blk f).heap[blk]? = some (.cells (f arr) e fr) := by
  simp [mapBlock, Array.getElem?_modify, h, onCells]
theorem putCells_size (base : Nat) (F arr : Array Value) : (putCells id base F arr).size = arr.size := by simp [putCells]
theorem putCells_get (base : Nat) (F arr : Array Value) (j : Nat) (h : j < arr.size) : (putCells id base F arr).getD j undef = if base ≤ j ∧ j < base + F.size then F[j - base]! else arr.getD j undef := by
  rw [Array.getD_eq_getD_getElem?, Array.getD_eq_getD_getElem?]
  simp only [putCells, Array.getElem?_mapIdx, Array.getElem?_eq_getElem h, Option.map_some, Option.getD_some, id]
theorem mod3 (i : Nat) : i % 3 = 0 ∨ i % 3 = 1 ∨ i % 3 = 2 := by omega
theorem flat_get (arr : Array Value) (base m : Nat) (d' : Array (Fin (m + 1))) (i : Nat) (h : i < d'.size * 3) : (flatK (rowVals arr base) 3 d')[i]! = arr.getD (base + (d'[i / 3]!).val * 3 + i % 3) undef := by
  rw [get_flatK _ _ _ _ h]
  generalize d'[i / 3]! = j
  rcases mod3 i with e | e | e <;> rw [e] <;> rfl
theorem sorted_world {w : World} {s : GH} {q : Nat} {e : TypeId} {t : List Smp} {rest : List D} {m : Nat} (hW : W s w) (hq : s.σ.get q = some (.cells e (cellsS t ++ rest))) (hm : t.length = m + 1)
    {arr : Array Value} (ha : w.heap[(s.ρ q).blk]? = some (.cells arr e (0, 0))) (hcap : (cellsS t ++ rest).length ≤ (s.ρ q).cap) (hbc : (s.ρ q).base + (s.ρ q).cap ≤ arr.size) (hone : ∀ i, i < (cellsS t ++ rest).length → (arr.getD ((s.ρ q).base + i) undef).oneCell' = true)
    (hvs : ∀ i (h : i < (cellsS t ++ rest).length), V w (Lim s) (arr.getD ((s.ρ q).base + i) undef) (cellsS t ++ rest)[i]) (d' : Array (Fin (m + 1))) (hd : d'.size = m + 1) (k : Nat) (os : Array Obj) :
    W (s.put q (.cells e (cellsS (d'.toList.map fun i => t[i.val]'(by omega)) ++ rest))) (sortWorldK (rowVals arr (s.ρ q).base) 3 w (s.ρ q).blk (s.ρ q).base k d' os) ∧
    Ext w s (sortWorldK (rowVals arr (s.ρ q).base) 3 w (s.ρ q).blk (s.ρ q).base k d' os) (s.put q (.cells e (cellsS (d'.toList.map fun i => t[i.val]'(by omega)) ++ rest))) := by
  generalize ht' : (d'.toList.map fun i : Fin (m + 1) => t[i.val]'(by omega)) = t'
  have hl' : t'.length = m + 1 := by rw [← ht']; simp [hd]
  let F := flatK (rowVals arr (s.ρ q).base) 3 d'
  have hFs : F.size = (m + 1) * 3 := by simp [F, hd]
  have hlen : (cellsS t).length = (m + 1) * 3 := by rw [cellsS_len, hm]
  have hlen' : (cellsS t').length = (m + 1) * 3 := by rw [cellsS_len, hl']
  have hcs : (cellsS t ++ rest).length = (m + 1) * 3 + rest.length := by rw [List.length_append, hlen]
  have hcs' : (cellsS t' ++ rest).length = (m + 1) * 3 + rest.length := by rw [List.length_append, hlen']
  let w1 := putRowK (rowVals arr (s.ρ q).base) 3 w (s.ρ q).blk (s.ρ q).base d'
  have hw1 : w1 = mapBlock w (s.ρ q).blk (putCells id (s.ρ q).base F) := rfl
  have hoth : ∀ b, b ≠ (s.ρ q).blk → w1.heap[b]? = w.heap[b]? := fun b hb => by rw [hw1]; exact mapBlock_otherA _ _ _ _ hb
  have hE1 : Ext w s w1 (s.put q (.cells e (cellsS t' ++ rest))) := put_heap hW hq (by rw [hw1]; simp [mapBlock]) rfl rfl rfl hoth (by simp)
  have hobj : ObjOK w1 (s.put q (.cells e (cellsS t' ++ rest))) q (.cells e (cellsS t' ++ rest)) := by
    refine ⟨putCells id (s.ρ q).base F arr, ?_, by show _ ≤ (s.ρ q).cap; omega, by rw [putCells_size]; exact hbc, fun i hi => ?_, fun i hi => ?_⟩
    · show w1.heap[(s.ρ q).blk]? = _
      rw [hw1]; exact mapBlock_sameA _ _ _ ha
    · show ((putCells id (s.ρ q).base F arr).getD ((s.ρ q).base + i) undef).oneCell' = true
      rw [putCells_get _ _ _ _ (by omega)]
      by_cases hlt : i < (m + 1) * 3
      · rw [if_pos ⟨by omega, by omega⟩, show (s.ρ q).base + i - (s.ρ q).base = i by omega]
        show ((flatK (rowVals arr (s.ρ q).base) 3 d')[i]!).oneCell' = true
        rw [flat_get _ _ _ _ _ (by omega)]
        have := (d'[i / 3]!).isLt
        have h9 := hone ((d'[i / 3]!).val * 3 + i % 3) (by omega)
        rwa [← Nat.add_assoc] at h9
      · rw [if_neg (by omega)]
        exact hone i (by omega)
    · show V w1 _ ((putCells id (s.ρ q).base F arr).getD ((s.ρ q).base + i) undef) _
      rw [putCells_get _ _ _ _ (by omega)]
      by_cases hlt : i < (m + 1) * 3
      · rw [if_pos ⟨by omega, by omega⟩, show (s.ρ q).base + i - (s.ρ q).base = i by omega]
        show V w1 _ ((flatK (rowVals arr (s.ρ q).base) 3 d')[i]!) _
        rw [flat_get _ _ _ _ _ (by omega)]
        have hi2 : i / 3 < d'.size := by omega
        have hdg : d'[i / 3]! = d'[i / 3] := getElem!_pos d' (i / 3) hi2
        have hjl := (d'[i / 3]).isLt
        have htg : t'[i / 3]'(by omega) = t[(d'[i / 3]).val]'(by omega) := by
          subst ht'
          simp
        obtain ⟨p0, p1, p2, p3, p4, p5⟩ := cells_three (t := t') (i := i / 3) (by omega) rest
        obtain ⟨r0, r1, r2, r3, r4, r5⟩ := cells_three (t := t) (i := (d'[i / 3]).val) (by omega) rest
        rw [hdg]
        rcases mod3 i with e | e | e
        · have hi0 : (cellsS t' ++ rest)[i] = (cellsS t' ++ rest)[i / 3 * 3]'p0 := by congr 1; omega
          rw [hi0, p3, htg, ← r3, e, Nat.add_zero]
          exact (hvs _ r0).ext hE1
        · have hi0 : (cellsS t' ++ rest)[i] = (cellsS t' ++ rest)[i / 3 * 3 + 1]'p1 := by congr 1; omega
          rw [hi0, p4, htg, ← r4, e, Nat.add_assoc]
          exact (hvs _ r1).ext hE1
        · have hi0 : (cellsS t' ++ rest)[i] = (cellsS t' ++ rest)[i / 3 * 3 + 2]'p2 := by congr 1; omega
          rw [hi0, p5, htg, ← r5, e, Nat.add_assoc]
          exact (hvs _ r2).ext hE1
      · rw [if_neg (by omega)]
        have h1 : (cellsS t' ++ rest)[i] = (cellsS t ++ rest)[i]'(by omega) := by
          rw [List.getElem_append_right (by omega), List.getElem_append_right (by omega)]
          congr 1
          omega
        rw [h1]
        exact (hvs i (by omega)).ext hE1
  have hW1 := put_W hW hq hE1 hoth hobj
  have hB : Below w1.heap.size w1 (sortWorldK (rowVals arr (s.ρ q).base) 3 w (s.ρ q).blk (s.ρ q).base k d' os) := by
    refine ⟨rfl, rfl, rfl, ?_, fun b hb => ?_⟩
    · show w1.heap.size ≤ (w1.heap ++ os).size
      simp
    · show (w1.heap ++ os)[b]? = _
      exact Array.getElem?_append_left hb
  exact ⟨hW1.of_below hB, hE1.trans (Ext.of_below hW1 hB)⟩
def Tryd.sort19_ren : Go.Shelf.Ren := ⟨fun | 6 => 19 | 15 => 32 | 14 => 31 | 28 => 52 | 29 => 53 | 20 => 44 | 21 => 45 | 22 => 46 | 23 => 47 | 24 => 48 | 25 => 49 | 26 => 50 | 27 => 51 | 46 => 61 | 47 => 62 | 48 => 63 | 49 => 64 | 50 => 65 | 57 => 72 | n => n, fun | 22 => 22 | 24 => 25 | 25 => 54 | 3 => 3 | 39 => 67 | 0 => 0 | 53 => 90 | 55 => 92 | 4 => 4 | 46 => 83 | 45 => 82 | 50 => 87 | 5 => 5 | 9 => 9 | 66 => 97 | 70 => 101 | 76 => 110 | 77 => 111 | n => n, fun | n => n⟩
theorem Tryd.sort19 : Go.Proofs.SlLaysF0.n6 Tryd.prog Tryd.sort19_ren := {
  mixed := by kernel_rfl
  f6 := ⟨Tryd.f19.name, by decide, Tryd.func19.trans (congrArg some (by kernel_rfl))⟩
  f14 := ⟨Tryd.f31.name, by decide, Tryd.func31.trans (congrArg some (by kernel_rfl))⟩
  f15 := Tryd.func32.trans (congrArg some (by kernel_rfl))
  f20 := ⟨Tryd.f44.name, by decide, Tryd.func44.trans (congrArg some (by kernel_rfl))⟩
  f21 := ⟨Tryd.f45.name, by decide, Tryd.func45.trans (congrArg some (by kernel_rfl))⟩
  f22 := ⟨Tryd.f46.name, by decide, Tryd.func46.trans (congrArg some (by kernel_rfl))⟩
  f23 := ⟨Tryd.f47.name, by decide, Tryd.func47.trans (congrArg some (by kernel_rfl))⟩
  f24 := ⟨Tryd.f48.name, by decide, Tryd.func48.trans (congrArg some (by kernel_rfl))⟩
  f25 := ⟨Tryd.f49.name, by decide, Tryd.func49.trans (congrArg some (by kernel_rfl))⟩
  f26 := ⟨Tryd.f50.name, by decide, Tryd.func50.trans (congrArg some (by kernel_rfl))⟩
  f27 := ⟨Tryd.f51.name, by decide, Tryd.func51.trans (congrArg some (by kernel_rfl))⟩
  f28 := Tryd.func52.trans (congrArg some (by kernel_rfl))
  f29 := Tryd.func53.trans (congrArg some (by kernel_rfl))
  f46 := ⟨Tryd.f61.name, by decide, Tryd.func61.trans (congrArg some (by kernel_rfl))⟩
  f47 := Tryd.func62.trans (congrArg some (by kernel_rfl))
  f48 := Tryd.func63.trans (congrArg some (by kernel_rfl))
  f49 := ⟨Tryd.f64.name, by decide, Tryd.func64.trans (congrArg some (by kernel_rfl))⟩
  f50 := ⟨Tryd.f65.name, by decide, Tryd.func65.trans (congrArg some (by kernel_rfl))⟩
  f57 := ⟨Tryd.f72.name, by decide, Tryd.func72.trans (congrArg some (by kernel_rfl))⟩
  t0 := Tryd.underlying0
  a0 := Tryd.isAgg0
  z0 := Tryd.sizeOf0
  v0 := Tryd.zeroValue0
  t3 := Tryd.underlying3
  a3 := Tryd.isAgg3
  z3 := Tryd.sizeOf3
  v3 := Tryd.zeroValue3
  t4 := Tryd.underlying4
  a4 := Tryd.isAgg4
  z4 := Tryd.sizeOf4
  v4 := Tryd.zeroValue4
  t5 := Tryd.underlying5
  a5 := Tryd.isAgg5
  z5 := Tryd.sizeOf5
  v5 := Tryd.zeroValue5
  t9 := Tryd.underlying9
  a9 := Tryd.isAgg9
  z9 := Tryd.sizeOf9
  v9 := Tryd.zeroValue9
  t22 := Tryd.underlying22
  a22 := Tryd.isAgg22
  z22 := Tryd.sizeOf22
  v22 := Tryd.zeroValue22
  t25 := Tryd.underlying54
  a25 := Tryd.isAgg54
  z25 := Tryd.sizeOf54
  v25 := Tryd.zeroValue54
  t39 := Tryd.underlying67
  a39 := Tryd.isAgg67
  z39 := Tryd.sizeOf67
  v39 := Tryd.zeroValue67
  t45 := Tryd.underlying82
  a45 := Tryd.isAgg82
  z45 := Tryd.sizeOf82
  v45 := Tryd.zeroValue82
  t46 := Tryd.underlying83
  a46 := Tryd.isAgg83
  z46 := Tryd.sizeOf83
  v46 := Tryd.zeroValue83
  t50 := Tryd.underlying87
  a50 := Tryd.isAgg87
  z50 := Tryd.sizeOf87
  v50 := Tryd.zeroValue87
  t53 := Tryd.underlying90
  a53 := Tryd.isAgg90
  z53 := Tryd.sizeOf90
  v53 := Tryd.zeroValue90
  t55 := Tryd.underlying92
  a55 := Tryd.isAgg92
  z55 := Tryd.sizeOf92
  v55 := Tryd.zeroValue92
  t66 := Tryd.underlying97
  a66 := Tryd.isAgg97
  z66 := Tryd.sizeOf97
  v66 := Tryd.zeroValue97
  t70 := Tryd.underlying101
  a70 := Tryd.isAgg101
  z70 := Tryd.sizeOf101
  v70 := Tryd.zeroValue101
  t76 := Tryd.underlying110
  a76 := Tryd.isAgg110
  z76 := Tryd.sizeOf110
  v76 := Tryd.zeroValue110
  t77 := Tryd.underlying111
  a77 := Tryd.isAgg111
  z77 := Tryd.sizeOf111
  v77 := Tryd.zeroValue111 }
def sortedS (t : List Smp) : Prop := ∀ i j (hj : j < t.length) (h : i < j), ltS (t[j]) (t[i]) = false
theorem sortS_p (t : List Smp) (h0 : t ≠ []) (hl : t.length ≤ 100000) (hw : ∀ r ∈ t, r.word.length ≤ 100000) (rest : List D) {σ : Heap} {q : Nat} {e : TypeId} {c : Option Nat} (hq : σ.get q = some (.cells e (cellsS t ++ rest))) :
    PCall Zs 19 [.row q 0 t.length c 3, .func 20 []] σ (fun d τ => d = .tup [] ∧ ∃ t' : List Smp, t'.Perm t ∧ sortedS t' ∧ τ = σ.set q (.cells e (cellsS t' ++ rest))) := by
  obtain ⟨fn, cc, hf, hb, _, _, _, hn, _⟩ := ok19.ok
  refine ⟨⟨fn, hf, by rw [hb]; rfl, hn⟩, fun w s vs hs hv hW => ?_⟩
  subst hs
  obtain ⟨v0, v1, rfl⟩ : ∃ a b, vs = #[a, b] := by
    obtain ⟨l⟩ := vs
    match l, hv.1 with
    | [a, b], _ => exact ⟨a, b, rfl⟩
  have e0 : V w (Lim s) v0 (.row q 0 t.length c 3) := hv.2 0 (by simp)
  have e1 : V w (Lim s) v1 (.func 20 []) := hv.2 1 (by simp)
  obtain ⟨m, hm⟩ : ∃ m, t.length = m + 1 := ⟨t.length - 1, by have := List.length_pos_iff.2 h0; omega⟩
  cases e1 with
  | func _ us _ hus _ =>
  obtain rfl : us = #[] := Array.eq_empty_of_size_eq_zero hus
  cases e0 with
  | row _ _ _ _ _ a c' hlt hnc hbb hcf haa =>
  obtain ⟨arr, ha, hcap, hbc, hone, hvs⟩ := hW.obj q _ hq
  have ha0 : a = ⟨(s.ρ q).blk, (s.ρ q).base, none⟩ := by
    have := haa (by omega)
    rw [Lim_ρ, Nat.add_zero] at this
    exact this
  subst ha0
  have hcl : (cellsS t ++ rest).length = (m + 1) * 3 + rest.length := by rw [List.length_append, cellsS_len, hm]
  have ain : ∀ p, (s.ρ q).base ≤ p → p < (s.ρ q).base + (m + 1) * 3 → (arr.getD p undef).oneCell' = true := fun p hp1 hp2 => by
    have := hone (p - (s.ρ q).base) (by omega)
    rwa [Nat.add_sub_cancel' hp1] at this
  let enc : Fin (m + 1) → List Value := rowVals arr (s.ρ q).base
  let d : Array (Fin (m + 1)) := Array.ofFn fun i => i
  have hd : d.size = m + 1 := by simp [d]
  have rd : ∀ (w' : World), (∀ (a : Addr) u, w.cell? a = some u → (Lim s).ok a.block a.off → w'.cell? a = some u) → ∀ x : Fin (m + 1), RdW w' (arr.getD ((s.ρ q).base + x.val * 3) undef) (t[x.val]'(by omega)).word := fun w' hw' x => by
    obtain ⟨r0, r1, r2, r3, r4, r5⟩ := cells_three (t := t) (i := x.val) (by omega) rest
    have := hvs _ r0
    rw [r3] at this
    exact RdW.of_V this (hw _ (List.getElem_mem _)) hw'
  have tg : ∀ x : Fin (m + 1), arr.getD ((s.ρ q).base + x.val * 3 + 1) undef = .string (t[x.val]'(by omega)).tag := fun x => by
    obtain ⟨r0, r1, r2, r3, r4, r5⟩ := cells_three (t := t) (i := x.val) (by omega) rest
    have := hvs _ r1
    rw [r4, ← Nat.add_assoc] at this
    generalize arr.getD ((s.ρ q).base + x.val * 3 + 1) undef = u at this
    cases this; rfl
  have keep : ∀ k dk os (a : Addr) u, w.cell? a = some u → (Lim s).ok a.block a.off → (sortWorldK enc 3 w (s.ρ q).blk (s.ρ q).base k dk os).cell? a = some u := fun k dk os a u hc hok => by
    have hne : a.block ≠ (s.ρ q).blk := fun he => hok q _ hq he.symm
    rw [cell?_sortWorldK_other _ _ _ _ _ _ _ _ _ hne (cell_lt hc)]
    exact hc
  have hcf2 : Go.Proofs.ltOf (fun x y : Fin (m + 1) => cmpSmp (t[x.val]'(by omega)).word (t[y.val]'(by omega)).word (t[x.val]'(by omega)).tag (t[y.val]'(by omega)).tag) = fun x y => ltS (t[x.val]'(by omega)) (t[y.val]'(by omega)) := by
    funext x y
    exact cmpSmp_lt _ _
  have key := Go.Proofs.AnyQ.slices_SortFunc Tryd.sort19 3 Tryd.isAgg25 Tryd.sizeOf25 enc (fun x => rfl) (fun x v hv => by
      have hx := x.isLt
      simp only [enc, rowVals, List.mem_cons, List.not_mem_nil, or_false] at hv
      rcases hv with rfl | rfl | rfl
      · exact ain _ (by omega) (by omega)
      · exact ain _ (by omega) (by omega)
      · exact ain _ (by omega) (by omega)) (fun x y : Fin (m + 1) => cmpSmp (t[x.val]'(by omega)).word (t[y.val]'(by omega)).word (t[x.val]'(by omega)).tag (t[y.val]'(by omega)).tag) (by rw [hcf2]; exact ltS_swo fun x : Fin (m + 1) => (t[x.val]'(by omega))) 20 #[] (s.ρ q).blk (s.ρ q).base c' d w (enters_of Tryd.func20 (by kernel_rfl) rfl)
    (fun k os dk _ x y => by
      have hx := x.isLt
      have hy := y.isLt
      have := closure20 (t[x.val]'(by omega)).tag (t[y.val]'(by omega)).tag (rd _ (keep k dk os) x) (rd _ (keep k dk os) y) (ain _ (by omega) (by omega)) (m1 := arr.getD ((s.ρ q).base + x.val * 3 + 2) undef) (ain _ (by omega) (by omega)) (ain _ (by omega) (by omega)) (m2 := arr.getD ((s.ρ q).base + y.val * 3 + 2) undef) (ain _ (by omega) (by omega))
      rw [← tg x, ← tg y] at this
      exact this)
    (fun j hj => by
      have hj2 : j < (m + 1) * 3 := by simpa [hd] using hj
      have hdj : (d[j / 3]!).val = j / 3 := by
        rw [getElem!_pos d (j / 3) (by omega)]
        simp [d]
      refine ⟨?_, ?_⟩
      · show w.cell? _ = some (id ((flatK (rowVals arr (s.ρ q).base) 3 d)[j]!))
        rw [flat_get _ _ _ _ _ (by omega), hdj]
        have e2 : (s.ρ q).base + j / 3 * 3 + j % 3 = (s.ρ q).base + j := by omega
        rw [e2]
        simp only [World.cell?, ha, Option.isSome_none, Bool.false_eq_true, if_false, id]
        rw [Array.getD_eq_getD_getElem?, Array.getElem?_eq_getElem (by omega)]
        rfl
      · simp [World.frozen?, ha]) (by
      rw [Array.getElem?_eq_some_iff] at ha
      exact ha.1) (by omega)
  rw [hd] at key
  rw [hm]
  refine key.mono ?_
  rintro ee w' ⟨rfl, d', n, os, hperm, hsrt, rfl⟩
  have hds : d'.size = m + 1 := by rw [hperm.1, hd]
  obtain ⟨hW', hE'⟩ := sorted_world hW hq hm ha hcap hbc hone hvs d' hds n os
  refine ⟨_, .tup [], _, rfl, .tup _ _ rfl fun i hi => absurd hi (by simp), hW', hE', rfl, _, ?_, ?_, rfl⟩
  · have hex : ∀ (A : Array (Fin (m + 1))) (k : Nat), k = A.size → (A.extract 0 k).toList = A.toList := fun A k hk => by subst hk; simp
    have hp := hperm.2.2
    rw [hex d' _ hds.symm, hex d _ hd.symm] at hp
    have h3 : d.toList.map (fun i : Fin (m + 1) => t[i.val]'(by omega)) = t := by
      refine List.ext_getElem (by rw [List.length_map, Array.length_toList, hd, hm]) fun i g1 g2 => ?_
      simp only [List.getElem_map, Array.getElem_toList, d, Array.getElem_ofFn]
    have := hp.map (fun i : Fin (m + 1) => t[i.val]'(by omega))
    rw [h3] at this
    exact this
  · intro i j hj hij
    have hj' : j < m + 1 := by simpa [hds] using hj
    have := hsrt i j (Nat.zero_le _) hij hj'
    rw [hcf2, getElem!_pos d' j (by omega), getElem!_pos d' i (by omega)] at this
    simp only [List.getElem_map, Array.getElem_toList]
    exact this
end Go.Proofs.YthchlpikcpidaaaDoor.Vs
