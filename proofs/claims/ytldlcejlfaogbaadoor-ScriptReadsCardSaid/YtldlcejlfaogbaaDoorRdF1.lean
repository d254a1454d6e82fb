/- numbers of YtldlcejlfaogbaaDoor -/
/- A text cut at a byte: off the shelf, and by the specification. -/
import Derived.Shelf.Small.Strs
import Derived.Test.YtldlcejlfaogbaaDoorJoF2
import Derived.Test.YtldlcejlfaogbaaDoorLawReadsA
namespace Go.Proofs.YtldlcejlfaogbaaDoor.Vs
open Go.Shelf Go.RowKit
set_option linter.unusedVariables false
set_option linter.unusedSimpArgs false
set_option maxRecDepth 100000
def Tryd.lays137_ren : Go.Shelf.Ren := ⟨fun | 137 => 62 | 217 => 88 | 266 => 114 | n => n, fun | 9 => 9 | 5 => 5 | 3 => 3 | n => n, fun | n => n⟩
theorem Tryd.lays137 : Go.Proofs.Lays.n137 Tryd.prog Tryd.lays137_ren := {
  mixed := by kernel_rfl
  f137 := Tryd.func62.trans (congrArg some (by kernel_rfl))
  f217 := Tryd.func88.trans (congrArg some (by kernel_rfl))
  f266 := Tryd.func114.trans (congrArg some (by kernel_rfl))
  t3 := Tryd.underlying3
  a3 := Tryd.isAgg3
  z3 := Tryd.sizeOf3
  v3 := Tryd.zeroValue3
  t5 := Tryd.underlying5
  a5 := Tryd.isAgg5
  z5 := Tryd.sizeOf5
  v5 := Tryd.zeroValue5
  t9 := Tryd.underlying9
  a9 := Tryd.isAgg9
  z9 := Tryd.sizeOf9
  v9 := Tryd.zeroValue9 }

theorem strs_inj : ∀ {a b : Wd}, a.map (·.data.toList) = b.map (·.data.toList) → a = b
  | [], [], _ => rfl
  | [], _ :: _, h => by cases h
  | _ :: _, [], h => by cases h
  | x :: a, y :: b, h => by
    simp only [List.map_cons, List.cons.injEq] at h
    rw [ba_ext' h.1, strs_inj h.2]
def cutB (b : UInt8) (s : ByteArray) : Wd := (cutL b s.data.toList).map toB
theorem splitB_cut (b : UInt8) (s : ByteArray) : Lib.splitB ⟨#[b]⟩ 0 (Lib.countB s ⟨#[b]⟩) s = cutB b s := by
  refine strs_inj ?_
  rw [Lib.splitB_data]
  have ec : Lib.countB s ⟨#[b]⟩ = s.data.toList.count b := by
    show Lib.count s.data.toList [b] = _
    rw [Lib.count_one]
  rw [ec, cutB, List.map_map, show ((fun x : ByteArray => x.data.toList) ∘ toB) = id from funext toB_list, List.map_id]
  exact splitK_cut b _ _ (Nat.le_refl _)
theorem cutL_pieces (b : UInt8) : ∀ (n : Nat) (l : List UInt8), l.length ≤ n → (cutL b l).length ≤ l.length + 1 ∧ ∀ y ∈ cutL b l, y.length ≤ l.length
  | n, l, hn => by
    rw [cutL_head]
    by_cases h : b ∈ l
    · rw [if_pos h]
      match n, hn with
      | 0, hn => exact absurd (List.eq_nil_of_length_eq_zero (Nat.le_zero.1 hn)) (by intro e; rw [e] at h; cases h)
      | n + 1, hn =>
        have h1 := tailL_len b l
        have h3 := List.length_pos_iff.2 (fun e : l = [] => by rw [e] at h; cases h)
        obtain ⟨h4, h5⟩ := cutL_pieces b n (tailL b l) (by omega)
        refine ⟨by rw [List.length_cons]; omega, fun y hy => ?_⟩
        rcases List.mem_cons.1 hy with rfl | hy
        · exact headL_len _ _
        · have := h5 y hy; omega
    · rw [if_neg h]
      refine ⟨by simp, fun y hy => ?_⟩
      simp only [List.mem_singleton] at hy
      subst hy
      exact headL_len _ _
theorem cutB_sizes (b : UInt8) (s : ByteArray) : (cutB b s).length ≤ s.size + 1 ∧ ∀ x ∈ cutB b s, x.size ≤ s.size := by
  obtain ⟨h1, h2⟩ := cutL_pieces b _ s.data.toList (Nat.le_refl _)
  have hs : s.data.toList.length = s.size := by simp
  refine ⟨by rw [cutB, List.length_map]; omega, fun x hx => ?_⟩
  obtain ⟨y, hy, rfl⟩ := List.mem_map.1 hx
  rw [toB_size]
  have := h2 y hy
  omega
theorem genSplit1_c (s : ByteArray) (b : UInt8) (hs : s.size ≤ 100000) : Fn Zs 61 [.str s, .str ⟨#[b]⟩, .int .i64 0, .int .i64 (-1)] (encSS (cutB b s)) := by
  obtain ⟨fn, c, hf, hb, _, _, _, hn, _⟩ := ok61.ok
  refine fn_new (Z := Zs) ⟨fn, hf, by rw [hb]; rfl, hn⟩ fun W s' vs hv hW => ?_
  obtain ⟨v0, v1, v2, v3, rfl⟩ : ∃ a b c d, vs = #[a, b, c, d] := by
    obtain ⟨l⟩ := vs
    match l, hv.1 with
    | [a, b, c, d], _ => exact ⟨a, b, c, d, rfl⟩
  have e0 : V W (Lim s') v0 (.str s) := hv.2 0 (by simp)
  have e1 : V W (Lim s') v1 (.str ⟨#[b]⟩) := hv.2 1 (by simp)
  have e2 : V W (Lim s') v2 (.int .i64 0) := hv.2 2 (by simp)
  have e3 : V W (Lim s') v3 (.int .i64 (-1)) := hv.2 3 (by simp)
  cases e0; cases e1; cases e2; cases e3
  have hone : (⟨#[b]⟩ : ByteArray).size = 1 := rfl
  have hle := Lib.countB_le ⟨#[b]⟩ (by rw [hone]; decide) s.size s (Nat.le_refl _)
  have hlen := Lib.splitB_all ⟨#[b]⟩ (by rw [hone]; decide) 0 _ s rfl
  have L := Tryd.lays221
  have key := Any.strings_genSplit_core Tryd.lays221 (by kernel_rfl) s ⟨#[b]⟩ 0 (-1) (Lib.countB s ⟨#[b]⟩ + 1) W (by omega) (by rw [hone]; decide) (Nat.zero_le _)
    (fun x c hx => by
      refine (Any.strings_Index_one { L with } x b (W.alloc (.cells c (Tryd.lays221_ren.t 9)))).mono ?_
      rintro e w' ⟨rfl, rfl⟩
      exact ⟨by rw [← Lib.index_one], rfl⟩)
    (by
      refine (Any.strings_Count_one { L with } s b W).mono ?_
      rintro e w' ⟨rfl, rfl⟩
      refine ⟨?_, rfl⟩
      show _ = Ending.returned (Value.int .i64 ((Lib.count s.data.toList [b] : Nat) : Int))
      rw [Lib.count_one]
      rfl) (by decide) (by decide) (by rw [if_pos (by decide)]; omega)
  rw [Nat.add_sub_cancel] at key
  have e2 : Lib.cellsOf (Lib.splitB ⟨#[b]⟩ 0 (Lib.countB s ⟨#[b]⟩) s) (Lib.countB s ⟨#[b]⟩ + 1) = ((Lib.splitB ⟨#[b]⟩ 0 (Lib.countB s ⟨#[b]⟩) s).map Value.string).toArray := by rw [← hlen]; exact Lib.cellsOf_full _
  rw [e2, ← hlen, splitB_cut] at key
  refine key.mono ?_
  rintro e w' ⟨rfl, rfl⟩
  obtain ⟨h1, h2⟩ := cutB_sizes b s
  refine ⟨_, rfl, V_new_strs hW (Tryd.lays221_ren.t 9) (cutB b s) (by simp only [big]; omega) (fun x hx => by have := h2 x hx; simp only [big]; omega), (Below.refl _ _).alloc (Nat.le_refl _) _⟩
theorem Split1_c (s : ByteArray) (b : UInt8) (hs : s.size ≤ 100000) : Fn Zs 36 [.str s, .str ⟨#[b]⟩] (encSS (cutB b s)) := by
  refine fn_of (Z := Zs) ok36 fun σ hcl hbl => ?_
  simp -dsimp only [L36, ↓preB, postB, genB, ↓reduceIte, Nat.reduceEqDiff, Int.reduceToNat, Int.reduceLE, Int.reduceLT, Nat.reduceAdd, Nat.reduceLeDiff, intBin, strBin, unD, extractD, lit1, lit2, lit3, keptD, boxR, D.one, D.pub1, D.cells, splice, cutOwn]
  refine Fn.use (genSplit1_c s b hs) ?_
  simp -dsimp only [↓preB, postB, genB, ↓reduceIte, Nat.reduceEqDiff, Int.reduceToNat, Int.reduceLE, Int.reduceLT, Nat.reduceAdd, Nat.reduceLeDiff, intBin, strBin, unD, extractD, lit1, lit2, lit3, keptD, boxR, D.one, D.pub1, D.cells, splice, cutOwn]
  exact Ret.is rfl
theorem Index_c (s : ByteArray) (b : UInt8) : Fn Zs 84 [.str s, .str ⟨#[b]⟩] (.int .i64 (Lib.indexByte s.data.toList b)) := by
  obtain ⟨fn, cc, hf, hb, _, _, _, hn, _⟩ := ok84.ok
  refine fn_below (Z := Zs) ⟨fn, hf, by rw [hb]; rfl, hn⟩ fun W s' vs hv hW => ?_
  obtain ⟨v0, v1, rfl⟩ : ∃ a b, vs = #[a, b] := by
    obtain ⟨l⟩ := vs
    match l, hv.1 with
    | [a, b], _ => exact ⟨a, b, rfl⟩
  have e0 : V W (Lim s') v0 (.str s) := hv.2 0 (by simp)
  have e1 : V W (Lim s') v1 (.str ⟨#[b]⟩) := hv.2 1 (by simp)
  cases e0; cases e1
  refine ⟨.int .i64 (Lib.indexByte s.data.toList b), fun w' => .int _ _, ?_⟩
  have L := Tryd.lays221
  refine (Any.stringslite_Index_one (ρ := Tryd.lays221_ren) { L with } s b W).mono ?_
  rintro e w' ⟨rfl, rfl⟩
  exact ⟨by rfl, Below.refl _ _⟩
theorem IndexByte_c (s : ByteArray) (b : UInt8) : Fn Zs 62 [.str s, .int .u8 b.toNat] (.int .i64 (Lib.indexByte s.data.toList b)) := by
  obtain ⟨fn, cc, hf, hb, _, _, _, hn, _⟩ := ok62.ok
  refine fn_below (Z := Zs) ⟨fn, hf, by rw [hb]; rfl, hn⟩ fun W s' vs hv hW => ?_
  obtain ⟨v0, v1, rfl⟩ : ∃ a b, vs = #[a, b] := by
    obtain ⟨l⟩ := vs
    match l, hv.1 with
    | [a, b], _ => exact ⟨a, b, rfl⟩
  have e0 : V W (Lim s') v0 (.str s) := hv.2 0 (by simp)
  have e1 : V W (Lim s') v1 (.int .u8 b.toNat) := hv.2 1 (by simp)
  cases e0; cases e1
  refine ⟨.int .i64 (Lib.indexByte s.data.toList b), fun w' => .int _ _, ?_⟩
  have L := Tryd.lays137
  refine (Any.strings_IndexByte Tryd.lays137 s b.toNat W).mono ?_
  rintro e w' ⟨rfl, rfl⟩
  exact ⟨by simp, Below.refl _ _⟩
theorem liteCut_c (l : List UInt8) (b : UInt8) (hs : l.length ≤ 100000) : Fn Zs 60 [.str (toB l), .str ⟨#[b]⟩] (.tup [.str (toB (headL b l)), .str (toB (tailL b l)), .bool (decide (b ∈ l))]) := by
  refine fn_of (Z := Zs) ok60 fun σ hcl hbl => ?_
  simp -dsimp only [L60, ↓preB, postB, genB, ↓reduceIte, Nat.reduceEqDiff, Int.reduceToNat, Int.reduceLE, Int.reduceLT, Nat.reduceAdd, Nat.reduceLeDiff, intBin, strBin, unD, extractD, lit1, lit2, lit3, keptD, boxR, D.one, D.pub1, D.cells, splice, cutOwn]
  refine Fn.use (Index_c _ b) ?_
  rw [toB_list]
  have hsz := toB_size l
  have hone : (⟨#[b]⟩ : ByteArray).size = 1 := rfl
  by_cases h : b ∈ l
  · rw [index_in b h]
    have hl := headL_len b l
    have hle : (0 : Int) ≤ ((headL b l).length : Int) := by omega
    have h1 : (headL b l).length + 1 ≤ l.length := by
      have := congrArg List.length (headL_in b h)
      rw [List.length_append, List.length_cons] at this
      omega
    simp -dsimp only [hsz, hone, hle, ↓preB, postB, genB, ↓reduceIte, Nat.reduceEqDiff, Int.reduceToNat, Int.reduceLE, Int.reduceLT, Nat.reduceAdd, Nat.reduceLeDiff, intBin, strBin, unD, extractD, lit1, lit2, lit3, keptD, boxR, D.one, D.pub1, D.cells, splice, cutOwn]
    refine draw_s ?_
    simp -dsimp only [hsz, hone, hle, ↓preB, postB, genB, ↓reduceIte, Nat.reduceEqDiff, Int.reduceToNat, Int.reduceLE, Int.reduceLT, Nat.reduceAdd, Nat.reduceLeDiff, intBin, strBin, unD, extractD, lit1, lit2, lit3, keptD, boxR, D.one, D.pub1, D.cells, splice, cutOwn]
    have hw : IntKind.i64.wrap (((headL b l).length : Int) + ((1 : Nat) : Int)) = (((headL b l).length + 1 : Nat) : Int) := wrap64_in (by omega) (by omega)
    rw [hw]
    refine ⟨⟨by omega, by omega⟩, ⟨by omega, by omega, by omega⟩, Ret.is ?_⟩
    rw [Int.toNat_natCast, toB_extract, toB_extract, List.drop_zero, decide_eq_true h]
    have e1 : l.take (headL b l).length = headL b l := by
      have h2 := congrArg (List.take (headL b l).length) (headL_in b h)
      rw [List.take_left] at h2
      exact h2
    have e2 : (l.take l.length).drop ((headL b l).length + 1) = tailL b l := by
      rw [List.take_length]
      have h2 := congrArg (List.drop ((headL b l).length + 1)) (headL_in b h)
      rw [drop_over] at h2
      exact h2
    rw [e1, e2]
  · rw [index_out b h, (headL_not b h).1, (headL_not b h).2]
    simp -dsimp only [hsz, hone, ↓preB, postB, genB, ↓reduceIte, Nat.reduceEqDiff, Int.reduceToNat, Int.reduceLE, Int.reduceLT, Nat.reduceAdd, Nat.reduceLeDiff, intBin, strBin, unD, extractD, lit1, lit2, lit3, keptD, boxR, D.one, D.pub1, D.cells, splice, cutOwn]
    exact Ret.is (by rw [decide_eq_false h]; rfl)
theorem Cut_c (l : List UInt8) (b : UInt8) (hs : l.length ≤ 100000) : Fn Zs 35 [.str (toB l), .str ⟨#[b]⟩] (.tup [.str (toB (headL b l)), .str (toB (tailL b l)), .bool (decide (b ∈ l))]) := by
  refine fn_of (Z := Zs) ok35 fun σ hcl hbl => ?_
  simp -dsimp only [L35, ↓preB, postB, genB, ↓reduceIte, Nat.reduceEqDiff, Int.reduceToNat, Int.reduceLE, Int.reduceLT, Nat.reduceAdd, Nat.reduceLeDiff, intBin, strBin, unD, extractD, lit1, lit2, lit3, keptD, boxR, D.one, D.pub1, D.cells, splice, cutOwn]
  refine Fn.use (liteCut_c l b hs) ?_
  simp -dsimp only [↓preB, postB, genB, ↓reduceIte, Nat.reduceEqDiff, Int.reduceToNat, Int.reduceLE, Int.reduceLT, Nat.reduceAdd, Nat.reduceLeDiff, intBin, strBin, unD, extractD, lit1, lit2, lit3, keptD, boxR, D.one, D.pub1, D.cells, splice, cutOwn]
  exact Ret.is rfl
/-! ### the specification's cutting -/
theorem headL_app (b : UInt8) (y : List UInt8) : ∀ x : List UInt8, b ∉ x → headL b (x ++ b :: y) = x ∧ tailL b (x ++ b :: y) = y
  | [], _ => ⟨headL_eq _ _, tailL_eq _ _⟩
  | c :: x, h => by
    have hc : c ≠ b := fun e => h (by rw [e]; simp)
    obtain ⟨h1, h2⟩ := headL_app b y x fun hm => h (List.mem_cons_of_mem _ hm)
    rw [List.cons_append, headL_ne hc, tailL_ne hc, h1, h2]
    exact ⟨rfl, rfl⟩
theorem refCut_c (l : List UInt8) (b : UInt8) (hs : l.length ≤ 100000) : Fn Zs 44 [.str (toB l), .int .u8 b.toNat] (encSS ((cutL b l).map toB)) := by
  refine fn_of (Z := Zs) ok44 fun σ hcl hbl => ?_
  simp -dsimp only [L44, ↓preB, postB, genB, ↓reduceIte, Nat.reduceEqDiff, Int.reduceToNat, Int.reduceLE, Int.reduceLT, Nat.reduceAdd, Nat.reduceLeDiff, intBin, strBin, unD, extractD, lit1, lit2, lit3, keptD, boxR, D.one, D.pub1, D.cells, splice, cutOwn]
  have hsz := toB_size l
  refine pwp_loopG (fun (x : Nat × Nat × List (List UInt8)) env s => ((x.1 ≤ l.length ∧ x.2.1 ≤ x.1 ∧ x.2.2 ++ cutL b (l.drop x.2.1) = cutL b l ∧ b ∉ (l.drop x.2.1).take (x.1 - x.2.1)) ∨ (x.1 = l.length + 1 ∧ x.2.2 = cutL b l ∧ x.2.1 ≤ l.length + 1)) ∧ x.2.2.length ≤ x.1 ∧ Acc 9 1 σ x.2.2.length (x.2.2.map fun y => .str (toB y)) (env 5) s ∧ env 6 = .int .i64 (x.2.1:Nat) ∧ env 7 = .int .i64 (x.1:Nat) ∧ env 0 = .str (toB l) ∧ env 1 = .int .u8 b.toNat) (fun x => l.length + 1 - x.1) (0, 0, []) ?_ ?_
  · simp only [upd_apply, envOf_apply, Nat.reduceEqDiff, if_true, if_false]
    exact ⟨.inl ⟨Nat.zero_le _, Nat.le_refl _, rfl, by simp⟩, Nat.zero_le _, Acc.nil (HLe.refl _), rfl, rfl, rfl, rfl⟩
  · rintro ⟨i, at_, outs⟩ env s ⟨hI, hlo, hA, h6, h7, h0, h1⟩
    simp only at hI hlo hA h6 h7
    rcases Nat.lt_or_ge l.length i with hgt | hle
    · rcases hI with ⟨h2, _⟩ | ⟨h2, h3, h4⟩
      · omega
      have hn : ¬ ((i : Int) ≤ l.length) := by omega
      simp -dsimp only [h6, h7, h0, h1, hsz, hn, ↓preB, postB, genB, ↓reduceIte, Nat.reduceEqDiff, Int.reduceToNat, Int.reduceLE, Int.reduceLT, Nat.reduceAdd, Nat.reduceLeDiff, intBin, strBin, unD, extractD, lit1, lit2, lit3, keptD, boxR, D.one, D.pub1, D.cells, splice, cutOwn]
      intro _
      refine Ret.told σ (encSS ((cutL b l).map toB)) (Nat.le_refl _) hA.le hcl ?_ (.no (bel_strs _)) ⟨rfl, rfl⟩
      have := hA.told (τ := s) (τ' := σ)
      rw [h3] at this
      simpa [encSS, List.map_map, Function.comp_def] using this
    · obtain ⟨h2, h3, h4, h5⟩ := hI.resolve_right fun h => by omega
      have hn : (i : Int) ≤ l.length := by omega
      by_cases he : i = l.length
      · have hc : ((i : Int) == (l.length : Int)) = true := by rw [he]; simp
        simp -dsimp only [h6, h7, h0, h1, hsz, hn, hc, gate, show (true == false) = false from rfl, ↓preB, postB, genB, ↓reduceIte, Nat.reduceEqDiff, Int.reduceToNat, Int.reduceLE, Int.reduceLT, Nat.reduceAdd, Nat.reduceLeDiff, intBin, strBin, unD, extractD, lit1, lit2, lit3, keptD, boxR, D.one, D.pub1, D.cells, splice, cutOwn]
        intro _ _
        refine ⟨by omega, ?_⟩
        refine hA.append hcl tz29 rfl tz9 rfl rfl rfl (by decide) (by simp) (fedBy_sl (m := 1) tz29 rfl (by simp)) (by simp only []; omega) (by simp only [big]; omega) fun d' s' hA' => ?_
        simp -dsimp only [h6, h7, h0, h1, ↓preB, postB, genB, ↓reduceIte, Nat.reduceEqDiff, Int.reduceToNat, Int.reduceLE, Int.reduceLT, Nat.reduceAdd, Nat.reduceLeDiff, intBin, strBin, unD, extractD, lit1, lit2, lit3, keptD, boxR, D.one, D.pub1, D.cells, splice, cutOwn]
        rw [toB_extract] at hA'
        have hw := wrap64_succ (k := i) (by simp only [big]; omega)
        have hx : l.drop at_ = (l.drop at_).take (i - at_) := by rw [List.take_of_length_le (by rw [List.length_drop]; omega)]
        rw [← hx] at h5
        have hcut : cutL b (l.drop at_) = [(l.take i).drop at_] := by
          rw [cutL_head, if_neg h5, (headL_not b h5).1, he, List.take_length]
        refine ⟨(i + 1, i + 1, outs ++ [(l.take i).drop at_]), ⟨.inr ⟨by simp only [he], by rw [← hcut]; exact h4, by simp only [he]; omega⟩, by simp; omega, ?_, hw, hw⟩, by simp only []; omega⟩
        simpa using hA'
      · have hlt : i < l.length := by omega
        have hc : ((i : Int) == (l.length : Int)) = false := by simp only [beq_eq_false_iff_ne, ne_eq, Int.natCast_inj]; exact he
        have hd : l.drop i = l[i] :: l.drop (i + 1) := List.drop_eq_getElem_cons hlt
        have hby := toB_at hd
        by_cases hb : l[i] = b
        · have hcb : (((l[i]).toNat : Int) == (b.toNat : Int)) = true := by rw [hb]; simp
          simp -dsimp only [h6, h7, h0, h1, hsz, hn, hc, hlt, hby, hcb, gate, show (false == false) = true from rfl, ↓preB, postB, genB, ↓reduceIte, Nat.reduceEqDiff, Int.reduceToNat, Int.reduceLE, Int.reduceLT, Nat.reduceAdd, Nat.reduceLeDiff, intBin, strBin, unD, extractD, lit1, lit2, lit3, keptD, boxR, D.one, D.pub1, D.cells, splice, cutOwn]
          intro _ _
          refine ⟨by omega, ?_⟩
          refine hA.append hcl tz29 rfl tz9 rfl rfl rfl (by decide) (by simp) (fedBy_sl (m := 1) tz29 rfl (by simp)) (by simp only []; omega) (by simp only [big]; omega) fun d' s' hA' => ?_
          simp -dsimp only [h6, h7, h0, h1, ↓preB, postB, genB, ↓reduceIte, Nat.reduceEqDiff, Int.reduceToNat, Int.reduceLE, Int.reduceLT, Nat.reduceAdd, Nat.reduceLeDiff, intBin, strBin, unD, extractD, lit1, lit2, lit3, keptD, boxR, D.one, D.pub1, D.cells, splice, cutOwn]
          rw [toB_extract] at hA'
          have hw := wrap64_succ (k := i) (by simp only [big]; omega)
          have hsp : l.drop at_ = (l.take i).drop at_ ++ b :: l.drop (i + 1) := by
            rw [← hb, ← hd]
            have := congrArg (List.drop at_) (List.take_append_drop i l)
            rw [← this, List.drop_append_of_le_length (by rw [List.length_take]; omega)]
          have hno : b ∉ (l.take i).drop at_ := by rw [List.drop_take]; exact h5
          obtain ⟨g1, g2⟩ := headL_app b (l.drop (i + 1)) _ hno
          refine ⟨(i + 1, i + 1, outs ++ [(l.take i).drop at_]), ⟨.inl ⟨by simp only []; omega, Nat.le_refl _, ?_, by simp⟩, by simp; omega, ?_, hw, hw⟩, by simp only []; omega⟩
          · rw [← h4, hsp, cutL_head b (_ ++ _), g1, g2, if_pos (by simp)]
            simp
          · simpa using hA'
        · have hcb : (((l[i]).toNat : Int) == (b.toNat : Int)) = false := by
            simp only [beq_eq_false_iff_ne, ne_eq, Int.natCast_inj]
            exact fun e => hb (UInt8.toNat_inj.1 e)
          simp -dsimp only [h6, h7, h0, h1, hsz, hn, hc, hlt, hby, hcb, gate, show (false == false) = true from rfl, ↓preB, postB, genB, ↓reduceIte, Nat.reduceEqDiff, Int.reduceToNat, Int.reduceLE, Int.reduceLT, Nat.reduceAdd, Nat.reduceLeDiff, intBin, strBin, unD, extractD, lit1, lit2, lit3, keptD, boxR, D.one, D.pub1, D.cells, splice, cutOwn]
          intro _ _
          refine ⟨(i + 1, at_, outs), ⟨.inl ⟨by simp only []; omega, by simp only []; omega, h4, ?_⟩, by simp only []; omega, hA, rfl, wrap64_succ (by simp only [big]; omega)⟩, by simp only []; omega⟩
          simp only []
          rw [← List.drop_take] at h5 ⊢
          rw [List.take_succ_eq_append_getElem hlt, List.drop_append_of_le_length (by rw [List.length_take]; omega)]
          intro hm
          rcases List.mem_append.1 hm with k | k
          · exact h5 k
          · exact hb (List.mem_singleton.1 k).symm
end Go.Proofs.YtldlcejlfaogbaaDoor.Vs
