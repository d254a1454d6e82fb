/- numbers of YtldlcejlfaogbaaDoor -/
import Derived.Shelf.Small.Strs
import Derived.Test.YtapkbkniooleaaaDoorNewS
import Derived.Test.YtapkbkniooleaaaDoorLawReadsA
namespace Go.Proofs.YtapkbkniooleaaaDoor.Vs
open Go.Shelf Go.RowKit
set_option linter.unusedVariables false
set_option linter.unusedSimpArgs false
set_option maxRecDepth 100000
theorem strs_inj : ∀ {a b : Wd}, a.map (·.data.toList) = b.map (·.data.toList) → a = b
  | [], [], _ => rfl
  | [], _ :: _, h => by cases h
  | _ :: _, [], h => by cases h
  | x :: a, y :: b, h => by
    simp only [List.map_cons, List.cons.injEq] at h
    rw [ba_ext' h.1, strs_inj h.2]
def cutB (b : UInt8) (s : ByteArray) : Wd := (cutL b s.data.toList).map toB
theorem splitB_cut (b : UInt8) (s : ByteArray) : Lib.splitB ⟨#[b]⟩ 0 (Lib.countB s ⟨#[b]⟩) s = cutB b s := by
  refine strs_inj ?_
  rw [Lib.splitB_data]
  have ec : Lib.countB s ⟨#[b]⟩ = s.data.toList.count b := by
    show Lib.count s.data.toList [b] = _
    rw [Lib.count_one]
  rw [ec, cutB, List.map_map, show ((fun x : ByteArray => x.data.toList) ∘ toB) = id from funext toB_list, List.map_id]
  exact splitK_cut b _ _ (Nat.le_refl _)
theorem cutL_pieces (b : UInt8) : ∀ (n : Nat) (l : List UInt8), l.length ≤ n → (cutL b l).length ≤ l.length + 1 ∧ ∀ y ∈ cutL b l, y.length ≤ l.length
  | n, l, hn => by
    rw [cutL_head]
    by_cases h : b ∈ l
    · rw [if_pos h]
      match n, hn with
      | 0, hn => exact absurd (List.eq_nil_of_length_eq_zero (Nat.le_zero.1 hn)) (by intro e; rw [e] at h; cases h)
      | n + 1, hn =>
        have h1 := tailL_len b l
        have h3 := List.length_pos_iff.2 (fun e : l = [] => by rw [e] at h; cases h)
        obtain ⟨h4, h5⟩ := cutL_pieces b n (tailL b l) (by omega)
        refine ⟨by rw [List.length_cons]; omega, fun y hy => ?_⟩
        rcases List.mem_cons.1 hy with rfl | hy
        · exact headL_len _ _
        · have := h5 y hy; omega
    · rw [if_neg h]
      refine ⟨by simp, fun y hy => ?_⟩
      simp only [List.mem_singleton] at hy
      subst hy
      exact headL_len _ _
theorem cutB_sizes (b : UInt8) (s : ByteArray) : (cutB b s).length ≤ s.size + 1 ∧ ∀ x ∈ cutB b s, x.size ≤ s.size := by
  obtain ⟨h1, h2⟩ := cutL_pieces b _ s.data.toList (Nat.le_refl _)
  have hs : s.data.toList.length = s.size := by simp
  refine ⟨by rw [cutB, List.length_map]; omega, fun x hx => ?_⟩
  obtain ⟨y, hy, rfl⟩ := List.mem_map.1 hx
  rw [toB_size]
  have := h2 y hy
  omega
theorem genSplit1_c (s : ByteArray) (b : UInt8) (hs : s.size ≤ 100000) : Fn Zs 40 [.str s, .str ⟨#[b]⟩, .int .i64 0, .int .i64 (-1)] (encSS (cutB b s)) := by
  obtain ⟨fn, c, hf, hb, _, _, _, hn, _⟩ := ok40.ok
  refine fn_new (Z := Zs) ⟨fn, hf, by rw [hb]; rfl, hn⟩ fun W s' vs hv hW => ?_
  obtain ⟨v0, v1, v2, v3, rfl⟩ : ∃ a b c d, vs = #[a, b, c, d] := by
    obtain ⟨l⟩ := vs
    match l, hv.1 with
    | [a, b, c, d], _ => exact ⟨a, b, c, d, rfl⟩
  have e0 : V W (Lim s') v0 (.str s) := hv.2 0 (by simp)
  have e1 : V W (Lim s') v1 (.str ⟨#[b]⟩) := hv.2 1 (by simp)
  have e2 : V W (Lim s') v2 (.int .i64 0) := hv.2 2 (by simp)
  have e3 : V W (Lim s') v3 (.int .i64 (-1)) := hv.2 3 (by simp)
  cases e0; cases e1; cases e2; cases e3
  have hone : (⟨#[b]⟩ : ByteArray).size = 1 := rfl
  have hle := Lib.countB_le ⟨#[b]⟩ (by rw [hone]; decide) s.size s (Nat.le_refl _)
  have hlen := Lib.splitB_all ⟨#[b]⟩ (by rw [hone]; decide) 0 _ s rfl
  have L := Tryd.lays221
  have key := Any.strings_genSplit_core Tryd.lays221 (by kernel_rfl) s ⟨#[b]⟩ 0 (-1) (Lib.countB s ⟨#[b]⟩ + 1) W (by omega) (by rw [hone]; decide) (Nat.zero_le _)
    (fun x c hx => by
      refine (Any.strings_Index_one { L with } x b (W.alloc (.cells c (Tryd.lays221_ren.t 9)))).mono ?_
      rintro e w' ⟨rfl, rfl⟩
      exact ⟨by rw [← Lib.index_one], rfl⟩)
    (by
      refine (Any.strings_Count_one { L with } s b W).mono ?_
      rintro e w' ⟨rfl, rfl⟩
      refine ⟨?_, rfl⟩
      show _ = Ending.returned (Value.int .i64 ((Lib.count s.data.toList [b] : Nat) : Int))
      rw [Lib.count_one]
      rfl) (by decide) (by decide) (by rw [if_pos (by decide)]; omega)
  rw [Nat.add_sub_cancel] at key
  have e2 : Lib.cellsOf (Lib.splitB ⟨#[b]⟩ 0 (Lib.countB s ⟨#[b]⟩) s) (Lib.countB s ⟨#[b]⟩ + 1) = ((Lib.splitB ⟨#[b]⟩ 0 (Lib.countB s ⟨#[b]⟩) s).map Value.string).toArray := by rw [← hlen]; exact Lib.cellsOf_full _
  rw [e2, ← hlen, splitB_cut] at key
  refine key.mono ?_
  rintro e w' ⟨rfl, rfl⟩
  obtain ⟨h1, h2⟩ := cutB_sizes b s
  refine ⟨_, rfl, V_new_strs hW (Tryd.lays221_ren.t 9) (cutB b s) (by simp only [big]; omega) (fun x hx => by have := h2 x hx; simp only [big]; omega), (Below.refl _ _).alloc (Nat.le_refl _) _⟩
theorem Split1_c (s : ByteArray) (b : UInt8) (hs : s.size ≤ 100000) : Fn Zs 21 [.str s, .str ⟨#[b]⟩] (encSS (cutB b s)) := by
  refine fn_of (Z := Zs) ok21 fun σ hcl hbl => ?_
  simp -dsimp only [L21, ↓preB, postB, genB, ↓reduceIte, Nat.reduceEqDiff, Int.reduceToNat, Int.reduceLE, Int.reduceLT, Nat.reduceAdd, Nat.reduceLeDiff, intBin, strBin, unD, extractD, lit1, lit2, lit3, keptD, boxR, D.one, D.pub1, D.cells, splice, cutOwn]
  refine Fn.use (genSplit1_c s b hs) ?_
  simp -dsimp only [↓preB, postB, genB, ↓reduceIte, Nat.reduceEqDiff, Int.reduceToNat, Int.reduceLE, Int.reduceLT, Nat.reduceAdd, Nat.reduceLeDiff, intBin, strBin, unD, extractD, lit1, lit2, lit3, keptD, boxR, D.one, D.pub1, D.cells, splice, cutOwn]
  exact Ret.is rfl
theorem Index_c (s : ByteArray) (b : UInt8) : Fn Zs 65 [.str s, .str ⟨#[b]⟩] (.int .i64 (Lib.indexByte s.data.toList b)) := by
  obtain ⟨fn, cc, hf, hb, _, _, _, hn, _⟩ := ok65.ok
  refine fn_below (Z := Zs) ⟨fn, hf, by rw [hb]; rfl, hn⟩ fun W s' vs hv hW => ?_
  obtain ⟨v0, v1, rfl⟩ : ∃ a b, vs = #[a, b] := by
    obtain ⟨l⟩ := vs
    match l, hv.1 with
    | [a, b], _ => exact ⟨a, b, rfl⟩
  have e0 : V W (Lim s') v0 (.str s) := hv.2 0 (by simp)
  have e1 : V W (Lim s') v1 (.str ⟨#[b]⟩) := hv.2 1 (by simp)
  cases e0; cases e1
  refine ⟨.int .i64 (Lib.indexByte s.data.toList b), fun w' => .int _ _, ?_⟩
  have L := Tryd.lays221
  refine (Any.stringslite_Index_one (ρ := Tryd.lays221_ren) { L with } s b W).mono ?_
  rintro e w' ⟨rfl, rfl⟩
  exact ⟨by rfl, Below.refl _ _⟩
theorem liteCut_c (l : List UInt8) (b : UInt8) (hs : l.length ≤ 100000) : Fn Zs 39 [.str (toB l), .str ⟨#[b]⟩] (.tup [.str (toB (headL b l)), .str (toB (tailL b l)), .bool (decide (b ∈ l))]) := by
  refine fn_of (Z := Zs) ok39 fun σ hcl hbl => ?_
  simp -dsimp only [L39, ↓preB, postB, genB, ↓reduceIte, Nat.reduceEqDiff, Int.reduceToNat, Int.reduceLE, Int.reduceLT, Nat.reduceAdd, Nat.reduceLeDiff, intBin, strBin, unD, extractD, lit1, lit2, lit3, keptD, boxR, D.one, D.pub1, D.cells, splice, cutOwn]
  refine Fn.use (Index_c _ b) ?_
  rw [toB_list]
  have hsz := toB_size l
  have hone : (⟨#[b]⟩ : ByteArray).size = 1 := rfl
  by_cases h : b ∈ l
  · rw [index_in b h]
    have hl := headL_len b l
    have hle : (0 : Int) ≤ ((headL b l).length : Int) := by omega
    have h1 : (headL b l).length + 1 ≤ l.length := by
      have := congrArg List.length (headL_in b h)
      rw [List.length_append, List.length_cons] at this
      omega
    simp -dsimp only [hsz, hone, hle, ↓preB, postB, genB, ↓reduceIte, Nat.reduceEqDiff, Int.reduceToNat, Int.reduceLE, Int.reduceLT, Nat.reduceAdd, Nat.reduceLeDiff, intBin, strBin, unD, extractD, lit1, lit2, lit3, keptD, boxR, D.one, D.pub1, D.cells, splice, cutOwn]
    refine draw_s ?_
    simp -dsimp only [hsz, hone, hle, ↓preB, postB, genB, ↓reduceIte, Nat.reduceEqDiff, Int.reduceToNat, Int.reduceLE, Int.reduceLT, Nat.reduceAdd, Nat.reduceLeDiff, intBin, strBin, unD, extractD, lit1, lit2, lit3, keptD, boxR, D.one, D.pub1, D.cells, splice, cutOwn]
    have hw : IntKind.i64.wrap (((headL b l).length : Int) + ((1 : Nat) : Int)) = (((headL b l).length + 1 : Nat) : Int) := wrap64_in (by omega) (by omega)
    rw [hw]
    refine ⟨⟨by omega, by omega⟩, ⟨by omega, by omega, by omega⟩, Ret.is ?_⟩
    rw [Int.toNat_natCast, toB_extract, toB_extract, List.drop_zero, decide_eq_true h]
    have e1 : l.take (headL b l).length = headL b l := by
      have h2 := congrArg (List.take (headL b l).length) (headL_in b h)
      rw [List.take_left] at h2
      exact h2
    have e2 : (l.take l.length).drop ((headL b l).length + 1) = tailL b l := by
      rw [List.take_length]
      have h2 := congrArg (List.drop ((headL b l).length + 1)) (headL_in b h)
      rw [drop_over] at h2
      exact h2
    rw [e1, e2]
  · rw [index_out b h, (headL_not b h).1, (headL_not b h).2]
    simp -dsimp only [hsz, hone, ↓preB, postB, genB, ↓reduceIte, Nat.reduceEqDiff, Int.reduceToNat, Int.reduceLE, Int.reduceLT, Nat.reduceAdd, Nat.reduceLeDiff, intBin, strBin, unD, extractD, lit1, lit2, lit3, keptD, boxR, D.one, D.pub1, D.cells, splice, cutOwn]
    exact Ret.is (by rw [decide_eq_false h]; rfl)
theorem Cut_c (l : List UInt8) (b : UInt8) (hs : l.length ≤ 100000) : Fn Zs 20 [.str (toB l), .str ⟨#[b]⟩] (.tup [.str (toB (headL b l)), .str (toB (tailL b l)), .bool (decide (b ∈ l))]) := by
  refine fn_of (Z := Zs) ok20 fun σ hcl hbl => ?_
  simp -dsimp only [L20, ↓preB, postB, genB, ↓reduceIte, Nat.reduceEqDiff, Int.reduceToNat, Int.reduceLE, Int.reduceLT, Nat.reduceAdd, Nat.reduceLeDiff, intBin, strBin, unD, extractD, lit1, lit2, lit3, keptD, boxR, D.one, D.pub1, D.cells, splice, cutOwn]
  refine Fn.use (liteCut_c l b hs) ?_
  simp -dsimp only [↓preB, postB, genB, ↓reduceIte, Nat.reduceEqDiff, Int.reduceToNat, Int.reduceLE, Int.reduceLT, Nat.reduceAdd, Nat.reduceLeDiff, intBin, strBin, unD, extractD, lit1, lit2, lit3, keptD, boxR, D.one, D.pub1, D.cells, splice, cutOwn]
  exact Ret.is rfl
theorem headL_app (b : UInt8) (y : List UInt8) : ∀ x : List UInt8, b ∉ x → headL b (x ++ b :: y) = x ∧ tailL b (x ++ b :: y) = y
  | [], _ => ⟨headL_eq _ _, tailL_eq _ _⟩
  | c :: x, h => by
    have hc : c ≠ b := fun e => h (by rw [e]; simp)
    obtain ⟨h1, h2⟩ := headL_app b y x fun hm => h (List.mem_cons_of_mem _ hm)
    rw [List.cons_append, headL_ne hc, tailL_ne hc, h1, h2]
    exact ⟨rfl, rfl⟩
end Go.Proofs.YtapkbkniooleaaaDoor.Vs
