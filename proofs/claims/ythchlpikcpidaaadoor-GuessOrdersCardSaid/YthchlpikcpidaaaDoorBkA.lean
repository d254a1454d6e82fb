/- numbers of YtldlcejlfaogbaaDoor -/
import Derived.Shelf.Strings.Split
import Derived.Test.YthchlpikcpidaaaDoorFnKey
import Derived.Test.YthchlpikcpidaaaDoorNewS
namespace Go.Proofs.YthchlpikcpidaaaDoor.Vs
open Go.Shelf Go.RowKit
set_option linter.unusedVariables false
set_option linter.unusedSimpArgs false
set_option maxRecDepth 100000
theorem blankAt {x T : List UInt8} (hx : ∀ b ∈ x, b ≠ 32) : Lib.indexByte (x ++ 32 :: T) 32 = x.length := by
  induction x with
  | nil => rfl
  | cons b x ih =>
    have hb : (b == 32) = false := by simpa using hx b (by simp)
    have ih := ih fun c hc => hx c (List.mem_cons_of_mem _ hc)
    rw [List.cons_append, Lib.indexByte, hb, ih, if_neg (by simp), if_neg (by simp)]
    simp
theorem join_tail (x : List UInt8) (y : List UInt8) (r : List (List UInt8)) : Lib.join (x :: y :: r) [32] = x ++ 32 :: Lib.join (y :: r) [32] := by
  simp [Lib.join, List.intercalate, List.intersperse]
theorem split_join : ∀ (xs : List (List UInt8)), xs ≠ [] → (∀ x ∈ xs, ∀ b ∈ x, b ≠ 32) → (Lib.join xs [32]).count 32 = xs.length - 1 ∧ Lib.splitK [32] 0 (xs.length - 1) (Lib.join xs [32]) = xs
  | [], h, _ => absurd rfl h
  | [x], _, h => by
    rw [Lib.join_one]
    refine ⟨?_, rfl⟩
    show List.count 32 x = 0
    rw [List.count_eq_zero]
    exact fun hm => h x (by simp) 32 hm rfl
  | x :: y :: r, _, h => by
    obtain ⟨h1, h2⟩ := split_join (y :: r) (by simp) fun z hz => h z (List.mem_cons_of_mem _ hz)
    have hx := h x (by simp)
    have h3 : x.count 32 = 0 := List.count_eq_zero.2 fun hm => hx 32 hm rfl
    have hi := blankAt (T := Lib.join (y :: r) [32]) hx
    rw [join_tail]
    refine ⟨?_, ?_⟩
    · rw [List.count_append, h3, List.count_cons_self, h1]
      simp
    · have e : (x :: y :: r).length - 1 = ((y :: r).length - 1) + 1 := by simp
      rw [e, Lib.splitK, Lib.index_one, hi, if_neg (by simp)]
      simp only [Int.toNat_natCast, Nat.add_zero, List.length_singleton]
      rw [List.take_left, show x.length + 1 = x.length + 1 from rfl, List.drop_append, List.drop_of_length_le (by omega), List.nil_append, show x.length + 1 - x.length = 1 by omega, List.drop_one, List.tail_cons, h2]
theorem split_key (w : Wd) (h0 : w ≠ []) (hw : goodW w) : Lib.splitB sp 0 (Lib.countB (keyB w sp) sp) (keyB w sp) = w := by
  have inj : ∀ {a b : ByteArray}, a.data.toList = b.data.toList → a = b := fun {a b} h => by cases a; cases b; congr 1; exact Array.toList_inj.1 h
  have inj2 : ∀ {a b : Wd}, a.map (·.data.toList) = b.map (·.data.toList) → a = b := fun {a} => by
    induction a with
    | nil => intro b h; cases b with
      | nil => rfl
      | cons => cases h
    | cons x a ih => intro b h; cases b with
      | nil => cases h
      | cons y b =>
        simp only [List.map_cons, List.cons.injEq] at h
        rw [inj h.1, ih h.2]
  refine inj2 ?_
  rw [Lib.splitB_data]
  have ek : (keyB w sp).data.toList = Lib.join (w.map (·.data.toList)) [32] := by simp [keyB, sp]
  obtain ⟨h1, h2⟩ := split_join (w.map (·.data.toList)) (by simpa using h0) fun x hx => by
    obtain ⟨s, hs, rfl⟩ := List.mem_map.1 hx
    exact (hw.2.2 s hs).2
  have ec : Lib.countB (keyB w sp) sp = (w.map (·.data.toList)).length - 1 := by
    show Lib.count (keyB w sp).data.toList [32] = _
    rw [Lib.count_one, ek, h1]
  rw [ec, ek]
  exact h2
theorem keyB_size {w : Wd} (hw : goodW w) : (keyB w sp).size ≤ 1920 := by
  have h1 : (keyB w sp).size = (Lib.join (w.map (·.data.toList)) [32]).length := by rw [Lib.size_eq]; simp [keyB, sp]
  have := join_len [32] (by simp) (w.map (·.data.toList)) fun x hx => by
    obtain ⟨s, hs, rfl⟩ := List.mem_map.1 hx
    simpa using hw.2.1 s hs
  rw [List.length_map] at this
  have := hw.1
  omega
theorem genSplit_c (w : Wd) (h0 : w ≠ []) (hw : goodW w) : Fn Zs 43 [.str (keyB w sp), .str sp, .int .i64 0, .int .i64 (-1)] (encSS w) := by
  obtain ⟨fn, c, hf, hb, _, _, _, hn, _⟩ := ok43.ok
  refine fn_new (Z := Zs) ⟨fn, hf, by rw [hb]; rfl, hn⟩ fun W s' vs hv hW => ?_
  obtain ⟨v0, v1, v2, v3, rfl⟩ : ∃ a b c d, vs = #[a, b, c, d] := by
    obtain ⟨l⟩ := vs
    match l, hv.1 with
    | [a, b, c, d], _ => exact ⟨a, b, c, d, rfl⟩
  have e0 : V W (Lim s') v0 (.str (keyB w sp)) := hv.2 0 (by simp)
  have e1 : V W (Lim s') v1 (.str sp) := hv.2 1 (by simp)
  have e2 : V W (Lim s') v2 (.int .i64 0) := hv.2 2 (by simp)
  have e3 : V W (Lim s') v3 (.int .i64 (-1)) := hv.2 3 (by simp)
  cases e0; cases e1; cases e2; cases e3
  have hsz := keyB_size hw
  have hsp := split_key w h0 hw
  have hle := Lib.countB_le sp (by decide) (keyB w sp).size (keyB w sp) (Nat.le_refl _)
  have hlen := Lib.splitB_all sp (by decide) 0 _ (keyB w sp) rfl
  have L := Tryd.lays221
  have key := Any.strings_genSplit_core Tryd.lays221 (by kernel_rfl) (keyB w sp) sp 0 (-1) (Lib.countB (keyB w sp) sp + 1) W (by omega) (by decide) (by decide)
    (fun x c hx => by
      refine (Any.strings_Index_one { L with } x 32 (W.alloc (.cells c (Tryd.lays221_ren.t 9)))).mono ?_
      rintro e w' ⟨rfl, rfl⟩
      exact ⟨by rw [← Lib.index_one]; rfl, rfl⟩)
    (by
      refine (Any.strings_Count_one { L with } (keyB w sp) 32 W).mono ?_
      rintro e w' ⟨rfl, rfl⟩
      refine ⟨?_, rfl⟩
      show _ = Ending.returned (Value.int .i64 ((Lib.count (keyB w sp).data.toList [32] : Nat) : Int))
      rw [Lib.count_one]
      rfl) (by decide) (by decide) (by rw [if_pos (by decide)]; omega)
  rw [Nat.add_sub_cancel] at key
  have e2 : Lib.cellsOf (Lib.splitB sp 0 (Lib.countB (keyB w sp) sp) (keyB w sp)) (Lib.countB (keyB w sp) sp + 1) = ((Lib.splitB sp 0 (Lib.countB (keyB w sp) sp) (keyB w sp)).map Value.string).toArray := by rw [← hlen]; exact Lib.cellsOf_full _
  rw [e2, ← hlen, hsp] at key
  refine key.mono ?_
  rintro e w' ⟨rfl, rfl⟩
  refine ⟨_, rfl, V_new_strs hW (Tryd.lays221_ren.t 9) w (by have := hw.1; simp only [big]; omega) (fun x hx => by have := hw.2.1 x hx; simp only [big]; omega), (Below.refl _ _).alloc (Nat.le_refl _) _⟩
theorem Split_c (w : Wd) (h0 : w ≠ []) (hw : goodW w) : Fn Zs 30 [.str (keyB w sp), .str sp] (encSS w) := by
  refine fn_of (Z := Zs) ok30 fun σ hcl hbl => ?_
  simp -dsimp only [L30, ↓preB, postB, genB, ↓reduceIte, Nat.reduceEqDiff, Int.reduceToNat, Int.reduceLE, Int.reduceLT, Nat.reduceAdd, Nat.reduceLeDiff, intBin, strBin, unD, extractD, lit1, lit2, lit3, keptD, boxR, D.one, D.pub1, D.cells, splice, cutOwn]
  refine Fn.use (genSplit_c w h0 hw) ?_
  simp -dsimp only [↓preB, postB, genB, ↓reduceIte, Nat.reduceEqDiff, Int.reduceToNat, Int.reduceLE, Int.reduceLT, Nat.reduceAdd, Nat.reduceLeDiff, intBin, strBin, unD, extractD, lit1, lit2, lit3, keptD, boxR, D.one, D.pub1, D.cells, splice, cutOwn]
  exact Ret.is rfl
theorem keyB_empty {w : Wd} (hw : goodW w) : ((keyB w sp == ⟨#[]⟩) = true ↔ w = []) := by
  refine ⟨fun h => ?_, fun h => by subst h; rfl⟩
  have h := ba_eq h
  exact keyB_inj hw ⟨by simp, by simp, by simp⟩ (by rw [h]; rfl)
end Go.Proofs.YthchlpikcpidaaaDoor.Vs
