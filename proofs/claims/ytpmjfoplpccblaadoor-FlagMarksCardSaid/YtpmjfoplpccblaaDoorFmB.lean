/- numbers of YtpmjfoplpccblaaDoor -/
import Derived.Shelf.Strings.SlTrimAscii
import Derived.Test.YtpmjfoplpccblaaDoorFmA
namespace Go.Proofs.YtpmjfoplpccblaaDoor.Vs
open Go.Shelf Go.RowKit
set_option linter.unusedVariables false
set_option linter.unusedSimpArgs false
set_option maxRecDepth 100000
def Tryd.lays160_ren : Go.Shelf.Ren := ⟨fun | 160 => 34 | 232 => 40 | 231 => 39 | 227 => 41 | 234 => 43 | 233 => 42 | 236 => 45 | 235 => 44 | 228 => 53 | 271 => 56 | 151 => 55 | 197 => 54 | 120 => 63 | 152 => 62 | 260 => 61 | 137 => 64 | 119 => 65 | 224 => 51 | 225 => 50 | 217 => 49 | 266 => 59 | n => n, fun | 9 => 9 | 4 => 4 | 3 => 3 | 5 => 5 | 117 => 62 | 116 => 61 | 0 => 0 | 124 => 65 | 21 => 21 | 105 => 71 | 46 => 69 | 119 => 79 | 139 => 82 | 138 => 81 | n => n, fun | 3 => 1 | 4 => 2 | n => n⟩
theorem Tryd.lays160 : Go.Proofs.Lays.n160 Tryd.prog Tryd.lays160_ren := {
  mixed := by kernel_rfl
  f119 := Tryd.func65.trans (congrArg some (by kernel_rfl))
  f120 := Tryd.func63.trans (congrArg some (by kernel_rfl))
  f137 := Tryd.func64.trans (congrArg some (by kernel_rfl))
  f151 := Tryd.func55.trans (congrArg some (by kernel_rfl))
  f152 := Tryd.func62.trans (congrArg some (by kernel_rfl))
  f160 := Tryd.func34.trans (congrArg some (by kernel_rfl))
  f197 := Tryd.func54.trans (congrArg some (by kernel_rfl))
  f217 := Tryd.func49.trans (congrArg some (by kernel_rfl))
  f224 := Tryd.func51.trans (congrArg some (by kernel_rfl))
  f225 := Tryd.func50.trans (congrArg some (by kernel_rfl))
  f227 := Tryd.func41.trans (congrArg some (by kernel_rfl))
  f228 := Tryd.func53.trans (congrArg some (by kernel_rfl))
  f231 := Tryd.func39.trans (congrArg some (by kernel_rfl))
  f232 := Tryd.func40.trans (congrArg some (by kernel_rfl))
  f233 := Tryd.func42.trans (congrArg some (by kernel_rfl))
  f234 := Tryd.func43.trans (congrArg some (by kernel_rfl))
  f235 := Tryd.func44.trans (congrArg some (by kernel_rfl))
  f236 := Tryd.func45.trans (congrArg some (by kernel_rfl))
  f260 := Tryd.func61.trans (congrArg some (by kernel_rfl))
  f266 := Tryd.func59.trans (congrArg some (by kernel_rfl))
  f271 := Tryd.func56.trans (congrArg some (by kernel_rfl))
  t0 := Tryd.underlying0
  a0 := Tryd.isAgg0
  z0 := Tryd.sizeOf0
  v0 := Tryd.zeroValue0
  t3 := Tryd.underlying3
  a3 := Tryd.isAgg3
  z3 := Tryd.sizeOf3
  v3 := Tryd.zeroValue3
  t4 := Tryd.underlying4
  a4 := Tryd.isAgg4
  z4 := Tryd.sizeOf4
  v4 := Tryd.zeroValue4
  t5 := Tryd.underlying5
  a5 := Tryd.isAgg5
  z5 := Tryd.sizeOf5
  v5 := Tryd.zeroValue5
  t9 := Tryd.underlying9
  a9 := Tryd.isAgg9
  z9 := Tryd.sizeOf9
  v9 := Tryd.zeroValue9
  t21 := Tryd.underlying21
  a21 := Tryd.isAgg21
  z21 := Tryd.sizeOf21
  v21 := Tryd.zeroValue21
  t46 := Tryd.underlying69
  a46 := Tryd.isAgg69
  z46 := Tryd.sizeOf69
  v46 := Tryd.zeroValue69
  t105 := Tryd.underlying71
  a105 := Tryd.isAgg71
  z105 := Tryd.sizeOf71
  v105 := Tryd.zeroValue71
  t116 := Tryd.underlying61
  a116 := Tryd.isAgg61
  z116 := Tryd.sizeOf61
  t117 := Tryd.underlying62
  a117 := Tryd.isAgg62
  z117 := Tryd.sizeOf62
  v117 := Tryd.zeroValue62
  t119 := Tryd.underlying79
  a119 := Tryd.isAgg79
  z119 := Tryd.sizeOf79
  t124 := Tryd.underlying65
  a124 := Tryd.isAgg65
  z124 := Tryd.sizeOf65
  v124 := Tryd.zeroValue65
  t138 := Tryd.underlying81
  a138 := Tryd.isAgg81
  z138 := Tryd.sizeOf81
  v138 := Tryd.zeroValue81
  t139 := Tryd.underlying82
  a139 := Tryd.isAgg82
  z139 := Tryd.sizeOf82
  v139 := Tryd.zeroValue82
  g3 := by kernel_rfl
  g4 := by kernel_rfl }

def abcB : ByteArray := ⟨#[97, 98, 99, 100, 101, 102, 103, 104, 105, 106, 107, 108, 109, 110, 111, 112, 113, 114, 115, 116, 117, 118, 119, 120, 121, 122]⟩
theorem trimS_len (l cs : List UInt8) : (Lib.trimS l cs).length ≤ l.length := by
  unfold Lib.trimS Lib.trimLeftS Lib.trimRightS
  refine Nat.le_trans (List.Sublist.length_le (List.dropWhile_sublist _)) ?_
  rw [List.length_reverse]
  refine Nat.le_trans (List.Sublist.length_le (List.dropWhile_sublist _)) ?_
  rw [List.length_reverse]
  exact Nat.le_refl _
theorem Trim_c (s : ByteArray) (hs : s.size ≤ 100000) : Fn Zs 34 [.str s, .str abcB] (.str (toB (Lib.trimS s.data.toList abc))) := by
  obtain ⟨fn, cc, hf, hb, _, _, _, hn, _⟩ := ok34.ok
  refine fn_below (Z := Zs) ⟨fn, hf, by rw [hb]; rfl, hn⟩ fun W s' vs hv hW => ?_
  obtain ⟨v0, v1, rfl⟩ : ∃ a b, vs = #[a, b] := by
    obtain ⟨l⟩ := vs
    match l, hv.1 with
    | [a, b], _ => exact ⟨a, b, rfl⟩
  have e0 : V W (Lim s') v0 (.str s) := hv.2 0 (by simp)
  have e1 : V W (Lim s') v1 (.str abcB) := hv.2 1 (by simp)
  cases e0; cases e1
  refine ⟨.string (toB (Lib.trimS s.data.toList abc)), fun w' => .str _ ?_, ?_⟩
  · rw [toB_size]
    have := trimS_len s.data.toList abc
    have hsz : s.data.toList.length = s.size := by simp
    simp only [big]; omega
  · exact Any.strings_Trim_laid Tryd.lays160 (by kernel_rfl) s abcB W (by omega) (by decide) (Go.Proofs.ascii_of_all (by decide))
theorem toB_nil' : toB [] = (⟨#[]⟩ : ByteArray) := rfl
theorem toB_e (x : List UInt8) : (toB x == (⟨#[]⟩ : ByteArray)) = decide (x = []) := by rw [← toB_nil']; exact toB_beq _ _
theorem isPart_c (x : List UInt8) (hx : x.length ≤ 100000) : Fn Zs 21 [.str (toB x)] (.bool (partL x)) := by
  refine fn_of (Z := Zs) ok21 fun σ hcl hbl => ?_
  simp -dsimp only [L21, ↓preB, postB, genB, ↓reduceIte, Nat.reduceEqDiff, Int.reduceToNat, Int.reduceLE, Int.reduceLT, Nat.reduceAdd, Nat.reduceLeDiff, intBin, strBin, unD, extractD, lit1, lit2, lit3, keptD, boxR, D.one, D.pub1, D.cells, splice, cutOwn]
  have hsz := toB_size x
  have e0 := toB_e x
  by_cases h0 : x = []
  · rw [decide_eq_true h0] at e0
    simp -dsimp only [hsz, e0, gate, Bool.not_true, show (false == true) = false from rfl, ↓preB, postB, genB, ↓reduceIte, Nat.reduceEqDiff, Int.reduceToNat, Int.reduceLE, Int.reduceLT, Nat.reduceAdd, Nat.reduceLeDiff, intBin, strBin, unD, extractD, lit1, lit2, lit3, keptD, boxR, D.one, D.pub1, D.cells, splice, cutOwn]
    exact Ret.is (by rw [partL, decide_eq_true h0]; rfl)
  rw [decide_eq_false h0] at e0
  by_cases h5 : x.length ≤ 5
  · have c5 : (x.length : Int) ≤ 5 := by omega
    simp -dsimp only [hsz, e0, c5, gate, Bool.not_false, decide_true, show (true == true) = true from rfl, ↓preB, postB, genB, ↓reduceIte, Nat.reduceEqDiff, Int.reduceToNat, Int.reduceLE, Int.reduceLT, Nat.reduceAdd, Nat.reduceLeDiff, intBin, strBin, unD, extractD, lit1, lit2, lit3, keptD, boxR, D.one, D.pub1, D.cells, splice, cutOwn]
    intros
    refine Fn.use (Trim_c (toB x) (by rw [hsz]; exact hx)) ?_
    rw [toB_list]
    have e1 := toB_e (Lib.trimS x abc)
    rw [trim_nil] at e1
    simp -dsimp only [hsz, e0, e1, c5, gate, Bool.not_false, decide_true, show (true == true) = true from rfl, ↓preB, postB, genB, ↓reduceIte, Nat.reduceEqDiff, Int.reduceToNat, Int.reduceLE, Int.reduceLT, Nat.reduceAdd, Nat.reduceLeDiff, intBin, strBin, unD, extractD, lit1, lit2, lit3, keptD, boxR, D.one, D.pub1, D.cells, splice, cutOwn]
    exact Ret.is (by rw [partL, decide_eq_false h0, decide_eq_true h5]; simp)
  · have c5 : ¬ (x.length : Int) ≤ 5 := by omega
    simp -dsimp only [hsz, e0, c5, gate, Bool.not_false, decide_false, show (true == true) = true from rfl, show (false == true) = false from rfl, ↓preB, postB, genB, ↓reduceIte, Nat.reduceEqDiff, Int.reduceToNat, Int.reduceLE, Int.reduceLT, Nat.reduceAdd, Nat.reduceLeDiff, intBin, strBin, unD, extractD, lit1, lit2, lit3, keptD, boxR, D.one, D.pub1, D.cells, splice, cutOwn]
    intros
    exact Ret.is (by rw [partL, decide_eq_false h5]; simp)
theorem isShort_c (x : List UInt8) (hx : x.length ≤ 100000) : Fn Zs 24 [.str (toB x)] (.bool (partL x)) := by
  refine fn_of (Z := Zs) ok24 fun σ hcl hbl => ?_
  simp -dsimp only [L24, ↓preB, postB, genB, ↓reduceIte, Nat.reduceEqDiff, Int.reduceToNat, Int.reduceLE, Int.reduceLT, Nat.reduceAdd, Nat.reduceLeDiff, intBin, strBin, unD, extractD, lit1, lit2, lit3, keptD, boxR, D.one, D.pub1, D.cells, splice, cutOwn]
  have hsz := toB_size x
  refine pwp_loopG (fun k env s => k ≤ x.length ∧ (∀ c ∈ x.take k, isAz c = true) ∧ s = σ ∧ env 3 = .int .i64 (k:Nat) ∧ env 0 = .str (toB x)) (fun k => x.length - k) 0 ?_ ?_
  · simp only [upd_apply, envOf_apply, Nat.reduceEqDiff, if_true, if_false]
    exact ⟨Nat.zero_le _, fun c hc => by simp at hc, trivial, rfl, rfl⟩
  · rintro k env s ⟨hk, hp, rfl, h3, h0⟩
    rcases Nat.lt_or_ge k x.length with hlt | hge
    · have hd : x.drop k = x[k] :: x.drop (k + 1) := List.drop_eq_getElem_cons hlt
      have hby := toB_at hd
      have hmem := List.getElem_mem hlt
      have hnx : isAz x[k] = true → ∀ c ∈ x.take (k + 1), isAz c = true := fun h c hc => by
        rw [List.take_succ_eq_append_getElem hlt] at hc
        rcases List.mem_append.1 hc with h1 | h1
        · exact hp c h1
        · rw [List.mem_singleton.1 h1]; exact h
      have hno : isAz x[k] = false → partL x = false := fun h => by
        have : x.all isAz = false := List.all_eq_false.2 ⟨_, hmem, by rw [h]; simp⟩
        rw [partL, this]; simp
      generalize x[k] = c at *
      have hn : (k : Int) < x.length := by omega
      by_cases e1 : (c.toNat : Int) < 97
      · simp -dsimp only [h3, h0, hsz, hn, hlt, hby, e1, gate, decide_true, show (true == false) = false from rfl, ↓preB, postB, genB, ↓reduceIte, Nat.reduceEqDiff, Int.reduceToNat, Int.reduceLE, Int.reduceLT, Nat.reduceAdd, Nat.reduceLeDiff, intBin, strBin, unD, extractD, lit1, lit2, lit3, keptD, boxR, D.one, D.pub1, D.cells, splice, cutOwn]
        intros
        exact Ret.is (by rw [hno (by unfold isAz; rw [decide_eq_false (by omega)]; rfl)])
      by_cases e2 : (122 : Int) < c.toNat
      · simp -dsimp only [h3, h0, hsz, hn, hlt, hby, e1, e2, gate, decide_true, decide_false, show (false == false) = true from rfl, ↓preB, postB, genB, ↓reduceIte, Nat.reduceEqDiff, Int.reduceToNat, Int.reduceLE, Int.reduceLT, Nat.reduceAdd, Nat.reduceLeDiff, intBin, strBin, unD, extractD, lit1, lit2, lit3, keptD, boxR, D.one, D.pub1, D.cells, splice, cutOwn]
        intros
        exact Ret.is (by rw [hno (by unfold isAz; rw [decide_eq_false (p := c.toNat ≤ 122) (by omega), Bool.and_false])])
      simp -dsimp only [h3, h0, hsz, hn, hlt, hby, e1, e2, gate, decide_false, show (false == false) = true from rfl, ↓preB, postB, genB, ↓reduceIte, Nat.reduceEqDiff, Int.reduceToNat, Int.reduceLE, Int.reduceLT, Nat.reduceAdd, Nat.reduceLeDiff, intBin, strBin, unD, extractD, lit1, lit2, lit3, keptD, boxR, D.one, D.pub1, D.cells, splice, cutOwn]
      intros
      exact ⟨k + 1, ⟨by omega, hnx (by unfold isAz; rw [decide_eq_true (by omega), decide_eq_true (by omega)]; rfl), wrap64_succ (by simp only [big]; omega)⟩, by omega⟩
    · have hn : ¬ (k : Int) < x.length := by omega
      rw [show k = x.length by omega, List.take_length] at hp
      have hall : x.all isAz = true := List.all_eq_true.2 hp
      by_cases e1 : (1 : Int) ≤ x.length
      · have hx0 : x ≠ [] := fun e => by rw [e] at e1; simp at e1
        by_cases e5 : (x.length : Int) ≤ 5
        · simp -dsimp only [h3, h0, hsz, hn, e1, e5, gate, decide_true, show (true == true) = true from rfl, ↓preB, postB, genB, ↓reduceIte, Nat.reduceEqDiff, Int.reduceToNat, Int.reduceLE, Int.reduceLT, Nat.reduceAdd, Nat.reduceLeDiff, intBin, strBin, unD, extractD, lit1, lit2, lit3, keptD, boxR, D.one, D.pub1, D.cells, splice, cutOwn]
          intros
          exact Ret.is (by rw [partL, hall, decide_eq_false hx0, decide_eq_true (by omega)]; rfl)
        · simp -dsimp only [h3, h0, hsz, hn, e1, e5, gate, decide_true, decide_false, show (true == true) = true from rfl, ↓preB, postB, genB, ↓reduceIte, Nat.reduceEqDiff, Int.reduceToNat, Int.reduceLE, Int.reduceLT, Nat.reduceAdd, Nat.reduceLeDiff, intBin, strBin, unD, extractD, lit1, lit2, lit3, keptD, boxR, D.one, D.pub1, D.cells, splice, cutOwn]
          intros
          exact Ret.is (by rw [partL, decide_eq_false (p := x.length ≤ 5) (by omega)]; simp)
      · have hx0 : x = [] := List.eq_nil_of_length_eq_zero (by omega)
        simp -dsimp only [h3, h0, hsz, hn, e1, gate, decide_false, show (false == true) = false from rfl, ↓preB, postB, genB, ↓reduceIte, Nat.reduceEqDiff, Int.reduceToNat, Int.reduceLE, Int.reduceLT, Nat.reduceAdd, Nat.reduceLeDiff, intBin, strBin, unD, extractD, lit1, lit2, lit3, keptD, boxR, D.one, D.pub1, D.cells, splice, cutOwn]
        intros
        exact Ret.is (by rw [partL, decide_eq_true hx0]; rfl)
theorem IsSet_c (w : Wd) (hw : w.length ≤ 100000) : Fn Zs 30 [encSS w] (.bool (ascB w)) := by
  refine fn_of (Z := Zs) ok30 fun σ hcl hbl => ?_
  simp -dsimp only [L30, encSS, ↓preB, postB, genB, ↓reduceIte, Nat.reduceEqDiff, Int.reduceToNat, Int.reduceLE, Int.reduceLT, Nat.reduceAdd, Nat.reduceLeDiff, intBin, strBin, unD, extractD, lit1, lit2, lit3, keptD, boxR, D.one, D.pub1, D.cells, splice, cutOwn]
  refine pwp_loopG (fun k env s => 1 ≤ k ∧ (∀ j, j < k → j < w.length → upAt w j = true) ∧ s = σ ∧ env 3 = .int .i64 (k:Nat) ∧ env 0 = encSS w) (fun k => w.length - k) 1 ?_ ?_
  · simp only [upd_apply, envOf_apply, encSS, Nat.reduceEqDiff, if_true, if_false]
    exact ⟨Nat.le_refl _, fun j hj _ => by rw [show j = 0 by omega]; rfl, trivial, rfl, rfl⟩
  · rintro k env s ⟨hk, hp, rfl, h3, h0⟩
    rcases Nat.lt_or_ge k w.length with hlt | hge
    · have hn : (k : Int) < w.length := by omega
      have hw1 : IntKind.i64.wrap ((k : Int) - 1) = ((k - 1 : Nat) : Int) := by rw [wrap64_in (by omega) (by omega)]; omega
      have hk1 : k - 1 < w.length := by omega
      have hx : w[k]? = some w[k] := List.getElem?_eq_getElem hlt
      have hy : w[k - 1]? = some w[k - 1] := List.getElem?_eq_getElem hk1
      have hlp : 0 < w.length := by omega
      have hup : upAt w k = strLt w[k - 1] w[k] := by
        unfold upAt
        rw [decide_eq_false (by omega), Bool.false_or, List.getD_eq_getElem?_getD, List.getD_eq_getElem?_getD, hx, hy]
        rfl
      simp -dsimp only [h3, h0, encSS, hn, hlt, hw1, hk1, hx, hy, hlp, ↓preB, postB, genB, ↓reduceIte, Nat.reduceEqDiff, Int.reduceToNat, Int.reduceLE, Int.reduceLT, Nat.reduceAdd, Nat.reduceLeDiff, intBin, strBin, unD, extractD, lit1, lit2, lit3, keptD, boxR, D.one, D.pub1, D.cells, splice, cutOwn]
      intros
      refine draw_s ?_
      simp -dsimp only [h3, h0, encSS, hn, hlt, hw1, hk1, hx, hy, hlp, ↓preB, postB, genB, ↓reduceIte, Nat.reduceEqDiff, Int.reduceToNat, Int.reduceLE, Int.reduceLT, Nat.reduceAdd, Nat.reduceLeDiff, intBin, strBin, unD, extractD, lit1, lit2, lit3, keptD, boxR, D.one, D.pub1, D.cells, splice, cutOwn]
      cases hc : strLt w[k - 1] w[k]
      · rw [hc] at hup
        rw [if_pos (show (!false) = true from rfl)]
        refine Ret.is ?_
        rw [ascB, List.all_eq_false.2 ⟨k, List.mem_range.2 hlt, by rw [hup]; decide⟩]
      · rw [hc] at hup
        rw [if_neg (show ¬ (!true) = true by decide)]
        refine ⟨k + 1, ⟨by omega, fun j hj hjl => ?_, wrap64_succ (by simp only [big]; omega)⟩, by omega⟩
        by_cases h : j = k
        · rw [h]; exact hup
        · exact hp j (by omega) hjl
    · have hn : ¬ (k : Int) < w.length := by omega
      simp -dsimp only [h3, h0, encSS, hn, ↓preB, postB, genB, ↓reduceIte, Nat.reduceEqDiff, Int.reduceToNat, Int.reduceLE, Int.reduceLT, Nat.reduceAdd, Nat.reduceLeDiff, intBin, strBin, unD, extractD, lit1, lit2, lit3, keptD, boxR, D.one, D.pub1, D.cells, splice, cutOwn]
      intros
      refine Ret.is ?_
      rw [ascB, List.all_eq_true.2 fun j hj => hp j (by have := List.mem_range.1 hj; omega) (List.mem_range.1 hj)]
theorem refValidateS_c (w : Wd) (hw : w.length ≤ 100000) : Fn Zs 15 [encSS w] (.int .i64 (badS w)) := by
  refine fn_of (Z := Zs) ok15 fun σ hcl hbl => ?_
  simp -dsimp only [L15, encSS, ↓preB, postB, genB, ↓reduceIte, Nat.reduceEqDiff, Int.reduceToNat, Int.reduceLE, Int.reduceLT, Nat.reduceAdd, Nat.reduceLeDiff, intBin, strBin, unD, extractD, lit1, lit2, lit3, keptD, boxR, D.one, D.pub1, D.cells, splice, cutOwn]
  intro _
  by_cases c1 : (40 : Int) < w.length
  · simp -dsimp only [c1, gate, decide_true, show (true == false) = false from rfl, ↓preB, postB, genB, ↓reduceIte, Nat.reduceEqDiff, Int.reduceToNat, Int.reduceLE, Int.reduceLT, Nat.reduceAdd, Nat.reduceLeDiff, intBin, strBin, unD, extractD, lit1, lit2, lit3, keptD, boxR, D.one, D.pub1, D.cells, splice, cutOwn]
    exact Ret.is (by rw [badS, decide_eq_true (by omega)]; rfl)
  · have h1 : decide (40 < w.length) = false := decide_eq_false (by omega)
    simp -dsimp only [c1, gate, decide_false, show (false == false) = true from rfl, ↓preB, postB, genB, ↓reduceIte, Nat.reduceEqDiff, Int.reduceToNat, Int.reduceLE, Int.reduceLT, Nat.reduceAdd, Nat.reduceLeDiff, intBin, strBin, unD, extractD, lit1, lit2, lit3, keptD, boxR, D.one, D.pub1, D.cells, splice, cutOwn]
    refine Fn.use (anyLong_c w) ?_
    cases c2 : w.any (fun s => decide (16 < s.size))
    · simp -dsimp only [c1, c2, ↓preB, postB, genB, ↓reduceIte, Nat.reduceEqDiff, Int.reduceToNat, Int.reduceLE, Int.reduceLT, Nat.reduceAdd, Nat.reduceLeDiff, intBin, strBin, unD, extractD, lit1, lit2, lit3, keptD, boxR, D.one, D.pub1, D.cells, splice, cutOwn]
      refine Fn.use (allSymbols_c w) ?_
      cases c3 : w.all symOK
      · simp -dsimp only [c3, gate, Bool.not_false, show (true == false) = false from rfl, ↓preB, postB, genB, ↓reduceIte, Nat.reduceEqDiff, Int.reduceToNat, Int.reduceLE, Int.reduceLT, Nat.reduceAdd, Nat.reduceLeDiff, intBin, strBin, unD, extractD, lit1, lit2, lit3, keptD, boxR, D.one, D.pub1, D.cells, splice, cutOwn]
        exact Ret.is (by rw [badS, h1, c2, c3]; rfl)
      · simp -dsimp only [c3, gate, Bool.not_true, show (false == false) = true from rfl, ↓preB, postB, genB, ↓reduceIte, Nat.reduceEqDiff, Int.reduceToNat, Int.reduceLE, Int.reduceLT, Nat.reduceAdd, Nat.reduceLeDiff, intBin, strBin, unD, extractD, lit1, lit2, lit3, keptD, boxR, D.one, D.pub1, D.cells, splice, cutOwn]
        refine Fn.use (IsSet_c w hw) ?_
        cases c4 : ascB w
        · simp -dsimp only [c4, gate, ↓preB, postB, genB, ↓reduceIte, Nat.reduceEqDiff, Int.reduceToNat, Int.reduceLE, Int.reduceLT, Nat.reduceAdd, Nat.reduceLeDiff, intBin, strBin, unD, extractD, lit1, lit2, lit3, keptD, boxR, D.one, D.pub1, D.cells, splice, cutOwn]
          exact Ret.is (by rw [badS, h1, c2, c3, c4]; rfl)
        · simp -dsimp only [c4, gate, ↓preB, postB, genB, ↓reduceIte, Nat.reduceEqDiff, Int.reduceToNat, Int.reduceLE, Int.reduceLT, Nat.reduceAdd, Nat.reduceLeDiff, intBin, strBin, unD, extractD, lit1, lit2, lit3, keptD, boxR, D.one, D.pub1, D.cells, splice, cutOwn]
          exact Ret.is (by rw [badS, h1, c2, c3, c4]; rfl)
    · simp -dsimp only [c1, c2, ↓preB, postB, genB, ↓reduceIte, Nat.reduceEqDiff, Int.reduceToNat, Int.reduceLE, Int.reduceLT, Nat.reduceAdd, Nat.reduceLeDiff, intBin, strBin, unD, extractD, lit1, lit2, lit3, keptD, boxR, D.one, D.pub1, D.cells, splice, cutOwn]
      exact Ret.is (by rw [badS, c2, Bool.or_true]; rfl)
theorem symsValidate_c (w : Wd) (hw : w.length ≤ 100000) : Fn Zs 14 [encSS w] (.int .i64 (badS w)) := by
  refine fn_of (Z := Zs) ok14 fun σ hcl hbl => ?_
  simp -dsimp only [L14, encSS, ↓preB, postB, genB, ↓reduceIte, Nat.reduceEqDiff, Int.reduceToNat, Int.reduceLE, Int.reduceLT, Nat.reduceAdd, Nat.reduceLeDiff, intBin, strBin, unD, extractD, lit1, lit2, lit3, keptD, boxR, D.one, D.pub1, D.cells, splice, cutOwn]
  intro _
  by_cases c1 : (40 : Int) < w.length
  · simp -dsimp only [c1, gate, decide_true, show (true == false) = false from rfl, ↓preB, postB, genB, ↓reduceIte, Nat.reduceEqDiff, Int.reduceToNat, Int.reduceLE, Int.reduceLT, Nat.reduceAdd, Nat.reduceLeDiff, intBin, strBin, unD, extractD, lit1, lit2, lit3, keptD, boxR, D.one, D.pub1, D.cells, splice, cutOwn]
    exact Ret.is (by rw [badS, decide_eq_true (by omega)]; rfl)
  have h1 : decide (40 < w.length) = false := decide_eq_false (by omega)
  simp -dsimp only [c1, gate, decide_false, show (false == false) = true from rfl, ↓preB, postB, genB, ↓reduceIte, Nat.reduceEqDiff, Int.reduceToNat, Int.reduceLE, Int.reduceLT, Nat.reduceAdd, Nat.reduceLeDiff, intBin, strBin, unD, extractD, lit1, lit2, lit3, keptD, boxR, D.one, D.pub1, D.cells, splice, cutOwn]
  refine Fn.use (containsSS_c w _ 26 [] (fun x hx => isLong_c x)) ?_
  cases c2 : w.any (fun s => decide (16 < s.size))
  case true =>
    simp -dsimp only [c1, c2, ↓preB, postB, genB, ↓reduceIte, Nat.reduceEqDiff, Int.reduceToNat, Int.reduceLE, Int.reduceLT, Nat.reduceAdd, Nat.reduceLeDiff, intBin, strBin, unD, extractD, lit1, lit2, lit3, keptD, boxR, D.one, D.pub1, D.cells, splice, cutOwn]
    exact Ret.is (by rw [badS, c2, Bool.or_true]; rfl)
  simp -dsimp only [c1, c2, ↓preB, postB, genB, ↓reduceIte, Nat.reduceEqDiff, Int.reduceToNat, Int.reduceLE, Int.reduceLT, Nat.reduceAdd, Nat.reduceLeDiff, intBin, strBin, unD, extractD, lit1, lit2, lit3, keptD, boxR, D.one, D.pub1, D.cells, splice, cutOwn]
  intro _
  have hlong : ∀ s ∈ w, ¬ 16 < s.size := fun s hs => by simpa using List.any_eq_false.1 c2 s hs
  refine pwp_loopG (fun k env s => k ≤ w.length ∧ (∀ j (h : j < w.length), j < k → symOK w[j] = true ∧ upAt w j = true) ∧ s = σ ∧ env 14 = .int .i64 (k:Nat) ∧ env 13 = .int .i64 w.length ∧ env 12 = encSS w ∧ env 0 = encSS w) (fun k => w.length - k) 0 ?_ ?_
  · simp only [upd_apply, envOf_apply, encSS, Nat.reduceEqDiff, if_true, if_false]
    refine ⟨Nat.zero_le _, fun j _ hj => absurd hj (Nat.not_lt_zero _), ?_⟩
    simp
  · rintro k env s ⟨hk, hp, rfl, h14, h13, h12, h0⟩
    rcases Nat.lt_or_ge k w.length with hlt | hge
    · have hn : (k : Int) < w.length := by omega
      have hx : w[k]? = some w[k] := List.getElem?_eq_getElem hlt
      have hlp : 0 < w.length := by omega
      have hsym := bytes_sym (hlong _ (List.getElem_mem hlt))
      simp -dsimp only [h14, h13, h12, h0, encSS, hn, hlt, hx, hlp, ↓preB, postB, genB, ↓reduceIte, Nat.reduceEqDiff, Int.reduceToNat, Int.reduceLE, Int.reduceLT, Nat.reduceAdd, Nat.reduceLeDiff, intBin, strBin, unD, extractD, lit1, lit2, lit3, keptD, boxR, D.one, D.pub1, D.cells, splice, cutOwn]
      refine Fn.use (isSymbol_c _) ?_
      rw [← hsym]
      cases c3 : symOK w[k]
      · simp -dsimp only [h14, h13, h12, h0, encSS, hn, hlt, hx, hlp, c3, gate, Bool.not_false, show (true == false) = false from rfl, ↓preB, postB, genB, ↓reduceIte, Nat.reduceEqDiff, Int.reduceToNat, Int.reduceLE, Int.reduceLT, Nat.reduceAdd, Nat.reduceLeDiff, intBin, strBin, unD, extractD, lit1, lit2, lit3, keptD, boxR, D.one, D.pub1, D.cells, splice, cutOwn]
        refine Ret.is ?_
        rw [badS, h1, c2, List.all_eq_false.2 ⟨_, List.getElem_mem hlt, by rw [c3]; decide⟩]; rfl
      have go : upAt w k = true → ∀ j (h : j < w.length), j < k + 1 → symOK w[j] = true ∧ upAt w j = true := fun h j hj hjk => by
        by_cases e : j = k
        · subst e; exact ⟨c3, h⟩
        · exact hp j hj (by omega)
      by_cases ck : k = 0
      · have ckn : ¬ (0 : Int) < k := by omega
        simp -dsimp only [h14, h13, h12, h0, encSS, hn, hlt, hx, hlp, c3, ckn, gate, Bool.not_true, decide_false, show (false == false) = true from rfl, show (false == true) = false from rfl, ↓preB, postB, genB, ↓reduceIte, Nat.reduceEqDiff, Int.reduceToNat, Int.reduceLE, Int.reduceLT, Nat.reduceAdd, Nat.reduceLeDiff, intBin, strBin, unD, extractD, lit1, lit2, lit3, keptD, boxR, D.one, D.pub1, D.cells, splice, cutOwn]
        exact ⟨k + 1, ⟨by omega, go (by unfold upAt; rw [decide_eq_true ck]; rfl), wrap64_succ (by simp only [big]; omega)⟩, by omega⟩
      · have ckp : (0 : Int) < k := by omega
        have hw1 : IntKind.i64.wrap ((k : Int) - 1) = ((k - 1 : Nat) : Int) := by rw [wrap64_in (by omega) (by omega)]; omega
        have hk1 : k - 1 < w.length := by omega
        have hy : w[k - 1]? = some w[k - 1] := List.getElem?_eq_getElem hk1
        have hup : upAt w k = strLt w[k - 1] w[k] := by
          unfold upAt
          rw [decide_eq_false ck, Bool.false_or, List.getD_eq_getElem?_getD, List.getD_eq_getElem?_getD, hx, hy]
          rfl
        simp -dsimp only [h14, h13, h12, h0, encSS, hn, hlt, hx, hlp, c3, ckp, hw1, hk1, hy, gate, Bool.not_true, decide_true, show (false == false) = true from rfl, show (true == true) = true from rfl, ↓preB, postB, genB, ↓reduceIte, Nat.reduceEqDiff, Int.reduceToNat, Int.reduceLE, Int.reduceLT, Nat.reduceAdd, Nat.reduceLeDiff, intBin, strBin, unD, extractD, lit1, lit2, lit3, keptD, boxR, D.one, D.pub1, D.cells, splice, cutOwn]
        cases hc : strLt w[k - 1] w[k]
        · rw [hc] at hup
          rw [if_pos (show (!false) = true from rfl)]
          refine Ret.is ?_
          have e2 : ascB w = false := List.all_eq_false.2 ⟨k, List.mem_range.2 hlt, by rw [hup]; decide⟩
          rw [badS, h1, c2, e2, Bool.and_false]; rfl
        · rw [hc] at hup
          rw [if_neg (show ¬ (!true) = true by decide)]
          exact ⟨k + 1, ⟨by omega, go hup, wrap64_succ (by simp only [big]; omega)⟩, by omega⟩
    · have hn : ¬ (k : Int) < w.length := by omega
      simp -dsimp only [h14, h13, h12, h0, encSS, hn, Nat.not_lt.2 hge, ↓preB, postB, genB, ↓reduceIte, Nat.reduceEqDiff, Int.reduceToNat, Int.reduceLE, Int.reduceLT, Nat.reduceAdd, Nat.reduceLeDiff, intBin, strBin, unD, extractD, lit1, lit2, lit3, keptD, boxR, D.one, D.pub1, D.cells, splice, cutOwn]
      refine Ret.is ?_
      have e1 : w.all symOK = true := List.all_eq_true.2 fun x hx => by
        obtain ⟨j, hj, rfl⟩ := List.getElem_of_mem hx
        exact (hp j hj (by omega)).1
      have e2 : ascB w = true := List.all_eq_true.2 fun j hj => (hp j (List.mem_range.1 hj) (by have := List.mem_range.1 hj; omega)).2
      rw [badS, h1, c2, e1, e2]; rfl
theorem IsLong_c (w : Wd) (hws : ∀ s ∈ w, s.size ≤ 140737488351232) : Fn Zs 4 [encLL [w]] (.bool (decide (16384 < cntW w 0))) := by
  refine fn_of (Z := Zs) ok4 fun σ hcl hbl => ?_
  simp -dsimp only [L4, encLL, ↓preB, postB, genB, ↓reduceIte, Nat.reduceEqDiff, Int.reduceToNat, Int.reduceLE, Int.reduceLT, Nat.reduceAdd, Nat.reduceLeDiff, intBin, strBin, unD, extractD, lit1, lit2, lit3, keptD, boxR, D.one, D.pub1, D.cells, splice, cutOwn]
  refine pwp_loopG (fun i env s => ((i = 0 ∧ env 3 = .int .i64 0) ∨ (i = 1 ∧ env 3 = .int .i64 (cntW w 0 : Nat))) ∧ s = σ ∧ env 4 = .int .i64 (i:Nat) ∧ env 0 = .sl .no 1 [encSS w]) (fun i => 1 - i) 0 ?_ ?_
  · simp only [upd_apply, envOf_apply, List.length_singleton, List.map_cons, List.map_nil, Nat.reduceEqDiff, if_true, if_false]
    refine ⟨.inl ⟨trivial, ?_⟩, ?_⟩ <;> simp
  · rintro i env s ⟨hI, rfl, h4, h0⟩
    rcases hI with ⟨rfl, h3⟩ | ⟨rfl, h3⟩
    · simp -dsimp only [h3, h4, h0, gate, show ((0 : Nat) : Int) < ((1 : Nat) : Int) by decide, show (0 : Int) ≤ 16384 by decide, decide_true, show (true == true) = true from rfl, ↓preB, postB, genB, ↓reduceIte, Nat.reduceEqDiff, Int.reduceToNat, Int.reduceLE, Int.reduceLT, Nat.reduceAdd, Nat.reduceLeDiff, intBin, strBin, unD, extractD, lit1, lit2, lit3, keptD, boxR, D.one, D.pub1, D.cells, splice, cutOwn]
      intros
      refine pwp_loopG (fun k env' s' => k ≤ w.length ∧ (∃ n : Nat, cntW (w.drop k) n = cntW w 0 ∧ n ≤ 140737488367617 ∧ env' 3 = .int .i64 (n:Nat)) ∧ s' = s ∧ env' 4 = .int .i64 ((0:Nat):Int) ∧ env' 5 = .int .i64 (k:Nat) ∧ env' 0 = .sl .no 1 [encSS w]) (fun k => w.length - k) 0 ?_ ?_
      · simp only [upd_apply, Nat.reduceEqDiff, if_true, if_false]
        exact ⟨Nat.zero_le _, ⟨0, by rw [List.drop_zero], Nat.zero_le _, h3⟩, by simp [h4, h0]⟩
      · rintro k env' s' ⟨hk, ⟨n, hn1, hn2, g3⟩, rfl, g4, g5, g0⟩
        rcases Nat.lt_or_ge k w.length with hlt | hge
        · have hx : w[k]? = some w[k] := List.getElem?_eq_getElem hlt
          have hlp : 0 < w.length := by omega
          have hn : (k : Int) < w.length := by omega
          rw [List.drop_eq_getElem_cons hlt, cntW] at hn1
          by_cases hle : n ≤ 16384
          · have c1 : (n : Int) ≤ 16384 := by omega
            rw [if_pos hle] at hn1
            simp -dsimp only [g3, g4, g5, g0, encSS, hlt, hx, hlp, hn, c1, gate, decide_true, show (true == true) = true from rfl, ↓preB, postB, genB, ↓reduceIte, Nat.reduceEqDiff, Int.reduceToNat, Int.reduceLE, Int.reduceLT, Nat.reduceAdd, Nat.reduceLeDiff, intBin, strBin, unD, extractD, lit1, lit2, lit3, keptD, boxR, D.one, D.pub1, D.cells, splice, cutOwn]
            intros
            have hsb := hws _ (List.getElem_mem hlt)
            refine ⟨by decide, fun hwb => ⟨by decide, fun _ => ⟨k + 1, ⟨by omega, ⟨n + 1 + (w[k]).size, hn1, by omega, ?_⟩, wrap64_succ (by omega)⟩, by omega⟩⟩⟩
            rw [wrap64_in (n := 1 + _) (by omega) (by omega), wrap64_in (by omega) (by omega)]
            omega
          · have c1 : ¬ (n : Int) ≤ 16384 := by omega
            rw [if_neg hle] at hn1
            simp -dsimp only [g3, g4, g5, g0, encSS, hlt, hx, hlp, hn, c1, gate, decide_true, decide_false, show (true == true) = true from rfl, ↓preB, postB, genB, ↓reduceIte, Nat.reduceEqDiff, Int.reduceToNat, Int.reduceLE, Int.reduceLT, Nat.reduceAdd, Nat.reduceLeDiff, intBin, strBin, unD, extractD, lit1, lit2, lit3, keptD, boxR, D.one, D.pub1, D.cells, splice, cutOwn]
            intros
            exact ⟨by decide, fun _ => ⟨1, ⟨.inr ⟨rfl, by omega⟩, rfl⟩, by decide⟩⟩
        · have hn : ¬ (k : Int) < w.length := by omega
          rw [List.drop_of_length_le hge, cntW] at hn1
          simp -dsimp only [g3, g4, g5, g0, encSS, hn, gate, decide_false, show (false == true) = false from rfl, ↓preB, postB, genB, ↓reduceIte, Nat.reduceEqDiff, Int.reduceToNat, Int.reduceLE, Int.reduceLT, Nat.reduceAdd, Nat.reduceLeDiff, intBin, strBin, unD, extractD, lit1, lit2, lit3, keptD, boxR, D.one, D.pub1, D.cells, splice, cutOwn]
          intros
          exact ⟨by decide, fun _ => ⟨1, ⟨.inr ⟨rfl, by omega⟩, rfl⟩, by decide⟩⟩
    · simp -dsimp only [h3, h4, h0, gate, show ¬ ((1 : Nat) : Int) < ((1 : Nat) : Int) by decide, decide_false, show (false == true) = false from rfl, ↓preB, postB, genB, ↓reduceIte, Nat.reduceEqDiff, Int.reduceToNat, Int.reduceLE, Int.reduceLT, Nat.reduceAdd, Nat.reduceLeDiff, intBin, strBin, unD, extractD, lit1, lit2, lit3, keptD, boxR, D.one, D.pub1, D.cells, splice, cutOwn]
      intros
      exact Ret.is (by congr 1; rw [decide_eq_decide]; omega)
end Go.Proofs.YtpmjfoplpccblaaDoor.Vs
