/- numbers of YtldlcejlfaogbaaDoor -/
import Derived.Test.YtldlcejlfaogbaaGreatDoorJoF5
namespace Go.Proofs.YtldlcejlfaogbaaGreatDoor.Vs
set_option linter.unusedVariables false
set_option linter.unusedSimpArgs false
set_option maxRecDepth 20000
def writL : Wd → List UInt8
  | [] => []
  | s :: w => (if s.size = 1 then s.data.toList else 60 :: (s.data.toList ++ [62])) ++ writL w
def writB (w : Wd) : ByteArray := ⟨(writL w).toArray⟩
theorem writL_append : ∀ w v : Wd, writL (w ++ v) = writL w ++ writL v
  | [], v => rfl
  | s :: w, v => by rw [List.cons_append, writL, writL, writL_append w v, List.append_assoc]
theorem writL_len : ∀ {w : Wd}, (∀ s ∈ w, s.size ≤ 16) → (writL w).length ≤ 18 * w.length
  | [], _ => by simp [writL]
  | s :: w, h => by
    have ih := writL_len (w := w) fun x hx => h x (List.mem_cons_of_mem _ hx)
    have hs := h s (by simp)
    unfold writL
    split <;> simp <;> omega
theorem ba_ext {a b : ByteArray} (h : a.data.toList = b.data.toList) : a = b := by cases a; cases b; congr 1; exact Array.toList_inj.1 h
theorem writB_next {w : Wd} {k : Nat} (h : k < w.length) : (writB (w.take (k + 1))).data.toList = (writB (w.take k)).data.toList ++ (if w[k].size = 1 then w[k].data.toList else 60 :: (w[k].data.toList ++ [62])) := by
  rw [List.take_succ_eq_append_getElem h]
  simp only [writB, writL_append, writL, List.append_nil, List.toList_toArray]
theorem writB_size {w : Wd} (hw : ∀ s ∈ w, s.size ≤ 16) (k : Nat) : (writB (w.take k)).size ≤ 18 * w.length := by
  have h1 : (writB (w.take k)).size = (writL (w.take k)).length := by rw [Lib.size_eq]; simp [writB]
  have h2 := writL_len (w := w.take k) fun s hs => hw s (List.mem_of_mem_take hs)
  have h3 := List.length_take_le k w
  have h4 : (w.take k).length ≤ w.length := by rw [List.length_take]; omega
  omega
theorem Written_c (w : Wd) (hw : ∀ s ∈ w, s.size ≤ 16) (hl : w.length ≤ 100000) : Fn Zs 125 [encSS w] (.str (writB w)) := by
  refine fn_of (Z := Zs) ok125 fun σ hcl hbl => ?_
  simp -dsimp only [L125, encSS, ↓preB, postB, genB, ↓reduceIte, Nat.reduceEqDiff, Int.reduceToNat, Int.reduceLE, Int.reduceLT, Nat.reduceAdd, Nat.reduceLeDiff, intBin, strBin, unD, extractD, lit1, lit2, lit3, keptD, boxR, D.one, D.pub1, D.cells, splice, cutOwn]
  refine pwp_loopG (fun k env s => k ≤ w.length ∧ env 3 = .str (writB (w.take k)) ∧ s = σ ∧ env 4 = .int .i64 (k:Nat) ∧ env 0 = encSS w) (fun k => w.length - k) 0 ?_ ?_
  · simp [upd_apply, envOf_apply, encSS, writB, writL]
  · rintro k env s ⟨hk, h3, rfl, h4, h0⟩
    rcases Nat.lt_or_ge k w.length with hlt | hge
    · have hx : w[k]? = some w[k] := List.getElem?_eq_getElem hlt
      have hlp : 0 < w.length := by omega
      by_cases hc : w[k].size = 1
      · have hc' : ((w[k].size : Int) == 1) = true := by simp [hc]
        simp -dsimp only [h3, h4, h0, hc', encSS, hlt, hx, hlp, ↓preB, postB, genB, ↓reduceIte, Nat.reduceEqDiff, Int.reduceToNat, Int.reduceLE, Int.reduceLT, Nat.reduceAdd, Nat.reduceLeDiff, intBin, strBin, unD, extractD, lit1, lit2, lit3, keptD, boxR, D.one, D.pub1, D.cells, splice, cutOwn]
        intro q1 q2
        have hsz := writB_size hw k
        refine ⟨by simp only [big]; omega, k + 1, ⟨by omega, ba_ext ?_, wrap64_succ (by omega)⟩, by omega⟩
        rw [writB_next hlt, if_pos hc]
        simp
      · have hc' : ((w[k].size : Int) == 1) = false := by simp; omega
        simp -dsimp only [h3, h4, h0, hc', encSS, hlt, hx, hlp, ↓preB, postB, genB, ↓reduceIte, Nat.reduceEqDiff, Int.reduceToNat, Int.reduceLE, Int.reduceLT, Nat.reduceAdd, Nat.reduceLeDiff, intBin, strBin, unD, extractD, lit1, lit2, lit3, keptD, boxR, D.one, D.pub1, D.cells, splice, cutOwn]
        intro q1 q2
        have hsz := writB_size hw k
        have hwk := hw _ (List.getElem_mem hlt)
        have z1 : (ByteArray.mk #[60]).size = 1 := rfl
        have z2 : (ByteArray.mk #[62]).size = 1 := rfl
        refine ⟨by simp only [big]; omega, by rw [ByteArray.size_append]; simp only [big]; omega, by rw [ByteArray.size_append, ByteArray.size_append]; simp only [big]; omega, k + 1, ⟨by omega, ba_ext ?_, wrap64_succ (by omega)⟩, by omega⟩
        rw [writB_next hlt, if_neg hc]
        simp
    · have hkl : k = w.length := by omega
      subst hkl
      rw [List.take_length] at h3
      simp -dsimp only [h3, h4, h0, encSS, Nat.lt_irrefl, ↓preB, postB, genB, ↓reduceIte, Nat.reduceEqDiff, Int.reduceToNat, Int.reduceLE, Int.reduceLT, Nat.reduceAdd, Nat.reduceLeDiff, intBin, strBin, unD, extractD, lit1, lit2, lit3, keptD, boxR, D.one, D.pub1, D.cells, splice, cutOwn]
      intros
      exact Ret.is rfl
end Go.Proofs.YtldlcejlfaogbaaGreatDoor.Vs
