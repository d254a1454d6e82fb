/- numbers of Ytapkbkniooleaaa -/
import Derived.Test.YtapkbkniooleaaaJn1
import Derived.Test.YtapkbkniooleaaaTkW
import Derived.Test.YtapkbkniooleaaaBr7
namespace Go.Proofs.Ytapkbkniooleaaa.Vs
set_option linter.unusedVariables false
set_option linter.unusedSimpArgs false
set_option maxRecDepth 100000
def cntJ : List Tok → Nat → Nat
  | [], n => n
  | t :: l, n => if n ≤ 192000 then cntJ l (n + (1 + t.text.size)) else n
theorem cntJ_le : ∀ (l : List Tok) (n : Nat), cntJ l n ≤ 192000 → cntJ l n = n + totT l
  | [], n, _ => rfl
  | t :: l, n, h => by
    unfold cntJ at h ⊢
    split at h
    · rename_i h1
      rw [if_pos h1, cntJ_le l _ h, totT]; omega
    · omega
theorem cntJ_over (l : List Tok) {n : Nat} (h : 192000 < n) : cntJ l n = n := by
  cases l with
  | nil => rfl
  | cons t l => unfold cntJ; rw [if_neg (by omega)]
set_option maxHeartbeats 1000000 in
theorem joinsT_of (s : ByteArray) (l : List Tok) (hb : ∀ t ∈ l, t.text.size ≤ 140737488351232) : Fn Zs 5 [.str s, .sl .no l.length (encTks l)] (.bool true) := by
  refine fn_of (Z := Zs) ok5 fun σ hcl hbl => ?_
  simp -dsimp only [L5, ↓preB, postB, genB, ↓reduceIte, Nat.reduceEqDiff, Int.reduceToNat, Int.reduceLE, Int.reduceLT, Nat.reduceAdd, Nat.reduceLeDiff, intBin, strBin, unD, extractD, lit1, lit2, lit3, keptD, boxR, D.one, D.pub1, D.cells, splice, cutOwn]
  intro hsb
  refine pwp_loopJ 0 (fun e τ => τ = σ ∧ e 5 = .int .i64 (cntJ l s.size : Nat) ∧ e 0 = .str s ∧ e 1 = .sl .no l.length (encTks l)) (fun (x : Nat × Nat) env τ => x.1 ≤ l.length ∧ cntJ (l.drop x.1) x.2 = cntJ l s.size ∧ τ = σ ∧ env 6 = .int .i64 (x.1 : Nat) ∧ env 5 = .int .i64 (x.2 : Nat) ∧ env 0 = .str s ∧ env 1 = .sl .no l.length (encTks l)) (fun x => l.length - x.1) (0, s.size) ?_ ?_ ?_
  · simp only [upd_apply, envOf_apply, Nat.reduceEqDiff, if_true, if_false]
    exact ⟨Nat.zero_le _, rfl, (by first | trivial | rfl | omega), (by first | trivial | rfl | omega), (by first | trivial | rfl | omega), (by first | trivial | rfl | omega), (by first | trivial | rfl | omega)⟩
  · rintro ⟨k, n⟩ env τ ⟨hk, h1, rfl, e6, e5, e0, e1⟩
    simp only [] at hk h1 e6 e5
    by_cases hlt : k < l.length
    · have hn : (k : Int) < l.length := by omega
      by_cases c1 : n ≤ 192000
      · have k1 : (n : Int) ≤ 192000 := by omega
        have hl0 : 0 < (encTks l).length := by rw [encTks_len]; omega
        have hat := encTks_at hlt []
        rw [List.append_nil] at hat
        have a3 := encTks_3 hlt
        have hi4 : 4 ≤ (encTks l).length - k * 4 := by rw [encTks_len]; omega
        rw [drop_at hlt, cntJ, if_pos c1] at h1
        have htz := hb _ (List.getElem_mem hlt)
        clear hb
        generalize l[k] = t at *
        simp -dsimp only [e6, e5, e0, e1, hn, k1, hlt, hl0, hat, hi4, a3, encTk, exitR_exit, gate, decide_true, decide_false, Bool.not_true, Bool.not_false, bTT, bTF, bFT, bFF, ↓preB, postB, genB, ↓reduceIte, Nat.reduceEqDiff, Int.reduceToNat, Int.reduceLE, Int.reduceLT, Nat.reduceAdd, Nat.reduceLeDiff, intBin, strBin, unD, extractD, lit1, lit2, lit3, keptD, boxR, D.one, D.pub1, D.cells, splice, cutOwn]
        intro hlb htb
        simp only [big] at hlb htb
        exact ⟨(k + 1, n + (1 + t.text.size)), ⟨by simp only []; omega, h1, wrap64_succ (by simp only [big]; omega), by rw [wrap64_in (n := 1 + (t.text.size : Int)) (by omega) (by omega), wrap64_in (by omega) (by omega)]; simp only []; omega⟩, by simp only []; omega⟩
      · have k1 : ¬ (n : Int) ≤ 192000 := by omega
        rw [cntJ_over _ (by omega)] at h1
        simp -dsimp only [e6, e5, e0, e1, hn, k1, exitR_exit, gate, decide_true, decide_false, Bool.not_true, Bool.not_false, bTT, bTF, bFT, bFF, ↓preB, postB, genB, ↓reduceIte, Nat.reduceEqDiff, Int.reduceToNat, Int.reduceLE, Int.reduceLT, Nat.reduceAdd, Nat.reduceLeDiff, intBin, strBin, unD, extractD, lit1, lit2, lit3, keptD, boxR, D.one, D.pub1, D.cells, splice, cutOwn]
        exact fun _ => by rw [h1]
    · have hn : ¬ (k : Int) < l.length := by omega
      rw [List.drop_of_length_le (by omega), cntJ] at h1
      simp -dsimp only [e6, e5, e0, e1, hn, exitR_exit, gate, decide_true, decide_false, Bool.not_true, Bool.not_false, bTT, bTF, bFT, bFF, ↓preB, postB, genB, ↓reduceIte, Nat.reduceEqDiff, Int.reduceToNat, Int.reduceLE, Int.reduceLT, Nat.reduceAdd, Nat.reduceLeDiff, intBin, strBin, unD, extractD, lit1, lit2, lit3, keptD, boxR, D.one, D.pub1, D.cells, splice, cutOwn]
      exact fun _ => by rw [h1]
  · rintro e τ ⟨rfl, e5, e0, e1⟩
    have hcl := cntJ_le l s.size
    have ei : ∀ x : Int, (x == x) = true := fun x => by simp
    have es : ∀ s : ByteArray, (s == s) = true := fun s => ba_refl s
    by_cases c1 : 192000 < cntJ l s.size
    · have k1 : (192000 : Int) < (cntJ l s.size : Nat) := by omega
      simp -dsimp only [e5, e0, e1, k1, gate, decide_true, decide_false, Bool.not_true, Bool.not_false, bTT, bTF, bFT, bFF, ↓preB, postB, genB, ↓reduceIte, Nat.reduceEqDiff, Int.reduceToNat, Int.reduceLE, Int.reduceLT, Nat.reduceAdd, Nat.reduceLeDiff, intBin, strBin, unD, extractD, lit1, lit2, lit3, keptD, boxR, D.one, D.pub1, D.cells, splice, cutOwn]
      refine Fn.use known_c ?_
      simp -dsimp only [gate, decide_true, decide_false, Bool.not_true, Bool.not_false, bTT, bTF, bFT, bFF, ↓preB, postB, genB, ↓reduceIte, Nat.reduceEqDiff, Int.reduceToNat, Int.reduceLE, Int.reduceLT, Nat.reduceAdd, Nat.reduceLeDiff, intBin, strBin, unD, extractD, lit1, lit2, lit3, keptD, boxR, D.one, D.pub1, D.cells, splice, cutOwn]
      exact Ret.is rfl
    · have k1 : ¬ (192000 : Int) < (cntJ l s.size : Nat) := by omega
      have hz := hcl (by omega)
      have hJ := Join_c s l (by omega)
      have hR := JoinR_c s l (by omega)
      generalize jres s l = J at *
      simp -dsimp only [e5, e0, e1, k1, gate, decide_true, decide_false, Bool.not_true, Bool.not_false, bTT, bTF, bFT, bFF, ↓preB, postB, genB, ↓reduceIte, Nat.reduceEqDiff, Int.reduceToNat, Int.reduceLE, Int.reduceLT, Nat.reduceAdd, Nat.reduceLeDiff, intBin, strBin, unD, extractD, lit1, lit2, lit3, keptD, boxR, D.one, D.pub1, D.cells, splice, cutOwn]
      refine Fn.use hJ ?_
      simp -dsimp only [e5, e0, e1, k1, es, ei, List.getElem?_cons_zero, List.getElem?_cons_succ, gate, decide_true, decide_false, Bool.not_true, Bool.not_false, bTT, bTF, bFT, bFF, ↓preB, postB, genB, ↓reduceIte, Nat.reduceEqDiff, Int.reduceToNat, Int.reduceLE, Int.reduceLT, Nat.reduceAdd, Nat.reduceLeDiff, intBin, strBin, unD, extractD, lit1, lit2, lit3, keptD, boxR, D.one, D.pub1, D.cells, splice, cutOwn]
      refine Fn.use hR ?_
      simp -dsimp only [e5, e0, e1, k1, es, ei, List.getElem?_cons_zero, List.getElem?_cons_succ, gate, decide_true, decide_false, Bool.not_true, Bool.not_false, bTT, bTF, bFT, bFF, ↓preB, postB, genB, ↓reduceIte, Nat.reduceEqDiff, Int.reduceToNat, Int.reduceLE, Int.reduceLT, Nat.reduceAdd, Nat.reduceLeDiff, intBin, strBin, unD, extractD, lit1, lit2, lit3, keptD, boxR, D.one, D.pub1, D.cells, splice, cutOwn]
      refine Fn.use known_c ?_
      simp -dsimp only [e5, e0, e1, k1, es, ei, List.getElem?_cons_zero, List.getElem?_cons_succ, gate, decide_true, decide_false, Bool.not_true, Bool.not_false, bTT, bTF, bFT, bFF, ↓preB, postB, genB, ↓reduceIte, Nat.reduceEqDiff, Int.reduceToNat, Int.reduceLE, Int.reduceLT, Nat.reduceAdd, Nat.reduceLeDiff, intBin, strBin, unD, extractD, lit1, lit2, lit3, keptD, boxR, D.one, D.pub1, D.cells, splice, cutOwn]
      exact Ret.is rfl
theorem joinsK_of (s : ByteArray) (l : List Tok) (hb : ∀ t ∈ l, t.text.size ≤ 140737488351232) : Fn Zs 5 [.str s, encK l] (.bool true) := joinsT_of s l hb
end Go.Proofs.Ytapkbkniooleaaa.Vs
