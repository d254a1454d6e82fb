/- numbers of Ytapkbkniooleaaa -/
import Derived.Test.YtapkbkniooleaaaTkT
namespace Go.Proofs.Ytapkbkniooleaaa.Vs
set_option linter.unusedVariables false
set_option linter.unusedSimpArgs false
set_option maxRecDepth 100000
def cntU : Wd → Nat → Nat
  | [], n => n
  | x :: l, n => if n ≤ 768000 then cntU l (n + x.size) else n
def overG : List Wd → Nat → Bool
  | [], n => decide (768000 < n)
  | l :: ls, n => if 1200 < l.length then true else overG ls (cntU l n)
theorem cntU_le {x : Wd} : ∀ (l : Wd) (n : Nat), (∀ s ∈ l, s.size ≤ 140737488351232) → n ≤ 140737490000000 → cntU l n ≤ 140737490000000
  | [], n, _, h => h
  | y :: l, n, hl, h => by
    unfold cntU
    split
    · exact cntU_le (x := x) l _ (fun s hs => hl s (List.mem_cons_of_mem _ hs)) (by have := hl y List.mem_cons_self; omega)
    · exact h
theorem over_c (c : Cut) (hb : ∀ l ∈ lsC c, ∀ s ∈ l, s.size ≤ 140737488351232) : Fn Zs 6 [encC c] (.bool (overG (lsC c) 0)) := by
  refine fn_of (Z := Zs) ok6 fun σ hcl hbl => ?_
  simp -dsimp only [L6, encC, ↓preB, postB, genB, ↓reduceIte, Nat.reduceEqDiff, Int.reduceToNat, Int.reduceLE, Int.reduceLT, Nat.reduceAdd, Nat.reduceLeDiff, intBin, strBin, unD, extractD, lit1, lit2, lit3, keptD, boxR, D.one, D.pub1, D.cells, splice, cutOwn]
  simp -dsimp only [cellsC, List.getElem?_cons_zero, List.getElem?_cons_succ, ab39, Option.map_some, ↓preB, postB, genB, ↓reduceIte, Nat.reduceEqDiff, Int.reduceToNat, Int.reduceLE, Int.reduceLT, Nat.reduceAdd, Nat.reduceLeDiff, intBin, strBin, unD, extractD, lit1, lit2, lit3, keptD, boxR, D.one, D.pub1, D.cells, splice, cutOwn]
  simp -dsimp only [arr_new, List.length_cons, List.length_nil, Nat.le_refl, if_true, List.drop_succ_cons, List.drop_nil, ↓preB, postB, genB, ↓reduceIte, Nat.reduceEqDiff, Int.reduceToNat, Int.reduceLE, Int.reduceLT, Nat.reduceAdd, Nat.reduceLeDiff, intBin, strBin, unD, extractD, lit1, lit2, lit3, keptD, boxR, D.one, D.pub1, D.cells, splice, cutOwn]
  obtain ⟨H, hH⟩ : ∃ H, H = arrH σ c := ⟨_, rfl⟩
  have hH' := hH
  unfold arrH cellsC at hH'
  rw [← hH']
  clear hH'
  have hle1 : HLe σ H := by rw [hH]; exact arrH_le hcl c
  have hg1 : H.get (σ.next + 1) = some (.cells 39 (cellsC c)) := by rw [hH]; exact arrH_get σ c
  clear hH
  have done : ∀ (x : Bool), Ret σ (fun d τ => d = .bool x ∧ τ = σ) (.bool x) H := fun x => Ret.isH hle1 hcl rfl (.bool _)
  have hlen : (cellsC c).length = 4 := rfl
  refine pwp_loopJ 0 (fun e τ => ∃ n : Nat, overG (lsC c) 0 = decide (768000 < n) ∧ τ = H ∧ e 3 = .int .i64 (n : Nat)) (fun (x : Nat × Nat) env τ => x.1 ≤ 4 ∧ overG (lsC c) 0 = overG ((lsC c).drop x.1) x.2 ∧ x.2 ≤ 140737490000000 ∧ τ = H ∧ env 5 = .int .i64 (x.1:Nat) ∧ env 3 = .int .i64 (x.2:Nat) ∧ env 4 = .ptr (σ.next + 1) 0) (fun x => 4 - x.1) (0, 0) ?_ ?_ ?_
  · simp only [upd_apply, envOf_apply, Nat.reduceEqDiff, if_true, if_false]
    exact ⟨Nat.zero_le _, (by first | trivial | rfl | omega), Nat.zero_le _, (by first | trivial | rfl | omega), (by first | trivial | rfl | omega), (by first | trivial | rfl | omega), (by first | trivial | rfl | omega)⟩
  · rintro ⟨k, n⟩ env τ ⟨hk, hp, hn9, rfl, h5, h3, h4⟩
    simp only [] at hk hp hn9 h5 h3
    rcases Nat.lt_or_ge k 4 with hlt | hge
    · have hn : (k : Int) < 4 := by omega
      have hx := lsC_at c hlt
      have hdr : (lsC c).drop k = (lsC c)[k]'hlt :: (lsC c).drop (k + 1) := List.drop_eq_getElem_cons (show k < (lsC c).length from hlt)
      rw [hdr] at hp
      have hbl := hb _ (List.getElem_mem (show k < (lsC c).length from hlt))
      change ∀ s ∈ (lsC c)[k]'hlt, s.size ≤ 140737488351232 at hbl
      generalize (lsC c)[k]'hlt = l at hx hp hbl
      rw [overG] at hp
      simp -dsimp only [h5, h3, h4, hn, hlt, hg1, hx, hlen, Nat.zero_add, encSS, exitR_ret, ↓preB, postB, genB, ↓reduceIte, Nat.reduceEqDiff, Int.reduceToNat, Int.reduceLE, Int.reduceLT, Nat.reduceAdd, Nat.reduceLeDiff, intBin, strBin, unD, extractD, lit1, lit2, lit3, keptD, boxR, D.one, D.pub1, D.cells, splice, cutOwn]
      intro hlb
      by_cases c1 : (1200 : Int) < l.length
      · rw [if_pos (by omega)] at hp
        rw [if_pos c1, hp]
        exact done _
      rw [if_neg (by omega)] at hp
      rw [if_neg c1]
      refine pwp_loopJ 2 (fun e τ' => τ' = τ ∧ e 3 = .int .i64 (cntU l n : Nat) ∧ e 5 = .int .i64 (k:Nat) ∧ e 4 = .ptr (σ.next + 1) 0) (fun (x : Nat × Nat) e τ' => x.1 ≤ l.length ∧ cntU l n = cntU (l.drop x.1) x.2 ∧ x.2 ≤ 140737490000000 ∧ τ' = τ ∧ e 6 = .int .i64 (x.1:Nat) ∧ e 3 = .int .i64 (x.2:Nat) ∧ e 5 = .int .i64 (k:Nat) ∧ e 4 = .ptr (σ.next + 1) 0) (fun x => l.length - x.1) (0, n) ?_ ?_ ?_
      · simp only [upd_apply, h5, h3, h4, Nat.reduceEqDiff, if_true, if_false]
        exact ⟨Nat.zero_le _, (by first | trivial | rfl | omega), hn9, (by first | trivial | rfl | omega), (by first | trivial | rfl | omega), (by first | trivial | rfl | omega), (by first | trivial | rfl | omega), (by first | trivial | rfl | omega)⟩
      · clear h5 h3 h4
        rintro ⟨i, m⟩ e τ' ⟨hi, hq, hm9, rfl, h6, h3, h5, h4⟩
        simp only [] at hi hq hm9 h6 h3
        rcases Nat.lt_or_ge i l.length with hil | hig
        · have hni : (i : Int) < l.length := by omega
          have hxi : l[i]? = some l[i] := List.getElem?_eq_getElem hil
          have hl0 : 0 < l.length := by omega
          rw [List.drop_eq_getElem_cons hil, cntU] at hq
          have hxs := hbl _ (List.getElem_mem hil)
          generalize l[i] = x at hxi hq hxs
          by_cases c2 : (m : Int) ≤ 768000
          · rw [if_pos (by omega)] at hq
            have w1 : IntKind.i64.wrap ((m : Int) + (x.size : Int)) = ((m + x.size : Nat) : Int) := by rw [wrap64_in (by omega) (by omega)]; omega
            simp -dsimp only [h6, h3, h5, h4, hlt, hg1, hx, hlen, hni, hil, hxi, hl0, c2, w1, Nat.zero_add, encSS, exitR_exit, gate, decide_true, decide_false, Bool.not_true, Bool.not_false, bTT, bTF, bFT, bFF, ↓preB, postB, genB, ↓reduceIte, Nat.reduceEqDiff, Int.reduceToNat, Int.reduceLE, Int.reduceLT, Nat.reduceAdd, Nat.reduceLeDiff, intBin, strBin, unD, extractD, lit1, lit2, lit3, keptD, boxR, D.one, D.pub1, D.cells, splice, cutOwn]
            exact fun _ _ => ⟨(i + 1, m + x.size), ⟨by simp only []; omega, hq, by simp only []; omega, wrap64_succ (by omega), rfl⟩, by simp only []; omega⟩
          · rw [if_neg (by omega)] at hq
            simp -dsimp only [h6, h3, h5, h4, hlt, hg1, hx, hlen, hni, hil, hxi, hl0, c2, hq, Nat.zero_add, encSS, exitR_exit, gate, decide_true, decide_false, Bool.not_true, Bool.not_false, bTT, bTF, bFT, bFF, ↓preB, postB, genB, ↓reduceIte, Nat.reduceEqDiff, Int.reduceToNat, Int.reduceLE, Int.reduceLT, Nat.reduceAdd, Nat.reduceLeDiff, intBin, strBin, unD, extractD, lit1, lit2, lit3, keptD, boxR, D.one, D.pub1, D.cells, splice, cutOwn]
        · have hni : ¬ (i : Int) < l.length := by omega
          rw [List.drop_of_length_le hig, cntU] at hq
          simp -dsimp only [h6, h3, h5, h4, hlt, hg1, hx, hlen, hni, hq, Nat.zero_add, encSS, exitR_exit, gate, decide_true, decide_false, Bool.not_true, Bool.not_false, bTT, bTF, bFT, bFF, ↓preB, postB, genB, ↓reduceIte, Nat.reduceEqDiff, Int.reduceToNat, Int.reduceLE, Int.reduceLT, Nat.reduceAdd, Nat.reduceLeDiff, intBin, strBin, unD, extractD, lit1, lit2, lit3, keptD, boxR, D.one, D.pub1, D.cells, splice, cutOwn]
      · clear h5 h3 h4
        rintro e τ' ⟨rfl, h3, h5, h4⟩
        simp -dsimp only [h3, h5, h4, ↓preB, postB, genB, ↓reduceIte, Nat.reduceEqDiff, Int.reduceToNat, Int.reduceLE, Int.reduceLT, Nat.reduceAdd, Nat.reduceLeDiff, intBin, strBin, unD, extractD, lit1, lit2, lit3, keptD, boxR, D.one, D.pub1, D.cells, splice, cutOwn]
        exact ⟨(k + 1, cntU l n), ⟨by simp only []; omega, hp, cntU_le (x := l) l n hbl hn9, wrap64_succ (by simp only [big]; omega), rfl⟩, by simp only []; omega⟩
    · have hn : ¬ (k : Int) < 4 := by omega
      have : k = 4 := by omega
      subst this
      simp -dsimp only [h5, h3, h4, hn, exitR_exit, ↓preB, postB, genB, ↓reduceIte, Nat.reduceEqDiff, Int.reduceToNat, Int.reduceLE, Int.reduceLT, Nat.reduceAdd, Nat.reduceLeDiff, intBin, strBin, unD, extractD, lit1, lit2, lit3, keptD, boxR, D.one, D.pub1, D.cells, splice, cutOwn]
      exact ⟨n, hp, (by first | trivial | rfl | omega)⟩
  · rintro env τ ⟨n, hp, rfl, h3⟩
    rw [hp]
    simp -dsimp only [h3, ↓preB, postB, genB, ↓reduceIte, Nat.reduceEqDiff, Int.reduceToNat, Int.reduceLE, Int.reduceLT, Nat.reduceAdd, Nat.reduceLeDiff, intBin, strBin, unD, extractD, lit1, lit2, lit3, keptD, boxR, D.one, D.pub1, D.cells, splice, cutOwn]
    have : decide ((768000 : Int) < (n : Int)) = decide (768000 < n) := decide_eq_decide.2 (by omega)
    rw [this]
    exact done _
end Go.Proofs.Ytapkbkniooleaaa.Vs
