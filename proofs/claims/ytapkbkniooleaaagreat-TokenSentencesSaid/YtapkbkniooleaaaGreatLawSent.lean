/- numbers of YtapkbkniooleaaaGreat -/
import Derived.Test.YtapkbkniooleaaaGreatStF
namespace Go.Proofs.YtapkbkniooleaaaGreat.Vs
set_option linter.unusedVariables false
set_option linter.unusedSimpArgs false
set_option maxRecDepth 100000
theorem sent_of (c : Cut) (s : ByteArray) (hb : ∀ l ∈ lsC c, ∀ s ∈ l, s.size ≤ 140737488351232) : Fn Zs 3 [encC c, .str s] (.bool true) := by
  refine fn_of (Z := Zs) ok3 fun σ hcl hbl => ?_
  simp -dsimp only [L3, encC, ↓preB, postB, genB, ↓reduceIte, Nat.reduceEqDiff, Int.reduceToNat, Int.reduceLE, Int.reduceLT, Nat.reduceAdd, Nat.reduceLeDiff, intBin, strBin, unD, extractD, lit1, lit2, lit3, keptD, boxR, D.one, D.pub1, D.cells, splice, cutOwn]
  obtain ⟨H, hH⟩ : ∃ H, H = σ.new (.cells 24 (cellsC c)) := ⟨_, rfl⟩
  have hle1 : HLe σ H := by rw [hH]; exact HLe.self_new _ hcl
  have hg1 : H.get σ.next = some (.cells 24 (cellsC c)) := by rw [hH]; exact Heap.new_same _ _
  rw [← hH]
  clear hH
  have hlen : (cellsC c).length = 4 := rfl
  have htk : (cellsC c).take 4 = cellsC c := rfl
  have hO := over_c c hb
  have hA := Sentences_c c s
  have hB := SentencesR_c c s
  have hC := Starts_c c s
  have hD := StartsR_c c s
  have hE := Normal_c c s
  have hF := NormalR_c c s
  unfold encC at hO hA hB hC hD hE hF
  unfold encSt at hA hB
  unfold encSb at hC hD
  unfold encNo at hE hF
  have done : ∀ (x : Bool), x = true → Ret σ (fun d τ => d = .bool true ∧ τ = σ) (.bool x) H := fun x hx => by rw [hx]; exact Ret.isH hle1 hcl rfl (.bool _)
  have hen : ∀ l : List Nat, (encN l).length = l.length := fun l => by simp [encN]
  have heb : ∀ l : List Bool, (encB l).length = l.length := fun l => by simp [encB]
  have ei : ∀ x : Int, (x == x) = true := fun x => by simp
  have en : ∀ x : Int, (x != x) = false := fun x => by simp
  have hl1 : (sentW c s).1.length ≤ 200 := by
    have := (tokW_wf c s).1
    unfold sentW
    split
    · simp
    · have h2 := List.length_filter_le (startB (tokW c s).1) (List.range (tokW c s).1.length)
      simp only [List.length_range] at h2
      show (beginsW (tokW c s).1).length ≤ 200
      unfold beginsW
      omega
  have hl2 : (stW c s).1.length ≤ 200 := by
    have := (tokW_wf c s).1
    unfold stW
    split
    · simp
    · simp [startsW]; exact this
  generalize sentW c s = r1 at *
  generalize stW c s = r2 at *
  generalize noW c s = r3 at *
  obtain ⟨B, e1⟩ := r1
  obtain ⟨T, e2⟩ := r2
  obtain ⟨W, e3⟩ := r3
  simp only [] at hA hB hC hD hE hF hl1 hl2
  simp -dsimp only [hg1, hlen, htk, List.drop_zero, ↓preB, postB, genB, ↓reduceIte, Nat.reduceEqDiff, Int.reduceToNat, Int.reduceLE, Int.reduceLT, Nat.reduceAdd, Nat.reduceLeDiff, intBin, strBin, unD, extractD, lit1, lit2, lit3, keptD, boxR, D.one, D.pub1, D.cells, splice, cutOwn]
  refine Fn.use hO ?_
  cases q1 : overG (lsC c) 0
  · by_cases c1 : (24000 : Int) < s.size
    · simp -dsimp only [c1, q1, gate, decide_true, decide_false, Bool.not_true, Bool.not_false, bTT, bTF, bFT, bFF, ↓preB, postB, genB, ↓reduceIte, Nat.reduceEqDiff, Int.reduceToNat, Int.reduceLE, Int.reduceLT, Nat.reduceAdd, Nat.reduceLeDiff, intBin, strBin, unD, extractD, lit1, lit2, lit3, keptD, boxR, D.one, D.pub1, D.cells, splice, cutOwn]
      intro _
      refine Fn.use known_c ?_
      simp -dsimp only [↓preB, postB, genB, ↓reduceIte, Nat.reduceEqDiff, Int.reduceToNat, Int.reduceLE, Int.reduceLT, Nat.reduceAdd, Nat.reduceLeDiff, intBin, strBin, unD, extractD, lit1, lit2, lit3, keptD, boxR, D.one, D.pub1, D.cells, splice, cutOwn]
      exact done _ rfl
    simp -dsimp only [hg1, hlen, htk, List.drop_zero, c1, q1, gate, decide_true, decide_false, Bool.not_true, Bool.not_false, bTT, bTF, bFT, bFF, ↓preB, postB, genB, ↓reduceIte, Nat.reduceEqDiff, Int.reduceToNat, Int.reduceLE, Int.reduceLT, Nat.reduceAdd, Nat.reduceLeDiff, intBin, strBin, unD, extractD, lit1, lit2, lit3, keptD, boxR, D.one, D.pub1, D.cells, splice, cutOwn]
    intro _
    refine Fn.use hA ?_
    simp -dsimp only [hg1, hlen, htk, List.drop_zero, List.getElem?_cons_zero, List.getElem?_cons_succ, gate, decide_true, decide_false, Bool.not_true, Bool.not_false, bTT, bTF, bFT, bFF, ↓preB, postB, genB, ↓reduceIte, Nat.reduceEqDiff, Int.reduceToNat, Int.reduceLE, Int.reduceLT, Nat.reduceAdd, Nat.reduceLeDiff, intBin, strBin, unD, extractD, lit1, lit2, lit3, keptD, boxR, D.one, D.pub1, D.cells, splice, cutOwn]
    refine Fn.use hB ?_
    simp -dsimp only [hg1, hlen, htk, en, List.drop_zero, List.getElem?_cons_zero, List.getElem?_cons_succ, gate, decide_true, decide_false, Bool.not_true, Bool.not_false, bTT, bTF, bFT, bFF, ↓preB, postB, genB, ↓reduceIte, Nat.reduceEqDiff, Int.reduceToNat, Int.reduceLE, Int.reduceLT, Nat.reduceAdd, Nat.reduceLeDiff, intBin, strBin, unD, extractD, lit1, lit2, lit3, keptD, boxR, D.one, D.pub1, D.cells, splice, cutOwn]
    intro _ _
    refine pwp_loopJ 0 (fun e τ => τ = H ∧ e 1 = .str s ∧ e 2 = .ptr σ.next 0) (fun i e τ => i ≤ B.length ∧ τ = H ∧ e 9 = .int .i64 (i : Nat) ∧ e 5 = .sl .no B.length (encN B) ∧ e 7 = .sl .no B.length (encN B) ∧ e 1 = .str s ∧ e 2 = .ptr σ.next 0) (fun i => B.length - i) 0 ?_ ?_ ?_
    · simp only [upd_apply, envOf_apply, Nat.reduceEqDiff, if_true, if_false]
      exact ⟨Nat.zero_le _, (by first | trivial | rfl | omega), (by first | trivial | rfl | omega), (by first | trivial | rfl | omega), (by first | trivial | rfl | omega), (by first | trivial | rfl | omega), (by first | trivial | rfl | omega)⟩
    · rintro i e τ ⟨hi, rfl, h9, h5, h7, h1, h2⟩
      rcases Nat.lt_or_ge i B.length with hlt | hge
      · have hn : (i : Int) < B.length := by omega
        have hx := encN_get hlt
        have hp : 0 < B.length := by omega
        simp -dsimp only [h9, h5, h7, h1, h2, hn, hlt, hx, hp, hen, exitR_ret, gate, decide_true, decide_false, Bool.not_true, Bool.not_false, bTT, bTF, bFT, bFF, ↓preB, postB, genB, ↓reduceIte, Nat.reduceEqDiff, Int.reduceToNat, Int.reduceLE, Int.reduceLT, Nat.reduceAdd, Nat.reduceLeDiff, intBin, strBin, unD, extractD, lit1, lit2, lit3, keptD, boxR, D.one, D.pub1, D.cells, splice, cutOwn]
        intro _
        refine draw_s ?_
        simp -dsimp only [h9, h5, h7, h1, h2, hn, hlt, hx, hp, hen, en, exitR_ret, gate, decide_true, decide_false, Bool.not_true, Bool.not_false, bTT, bTF, bFT, bFF, ↓preB, postB, genB, ↓reduceIte, Nat.reduceEqDiff, Int.reduceToNat, Int.reduceLE, Int.reduceLT, Nat.reduceAdd, Nat.reduceLeDiff, intBin, strBin, unD, extractD, lit1, lit2, lit3, keptD, boxR, D.one, D.pub1, D.cells, splice, cutOwn]
        exact ⟨i + 1, ⟨by omega, wrap64_succ (by simp only [big]; omega)⟩, by omega⟩
      · have hn : ¬ (i : Int) < B.length := by omega
        simp -dsimp only [h9, h5, h7, h1, h2, hn, exitR_exit, gate, decide_true, decide_false, Bool.not_true, Bool.not_false, bTT, bTF, bFT, bFF, ↓preB, postB, genB, ↓reduceIte, Nat.reduceEqDiff, Int.reduceToNat, Int.reduceLE, Int.reduceLT, Nat.reduceAdd, Nat.reduceLeDiff, intBin, strBin, unD, extractD, lit1, lit2, lit3, keptD, boxR, D.one, D.pub1, D.cells, splice, cutOwn]
    rintro e τ ⟨rfl, h1, h2⟩
    simp -dsimp only [h1, h2, hg1, hlen, htk, List.drop_zero, gate, decide_true, decide_false, Bool.not_true, Bool.not_false, bTT, bTF, bFT, bFF, ↓preB, postB, genB, ↓reduceIte, Nat.reduceEqDiff, Int.reduceToNat, Int.reduceLE, Int.reduceLT, Nat.reduceAdd, Nat.reduceLeDiff, intBin, strBin, unD, extractD, lit1, lit2, lit3, keptD, boxR, D.one, D.pub1, D.cells, splice, cutOwn]
    refine Fn.use hC ?_
    simp -dsimp only [h1, h2, hg1, hlen, htk, List.drop_zero, List.getElem?_cons_zero, List.getElem?_cons_succ, gate, decide_true, decide_false, Bool.not_true, Bool.not_false, bTT, bTF, bFT, bFF, ↓preB, postB, genB, ↓reduceIte, Nat.reduceEqDiff, Int.reduceToNat, Int.reduceLE, Int.reduceLT, Nat.reduceAdd, Nat.reduceLeDiff, intBin, strBin, unD, extractD, lit1, lit2, lit3, keptD, boxR, D.one, D.pub1, D.cells, splice, cutOwn]
    refine Fn.use hD ?_
    simp -dsimp only [h1, h2, hg1, hlen, htk, en, List.drop_zero, List.getElem?_cons_zero, List.getElem?_cons_succ, gate, decide_true, decide_false, Bool.not_true, Bool.not_false, bTT, bTF, bFT, bFF, ↓preB, postB, genB, ↓reduceIte, Nat.reduceEqDiff, Int.reduceToNat, Int.reduceLE, Int.reduceLT, Nat.reduceAdd, Nat.reduceLeDiff, intBin, strBin, unD, extractD, lit1, lit2, lit3, keptD, boxR, D.one, D.pub1, D.cells, splice, cutOwn]
    intro _ _
    refine pwp_loopJ 2 (fun e s' => s' = τ ∧ e 1 = .str s ∧ e 2 = .ptr σ.next 0) (fun i e s' => i ≤ T.length ∧ s' = τ ∧ e 14 = .int .i64 (i : Nat) ∧ e 10 = .sl .no T.length (encB T) ∧ e 12 = .sl .no T.length (encB T) ∧ e 1 = .str s ∧ e 2 = .ptr σ.next 0) (fun i => T.length - i) 0 ?_ ?_ ?_
    · simp only [upd_apply, h1, h2, Nat.reduceEqDiff, if_true, if_false]
      exact ⟨Nat.zero_le _, (by first | trivial | rfl | omega), (by first | trivial | rfl | omega), (by first | trivial | rfl | omega), (by first | trivial | rfl | omega), (by first | trivial | rfl | omega), (by first | trivial | rfl | omega)⟩
    · clear h1 h2
      rintro i e s' ⟨hi, rfl, h14, h10, h12, h1, h2⟩
      rcases Nat.lt_or_ge i T.length with hlt | hge
      · have hn : (i : Int) < T.length := by omega
        have hx : (encB T)[i]? = some (.bool T[i]) := by simp [encB, hlt]
        have hp : 0 < T.length := by omega
        simp -dsimp only [h14, h10, h12, h1, h2, hn, hlt, hx, hp, heb, exitR_ret, gate, decide_true, decide_false, Bool.not_true, Bool.not_false, bTT, bTF, bFT, bFF, ↓preB, postB, genB, ↓reduceIte, Nat.reduceEqDiff, Int.reduceToNat, Int.reduceLE, Int.reduceLT, Nat.reduceAdd, Nat.reduceLeDiff, intBin, strBin, unD, extractD, lit1, lit2, lit3, keptD, boxR, D.one, D.pub1, D.cells, splice, cutOwn]
        intro _
        refine draw_s ?_
        simp -dsimp only [h14, h10, h12, h1, h2, hn, hlt, hx, hp, heb, exitR_ret, gate, decide_true, decide_false, Bool.not_true, Bool.not_false, bTT, bTF, bFT, bFF, ↓preB, postB, genB, ↓reduceIte, Nat.reduceEqDiff, Int.reduceToNat, Int.reduceLE, Int.reduceLT, Nat.reduceAdd, Nat.reduceLeDiff, intBin, strBin, unD, extractD, lit1, lit2, lit3, keptD, boxR, D.one, D.pub1, D.cells, splice, cutOwn]
        have eb : (!T[i] == T[i]) = false := by cases T[i] <;> rfl
        rw [eb, if_neg (by decide)]
        exact ⟨i + 1, ⟨by omega, wrap64_succ (by simp only [big]; omega)⟩, by omega⟩
      · have hn : ¬ (i : Int) < T.length := by omega
        simp -dsimp only [h14, h10, h12, h1, h2, hn, exitR_exit, gate, decide_true, decide_false, Bool.not_true, Bool.not_false, bTT, bTF, bFT, bFF, ↓preB, postB, genB, ↓reduceIte, Nat.reduceEqDiff, Int.reduceToNat, Int.reduceLE, Int.reduceLT, Nat.reduceAdd, Nat.reduceLeDiff, intBin, strBin, unD, extractD, lit1, lit2, lit3, keptD, boxR, D.one, D.pub1, D.cells, splice, cutOwn]
    clear h1 h2
    rintro e s' ⟨rfl, h1, h2⟩
    simp -dsimp only [h1, h2, hg1, hlen, htk, List.drop_zero, gate, decide_true, decide_false, Bool.not_true, Bool.not_false, bTT, bTF, bFT, bFF, ↓preB, postB, genB, ↓reduceIte, Nat.reduceEqDiff, Int.reduceToNat, Int.reduceLE, Int.reduceLT, Nat.reduceAdd, Nat.reduceLeDiff, intBin, strBin, unD, extractD, lit1, lit2, lit3, keptD, boxR, D.one, D.pub1, D.cells, splice, cutOwn]
    refine Fn.use hE ?_
    simp -dsimp only [h1, h2, hg1, hlen, htk, List.drop_zero, List.getElem?_cons_zero, List.getElem?_cons_succ, gate, decide_true, decide_false, Bool.not_true, Bool.not_false, bTT, bTF, bFT, bFF, ↓preB, postB, genB, ↓reduceIte, Nat.reduceEqDiff, Int.reduceToNat, Int.reduceLE, Int.reduceLT, Nat.reduceAdd, Nat.reduceLeDiff, intBin, strBin, unD, extractD, lit1, lit2, lit3, keptD, boxR, D.one, D.pub1, D.cells, splice, cutOwn]
    refine Fn.use hF ?_
    simp -dsimp only [h1, h2, List.getElem?_cons_zero, List.getElem?_cons_succ, gate, decide_true, decide_false, Bool.not_true, Bool.not_false, bTT, bTF, bFT, bFF, ↓preB, postB, genB, ↓reduceIte, Nat.reduceEqDiff, Int.reduceToNat, Int.reduceLE, Int.reduceLT, Nat.reduceAdd, Nat.reduceLeDiff, intBin, strBin, unD, extractD, lit1, lit2, lit3, keptD, boxR, D.one, D.pub1, D.cells, splice, cutOwn]
    refine Fn.use (sameSS_c W) ?_
    simp -dsimp only [ei, gate, decide_true, decide_false, Bool.not_true, Bool.not_false, bTT, bTF, bFT, bFF, ↓preB, postB, genB, ↓reduceIte, Nat.reduceEqDiff, Int.reduceToNat, Int.reduceLE, Int.reduceLT, Nat.reduceAdd, Nat.reduceLeDiff, intBin, strBin, unD, extractD, lit1, lit2, lit3, keptD, boxR, D.one, D.pub1, D.cells, splice, cutOwn]
    refine Fn.use known_c ?_
    simp -dsimp only [gate, decide_true, decide_false, Bool.not_true, Bool.not_false, bTT, bTF, bFT, bFF, ↓preB, postB, genB, ↓reduceIte, Nat.reduceEqDiff, Int.reduceToNat, Int.reduceLE, Int.reduceLT, Nat.reduceAdd, Nat.reduceLeDiff, intBin, strBin, unD, extractD, lit1, lit2, lit3, keptD, boxR, D.one, D.pub1, D.cells, splice, cutOwn]
    exact done _ rfl
  · simp -dsimp only [q1, gate, decide_true, decide_false, Bool.not_true, Bool.not_false, bTT, bTF, bFT, bFF, ↓preB, postB, genB, ↓reduceIte, Nat.reduceEqDiff, Int.reduceToNat, Int.reduceLE, Int.reduceLT, Nat.reduceAdd, Nat.reduceLeDiff, intBin, strBin, unD, extractD, lit1, lit2, lit3, keptD, boxR, D.one, D.pub1, D.cells, splice, cutOwn]
    refine Fn.use known_c ?_
    simp -dsimp only [↓preB, postB, genB, ↓reduceIte, Nat.reduceEqDiff, Int.reduceToNat, Int.reduceLE, Int.reduceLT, Nat.reduceAdd, Nat.reduceLeDiff, intBin, strBin, unD, extractD, lit1, lit2, lit3, keptD, boxR, D.one, D.pub1, D.cells, splice, cutOwn]
    exact done _ rfl
end Go.Proofs.YtapkbkniooleaaaGreat.Vs
