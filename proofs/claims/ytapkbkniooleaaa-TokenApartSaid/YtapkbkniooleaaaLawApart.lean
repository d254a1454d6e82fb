/- numbers of Ytapkbkniooleaaa -/
import Derived.Test.YtapkbkniooleaaaJn1
import Derived.Test.YtapkbkniooleaaaTkW
import Derived.Test.YtapkbkniooleaaaTkU
import Derived.Test.YtapkbkniooleaaaTkX
namespace Go.Proofs.Ytapkbkniooleaaa.Vs
set_option linter.unusedVariables false
set_option linter.unusedSimpArgs false
set_option maxRecDepth 100000
theorem blank_of {n : Int} (h : isBlankI n = true) : n = 9 ∨ n = 10 ∨ n = 13 ∨ n = 32 := by
  unfold isBlankI at h
  simp only [Bool.or_eq_true, decide_eq_true_eq] at h
  omega
theorem n9a : ((9 : Int) != 9) = false := rfl
theorem n9b : ((10 : Int) != 9) = true := rfl
theorem n9c : ((10 : Int) != 10) = false := rfl
theorem n9d : ((13 : Int) != 9) = true := rfl
theorem n9e : ((13 : Int) != 10) = true := rfl
theorem n9f : ((13 : Int) != 13) = false := rfl
theorem n9g : ((32 : Int) != 9) = true := rfl
theorem n9h : ((32 : Int) != 10) = true := rfl
theorem n9i : ((32 : Int) != 13) = true := rfl
theorem n9j : ((32 : Int) != 32) = false := rfl
theorem seg_ok {s : ByteArray} {b : Nat} : ∀ {l : List Tok} {a : Nat}, Seg s a l b → okJ s.size (a : Int) l
  | [], _, _ => trivial
  | ⟨fr, to, kd, tx⟩ :: l, a, ⟨f, e, h1, h2, h3, _, h5, h6, _, h8, h9, hs⟩ => by
    simp only [] at h1 h2 h8 h9
    subst h1; subst h2
    exact ⟨⟨by simp only []; omega, by simp only []; omega, by simp only []; omega, h8, h9⟩, seg_ok hs⟩
theorem ext_join (s : ByteArray) {a f e : Nat} (h1 : a ≤ f) (h2 : f ≤ e) : (s.extract a f).data.toList ++ (s.extract f e).data.toList = (s.extract a e).data.toList := by
  rw [Lib.extract_data, Lib.extract_data, Lib.extract_data, show e - a = (f - a) + (e - f) by omega, List.take_add, List.drop_drop, show a + (f - a) = f by omega]
theorem seg_join {s : ByteArray} : ∀ {l : List Tok} {a : Nat} (o : List UInt8), Seg s a l s.size → joinL s a o l = o ++ (s.extract a s.size).data.toList
  | [], a, o, _ => rfl
  | ⟨fr, to, kd, tx⟩ :: l, a, o, ⟨f, e, h1, h2, h3, _, h5, h6, h7, _, _, hs⟩ => by
    simp only [] at h1 h2 h7
    subst h1; subst h2; subst h7
    show joinL s (((e : Nat) : Int)).toNat (o ++ ((s.extract a (((f : Nat) : Int)).toNat).data.toList ++ (s.extract f e).data.toList)) l = _
    rw [Int.toNat_natCast, Int.toNat_natCast, seg_join _ hs, ext_join s h3 (by omega), List.append_assoc, ext_join s (by omega) h6]
theorem seg_tot {s : ByteArray} {b : Nat} : ∀ {l : List Tok} {a : Nat}, Seg s a l b → totT l + 2 * a ≤ 2 * b
  | [], a, h => by have := h.1; simp only [totT]; omega
  | ⟨fr, to, kd, tx⟩ :: l, a, ⟨f, e, h1, h2, h3, _, h5, h6, h7, _, _, hs⟩ => by
    have ih := seg_tot hs
    simp only [] at h7
    subst h7
    simp only [totT, ByteArray.size_extract]
    omega
theorem join_seg {s : ByteArray} {l : List Tok} (h : Seg s 0 l s.size) : jres s l = (s, 0) := by
  rw [jres_ok (seg_ok h), seg_join [] h, List.nil_append]
  refine Prod.ext ?_ rfl
  exact ba_extJ (by simp)
set_option maxHeartbeats 2000000 in
theorem apart_of (c : Cut) (s : ByteArray) (hb : ∀ l ∈ lsC c, ∀ s ∈ l, s.size ≤ 140737488351232) : Fn Zs 4 [encC c, .str s] (.bool true) := by
  refine fn_of (Z := Zs) ok4 fun σ hcl hbl => ?_
  simp -dsimp only [L4, encC, ↓preB, postB, genB, ↓reduceIte, Nat.reduceEqDiff, Int.reduceToNat, Int.reduceLE, Int.reduceLT, Nat.reduceAdd, Nat.reduceLeDiff, intBin, strBin, unD, extractD, lit1, lit2, lit3, keptD, boxR, D.one, D.pub1, D.cells, splice, cutOwn]
  obtain ⟨H, hH⟩ : ∃ H, H = σ.new (.cells 24 (cellsC c)) := ⟨_, rfl⟩
  have hle1 : HLe σ H := by rw [hH]; exact HLe.self_new _ hcl
  have hg1 : H.get σ.next = some (.cells 24 (cellsC c)) := by rw [hH]; exact Heap.new_same _ _
  rw [← hH]
  clear hH
  have hlen : (cellsC c).length = 4 := rfl
  have htk : (cellsC c).take 4 = cellsC c := rfl
  have hO := over_c c hb
  have hT := Tokens_c c s
  unfold encC at hO hT
  have done : ∀ (x : Bool), x = true → Ret σ (fun d τ => d = .bool true ∧ τ = σ) (.bool x) H := fun x hx => by rw [hx]; exact Ret.isH hle1 hcl rfl (.bool _)
  simp -dsimp only [hg1, hlen, htk, List.drop_zero, ↓preB, postB, genB, ↓reduceIte, Nat.reduceEqDiff, Int.reduceToNat, Int.reduceLE, Int.reduceLT, Nat.reduceAdd, Nat.reduceLeDiff, intBin, strBin, unD, extractD, lit1, lit2, lit3, keptD, boxR, D.one, D.pub1, D.cells, splice, cutOwn]
  refine Fn.use hO ?_
  cases q1 : overG (lsC c) 0
  case true =>
    simp -dsimp only [q1, gate, decide_true, decide_false, Bool.not_true, Bool.not_false, bTT, bTF, bFT, bFF, ↓preB, postB, genB, ↓reduceIte, Nat.reduceEqDiff, Int.reduceToNat, Int.reduceLE, Int.reduceLT, Nat.reduceAdd, Nat.reduceLeDiff, intBin, strBin, unD, extractD, lit1, lit2, lit3, keptD, boxR, D.one, D.pub1, D.cells, splice, cutOwn]
    refine Fn.use known_c ?_
    simp -dsimp only [↓preB, postB, genB, ↓reduceIte, Nat.reduceEqDiff, Int.reduceToNat, Int.reduceLE, Int.reduceLT, Nat.reduceAdd, Nat.reduceLeDiff, intBin, strBin, unD, extractD, lit1, lit2, lit3, keptD, boxR, D.one, D.pub1, D.cells, splice, cutOwn]
    exact done _ rfl
  by_cases c1 : (24000 : Int) < s.size
  · simp -dsimp only [c1, q1, gate, decide_true, decide_false, Bool.not_true, Bool.not_false, bTT, bTF, bFT, bFF, ↓preB, postB, genB, ↓reduceIte, Nat.reduceEqDiff, Int.reduceToNat, Int.reduceLE, Int.reduceLT, Nat.reduceAdd, Nat.reduceLeDiff, intBin, strBin, unD, extractD, lit1, lit2, lit3, keptD, boxR, D.one, D.pub1, D.cells, splice, cutOwn]
    intro _
    refine Fn.use known_c ?_
    simp -dsimp only [↓preB, postB, genB, ↓reduceIte, Nat.reduceEqDiff, Int.reduceToNat, Int.reduceLE, Int.reduceLT, Nat.reduceAdd, Nat.reduceLeDiff, intBin, strBin, unD, extractD, lit1, lit2, lit3, keptD, boxR, D.one, D.pub1, D.cells, splice, cutOwn]
    exact done _ rfl
  simp -dsimp only [hg1, hlen, htk, List.drop_zero, c1, q1, gate, decide_true, decide_false, Bool.not_true, Bool.not_false, bTT, bTF, bFT, bFF, ↓preB, postB, genB, ↓reduceIte, Nat.reduceEqDiff, Int.reduceToNat, Int.reduceLE, Int.reduceLT, Nat.reduceAdd, Nat.reduceLeDiff, intBin, strBin, unD, extractD, lit1, lit2, lit3, keptD, boxR, D.one, D.pub1, D.cells, splice, cutOwn]
  intro _
  by_cases t0 : (tokW c s).2 = 0
  case neg =>
    have k0 : ((tokW c s).2 != 0) = true := by rw [bne_iff_ne]; exact t0
    unfold encTok at hT
    refine Fn.use hT ?_
    simp -dsimp only [hg1, hlen, htk, List.drop_zero, c1, q1, k0, List.getElem?_cons_zero, List.getElem?_cons_succ, gate, decide_true, decide_false, Bool.not_true, Bool.not_false, bTT, bTF, bFT, bFF, ↓preB, postB, genB, ↓reduceIte, Nat.reduceEqDiff, Int.reduceToNat, Int.reduceLE, Int.reduceLT, Nat.reduceAdd, Nat.reduceLeDiff, intBin, strBin, unD, extractD, lit1, lit2, lit3, keptD, boxR, D.one, D.pub1, D.cells, splice, cutOwn]
    refine Fn.use known_c ?_
    simp -dsimp only [↓preB, postB, genB, ↓reduceIte, Nat.reduceEqDiff, Int.reduceToNat, Int.reduceLE, Int.reduceLT, Nat.reduceAdd, Nat.reduceLeDiff, intBin, strBin, unD, extractD, lit1, lit2, lit3, keptD, boxR, D.one, D.pub1, D.cells, splice, cutOwn]
    exact done _ rfl
  have ht : tokW c s = (cutW c s s.size 0, 0) := by
    unfold tokW at t0 ⊢
    by_cases v0 : valW c ≠ 0
    · rw [if_pos v0] at t0; exact absurd t0 v0
    rw [if_neg v0] at t0 ⊢
    by_cases v1 : 6000 < s.size
    · rw [if_pos v1] at t0; exact absurd t0 (by decide)
    rw [if_neg v1] at t0 ⊢
    by_cases v2 : 200 < (cutW c s s.size 0).length
    · rw [if_pos v2] at t0; exact absurd t0 (by decide)
    rw [if_neg v2]
  have hseg := cut_seg c s s.size 0 (Nat.zero_le _) (by omega)
  rw [ht] at hT
  unfold encTok at hT
  clear ht t0
  generalize cutW c s s.size 0 = l at *
  simp only [] at hT
  have htot := seg_tot hseg
  have hln := totT_len l
  have hJ := Join_c s l (by omega)
  rw [join_seg hseg] at hJ
  have k00 : ((0 : Int) != 0) = false := rfl
  have e00 : ((0 : Int) == 0) = true := rfl
  have ess : (s == s) = true := ba_refl s
  refine Fn.use hT ?_
  simp -dsimp only [hg1, hlen, htk, List.drop_zero, c1, q1, k00, List.getElem?_cons_zero, List.getElem?_cons_succ, gate, decide_true, decide_false, Bool.not_true, Bool.not_false, bTT, bTF, bFT, bFF, ↓preB, postB, genB, ↓reduceIte, Nat.reduceEqDiff, Int.reduceToNat, Int.reduceLE, Int.reduceLT, Nat.reduceAdd, Nat.reduceLeDiff, intBin, strBin, unD, extractD, lit1, lit2, lit3, keptD, boxR, D.one, D.pub1, D.cells, splice, cutOwn]
  clear hg1 hlen htk
  refine pwp_loopJ 0 (fun e τ => τ = H ∧ e 5 = .sl .no l.length (encTks l) ∧ e 1 = .str s) (fun (x : Nat × Nat) env τ => ((x.1 ≤ l.length ∧ Seg s x.2 (l.drop x.1) s.size) ∨ x.1 = l.length + 1) ∧ τ = H ∧ env 8 = .int .i64 (x.1 : Nat) ∧ env 7 = .int .i64 (x.2 : Nat) ∧ env 5 = .sl .no l.length (encTks l) ∧ env 1 = .str s) (fun x => l.length + 1 - x.1) (0, 0) ?_ ?_ ?_
  · simp only [upd_apply, envOf_apply, Nat.reduceEqDiff, if_true, if_false]
    exact ⟨.inl ⟨Nat.zero_le _, hseg⟩, (by first | trivial | rfl | omega), (by first | trivial | rfl | omega), (by first | trivial | rfl | omega), (by first | trivial | rfl | omega), (by first | trivial | rfl | omega)⟩
  · rintro ⟨i, a⟩ env τ ⟨hi, rfl, h8, h7, h5, h1⟩
    simp only [] at hi h8 h7
    rcases hi with ⟨hi, hs⟩ | hi
    case inr =>
      have ki : ¬ (i : Int) ≤ l.length := by omega
      simp -dsimp only [h8, h7, h5, h1, ki, exitR_exit, gate, decide_true, decide_false, Bool.not_true, Bool.not_false, bTT, bTF, bFT, bFF, ↓preB, postB, genB, ↓reduceIte, Nat.reduceEqDiff, Int.reduceToNat, Int.reduceLE, Int.reduceLT, Nat.reduceAdd, Nat.reduceLeDiff, intBin, strBin, unD, extractD, lit1, lit2, lit3, keptD, boxR, D.one, D.pub1, D.cells, splice, cutOwn]
    have ki : (i : Int) ≤ l.length := by omega
    have wi : IntKind.i64.wrap ((i : Int) + 1) = ((i + 1 : Nat) : Int) := wrap64_succ (by simp only [big]; omega)
    by_cases hlt : i < l.length
    · have hn : (i : Int) < l.length := by omega
      have hl0 : 0 < (encTks l).length := by rw [encTks_len]; omega
      have hat := encTks_at hlt []
      rw [List.append_nil] at hat
      have a0 := encTks_0 hlt
      have a1 := encTks_1 hlt
      have a3 := encTks_3 hlt
      have hi4 : 4 ≤ (encTks l).length - i * 4 := by rw [encTks_len]; omega
      rw [drop_at hlt] at hs
      generalize l[i] = t at *
      obtain ⟨fr, to, kd, tx⟩ := t
      obtain ⟨f, e, h1', h2', h3, hbk, h5', h6, h7', h8', h9, hs'⟩ := hs
      simp only [] at h1' h2' h7' a0 a1 a3
      subst h1'; subst h2'; subst h7'
      have d1 : ¬ ((f : Nat) : Int) < (a : Nat) := by omega
      have d2 : ¬ (s.size : Int) < (f : Nat) := by omega
      simp -dsimp only [h8, h7, h5, h1, ki, hn, hlt, hl0, hat, hi4, a0, a1, a3, d1, d2, exitR_exit, gate, decide_true, decide_false, Bool.not_true, Bool.not_false, bTT, bTF, bFT, bFF, ↓preB, postB, genB, ↓reduceIte, Nat.reduceEqDiff, Int.reduceToNat, Int.reduceLE, Int.reduceLT, Nat.reduceAdd, Nat.reduceLeDiff, intBin, strBin, unD, extractD, lit1, lit2, lit3, keptD, boxR, D.one, D.pub1, D.cells, splice, cutOwn]
      intros
      refine pwp_loopG (fun b e τ2 => b ≤ f ∧ a ≤ b ∧ τ2 = τ ∧ e 7 = .int .i64 (b : Nat) ∧ e 9 = .int .i64 (f : Nat) ∧ e 8 = .int .i64 (i : Nat) ∧ e 5 = .sl .no l.length (encTks l) ∧ e 1 = .str s) (fun b => f - b) a ?_ ?_
      · simp only [upd_apply, envOf_apply, h8, h7, h5, h1, Nat.reduceEqDiff, if_true, if_false]
        exact ⟨by omega, Nat.le_refl _, (by first | trivial | rfl | omega), (by first | trivial | rfl | omega), (by first | trivial | rfl | omega), (by first | trivial | rfl | omega), (by first | trivial | rfl | omega), (by first | trivial | rfl | omega)⟩
      · rintro b e' τ2 ⟨hb1, hb2, rfl, g7, g9, g8, g5, g1⟩
        by_cases hbt : b < f
        · have kb : (b : Int) < (f : Nat) := by omega
          have kb2 : b < s.size := by omega
          have kb3 : (b : Int) < s.size := by omega
          have hbl := hbk b hb2 hbt
          have wb : IntKind.i64.wrap ((b : Int) + 1) = ((b + 1 : Nat) : Int) := wrap64_succ (by simp only [big]; omega)
          rcases blank_of hbl with q | q | q | q
          all_goals
            simp -dsimp only [g7, g9, g8, g5, g1, kb, kb2, kb3, q, wb, n9a, n9b, n9c, n9d, n9e, n9f, n9g, n9h, n9i, n9j, gate, decide_true, decide_false, Bool.not_true, Bool.not_false, bTT, bTF, bFT, bFF, ↓preB, postB, genB, ↓reduceIte, Nat.reduceEqDiff, Int.reduceToNat, Int.reduceLE, Int.reduceLT, Nat.reduceAdd, Nat.reduceLeDiff, intBin, strBin, unD, extractD, lit1, lit2, lit3, keptD, boxR, D.one, D.pub1, D.cells, splice, cutOwn]
            intros
            first
              | exact ⟨b + 1, ⟨by omega, by omega, rfl⟩, by omega⟩
              | exact ⟨by omega, b + 1, ⟨by omega, by omega, rfl⟩, by omega⟩
        · have hbe : b = f := by omega
          subst hbe
          have kb : ¬ ((b : Nat) : Int) < (b : Nat) := by omega
          have d3 : ¬ ((e : Nat) : Int) ≤ (b : Nat) := by omega
          have d4 : ¬ (s.size : Int) < (e : Nat) := by omega
          have d5 : (s.extract b e != s.extract b e) = false := by rw [bne, ba_refl]; rfl
          simp -dsimp only [g7, g9, g8, g5, g1, kb, ki, hn, hlt, hl0, hat, hi4, a0, a1, a3, d1, d2, d3, d4, d5, wi, exitR_exit, gate, decide_true, decide_false, Bool.not_true, Bool.not_false, bTT, bTF, bFT, bFF, ↓preB, postB, genB, ↓reduceIte, Nat.reduceEqDiff, Int.reduceToNat, Int.reduceLE, Int.reduceLT, Nat.reduceAdd, Nat.reduceLeDiff, intBin, strBin, unD, extractD, lit1, lit2, lit3, keptD, boxR, D.one, D.pub1, D.cells, splice, cutOwn]
          intros
          refine draw_s ?_
          simp -dsimp only [g7, g9, g8, g5, g1, kb, ki, hn, hlt, hl0, hat, hi4, a0, a1, a3, d1, d2, d3, d4, d5, wi, exitR_exit, gate, decide_true, decide_false, Bool.not_true, Bool.not_false, bTT, bTF, bFT, bFF, ↓preB, postB, genB, ↓reduceIte, Nat.reduceEqDiff, Int.reduceToNat, Int.reduceLE, Int.reduceLT, Nat.reduceAdd, Nat.reduceLeDiff, intBin, strBin, unD, extractD, lit1, lit2, lit3, keptD, boxR, D.one, D.pub1, D.cells, splice, cutOwn]
          refine ⟨⟨by omega, by omega⟩, ?_⟩
          rw [if_neg (by rw [ba_refl]; simp)]
          exact ⟨(i + 1, e), ⟨.inl ⟨by simp only []; omega, hs'⟩, rfl, rfl⟩, by simp only []; omega⟩
    · have hn : ¬ (i : Int) < l.length := by omega
      have hil : i = l.length := by omega
      rw [List.drop_of_length_le (by omega)] at hs
      have h3 := hs.1
      have hbk := hs.2
      have d1 : ¬ (s.size : Int) < (a : Nat) := by omega
      have d2 : ¬ (s.size : Int) < (s.size : Nat) := by omega
      simp -dsimp only [h8, h7, h5, h1, ki, hn, hlt, d1, d2, exitR_exit, gate, decide_true, decide_false, Bool.not_true, Bool.not_false, bTT, bTF, bFT, bFF, ↓preB, postB, genB, ↓reduceIte, Nat.reduceEqDiff, Int.reduceToNat, Int.reduceLE, Int.reduceLT, Nat.reduceAdd, Nat.reduceLeDiff, intBin, strBin, unD, extractD, lit1, lit2, lit3, keptD, boxR, D.one, D.pub1, D.cells, splice, cutOwn]
      intros
      refine pwp_loopG (fun b e τ2 => b ≤ s.size ∧ a ≤ b ∧ τ2 = τ ∧ e 7 = .int .i64 (b : Nat) ∧ e 9 = .int .i64 (s.size : Nat) ∧ e 8 = .int .i64 (i : Nat) ∧ e 5 = .sl .no l.length (encTks l) ∧ e 1 = .str s) (fun b => s.size - b) a ?_ ?_
      · simp only [upd_apply, envOf_apply, h8, h7, h5, h1, Nat.reduceEqDiff, if_true, if_false]
        exact ⟨by omega, Nat.le_refl _, (by first | trivial | rfl | omega), (by first | trivial | rfl | omega), (by first | trivial | rfl | omega), (by first | trivial | rfl | omega), (by first | trivial | rfl | omega), (by first | trivial | rfl | omega)⟩
      · rintro b e' τ2 ⟨hb1, hb2, rfl, g7, g9, g8, g5, g1⟩
        by_cases hbt : b < s.size
        · have kb : (b : Int) < (s.size : Nat) := by omega
          have kb2 : b < s.size := by omega
          have kb3 : (b : Int) < s.size := by omega
          have hbl := hbk b hb2 hbt
          have wb : IntKind.i64.wrap ((b : Int) + 1) = ((b + 1 : Nat) : Int) := wrap64_succ (by simp only [big]; omega)
          rcases blank_of hbl with q | q | q | q
          all_goals
            simp -dsimp only [g7, g9, g8, g5, g1, kb, kb2, kb3, q, wb, n9a, n9b, n9c, n9d, n9e, n9f, n9g, n9h, n9i, n9j, gate, decide_true, decide_false, Bool.not_true, Bool.not_false, bTT, bTF, bFT, bFF, ↓preB, postB, genB, ↓reduceIte, Nat.reduceEqDiff, Int.reduceToNat, Int.reduceLE, Int.reduceLT, Nat.reduceAdd, Nat.reduceLeDiff, intBin, strBin, unD, extractD, lit1, lit2, lit3, keptD, boxR, D.one, D.pub1, D.cells, splice, cutOwn]
            intros
            first
              | exact ⟨b + 1, ⟨by omega, by omega, rfl⟩, by omega⟩
              | exact ⟨by omega, b + 1, ⟨by omega, by omega, rfl⟩, by omega⟩
        · have hbe : b = s.size := by omega
          subst hbe
          have kb : ¬ ((s.size : Nat) : Int) < (s.size : Nat) := by omega
          simp -dsimp only [g7, g9, g8, g5, g1, kb, ki, hn, hlt, d1, d2, wi, exitR_exit, gate, decide_true, decide_false, Bool.not_true, Bool.not_false, bTT, bTF, bFT, bFF, ↓preB, postB, genB, ↓reduceIte, Nat.reduceEqDiff, Int.reduceToNat, Int.reduceLE, Int.reduceLT, Nat.reduceAdd, Nat.reduceLeDiff, intBin, strBin, unD, extractD, lit1, lit2, lit3, keptD, boxR, D.one, D.pub1, D.cells, splice, cutOwn]
          intros
          exact ⟨(i + 1, s.size), ⟨.inr (by simp only []; omega), rfl, rfl⟩, by simp only []; omega⟩
  · rintro e τ ⟨rfl, e5, e1⟩
    simp -dsimp only [e5, e1, gate, decide_true, decide_false, Bool.not_true, Bool.not_false, bTT, bTF, bFT, bFF, ↓preB, postB, genB, ↓reduceIte, Nat.reduceEqDiff, Int.reduceToNat, Int.reduceLE, Int.reduceLT, Nat.reduceAdd, Nat.reduceLeDiff, intBin, strBin, unD, extractD, lit1, lit2, lit3, keptD, boxR, D.one, D.pub1, D.cells, splice, cutOwn]
    refine Fn.use hJ ?_
    simp -dsimp only [e5, e1, e00, ess, List.getElem?_cons_zero, List.getElem?_cons_succ, gate, decide_true, decide_false, Bool.not_true, Bool.not_false, bTT, bTF, bFT, bFF, ↓preB, postB, genB, ↓reduceIte, Nat.reduceEqDiff, Int.reduceToNat, Int.reduceLE, Int.reduceLT, Nat.reduceAdd, Nat.reduceLeDiff, intBin, strBin, unD, extractD, lit1, lit2, lit3, keptD, boxR, D.one, D.pub1, D.cells, splice, cutOwn]
    refine Fn.use known_c ?_
    simp -dsimp only [e5, e1, e00, ess, List.getElem?_cons_zero, List.getElem?_cons_succ, gate, decide_true, decide_false, Bool.not_true, Bool.not_false, bTT, bTF, bFT, bFF, ↓preB, postB, genB, ↓reduceIte, Nat.reduceEqDiff, Int.reduceToNat, Int.reduceLE, Int.reduceLT, Nat.reduceAdd, Nat.reduceLeDiff, intBin, strBin, unD, extractD, lit1, lit2, lit3, keptD, boxR, D.one, D.pub1, D.cells, splice, cutOwn]
    exact done _ rfl
end Go.Proofs.Ytapkbkniooleaaa.Vs
