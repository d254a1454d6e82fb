import Derived.Test.YtapkbkniooleaaaGreatTkX
import Derived.Test.YtapkbkniooleaaaGreatTkW
import Derived.Test.YtapkbkniooleaaaGreatTkU
/- numbers of YtapkbkniooleaaaGreat -/
namespace Go.Proofs.YtapkbkniooleaaaGreat.Vs
set_option linter.unusedVariables false
set_option linter.unusedSimpArgs false
set_option maxRecDepth 100000
theorem isWordR_c (t : Tok) : Fn Zs 21 [.agg (encTk t)] (.bool (textB t)) := by
  refine fn_of (Z := Zs) ok21 fun σ hcl hbl => ?_
  simp -dsimp only [L21, encTk, ↓preB, postB, genB, ↓reduceIte, Nat.reduceEqDiff, Int.reduceToNat, Int.reduceLE, Int.reduceLT, Nat.reduceAdd, Nat.reduceLeDiff, intBin, strBin, unD, extractD, lit1, lit2, lit3, keptD, boxR, D.one, D.pub1, D.cells, splice, cutOwn]
  have done : ∀ (x : Bool), Ret σ (fun d τ => d = .bool x ∧ τ = σ) (.bool x) (σ.new (.cells 43 [.int .i64 t.fr, .int .i64 t.to, .int .i64 t.kind, .str t.text])) := fun x => Ret.isH (HLe.self_new _ hcl) hcl rfl (.bool _)
  unfold textB
  cases e1 : (t.kind == 0) <;> cases e2 : (t.kind == 3) <;> cases e3 : (t.kind == 4)
  all_goals
    simp -dsimp only [e1, e2, e3, List.getElem?_cons_zero, List.getElem?_cons_succ, gate, decide_true, decide_false, Bool.not_true, Bool.not_false, bTT, bTF, bFT, bFF, ↓preB, postB, genB, ↓reduceIte, Nat.reduceEqDiff, Int.reduceToNat, Int.reduceLE, Int.reduceLT, Nat.reduceAdd, Nat.reduceLeDiff, intBin, strBin, unD, extractD, lit1, lit2, lit3, keptD, boxR, D.one, D.pub1, D.cells, splice, cutOwn]
    exact done _
theorem index3 (a b c x : UInt8) : decide (0 ≤ Lib.indexByte [a, b, c] x) = (decide (x = a) || (decide (x = b) || decide (x = c))) := by
  have hd : ∀ p q : UInt8, (p == q) = decide (q = p) := fun p q => by
    by_cases h : p = q
    · subst h; simp
    · have : ¬ q = p := fun e => h e.symm
      simp [h, this]
  simp only [Lib.indexByte, hd]
  by_cases h1 : x = a
  · simp [h1]
  · by_cases h2 : x = b
    · subst h2
      simp [h1]
    · by_cases h3 : x = c
      · subst h3
        simp [h1, h2]
      · simp [h1, h2, h3]
theorem one_beq (x a : UInt8) : ((⟨#[x]⟩ : ByteArray) == ⟨#[a]⟩) = decide (x = a) := by
  rw [ba_decT]
  exact decide_eq_decide.2 ⟨fun h => by simpa using h, fun h => by rw [h]⟩
theorem isOne_c (t : Tok) (a b c : UInt8) (h : WFT t) : Fn Zs 35 [.agg (encTk t), .str ⟨#[a]⟩, .str ⟨#[b]⟩, .str ⟨#[c]⟩] (.bool (signB ⟨#[a, b, c]⟩ t)) := by
  refine fn_of (Z := Zs) ok35 fun σ hcl hbl => ?_
  simp -dsimp only [L35, encTk, ↓preB, postB, genB, ↓reduceIte, Nat.reduceEqDiff, Int.reduceToNat, Int.reduceLE, Int.reduceLT, Nat.reduceAdd, Nat.reduceLeDiff, intBin, strBin, unD, extractD, lit1, lit2, lit3, keptD, boxR, D.one, D.pub1, D.cells, splice, cutOwn]
  have done : ∀ (x y : Bool) (o : AO), x = y → Ret σ (fun d τ => d = .bool x ∧ τ = σ) (.bool y) (σ.new o) := fun x y o e => by rw [e]; exact Ret.isH (HLe.self_new _ hcl) hcl rfl (.bool _)
  unfold signB
  cases e1 : (t.kind == 2)
  · simp -dsimp only [e1, List.getElem?_cons_zero, List.getElem?_cons_succ, gate, decide_true, decide_false, Bool.not_true, Bool.not_false, bTT, bTF, bFT, bFF, ↓preB, postB, genB, ↓reduceIte, Nat.reduceEqDiff, Int.reduceToNat, Int.reduceLE, Int.reduceLT, Nat.reduceAdd, Nat.reduceLeDiff, intBin, strBin, unD, extractD, lit1, lit2, lit3, keptD, boxR, D.one, D.pub1, D.cells, splice, cutOwn]
    exact done _ _ _ rfl
  · have hk : t.kind = 2 := by simpa using e1
    have h1 := h.2 hk
    obtain ⟨x, hx⟩ : ∃ b, t.text = ⟨#[b]⟩ := by
      have h1' : t.text.data.toList.length = 1 := h1
      obtain ⟨b, hb⟩ := List.length_eq_one_iff.1 h1'
      exact ⟨b, ba_extK (by rw [hb])⟩
    have hhd : t.text.data.toList.headD 0 = x := by rw [hx]; rfl
    rw [hhd, show (⟨#[a, b, c]⟩ : ByteArray).data.toList = [a, b, c] from rfl, index3, hx]
    have ea := one_beq x a
    have eb := one_beq x b
    have ec := one_beq x c
    cases q1 : decide (x = a) <;> cases q2 : decide (x = b) <;> cases q3 : decide (x = c)
    all_goals
      rw [q1] at ea
      rw [q2] at eb
      rw [q3] at ec
      simp -dsimp only [e1, ea, eb, ec, List.getElem?_cons_zero, List.getElem?_cons_succ, gate, decide_true, decide_false, Bool.not_true, Bool.not_false, bTT, bTF, bFT, bFF, ↓preB, postB, genB, ↓reduceIte, Nat.reduceEqDiff, Int.reduceToNat, Int.reduceLE, Int.reduceLT, Nat.reduceAdd, Nat.reduceLeDiff, intBin, strBin, unD, extractD, lit1, lit2, lit3, keptD, boxR, D.one, D.pub1, D.cells, splice, cutOwn]
      exact done _ _ _ rfl
theorem startsR_c (l : List Tok) (i : Nat) (hi : i < l.length) (hl : l.length ≤ 1000000) (hw : ∀ t ∈ l, WFT t) (ho : ∀ (i : Nat) (h : i + 1 < l.length), (l[i]'(by omega)).to ≤ l[i + 1].fr) : Fn Zs 16 [.sl .no l.length (encTks l), .int .i64 i] (.bool (startB l i)) := by
  refine fn_of (Z := Zs) ok16 fun σ hcl hbl => ?_
  simp -dsimp only [L16, ↓preB, postB, genB, ↓reduceIte, Nat.reduceEqDiff, Int.reduceToNat, Int.reduceLE, Int.reduceLT, Nat.reduceAdd, Nat.reduceLeDiff, intBin, strBin, unD, extractD, lit1, lit2, lit3, keptD, boxR, D.one, D.pub1, D.cells, splice, cutOwn]
  have hl0 : 0 < (encTks l).length := by rw [encTks_len]; omega
  by_cases i0 : i = 0
  · subst i0
    rw [show startB l 0 = true from rfl]
    simp -dsimp only [show ((((0 : Nat) : Int) == 0) = true) from rfl, gate, decide_true, decide_false, Bool.not_true, Bool.not_false, bTT, bTF, bFT, bFF, ↓preB, postB, genB, ↓reduceIte, Nat.reduceEqDiff, Int.reduceToNat, Int.reduceLE, Int.reduceLT, Nat.reduceAdd, Nat.reduceLeDiff, intBin, strBin, unD, extractD, lit1, lit2, lit3, keptD, boxR, D.one, D.pub1, D.cells, splice, cutOwn]
    exact Ret.is rfl
  have c0 : ((i : Int) == 0) = false := by simp only [beq_eq_false_iff_ne, ne_eq]; omega
  have hst : startB l i = (signB q2 (l.getD (backK l (i - 1)) tk0) && decide ((l.getD (i - 1) tk0).to < (l.getD i tk0).fr) && !(textB (l.getD i tk0) && isSmallI (byteAt (l.getD i tk0).text 0))) := by unfold startB; rw [if_neg i0]
  have hil : i - 1 < l.length := by omega
  have hoi : (l[i - 1]).to ≤ l[i].fr := by
    have h2 : i - 1 + 1 < l.length := by omega
    have := ho (i - 1) h2
    have e : l[i - 1 + 1] = l[i] := by congr 1; omega
    rw [e] at this
    exact this
  rw [getD_at hil, getD_at hi] at hst
  have w1 : IntKind.i64.wrap ((i : Int) - 1) = ((i - 1 : Nat) : Int) := by rw [wrap64_in (by omega) (by omega)]; omega
  have hati := encTks_at hi []
  rw [List.append_nil] at hati
  have hi4 : 4 ≤ (encTks l).length - i * 4 := by rw [encTks_len]; omega
  have e1i := encTks_1 hil
  have e0i := encTks_0 hi
  have e3i := encTks_3 hi
  have hX := isWordR_c l[i]
  simp only [encTk] at hX hati
  have hn : (i : Int) < l.length := by omega
  have tx := (hw _ (List.getElem_mem hi)).1
  have tx1 : (0 : Int) < l[i].text.size := by omega
  have tx2 : 0 < l[i].text.size := by omega
  simp -dsimp only [c0, w1, gate, decide_true, decide_false, Bool.not_true, Bool.not_false, bTT, bTF, bFT, bFF, ↓preB, postB, genB, ↓reduceIte, Nat.reduceEqDiff, Int.reduceToNat, Int.reduceLE, Int.reduceLT, Nat.reduceAdd, Nat.reduceLeDiff, intBin, strBin, unD, extractD, lit1, lit2, lit3, keptD, boxR, D.one, D.pub1, D.cells, splice, cutOwn]
  refine draw_sR (fun e => e 35 = .bool (l[i].fr == l[i - 1].to || (textB l[i] && isSmallI (byteAt l[i].text 0))) ∧ e 1 = .int .i64 (i:Nat) ∧ e 0 = .sl .no l.length (encTks l)) ?_ ?_
  · cases q5 : (l[i].fr == l[i - 1].to)
    · simp -dsimp only [c0, w1, hl0, hi, hil, hn, hati, hi4, e1i, e0i, e3i, tx1, tx2, q5, gate, decide_true, decide_false, Bool.not_true, Bool.not_false, bTT, bTF, bFT, bFF, ↓preB, postB, genB, ↓reduceIte, Nat.reduceEqDiff, Int.reduceToNat, Int.reduceLE, Int.reduceLT, Nat.reduceAdd, Nat.reduceLeDiff, intBin, strBin, unD, extractD, lit1, lit2, lit3, keptD, boxR, D.one, D.pub1, D.cells, splice, cutOwn]
      refine Fn.useS hX ?_
      cases q6 : textB l[i]
      · simp -dsimp only [c0, w1, hl0, hi, hil, hn, hati, hi4, e1i, e0i, e3i, tx1, tx2, q5, q6, gate, decide_true, decide_false, Bool.not_true, Bool.not_false, bTT, bTF, bFT, bFF, ↓preB, postB, genB, ↓reduceIte, Nat.reduceEqDiff, Int.reduceToNat, Int.reduceLE, Int.reduceLT, Nat.reduceAdd, Nat.reduceLeDiff, intBin, strBin, unD, extractD, lit1, lit2, lit3, keptD, boxR, D.one, D.pub1, D.cells, splice, cutOwn]
        rfl
      · simp -dsimp only [c0, w1, hl0, hi, hil, hn, hati, hi4, e1i, e0i, e3i, tx1, tx2, q5, q6, gate, decide_true, decide_false, Bool.not_true, Bool.not_false, bTT, bTF, bFT, bFF, ↓preB, postB, genB, ↓reduceIte, Nat.reduceEqDiff, Int.reduceToNat, Int.reduceLE, Int.reduceLT, Nat.reduceAdd, Nat.reduceLeDiff, intBin, strBin, unD, extractD, lit1, lit2, lit3, keptD, boxR, D.one, D.pub1, D.cells, splice, cutOwn]
        refine Fn.useS (isSmallR_c _) ?_
        cases q7 : isSmallI (byteAt l[i].text 0)
        · simp -dsimp only [c0, w1, hl0, hi, hil, hn, hati, hi4, e1i, e0i, e3i, tx1, tx2, q5, q6, q7, gate, decide_true, decide_false, Bool.not_true, Bool.not_false, bTT, bTF, bFT, bFF, ↓preB, postB, genB, ↓reduceIte, Nat.reduceEqDiff, Int.reduceToNat, Int.reduceLE, Int.reduceLT, Nat.reduceAdd, Nat.reduceLeDiff, intBin, strBin, unD, extractD, lit1, lit2, lit3, keptD, boxR, D.one, D.pub1, D.cells, splice, cutOwn]
          rfl
        · simp -dsimp only [c0, w1, hl0, hi, hil, hn, hati, hi4, e1i, e0i, e3i, tx1, tx2, q5, q6, q7, gate, decide_true, decide_false, Bool.not_true, Bool.not_false, bTT, bTF, bFT, bFF, ↓preB, postB, genB, ↓reduceIte, Nat.reduceEqDiff, Int.reduceToNat, Int.reduceLE, Int.reduceLT, Nat.reduceAdd, Nat.reduceLeDiff, intBin, strBin, unD, extractD, lit1, lit2, lit3, keptD, boxR, D.one, D.pub1, D.cells, splice, cutOwn]
          rfl
    · simp -dsimp only [c0, w1, hl0, hi, hil, hn, hati, hi4, e1i, e0i, e3i, tx1, tx2, q5, gate, decide_true, decide_false, Bool.not_true, Bool.not_false, bTT, bTF, bFT, bFF, ↓preB, postB, genB, ↓reduceIte, Nat.reduceEqDiff, Int.reduceToNat, Int.reduceLE, Int.reduceLT, Nat.reduceAdd, Nat.reduceLeDiff, intBin, strBin, unD, extractD, lit1, lit2, lit3, keptD, boxR, D.one, D.pub1, D.cells, splice, cutOwn]
      rfl
  · rintro e ⟨g35, g1, g0⟩
    have hlt : decide (l[i - 1].to < l[i].fr) = !(l[i].fr == l[i - 1].to) := by
      cases q5 : (l[i].fr == l[i - 1].to)
      · rw [decide_eq_true]
        · rfl
        · have : ¬ l[i].fr = l[i - 1].to := by simpa using q5
          omega
      · rw [decide_eq_false]
        · rfl
        · have : l[i].fr = l[i - 1].to := by simpa using q5
          omega
    have hst2 : startB l i = (signB q2 (l.getD (backK l (i - 1)) tk0) && !(l[i].fr == l[i - 1].to || (textB l[i] && isSmallI (byteAt l[i].text 0)))) := by
      rw [hst, hlt, Bool.not_or, Bool.and_assoc]
    clear hst hlt
    generalize (l[i].fr == l[i - 1].to || (textB l[i] && isSmallI (byteAt l[i].text 0))) = N at *
    cases N
    · rw [Bool.not_false, Bool.and_true] at hst2
      rw [hst2]
      simp -dsimp only [g35, g1, g0, w1, gate, decide_true, decide_false, Bool.not_true, Bool.not_false, bTT, bTF, bFT, bFF, ↓preB, postB, genB, ↓reduceIte, Nat.reduceEqDiff, Int.reduceToNat, Int.reduceLE, Int.reduceLT, Nat.reduceAdd, Nat.reduceLeDiff, intBin, strBin, unD, extractD, lit1, lit2, lit3, keptD, boxR, D.one, D.pub1, D.cells, splice, cutOwn]
      refine pwp_loopJ 0 (fun e τ' => τ' = σ ∧ e 5 = .int .i64 (backK l (i - 1) : Nat) ∧ e 0 = .sl .no l.length (encTks l)) (fun k e τ' => k ≤ i - 1 ∧ backK l (i - 1) = backK l k ∧ τ' = σ ∧ e 5 = .int .i64 (k : Nat) ∧ e 0 = .sl .no l.length (encTks l)) (fun k => k) (i - 1) ?_ ?_ ?_
      · simp only [upd_apply, g1, g0, w1, Nat.reduceEqDiff, if_true, if_false]
        exact ⟨Nat.le_refl _, (by first | trivial | rfl | omega), (by first | trivial | rfl | omega), (by first | trivial | rfl | omega), (by first | trivial | rfl | omega)⟩
      · clear g35 g1 g0
        rintro k e τ' ⟨hk, hb, rfl, h5, h0⟩
        have hkl : k < l.length := by omega
        have hatk := encTks_at hkl []
        rw [List.append_nil] at hatk
        have hk4 : 4 ≤ (encTks l).length - k * 4 := by rw [encTks_len]; omega
        cases k with
        | zero =>
          simp -dsimp only [h5, h0, show ¬ (0 : Int) < ((0 : Nat) : Int) by decide, exitR_exit, gate, decide_true, decide_false, Bool.not_true, Bool.not_false, bTT, bTF, bFT, bFF, ↓preB, postB, genB, ↓reduceIte, Nat.reduceEqDiff, Int.reduceToNat, Int.reduceLE, Int.reduceLT, Nat.reduceAdd, Nat.reduceLeDiff, intBin, strBin, unD, extractD, lit1, lit2, lit3, keptD, boxR, D.one, D.pub1, D.cells, splice, cutOwn]
          refine draw_s ?_
          simp -dsimp only [h5, h0, show ¬ (0 : Int) < ((0 : Nat) : Int) by decide, exitR_exit, gate, decide_true, decide_false, Bool.not_true, Bool.not_false, bTT, bTF, bFT, bFF, ↓preB, postB, genB, ↓reduceIte, Nat.reduceEqDiff, Int.reduceToNat, Int.reduceLE, Int.reduceLT, Nat.reduceAdd, Nat.reduceLeDiff, intBin, strBin, unD, extractD, lit1, lit2, lit3, keptD, boxR, D.one, D.pub1, D.cells, splice, cutOwn]
          rw [hb]
          rfl
        | succ k =>
          have kp : (0 : Int) < ((k + 1 : Nat) : Int) := by omega
          have hkl' : k < l.length := by omega
          have w2 : IntKind.i64.wrap (((k + 1 : Nat) : Int) - 1) = ((k : Nat) : Int) := by rw [wrap64_in (by omega) (by omega)]; omega
          have e1k := encTks_1 hkl'
          have e0k := encTks_0 hkl
          have hS := isOne_c l[k + 1] 34 41 39 (hw _ (List.getElem_mem hkl))
          simp only [encTk] at hS hatk
          rw [backK, getD_at hkl, getD_at hkl'] at hb
          simp -dsimp only [h5, h0, kp, exitR_exit, gate, decide_true, decide_false, Bool.not_true, Bool.not_false, bTT, bTF, bFT, bFF, ↓preB, postB, genB, ↓reduceIte, Nat.reduceEqDiff, Int.reduceToNat, Int.reduceLE, Int.reduceLT, Nat.reduceAdd, Nat.reduceLeDiff, intBin, strBin, unD, extractD, lit1, lit2, lit3, keptD, boxR, D.one, D.pub1, D.cells, splice, cutOwn]
          refine draw_s ?_
          simp -dsimp only [h5, h0, kp, hkl, hl0, hatk, hk4, exitR_exit, gate, decide_true, decide_false, Bool.not_true, Bool.not_false, bTT, bTF, bFT, bFF, ↓preB, postB, genB, ↓reduceIte, Nat.reduceEqDiff, Int.reduceToNat, Int.reduceLE, Int.reduceLT, Nat.reduceAdd, Nat.reduceLeDiff, intBin, strBin, unD, extractD, lit1, lit2, lit3, keptD, boxR, D.one, D.pub1, D.cells, splice, cutOwn]
          refine Fn.useS hS ?_
          unfold q1 at hb
          cases c1 : signB ⟨#[34, 41, 39]⟩ l[k + 1]
          · rw [c1, Bool.false_and, if_neg (by decide)] at hb
            simp -dsimp only [h5, h0, kp, hkl, hkl', hl0, hatk, hk4, w2, e1k, e0k, exitR_exit, gate, decide_true, decide_false, Bool.not_true, Bool.not_false, bTT, bTF, bFT, bFF, ↓preB, postB, genB, ↓reduceIte, Nat.reduceEqDiff, Int.reduceToNat, Int.reduceLE, Int.reduceLT, Nat.reduceAdd, Nat.reduceLeDiff, intBin, strBin, unD, extractD, lit1, lit2, lit3, keptD, boxR, D.one, D.pub1, D.cells, splice, cutOwn]
            rw [hb]
          · rw [c1, Bool.true_and] at hb
            cases c2 : (l[k].to == l[k + 1].fr)
            · rw [c2, if_neg (by decide)] at hb
              simp -dsimp only [h5, h0, kp, hkl, hkl', hl0, hatk, hk4, w2, e1k, e0k, c2, exitR_exit, gate, decide_true, decide_false, Bool.not_true, Bool.not_false, bTT, bTF, bFT, bFF, ↓preB, postB, genB, ↓reduceIte, Nat.reduceEqDiff, Int.reduceToNat, Int.reduceLE, Int.reduceLT, Nat.reduceAdd, Nat.reduceLeDiff, intBin, strBin, unD, extractD, lit1, lit2, lit3, keptD, boxR, D.one, D.pub1, D.cells, splice, cutOwn]
              rw [hb]
            · rw [c2, if_pos rfl] at hb
              simp -dsimp only [h5, h0, kp, hkl, hkl', hl0, hatk, hk4, w2, e1k, e0k, c2, exitR_exit, gate, decide_true, decide_false, Bool.not_true, Bool.not_false, bTT, bTF, bFT, bFF, ↓preB, postB, genB, ↓reduceIte, Nat.reduceEqDiff, Int.reduceToNat, Int.reduceLE, Int.reduceLT, Nat.reduceAdd, Nat.reduceLeDiff, intBin, strBin, unD, extractD, lit1, lit2, lit3, keptD, boxR, D.one, D.pub1, D.cells, splice, cutOwn]
              exact ⟨k, ⟨by omega, hb, rfl⟩, Nat.lt_succ_self _⟩
      · clear g35 g1 g0
        rintro e τ' ⟨rfl, h5, h0⟩
        have hbl := backK_le l (i - 1)
        generalize backK l (i - 1) = k at *
        have hkl : k < l.length := by omega
        rw [getD_at hkl]
        have hatk := encTks_at hkl []
        rw [List.append_nil] at hatk
        have hk4 : 4 ≤ (encTks l).length - k * 4 := by rw [encTks_len]; omega
        have hS := isOne_c l[k] 46 33 63 (hw _ (List.getElem_mem hkl))
        simp only [encTk] at hS hatk
        simp -dsimp only [h5, h0, hkl, hl0, hatk, hk4, gate, decide_true, decide_false, Bool.not_true, Bool.not_false, bTT, bTF, bFT, bFF, ↓preB, postB, genB, ↓reduceIte, Nat.reduceEqDiff, Int.reduceToNat, Int.reduceLE, Int.reduceLT, Nat.reduceAdd, Nat.reduceLeDiff, intBin, strBin, unD, extractD, lit1, lit2, lit3, keptD, boxR, D.one, D.pub1, D.cells, splice, cutOwn]
        refine Fn.use hS ?_
        simp -dsimp only [↓preB, postB, genB, ↓reduceIte, Nat.reduceEqDiff, Int.reduceToNat, Int.reduceLE, Int.reduceLT, Nat.reduceAdd, Nat.reduceLeDiff, intBin, strBin, unD, extractD, lit1, lit2, lit3, keptD, boxR, D.one, D.pub1, D.cells, splice, cutOwn]
        exact Ret.is rfl
    · rw [Bool.not_true, Bool.and_false] at hst2
      rw [hst2]
      simp -dsimp only [g35, g1, g0, gate, decide_true, decide_false, Bool.not_true, Bool.not_false, bTT, bTF, bFT, bFF, ↓preB, postB, genB, ↓reduceIte, Nat.reduceEqDiff, Int.reduceToNat, Int.reduceLE, Int.reduceLT, Nat.reduceAdd, Nat.reduceLeDiff, intBin, strBin, unD, extractD, lit1, lit2, lit3, keptD, boxR, D.one, D.pub1, D.cells, splice, cutOwn]
      exact Ret.is rfl
end Go.Proofs.YtapkbkniooleaaaGreat.Vs

/- numbers of YtapkbkniooleaaaGreat -/
namespace Go.Proofs.YtapkbkniooleaaaGreat.Vs
set_option linter.unusedVariables false
set_option linter.unusedSimpArgs false
set_option maxRecDepth 100000
def startsW (l : List Tok) : List Bool := (List.range l.length).map (startB l)
def encB (l : List Bool) : List D := l.map .bool
theorem bel_B {N : Nat} (l : List Bool) : ∀ d ∈ encB l, Bel N d := fun d hd => by
  obtain ⟨n, _, rfl⟩ := List.mem_map.1 hd
  exact .bool _
def stW (c : Cut) (s : ByteArray) : List Bool × Int := if (tokW c s).2 ≠ 0 then ([], (tokW c s).2) else (startsW (tokW c s).1, 0)
def encSb (r : List Bool × Int) : D := .tup [.sl .no r.1.length (encB r.1), .int .i64 r.2]
theorem tokW_seg (c : Cut) (s : ByteArray) : (tokW c s).2 = 0 → Seg s 0 (tokW c s).1 s.size := fun h => by
  have hs := cut_seg c s s.size 0 (Nat.zero_le _) (by omega)
  unfold tokW at h ⊢
  split
  · rename_i h1; rw [if_pos h1] at h; exact absurd h h1
  · rename_i h1
    rw [if_neg h1] at h
    split
    · rename_i h2; rw [if_pos h2] at h; exact absurd h (by decide)
    · rename_i h2
      rw [if_neg h2] at h
      split
      · rename_i h3; rw [if_pos h3] at h; exact absurd h (by decide)
      · exact hs
theorem tokW_nil (c : Cut) (s : ByteArray) : (tokW c s).2 ≠ 0 → (tokW c s).1 = [] := fun h => by
  unfold tokW at h ⊢
  split
  · rfl
  · rename_i h1
    rw [if_neg h1] at h
    split
    · rfl
    · rename_i h2
      rw [if_neg h2] at h
      split
      · rfl
      · rename_i h3; rw [if_neg h3] at h; exact absurd rfl h
theorem tokW_ord (c : Cut) (s : ByteArray) : ∀ (i : Nat) (h : i + 1 < (tokW c s).1.length), ((tokW c s).1[i]'(by omega)).to ≤ (tokW c s).1[i + 1].fr := by
  by_cases h0 : (tokW c s).2 = 0
  · exact (tokW_seg c s h0).adj
  · have := tokW_nil c s h0
    intro i h
    rw [this] at h
    simp at h
theorem bs31 (a : Bool) (nx : Nat) : buildSliceR Zs 0 31 1 [(0, .bool a)] nx = some (.sl .full 1 [.bool a], .keep) := by rfl
theorem bsN (a : Int) (nx : Nat) : buildSliceR Zs 0 27 1 [(0, .int .i64 a)] nx = some (.sl .full 1 [.int .i64 a], .keep) := by rfl
theorem told2 {N : Nat} {σ τ : Heap} {d d' : D} {e : Int} (h : Told σ τ d d') : Told σ τ (.tup [d, .int .i64 e]) (.tup [d', .int .i64 e]) := .tup _ _ rfl fun i h1 h2 => by
  match i, h1, h2 with
  | 0, _, _ => exact h
  | 1, _, _ => exact .refl _
theorem bel2 {N : Nat} {d : D} {e : Int} (h : Bel N d) : Bel N (.tup [d, .int .i64 e]) := .tup _ fun x hx => by
  simp only [List.mem_cons, List.not_mem_nil, or_false] at hx
  rcases hx with rfl | rfl
  · exact h
  · exact .int _ _
theorem told_nil {σ τ : Heap} : Told σ τ (.sl .nil 0 []) (.sl .no 0 []) := .sl .nil .no 0 [] _ (.inl rfl) rfl fun i h => absurd h (Nat.not_lt_zero _)
theorem StartsR_c (c : Cut) (s : ByteArray) : Fn Zs 9 [encC c, .str s] (encSb (stW c s)) := by
  refine fn_of (Z := Zs) ok9 fun σ hcl hbl => ?_
  simp -dsimp only [L9, encC, ↓preB, postB, genB, ↓reduceIte, Nat.reduceEqDiff, Int.reduceToNat, Int.reduceLE, Int.reduceLT, Nat.reduceAdd, Nat.reduceLeDiff, intBin, strBin, unD, extractD, lit1, lit2, lit3, keptD, boxR, D.one, D.pub1, D.cells, splice, cutOwn]
  obtain ⟨H, hH⟩ : ∃ H, H = σ.new (.cells 24 (cellsC c)) := ⟨_, rfl⟩
  have hcl1 : Closed H := by rw [hH]; exact hcl.new (bel_C c)
  have hle1 : HLe σ H := by rw [hH]; exact HLe.self_new _ hcl
  have hg1 : H.get σ.next = some (.cells 24 (cellsC c)) := by rw [hH]; exact Heap.new_same _ _
  rw [← hH]
  clear hH
  have hlen : (cellsC c).length = 4 := rfl
  have htk : (cellsC c).take 4 = cellsC c := rfl
  have hT := TokensR_c c s
  obtain ⟨w1, w2⟩ := tokW_wf c s
  have ho := tokW_ord c s
  have hv : stW c s = (startsW (tokW c s).1, (tokW c s).2) := by
    unfold stW
    by_cases h0 : (tokW c s).2 = 0
    · rw [if_neg (by simpa using h0), h0]
    · rw [if_pos h0, tokW_nil c s h0]; rfl
  rw [hv]
  have hSt : ∀ i, i < (tokW c s).1.length → Fn Zs 16 [.sl .no (tokW c s).1.length (encTks (tokW c s).1), .int .i64 i] (.bool (startB (tokW c s).1 i)) := fun i h => startsR_c _ i h (by omega) w2 ho
  clear hv ho w2
  unfold encC encTok at hT
  simp -dsimp only [hg1, hlen, htk, List.drop_zero, ↓preB, postB, genB, ↓reduceIte, Nat.reduceEqDiff, Int.reduceToNat, Int.reduceLE, Int.reduceLT, Nat.reduceAdd, Nat.reduceLeDiff, intBin, strBin, unD, extractD, lit1, lit2, lit3, keptD, boxR, D.one, D.pub1, D.cells, splice, cutOwn]
  refine Fn.use hT ?_
  generalize (tokW c s).1 = l at *
  generalize (tokW c s).2 = e at *
  simp -dsimp only [List.getElem?_cons_zero, List.getElem?_cons_succ, ↓preB, postB, genB, ↓reduceIte, Nat.reduceEqDiff, Int.reduceToNat, Int.reduceLE, Int.reduceLT, Nat.reduceAdd, Nat.reduceLeDiff, intBin, strBin, unD, extractD, lit1, lit2, lit3, keptD, boxR, D.one, D.pub1, D.cells, splice, cutOwn]
  refine pwp_loopJ 0 (fun e' τ => Acc 4 1 H (startsW l).length (encB (startsW l)) (e' 8) τ ∧ e' 7 = .int .i64 e) (fun i env τ => i ≤ l.length ∧ Acc 4 1 H i (encB ((List.range i).map (startB l))) (env 8) τ ∧ env 9 = .int .i64 (i:Nat) ∧ env 7 = .int .i64 e ∧ env 6 = .sl .no l.length (encTks l)) (fun i => l.length - i) 0 ?_ ?_ ?_
  · simp only [upd_apply, envOf_apply, Nat.reduceEqDiff, if_true, if_false]
    exact ⟨Nat.zero_le _, .nil (HLe.refl _), (by first | trivial | rfl | omega), (by first | trivial | rfl | omega), (by first | trivial | rfl | omega)⟩
  · rintro i env τ ⟨hi, hA, h9, h7, h6⟩
    rcases Nat.lt_or_ge i l.length with hlt | hge
    · have hn : (i : Int) < l.length := by omega
      have hS := hSt i hlt
      simp -dsimp only [h9, h7, h6, hn, exitR_exit, ↓preB, postB, genB, ↓reduceIte, Nat.reduceEqDiff, Int.reduceToNat, Int.reduceLE, Int.reduceLT, Nat.reduceAdd, Nat.reduceLeDiff, intBin, strBin, unD, extractD, lit1, lit2, lit3, keptD, boxR, D.one, D.pub1, D.cells, splice, cutOwn]
      intro _
      refine Fn.use hS ?_
      simp -dsimp only [h9, h7, h6, hn, bs31, exitR_exit, ↓preB, postB, genB, ↓reduceIte, Nat.reduceEqDiff, Int.reduceToNat, Int.reduceLE, Int.reduceLT, Nat.reduceAdd, Nat.reduceLeDiff, intBin, strBin, unD, extractD, lit1, lit2, lit3, keptD, boxR, D.one, D.pub1, D.cells, splice, cutOwn]
      refine hA.append hcl1 tz31 rfl tz4 rfl rfl rfl (by decide) (by simp [encB]) (fedBy_sl (m := 1) tz31 rfl rfl) (by simp only []; omega) (by simp only [big]; omega) fun d6 τ6 hA6 => ?_
      simp -dsimp only [h9, h7, h6, exitR_exit, ↓preB, postB, genB, ↓reduceIte, Nat.reduceEqDiff, Int.reduceToNat, Int.reduceLE, Int.reduceLT, Nat.reduceAdd, Nat.reduceLeDiff, intBin, strBin, unD, extractD, lit1, lit2, lit3, keptD, boxR, D.one, D.pub1, D.cells, splice, cutOwn]
      refine ⟨i + 1, ⟨by omega, ?_, wrap64_succ (by simp only [big]; omega)⟩, by omega⟩
      rw [List.range_succ, List.map_append, encB, List.map_append]
      exact hA6
    · have hn : ¬ (i : Int) < l.length := by omega
      have : i = l.length := by omega
      subst this
      simp -dsimp only [h9, h7, h6, hn, exitR_exit, ↓preB, postB, genB, ↓reduceIte, Nat.reduceEqDiff, Int.reduceToNat, Int.reduceLE, Int.reduceLT, Nat.reduceAdd, Nat.reduceLeDiff, intBin, strBin, unD, extractD, lit1, lit2, lit3, keptD, boxR, D.one, D.pub1, D.cells, splice, cutOwn]
      intro _
      have e1 : (startsW l).length = l.length := by simp [startsW]
      rw [e1]
      exact hA
  · rintro env τ ⟨hA, h7⟩
    simp -dsimp only [h7, ↓preB, postB, genB, ↓reduceIte, Nat.reduceEqDiff, Int.reduceToNat, Int.reduceLE, Int.reduceLT, Nat.reduceAdd, Nat.reduceLeDiff, intBin, strBin, unD, extractD, lit1, lit2, lit3, keptD, boxR, D.one, D.pub1, D.cells, splice, cutOwn]
    exact Ret.less (hle1.trans hA.le) hcl (told2 (N := 0) hA.told) (bel2 (.no (bel_B _)))
theorem SentencesR_c (c : Cut) (s : ByteArray) : Fn Zs 7 [encC c, .str s] (encSt (sentW c s)) := by
  refine fn_of (Z := Zs) ok7 fun σ hcl hbl => ?_
  simp -dsimp only [L7, encC, ↓preB, postB, genB, ↓reduceIte, Nat.reduceEqDiff, Int.reduceToNat, Int.reduceLE, Int.reduceLT, Nat.reduceAdd, Nat.reduceLeDiff, intBin, strBin, unD, extractD, lit1, lit2, lit3, keptD, boxR, D.one, D.pub1, D.cells, splice, cutOwn]
  obtain ⟨H, hH⟩ : ∃ H, H = σ.new (.cells 24 (cellsC c)) := ⟨_, rfl⟩
  have hcl1 : Closed H := by rw [hH]; exact hcl.new (bel_C c)
  have hle1 : HLe σ H := by rw [hH]; exact HLe.self_new _ hcl
  have hg1 : H.get σ.next = some (.cells 24 (cellsC c)) := by rw [hH]; exact Heap.new_same _ _
  rw [← hH]
  clear hH
  have hlen : (cellsC c).length = 4 := rfl
  have htk : (cellsC c).take 4 = cellsC c := rfl
  have hT := StartsR_c c s
  have w1 := (tokW_wf c s).1
  have hv : sentW c s = (beginsW (tokW c s).1, (tokW c s).2) := by
    unfold sentW
    by_cases h0 : (tokW c s).2 = 0
    · rw [if_neg (by simpa using h0), h0]
    · rw [if_pos h0, tokW_nil c s h0]; rfl
  have hv2 : stW c s = (startsW (tokW c s).1, (tokW c s).2) := by
    unfold stW
    by_cases h0 : (tokW c s).2 = 0
    · rw [if_neg (by simpa using h0), h0]
    · rw [if_pos h0, tokW_nil c s h0]; rfl
  rw [hv]
  rw [hv2] at hT
  unfold encC encSb at hT
  simp -dsimp only [hg1, hlen, htk, List.drop_zero, ↓preB, postB, genB, ↓reduceIte, Nat.reduceEqDiff, Int.reduceToNat, Int.reduceLE, Int.reduceLT, Nat.reduceAdd, Nat.reduceLeDiff, intBin, strBin, unD, extractD, lit1, lit2, lit3, keptD, boxR, D.one, D.pub1, D.cells, splice, cutOwn]
  refine Fn.use hT ?_
  generalize (tokW c s).1 = l at *
  generalize (tokW c s).2 = e at *
  have hl0 : (startsW l).length = l.length := by simp [startsW]
  simp -dsimp only [hl0, List.getElem?_cons_zero, List.getElem?_cons_succ, ↓preB, postB, genB, ↓reduceIte, Nat.reduceEqDiff, Int.reduceToNat, Int.reduceLE, Int.reduceLT, Nat.reduceAdd, Nat.reduceLeDiff, intBin, strBin, unD, extractD, lit1, lit2, lit3, keptD, boxR, D.one, D.pub1, D.cells, splice, cutOwn]
  refine pwp_loopJ 0 (fun e' τ => Acc 3 1 H (beginsW l).length (encN (beginsW l)) (e' 8) τ ∧ e' 7 = .int .i64 e) (fun i env τ => i ≤ l.length ∧ Acc 3 1 H ((List.range i).filter (startB l)).length (encN ((List.range i).filter (startB l))) (env 8) τ ∧ env 9 = .int .i64 (i:Nat) ∧ env 7 = .int .i64 e ∧ env 6 = .sl .no l.length (encB (startsW l))) (fun i => l.length - i) 0 ?_ ?_ ?_
  · simp only [upd_apply, envOf_apply, Nat.reduceEqDiff, if_true, if_false]
    exact ⟨Nat.zero_le _, .nil (HLe.refl _), (by first | trivial | rfl | omega), (by first | trivial | rfl | omega), (by first | trivial | rfl | omega)⟩
  · rintro i env τ ⟨hi, hA, h9, h7, h6⟩
    rcases Nat.lt_or_ge i l.length with hlt | hge
    · have hn : (i : Int) < l.length := by omega
      have hrg : (List.range (i + 1)).filter (startB l) = (List.range i).filter (startB l) ++ if startB l i = true then [i] else [] := by
        rw [List.range_succ, List.filter_append]
        congr 1
        cases h : startB l i <;> simp [List.filter, h]
      have hfl : ((List.range i).filter (startB l)).length ≤ i := by have := List.length_filter_le (startB l) (List.range i); simpa using this
      have hce : (encN ((List.range i).filter (startB l))).length = ((List.range i).filter (startB l)).length := List.length_map ..
      have hx : (encB (startsW l))[i]? = some (.bool (startB l i)) := by simp [encB, startsW, hlt]
      have hel : (encB (startsW l)).length = l.length := by simp [encB, startsW]
      have hp : 0 < l.length := by omega
      have wi := wrap64_succ (k := i) (by simp only [big]; omega)
      generalize (List.range i).filter (startB l) = B at *
      cases q : startB l i
      · rw [q, if_neg (by decide), List.append_nil] at hrg
        rw [q] at hx
        simp -dsimp only [h9, h7, h6, hn, hlt, hx, hel, hp, exitR_exit, ↓preB, postB, genB, ↓reduceIte, Nat.reduceEqDiff, Int.reduceToNat, Int.reduceLE, Int.reduceLT, Nat.reduceAdd, Nat.reduceLeDiff, intBin, strBin, unD, extractD, lit1, lit2, lit3, keptD, boxR, D.one, D.pub1, D.cells, splice, cutOwn]
        intros
        refine ⟨i + 1, ⟨by omega, ?_, wi⟩, by omega⟩
        rw [hrg]
        exact hA
      · rw [q, if_pos rfl] at hrg
        rw [q] at hx
        simp -dsimp only [h9, h7, h6, hn, hlt, hx, hel, hp, bsN, exitR_exit, ↓preB, postB, genB, ↓reduceIte, Nat.reduceEqDiff, Int.reduceToNat, Int.reduceLE, Int.reduceLT, Nat.reduceAdd, Nat.reduceLeDiff, intBin, strBin, unD, extractD, lit1, lit2, lit3, keptD, boxR, D.one, D.pub1, D.cells, splice, cutOwn]
        intro _
        refine hA.append hcl1 tz27 rfl tz3 rfl rfl rfl (by decide) (by rw [hce]; simp) (fedBy_sl (m := 1) tz27 rfl rfl) (by simp only []; omega) (by simp only [big]; omega) fun d6 τ6 hA6 => ?_
        simp -dsimp only [h9, h7, h6, exitR_exit, ↓preB, postB, genB, ↓reduceIte, Nat.reduceEqDiff, Int.reduceToNat, Int.reduceLE, Int.reduceLT, Nat.reduceAdd, Nat.reduceLeDiff, intBin, strBin, unD, extractD, lit1, lit2, lit3, keptD, boxR, D.one, D.pub1, D.cells, splice, cutOwn]
        refine ⟨i + 1, ⟨by omega, ?_, wi⟩, by omega⟩
        rw [hrg, List.length_append, encN, List.map_append]
        exact hA6
    · have hn : ¬ (i : Int) < l.length := by omega
      have : i = l.length := by omega
      subst this
      simp -dsimp only [h9, h7, h6, hn, exitR_exit, ↓preB, postB, genB, ↓reduceIte, Nat.reduceEqDiff, Int.reduceToNat, Int.reduceLE, Int.reduceLT, Nat.reduceAdd, Nat.reduceLeDiff, intBin, strBin, unD, extractD, lit1, lit2, lit3, keptD, boxR, D.one, D.pub1, D.cells, splice, cutOwn]
      exact fun _ => hA
  · rintro env τ ⟨hA, h7⟩
    simp -dsimp only [h7, ↓preB, postB, genB, ↓reduceIte, Nat.reduceEqDiff, Int.reduceToNat, Int.reduceLE, Int.reduceLT, Nat.reduceAdd, Nat.reduceLeDiff, intBin, strBin, unD, extractD, lit1, lit2, lit3, keptD, boxR, D.one, D.pub1, D.cells, splice, cutOwn]
    exact Ret.less (hle1.trans hA.le) hcl (told2 (N := 0) hA.told) (bel2 (.no (bel_N _)))
end Go.Proofs.YtapkbkniooleaaaGreat.Vs

/- numbers of YtapkbkniooleaaaGreat -/
namespace Go.Proofs.YtapkbkniooleaaaGreat.Vs
set_option linter.unusedVariables false
set_option linter.unusedSimpArgs false
set_option maxRecDepth 100000
def hitsW (n : Nat) (B : List Nat) : List Bool := (List.range n).map fun j => decide (j ∈ B)
theorem hits_step (n : Nat) (B : List Nat) {m : Nat} (h : m < B.length) : encB (hitsW n (B.take (m + 1))) = (encB (hitsW n (B.take m))).set B[m] (.bool true) := by
  rw [List.take_succ_eq_append_getElem h]
  refine List.ext_getElem (by simp [encB, hitsW]) fun j h1 h2 => ?_
  rw [List.getElem_set]
  simp only [encB, hitsW, List.getElem_map, List.getElem_range, List.mem_append, List.mem_singleton]
  by_cases e : B[m] = j
  · rw [if_pos e]; simp [e]
  · rw [if_neg e]
    have e' : ¬ j = B[m] := fun h => e h.symm
    simp [e']
theorem hits_all (l : List Tok) : hitsW l.length (beginsW l) = startsW l := by
  unfold hitsW startsW
  refine List.map_congr_left fun j hj => ?_
  have := List.mem_range.1 hj
  simp [beginsW, this]
theorem Starts_c (c : Cut) (s : ByteArray) : Fn Zs 8 [encC c, .str s] (encSb (stW c s)) := by
  refine fn_of (Z := Zs) ok8 fun σ hcl hbl => ?_
  simp -dsimp only [L8, encC, ↓preB, postB, genB, ↓reduceIte, Nat.reduceEqDiff, Int.reduceToNat, Int.reduceLE, Int.reduceLT, Nat.reduceAdd, Nat.reduceLeDiff, intBin, strBin, unD, extractD, lit1, lit2, lit3, keptD, boxR, D.one, D.pub1, D.cells, splice, cutOwn]
  obtain ⟨H, hH⟩ : ∃ H, H = σ.new (.cells 24 (cellsC c)) := ⟨_, rfl⟩
  have hcl1 : Closed H := by rw [hH]; exact hcl.new (bel_C c)
  have hle1 : HLe σ H := by rw [hH]; exact HLe.self_new _ hcl
  have hg1 : H.get σ.next = some (.cells 24 (cellsC c)) := by rw [hH]; exact Heap.new_same _ _
  rw [← hH]
  clear hH
  have hlen : (cellsC c).length = 4 := rfl
  have htk : (cellsC c).take 4 = cellsC c := rfl
  have hT := Tokens_c c s
  obtain ⟨w1, w2⟩ := tokW_wf c s
  have hB := begins_c (tokW c s).1 (by omega) w2
  unfold stW
  unfold encC encTok at hT
  simp -dsimp only [hg1, hlen, htk, List.drop_zero, ↓preB, postB, genB, ↓reduceIte, Nat.reduceEqDiff, Int.reduceToNat, Int.reduceLE, Int.reduceLT, Nat.reduceAdd, Nat.reduceLeDiff, intBin, strBin, unD, extractD, lit1, lit2, lit3, keptD, boxR, D.one, D.pub1, D.cells, splice, cutOwn]
  refine Fn.use hT ?_
  clear w2
  generalize (tokW c s).1 = l at *
  generalize (tokW c s).2 = e at *
  by_cases e0 : e = 0
  · have c0 : (e != 0) = false := by rw [e0]; rfl
    rw [if_neg (by simpa using e0)]
    simp -dsimp only [c0, List.getElem?_cons_zero, List.getElem?_cons_succ, gate, decide_true, decide_false, Bool.not_true, Bool.not_false, bTT, bTF, bFT, bFF, ↓preB, postB, genB, ↓reduceIte, Nat.reduceEqDiff, Int.reduceToNat, Int.reduceLE, Int.reduceLT, Nat.reduceAdd, Nat.reduceLeDiff, intBin, strBin, unD, extractD, lit1, lit2, lit3, keptD, boxR, D.one, D.pub1, D.cells, splice, cutOwn]
    intro hlb
    have hBl : (beginsW l).length ≤ l.length := by have := List.length_filter_le (startB l) (List.range l.length); simpa [beginsW] using this
    have hmem : ∀ j ∈ beginsW l, j < l.length := fun j hj => List.mem_range.1 (List.mem_filter.1 hj).1
    have hrep : List.replicate l.length (D.bool false) = encB (hitsW l.length ((beginsW l).take 0)) := by
      refine List.ext_getElem (by simp [encB, hitsW]) fun j h1 h2 => ?_
      simp [encB, hitsW]
    rw [hrep]
    refine ⟨⟨Int.le_refl _, by omega, by simp only [big]; omega⟩, Fn.use hB ?_⟩
    simp -dsimp only [c0, List.getElem?_cons_zero, List.getElem?_cons_succ, gate, decide_true, decide_false, Bool.not_true, Bool.not_false, bTT, bTF, bFT, bFF, ↓preB, postB, genB, ↓reduceIte, Nat.reduceEqDiff, Int.reduceToNat, Int.reduceLE, Int.reduceLT, Nat.reduceAdd, Nat.reduceLeDiff, intBin, strBin, unD, extractD, lit1, lit2, lit3, keptD, boxR, D.one, D.pub1, D.cells, splice, cutOwn]
    intro _
    have hel : ∀ B, (encB (hitsW l.length B)).length = l.length := fun B => by simp [encB, hitsW]
    refine pwp_loopJ 0 (fun e' τ => τ = H.new (.cells 4 (encB (startsW l))) ∧ e' 8 = .row H.next 0 l.length (some l.length) 1) (fun m env τ => m ≤ (beginsW l).length ∧ τ = H.new (.cells 4 (encB (hitsW l.length ((beginsW l).take m)))) ∧ env 26 = .int .i64 (m:Nat) ∧ env 25 = .int .i64 (beginsW l).length ∧ env 24 = .sl .no (beginsW l).length (encN (beginsW l)) ∧ env 8 = .row H.next 0 l.length (some l.length) 1) (fun m => (beginsW l).length - m) 0 ?_ ?_ ?_
    · simp only [upd_apply, envOf_apply, Nat.reduceEqDiff, if_true, if_false]
      exact ⟨Nat.zero_le _, (by first | trivial | rfl | omega), (by first | trivial | rfl | omega), (by first | trivial | rfl | omega), (by first | trivial | rfl | omega), (by first | trivial | rfl | omega)⟩
    · rintro m env τ ⟨hm, rfl, h26, h25, h24, h8⟩
      rcases Nat.lt_or_ge m (beginsW l).length with hlt | hge
      · have hn : (m : Int) < (beginsW l).length := by omega
        have hx : (encN (beginsW l))[m]? = some (.int .i64 ((beginsW l)[m] : Nat)) := by simp [encN, hlt]
        have hel2 : (encN (beginsW l)).length = (beginsW l).length := by simp [encN]
        have hst := hits_step l.length (beginsW l) hlt
        have hj := hmem _ (List.getElem_mem hlt)
        have hp : 0 < (beginsW l).length := by omega
        have hg2 : (H.new (.cells 4 (encB (hitsW l.length ((beginsW l).take m))))).get H.next = some (.cells 4 (encB (hitsW l.length ((beginsW l).take m)))) := Heap.new_same _ _
        generalize (beginsW l)[m] = j at hx hst hj
        have hjn : (j : Int) < l.length := by omega
        simp -dsimp only [h26, h25, h24, h8, hn, hlt, hx, hel, hel2, hp, hg2, hj, hjn, Nat.zero_add, exitR_exit, ↓preB, postB, genB, ↓reduceIte, Nat.reduceEqDiff, Int.reduceToNat, Int.reduceLE, Int.reduceLT, Nat.reduceAdd, Nat.reduceLeDiff, intBin, strBin, unD, extractD, lit1, lit2, lit3, keptD, boxR, D.one, D.pub1, D.cells, splice, cutOwn]
        refine ⟨by omega, m + 1, ⟨by omega, ?_, wrap64_succ (by simp only [big]; omega)⟩, by omega⟩
        rw [hst, List.set_eq_take_append_cons_drop, if_pos (by rw [hel]; exact hj)]
        simp
      · have hn : ¬ (m : Int) < (beginsW l).length := by omega
        have : m = (beginsW l).length := by omega
        subst this
        rw [List.take_length, hits_all]
        simp -dsimp only [h26, h25, h24, h8, hn, exitR_exit, ↓preB, postB, genB, ↓reduceIte, Nat.reduceEqDiff, Int.reduceToNat, Int.reduceLE, Int.reduceLT, Nat.reduceAdd, Nat.reduceLeDiff, intBin, strBin, unD, extractD, lit1, lit2, lit3, keptD, boxR, D.one, D.pub1, D.cells, splice, cutOwn]
    · rintro env τ ⟨rfl, h8⟩
      simp -dsimp only [h8, ↓preB, postB, genB, ↓reduceIte, Nat.reduceEqDiff, Int.reduceToNat, Int.reduceLE, Int.reduceLT, Nat.reduceAdd, Nat.reduceLeDiff, intBin, strBin, unD, extractD, lit1, lit2, lit3, keptD, boxR, D.one, D.pub1, D.cells, splice, cutOwn]
      have e1 : (startsW l).length = l.length := by simp [startsW]
      refine Ret.less (hle1.trans (HLe.self_new _ hcl1)) hcl (told2 (N := 0) ?_) (bel2 (.no (bel_B _)))
      rw [show (startsW l, (0 : Int)).1.length = l.length from e1]
      refine Told.rowI (e := 4) (cs := encB (startsW l)) (Heap.new_same _ _) ?_ (by simp [encB, startsW])
      cases hx : σ.get H.next with
      | none => rfl
      | some o => exact absurd (hcl.lt _ _ hx) (by have := hle1.next; omega)
  · have c0 : (e != 0) = true := by simpa using e0
    rw [if_pos e0]
    simp -dsimp only [c0, List.getElem?_cons_zero, List.getElem?_cons_succ, gate, decide_true, decide_false, Bool.not_true, Bool.not_false, bTT, bTF, bFT, bFF, ↓preB, postB, genB, ↓reduceIte, Nat.reduceEqDiff, Int.reduceToNat, Int.reduceLE, Int.reduceLT, Nat.reduceAdd, Nat.reduceLeDiff, intBin, strBin, unD, extractD, lit1, lit2, lit3, keptD, boxR, D.one, D.pub1, D.cells, splice, cutOwn]
    exact Ret.less hle1 hcl (told2 (N := 0) told_nil) (bel2 (.no (bel_B [])))
end Go.Proofs.YtapkbkniooleaaaGreat.Vs
