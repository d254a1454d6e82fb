/- numbers of Ytapkbkniooleaaa -/
import Derived.Test.YtapkbkniooleaaaTkO
import Derived.Test.YtapkbkniooleaaaTkF
namespace Go.Proofs.Ytapkbkniooleaaa.Vs
set_option linter.unusedVariables false
set_option linter.unusedSimpArgs false
set_option maxRecDepth 100000
/-- A token as it comes: it has a text, a sign one byte. -/
def WFT (t : Tok) : Prop := 1 ≤ t.text.size ∧ (t.kind = 2 → t.text.size = 1)
def signB (q : ByteArray) (t : Tok) : Bool := t.kind == 2 && decide (0 ≤ Lib.indexByte q.data.toList (t.text.data.toList.headD 0))
def textB (t : Tok) : Bool := t.kind == 0 || (t.kind == 3 || t.kind == 4)
def tk0 : Tok := ⟨0, 0, 0, ⟨#[]⟩⟩
def q1 : ByteArray := ⟨#[34, 41, 39]⟩
def q2 : ByteArray := ⟨#[46, 33, 63]⟩
/-- Back over quotes and brackets. -/
def backK (l : List Tok) : Nat → Nat
  | 0 => 0
  | k + 1 => if (signB q1 (l.getD (k + 1) tk0) && (l.getD k tk0).to == (l.getD (k + 1) tk0).fr) = true then backK l k else k + 1
def startB (l : List Tok) (i : Nat) : Bool := if i = 0 then true else signB q2 (l.getD (backK l (i - 1)) tk0) && decide ((l.getD (i - 1) tk0).to < (l.getD i tk0).fr) && !(textB (l.getD i tk0) && isSmallI (byteAt (l.getD i tk0).text 0))
/-- The numbers of tokens with which sentences begin. -/
def beginsW (l : List Tok) : List Nat := (List.range l.length).filter (startB l)
theorem backK_le (l : List Tok) : ∀ k, backK l k ≤ k
  | 0 => Nat.le_refl _
  | k + 1 => by
    rw [backK]
    split
    · have := backK_le l k; omega
    · exact Nat.le_refl _
def encN (l : List Nat) : List D := l.map fun n => .int .i64 (n : Nat)
theorem isText_c (t : Tok) : Fn Zs 52 [.agg (encTk t)] (.bool (textB t)) := by
  refine fn_of (Z := Zs) ok52 fun σ hcl hbl => ?_
  simp -dsimp only [L52, encTk, ↓preB, postB, genB, ↓reduceIte, Nat.reduceEqDiff, Int.reduceToNat, Int.reduceLE, Int.reduceLT, Nat.reduceAdd, Nat.reduceLeDiff, intBin, strBin, unD, extractD, lit1, lit2, lit3, keptD, boxR, D.one, D.pub1, D.cells, splice, cutOwn]
  have done : ∀ (x : Bool), Ret σ (fun d τ => d = .bool x ∧ τ = σ) (.bool x) (σ.new (.cells 35 [.int .i64 t.fr, .int .i64 t.to, .int .i64 t.kind, .str t.text])) := fun x => Ret.isH (HLe.self_new _ hcl) hcl rfl (.bool _)
  unfold textB
  cases e1 : (t.kind == 0) <;> cases e2 : (t.kind == 3) <;> cases e3 : (t.kind == 4)
  all_goals
    simp -dsimp only [e1, e2, e3, List.getElem?_cons_zero, List.getElem?_cons_succ, gate, decide_true, decide_false, Bool.not_true, Bool.not_false, bTT, bTF, bFT, bFF, ↓preB, postB, genB, ↓reduceIte, Nat.reduceEqDiff, Int.reduceToNat, Int.reduceLE, Int.reduceLT, Nat.reduceAdd, Nat.reduceLeDiff, intBin, strBin, unD, extractD, lit1, lit2, lit3, keptD, boxR, D.one, D.pub1, D.cells, splice, cutOwn]
    exact done _
theorem isSign_c (t : Tok) (q : ByteArray) (h : WFT t) : Fn Zs 51 [.agg (encTk t), .str q] (.bool (signB q t)) := by
  refine fn_of (Z := Zs) ok51 fun σ hcl hbl => ?_
  simp -dsimp only [L51, encTk, ↓preB, postB, genB, ↓reduceIte, Nat.reduceEqDiff, Int.reduceToNat, Int.reduceLE, Int.reduceLT, Nat.reduceAdd, Nat.reduceLeDiff, intBin, strBin, unD, extractD, lit1, lit2, lit3, keptD, boxR, D.one, D.pub1, D.cells, splice, cutOwn]
  have done : ∀ (x : Bool), Ret σ (fun d τ => d = .bool x ∧ τ = σ) (.bool x) (σ.new (.cells 35 [.int .i64 t.fr, .int .i64 t.to, .int .i64 t.kind, .str t.text])) := fun x => Ret.isH (HLe.self_new _ hcl) hcl rfl (.bool _)
  unfold signB
  cases e1 : (t.kind == 2)
  · simp -dsimp only [e1, List.getElem?_cons_zero, List.getElem?_cons_succ, gate, decide_true, decide_false, Bool.not_true, Bool.not_false, bTT, bTF, bFT, bFF, ↓preB, postB, genB, ↓reduceIte, Nat.reduceEqDiff, Int.reduceToNat, Int.reduceLE, Int.reduceLT, Nat.reduceAdd, Nat.reduceLeDiff, intBin, strBin, unD, extractD, lit1, lit2, lit3, keptD, boxR, D.one, D.pub1, D.cells, splice, cutOwn]
    exact done _
  · have hk : t.kind = 2 := by simpa using e1
    have h1 := h.2 hk
    obtain ⟨b, hb⟩ : ∃ b, t.text = ⟨#[b]⟩ := by
      have h1' : t.text.data.toList.length = 1 := h1
      obtain ⟨b, hb⟩ := List.length_eq_one_iff.1 h1'
      exact ⟨b, ba_extK (by rw [hb])⟩
    have hC := Contains1_c q b
    rw [← hb] at hC
    have hhd : t.text.data.toList.headD 0 = b := by rw [hb]; rfl
    rw [hhd]
    simp -dsimp only [e1, List.getElem?_cons_zero, List.getElem?_cons_succ, gate, decide_true, decide_false, Bool.not_true, Bool.not_false, bTT, bTF, bFT, bFF, ↓preB, postB, genB, ↓reduceIte, Nat.reduceEqDiff, Int.reduceToNat, Int.reduceLE, Int.reduceLT, Nat.reduceAdd, Nat.reduceLeDiff, intBin, strBin, unD, extractD, lit1, lit2, lit3, keptD, boxR, D.one, D.pub1, D.cells, splice, cutOwn]
    refine Fn.use hC ?_
    cases decide (0 ≤ Lib.indexByte q.data.toList b) <;> (simp -dsimp only [e1, List.getElem?_cons_zero, List.getElem?_cons_succ, gate, decide_true, decide_false, Bool.not_true, Bool.not_false, bTT, bTF, bFT, bFF, ↓preB, postB, genB, ↓reduceIte, Nat.reduceEqDiff, Int.reduceToNat, Int.reduceLE, Int.reduceLT, Nat.reduceAdd, Nat.reduceLeDiff, intBin, strBin, unD, extractD, lit1, lit2, lit3, keptD, boxR, D.one, D.pub1, D.cells, splice, cutOwn]; exact done _)
theorem getD_at {l : List Tok} {k : Nat} (h : k < l.length) : l.getD k tk0 = l[k] := by rw [List.getD_eq_getElem?_getD, List.getElem?_eq_getElem h]; rfl
theorem encTks_get {l : List Tok} {k : Nat} (h : k < l.length) {j : Nat} (hj : j < 4) : (encTks l)[k * 4 + j]? = (encTk l[k])[j]? := by
  rw [← encTks_at h [], List.append_nil, List.getElem?_take, if_pos hj, List.getElem?_drop]
theorem encTks_0 {l : List Tok} {k : Nat} (h : k < l.length) : (encTks l)[k * 4]? = some (.int .i64 l[k].fr) := encTks_get h (j := 0) (by decide)
theorem encTks_1 {l : List Tok} {k : Nat} (h : k < l.length) : (encTks l)[k * 4 + 1]? = some (.int .i64 l[k].to) := encTks_get h (j := 1) (by decide)
theorem encTks_2 {l : List Tok} {k : Nat} (h : k < l.length) : (encTks l)[k * 4 + 2]? = some (.int .i64 l[k].kind) := encTks_get h (j := 2) (by decide)
theorem encTks_3 {l : List Tok} {k : Nat} (h : k < l.length) : (encTks l)[k * 4 + 3]? = some (.str l[k].text) := encTks_get h (j := 3) (by decide)
theorem bs40 (a : Int) (nx : Nat) : buildSliceR Zs 0 40 1 [(0, .int .i64 a)] nx = some (.sl .full 1 [.int .i64 a], .keep) := by rfl
theorem begins_c (l : List Tok) (hl : l.length ≤ 1000000) (hw : ∀ t ∈ l, WFT t) : Fn Zs 33 [.sl .no l.length (encTks l)] (.sl .no (beginsW l).length (encN (beginsW l))) := by
  refine fn_of (Z := Zs) ok33 fun σ hcl hbl => ?_
  simp -dsimp only [L33, ↓preB, postB, genB, ↓reduceIte, Nat.reduceEqDiff, Int.reduceToNat, Int.reduceLE, Int.reduceLT, Nat.reduceAdd, Nat.reduceLeDiff, intBin, strBin, unD, extractD, lit1, lit2, lit3, keptD, boxR, D.one, D.pub1, D.cells, splice, cutOwn]
  intro hlb
  refine pwp_loopJ 0 (fun e τ => Acc 3 1 σ (beginsW l).length (encN (beginsW l)) (e 3) τ) (fun i env τ => i ≤ l.length ∧ Two σ 3 1 ((List.range i).filter (startB l)).length (encN ((List.range i).filter (startB l))) (env 3) 3 1 0 [] (.sl .nil 0 []) τ ∧ env 10 = .int .i64 (i:Nat) ∧ env 9 = .int .i64 l.length ∧ env 8 = .sl .no l.length (encTks l) ∧ env 0 = .sl .no l.length (encTks l)) (fun i => l.length - i) 0 ?_ ?_ ?_
  · simp only [upd_apply, envOf_apply, Nat.reduceEqDiff, if_true, if_false]
    exact ⟨Nat.zero_le _, Two.start hcl, (by first | trivial | rfl | omega), (by first | trivial | rfl | omega), (by first | trivial | rfl | omega), (by first | trivial | rfl | omega)⟩
  · rintro i env τ ⟨hi, hT, h10, h9, h8, h0⟩
    rcases Nat.lt_or_ge i l.length with hlt | hge
    · have hn : (i : Int) < l.length := by omega
      have hl0 : 0 < (encTks l).length := by rw [encTks_len]; omega
      have hat := encTks_at hlt []
      rw [List.append_nil] at hat
      have hi4 : 4 ≤ (encTks l).length - i * 4 := by rw [encTks_len]; omega
      have hrg : (List.range (i + 1)).filter (startB l) = (List.range i).filter (startB l) ++ if startB l i = true then [i] else [] := by
        rw [List.range_succ, List.filter_append]
        congr 1
        cases h : startB l i <;> simp [List.filter, h]
      have hfl : ((List.range i).filter (startB l)).length ≤ i := by have := List.length_filter_le (startB l) (List.range i); simpa using this
      simp -dsimp only [h10, h9, h8, h0, hn, hlt, hl0, hat, hi4, encTk, exitR_exit, ↓preB, postB, genB, ↓reduceIte, Nat.reduceEqDiff, Int.reduceToNat, Int.reduceLE, Int.reduceLT, Nat.reduceAdd, Nat.reduceLeDiff, intBin, strBin, unD, extractD, lit1, lit2, lit3, keptD, boxR, D.one, D.pub1, D.cells, splice, cutOwn]
      obtain ⟨τ2, hτ2⟩ : ∃ τ2, τ2 = τ.new (.cells 35 [.int .i64 l[i].fr, .int .i64 l[i].to, .int .i64 l[i].kind, .str l[i].text]) := ⟨_, rfl⟩
      have hT2 : Two σ 3 1 ((List.range i).filter (startB l)).length (encN ((List.range i).filter (startB l))) (env 3) 3 1 0 [] (.sl .nil 0 []) τ2 := by rw [hτ2]; exact hT.new hcl _
      have hg2 : τ2.get τ.next = some (.cells 35 [.int .i64 l[i].fr, .int .i64 l[i].to, .int .i64 l[i].kind, .str l[i].text]) := by rw [hτ2]; exact Heap.new_same _ _
      have hnx : τ.next + 1 = τ2.next := by rw [hτ2]; rfl
      rw [hnx, ← hτ2]
      clear hτ2 hnx
      have wi : IntKind.i64.wrap ((i : Int) + 1) = ((i + 1 : Nat) : Int) := wrap64_succ (by simp only [big]; omega)
      have hce : (encN ((List.range i).filter (startB l))).length = ((List.range i).filter (startB l)).length := List.length_map ..
      generalize (List.range i).filter (startB l) = B at *
      by_cases i0 : i = 0
      · subst i0
        rw [if_pos (show startB l 0 = true from rfl)] at hrg
        rw [if_pos (show ((((0 : Nat) : Int) == 0) = true) from rfl)]
        refine hT2.append hcl tz40 rfl tz3 rfl rfl rfl (by decide) (by rw [hce]; simp) (fedBy_sl (m := 1) tz40 rfl rfl) (by decide) (by simp only []; omega) (by simp only [big]; omega) fun d6 τ6 hT6 _ => ?_
        simp -dsimp only [h10, h9, h8, h0, wi, exitR_exit, ↓preB, postB, genB, ↓reduceIte, Nat.reduceEqDiff, Int.reduceToNat, Int.reduceLE, Int.reduceLT, Nat.reduceAdd, Nat.reduceLeDiff, intBin, strBin, unD, extractD, lit1, lit2, lit3, keptD, boxR, D.one, D.pub1, D.cells, splice, cutOwn]
        refine ⟨1, ⟨by omega, ?_, rfl⟩, by omega⟩
        rw [hrg, List.length_append, encN, List.map_append]
        exact hT6
      rw [if_neg (by simp only [beq_iff_eq]; omega)]
      have w1 : IntKind.i64.wrap ((i : Int) - 1) = ((i - 1 : Nat) : Int) := by rw [wrap64_in (by omega) (by omega)]; omega
      refine pwp_loopJ 2 (fun e τ' => τ' = τ2 ∧ e 6 = .int .i64 (backK l (i - 1) : Nat) ∧ e 3 = env 3 ∧ e 4 = .int .i64 (i:Nat) ∧ e 5 = .ptr τ.next 0 ∧ e 10 = .int .i64 (i:Nat) ∧ e 9 = .int .i64 l.length ∧ e 8 = .sl .no l.length (encTks l) ∧ e 0 = .sl .no l.length (encTks l)) (fun k e τ' => k ≤ i - 1 ∧ backK l (i - 1) = backK l k ∧ τ' = τ2 ∧ e 6 = .int .i64 (k : Nat) ∧ e 3 = env 3 ∧ e 4 = .int .i64 (i:Nat) ∧ e 5 = .ptr τ.next 0 ∧ e 10 = .int .i64 (i:Nat) ∧ e 9 = .int .i64 l.length ∧ e 8 = .sl .no l.length (encTks l) ∧ e 0 = .sl .no l.length (encTks l)) (fun k => k) (i - 1) ?_ ?_ ?_
      · simp only [upd_apply, h10, h9, h8, h0, w1, Nat.reduceEqDiff, if_true, if_false]
        exact ⟨Nat.le_refl _, (by first | trivial | rfl | omega), (by first | trivial | rfl | omega), (by first | trivial | rfl | omega), (by first | trivial | rfl | omega), (by first | trivial | rfl | omega), (by first | trivial | rfl | omega), (by first | trivial | rfl | omega), (by first | trivial | rfl | omega), (by first | trivial | rfl | omega), (by first | trivial | rfl | omega)⟩
      · clear h10 h9 h8 h0
        rintro k e τ' ⟨hk, hb, rfl, h6, h3, h4, h5, h10, h9, h8, h0⟩
        have hkl : k < l.length := by omega
        have hatk := encTks_at hkl []
        rw [List.append_nil] at hatk
        have hk4 : 4 ≤ (encTks l).length - k * 4 := by rw [encTks_len]; omega
        cases k with
        | zero =>
          simp -dsimp only [h6, h3, h4, h5, h10, h9, h8, h0, show ¬ (0 : Int) < ((0 : Nat) : Int) by decide, exitR_exit, gate, decide_true, decide_false, Bool.not_true, Bool.not_false, bTT, bTF, bFT, bFF, ↓preB, postB, genB, ↓reduceIte, Nat.reduceEqDiff, Int.reduceToNat, Int.reduceLE, Int.reduceLT, Nat.reduceAdd, Nat.reduceLeDiff, intBin, strBin, unD, extractD, lit1, lit2, lit3, keptD, boxR, D.one, D.pub1, D.cells, splice, cutOwn]
          refine draw_s ?_
          simp -dsimp only [h6, h3, h4, h5, h10, h9, h8, h0, show ¬ (0 : Int) < ((0 : Nat) : Int) by decide, exitR_exit, gate, decide_true, decide_false, Bool.not_true, Bool.not_false, bTT, bTF, bFT, bFF, ↓preB, postB, genB, ↓reduceIte, Nat.reduceEqDiff, Int.reduceToNat, Int.reduceLE, Int.reduceLT, Nat.reduceAdd, Nat.reduceLeDiff, intBin, strBin, unD, extractD, lit1, lit2, lit3, keptD, boxR, D.one, D.pub1, D.cells, splice, cutOwn]
          rw [hb]
          rfl
        | succ k =>
          have kp : (0 : Int) < ((k + 1 : Nat) : Int) := by omega
          have hkl' : k < l.length := by omega
          have hatk' := encTks_at hkl' []
          rw [List.append_nil] at hatk'
          have hk4' : 4 ≤ (encTks l).length - k * 4 := by rw [encTks_len]; omega
          have w2 : IntKind.i64.wrap (((k + 1 : Nat) : Int) - 1) = ((k : Nat) : Int) := by rw [wrap64_in (by omega) (by omega)]; omega
          have e1k := encTks_1 hkl'
          have e0k := encTks_0 hkl
          have hS := isSign_c l[k + 1] q1 (hw _ (List.getElem_mem hkl))
          simp only [encTk] at hS hatk hatk'
          rw [backK, getD_at hkl, getD_at hkl'] at hb
          simp -dsimp only [h6, h3, h4, h5, h10, h9, h8, h0, kp, exitR_exit, gate, decide_true, decide_false, Bool.not_true, Bool.not_false, bTT, bTF, bFT, bFF, ↓preB, postB, genB, ↓reduceIte, Nat.reduceEqDiff, Int.reduceToNat, Int.reduceLE, Int.reduceLT, Nat.reduceAdd, Nat.reduceLeDiff, intBin, strBin, unD, extractD, lit1, lit2, lit3, keptD, boxR, D.one, D.pub1, D.cells, splice, cutOwn]
          refine draw_s ?_
          simp -dsimp only [h6, h3, h4, h5, h10, h9, h8, h0, kp, hkl, hl0, hatk, hk4, q1, exitR_exit, gate, decide_true, decide_false, Bool.not_true, Bool.not_false, bTT, bTF, bFT, bFF, ↓preB, postB, genB, ↓reduceIte, Nat.reduceEqDiff, Int.reduceToNat, Int.reduceLE, Int.reduceLT, Nat.reduceAdd, Nat.reduceLeDiff, intBin, strBin, unD, extractD, lit1, lit2, lit3, keptD, boxR, D.one, D.pub1, D.cells, splice, cutOwn]
          refine Fn.useS hS ?_
          cases c1 : signB q1 l[k + 1]
          · rw [c1, Bool.false_and, if_neg (by decide)] at hb
            simp -dsimp only [h6, h3, h4, h5, h10, h9, h8, h0, kp, hkl, hkl', hl0, hatk, hatk', hk4, hk4', w2, q1, exitR_exit, gate, decide_true, decide_false, Bool.not_true, Bool.not_false, bTT, bTF, bFT, bFF, ↓preB, postB, genB, ↓reduceIte, Nat.reduceEqDiff, Int.reduceToNat, Int.reduceLE, Int.reduceLT, Nat.reduceAdd, Nat.reduceLeDiff, intBin, strBin, unD, extractD, lit1, lit2, lit3, keptD, boxR, D.one, D.pub1, D.cells, splice, cutOwn]
            rw [hb]
          · rw [c1, Bool.true_and] at hb
            cases c2 : (l[k].to == l[k + 1].fr)
            · rw [c2, if_neg (by decide)] at hb
              simp -dsimp only [h6, h3, h4, h5, h10, h9, h8, h0, kp, hkl, hkl', hl0, hatk, hatk', hk4, hk4', w2, q1, exitR_exit, c2, e1k, e0k, List.drop_succ_cons, List.drop_zero, List.take_succ_cons, List.take_zero, List.getElem?_cons_zero, List.getElem?_cons_succ, gate, decide_true, decide_false, Bool.not_true, Bool.not_false, bTT, bTF, bFT, bFF, ↓preB, postB, genB, ↓reduceIte, Nat.reduceEqDiff, Int.reduceToNat, Int.reduceLE, Int.reduceLT, Nat.reduceAdd, Nat.reduceLeDiff, intBin, strBin, unD, extractD, lit1, lit2, lit3, keptD, boxR, D.one, D.pub1, D.cells, splice, cutOwn]
              rw [hb]
            · rw [c2, if_pos rfl] at hb
              simp -dsimp only [h6, h3, h4, h5, h10, h9, h8, h0, kp, hkl, hkl', hl0, hatk, hatk', hk4, hk4', w2, q1, exitR_exit, c2, e1k, e0k, List.drop_succ_cons, List.drop_zero, List.take_succ_cons, List.take_zero, List.getElem?_cons_zero, List.getElem?_cons_succ, gate, decide_true, decide_false, Bool.not_true, Bool.not_false, bTT, bTF, bFT, bFF, ↓preB, postB, genB, ↓reduceIte, Nat.reduceEqDiff, Int.reduceToNat, Int.reduceLE, Int.reduceLT, Nat.reduceAdd, Nat.reduceLeDiff, intBin, strBin, unD, extractD, lit1, lit2, lit3, keptD, boxR, D.one, D.pub1, D.cells, splice, cutOwn]
              exact ⟨k, ⟨by omega, hb, rfl⟩, Nat.lt_succ_self _⟩
      clear h10 h9 h8 h0
      rintro e τ' ⟨rfl, h6, h3, h4, h5, h10, h9, h8, h0⟩
      have hbl := backK_le l (i - 1)
      have hst : startB l i = (signB q2 (l.getD (backK l (i - 1)) tk0) && decide ((l.getD (i - 1) tk0).to < (l.getD i tk0).fr) && !(textB (l.getD i tk0) && isSmallI (byteAt (l.getD i tk0).text 0))) := by unfold startB; rw [if_neg i0]
      generalize backK l (i - 1) = k at *
      have hkl : k < l.length := by omega
      have hil : i - 1 < l.length := by omega
      rw [getD_at hkl, getD_at hil, getD_at hlt] at hst
      have hX := isText_c l[i]
      have hS := isSign_c l[k] q2 (hw _ (List.getElem_mem hkl))
      have hatk := encTks_at hkl []
      rw [List.append_nil] at hatk
      have hk4 : 4 ≤ (encTks l).length - k * 4 := by rw [encTks_len]; omega
      have e1k := encTks_1 hil
      simp only [encTk] at hX hS hatk
      simp -dsimp only [h6, h3, h4, h5, h10, h9, h8, h0, hg2, List.length_cons, List.length_nil, Nat.le_refl, Nat.reduceLeDiff, List.drop_zero, List.take_succ_cons, List.take_zero, gate, decide_true, decide_false, Bool.not_true, Bool.not_false, bTT, bTF, bFT, bFF, ↓preB, postB, genB, ↓reduceIte, Nat.reduceEqDiff, Int.reduceToNat, Int.reduceLE, Int.reduceLT, Nat.reduceAdd, Nat.reduceLeDiff, intBin, strBin, unD, extractD, lit1, lit2, lit3, keptD, boxR, D.one, D.pub1, D.cells, splice, cutOwn]
      refine Fn.use hX ?_
      have tx := (hw _ (List.getElem_mem hlt)).1
      have tx1 : (0 : Int) < l[i].text.size := by omega
      have tx2 : 0 < l[i].text.size := by omega
      cases q5 : textB l[i]
      · rw [q5, Bool.false_and, Bool.not_false, Bool.and_true] at hst
        simp -dsimp only [h6, h3, h4, h5, h10, h9, h8, h0, hg2, hkl, hil, hl0, hatk, hk4, w1, e1k, List.length_cons, List.length_nil, Nat.le_refl, Nat.reduceLeDiff, List.drop_zero, List.drop_succ_cons, List.take_succ_cons, List.take_zero, List.getElem?_cons_zero, List.getElem?_cons_succ, q5, gate, decide_true, decide_false, Bool.not_true, Bool.not_false, bTT, bTF, bFT, bFF, ↓preB, postB, genB, ↓reduceIte, Nat.reduceEqDiff, Int.reduceToNat, Int.reduceLE, Int.reduceLT, Nat.reduceAdd, Nat.reduceLeDiff, intBin, strBin, unD, extractD, lit1, lit2, lit3, keptD, boxR, D.one, D.pub1, D.cells, splice, cutOwn]
        refine draw_sR (fun e => e 75 = .bool (startB l i) ∧ e 3 = env 3 ∧ e 4 = .int .i64 (i:Nat) ∧ e 10 = .int .i64 (i:Nat) ∧ e 9 = .int .i64 l.length ∧ e 8 = .sl .no l.length (encTks l) ∧ e 0 = .sl .no l.length (encTks l)) ?_ ?_
        · simp -dsimp only [h6, h3, h4, h5, h10, h9, h8, h0, hg2, hkl, hil, hl0, hatk, hk4, w1, e1k, List.length_cons, List.length_nil, Nat.le_refl, Nat.reduceLeDiff, List.drop_zero, List.drop_succ_cons, List.take_succ_cons, List.take_zero, List.getElem?_cons_zero, List.getElem?_cons_succ, q5, q2, gate, decide_true, decide_false, Bool.not_true, Bool.not_false, bTT, bTF, bFT, bFF, ↓preB, postB, genB, ↓reduceIte, Nat.reduceEqDiff, Int.reduceToNat, Int.reduceLE, Int.reduceLT, Nat.reduceAdd, Nat.reduceLeDiff, intBin, strBin, unD, extractD, lit1, lit2, lit3, keptD, boxR, D.one, D.pub1, D.cells, splice, cutOwn]
          refine Fn.useS hS ?_
          cases c1 : signB q2 l[k]
          · rw [c1, Bool.false_and] at hst
            simp -dsimp only [h6, h3, h4, h5, h10, h9, h8, h0, hg2, hkl, hil, hl0, hatk, hk4, w1, e1k, List.length_cons, List.length_nil, Nat.le_refl, Nat.reduceLeDiff, List.drop_zero, List.drop_succ_cons, List.take_succ_cons, List.take_zero, List.getElem?_cons_zero, List.getElem?_cons_succ, q5, q2, hst, gate, decide_true, decide_false, Bool.not_true, Bool.not_false, bTT, bTF, bFT, bFF, ↓preB, postB, genB, ↓reduceIte, Nat.reduceEqDiff, Int.reduceToNat, Int.reduceLE, Int.reduceLT, Nat.reduceAdd, Nat.reduceLeDiff, intBin, strBin, unD, extractD, lit1, lit2, lit3, keptD, boxR, D.one, D.pub1, D.cells, splice, cutOwn]
          · rw [c1, Bool.true_and] at hst
            by_cases c2 : l[i - 1].to < l[i].fr
            · rw [decide_eq_true c2] at hst
              simp -dsimp only [h6, h3, h4, h5, h10, h9, h8, h0, hg2, hkl, hil, hl0, hatk, hk4, w1, e1k, List.length_cons, List.length_nil, Nat.le_refl, Nat.reduceLeDiff, List.drop_zero, List.drop_succ_cons, List.take_succ_cons, List.take_zero, List.getElem?_cons_zero, List.getElem?_cons_succ, q5, q2, c2, hst, gate, decide_true, decide_false, Bool.not_true, Bool.not_false, bTT, bTF, bFT, bFF, ↓preB, postB, genB, ↓reduceIte, Nat.reduceEqDiff, Int.reduceToNat, Int.reduceLE, Int.reduceLT, Nat.reduceAdd, Nat.reduceLeDiff, intBin, strBin, unD, extractD, lit1, lit2, lit3, keptD, boxR, D.one, D.pub1, D.cells, splice, cutOwn]
            · rw [decide_eq_false c2] at hst
              simp -dsimp only [h6, h3, h4, h5, h10, h9, h8, h0, hg2, hkl, hil, hl0, hatk, hk4, w1, e1k, List.length_cons, List.length_nil, Nat.le_refl, Nat.reduceLeDiff, List.drop_zero, List.drop_succ_cons, List.take_succ_cons, List.take_zero, List.getElem?_cons_zero, List.getElem?_cons_succ, q5, q2, c2, hst, gate, decide_true, decide_false, Bool.not_true, Bool.not_false, bTT, bTF, bFT, bFF, ↓preB, postB, genB, ↓reduceIte, Nat.reduceEqDiff, Int.reduceToNat, Int.reduceLE, Int.reduceLT, Nat.reduceAdd, Nat.reduceLeDiff, intBin, strBin, unD, extractD, lit1, lit2, lit3, keptD, boxR, D.one, D.pub1, D.cells, splice, cutOwn]
        · clear h6 h3 h4 h5 h10 h9 h8 h0
          rintro e ⟨g75, h3, h4, h10, h9, h8, h0⟩
          cases c3 : startB l i
          · rw [c3, if_neg (by decide), List.append_nil] at hrg
            simp -dsimp only [g75, h3, h4, h10, h9, h8, h0, c3, wi, exitR_exit, gate, decide_true, decide_false, Bool.not_true, Bool.not_false, bTT, bTF, bFT, bFF, ↓preB, postB, genB, ↓reduceIte, Nat.reduceEqDiff, Int.reduceToNat, Int.reduceLE, Int.reduceLT, Nat.reduceAdd, Nat.reduceLeDiff, intBin, strBin, unD, extractD, lit1, lit2, lit3, keptD, boxR, D.one, D.pub1, D.cells, splice, cutOwn]
            refine ⟨i + 1, ⟨by omega, ?_, rfl⟩, by omega⟩
            rw [hrg]
            exact hT2
          · rw [c3, if_pos rfl] at hrg
            simp -dsimp only [g75, h3, h4, h10, h9, h8, h0, c3, bs40, exitR_exit, gate, decide_true, decide_false, Bool.not_true, Bool.not_false, bTT, bTF, bFT, bFF, ↓preB, postB, genB, ↓reduceIte, Nat.reduceEqDiff, Int.reduceToNat, Int.reduceLE, Int.reduceLT, Nat.reduceAdd, Nat.reduceLeDiff, intBin, strBin, unD, extractD, lit1, lit2, lit3, keptD, boxR, D.one, D.pub1, D.cells, splice, cutOwn]
            refine hT2.append hcl tz40 rfl tz3 rfl rfl rfl (by decide) (by rw [hce]; simp) (fedBy_sl (m := 1) tz40 rfl rfl) (by decide) (by simp only []; omega) (by simp only [big]; omega) fun d6 τ6 hT6 _ => ?_
            simp -dsimp only [h10, h9, h8, h0, wi, exitR_exit, ↓preB, postB, genB, ↓reduceIte, Nat.reduceEqDiff, Int.reduceToNat, Int.reduceLE, Int.reduceLT, Nat.reduceAdd, Nat.reduceLeDiff, intBin, strBin, unD, extractD, lit1, lit2, lit3, keptD, boxR, D.one, D.pub1, D.cells, splice, cutOwn]
            refine ⟨i + 1, ⟨by omega, ?_, rfl⟩, by omega⟩
            rw [hrg, List.length_append, encN, List.map_append]
            exact hT6
      · rw [q5, Bool.true_and] at hst
        simp -dsimp only [h6, h3, h4, h5, h10, h9, h8, h0, hg2, hkl, hil, hl0, hatk, hk4, w1, e1k, List.length_cons, List.length_nil, Nat.le_refl, Nat.reduceLeDiff, List.drop_zero, List.drop_succ_cons, List.take_succ_cons, List.take_zero, List.getElem?_cons_zero, List.getElem?_cons_succ, q5, tx1, tx2, gate, decide_true, decide_false, Bool.not_true, Bool.not_false, bTT, bTF, bFT, bFF, ↓preB, postB, genB, ↓reduceIte, Nat.reduceEqDiff, Int.reduceToNat, Int.reduceLE, Int.reduceLT, Nat.reduceAdd, Nat.reduceLeDiff, intBin, strBin, unD, extractD, lit1, lit2, lit3, keptD, boxR, D.one, D.pub1, D.cells, splice, cutOwn]
        refine Fn.use (isSmall_c _) ?_
        cases q6 : isSmallI (byteAt l[i].text 0)
        · rw [q6, Bool.not_false, Bool.and_true] at hst
          simp -dsimp only [h6, h3, h4, h5, h10, h9, h8, h0, hg2, hkl, hil, hl0, hatk, hk4, w1, e1k, List.length_cons, List.length_nil, Nat.le_refl, Nat.reduceLeDiff, List.drop_zero, List.drop_succ_cons, List.take_succ_cons, List.take_zero, List.getElem?_cons_zero, List.getElem?_cons_succ, q5, q6, tx1, tx2, gate, decide_true, decide_false, Bool.not_true, Bool.not_false, bTT, bTF, bFT, bFF, ↓preB, postB, genB, ↓reduceIte, Nat.reduceEqDiff, Int.reduceToNat, Int.reduceLE, Int.reduceLT, Nat.reduceAdd, Nat.reduceLeDiff, intBin, strBin, unD, extractD, lit1, lit2, lit3, keptD, boxR, D.one, D.pub1, D.cells, splice, cutOwn]
          refine draw_sR (fun e => e 75 = .bool (startB l i) ∧ e 3 = env 3 ∧ e 4 = .int .i64 (i:Nat) ∧ e 10 = .int .i64 (i:Nat) ∧ e 9 = .int .i64 l.length ∧ e 8 = .sl .no l.length (encTks l) ∧ e 0 = .sl .no l.length (encTks l)) ?_ ?_
          · simp -dsimp only [h6, h3, h4, h5, h10, h9, h8, h0, hg2, hkl, hil, hl0, hatk, hk4, w1, e1k, List.length_cons, List.length_nil, Nat.le_refl, Nat.reduceLeDiff, List.drop_zero, List.drop_succ_cons, List.take_succ_cons, List.take_zero, List.getElem?_cons_zero, List.getElem?_cons_succ, q5, q6, q2, gate, decide_true, decide_false, Bool.not_true, Bool.not_false, bTT, bTF, bFT, bFF, ↓preB, postB, genB, ↓reduceIte, Nat.reduceEqDiff, Int.reduceToNat, Int.reduceLE, Int.reduceLT, Nat.reduceAdd, Nat.reduceLeDiff, intBin, strBin, unD, extractD, lit1, lit2, lit3, keptD, boxR, D.one, D.pub1, D.cells, splice, cutOwn]
            refine Fn.useS hS ?_
            cases c1 : signB q2 l[k]
            · rw [c1, Bool.false_and] at hst
              simp -dsimp only [h6, h3, h4, h5, h10, h9, h8, h0, hg2, hkl, hil, hl0, hatk, hk4, w1, e1k, List.length_cons, List.length_nil, Nat.le_refl, Nat.reduceLeDiff, List.drop_zero, List.drop_succ_cons, List.take_succ_cons, List.take_zero, List.getElem?_cons_zero, List.getElem?_cons_succ, q5, q6, q2, hst, gate, decide_true, decide_false, Bool.not_true, Bool.not_false, bTT, bTF, bFT, bFF, ↓preB, postB, genB, ↓reduceIte, Nat.reduceEqDiff, Int.reduceToNat, Int.reduceLE, Int.reduceLT, Nat.reduceAdd, Nat.reduceLeDiff, intBin, strBin, unD, extractD, lit1, lit2, lit3, keptD, boxR, D.one, D.pub1, D.cells, splice, cutOwn]
            · rw [c1, Bool.true_and] at hst
              by_cases c2 : l[i - 1].to < l[i].fr
              · rw [decide_eq_true c2] at hst
                simp -dsimp only [h6, h3, h4, h5, h10, h9, h8, h0, hg2, hkl, hil, hl0, hatk, hk4, w1, e1k, List.length_cons, List.length_nil, Nat.le_refl, Nat.reduceLeDiff, List.drop_zero, List.drop_succ_cons, List.take_succ_cons, List.take_zero, List.getElem?_cons_zero, List.getElem?_cons_succ, q5, q6, q2, c2, hst, gate, decide_true, decide_false, Bool.not_true, Bool.not_false, bTT, bTF, bFT, bFF, ↓preB, postB, genB, ↓reduceIte, Nat.reduceEqDiff, Int.reduceToNat, Int.reduceLE, Int.reduceLT, Nat.reduceAdd, Nat.reduceLeDiff, intBin, strBin, unD, extractD, lit1, lit2, lit3, keptD, boxR, D.one, D.pub1, D.cells, splice, cutOwn]
              · rw [decide_eq_false c2] at hst
                simp -dsimp only [h6, h3, h4, h5, h10, h9, h8, h0, hg2, hkl, hil, hl0, hatk, hk4, w1, e1k, List.length_cons, List.length_nil, Nat.le_refl, Nat.reduceLeDiff, List.drop_zero, List.drop_succ_cons, List.take_succ_cons, List.take_zero, List.getElem?_cons_zero, List.getElem?_cons_succ, q5, q6, q2, c2, hst, gate, decide_true, decide_false, Bool.not_true, Bool.not_false, bTT, bTF, bFT, bFF, ↓preB, postB, genB, ↓reduceIte, Nat.reduceEqDiff, Int.reduceToNat, Int.reduceLE, Int.reduceLT, Nat.reduceAdd, Nat.reduceLeDiff, intBin, strBin, unD, extractD, lit1, lit2, lit3, keptD, boxR, D.one, D.pub1, D.cells, splice, cutOwn]
          · clear h6 h3 h4 h5 h10 h9 h8 h0
            rintro e ⟨g75, h3, h4, h10, h9, h8, h0⟩
            cases c3 : startB l i
            · rw [c3, if_neg (by decide), List.append_nil] at hrg
              simp -dsimp only [g75, h3, h4, h10, h9, h8, h0, c3, wi, exitR_exit, gate, decide_true, decide_false, Bool.not_true, Bool.not_false, bTT, bTF, bFT, bFF, ↓preB, postB, genB, ↓reduceIte, Nat.reduceEqDiff, Int.reduceToNat, Int.reduceLE, Int.reduceLT, Nat.reduceAdd, Nat.reduceLeDiff, intBin, strBin, unD, extractD, lit1, lit2, lit3, keptD, boxR, D.one, D.pub1, D.cells, splice, cutOwn]
              refine ⟨i + 1, ⟨by omega, ?_, rfl⟩, by omega⟩
              rw [hrg]
              exact hT2
            · rw [c3, if_pos rfl] at hrg
              simp -dsimp only [g75, h3, h4, h10, h9, h8, h0, c3, bs40, exitR_exit, gate, decide_true, decide_false, Bool.not_true, Bool.not_false, bTT, bTF, bFT, bFF, ↓preB, postB, genB, ↓reduceIte, Nat.reduceEqDiff, Int.reduceToNat, Int.reduceLE, Int.reduceLT, Nat.reduceAdd, Nat.reduceLeDiff, intBin, strBin, unD, extractD, lit1, lit2, lit3, keptD, boxR, D.one, D.pub1, D.cells, splice, cutOwn]
              refine hT2.append hcl tz40 rfl tz3 rfl rfl rfl (by decide) (by rw [hce]; simp) (fedBy_sl (m := 1) tz40 rfl rfl) (by decide) (by simp only []; omega) (by simp only [big]; omega) fun d6 τ6 hT6 _ => ?_
              simp -dsimp only [h10, h9, h8, h0, wi, exitR_exit, ↓preB, postB, genB, ↓reduceIte, Nat.reduceEqDiff, Int.reduceToNat, Int.reduceLE, Int.reduceLT, Nat.reduceAdd, Nat.reduceLeDiff, intBin, strBin, unD, extractD, lit1, lit2, lit3, keptD, boxR, D.one, D.pub1, D.cells, splice, cutOwn]
              refine ⟨i + 1, ⟨by omega, ?_, rfl⟩, by omega⟩
              rw [hrg, List.length_append, encN, List.map_append]
              exact hT6
        · rw [q6, Bool.not_true, Bool.and_false] at hst
          simp -dsimp only [h6, h3, h4, h5, h10, h9, h8, h0, hg2, hkl, hil, hl0, hatk, hk4, w1, e1k, List.length_cons, List.length_nil, Nat.le_refl, Nat.reduceLeDiff, List.drop_zero, List.drop_succ_cons, List.take_succ_cons, List.take_zero, List.getElem?_cons_zero, List.getElem?_cons_succ, q5, q6, tx1, tx2, gate, decide_true, decide_false, Bool.not_true, Bool.not_false, bTT, bTF, bFT, bFF, ↓preB, postB, genB, ↓reduceIte, Nat.reduceEqDiff, Int.reduceToNat, Int.reduceLE, Int.reduceLT, Nat.reduceAdd, Nat.reduceLeDiff, intBin, strBin, unD, extractD, lit1, lit2, lit3, keptD, boxR, D.one, D.pub1, D.cells, splice, cutOwn]
          refine draw_sR (fun e => e 75 = .bool (startB l i) ∧ e 3 = env 3 ∧ e 4 = .int .i64 (i:Nat) ∧ e 10 = .int .i64 (i:Nat) ∧ e 9 = .int .i64 l.length ∧ e 8 = .sl .no l.length (encTks l) ∧ e 0 = .sl .no l.length (encTks l)) ?_ ?_
          · simp -dsimp only [h6, h3, h4, h5, h10, h9, h8, h0, hg2, hkl, hil, hl0, hatk, hk4, w1, e1k, List.length_cons, List.length_nil, Nat.le_refl, Nat.reduceLeDiff, List.drop_zero, List.drop_succ_cons, List.take_succ_cons, List.take_zero, List.getElem?_cons_zero, List.getElem?_cons_succ, q5, q6, q2, gate, decide_true, decide_false, Bool.not_true, Bool.not_false, bTT, bTF, bFT, bFF, ↓preB, postB, genB, ↓reduceIte, Nat.reduceEqDiff, Int.reduceToNat, Int.reduceLE, Int.reduceLT, Nat.reduceAdd, Nat.reduceLeDiff, intBin, strBin, unD, extractD, lit1, lit2, lit3, keptD, boxR, D.one, D.pub1, D.cells, splice, cutOwn]
            refine Fn.useS hS ?_
            cases c1 : signB q2 l[k]
            · simp -dsimp only [h6, h3, h4, h5, h10, h9, h8, h0, hg2, hkl, hil, hl0, hatk, hk4, w1, e1k, List.length_cons, List.length_nil, Nat.le_refl, Nat.reduceLeDiff, List.drop_zero, List.drop_succ_cons, List.take_succ_cons, List.take_zero, List.getElem?_cons_zero, List.getElem?_cons_succ, q5, q6, q2, hst, gate, decide_true, decide_false, Bool.not_true, Bool.not_false, bTT, bTF, bFT, bFF, ↓preB, postB, genB, ↓reduceIte, Nat.reduceEqDiff, Int.reduceToNat, Int.reduceLE, Int.reduceLT, Nat.reduceAdd, Nat.reduceLeDiff, intBin, strBin, unD, extractD, lit1, lit2, lit3, keptD, boxR, D.one, D.pub1, D.cells, splice, cutOwn]
            · by_cases c2 : l[i - 1].to < l[i].fr
              · simp -dsimp only [h6, h3, h4, h5, h10, h9, h8, h0, hg2, hkl, hil, hl0, hatk, hk4, w1, e1k, List.length_cons, List.length_nil, Nat.le_refl, Nat.reduceLeDiff, List.drop_zero, List.drop_succ_cons, List.take_succ_cons, List.take_zero, List.getElem?_cons_zero, List.getElem?_cons_succ, q5, q6, q2, c2, hst, gate, decide_true, decide_false, Bool.not_true, Bool.not_false, bTT, bTF, bFT, bFF, ↓preB, postB, genB, ↓reduceIte, Nat.reduceEqDiff, Int.reduceToNat, Int.reduceLE, Int.reduceLT, Nat.reduceAdd, Nat.reduceLeDiff, intBin, strBin, unD, extractD, lit1, lit2, lit3, keptD, boxR, D.one, D.pub1, D.cells, splice, cutOwn]
              · simp -dsimp only [h6, h3, h4, h5, h10, h9, h8, h0, hg2, hkl, hil, hl0, hatk, hk4, w1, e1k, List.length_cons, List.length_nil, Nat.le_refl, Nat.reduceLeDiff, List.drop_zero, List.drop_succ_cons, List.take_succ_cons, List.take_zero, List.getElem?_cons_zero, List.getElem?_cons_succ, q5, q6, q2, c2, hst, gate, decide_true, decide_false, Bool.not_true, Bool.not_false, bTT, bTF, bFT, bFF, ↓preB, postB, genB, ↓reduceIte, Nat.reduceEqDiff, Int.reduceToNat, Int.reduceLE, Int.reduceLT, Nat.reduceAdd, Nat.reduceLeDiff, intBin, strBin, unD, extractD, lit1, lit2, lit3, keptD, boxR, D.one, D.pub1, D.cells, splice, cutOwn]
          · clear h6 h3 h4 h5 h10 h9 h8 h0
            rintro e ⟨g75, h3, h4, h10, h9, h8, h0⟩
            cases c3 : startB l i
            · rw [c3, if_neg (by decide), List.append_nil] at hrg
              simp -dsimp only [g75, h3, h4, h10, h9, h8, h0, c3, wi, exitR_exit, gate, decide_true, decide_false, Bool.not_true, Bool.not_false, bTT, bTF, bFT, bFF, ↓preB, postB, genB, ↓reduceIte, Nat.reduceEqDiff, Int.reduceToNat, Int.reduceLE, Int.reduceLT, Nat.reduceAdd, Nat.reduceLeDiff, intBin, strBin, unD, extractD, lit1, lit2, lit3, keptD, boxR, D.one, D.pub1, D.cells, splice, cutOwn]
              refine ⟨i + 1, ⟨by omega, ?_, rfl⟩, by omega⟩
              rw [hrg]
              exact hT2
            · rw [c3, if_pos rfl] at hrg
              simp -dsimp only [g75, h3, h4, h10, h9, h8, h0, c3, bs40, exitR_exit, gate, decide_true, decide_false, Bool.not_true, Bool.not_false, bTT, bTF, bFT, bFF, ↓preB, postB, genB, ↓reduceIte, Nat.reduceEqDiff, Int.reduceToNat, Int.reduceLE, Int.reduceLT, Nat.reduceAdd, Nat.reduceLeDiff, intBin, strBin, unD, extractD, lit1, lit2, lit3, keptD, boxR, D.one, D.pub1, D.cells, splice, cutOwn]
              refine hT2.append hcl tz40 rfl tz3 rfl rfl rfl (by decide) (by rw [hce]; simp) (fedBy_sl (m := 1) tz40 rfl rfl) (by decide) (by simp only []; omega) (by simp only [big]; omega) fun d6 τ6 hT6 _ => ?_
              simp -dsimp only [h10, h9, h8, h0, wi, exitR_exit, ↓preB, postB, genB, ↓reduceIte, Nat.reduceEqDiff, Int.reduceToNat, Int.reduceLE, Int.reduceLT, Nat.reduceAdd, Nat.reduceLeDiff, intBin, strBin, unD, extractD, lit1, lit2, lit3, keptD, boxR, D.one, D.pub1, D.cells, splice, cutOwn]
              refine ⟨i + 1, ⟨by omega, ?_, rfl⟩, by omega⟩
              rw [hrg, List.length_append, encN, List.map_append]
              exact hT6
    · have hn : ¬ (i : Int) < l.length := by omega
      have : i = l.length := by omega
      subst this
      simp -dsimp only [h10, h9, h8, h0, hn, exitR_exit, ↓preB, postB, genB, ↓reduceIte, Nat.reduceEqDiff, Int.reduceToNat, Int.reduceLE, Int.reduceLT, Nat.reduceAdd, Nat.reduceLeDiff, intBin, strBin, unD, extractD, lit1, lit2, lit3, keptD, boxR, D.one, D.pub1, D.cells, splice, cutOwn]
      exact hT.acc
  · rintro env τ hA
    simp -dsimp only [↓preB, postB, genB, ↓reduceIte, Nat.reduceEqDiff, Int.reduceToNat, Int.reduceLE, Int.reduceLT, Nat.reduceAdd, Nat.reduceLeDiff, intBin, strBin, unD, extractD, lit1, lit2, lit3, keptD, boxR, D.one, D.pub1, D.cells, splice, cutOwn]
    refine Ret.less hA.le hcl hA.told (.no fun d hd => ?_)
    obtain ⟨n, _, rfl⟩ := List.mem_map.1 hd
    exact .int _ _
end Go.Proofs.Ytapkbkniooleaaa.Vs
