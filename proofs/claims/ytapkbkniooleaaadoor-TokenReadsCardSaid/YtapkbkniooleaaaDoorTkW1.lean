import Derived.Shelf.Strings.Split
import Derived.Test.YtapkbkniooleaaaDoorTkB
import Derived.Test.YtapkbkniooleaaaDoorTkO
import Derived.Test.YtapkbkniooleaaaDoorTkN
/- numbers of Ytapkbkniooleaaa -/
namespace Go.Proofs.YtapkbkniooleaaaDoor.Vs
open Go.Shelf Go.RowKit
set_option linter.unusedVariables false
set_option linter.unusedSimpArgs false
set_option maxRecDepth 100000
def Tryd.lays144_ren : Go.Shelf.Ren := ⟨fun | 144 => 76 | 143 => 68 | 219 => 65 | 217 => 77 | 225 => 78 | 224 => 79 | 267 => 80 | 266 => 89 | 314 => 90 | n => n, fun | 9 => 9 | 4 => 4 | 3 => 3 | 5 => 5 | 46 => 93 | 146 => 103 | 51 => 102 | n => n, fun | 1 => 0 | n => n⟩
theorem Tryd.lays144 : Go.Proofs.Lays.n144 Tryd.prog Tryd.lays144_ren := {
  mixed := by kernel_rfl
  f143 := Tryd.func68.trans (congrArg some (by kernel_rfl))
  f144 := Tryd.func76.trans (congrArg some (by kernel_rfl))
  f217 := Tryd.func77.trans (congrArg some (by kernel_rfl))
  f219 := Tryd.func65.trans (congrArg some (by kernel_rfl))
  f224 := Tryd.func79.trans (congrArg some (by kernel_rfl))
  f225 := Tryd.func78.trans (congrArg some (by kernel_rfl))
  f266 := Tryd.func89.trans (congrArg some (by kernel_rfl))
  f267 := Tryd.func80.trans (congrArg some (by kernel_rfl))
  f314 := Tryd.func90.trans (congrArg some (by kernel_rfl))
  t3 := Tryd.underlying3
  a3 := Tryd.isAgg3
  z3 := Tryd.sizeOf3
  v3 := Tryd.zeroValue3
  t4 := Tryd.underlying4
  a4 := Tryd.isAgg4
  z4 := Tryd.sizeOf4
  v4 := Tryd.zeroValue4
  t5 := Tryd.underlying5
  a5 := Tryd.isAgg5
  z5 := Tryd.sizeOf5
  v5 := Tryd.zeroValue5
  t9 := Tryd.underlying9
  a9 := Tryd.isAgg9
  z9 := Tryd.sizeOf9
  v9 := Tryd.zeroValue9
  t46 := Tryd.underlying93
  a46 := Tryd.isAgg93
  z46 := Tryd.sizeOf93
  v46 := Tryd.zeroValue93
  t51 := Tryd.underlying102
  a51 := Tryd.isAgg102
  z51 := Tryd.sizeOf102
  v51 := Tryd.zeroValue102
  t146 := Tryd.underlying103
  a146 := Tryd.isAgg103
  z146 := Tryd.sizeOf103
  v146 := Tryd.zeroValue103
  g1 := by kernel_rfl }
theorem Contains1_c (s : ByteArray) (b : UInt8) : Fn Zs 76 [.str s, .str ⟨#[b]⟩] (.bool (decide (0 ≤ Lib.indexByte s.data.toList b))) := by
  obtain ⟨fn, cc, hf, hb, _, _, _, hn, _⟩ := ok76.ok
  refine fn_below (Z := Zs) ⟨fn, hf, by rw [hb]; rfl, hn⟩ fun W s' vs hv hW => ?_
  obtain ⟨v0, v1, rfl⟩ : ∃ a b, vs = #[a, b] := by
    obtain ⟨l⟩ := vs
    match l, hv.1 with
    | [a, b], _ => exact ⟨a, b, rfl⟩
  have e0 : V W (Lim s') v0 (.str s) := hv.2 0 (by simp)
  have e1 : V W (Lim s') v1 (.str ⟨#[b]⟩) := hv.2 1 (by simp)
  cases e0; cases e1
  refine ⟨.bool (decide (0 ≤ Lib.indexByte s.data.toList b)), fun w' => .bool _, ?_⟩
  refine (Any.strings_Contains_one Tryd.lays144 s b W).mono ?_
  rintro e w' ⟨rfl, rfl⟩
  exact ⟨rfl, Below.refl _ _⟩
end Go.Proofs.YtapkbkniooleaaaDoor.Vs

/- numbers of Ytapkbkniooleaaa -/
namespace Go.Proofs.YtapkbkniooleaaaDoor.Vs
set_option linter.unusedVariables false
set_option linter.unusedSimpArgs false
set_option maxRecDepth 100000
/-- A token as it comes: it has a text, a sign one byte. -/
def WFT (t : Tok) : Prop := 1 ≤ t.text.size ∧ (t.kind = 2 → t.text.size = 1)
def signB (q : ByteArray) (t : Tok) : Bool := t.kind == 2 && decide (0 ≤ Lib.indexByte q.data.toList (t.text.data.toList.headD 0))
def textB (t : Tok) : Bool := t.kind == 0 || (t.kind == 3 || t.kind == 4)
def tk0 : Tok := ⟨0, 0, 0, ⟨#[]⟩⟩
def q1 : ByteArray := ⟨#[34, 41, 39]⟩
def q2 : ByteArray := ⟨#[46, 33, 63]⟩
/-- Back over quotes and brackets. -/
def backK (l : List Tok) : Nat → Nat
  | 0 => 0
  | k + 1 => if (signB q1 (l.getD (k + 1) tk0) && (l.getD k tk0).to == (l.getD (k + 1) tk0).fr) = true then backK l k else k + 1
def startB (l : List Tok) (i : Nat) : Bool := if i = 0 then true else signB q2 (l.getD (backK l (i - 1)) tk0) && decide ((l.getD (i - 1) tk0).to < (l.getD i tk0).fr) && !(textB (l.getD i tk0) && isSmallI (byteAt (l.getD i tk0).text 0))
/-- The numbers of tokens with which sentences begin. -/
def beginsW (l : List Tok) : List Nat := (List.range l.length).filter (startB l)
theorem backK_le (l : List Tok) : ∀ k, backK l k ≤ k
  | 0 => Nat.le_refl _
  | k + 1 => by
    rw [backK]
    split
    · have := backK_le l k; omega
    · exact Nat.le_refl _
def encN (l : List Nat) : List D := l.map fun n => .int .i64 (n : Nat)
theorem isText_c (t : Tok) : Fn Zs 64 [.agg (encTk t)] (.bool (textB t)) := by
  refine fn_of (Z := Zs) ok64 fun σ hcl hbl => ?_
  simp -dsimp only [L64, encTk, ↓preB, postB, genB, ↓reduceIte, Nat.reduceEqDiff, Int.reduceToNat, Int.reduceLE, Int.reduceLT, Nat.reduceAdd, Nat.reduceLeDiff, intBin, strBin, unD, extractD, lit1, lit2, lit3, keptD, boxR, D.one, D.pub1, D.cells, splice, cutOwn]
  have done : ∀ (x : Bool), Ret σ (fun d τ => d = .bool x ∧ τ = σ) (.bool x) (σ.new (.cells 44 [.int .i64 t.fr, .int .i64 t.to, .int .i64 t.kind, .str t.text])) := fun x => Ret.isH (HLe.self_new _ hcl) hcl rfl (.bool _)
  unfold textB
  cases e1 : (t.kind == 0) <;> cases e2 : (t.kind == 3) <;> cases e3 : (t.kind == 4)
  all_goals
    simp -dsimp only [e1, e2, e3, List.getElem?_cons_zero, List.getElem?_cons_succ, gate, decide_true, decide_false, Bool.not_true, Bool.not_false, bTT, bTF, bFT, bFF, ↓preB, postB, genB, ↓reduceIte, Nat.reduceEqDiff, Int.reduceToNat, Int.reduceLE, Int.reduceLT, Nat.reduceAdd, Nat.reduceLeDiff, intBin, strBin, unD, extractD, lit1, lit2, lit3, keptD, boxR, D.one, D.pub1, D.cells, splice, cutOwn]
    exact done _
theorem isSign_c (t : Tok) (q : ByteArray) (h : WFT t) : Fn Zs 63 [.agg (encTk t), .str q] (.bool (signB q t)) := by
  refine fn_of (Z := Zs) ok63 fun σ hcl hbl => ?_
  simp -dsimp only [L63, encTk, ↓preB, postB, genB, ↓reduceIte, Nat.reduceEqDiff, Int.reduceToNat, Int.reduceLE, Int.reduceLT, Nat.reduceAdd, Nat.reduceLeDiff, intBin, strBin, unD, extractD, lit1, lit2, lit3, keptD, boxR, D.one, D.pub1, D.cells, splice, cutOwn]
  have done : ∀ (x : Bool), Ret σ (fun d τ => d = .bool x ∧ τ = σ) (.bool x) (σ.new (.cells 44 [.int .i64 t.fr, .int .i64 t.to, .int .i64 t.kind, .str t.text])) := fun x => Ret.isH (HLe.self_new _ hcl) hcl rfl (.bool _)
  unfold signB
  cases e1 : (t.kind == 2)
  · simp -dsimp only [e1, List.getElem?_cons_zero, List.getElem?_cons_succ, gate, decide_true, decide_false, Bool.not_true, Bool.not_false, bTT, bTF, bFT, bFF, ↓preB, postB, genB, ↓reduceIte, Nat.reduceEqDiff, Int.reduceToNat, Int.reduceLE, Int.reduceLT, Nat.reduceAdd, Nat.reduceLeDiff, intBin, strBin, unD, extractD, lit1, lit2, lit3, keptD, boxR, D.one, D.pub1, D.cells, splice, cutOwn]
    exact done _
  · have hk : t.kind = 2 := by simpa using e1
    have h1 := h.2 hk
    obtain ⟨b, hb⟩ : ∃ b, t.text = ⟨#[b]⟩ := by
      have h1' : t.text.data.toList.length = 1 := h1
      obtain ⟨b, hb⟩ := List.length_eq_one_iff.1 h1'
      exact ⟨b, ba_extK (by rw [hb])⟩
    have hC := Contains1_c q b
    rw [← hb] at hC
    have hhd : t.text.data.toList.headD 0 = b := by rw [hb]; rfl
    rw [hhd]
    simp -dsimp only [e1, List.getElem?_cons_zero, List.getElem?_cons_succ, gate, decide_true, decide_false, Bool.not_true, Bool.not_false, bTT, bTF, bFT, bFF, ↓preB, postB, genB, ↓reduceIte, Nat.reduceEqDiff, Int.reduceToNat, Int.reduceLE, Int.reduceLT, Nat.reduceAdd, Nat.reduceLeDiff, intBin, strBin, unD, extractD, lit1, lit2, lit3, keptD, boxR, D.one, D.pub1, D.cells, splice, cutOwn]
    refine Fn.use hC ?_
    cases decide (0 ≤ Lib.indexByte q.data.toList b) <;> (simp -dsimp only [e1, List.getElem?_cons_zero, List.getElem?_cons_succ, gate, decide_true, decide_false, Bool.not_true, Bool.not_false, bTT, bTF, bFT, bFF, ↓preB, postB, genB, ↓reduceIte, Nat.reduceEqDiff, Int.reduceToNat, Int.reduceLE, Int.reduceLT, Nat.reduceAdd, Nat.reduceLeDiff, intBin, strBin, unD, extractD, lit1, lit2, lit3, keptD, boxR, D.one, D.pub1, D.cells, splice, cutOwn]; exact done _)
theorem getD_at {l : List Tok} {k : Nat} (h : k < l.length) : l.getD k tk0 = l[k] := by rw [List.getD_eq_getElem?_getD, List.getElem?_eq_getElem h]; rfl
theorem encTks_get {l : List Tok} {k : Nat} (h : k < l.length) {j : Nat} (hj : j < 4) : (encTks l)[k * 4 + j]? = (encTk l[k])[j]? := by
  rw [← encTks_at h [], List.append_nil, List.getElem?_take, if_pos hj, List.getElem?_drop]
theorem encTks_0 {l : List Tok} {k : Nat} (h : k < l.length) : (encTks l)[k * 4]? = some (.int .i64 l[k].fr) := encTks_get h (j := 0) (by decide)
theorem encTks_1 {l : List Tok} {k : Nat} (h : k < l.length) : (encTks l)[k * 4 + 1]? = some (.int .i64 l[k].to) := encTks_get h (j := 1) (by decide)
theorem encTks_2 {l : List Tok} {k : Nat} (h : k < l.length) : (encTks l)[k * 4 + 2]? = some (.int .i64 l[k].kind) := encTks_get h (j := 2) (by decide)
theorem encTks_3 {l : List Tok} {k : Nat} (h : k < l.length) : (encTks l)[k * 4 + 3]? = some (.str l[k].text) := encTks_get h (j := 3) (by decide)
theorem bs40 (a : Int) (nx : Nat) : buildSliceR Zs 0 40 1 [(0, .int .i64 a)] nx = some (.sl .full 1 [.int .i64 a], .keep) := by rfl
theorem begins_c (l : List Tok) (hl : l.length ≤ 1000000) (hw : ∀ t ∈ l, WFT t) : Fn Zs 38 [.sl .no l.length (encTks l)] (.sl .no (beginsW l).length (encN (beginsW l))) := by
  refine fn_of (Z := Zs) ok38 fun σ hcl hbl => ?_
  simp -dsimp only [L38, ↓preB, postB, genB, ↓reduceIte, Nat.reduceEqDiff, Int.reduceToNat, Int.reduceLE, Int.reduceLT, Nat.reduceAdd, Nat.reduceLeDiff, intBin, strBin, unD, extractD, lit1, lit2, lit3, keptD, boxR, D.one, D.pub1, D.cells, splice, cutOwn]
  intro hlb
  refine pwp_loopJ 0 (fun e τ => Acc 3 1 σ (beginsW l).length (encN (beginsW l)) (e 3) τ) (fun i env τ => i ≤ l.length ∧ Two σ 3 1 ((List.range i).filter (startB l)).length (encN ((List.range i).filter (startB l))) (env 3) 3 1 0 [] (.sl .nil 0 []) τ ∧ env 10 = .int .i64 (i:Nat) ∧ env 9 = .int .i64 l.length ∧ env 8 = .sl .no l.length (encTks l) ∧ env 0 = .sl .no l.length (encTks l)) (fun i => l.length - i) 0 ?_ ?_ ?_
  · simp only [upd_apply, envOf_apply, Nat.reduceEqDiff, if_true, if_false]
    exact ⟨Nat.zero_le _, Two.start hcl, (by first | trivial | rfl | omega), (by first | trivial | rfl | omega), (by first | trivial | rfl | omega), (by first | trivial | rfl | omega)⟩
  · rintro i env τ ⟨hi, hT, h10, h9, h8, h0⟩
    rcases Nat.lt_or_ge i l.length with hlt | hge
    · have hn : (i : Int) < l.length := by omega
      have hl0 : 0 < (encTks l).length := by rw [encTks_len]; omega
      have hat := encTks_at hlt []
      rw [List.append_nil] at hat
      have hi4 : 4 ≤ (encTks l).length - i * 4 := by rw [encTks_len]; omega
      have hrg : (List.range (i + 1)).filter (startB l) = (List.range i).filter (startB l) ++ if startB l i = true then [i] else [] := by
        rw [List.range_succ, List.filter_append]
        congr 1
        cases h : startB l i <;> simp [List.filter, h]
      have hfl : ((List.range i).filter (startB l)).length ≤ i := by have := List.length_filter_le (startB l) (List.range i); simpa using this
      simp -dsimp only [h10, h9, h8, h0, hn, hlt, hl0, hat, hi4, encTk, exitR_exit, ↓preB, postB, genB, ↓reduceIte, Nat.reduceEqDiff, Int.reduceToNat, Int.reduceLE, Int.reduceLT, Nat.reduceAdd, Nat.reduceLeDiff, intBin, strBin, unD, extractD, lit1, lit2, lit3, keptD, boxR, D.one, D.pub1, D.cells, splice, cutOwn]
      obtain ⟨τ2, hτ2⟩ : ∃ τ2, τ2 = τ.new (.cells 44 [.int .i64 l[i].fr, .int .i64 l[i].to, .int .i64 l[i].kind, .str l[i].text]) := ⟨_, rfl⟩
      have hT2 : Two σ 3 1 ((List.range i).filter (startB l)).length (encN ((List.range i).filter (startB l))) (env 3) 3 1 0 [] (.sl .nil 0 []) τ2 := by rw [hτ2]; exact hT.new hcl _
      have hg2 : τ2.get τ.next = some (.cells 44 [.int .i64 l[i].fr, .int .i64 l[i].to, .int .i64 l[i].kind, .str l[i].text]) := by rw [hτ2]; exact Heap.new_same _ _
      have hnx : τ.next + 1 = τ2.next := by rw [hτ2]; rfl
      rw [hnx, ← hτ2]
      clear hτ2 hnx
      have wi : IntKind.i64.wrap ((i : Int) + 1) = ((i + 1 : Nat) : Int) := wrap64_succ (by simp only [big]; omega)
      have hce : (encN ((List.range i).filter (startB l))).length = ((List.range i).filter (startB l)).length := List.length_map ..
      generalize (List.range i).filter (startB l) = B at *
      by_cases i0 : i = 0
      · subst i0
        rw [if_pos (show startB l 0 = true from rfl)] at hrg
        rw [if_pos (show ((((0 : Nat) : Int) == 0) = true) from rfl)]
        refine hT2.append hcl tz40 rfl tz3 rfl rfl rfl (by decide) (by rw [hce]; simp) (fedBy_sl (m := 1) tz40 rfl rfl) (by decide) (by simp only []; omega) (by simp only [big]; omega) fun d6 τ6 hT6 _ => ?_
        simp -dsimp only [h10, h9, h8, h0, wi, exitR_exit, ↓preB, postB, genB, ↓reduceIte, Nat.reduceEqDiff, Int.reduceToNat, Int.reduceLE, Int.reduceLT, Nat.reduceAdd, Nat.reduceLeDiff, intBin, strBin, unD, extractD, lit1, lit2, lit3, keptD, boxR, D.one, D.pub1, D.cells, splice, cutOwn]
        refine ⟨1, ⟨by omega, ?_, rfl⟩, by omega⟩
        rw [hrg, List.length_append, encN, List.map_append]
        exact hT6
      rw [if_neg (by simp only [beq_iff_eq]; omega)]
      have w1 : IntKind.i64.wrap ((i : Int) - 1) = ((i - 1 : Nat) : Int) := by rw [wrap64_in (by omega) (by omega)]; omega
      refine pwp_loopJ 2 (fun e τ' => τ' = τ2 ∧ e 6 = .int .i64 (backK l (i - 1) : Nat) ∧ e 3 = env 3 ∧ e 4 = .int .i64 (i:Nat) ∧ e 5 = .ptr τ.next 0 ∧ e 10 = .int .i64 (i:Nat) ∧ e 9 = .int .i64 l.length ∧ e 8 = .sl .no l.length (encTks l) ∧ e 0 = .sl .no l.length (encTks l)) (fun k e τ' => k ≤ i - 1 ∧ backK l (i - 1) = backK l k ∧ τ' = τ2 ∧ e 6 = .int .i64 (k : Nat) ∧ e 3 = env 3 ∧ e 4 = .int .i64 (i:Nat) ∧ e 5 = .ptr τ.next 0 ∧ e 10 = .int .i64 (i:Nat) ∧ e 9 = .int .i64 l.length ∧ e 8 = .sl .no l.length (encTks l) ∧ e 0 = .sl .no l.length (encTks l)) (fun k => k) (i - 1) ?_ ?_ ?_
      · simp only [upd_apply, h10, h9, h8, h0, w1, Nat.reduceEqDiff, if_true, if_false]
        exact ⟨Nat.le_refl _, (by first | trivial | rfl | omega), (by first | trivial | rfl | omega), (by first | trivial | rfl | omega), (by first | trivial | rfl | omega), (by first | trivial | rfl | omega), (by first | trivial | rfl | omega), (by first | trivial | rfl | omega), (by first | trivial | rfl | omega), (by first | trivial | rfl | omega), (by first | trivial | rfl | omega)⟩
      · clear h10 h9 h8 h0
        rintro k e τ' ⟨hk, hb, rfl, h6, h3, h4, h5, h10, h9, h8, h0⟩
        have hkl : k < l.length := by omega
        have hatk := encTks_at hkl []
        rw [List.append_nil] at hatk
        have hk4 : 4 ≤ (encTks l).length - k * 4 := by rw [encTks_len]; omega
        cases k with
        | zero =>
          simp -dsimp only [h6, h3, h4, h5, h10, h9, h8, h0, show ¬ (0 : Int) < ((0 : Nat) : Int) by decide, exitR_exit, gate, decide_true, decide_false, Bool.not_true, Bool.not_false, bTT, bTF, bFT, bFF, ↓preB, postB, genB, ↓reduceIte, Nat.reduceEqDiff, Int.reduceToNat, Int.reduceLE, Int.reduceLT, Nat.reduceAdd, Nat.reduceLeDiff, intBin, strBin, unD, extractD, lit1, lit2, lit3, keptD, boxR, D.one, D.pub1, D.cells, splice, cutOwn]
          refine draw_s ?_
          simp -dsimp only [h6, h3, h4, h5, h10, h9, h8, h0, show ¬ (0 : Int) < ((0 : Nat) : Int) by decide, exitR_exit, gate, decide_true, decide_false, Bool.not_true, Bool.not_false, bTT, bTF, bFT, bFF, ↓preB, postB, genB, ↓reduceIte, Nat.reduceEqDiff, Int.reduceToNat, Int.reduceLE, Int.reduceLT, Nat.reduceAdd, Nat.reduceLeDiff, intBin, strBin, unD, extractD, lit1, lit2, lit3, keptD, boxR, D.one, D.pub1, D.cells, splice, cutOwn]
          rw [hb]
          rfl
        | succ k =>
          have kp : (0 : Int) < ((k + 1 : Nat) : Int) := by omega
          have hkl' : k < l.length := by omega
          have hatk' := encTks_at hkl' []
          rw [List.append_nil] at hatk'
          have hk4' : 4 ≤ (encTks l).length - k * 4 := by rw [encTks_len]; omega
          have w2 : IntKind.i64.wrap (((k + 1 : Nat) : Int) - 1) = ((k : Nat) : Int) := by rw [wrap64_in (by omega) (by omega)]; omega
          have e1k := encTks_1 hkl'
          have e0k := encTks_0 hkl
          have hS := isSign_c l[k + 1] q1 (hw _ (List.getElem_mem hkl))
          simp only [encTk] at hS hatk hatk'
          rw [backK, getD_at hkl, getD_at hkl'] at hb
          simp -dsimp only [h6, h3, h4, h5, h10, h9, h8, h0, kp, exitR_exit, gate, decide_true, decide_false, Bool.not_true, Bool.not_false, bTT, bTF, bFT, bFF, ↓preB, postB, genB, ↓reduceIte, Nat.reduceEqDiff, Int.reduceToNat, Int.reduceLE, Int.reduceLT, Nat.reduceAdd, Nat.reduceLeDiff, intBin, strBin, unD, extractD, lit1, lit2, lit3, keptD, boxR, D.one, D.pub1, D.cells, splice, cutOwn]
          refine draw_s ?_
          simp -dsimp only [h6, h3, h4, h5, h10, h9, h8, h0, kp, hkl, hl0, hatk, hk4, q1, exitR_exit, gate, decide_true, decide_false, Bool.not_true, Bool.not_false, bTT, bTF, bFT, bFF, ↓preB, postB, genB, ↓reduceIte, Nat.reduceEqDiff, Int.reduceToNat, Int.reduceLE, Int.reduceLT, Nat.reduceAdd, Nat.reduceLeDiff, intBin, strBin, unD, extractD, lit1, lit2, lit3, keptD, boxR, D.one, D.pub1, D.cells, splice, cutOwn]
          refine Fn.useS hS ?_
          cases c1 : signB q1 l[k + 1]
          · rw [c1, Bool.false_and, if_neg (by decide)] at hb
            simp -dsimp only [h6, h3, h4, h5, h10, h9, h8, h0, kp, hkl, hkl', hl0, hatk, hatk', hk4, hk4', w2, q1, exitR_exit, gate, decide_true, decide_false, Bool.not_true, Bool.not_false, bTT, bTF, bFT, bFF, ↓preB, postB, genB, ↓reduceIte, Nat.reduceEqDiff, Int.reduceToNat, Int.reduceLE, Int.reduceLT, Nat.reduceAdd, Nat.reduceLeDiff, intBin, strBin, unD, extractD, lit1, lit2, lit3, keptD, boxR, D.one, D.pub1, D.cells, splice, cutOwn]
            rw [hb]
          · rw [c1, Bool.true_and] at hb
            cases c2 : (l[k].to == l[k + 1].fr)
            · rw [c2, if_neg (by decide)] at hb
              simp -dsimp only [h6, h3, h4, h5, h10, h9, h8, h0, kp, hkl, hkl', hl0, hatk, hatk', hk4, hk4', w2, q1, exitR_exit, c2, e1k, e0k, List.drop_succ_cons, List.drop_zero, List.take_succ_cons, List.take_zero, List.getElem?_cons_zero, List.getElem?_cons_succ, gate, decide_true, decide_false, Bool.not_true, Bool.not_false, bTT, bTF, bFT, bFF, ↓preB, postB, genB, ↓reduceIte, Nat.reduceEqDiff, Int.reduceToNat, Int.reduceLE, Int.reduceLT, Nat.reduceAdd, Nat.reduceLeDiff, intBin, strBin, unD, extractD, lit1, lit2, lit3, keptD, boxR, D.one, D.pub1, D.cells, splice, cutOwn]
              rw [hb]
            · rw [c2, if_pos rfl] at hb
              simp -dsimp only [h6, h3, h4, h5, h10, h9, h8, h0, kp, hkl, hkl', hl0, hatk, hatk', hk4, hk4', w2, q1, exitR_exit, c2, e1k, e0k, List.drop_succ_cons, List.drop_zero, List.take_succ_cons, List.take_zero, List.getElem?_cons_zero, List.getElem?_cons_succ, gate, decide_true, decide_false, Bool.not_true, Bool.not_false, bTT, bTF, bFT, bFF, ↓preB, postB, genB, ↓reduceIte, Nat.reduceEqDiff, Int.reduceToNat, Int.reduceLE, Int.reduceLT, Nat.reduceAdd, Nat.reduceLeDiff, intBin, strBin, unD, extractD, lit1, lit2, lit3, keptD, boxR, D.one, D.pub1, D.cells, splice, cutOwn]
              exact ⟨k, ⟨by omega, hb, rfl⟩, Nat.lt_succ_self _⟩
      clear h10 h9 h8 h0
      rintro e τ' ⟨rfl, h6, h3, h4, h5, h10, h9, h8, h0⟩
      have hbl := backK_le l (i - 1)
      have hst : startB l i = (signB q2 (l.getD (backK l (i - 1)) tk0) && decide ((l.getD (i - 1) tk0).to < (l.getD i tk0).fr) && !(textB (l.getD i tk0) && isSmallI (byteAt (l.getD i tk0).text 0))) := by unfold startB; rw [if_neg i0]
      generalize backK l (i - 1) = k at *
      have hkl : k < l.length := by omega
      have hil : i - 1 < l.length := by omega
      rw [getD_at hkl, getD_at hil, getD_at hlt] at hst
      have hX := isText_c l[i]
      have hS := isSign_c l[k] q2 (hw _ (List.getElem_mem hkl))
      have hatk := encTks_at hkl []
      rw [List.append_nil] at hatk
      have hk4 : 4 ≤ (encTks l).length - k * 4 := by rw [encTks_len]; omega
      have e1k := encTks_1 hil
      simp only [encTk] at hX hS hatk
      simp -dsimp only [h6, h3, h4, h5, h10, h9, h8, h0, hg2, List.length_cons, List.length_nil, Nat.le_refl, Nat.reduceLeDiff, List.drop_zero, List.take_succ_cons, List.take_zero, gate, decide_true, decide_false, Bool.not_true, Bool.not_false, bTT, bTF, bFT, bFF, ↓preB, postB, genB, ↓reduceIte, Nat.reduceEqDiff, Int.reduceToNat, Int.reduceLE, Int.reduceLT, Nat.reduceAdd, Nat.reduceLeDiff, intBin, strBin, unD, extractD, lit1, lit2, lit3, keptD, boxR, D.one, D.pub1, D.cells, splice, cutOwn]
      refine Fn.use hX ?_
      have tx := (hw _ (List.getElem_mem hlt)).1
      have tx1 : (0 : Int) < l[i].text.size := by omega
      have tx2 : 0 < l[i].text.size := by omega
      cases q5 : textB l[i]
      · rw [q5, Bool.false_and, Bool.not_false, Bool.and_true] at hst
        simp -dsimp only [h6, h3, h4, h5, h10, h9, h8, h0, hg2, hkl, hil, hl0, hatk, hk4, w1, e1k, List.length_cons, List.length_nil, Nat.le_refl, Nat.reduceLeDiff, List.drop_zero, List.drop_succ_cons, List.take_succ_cons, List.take_zero, List.getElem?_cons_zero, List.getElem?_cons_succ, q5, gate, decide_true, decide_false, Bool.not_true, Bool.not_false, bTT, bTF, bFT, bFF, ↓preB, postB, genB, ↓reduceIte, Nat.reduceEqDiff, Int.reduceToNat, Int.reduceLE, Int.reduceLT, Nat.reduceAdd, Nat.reduceLeDiff, intBin, strBin, unD, extractD, lit1, lit2, lit3, keptD, boxR, D.one, D.pub1, D.cells, splice, cutOwn]
        refine draw_sR (fun e => e 75 = .bool (startB l i) ∧ e 3 = env 3 ∧ e 4 = .int .i64 (i:Nat) ∧ e 10 = .int .i64 (i:Nat) ∧ e 9 = .int .i64 l.length ∧ e 8 = .sl .no l.length (encTks l) ∧ e 0 = .sl .no l.length (encTks l)) ?_ ?_
        · simp -dsimp only [h6, h3, h4, h5, h10, h9, h8, h0, hg2, hkl, hil, hl0, hatk, hk4, w1, e1k, List.length_cons, List.length_nil, Nat.le_refl, Nat.reduceLeDiff, List.drop_zero, List.drop_succ_cons, List.take_succ_cons, List.take_zero, List.getElem?_cons_zero, List.getElem?_cons_succ, q5, q2, gate, decide_true, decide_false, Bool.not_true, Bool.not_false, bTT, bTF, bFT, bFF, ↓preB, postB, genB, ↓reduceIte, Nat.reduceEqDiff, Int.reduceToNat, Int.reduceLE, Int.reduceLT, Nat.reduceAdd, Nat.reduceLeDiff, intBin, strBin, unD, extractD, lit1, lit2, lit3, keptD, boxR, D.one, D.pub1, D.cells, splice, cutOwn]
          refine Fn.useS hS ?_
          cases c1 : signB q2 l[k]
          · rw [c1, Bool.false_and] at hst
            simp -dsimp only [h6, h3, h4, h5, h10, h9, h8, h0, hg2, hkl, hil, hl0, hatk, hk4, w1, e1k, List.length_cons, List.length_nil, Nat.le_refl, Nat.reduceLeDiff, List.drop_zero, List.drop_succ_cons, List.take_succ_cons, List.take_zero, List.getElem?_cons_zero, List.getElem?_cons_succ, q5, q2, hst, gate, decide_true, decide_false, Bool.not_true, Bool.not_false, bTT, bTF, bFT, bFF, ↓preB, postB, genB, ↓reduceIte, Nat.reduceEqDiff, Int.reduceToNat, Int.reduceLE, Int.reduceLT, Nat.reduceAdd, Nat.reduceLeDiff, intBin, strBin, unD, extractD, lit1, lit2, lit3, keptD, boxR, D.one, D.pub1, D.cells, splice, cutOwn]
          · rw [c1, Bool.true_and] at hst
            by_cases c2 : l[i - 1].to < l[i].fr
            · rw [decide_eq_true c2] at hst
              simp -dsimp only [h6, h3, h4, h5, h10, h9, h8, h0, hg2, hkl, hil, hl0, hatk, hk4, w1, e1k, List.length_cons, List.length_nil, Nat.le_refl, Nat.reduceLeDiff, List.drop_zero, List.drop_succ_cons, List.take_succ_cons, List.take_zero, List.getElem?_cons_zero, List.getElem?_cons_succ, q5, q2, c2, hst, gate, decide_true, decide_false, Bool.not_true, Bool.not_false, bTT, bTF, bFT, bFF, ↓preB, postB, genB, ↓reduceIte, Nat.reduceEqDiff, Int.reduceToNat, Int.reduceLE, Int.reduceLT, Nat.reduceAdd, Nat.reduceLeDiff, intBin, strBin, unD, extractD, lit1, lit2, lit3, keptD, boxR, D.one, D.pub1, D.cells, splice, cutOwn]
            · rw [decide_eq_false c2] at hst
              simp -dsimp only [h6, h3, h4, h5, h10, h9, h8, h0, hg2, hkl, hil, hl0, hatk, hk4, w1, e1k, List.length_cons, List.length_nil, Nat.le_refl, Nat.reduceLeDiff, List.drop_zero, List.drop_succ_cons, List.take_succ_cons, List.take_zero, List.getElem?_cons_zero, List.getElem?_cons_succ, q5, q2, c2, hst, gate, decide_true, decide_false, Bool.not_true, Bool.not_false, bTT, bTF, bFT, bFF, ↓preB, postB, genB, ↓reduceIte, Nat.reduceEqDiff, Int.reduceToNat, Int.reduceLE, Int.reduceLT, Nat.reduceAdd, Nat.reduceLeDiff, intBin, strBin, unD, extractD, lit1, lit2, lit3, keptD, boxR, D.one, D.pub1, D.cells, splice, cutOwn]
        · clear h6 h3 h4 h5 h10 h9 h8 h0
          rintro e ⟨g75, h3, h4, h10, h9, h8, h0⟩
          cases c3 : startB l i
          · rw [c3, if_neg (by decide), List.append_nil] at hrg
            simp -dsimp only [g75, h3, h4, h10, h9, h8, h0, c3, wi, exitR_exit, gate, decide_true, decide_false, Bool.not_true, Bool.not_false, bTT, bTF, bFT, bFF, ↓preB, postB, genB, ↓reduceIte, Nat.reduceEqDiff, Int.reduceToNat, Int.reduceLE, Int.reduceLT, Nat.reduceAdd, Nat.reduceLeDiff, intBin, strBin, unD, extractD, lit1, lit2, lit3, keptD, boxR, D.one, D.pub1, D.cells, splice, cutOwn]
            refine ⟨i + 1, ⟨by omega, ?_, rfl⟩, by omega⟩
            rw [hrg]
            exact hT2
          · rw [c3, if_pos rfl] at hrg
            simp -dsimp only [g75, h3, h4, h10, h9, h8, h0, c3, bs40, exitR_exit, gate, decide_true, decide_false, Bool.not_true, Bool.not_false, bTT, bTF, bFT, bFF, ↓preB, postB, genB, ↓reduceIte, Nat.reduceEqDiff, Int.reduceToNat, Int.reduceLE, Int.reduceLT, Nat.reduceAdd, Nat.reduceLeDiff, intBin, strBin, unD, extractD, lit1, lit2, lit3, keptD, boxR, D.one, D.pub1, D.cells, splice, cutOwn]
            refine hT2.append hcl tz40 rfl tz3 rfl rfl rfl (by decide) (by rw [hce]; simp) (fedBy_sl (m := 1) tz40 rfl rfl) (by decide) (by simp only []; omega) (by simp only [big]; omega) fun d6 τ6 hT6 _ => ?_
            simp -dsimp only [h10, h9, h8, h0, wi, exitR_exit, ↓preB, postB, genB, ↓reduceIte, Nat.reduceEqDiff, Int.reduceToNat, Int.reduceLE, Int.reduceLT, Nat.reduceAdd, Nat.reduceLeDiff, intBin, strBin, unD, extractD, lit1, lit2, lit3, keptD, boxR, D.one, D.pub1, D.cells, splice, cutOwn]
            refine ⟨i + 1, ⟨by omega, ?_, rfl⟩, by omega⟩
            rw [hrg, List.length_append, encN, List.map_append]
            exact hT6
      · rw [q5, Bool.true_and] at hst
        simp -dsimp only [h6, h3, h4, h5, h10, h9, h8, h0, hg2, hkl, hil, hl0, hatk, hk4, w1, e1k, List.length_cons, List.length_nil, Nat.le_refl, Nat.reduceLeDiff, List.drop_zero, List.drop_succ_cons, List.take_succ_cons, List.take_zero, List.getElem?_cons_zero, List.getElem?_cons_succ, q5, tx1, tx2, gate, decide_true, decide_false, Bool.not_true, Bool.not_false, bTT, bTF, bFT, bFF, ↓preB, postB, genB, ↓reduceIte, Nat.reduceEqDiff, Int.reduceToNat, Int.reduceLE, Int.reduceLT, Nat.reduceAdd, Nat.reduceLeDiff, intBin, strBin, unD, extractD, lit1, lit2, lit3, keptD, boxR, D.one, D.pub1, D.cells, splice, cutOwn]
        refine Fn.use (isSmall_c _) ?_
        cases q6 : isSmallI (byteAt l[i].text 0)
        · rw [q6, Bool.not_false, Bool.and_true] at hst
          simp -dsimp only [h6, h3, h4, h5, h10, h9, h8, h0, hg2, hkl, hil, hl0, hatk, hk4, w1, e1k, List.length_cons, List.length_nil, Nat.le_refl, Nat.reduceLeDiff, List.drop_zero, List.drop_succ_cons, List.take_succ_cons, List.take_zero, List.getElem?_cons_zero, List.getElem?_cons_succ, q5, q6, tx1, tx2, gate, decide_true, decide_false, Bool.not_true, Bool.not_false, bTT, bTF, bFT, bFF, ↓preB, postB, genB, ↓reduceIte, Nat.reduceEqDiff, Int.reduceToNat, Int.reduceLE, Int.reduceLT, Nat.reduceAdd, Nat.reduceLeDiff, intBin, strBin, unD, extractD, lit1, lit2, lit3, keptD, boxR, D.one, D.pub1, D.cells, splice, cutOwn]
          refine draw_sR (fun e => e 75 = .bool (startB l i) ∧ e 3 = env 3 ∧ e 4 = .int .i64 (i:Nat) ∧ e 10 = .int .i64 (i:Nat) ∧ e 9 = .int .i64 l.length ∧ e 8 = .sl .no l.length (encTks l) ∧ e 0 = .sl .no l.length (encTks l)) ?_ ?_
          · simp -dsimp only [h6, h3, h4, h5, h10, h9, h8, h0, hg2, hkl, hil, hl0, hatk, hk4, w1, e1k, List.length_cons, List.length_nil, Nat.le_refl, Nat.reduceLeDiff, List.drop_zero, List.drop_succ_cons, List.take_succ_cons, List.take_zero, List.getElem?_cons_zero, List.getElem?_cons_succ, q5, q6, q2, gate, decide_true, decide_false, Bool.not_true, Bool.not_false, bTT, bTF, bFT, bFF, ↓preB, postB, genB, ↓reduceIte, Nat.reduceEqDiff, Int.reduceToNat, Int.reduceLE, Int.reduceLT, Nat.reduceAdd, Nat.reduceLeDiff, intBin, strBin, unD, extractD, lit1, lit2, lit3, keptD, boxR, D.one, D.pub1, D.cells, splice, cutOwn]
            refine Fn.useS hS ?_
            cases c1 : signB q2 l[k]
            · rw [c1, Bool.false_and] at hst
              simp -dsimp only [h6, h3, h4, h5, h10, h9, h8, h0, hg2, hkl, hil, hl0, hatk, hk4, w1, e1k, List.length_cons, List.length_nil, Nat.le_refl, Nat.reduceLeDiff, List.drop_zero, List.drop_succ_cons, List.take_succ_cons, List.take_zero, List.getElem?_cons_zero, List.getElem?_cons_succ, q5, q6, q2, hst, gate, decide_true, decide_false, Bool.not_true, Bool.not_false, bTT, bTF, bFT, bFF, ↓preB, postB, genB, ↓reduceIte, Nat.reduceEqDiff, Int.reduceToNat, Int.reduceLE, Int.reduceLT, Nat.reduceAdd, Nat.reduceLeDiff, intBin, strBin, unD, extractD, lit1, lit2, lit3, keptD, boxR, D.one, D.pub1, D.cells, splice, cutOwn]
            · rw [c1, Bool.true_and] at hst
              by_cases c2 : l[i - 1].to < l[i].fr
              · rw [decide_eq_true c2] at hst
                simp -dsimp only [h6, h3, h4, h5, h10, h9, h8, h0, hg2, hkl, hil, hl0, hatk, hk4, w1, e1k, List.length_cons, List.length_nil, Nat.le_refl, Nat.reduceLeDiff, List.drop_zero, List.drop_succ_cons, List.take_succ_cons, List.take_zero, List.getElem?_cons_zero, List.getElem?_cons_succ, q5, q6, q2, c2, hst, gate, decide_true, decide_false, Bool.not_true, Bool.not_false, bTT, bTF, bFT, bFF, ↓preB, postB, genB, ↓reduceIte, Nat.reduceEqDiff, Int.reduceToNat, Int.reduceLE, Int.reduceLT, Nat.reduceAdd, Nat.reduceLeDiff, intBin, strBin, unD, extractD, lit1, lit2, lit3, keptD, boxR, D.one, D.pub1, D.cells, splice, cutOwn]
              · rw [decide_eq_false c2] at hst
                simp -dsimp only [h6, h3, h4, h5, h10, h9, h8, h0, hg2, hkl, hil, hl0, hatk, hk4, w1, e1k, List.length_cons, List.length_nil, Nat.le_refl, Nat.reduceLeDiff, List.drop_zero, List.drop_succ_cons, List.take_succ_cons, List.take_zero, List.getElem?_cons_zero, List.getElem?_cons_succ, q5, q6, q2, c2, hst, gate, decide_true, decide_false, Bool.not_true, Bool.not_false, bTT, bTF, bFT, bFF, ↓preB, postB, genB, ↓reduceIte, Nat.reduceEqDiff, Int.reduceToNat, Int.reduceLE, Int.reduceLT, Nat.reduceAdd, Nat.reduceLeDiff, intBin, strBin, unD, extractD, lit1, lit2, lit3, keptD, boxR, D.one, D.pub1, D.cells, splice, cutOwn]
          · clear h6 h3 h4 h5 h10 h9 h8 h0
            rintro e ⟨g75, h3, h4, h10, h9, h8, h0⟩
            cases c3 : startB l i
            · rw [c3, if_neg (by decide), List.append_nil] at hrg
              simp -dsimp only [g75, h3, h4, h10, h9, h8, h0, c3, wi, exitR_exit, gate, decide_true, decide_false, Bool.not_true, Bool.not_false, bTT, bTF, bFT, bFF, ↓preB, postB, genB, ↓reduceIte, Nat.reduceEqDiff, Int.reduceToNat, Int.reduceLE, Int.reduceLT, Nat.reduceAdd, Nat.reduceLeDiff, intBin, strBin, unD, extractD, lit1, lit2, lit3, keptD, boxR, D.one, D.pub1, D.cells, splice, cutOwn]
              refine ⟨i + 1, ⟨by omega, ?_, rfl⟩, by omega⟩
              rw [hrg]
              exact hT2
            · rw [c3, if_pos rfl] at hrg
              simp -dsimp only [g75, h3, h4, h10, h9, h8, h0, c3, bs40, exitR_exit, gate, decide_true, decide_false, Bool.not_true, Bool.not_false, bTT, bTF, bFT, bFF, ↓preB, postB, genB, ↓reduceIte, Nat.reduceEqDiff, Int.reduceToNat, Int.reduceLE, Int.reduceLT, Nat.reduceAdd, Nat.reduceLeDiff, intBin, strBin, unD, extractD, lit1, lit2, lit3, keptD, boxR, D.one, D.pub1, D.cells, splice, cutOwn]
              refine hT2.append hcl tz40 rfl tz3 rfl rfl rfl (by decide) (by rw [hce]; simp) (fedBy_sl (m := 1) tz40 rfl rfl) (by decide) (by simp only []; omega) (by simp only [big]; omega) fun d6 τ6 hT6 _ => ?_
              simp -dsimp only [h10, h9, h8, h0, wi, exitR_exit, ↓preB, postB, genB, ↓reduceIte, Nat.reduceEqDiff, Int.reduceToNat, Int.reduceLE, Int.reduceLT, Nat.reduceAdd, Nat.reduceLeDiff, intBin, strBin, unD, extractD, lit1, lit2, lit3, keptD, boxR, D.one, D.pub1, D.cells, splice, cutOwn]
              refine ⟨i + 1, ⟨by omega, ?_, rfl⟩, by omega⟩
              rw [hrg, List.length_append, encN, List.map_append]
              exact hT6
        · rw [q6, Bool.not_true, Bool.and_false] at hst
          simp -dsimp only [h6, h3, h4, h5, h10, h9, h8, h0, hg2, hkl, hil, hl0, hatk, hk4, w1, e1k, List.length_cons, List.length_nil, Nat.le_refl, Nat.reduceLeDiff, List.drop_zero, List.drop_succ_cons, List.take_succ_cons, List.take_zero, List.getElem?_cons_zero, List.getElem?_cons_succ, q5, q6, tx1, tx2, gate, decide_true, decide_false, Bool.not_true, Bool.not_false, bTT, bTF, bFT, bFF, ↓preB, postB, genB, ↓reduceIte, Nat.reduceEqDiff, Int.reduceToNat, Int.reduceLE, Int.reduceLT, Nat.reduceAdd, Nat.reduceLeDiff, intBin, strBin, unD, extractD, lit1, lit2, lit3, keptD, boxR, D.one, D.pub1, D.cells, splice, cutOwn]
          refine draw_sR (fun e => e 75 = .bool (startB l i) ∧ e 3 = env 3 ∧ e 4 = .int .i64 (i:Nat) ∧ e 10 = .int .i64 (i:Nat) ∧ e 9 = .int .i64 l.length ∧ e 8 = .sl .no l.length (encTks l) ∧ e 0 = .sl .no l.length (encTks l)) ?_ ?_
          · simp -dsimp only [h6, h3, h4, h5, h10, h9, h8, h0, hg2, hkl, hil, hl0, hatk, hk4, w1, e1k, List.length_cons, List.length_nil, Nat.le_refl, Nat.reduceLeDiff, List.drop_zero, List.drop_succ_cons, List.take_succ_cons, List.take_zero, List.getElem?_cons_zero, List.getElem?_cons_succ, q5, q6, q2, gate, decide_true, decide_false, Bool.not_true, Bool.not_false, bTT, bTF, bFT, bFF, ↓preB, postB, genB, ↓reduceIte, Nat.reduceEqDiff, Int.reduceToNat, Int.reduceLE, Int.reduceLT, Nat.reduceAdd, Nat.reduceLeDiff, intBin, strBin, unD, extractD, lit1, lit2, lit3, keptD, boxR, D.one, D.pub1, D.cells, splice, cutOwn]
            refine Fn.useS hS ?_
            cases c1 : signB q2 l[k]
            · simp -dsimp only [h6, h3, h4, h5, h10, h9, h8, h0, hg2, hkl, hil, hl0, hatk, hk4, w1, e1k, List.length_cons, List.length_nil, Nat.le_refl, Nat.reduceLeDiff, List.drop_zero, List.drop_succ_cons, List.take_succ_cons, List.take_zero, List.getElem?_cons_zero, List.getElem?_cons_succ, q5, q6, q2, hst, gate, decide_true, decide_false, Bool.not_true, Bool.not_false, bTT, bTF, bFT, bFF, ↓preB, postB, genB, ↓reduceIte, Nat.reduceEqDiff, Int.reduceToNat, Int.reduceLE, Int.reduceLT, Nat.reduceAdd, Nat.reduceLeDiff, intBin, strBin, unD, extractD, lit1, lit2, lit3, keptD, boxR, D.one, D.pub1, D.cells, splice, cutOwn]
            · by_cases c2 : l[i - 1].to < l[i].fr
              · simp -dsimp only [h6, h3, h4, h5, h10, h9, h8, h0, hg2, hkl, hil, hl0, hatk, hk4, w1, e1k, List.length_cons, List.length_nil, Nat.le_refl, Nat.reduceLeDiff, List.drop_zero, List.drop_succ_cons, List.take_succ_cons, List.take_zero, List.getElem?_cons_zero, List.getElem?_cons_succ, q5, q6, q2, c2, hst, gate, decide_true, decide_false, Bool.not_true, Bool.not_false, bTT, bTF, bFT, bFF, ↓preB, postB, genB, ↓reduceIte, Nat.reduceEqDiff, Int.reduceToNat, Int.reduceLE, Int.reduceLT, Nat.reduceAdd, Nat.reduceLeDiff, intBin, strBin, unD, extractD, lit1, lit2, lit3, keptD, boxR, D.one, D.pub1, D.cells, splice, cutOwn]
              · simp -dsimp only [h6, h3, h4, h5, h10, h9, h8, h0, hg2, hkl, hil, hl0, hatk, hk4, w1, e1k, List.length_cons, List.length_nil, Nat.le_refl, Nat.reduceLeDiff, List.drop_zero, List.drop_succ_cons, List.take_succ_cons, List.take_zero, List.getElem?_cons_zero, List.getElem?_cons_succ, q5, q6, q2, c2, hst, gate, decide_true, decide_false, Bool.not_true, Bool.not_false, bTT, bTF, bFT, bFF, ↓preB, postB, genB, ↓reduceIte, Nat.reduceEqDiff, Int.reduceToNat, Int.reduceLE, Int.reduceLT, Nat.reduceAdd, Nat.reduceLeDiff, intBin, strBin, unD, extractD, lit1, lit2, lit3, keptD, boxR, D.one, D.pub1, D.cells, splice, cutOwn]
          · clear h6 h3 h4 h5 h10 h9 h8 h0
            rintro e ⟨g75, h3, h4, h10, h9, h8, h0⟩
            cases c3 : startB l i
            · rw [c3, if_neg (by decide), List.append_nil] at hrg
              simp -dsimp only [g75, h3, h4, h10, h9, h8, h0, c3, wi, exitR_exit, gate, decide_true, decide_false, Bool.not_true, Bool.not_false, bTT, bTF, bFT, bFF, ↓preB, postB, genB, ↓reduceIte, Nat.reduceEqDiff, Int.reduceToNat, Int.reduceLE, Int.reduceLT, Nat.reduceAdd, Nat.reduceLeDiff, intBin, strBin, unD, extractD, lit1, lit2, lit3, keptD, boxR, D.one, D.pub1, D.cells, splice, cutOwn]
              refine ⟨i + 1, ⟨by omega, ?_, rfl⟩, by omega⟩
              rw [hrg]
              exact hT2
            · rw [c3, if_pos rfl] at hrg
              simp -dsimp only [g75, h3, h4, h10, h9, h8, h0, c3, bs40, exitR_exit, gate, decide_true, decide_false, Bool.not_true, Bool.not_false, bTT, bTF, bFT, bFF, ↓preB, postB, genB, ↓reduceIte, Nat.reduceEqDiff, Int.reduceToNat, Int.reduceLE, Int.reduceLT, Nat.reduceAdd, Nat.reduceLeDiff, intBin, strBin, unD, extractD, lit1, lit2, lit3, keptD, boxR, D.one, D.pub1, D.cells, splice, cutOwn]
              refine hT2.append hcl tz40 rfl tz3 rfl rfl rfl (by decide) (by rw [hce]; simp) (fedBy_sl (m := 1) tz40 rfl rfl) (by decide) (by simp only []; omega) (by simp only [big]; omega) fun d6 τ6 hT6 _ => ?_
              simp -dsimp only [h10, h9, h8, h0, wi, exitR_exit, ↓preB, postB, genB, ↓reduceIte, Nat.reduceEqDiff, Int.reduceToNat, Int.reduceLE, Int.reduceLT, Nat.reduceAdd, Nat.reduceLeDiff, intBin, strBin, unD, extractD, lit1, lit2, lit3, keptD, boxR, D.one, D.pub1, D.cells, splice, cutOwn]
              refine ⟨i + 1, ⟨by omega, ?_, rfl⟩, by omega⟩
              rw [hrg, List.length_append, encN, List.map_append]
              exact hT6
    · have hn : ¬ (i : Int) < l.length := by omega
      have : i = l.length := by omega
      subst this
      simp -dsimp only [h10, h9, h8, h0, hn, exitR_exit, ↓preB, postB, genB, ↓reduceIte, Nat.reduceEqDiff, Int.reduceToNat, Int.reduceLE, Int.reduceLT, Nat.reduceAdd, Nat.reduceLeDiff, intBin, strBin, unD, extractD, lit1, lit2, lit3, keptD, boxR, D.one, D.pub1, D.cells, splice, cutOwn]
      exact hT.acc
  · rintro env τ hA
    simp -dsimp only [↓preB, postB, genB, ↓reduceIte, Nat.reduceEqDiff, Int.reduceToNat, Int.reduceLE, Int.reduceLT, Nat.reduceAdd, Nat.reduceLeDiff, intBin, strBin, unD, extractD, lit1, lit2, lit3, keptD, boxR, D.one, D.pub1, D.cells, splice, cutOwn]
    refine Ret.less hA.le hcl hA.told (.no fun d hd => ?_)
    obtain ⟨n, _, rfl⟩ := List.mem_map.1 hd
    exact .int _ _
end Go.Proofs.YtapkbkniooleaaaDoor.Vs

/- numbers of Ytapkbkniooleaaa -/
namespace Go.Proofs.YtapkbkniooleaaaDoor.Vs
set_option linter.unusedVariables false
set_option linter.unusedSimpArgs false
set_option maxRecDepth 100000
end Go.Proofs.YtapkbkniooleaaaDoor.Vs

/- numbers of Ytapkbkniooleaaa -/
namespace Go.Proofs.YtapkbkniooleaaaDoor.Vs
set_option linter.unusedVariables false
set_option linter.unusedSimpArgs false
set_option maxRecDepth 100000
/-- What is longest, and of which kind. -/
def kindN (u n w : Nat) : Int := if max (max (max u n) w) 1 = u then 3 else if max (max (max u n) w) 1 = n then 1 else if max (max (max u n) w) 1 = w then 0 else 2
theorem best_nat (u1 u2 n w : Nat) : [(u1, (3 : Int)), (u2, 3), (n, 1), (w, 0), (1, 2)].foldl bestS (0, 2) = (max (max (max (max u1 u2) n) w) 1, kindN (max u1 u2) n w) := by
  have h1 : bestS (bestS (0, 2) (u1, (3 : Int))) (u2, 3) = if max u1 u2 = 0 then (0, 2) else (max u1 u2, 3) := by
    unfold bestS
    simp only []
    by_cases c1 : 0 < u1
    · rw [if_pos c1]
      simp only []
      have hne : ¬ max u1 u2 = 0 := by omega
      by_cases c2 : u1 < u2
      · rw [if_pos c2, if_neg hne, Nat.max_eq_right (by omega)]
      · rw [if_neg c2, if_neg hne, Nat.max_eq_left (by omega)]
    · rw [if_neg c1]
      simp only []
      have : u1 = 0 := by omega
      subst this
      rw [Nat.zero_max]
      by_cases c2 : 0 < u2
      · rw [if_pos c2, if_neg (by omega)]
      · rw [if_neg c2, if_pos (by omega)]
  simp only [List.foldl_cons, List.foldl_nil]
  rw [h1]
  generalize max u1 u2 = u
  unfold kindN bestS
  by_cases hu : u = 0
  · subst hu
    rw [if_pos rfl]
    simp only [Nat.zero_max]
    by_cases c1 : 0 < n
    · rw [if_pos c1]
      simp only []
      by_cases c2 : n < w
      · rw [if_pos c2]
        simp only []
        rw [if_neg (by omega), Nat.max_eq_right (show n ≤ w by omega), Nat.max_eq_left (show 1 ≤ w by omega), if_neg (by omega), if_neg (by omega), if_pos rfl]
      · rw [if_neg c2]
        simp only []
        rw [if_neg (by omega), Nat.max_eq_left (show w ≤ n by omega), Nat.max_eq_left (show 1 ≤ n by omega), if_neg (by omega), if_pos rfl]
    · rw [if_neg c1]
      simp only []
      have : n = 0 := by omega
      subst this
      simp only [Nat.zero_max]
      by_cases c2 : 0 < w
      · rw [if_pos c2]
        simp only []
        rw [if_neg (by omega), Nat.max_eq_left (show 1 ≤ w by omega), if_neg (by omega), if_neg (by omega), if_pos rfl]
      · rw [if_neg c2]
        simp only []
        have : w = 0 := by omega
        subst this
        decide
  · rw [if_neg hu]
    simp only []
    by_cases c1 : u < n
    · rw [if_pos c1]
      simp only []
      by_cases c2 : n < w
      · rw [if_pos c2]
        simp only []
        rw [if_neg (by omega), Nat.max_eq_right (show u ≤ n by omega), Nat.max_eq_right (show n ≤ w by omega), Nat.max_eq_left (show 1 ≤ w by omega), if_neg (by omega), if_neg (by omega), if_pos rfl]
      · rw [if_neg c2]
        simp only []
        rw [if_neg (by omega), Nat.max_eq_right (show u ≤ n by omega), Nat.max_eq_left (show w ≤ n by omega), Nat.max_eq_left (show 1 ≤ n by omega), if_neg (by omega), if_pos rfl]
    · rw [if_neg c1]
      simp only []
      by_cases c2 : u < w
      · rw [if_pos c2]
        simp only []
        rw [if_neg (by omega), Nat.max_eq_left (show n ≤ u by omega), Nat.max_eq_right (show u ≤ w by omega), Nat.max_eq_left (show 1 ≤ w by omega), if_neg (by omega), if_neg (by omega), if_pos rfl]
      · rw [if_neg c2]
        simp only []
        rw [if_neg (by omega), Nat.max_eq_left (show n ≤ u by omega), Nat.max_eq_left (show w ≤ u by omega), Nat.max_eq_left (show 1 ≤ u by omega), if_pos rfl]
theorem bestW_is (c : Cut) (t : ByteArray) : bestW c t = (max (max (max (max (unitW c.words t) (unitW c.short t)) (numW t)) (wordW t)) 1, kindN (max (unitW c.words t) (unitW c.short t)) (numW t) (wordW t)) := best_nat _ _ _ _
end Go.Proofs.YtapkbkniooleaaaDoor.Vs

/- numbers of Ytapkbkniooleaaa -/
namespace Go.Proofs.YtapkbkniooleaaaDoor.Vs
set_option linter.unusedVariables false
set_option linter.unusedSimpArgs false
set_option maxRecDepth 100000
theorem frontW_wf (l : List ByteArray) : ∀ (k f : Nat) (s : ByteArray), 1 ≤ s.size → 1 ≤ (frontW l k f s).2.2.size ∧ ∀ t ∈ (frontW l k f s).1, 1 ≤ t.text.size ∧ t.kind = 4
  | 0, f, s, h => ⟨h, fun t ht => by simp [frontW] at ht⟩
  | k + 1, f, s, h => by
    have hn := edgeW_lt preW l (lowB s)
    rw [lowB_size] at hn
    by_cases h0 : edgeW preW l (lowB s) = 0
    · rw [frontW_zero h0]; exact ⟨h, fun t ht => by simp at ht⟩
    · have ih := frontW_wf l k (f + edgeW preW l (lowB s)) (s.extract (edgeW preW l (lowB s)) s.size) (by rw [ByteArray.size_extract]; omega)
      simp only [frontW, if_neg h0]
      refine ⟨ih.1, fun t ht => ?_⟩
      rcases List.mem_cons.1 ht with rfl | ht
      · exact ⟨by simp only [ByteArray.size_extract]; omega, rfl⟩
      · exact ih.2 t ht
theorem backW_wf (l : List ByteArray) : ∀ (k f : Nat) (s : ByteArray), 1 ≤ s.size → 1 ≤ (backW l k f s).2.size ∧ ∀ t ∈ (backW l k f s).1, 1 ≤ t.text.size ∧ t.kind = 5
  | 0, f, s, h => ⟨h, fun t ht => by simp [backW] at ht⟩
  | k + 1, f, s, h => by
    have hn := edgeW_lt sufW l (lowB s)
    rw [lowB_size] at hn
    by_cases h0 : edgeW sufW l (lowB s) = 0
    · rw [backW_zero h0]; exact ⟨h, fun t ht => by simp at ht⟩
    · have ih := backW_wf l k f (s.extract 0 (s.size - edgeW sufW l (lowB s))) (by rw [ByteArray.size_extract]; omega)
      simp only [backW, if_neg h0]
      refine ⟨ih.1, fun t ht => ?_⟩
      rcases List.mem_cons.1 ht with rfl | ht
      · exact ⟨by simp only [ByteArray.size_extract]; omega, rfl⟩
      · exact ih.2 t ht
theorem cliticsW_wf (front back : Wd) (f : Nat) (s : ByteArray) (h : 1 ≤ s.size) : ∀ t ∈ cliticsW front back f s, WFT t := by
  have h1 := frontW_wf front s.size f s h
  have h2 := backW_wf back (frontW front s.size f s).2.2.size (frontW front s.size f s).2.1 (frontW front s.size f s).2.2 h1.1
  intro t ht
  unfold cliticsW at ht
  simp only [List.mem_append, List.mem_cons, List.mem_reverse] at ht
  rcases ht with ht | rfl | ht
  · exact ⟨(h1.2 t ht).1, fun hk => by rw [(h1.2 t ht).2] at hk; exact absurd hk (by decide)⟩
  · exact ⟨h2.1, fun hk => absurd hk (by simp)⟩
  · exact ⟨(h2.2 t ht).1, fun hk => by rw [(h2.2 t ht).2] at hk; exact absurd hk (by decide)⟩
theorem kindN_two {u n w : Nat} (h : kindN u n w = 2) : max (max (max u n) w) 1 = 1 := by
  unfold kindN at h
  split at h
  · cases h
  · split at h
    · cases h
    · split at h
      · cases h
      · omega
theorem cutW_wf (c : Cut) (s : ByteArray) : ∀ k a, a ≤ s.size → ∀ t ∈ cutW c s k a, WFT t
  | 0, a, _, t, ht => by simp [cutW] at ht
  | k + 1, a, ha, t, ht => by
    rw [cutW_step] at ht
    split at ht
    · rename_i h
      split at ht
      · exact cutW_wf c s k (a + 1) (by omega) t ht
      · have hp := bestW_pos c (sfx s a)
        have hl := bestW_le c (t := sfx s a) (by rw [sfx_size]; omega)
        rw [sfx_size] at hl
        rcases List.mem_append.1 ht with ht | ht
        · have hz : (s.extract a (a + (bestW c (sfx s a)).1)).size = (bestW c (sfx s a)).1 := by rw [ByteArray.size_extract]; omega
          unfold someW at ht
          split at ht
          · exact cliticsW_wf _ _ _ _ (by omega) t ht
          · have := List.mem_singleton.1 ht
            subst this
            refine ⟨by simp only []; omega, fun hk => ?_⟩
            simp only [] at hk ⊢
            rw [hz]
            rw [bestW_is] at hk ⊢
            exact kindN_two hk
        · exact cutW_wf c s k _ (by omega) t ht
    · simp at ht
theorem tokW_wf (c : Cut) (s : ByteArray) : (tokW c s).1.length ≤ 200 ∧ ∀ t ∈ (tokW c s).1, WFT t := by
  unfold tokW
  split
  · exact ⟨by simp, fun t ht => by simp at ht⟩
  · split
    · exact ⟨by simp, fun t ht => by simp at ht⟩
    · split
      · exact ⟨by simp, fun t ht => by simp at ht⟩
      · exact ⟨by simp only []; omega, cutW_wf c s _ 0 (Nat.zero_le _)⟩
/-- The numbers of tokens with which sentences begin, and what is wrong. -/
def sentW (c : Cut) (s : ByteArray) : List Nat × Int := if (tokW c s).2 ≠ 0 then ([], (tokW c s).2) else (beginsW (tokW c s).1, 0)
def encSt (r : List Nat × Int) : D := .tup [.sl .no r.1.length (encN r.1), .int .i64 r.2]
theorem bel_N {N : Nat} (l : List Nat) : ∀ d ∈ encN l, Bel N d := fun d hd => by
  obtain ⟨n, _, rfl⟩ := List.mem_map.1 hd
  exact .int _ _
theorem Sentences_c (c : Cut) (s : ByteArray) : Fn Zs 19 [encC c, .str s] (encSt (sentW c s)) := by
  refine fn_of (Z := Zs) ok19 fun σ hcl hbl => ?_
  simp -dsimp only [L19, encC, ↓preB, postB, genB, ↓reduceIte, Nat.reduceEqDiff, Int.reduceToNat, Int.reduceLE, Int.reduceLT, Nat.reduceAdd, Nat.reduceLeDiff, intBin, strBin, unD, extractD, lit1, lit2, lit3, keptD, boxR, D.one, D.pub1, D.cells, splice, cutOwn]
  obtain ⟨H, hH⟩ : ∃ H, H = σ.new (.cells 36 (cellsC c)) := ⟨_, rfl⟩
  have hle1 : HLe σ H := by rw [hH]; exact HLe.self_new _ hcl
  have hg1 : H.get σ.next = some (.cells 36 (cellsC c)) := by rw [hH]; exact Heap.new_same _ _
  rw [← hH]
  clear hH
  have hlen : (cellsC c).length = 4 := rfl
  have htk : (cellsC c).take 4 = cellsC c := rfl
  have hT := Tokens_c c s
  obtain ⟨w1, w2⟩ := tokW_wf c s
  have hB := begins_c (tokW c s).1 (by omega) w2
  unfold encC encTok at hT
  simp -dsimp only [hg1, hlen, htk, List.drop_zero, ↓preB, postB, genB, ↓reduceIte, Nat.reduceEqDiff, Int.reduceToNat, Int.reduceLE, Int.reduceLT, Nat.reduceAdd, Nat.reduceLeDiff, intBin, strBin, unD, extractD, lit1, lit2, lit3, keptD, boxR, D.one, D.pub1, D.cells, splice, cutOwn]
  refine Fn.use hT ?_
  unfold sentW
  by_cases e0 : (tokW c s).2 = 0
  · have c0 : ((tokW c s).2 != 0) = false := by rw [e0]; rfl
    rw [if_neg (by simpa using e0)]
    simp -dsimp only [c0, List.getElem?_cons_zero, List.getElem?_cons_succ, gate, decide_true, decide_false, Bool.not_true, Bool.not_false, bTT, bTF, bFT, bFF, ↓preB, postB, genB, ↓reduceIte, Nat.reduceEqDiff, Int.reduceToNat, Int.reduceLE, Int.reduceLT, Nat.reduceAdd, Nat.reduceLeDiff, intBin, strBin, unD, extractD, lit1, lit2, lit3, keptD, boxR, D.one, D.pub1, D.cells, splice, cutOwn]
    refine Fn.use hB ?_
    simp -dsimp only [↓preB, postB, genB, ↓reduceIte, Nat.reduceEqDiff, Int.reduceToNat, Int.reduceLE, Int.reduceLT, Nat.reduceAdd, Nat.reduceLeDiff, intBin, strBin, unD, extractD, lit1, lit2, lit3, keptD, boxR, D.one, D.pub1, D.cells, splice, cutOwn]
    exact Ret.isH hle1 hcl rfl (.tup _ fun d hd => by
      simp only [List.mem_cons, List.not_mem_nil, or_false] at hd
      rcases hd with rfl | rfl
      · exact .no (bel_N _)
      · exact .int _ _)
  · have c0 : ((tokW c s).2 != 0) = true := by simpa using e0
    rw [if_pos e0]
    simp -dsimp only [c0, List.getElem?_cons_zero, List.getElem?_cons_succ, gate, decide_true, decide_false, Bool.not_true, Bool.not_false, bTT, bTF, bFT, bFF, ↓preB, postB, genB, ↓reduceIte, Nat.reduceEqDiff, Int.reduceToNat, Int.reduceLE, Int.reduceLT, Nat.reduceAdd, Nat.reduceLeDiff, intBin, strBin, unD, extractD, lit1, lit2, lit3, keptD, boxR, D.one, D.pub1, D.cells, splice, cutOwn]
    exact Ret.less hle1 hcl (.tup _ _ rfl fun i h1 h2 => by
      match i, h1, h2 with
      | 0, _, _ => exact .sl .nil .no 0 [] _ (.inl rfl) rfl fun i h => absurd h (Nat.not_lt_zero _)
      | 1, _, _ => exact .refl _) (.tup _ fun d hd => by
      simp only [List.mem_cons, List.not_mem_nil, or_false] at hd
      rcases hd with rfl | rfl
      · exact .sl _ _ _ (fun r z he => by cases he) (fun d hd => absurd hd List.not_mem_nil)
      · exact .int _ _)
def kc : Cut := ⟨[], [⟨#[68, 114, 46]⟩], [], [⟨#[39, 115]⟩]⟩
def ks : ByteArray := ⟨#[68, 114, 46, 32, 76, 101, 101, 39, 115, 32, 99, 97, 116, 46, 32, 73, 116, 32, 114, 97, 110, 46]⟩
theorem ktok : (tokW kc ks).2 = 0 ∧ (tokW kc ks).1.length = 8 ∧ ((tokW kc ks).1.getD 2 tk0).text = ⟨#[39, 115]⟩ ∧ ((tokW kc ks).1.getD 2 tk0).kind = 5 ∧ (beginsW (tokW kc ks).1).length = 2 ∧ (beginsW (tokW kc ks).1).getD 1 0 = 5 := by
  decide +kernel
def kcD : List D := [.sl .nil 0 [], .sl .full 1 [.str ⟨#[68, 114, 46]⟩], .sl .nil 0 [], .sl .full 1 [.str ⟨#[39, 115]⟩]]
theorem ab24 : aBuilt Zs 36 [(1, .sl .full 1 [.str ⟨#[68, 114, 46]⟩]), (3, .sl .full 1 [.str ⟨#[39, 115]⟩])] = some kcD := by rfl
theorem kc_told (σ : Heap) : Told σ σ (.agg kcD) (encC kc) := .agg _ _ rfl fun i h1 h2 => by
  match i, h1, h2 with
  | 0, _, _ => exact .pub1 _ _ (.sl .nil 0 [])
  | 1, _, _ => exact .pub1 _ _ (.sl .full 1 [.str ⟨#[68, 114, 46]⟩])
  | 2, _, _ => exact .pub1 _ _ (.sl .nil 0 [])
  | 3, _, _ => exact .pub1 _ _ (.sl .full 1 [.str ⟨#[39, 115]⟩])
theorem kc_args {f : FuncId} {x : D} (h : Fn Zs f [encC kc, .str ks] x) : Fn Zs f [.agg kcD, .str ks] x := fun σ => (h σ).args rfl fun i h1 h2 => by
  match i, h1, h2 with
  | 0, _, _ => exact ⟨kc_told σ, fun _ => .agg _ (bel_C kc)⟩
  | 1, _, _ => exact ⟨.refl _, fun h => h⟩
theorem tk_get {l : List Tok} {k : Nat} (h : k < l.length) : l[k] = l.getD k tk0 := (getD_at h).symm
theorem encN_get {l : List Nat} {k : Nat} (h : k < l.length) : (encN l)[k]? = some (.int .i64 (l.getD k 0 : Nat)) := by
  rw [encN, List.getElem?_map, List.getElem?_eq_getElem h, List.getD_eq_getElem?_getD, List.getElem?_eq_getElem h]
  rfl
theorem known_c : Fn Zs 7 [] (.bool true) := by
  obtain ⟨k1, k2, k3, k4, k5, k6⟩ := ktok
  have hT := kc_args (Tokens_c kc ks)
  have hS := kc_args (Sentences_c kc ks)
  unfold encTok at hT
  unfold encSt sentW at hS
  rw [if_neg (by rw [k1]; decide)] at hS
  rw [k1] at hT
  simp only [] at hT hS
  have b2 : 2 < (tokW kc ks).1.length := by omega
  have b1 : 1 < (beginsW (tokW kc ks).1).length := by omega
  have e3 := encTks_3 b2
  have e2 := encTks_2 b2
  rw [tk_get b2, k3] at e3
  rw [tk_get b2, k4] at e2
  have e1 := encN_get b1
  rw [k6] at e1
  have n1 : (encTks (tokW kc ks).1).length = 32 := by rw [encTks_len, k2]
  have n2 : (encN (beginsW (tokW kc ks).1)).length = 2 := by rw [encN, List.length_map, k5]
  rw [k2] at hT
  rw [k5] at hS
  generalize encTks (tokW kc ks).1 = T at *
  generalize encN (beginsW (tokW kc ks).1) = B at *
  clear b1 b2 k1 k2 k3 k4 k5 k6
  refine fn_of (Z := Zs) ok7 fun σ hcl hbl => ?_
  simp -dsimp only [L7, ↓preB, postB, genB, ↓reduceIte, Nat.reduceEqDiff, Int.reduceToNat, Int.reduceLE, Int.reduceLT, Nat.reduceAdd, Nat.reduceLeDiff, intBin, strBin, unD, extractD, lit1, lit2, lit3, keptD, boxR, D.one, D.pub1, D.cells, splice, cutOwn]
  simp -dsimp only [ab24, Option.map_some, ↓preB, postB, genB, ↓reduceIte, Nat.reduceEqDiff, Int.reduceToNat, Int.reduceLE, Int.reduceLT, Nat.reduceAdd, Nat.reduceLeDiff, intBin, strBin, unD, extractD, lit1, lit2, lit3, keptD, boxR, D.one, D.pub1, D.cells, splice, cutOwn]
  have hlen : kcD.length = 4 := rfl
  have htk : kcD.take 4 = kcD := rfl
  have hap : kcD ++ List.drop kcD.length [D.sl .nil 0 [], D.sl .nil 0 [], D.sl .nil 0 [], D.sl .nil 0 []] = kcD := rfl
  have hap4 : kcD ++ List.drop 4 [D.sl .nil 0 [], D.sl .nil 0 [], D.sl .nil 0 [], D.sl .nil 0 []] = kcD := rfl
  obtain ⟨H, hH⟩ : ∃ H, H = σ.new (.cells 36 kcD) := ⟨_, rfl⟩
  have hle1 : HLe σ H := by rw [hH]; exact HLe.self_new _ hcl
  have hg1 : H.get σ.next = some (.cells 36 kcD) := by rw [hH]; exact Heap.new_same _ _
  simp only [hap, hap4, hlen, htk, ← hH]
  clear hH
  refine ⟨⟨trivial, Nat.le_refl _⟩, Nat.le_refl _, ?_⟩
  refine Fn.use hT ?_
  simp -dsimp only [hg1, hap, hap4, hlen, htk, List.drop_zero, List.getElem?_cons_zero, List.getElem?_cons_succ, Nat.le_refl, ↓preB, postB, genB, ↓reduceIte, Nat.reduceEqDiff, Int.reduceToNat, Int.reduceLE, Int.reduceLT, Nat.reduceAdd, Nat.reduceLeDiff, intBin, strBin, unD, extractD, lit1, lit2, lit3, keptD, boxR, D.one, D.pub1, D.cells, splice, cutOwn]
  refine Fn.use hS ?_
  simp -dsimp only [List.getElem?_cons_zero, List.getElem?_cons_succ, e1, e2, e3, n1, n2, show ((0 : Int) == 0) = true from rfl, show (((8 : Nat) : Int) == 8) = true from rfl, show ((⟨#[39, 115]⟩ : ByteArray) == ⟨#[39, 115]⟩) = true from ba_refl _, show ((5 : Int) == 5) = true from rfl, show (((5 : Nat) : Int) == 5) = true from rfl, show (((2 : Nat) : Int) == 2) = true from rfl, show ((8 : Int) == 8) = true from rfl, show ((2 : Int) == 2) = true from rfl, gate, decide_true, decide_false, Bool.not_true, Bool.not_false, bTT, bTF, bFT, bFF, ↓preB, postB, genB, ↓reduceIte, Nat.reduceEqDiff, Int.reduceToNat, Int.reduceLE, Int.reduceLT, Nat.reduceAdd, Nat.reduceLeDiff, intBin, strBin, unD, extractD, lit1, lit2, lit3, keptD, boxR, D.one, D.pub1, D.cells, splice, cutOwn]
  exact fun _ => ⟨by decide, by decide, fun _ => ⟨by decide, Ret.isH hle1 hcl rfl (.bool _)⟩⟩
end Go.Proofs.YtapkbkniooleaaaDoor.Vs
