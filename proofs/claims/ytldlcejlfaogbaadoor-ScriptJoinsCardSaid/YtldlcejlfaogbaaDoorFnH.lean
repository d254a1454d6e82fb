/- The shifted word by the reference, and how often each row was taken. -/
import Derived.Test.YtldlcejlfaogbaaDoorFnG
namespace Go.Proofs.YtldlcejlfaogbaaDoor.Vs
set_option linter.unusedVariables false
set_option linter.unusedSimpArgs false
set_option maxRecDepth 20000

def bump (c : List Int) (b : Option Nat) : List Int := match b with | none => c | some k => c.set k (c.getD k 0 + 1)
def cntF (t : List Sh) : Nat → Wd → List Int → List Int
  | 0, _, c => c
  | n + 1, w, c => if w.length = 0 then c else cntF t n (w.drop (stepN t w)) (bump c (fitW t w))
def cntW (t : List Sh) (w : Wd) : List Int := cntF t w.length w (List.replicate t.length 0)

theorem bump_len (c : List Int) (b : Option Nat) : (bump c b).length = c.length := by
  unfold bump; cases b <;> simp
theorem cntF_len (t : List Sh) : ∀ (n : Nat) (w : Wd) (c : List Int), (cntF t n w c).length = c.length
  | 0, _, _ => rfl
  | n + 1, w, c => by
    simp only [cntF]
    split
    · rfl
    · rw [cntF_len t n, bump_len]
theorem Shifted_c (t : List Sh) (w : Wd) (h1 : ∀ r ∈ t, r.From ≠ []) (h2 : ∀ r ∈ t, r.To.length ≤ 60) (h3 : w.length ≤ 1000) (h4 : t.length ≤ 1000) : Fn Zs 29 [encT t, encSS w] (.tup [encSS (shiftW t w).1, .bool (shiftW t w).2, encI (cntW t w)]) := by
  refine fn_of (Z := Zs) ok29 fun σ hcl hbl => ?_
  simp -dsimp only [L29, encT, ↓preB, postB, genB, ↓reduceIte, Nat.reduceEqDiff, Int.reduceToNat, Int.reduceLE, Int.reduceLT, Nat.reduceAdd, Nat.reduceLeDiff, intBin, strBin, unD, extractD, lit1, lit2, lit3, keptD, boxR, D.one, D.pub1, D.cells, splice, cutOwn]
  intro hbig
  refine ⟨⟨by omega, by omega, by simp only [big]; omega⟩, ?_⟩
  obtain ⟨q, hq⟩ : ∃ q, q = σ.next := ⟨_, rfl⟩
  have hci : ∀ l : List Int, Closed (σ.new (.cells 3 (l.map (.int .i64)))) := fun l => hcl.new (bel_ints l)
  refine pwp_loopG (fun (x : Wd × Wd × Bool × List Int) env s => (∃ n, x.1.length ≤ n ∧ n ≤ w.length ∧ x.2.1.length + 60 * n ≤ 60 * w.length ∧ x.2.1 ++ (shiftF t n x.1).1 = (shiftW t w).1 ∧ (x.2.2.1 && (shiftF t n x.1).2) = (shiftW t w).2 ∧ cntF t n x.1 x.2.2.2 = cntW t w ∧ x.2.2.2.length = t.length ∧ ∀ c ∈ x.2.2.2, 0 ≤ c ∧ c + n ≤ w.length) ∧
    Acc 9 1 (σ.new (.cells 3 (x.2.2.2.map (.int .i64)))) x.2.1.length (x.2.1.map .str) (env 7) s ∧ env 8 = .bool x.2.2.1 ∧ env 1 = encSS x.1 ∧ env 0 = encT t ∧ env 9 = .row q 0 t.length (some t.length) 1) (fun x => x.1.length) (w, [], true, List.replicate t.length 0) ?_ ?_
  · simp only [upd_apply, envOf_apply, encT, Nat.reduceEqDiff, if_true, if_false, Int.toNat_natCast]
    refine ⟨⟨w.length, Nat.le_refl _, Nat.le_refl _, by simp, rfl, by simp [shiftW], rfl, by simp, fun c hc => ?_⟩, ?_, trivial, rfl, rfl, by rw [hq]⟩
    · obtain ⟨_, rfl⟩ := List.mem_replicate.1 hc
      omega
    · rw [List.map_replicate]; exact Acc.nil (HLe.refl _)
  · rintro ⟨rest, out, cl, cnt⟩ env s ⟨⟨n, hn, hnw, hsz, hp1, hp2, hp3, hcn, hcb⟩, hA, h8, h1', h0, h9⟩
    simp only at hn hsz hp1 hp2 hp3 hcn hcb hA h8 h1'
    obtain ⟨hs, _⟩ := hA.set (x := .cells 3 []) (hci _) (Heap.new_same _ _)
    rw [← hq] at hs
    by_cases hr : rest = []
    · have hneg : ¬ (0 : Int) < rest.length := by rw [hr]; simp
      simp -dsimp only [h8, h1', h0, h9, hneg, encSS, encT, ↓preB, postB, genB, ↓reduceIte, Nat.reduceEqDiff, Int.reduceToNat, Int.reduceLE, Int.reduceLT, Nat.reduceAdd, Nat.reduceLeDiff, intBin, strBin, unD, extractD, lit1, lit2, lit3, keptD, boxR, D.one, D.pub1, D.cells, splice, cutOwn]
      intros
      have e0 : shiftF t n rest = ([], true) := by
        cases n with
        | zero => rfl
        | succ n => simp [shiftF, hr]
      have e1 : cntF t n rest cnt = cnt := by
        cases n with
        | zero => rfl
        | succ n => simp [cntF, hr]
      rw [e0] at hp1 hp2
      rw [e1] at hp3
      simp only [List.append_nil, Bool.and_true] at hp1 hp2
      have hle : HLe σ s := (HLe.self_new _ hcl).trans hA.le
      rw [← hp1, ← hp2, ← hp3]
      refine Ret.less hle hcl (.tup3 hA.told (.refl _) ?_) (.tup3 (.no (bel_strs _)) (.bool _) (.no (bel_ints _)))
      simp only [encI, hcn]
      exact Told.rowI hs (hcl.none (by omega)) (by simp [hcn])
    · have hpos : 0 < rest.length := List.length_pos_iff.2 hr
      have hpos' : (0 : Int) < rest.length := by omega
      obtain ⟨hs1, hs2⟩ := stepN_pos h1 hr
      have hst := stepTo_le (t := t) (w := rest) h2
      obtain ⟨n, rfl⟩ : ∃ m, n = m + 1 := ⟨n - 1, by omega⟩
      have hne : ¬ rest.length = 0 := by omega
      simp only [shiftF, cntF, hne, if_false] at hp1 hp2 hp3
      simp -dsimp only [h8, h1', h0, h9, hpos', encSS, ↓preB, postB, genB, ↓reduceIte, Nat.reduceEqDiff, Int.reduceToNat, Int.reduceLE, Int.reduceLT, Nat.reduceAdd, Nat.reduceLeDiff, intBin, strBin, unD, extractD, lit1, lit2, lit3, keptD, boxR, D.one, D.pub1, D.cells, splice, cutOwn]
      intro hbig2
      refine Fn.use (row_c t rest) ?_
      cases hf : fitW t rest with
      | none =>
        have hx0 : rest[0]? = some (rest[0]'hpos) := List.getElem?_eq_getElem hpos
        have hone : (1 : Int) ≤ rest.length := by omega
        have e1 : stepTo t rest = [rest[0]'hpos] := by
          cases rest with
          | nil => exact absurd rfl hr
          | cons a l => simp [stepTo, hf]
        have e2 : stepN t rest = 1 := by simp [stepN, hf]
        rw [e1, e2] at hp1
        rw [e2, hf] at hp3
        rw [hf] at hp2
        simp only [optI_none, show ¬ ((0 : Int) ≤ -1) by decide, decide_false, Bool.false_and, Bool.and_false] at hp2
        simp -dsimp only [h8, h1', h0, h9, hpos', hpos, hx0, hone, encSS, optI_none, neg1, ↓preB, postB, genB, ↓reduceIte, Nat.reduceEqDiff, Int.reduceToNat, Int.reduceLE, Int.reduceLT, Nat.reduceAdd, Nat.reduceLeDiff, intBin, strBin, unD, extractD, lit1, lit2, lit3, keptD, boxR, D.one, D.pub1, D.cells, splice, cutOwn]
        refine hA.append (hci _) tz29 rfl tz9 rfl rfl rfl (by decide) (by simp) (fedBy_sl tz29 rfl rfl) (by simp only []; omega) (by simp only [big]; omega) fun d' s' hA' => ?_
        simp -dsimp only [h8, h1', h0, h9, hpos', hpos, hx0, hone, encSS, optI_none, neg1, ↓preB, postB, genB, ↓reduceIte, Nat.reduceEqDiff, Int.reduceToNat, Int.reduceLE, Int.reduceLT, Nat.reduceAdd, Nat.reduceLeDiff, intBin, strBin, unD, extractD, lit1, lit2, lit3, keptD, boxR, D.one, D.pub1, D.cells, splice, cutOwn]
        refine ⟨by omega, (rest.drop 1, out ++ [rest[0]'hpos], false, cnt), ⟨⟨n, ?_, by omega, ?_, ?_, by simpa using hp2, hp3, hcn, fun c hc => ?_⟩, by simpa using hA', rfl, ?_⟩, ?_⟩
        · simp only [List.length_drop]; omega
        · simp only [List.length_append, List.length_cons, List.length_nil]; omega
        · rw [← hp1, List.append_assoc]
        · have := hcb c hc; omega
        · exact encSS_drop rest 1 (by omega)
        · simp only [List.length_drop]; omega
      | some j =>
        have hj := fitW_lt hf
        have hjc : j < cnt.length := by omega
        have hcj : cnt[j]? = some (cnt[j]'hjc) := List.getElem?_eq_getElem hjc
        have hcv := hcb _ (List.getElem_mem hjc)
        have hw : IntKind.i64.wrap (cnt[j]'hjc + 1) = cnt[j]'hjc + 1 := wrap64_in (by omega) (by omega)
        have hd := rowsD_at hj
        have hposr : 0 < (rowsD t).length := by rw [rowsD_len]; omega
        have hsp : List.take j (List.map (D.int .i64) cnt) ++ [D.int .i64 (cnt[j]'hjc + 1)] ++ List.drop (j + 1) (List.map (D.int .i64) cnt) = List.map (D.int .i64) (bump cnt (some j)) := by
          rw [splice_one (by simpa using hjc), bump]
          simp [hjc, List.map_set]
        have hA2 := (hA.set (x := .cells 3 ((bump cnt (some j)).map (.int .i64))) (hci _) (Heap.new_same _ _)).2
        rw [Heap.new_set, ← hq] at hA2
        simp -dsimp only [h8, h1', h0, h9, hpos', encT, encSS, optI_some, natneg, hj, hs, hcj, hw, hd, hposr, hsp, ↓preB, postB, genB, ↓reduceIte, Nat.reduceEqDiff, Int.reduceToNat, Int.reduceLE, Int.reduceLT, Nat.reduceAdd, Nat.reduceLeDiff, intBin, strBin, unD, extractD, lit1, lit2, lit3, keptD, boxR, D.one, D.pub1, D.cells, splice, cutOwn]
        have e1 : stepTo t rest = t[j].To := by simp [stepTo, hf, hj]
        have e2 : stepN t rest = t[j].From.length := by simp [stepN, hf, hj]
        rw [e1] at hst
        refine ⟨by omega, hA2.append (hci _) tz29 rfl tz9 rfl rfl rfl (by decide) (by simp) (fedBy_sl tz29 rfl (by simp)) (by simp only []; omega) (by simp only [big]; omega) fun d' s' hA' => ?_⟩
        simp -dsimp only [h8, h1', h0, h9, hpos', encT, encSS, optI_some, natneg, hj, hs, hcj, hw, hd, hposr, hsp, ↓preB, postB, genB, ↓reduceIte, Nat.reduceEqDiff, Int.reduceToNat, Int.reduceLE, Int.reduceLT, Nat.reduceAdd, Nat.reduceLeDiff, intBin, strBin, unD, extractD, lit1, lit2, lit3, keptD, boxR, D.one, D.pub1, D.cells, splice, cutOwn]
        intros
        rw [e2] at hs1 hs2 hp1 hp2 hp3
        rw [e1] at hp1
        rw [hf] at hp2 hp3
        simp only [optI_some, show (0 : Int) ≤ (j : Int) by omega, decide_true, Bool.true_and] at hp2
        refine ⟨⟨by omega, by omega⟩, (rest.drop t[j].From.length, out ++ t[j].To, cl, bump cnt (some j)), ⟨⟨n, ?_, by omega, ?_, ?_, hp2, hp3, by rw [bump_len]; exact hcn, fun c hc => ?_⟩, by simpa using hA', ?_⟩, ?_⟩
        · simp only [List.length_drop]; omega
        · simp only [List.length_append]; omega
        · rw [← hp1, List.append_assoc]
        · simp only [bump] at hc
          rcases List.mem_or_eq_of_mem_set hc with hc | hc
          · have := hcb c hc; omega
          · rw [hc, List.getD_eq_getElem?_getD, hcj]; simp only [Option.getD_some]; omega
        · exact ⟨rfl, encSS_drop rest _ hs2⟩
        · simp only [List.length_drop]; omega

end Go.Proofs.YtldlcejlfaogbaaDoor.Vs
