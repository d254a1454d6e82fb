/- numbers of YtapkbkniooleaaaGreat -/
import Derived.Test.YtapkbkniooleaaaGreatSt1
namespace Go.Proofs.YtapkbkniooleaaaGreat.Vs
set_option linter.unusedVariables false
set_option linter.unusedSimpArgs false
set_option maxRecDepth 100000
def encU (l : List UInt8) : List D := l.map fun b => .int .u8 b.toNat
theorem indexU_c (w : List UInt8) (p : UInt8 → Bool) (g : FuncId) (caps : List D) (hp : ∀ x ∈ w, Fn Zs g (.int .u8 x.toNat :: caps) (.bool (p x))) :
    Fn Zs 36 [.sl .no w.length (encU w), .func g caps] (.int .i64 (idxOf p w)) := by
  refine fn_of (Z := Zs) ok36 fun σ hcl hbl => ?_
  simp -dsimp only [L36, encU, ↓preB, postB, genB, ↓reduceIte, Nat.reduceEqDiff, Int.reduceToNat, Int.reduceLE, Int.reduceLT, Nat.reduceAdd, Nat.reduceLeDiff, intBin, strBin, unD, extractD, lit1, lit2, lit3, keptD, boxR, D.one, D.pub1, D.cells, splice, cutOwn]
  intro hbig
  refine pwp_loopG (fun k env s => k ≤ w.length ∧ (∀ j (h : j < w.length), j < k → p w[j] = false) ∧ s = σ ∧ env 8 = .int .i64 (k:Nat) ∧ env 7 = .int .i64 w.length ∧ env 0 = .sl .no w.length (encU w) ∧ env 1 = .func g caps) (fun k => w.length - k) 0 ?_ ?_
  · simp [upd_apply, envOf, encU]
  · rintro k env s ⟨hk, hp', rfl, h8, h7, h0, h1⟩
    rcases Nat.lt_or_ge k w.length with hlt | hge
    · have hx : w[k]? = some w[k] := List.getElem?_eq_getElem hlt
      simp -dsimp only [h8, h7, h0, h1, encU, hlt, hx, List.length_map, List.getElem?_map, Option.map_some, ↓preB, postB, genB, ↓reduceIte, Nat.reduceEqDiff, Int.reduceToNat, Int.reduceLE, Int.reduceLT, Nat.reduceAdd, Nat.reduceLeDiff, intBin, strBin, unD, extractD, lit1, lit2, lit3, keptD, boxR, D.one, D.pub1, D.cells, splice, cutOwn]
      refine ⟨by omega, Fn.use (hp _ (List.getElem_mem hlt)) ?_⟩
      cases hq : p w[k] <;> simp -dsimp only [h8, h7, h0, h1, hq, ↓preB, postB, genB, ↓reduceIte, Nat.reduceEqDiff, Int.reduceToNat, Int.reduceLE, Int.reduceLT, Nat.reduceAdd, Nat.reduceLeDiff, intBin, strBin, unD, extractD, lit1, lit2, lit3, keptD, boxR, D.one, D.pub1, D.cells, splice, cutOwn]
      · refine ⟨k + 1, ⟨by omega, fun j hj hjk => ?_, wrap64_succ (by omega)⟩, by omega⟩
        rcases Nat.lt_succ_iff_lt_or_eq.1 hjk with h | rfl
        · exact hp' j hj h
        · exact hq
      · refine Ret.is ?_
        have : w.findIdx? p = some k := by
          rw [List.findIdx?_eq_some_iff_getElem]
          exact ⟨hlt, hq, fun j hj => by simp [hp' j (by omega) hj]⟩
        simp [idxOf, this]
    · simp -dsimp only [h8, h7, h0, h1, encU, Nat.not_lt.2 hge, ↓preB, postB, genB, ↓reduceIte, Nat.reduceEqDiff, Int.reduceToNat, Int.reduceLE, Int.reduceLT, Nat.reduceAdd, Nat.reduceLeDiff, intBin, strBin, unD, extractD, lit1, lit2, lit3, keptD, boxR, D.one, D.pub1, D.cells, splice, cutOwn]
      refine Ret.is ?_
      have : w.findIdx? p = none := by
        rw [List.findIdx?_eq_none_iff]
        intro x hx
        obtain ⟨j, hj, rfl⟩ := List.getElem_of_mem hx
        exact hp' j hj (by omega)
      simp [idxOf, this]
theorem containsU_c (w : List UInt8) (p : UInt8 → Bool) (g : FuncId) (caps : List D) (hp : ∀ x ∈ w, Fn Zs g (.int .u8 x.toNat :: caps) (.bool (p x))) :
    Fn Zs 19 [.sl .no w.length (encU w), .func g caps] (.bool (w.any p)) := by
  refine fn_of (Z := Zs) ok19 fun σ hcl hbl => ?_
  simp -dsimp only [L19, ↓preB, postB, genB, ↓reduceIte, Nat.reduceEqDiff, Int.reduceToNat, Int.reduceLE, Int.reduceLT, Nat.reduceAdd, Nat.reduceLeDiff, intBin, strBin, unD, extractD, lit1, lit2, lit3, keptD, boxR, D.one, D.pub1, D.cells, splice, cutOwn]
  refine Fn.use (indexU_c w p g caps hp) ?_
  simp -dsimp only [↓preB, postB, genB, ↓reduceIte, Nat.reduceEqDiff, Int.reduceToNat, Int.reduceLE, Int.reduceLT, Nat.reduceAdd, Nat.reduceLeDiff, intBin, strBin, unD, extractD, lit1, lit2, lit3, keptD, boxR, D.one, D.pub1, D.cells, splice, cutOwn]
  exact Ret.is (by rw [← idxOfT_any])
def bigU (b : UInt8) : Bool := isBigI (b.toNat : Int)
def capsN (s : ByteArray) : Nat := (s.data.toList.filter bigU).length
/-- The text of a token with which a sentence begins. -/
def headW (t : Tok) : ByteArray := if (textB t && isBigI (byteAt t.text 0) && decide (capsN t.text = 1)) = true then lowB t.text else t.text
def normW (l : List Tok) : Wd := (List.range l.length).map fun i => if startB l i = true then headW (l.getD i tk0) else (l.getD i tk0).text
theorem caps_one {s : ByteArray} {b : UInt8} {r : List UInt8} (h : s.data.toList = b :: r) (hb : bigU b = true) : decide (capsN s = 1) = !r.any bigU := by
  unfold capsN
  rw [h, List.filter_cons, if_pos hb, List.length_cons]
  cases hr : r.any bigU
  · have : r.filter bigU = [] := List.filter_eq_nil_iff.2 fun x hx => by simpa using (List.any_eq_false.1 hr) x hx
    rw [this]
    rfl
  · obtain ⟨x, h1, h2⟩ := List.any_eq_true.1 hr
    have : 0 < (r.filter bigU).length := List.length_pos_iff.2 fun e => by
      have := List.mem_filter.2 ⟨h1, h2⟩
      rw [e] at this
      cases this
    rw [decide_eq_false (by omega)]
    rfl
/-- What the texts are after some of the begins. -/
def halfW (l : List Tok) (B : List Nat) : Wd := (List.range l.length).map fun i => if decide (i ∈ B) = true then headW (l.getD i tk0) else (l.getD i tk0).text
theorem half_step (l : List Tok) (B : List Nat) {m : Nat} (h : m < B.length) : halfW l (B.take (m + 1)) = (halfW l (B.take m)).set B[m] (headW (l.getD B[m] tk0)) := by
  rw [List.take_succ_eq_append_getElem h]
  refine List.ext_getElem (by simp [halfW]) fun j h1 h2 => ?_
  rw [List.getElem_set]
  simp only [halfW, List.getElem_map, List.getElem_range, List.mem_append, List.mem_singleton]
  by_cases e : B[m] = j
  · rw [if_pos e]; simp [e]
  · rw [if_neg e]
    have e' : ¬ j = B[m] := fun h => e h.symm
    simp [e']
theorem half_all (l : List Tok) : halfW l (beginsW l) = normW l := by
  unfold halfW normW
  refine List.map_congr_left fun j hj => ?_
  have := List.mem_range.1 hj
  simp [beginsW, this]
theorem half_nil (l : List Tok) : halfW l [] = l.map (·.text) := by
  refine List.ext_getElem (by simp [halfW]) fun j h1 h2 => ?_
  have hj : j < l.length := by simpa using h2
  simp only [halfW, List.getElem_map, List.getElem_range, List.not_mem_nil, decide_false, Bool.false_eq_true, if_false]
  rw [getD_at hj]
theorem half_len (l : List Tok) (B : List Nat) : (halfW l B).length = l.length := by simp [halfW]
def noW (c : Cut) (s : ByteArray) : Wd × Int := if (tokW c s).2 ≠ 0 then ([], (tokW c s).2) else (normW (tokW c s).1, 0)
def encNo (r : Wd × Int) : D := .tup [encSS r.1, .int .i64 r.2]
end Go.Proofs.YtapkbkniooleaaaGreat.Vs
