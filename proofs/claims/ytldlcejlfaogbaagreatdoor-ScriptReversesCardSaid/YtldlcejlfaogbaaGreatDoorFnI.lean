/- How much there is in a table and a word: some number. -/
import Derived.Test.YtldlcejlfaogbaaGreatDoorFnBx
namespace Go.Proofs.YtldlcejlfaogbaaGreatDoor.Vs
set_option linter.unusedVariables false
set_option linter.unusedSimpArgs false
set_option maxRecDepth 20000
def bytesIn : Wd → Int → Int
  | [], n => n
  | s :: w, n => if n ≤ 100000 then bytesIn w (IntKind.i64.wrap (n + (s.size : Int))) else n
def bytesF : List Wd → Int → Int
  | [], n => n
  | w :: l, n => if n ≤ 100000 then bytesF l (bytesIn w (IntKind.i64.wrap (n + IntKind.i64.wrap (1 + (w.length : Int))))) else n
theorem bytesIn_big {w : Wd} {n : Int} (h : ¬ n ≤ 100000) : bytesIn w n = n := by
  cases w <;> simp [bytesIn, h]
theorem bytesF_big {l : List Wd} {n : Int} (h : ¬ n ≤ 100000) : bytesF l n = n := by
  cases l <;> simp [bytesF, h]

theorem bytes_c (l : List Wd) : Fn Zs 9 [encLL l] (.int .i64 (bytesF l 0)) := by
  refine fn_of (Z := Zs) ok9 fun σ hcl hbl => ?_
  simp -dsimp only [L9, encLL, ↓preB, postB, genB, ↓reduceIte, Nat.reduceEqDiff, Int.reduceToNat, Int.reduceLE, Int.reduceLT, Nat.reduceAdd, Nat.reduceLeDiff, intBin, strBin, unD, extractD, lit1, lit2, lit3, keptD, boxR, D.one, D.pub1, D.cells, splice, cutOwn]
  refine pwp_loopG (fun k env s => k ≤ l.length ∧ (∃ n, env 3 = .int .i64 n ∧ bytesF (l.drop k) n = bytesF l 0) ∧ s = σ ∧ env 4 = .int .i64 (k:Nat) ∧ env 0 = encLL l) (fun k => l.length - k) 0 ?_ ?_
  · simp [upd_apply, envOf_apply, encLL]
  · rintro k env s ⟨hk, ⟨n, h3, hp⟩, rfl, h4, h0⟩
    rcases Nat.lt_or_ge k l.length with hlt | hge
    · have hx : l[k]? = some l[k] := List.getElem?_eq_getElem hlt
      have hlp : 0 < l.length := by omega
      by_cases hn : n ≤ 100000
      · rw [List.drop_eq_getElem_cons hlt, bytesF, if_pos hn] at hp
        simp -dsimp only [h3, h4, h0, encLL, encSS, hlt, hx, hn, hlp, ↓preB, postB, genB, ↓reduceIte, Nat.reduceEqDiff, Int.reduceToNat, Int.reduceLE, Int.reduceLT, Nat.reduceAdd, Nat.reduceLeDiff, intBin, strBin, unD, extractD, lit1, lit2, lit3, keptD, boxR, D.one, D.pub1, D.cells, splice, cutOwn]
        intro hbig hbig2
        refine pwp_loopG (fun j env' s' => j ≤ l[k].length ∧ (∃ n', env' 3 = .int .i64 n' ∧ bytesIn (l[k].drop j) n' = bytesIn l[k] (IntKind.i64.wrap (n + IntKind.i64.wrap (1 + (l[k].length : Int))))) ∧ s' = s ∧ env' 5 = .int .i64 (j:Nat) ∧ env' 4 = .int .i64 (k:Nat) ∧ env' 0 = encLL l) (fun j => l[k].length - j) 0 ?_ ?_
        · simp [upd_apply, h4, h0]
        · rintro j env' s' ⟨hj, ⟨n', h3, hq⟩, rfl, h5, h4, h0⟩
          rcases Nat.lt_or_ge j l[k].length with hjl | hjl
          · have hy : (l[k])[j]? = some ((l[k])[j]) := List.getElem?_eq_getElem hjl
            have hyp : 0 < l[k].length := by omega
            by_cases hn' : n' ≤ 100000
            · rw [List.drop_eq_getElem_cons hjl, bytesIn, if_pos hn'] at hq
              simp -dsimp only [h3, h4, h5, h0, encLL, encSS, hlt, hx, hn', hlp, hjl, hy, hyp, hbig2, ↓preB, postB, genB, ↓reduceIte, Nat.reduceEqDiff, Int.reduceToNat, Int.reduceLE, Int.reduceLT, Nat.reduceAdd, Nat.reduceLeDiff, intBin, strBin, unD, extractD, lit1, lit2, lit3, keptD, boxR, D.one, D.pub1, D.cells, splice, cutOwn]
              exact fun _ => ⟨j + 1, ⟨by omega, hq, wrap64_succ (by omega)⟩, by omega⟩
            · rw [bytesIn_big hn'] at hq
              simp -dsimp only [h3, h4, h5, h0, encLL, encSS, hlt, hx, hn', hlp, hjl, hy, hyp, hbig2, ↓preB, postB, genB, ↓reduceIte, Nat.reduceEqDiff, Int.reduceToNat, Int.reduceLE, Int.reduceLT, Nat.reduceAdd, Nat.reduceLeDiff, intBin, strBin, unD, extractD, lit1, lit2, lit3, keptD, boxR, D.one, D.pub1, D.cells, splice, cutOwn]
              exact ⟨k + 1, ⟨by omega, by rw [hq]; exact hp, wrap64_succ (by omega)⟩, by omega⟩
          · rw [List.drop_of_length_le hjl, bytesIn] at hq
            simp -dsimp only [h3, h4, h5, h0, encLL, encSS, hlt, hx, hlp, Nat.not_lt.2 hjl, hbig2, ↓preB, postB, genB, ↓reduceIte, Nat.reduceEqDiff, Int.reduceToNat, Int.reduceLE, Int.reduceLT, Nat.reduceAdd, Nat.reduceLeDiff, intBin, strBin, unD, extractD, lit1, lit2, lit3, keptD, boxR, D.one, D.pub1, D.cells, splice, cutOwn]
            exact ⟨k + 1, ⟨by omega, by rw [hq]; exact hp, wrap64_succ (by omega)⟩, by omega⟩
      · rw [bytesF_big hn] at hp
        simp -dsimp only [h3, h4, h0, encLL, encSS, hlt, hx, hn, hlp, ↓preB, postB, genB, ↓reduceIte, Nat.reduceEqDiff, Int.reduceToNat, Int.reduceLE, Int.reduceLT, Nat.reduceAdd, Nat.reduceLeDiff, intBin, strBin, unD, extractD, lit1, lit2, lit3, keptD, boxR, D.one, D.pub1, D.cells, splice, cutOwn]
        intros
        exact Ret.is (by rw [hp])
    · rw [List.drop_of_length_le hge, bytesF] at hp
      simp -dsimp only [h3, h4, h0, encLL, Nat.not_lt.2 hge, ↓preB, postB, genB, ↓reduceIte, Nat.reduceEqDiff, Int.reduceToNat, Int.reduceLE, Int.reduceLT, Nat.reduceAdd, Nat.reduceLeDiff, intBin, strBin, unD, extractD, lit1, lit2, lit3, keptD, boxR, D.one, D.pub1, D.cells, splice, cutOwn]
      intros
      exact Ret.is (by rw [hp])

def overF : List Sh → Int → Int
  | [], n => n
  | r :: t, n => if n ≤ 100000 then overF t (IntKind.i64.wrap (n + bytesF [r.From, r.To] 0)) else n
theorem overF_big {t : List Sh} {n : Int} (h : ¬ n ≤ 100000) : overF t n = n := by
  cases t <;> simp [overF, h]
theorem over_c (t : List Sh) : Fn Zs 8 [encT t] (.bool (decide (100000 < overF t t.length))) := by
  refine fn_of (Z := Zs) ok8 fun σ hcl hbl => ?_
  simp -dsimp only [L8, encT, ↓preB, postB, genB, ↓reduceIte, Nat.reduceEqDiff, Int.reduceToNat, Int.reduceLE, Int.reduceLT, Nat.reduceAdd, Nat.reduceLeDiff, intBin, strBin, unD, extractD, lit1, lit2, lit3, keptD, boxR, D.one, D.pub1, D.cells, splice, cutOwn]
  intro hbig
  refine pwp_loopG (fun k env s => k ≤ t.length ∧ (∃ n, env 3 = .int .i64 n ∧ overF (t.drop k) n = overF t t.length) ∧ s = σ ∧ env 4 = .int .i64 (k:Nat) ∧ env 0 = encT t) (fun k => t.length - k) 0 ?_ ?_
  · simp [upd_apply, envOf_apply, encT]
  · rintro k env s ⟨hk, ⟨n, h3, hp⟩, rfl, h4, h0⟩
    rcases Nat.lt_or_ge k t.length with hlt | hge
    · have hd := rowsD_at hlt
      have hpos : 0 < (rowsD t).length := by rw [rowsD_len]; omega
      by_cases hn : n ≤ 100000
      · rw [List.drop_eq_getElem_cons hlt, overF, if_pos hn] at hp
        simp -dsimp only [h3, h4, h0, encT, hlt, hd, hpos, hn, hbig, ↓preB, postB, genB, ↓reduceIte, Nat.reduceEqDiff, Int.reduceToNat, Int.reduceLE, Int.reduceLT, Nat.reduceAdd, Nat.reduceLeDiff, intBin, strBin, unD, extractD, lit1, lit2, lit3, keptD, boxR, D.one, D.pub1, D.cells, splice, cutOwn]
        refine draw_s ?_
        simp -dsimp only [h3, h4, h0, encT, encSS, hlt, hd, hpos, hn, hbig, ↓preB, postB, genB, ↓reduceIte, Nat.reduceEqDiff, Int.reduceToNat, Int.reduceLE, Int.reduceLT, Nat.reduceAdd, Nat.reduceLeDiff, intBin, strBin, unD, extractD, lit1, lit2, lit3, keptD, boxR, D.one, D.pub1, D.cells, splice, cutOwn]
        refine Fn.useSP (bytes_c [t[k].From, t[k].To]) rfl ?_
        simp -dsimp only [h3, h4, h0, encT, encSS, hlt, hd, hpos, hn, hbig, ↓preB, postB, genB, ↓reduceIte, Nat.reduceEqDiff, Int.reduceToNat, Int.reduceLE, Int.reduceLT, Nat.reduceAdd, Nat.reduceLeDiff, intBin, strBin, unD, extractD, lit1, lit2, lit3, keptD, boxR, D.one, D.pub1, D.cells, splice, cutOwn]
        exact ⟨k + 1, ⟨by omega, hp, wrap64_succ (by omega)⟩, by omega⟩
      · rw [overF_big hn] at hp
        simp -dsimp only [h3, h4, h0, encT, hlt, hd, hpos, hn, hbig, ↓preB, postB, genB, ↓reduceIte, Nat.reduceEqDiff, Int.reduceToNat, Int.reduceLE, Int.reduceLT, Nat.reduceAdd, Nat.reduceLeDiff, intBin, strBin, unD, extractD, lit1, lit2, lit3, keptD, boxR, D.one, D.pub1, D.cells, splice, cutOwn]
        exact Ret.is (by rw [hp])
    · rw [List.drop_of_length_le hge, overF] at hp
      simp -dsimp only [h3, h4, h0, encT, Nat.not_lt.2 hge, hbig, ↓preB, postB, genB, ↓reduceIte, Nat.reduceEqDiff, Int.reduceToNat, Int.reduceLE, Int.reduceLT, Nat.reduceAdd, Nat.reduceLeDiff, intBin, strBin, unD, extractD, lit1, lit2, lit3, keptD, boxR, D.one, D.pub1, D.cells, splice, cutOwn]
      exact Ret.is (by rw [hp])
end Go.Proofs.YtldlcejlfaogbaaGreatDoor.Vs
