import Derived.Test.YtldlcejlfaogbaaGreatDoorCodeA
import Derived.Test.YtldlcejlfaogbaaGreatDoorDmLib2
import Derived.Test.YtldlcejlfaogbaaGreatDoorFnKey
/- Words joined by their numbers; the reference's search for the shortest word. -/
namespace Go.Proofs.YtldlcejlfaogbaaGreatDoor.Vs
set_option linter.unusedVariables false
set_option linter.unusedSimpArgs false
set_option maxRecDepth 20000
def restsD (B : Bl) : List D := B.map fun p => encSS p.1
theorem restsD_len (B : Bl) : (restsD B).length = B.length := by simp [restsD]
def leastD (B : Bl) : List D := B.map fun p => .int .i64 (p.2 : Int)
theorem leastD_len (B : Bl) : (leastD B).length = B.length := by simp [leastD]
/-- The reference's table of rests, in the heap. -/
def BH (l : List Wd) (q : Nat) (B : Bl) (s : Heap) : Prop :=
  ∃ d1 d2, s.get q = some (.cells 171 [encLL l, d1, d2]) ∧ q < s.next ∧ ((B = [] ∧ d1 = .sl .nil 0 [] ∧ d2 = .sl .nil 0 []) ∨
    B ≠ [] ∧ ∃ r1 r2, q < r1 ∧ q < r2 ∧ r1 ≠ r2 ∧ r1 < s.next ∧ r2 < s.next ∧ d1 = .sl (.tip r1 1) B.length (restsD B) ∧ d2 = .row r2 0 B.length none 1 ∧ s.get r1 = some (.tip 23 B.length) ∧ s.get r2 = some (.cells 3 (leastD B)))
theorem BH.d1 {l : List Wd} {q : Nat} {B : Bl} {s : Heap} (h : BH l q B s) : ∃ o1 d2, s.get q = some (.cells 171 [encLL l, .sl o1 B.length (restsD B), d2]) ∧ (B ≠ [] → ∃ r1 r2, q < r1 ∧ q < r2 ∧ r1 ≠ r2 ∧ r1 < s.next ∧ r2 < s.next ∧ o1 = .tip r1 1 ∧ d2 = .row r2 0 B.length none 1 ∧ s.get r1 = some (.tip 23 B.length) ∧ s.get r2 = some (.cells 3 (leastD B))) ∧ (B = [] → o1 = .nil ∧ d2 = .sl .nil 0 []) ∧ q < s.next := by
  obtain ⟨d1, d2, h1, h2, h3⟩ := h
  rcases h3 with ⟨rfl, rfl, rfl⟩ | ⟨h0, r1, r2, a, b, c, d, e, rfl, rfl, f, g⟩
  · exact ⟨_, _, h1, fun h => absurd rfl h, fun _ => ⟨rfl, rfl⟩, h2⟩
  · exact ⟨_, _, h1, fun _ => ⟨r1, r2, a, b, c, d, e, rfl, rfl, f, g⟩, fun h => absurd h h0, h2⟩

theorem put_c (l : List Wd) (q : Nat) (B : Bl) (r : Wd) (n : Nat) (hB : B.length ≤ 10000) (σ : Heap) (hb : BH l q B σ) :
    PCall Zs 121 [.ptr q 0, encSS r, .int .i64 n] σ (fun d τ => d = .bool (putB B r n).1 ∧ BH l q (putB B r n).2 τ ∧ σ.next ≤ τ.next ∧ ∀ i, i < q → τ.get i = σ.get i) := by
  obtain ⟨o1, d2, hq, hne, he, hlt⟩ := hb.d1
  refine pcall_of (Z := Zs) ok121 fun hcl hbl => ?_
  simp -dsimp only [L121, ↓preB, postB, genB, ↓reduceIte, Nat.reduceEqDiff, Int.reduceToNat, Int.reduceLE, Int.reduceLT, Nat.reduceAdd, Nat.reduceLeDiff, intBin, strBin, unD, extractD, lit1, lit2, lit3, keptD, boxR, D.one, D.pub1, D.cells, splice, cutOwn]
  refine pwp_loopG (fun k env s => k ≤ B.length ∧ ((putB B r n).1 = (putB (B.drop k) r n).1 ∧ (putB B r n).2 = B.take k ++ (putB (B.drop k) r n).2) ∧ s = σ ∧ env 7 = .int .i64 (k:Nat) ∧ env 0 = .ptr q 0 ∧ env 1 = encSS r ∧ env 2 = .int .i64 n) (fun k => B.length - k) 0 ?_ ?_
  · simp [upd_apply, envOf_apply]
  · rintro k env s ⟨hk, hp, rfl, h7, h0, h1, h2⟩
    rcases Nat.lt_or_ge k B.length with hltk | hge
    · obtain ⟨r1, r2, a1, a2, a3, a4, a5, rfl, rfl, hr1, hr2⟩ := hne (fun h => by subst h; exact absurd hltk (by simp))
      have hx : B[k]? = some B[k] := List.getElem?_eq_getElem hltk
      have hpB : 0 < B.length := by omega
      simp -dsimp only [h7, h0, h1, h2, hq, hr1, hr2, restsD, leastD, hltk, hx, hpB, ↓preB, postB, genB, ↓reduceIte, Nat.reduceEqDiff, Int.reduceToNat, Int.reduceLE, Int.reduceLT, Nat.reduceAdd, Nat.reduceLeDiff, intBin, strBin, unD, extractD, lit1, lit2, lit3, keptD, boxR, D.one, D.pub1, D.cells, splice, cutOwn]
      intro hbB
      refine Fn.use (Same_c _ _) ?_
      rw [List.drop_eq_getElem_cons hltk] at hp
      simp only [putB] at hp
      cases c1 : eqW B[k].1 r
      · simp only [c1, Bool.false_eq_true, if_false] at hp
        simp -dsimp only [h7, h0, h1, h2, c1, ↓preB, postB, genB, ↓reduceIte, Nat.reduceEqDiff, Int.reduceToNat, Int.reduceLE, Int.reduceLT, Nat.reduceAdd, Nat.reduceLeDiff, intBin, strBin, unD, extractD, lit1, lit2, lit3, keptD, boxR, D.one, D.pub1, D.cells, splice, cutOwn]
        refine ⟨k + 1, ⟨by omega, ⟨hp.1, ?_⟩, wrap64_succ (by omega)⟩, by omega⟩
        rw [hp.2, List.take_succ_eq_append_getElem hltk, List.append_assoc]
        rfl
      · simp only [c1, if_true] at hp
        by_cases c2 : B[k].2 ≤ n
        · have c2' : (B[k].2 : Int) ≤ (n : Int) := by omega
          simp only [c2, if_true] at hp
          have hpB : (putB B r n).2 = B := hp.2.trans (by rw [show ((B[k].1, B[k].2) : Wd × Nat) = B[k] from rfl, ← List.drop_eq_getElem_cons hltk, List.take_append_drop])
          simp -dsimp only [h7, h0, h1, h2, hq, hr1, hr2, restsD, leastD, hltk, hx, hpB, c1, c2', ↓preB, postB, genB, ↓reduceIte, Nat.reduceEqDiff, Int.reduceToNat, Int.reduceLE, Int.reduceLT, Nat.reduceAdd, Nat.reduceLeDiff, intBin, strBin, unD, extractD, lit1, lit2, lit3, keptD, boxR, D.one, D.pub1, D.cells, splice, cutOwn]
          intros
          rw [hp.1]
          exact Ret.now (Nat.le_refl _) ⟨rfl, hb, Nat.le_refl _, fun _ _ => rfl⟩
        · have c2' : ¬ (B[k].2 : Int) ≤ (n : Int) := by omega
          simp only [c2, if_false] at hp
          have hpB : (putB B r n).2 = B.set k (B[k].1, n) := by rw [hp.2, List.set_eq_take_append_cons_drop, if_pos hltk]
          simp -dsimp only [h7, h0, h1, h2, hq, hr1, hr2, restsD, leastD, hltk, hx, hpB, c1, c2', ↓preB, postB, genB, ↓reduceIte, Nat.reduceEqDiff, Int.reduceToNat, Int.reduceLE, Int.reduceLT, Nat.reduceAdd, Nat.reduceLeDiff, intBin, strBin, unD, extractD, lit1, lit2, lit3, keptD, boxR, D.one, D.pub1, D.cells, splice, cutOwn]
          refine ⟨by omega, ?_⟩
          have hsp : List.take k (List.map (fun p : Wd × Nat => D.int IntKind.i64 (p.2 : Int)) B) ++ [D.int IntKind.i64 (n : Int)] ++ List.drop (k + 1) (List.map (fun p : Wd × Nat => D.int IntKind.i64 (p.2 : Int)) B) = leastD (B.set k (B[k].1, n)) := by
            rw [splice_one (by simpa using hltk), leastD, List.map_set]
          rw [hp.1, hsp]
          have e1 : restsD (B.set k (B[k].1, n)) = restsD B := by
            rw [restsD, List.map_set]
            apply List.ext_getElem
            · simp [restsD]
            · intro i h1 h2
              rw [List.getElem_set]
              split
              · rename_i h; subst h; simp [restsD]
              · rfl
          have n1 : q ≠ r2 := by omega
          refine Ret.now (by rw [Heap.next_set]; exact Nat.le_refl _) ⟨rfl, ⟨_, _, by rw [Heap.set_ne _ _ n1]; exact hq, hlt, .inr ⟨fun h => ?_, r1, r2, a1, a2, a3, a4, a5, ?_, ?_, ?_, Heap.set_same _ _ _⟩⟩, by rw [Heap.next_set]; exact Nat.le_refl _, fun i hi => Heap.set_ne _ _ (by omega)⟩
          · have := congrArg List.length h; rw [List.length_set, List.length_nil] at this; omega
          · rw [List.length_set, e1]
          · rw [List.length_set]
          · rw [Heap.set_ne _ _ a3, List.length_set]; exact hr1
    · rw [List.drop_of_length_le hge] at hp
      simp only [putB] at hp
      rw [hp.1, hp.2, List.take_of_length_le hge]
      by_cases hB0 : B = []
      · obtain ⟨rfl, rfl⟩ := he hB0
        subst hB0
        have e0 : (0 : Nat) ≤ k := by omega
        simp -dsimp only [h7, h0, h1, h2, hq, encSS, Nat.not_lt_zero, List.length_nil, restsD, ↓preB, postB, genB, ↓reduceIte, Nat.reduceEqDiff, Int.reduceToNat, Int.reduceLE, Int.reduceLT, Nat.reduceAdd, Nat.reduceLeDiff, intBin, strBin, unD, extractD, lit1, lit2, lit3, keptD, boxR, D.one, D.pub1, D.cells, splice, cutOwn]
        intros
        refine app_nil (m := 1) tz58 rfl tz23 rfl rfl (by decide) (fedBy_sl tz58 (by rfl) (by rfl)) (by decide) (by decide) (by decide) ?_
        generalize hs1 : s.new _ = s1
        have g1 : s1.get q = some (.cells 171 [encLL l, .sl .nil 0 [], .sl .nil 0 []]) := by rw [← hs1, Heap.new_get, if_neg (by omega)]; exact hq
        have t1 : s1.get s.next = some (.tip 23 1) := by rw [← hs1, Heap.new_get, if_pos rfl]; rfl
        have n1 : s1.next = s.next + 1 := by rw [← hs1]; rfl
        have k1 : ∀ i, i < q → s1.get i = s.get i := fun i hi => by rw [← hs1, Heap.new_get, if_neg (by omega)]
        simp -dsimp only [h7, h0, h1, h2, g1, encSS, ↓preB, postB, genB, ↓reduceIte, Nat.reduceEqDiff, Int.reduceToNat, Int.reduceLE, Int.reduceLT, Nat.reduceAdd, Nat.reduceLeDiff, intBin, strBin, unD, extractD, lit1, lit2, lit3, keptD, boxR, D.one, D.pub1, D.cells, splice, cutOwn]
        generalize hs2 : s1.set q _ = s2
        have g2 : s2.get q = some (.cells 171 [encLL l, .sl (.tip s.next 1) 1 [encSS r], .sl .nil 0 []]) := by rw [← hs2, Heap.set_same]; rfl
        have t2 : s2.get s.next = some (.tip 23 1) := by rw [← hs2, Heap.set_ne _ _ (by omega)]; exact t1
        have n2 : s2.next = s.next + 1 := by rw [← hs2]; exact n1
        have k2 : ∀ i, i < q → s2.get i = s.get i := fun i hi => by rw [← hs2, Heap.set_ne _ _ (by omega)]; exact k1 i hi
        rw [show s1.next = s2.next from by omega]
        refine app_row_nil (m := 1) tz39 rfl tz3 rfl rfl (by decide) (fedBy_sl (m := 1) tz39 (by rfl) (by rfl)) (by decide) (by decide) (by decide) ?_
        generalize hs3 : s2.new _ = s3
        have g3 : s3.get q = some (.cells 171 [encLL l, .sl (.tip s.next 1) 1 [encSS r], .sl .nil 0 []]) := by rw [← hs3, Heap.new_get, if_neg (by omega)]; exact g2
        have t3 : s3.get s.next = some (.tip 23 1) := by rw [← hs3, Heap.new_get, if_neg (by omega)]; exact t2
        have u3 : s3.get s2.next = some (.cells 3 [.int .i64 n]) := by rw [← hs3, Heap.new_get, if_pos rfl]
        have n3 : s3.next = s.next + 2 := by rw [← hs3, Heap.next_new, n2]
        have k3 : ∀ i, i < q → s3.get i = s.get i := fun i hi => by rw [← hs3, Heap.new_get, if_neg (by omega)]; exact k2 i hi
        simp -dsimp only [h7, h0, h1, h2, g3, encSS, ↓preB, postB, genB, ↓reduceIte, Nat.reduceEqDiff, Int.reduceToNat, Int.reduceLE, Int.reduceLT, Nat.reduceAdd, Nat.reduceLeDiff, intBin, strBin, unD, extractD, lit1, lit2, lit3, keptD, boxR, D.one, D.pub1, D.cells, splice, cutOwn]
        refine Ret.now (by rw [Heap.next_set]; omega) ⟨rfl, ⟨_, _, Heap.set_same _ _ _, by rw [Heap.next_set]; omega, .inr ⟨by simp, s.next, s2.next, hlt, by omega, by omega, by rw [Heap.next_set]; omega, by rw [Heap.next_set]; omega, rfl, rfl, by rw [Heap.set_ne _ _ (by omega)]; exact t3, by rw [Heap.set_ne _ _ (by omega)]; exact u3⟩⟩, by rw [Heap.next_set]; omega, fun i hi => by rw [Heap.set_ne _ _ (by omega)]; exact k3 i hi⟩
      · obtain ⟨r1, r2, a1, a2, a3, a4, a5, rfl, rfl, hr1, hr2⟩ := hne hB0
        simp -dsimp only [h7, h0, h1, h2, hq, hr1, hr2, encSS, Nat.not_lt.2 hge, ↓preB, postB, genB, ↓reduceIte, Nat.reduceEqDiff, Int.reduceToNat, Int.reduceLE, Int.reduceLT, Nat.reduceAdd, Nat.reduceLeDiff, intBin, strBin, unD, extractD, lit1, lit2, lit3, keptD, boxR, D.one, D.pub1, D.cells, splice, cutOwn]
        intros
        refine app_tip (m := 1) tz58 rfl tz23 rfl rfl (by decide) (fedBy_sl tz58 (by rfl) (by rfl)) (by decide) (by rw [restsD_len]; exact hr1) (by rw [restsD_len]; exact (Nat.mul_one _).symm) (by simp only []; omega) (by simp only [big]; omega) ?_
        generalize hs1 : (s.del r1).new _ = s1
        have nd : (s.del r1).next = s.next := rfl
        have g1 : s1.get q = some (.cells 171 [encLL l, .sl (.tip r1 1) B.length (restsD B), .row r2 0 B.length none 1]) := by rw [← hs1, Heap.new_get, if_neg (by omega), Heap.del_get, if_neg (by omega)]; exact hq
        have t1 : s1.get s.next = some (.tip 23 (B.length + 1)) := by rw [← hs1, Heap.new_get, nd, if_pos rfl, restsD_len]; rfl
        have u1 : s1.get r2 = some (.cells 3 (leastD B)) := by rw [← hs1, Heap.new_get, if_neg (by omega), Heap.del_get, if_neg (by omega)]; exact hr2
        have n1 : s1.next = s.next + 1 := by rw [← hs1]; rfl
        have k1 : ∀ i, i < q → s1.get i = s.get i := fun i hi => by rw [← hs1, Heap.new_get, if_neg (by omega), Heap.del_get, if_neg (by omega)]
        simp -dsimp only [h7, h0, h1, h2, g1, encSS, ↓preB, postB, genB, ↓reduceIte, Nat.reduceEqDiff, Int.reduceToNat, Int.reduceLE, Int.reduceLT, Nat.reduceAdd, Nat.reduceLeDiff, intBin, strBin, unD, extractD, lit1, lit2, lit3, keptD, boxR, D.one, D.pub1, D.cells, splice, cutOwn]
        generalize hs2 : s1.set q _ = s2
        have g2 : s2.get q = some (.cells 171 [encLL l, .sl (.tip s.next 1) (B.length + 1) (restsD B ++ [encSS r]), .row r2 0 B.length none 1]) := by rw [← hs2, Heap.set_same]; rfl
        have t2 : s2.get s.next = some (.tip 23 (B.length + 1)) := by rw [← hs2, Heap.set_ne _ _ (by omega)]; exact t1
        have u2 : s2.get r2 = some (.cells 3 (leastD B)) := by rw [← hs2, Heap.set_ne _ _ (by omega)]; exact u1
        have n2 : s2.next = s.next + 1 := by rw [← hs2]; exact n1
        have k2 : ∀ i, i < q → s2.get i = s.get i := fun i hi => by rw [← hs2, Heap.set_ne _ _ (by omega)]; exact k1 i hi
        rw [show s1.next = s2.next from by omega]
        refine app_row (m := 1) tz39 rfl tz3 rfl rfl (by decide) (fedBy_sl tz39 (by rfl) (by rfl)) (by decide) u2 (by rw [leastD_len]; exact Nat.le_of_eq (Nat.mul_one _)) (by simp only []; omega) (by simp only [big]; omega) (fun hc => by rw [leastD_len] at hc; simp only [] at hc; omega) (fun _ => ?_)
        generalize hs3 : (s2.del r2).new _ = s3
        have nd2 : (s2.del r2).next = s2.next := rfl
        have g3 : s3.get q = some (.cells 171 [encLL l, .sl (.tip s.next 1) (B.length + 1) (restsD B ++ [encSS r]), .row r2 0 B.length none 1]) := by rw [← hs3, Heap.new_get, if_neg (by omega), Heap.del_get, if_neg (by omega)]; exact g2
        have t3 : s3.get s.next = some (.tip 23 (B.length + 1)) := by rw [← hs3, Heap.new_get, if_neg (by omega), Heap.del_get, if_neg (by omega)]; exact t2
        have u3 : s3.get s2.next = some (.cells 3 (leastD B ++ [.int .i64 n])) := by
          rw [← hs3, Heap.new_get, nd2, if_pos rfl, List.take_of_length_le (by rw [leastD_len]; exact Nat.le_of_eq (Nat.mul_one _).symm)]
        have n3 : s3.next = s.next + 2 := by rw [← hs3, Heap.next_new, nd2, n2]
        have k3 : ∀ i, i < q → s3.get i = s.get i := fun i hi => by rw [← hs3, Heap.new_get, if_neg (by omega), Heap.del_get, if_neg (by omega)]; exact k2 i hi
        simp -dsimp only [h7, h0, h1, h2, g3, encSS, ↓preB, postB, genB, ↓reduceIte, Nat.reduceEqDiff, Int.reduceToNat, Int.reduceLE, Int.reduceLT, Nat.reduceAdd, Nat.reduceLeDiff, intBin, strBin, unD, extractD, lit1, lit2, lit3, keptD, boxR, D.one, D.pub1, D.cells, splice, cutOwn]
        have e1 : restsD (B ++ [(r, n)]) = restsD B ++ [encSS r] := by simp [restsD]
        have e2 : leastD (B ++ [(r, n)]) = leastD B ++ [.int .i64 n] := by simp [leastD]
        refine Ret.now (by rw [Heap.next_set]; omega) ⟨rfl, ⟨_, _, Heap.set_same _ _ _, by rw [Heap.next_set]; omega, .inr ⟨by simp, s.next, s2.next, hlt, by omega, by omega, by rw [Heap.next_set]; omega, by rw [Heap.next_set]; omega, ?_, ?_, by rw [Heap.set_ne _ _ (by omega), List.length_append]; exact t3, by rw [Heap.set_ne _ _ (by omega), e2]; exact u3⟩⟩, by rw [Heap.next_set]; omega, fun i hi => by rw [Heap.set_ne _ _ (by omega)]; exact k3 i hi⟩
        · rw [e1, List.length_append]; rfl
        · rw [List.length_append]; rfl
end Go.Proofs.YtldlcejlfaogbaaGreatDoor.Vs

/- The reference's search for the shortest word. -/
namespace Go.Proofs.YtldlcejlfaogbaaGreatDoor.Vs
set_option linter.unusedVariables false
set_option linter.unusedSimpArgs false
set_option maxRecDepth 20000
theorem ab65 (o : Own) (n : Nat) (cs : List D) : aBuilt Zs 171 [(0, .sl o n cs)] = some [.sl o n cs, .sl .nil 0 [], .sl .nil 0 []] := by rfl
/-- The first words' rests that are there. -/
def IniP (l : List Wd) (B : Bl) (i j : Nat) : Prop := ∀ i' k' (hi : i' < l.length) (hk : k' < l.length), (i' < i ∨ (i' = i ∧ k' < j)) → i' ≠ k' → begW l[k'] l[i'] = true → Cov B (l[k'].drop l[i'].length) l[k'].length
/-- What is so of the heap all the while. -/
structure HB (l : List Wd) (σ : Heap) (B : Bl) (s : Heap) : Prop where
  bh : BH l σ.next B s
  inv : InvB l B
  old : ∀ i, i < σ.next → s.get i = σ.get i
  nx : σ.next ≤ s.next
theorem HB.hle {l : List Wd} {σ s : Heap} {B : Bl} (h : HB l σ B s) (hc : Closed σ) : HLe σ s := ⟨h.nx, fun r o hr => by rw [h.old r (hc.lt r o hr)]; exact hr⟩

theorem HB.put {l : List Wd} {σ t τ : Heap} {B : Bl} {r : Wd} {n : Nat} (h : HB l σ B t) (hr : Rch l r n) (hn : n ≤ 8 * (B.length + 1)) (h1 : BH l σ.next (putB B r n).2 τ) (h2 : t.next ≤ τ.next) (h3 : ∀ i, i < σ.next → τ.get i = t.get i) : HB l σ (putB B r n).2 τ :=
  ⟨h1, h.inv.put hr hn, fun i hi => (h3 i hi).trans (h.old i hi), Nat.le_trans h.nx h2⟩
theorem encSS_len (w : Wd) (n : Nat) : D.sl .no (w.length - n) ((w.drop n).map D.str) = encSS (w.drop n) := by simp [encSS]
theorem FolB.ofExt {l : List Wd} {B : Bl} {r : Wd} {n k : Nat} (hk : k < l.length) (h1 : begW l[k] r = true) (hc : Cov B (l[k].drop r.length) (n + (l[k].length - r.length))) : FolB l B r n k := fun h0 hk' => ⟨fun _ => hc, fun hb => by
  have hd1 := begW_le h1
  have hd2 := begW_le hb
  rw [List.drop_of_length_le (by omega)] at hc ⊢
  rw [show n = n + (l[k].length - r.length) by omega]
  exact hc⟩
theorem FolB.ofCut {l : List Wd} {B : Bl} {r : Wd} {n k : Nat} (hk : k < l.length) (h1 : begW l[k] r = false) (hc : Cov B (r.drop l[k].length) n) : FolB l B r n k := fun h0 hk' => ⟨fun hb => (by rw [h1] at hb; cases hb), fun _ => hc⟩
theorem FolB.ofNone {l : List Wd} {B : Bl} {r : Wd} {n k : Nat} (hk : k < l.length) (h1 : begW l[k] r = false) (h2 : begW r l[k] = false) : FolB l B r n k := fun h0 hk' => ⟨fun hb => (by rw [h1] at hb; cases hb), fun hb => (by rw [h2] at hb; cases hb)⟩

theorem Shortest_c (l : List Wd) (h24 : l.length ≤ 24) (h8 : ∀ w ∈ l, w.length ≤ 8) (σ : Heap) : PCall Zs 70 [encLL l] σ (fun d τ => τ = σ ∧ ∃ x : Int, d = .int .i64 x ∧ SpecS l x) := by
  have hR : (rests l).length ≤ 216 := by have := rests_len h8; omega
  refine pcall_of (Z := Zs) ok70 fun hcl hbl => ?_
  simp -dsimp only [L70, ↓preB, postB, genB, ↓reduceIte, Nat.reduceEqDiff, Int.reduceToNat, Int.reduceLE, Int.reduceLT, Nat.reduceAdd, Nat.reduceLeDiff, intBin, strBin, unD, extractD, lit1, lit2, lit3, keptD, boxR, D.one, D.pub1, D.cells, splice, cutOwn]
  refine pwp_loopG (fun k env s => k ≤ l.length ∧ (∀ j (h : j < l.length), j < k → noneIn l[j] = false) ∧ s = σ ∧ env 3 = .int .i64 (k:Nat) ∧ env 0 = encLL l) (fun k => l.length - k) 0 ?_ ?_
  · simp [upd_apply, envOf_apply]
  · rintro k env s ⟨hk, hno, rfl, h3, h0⟩
    rcases Nat.lt_or_ge k l.length with hlt | hge
    · have hx : l[k]? = some l[k] := List.getElem?_eq_getElem hlt
      have hp0 : 0 < l.length := by omega
      cases hq : noneIn l[k]
      · have c1 : ((l[k].length : Int) == 0) = false := by
          have : ¬ l[k].length = 0 := by simpa [noneIn] using hq
          rw [beq_eq_false_iff_ne]; omega
        simp -dsimp only [h3, h0, encLL, encSS, hlt, hx, hp0, c1, ↓preB, postB, genB, ↓reduceIte, Nat.reduceEqDiff, Int.reduceToNat, Int.reduceLE, Int.reduceLT, Nat.reduceAdd, Nat.reduceLeDiff, intBin, strBin, unD, extractD, lit1, lit2, lit3, keptD, boxR, D.one, D.pub1, D.cells, splice, cutOwn]
        intros
        refine ⟨k + 1, ⟨by omega, fun j hj hjk => ?_, wrap64_succ (by omega)⟩, by omega⟩
        rcases Nat.lt_succ_iff_lt_or_eq.1 hjk with h | rfl
        · exact hno j hj h
        · exact hq
      · have c1 : ((l[k].length : Int) == 0) = true := by
          have : l[k].length = 0 := by simpa [noneIn] using hq
          rw [beq_iff_eq]; omega
        simp -dsimp only [h3, h0, encLL, encSS, hlt, hx, hp0, c1, ↓preB, postB, genB, ↓reduceIte, Nat.reduceEqDiff, Int.reduceToNat, Int.reduceLE, Int.reduceLT, Nat.reduceAdd, Nat.reduceLeDiff, intBin, strBin, unD, extractD, lit1, lit2, lit3, keptD, boxR, D.one, D.pub1, D.cells, splice, cutOwn]
        intros
        refine Ret.now (Nat.le_refl _) ⟨rfl, 0, rfl, ?_⟩
        rw [SpecS, if_pos (List.any_eq_true.2 ⟨_, List.getElem_mem hlt, hq⟩)]
    · have hna : l.any noneIn = false := by
        rw [List.any_eq_false]
        intro x hx
        obtain ⟨j, hj, rfl⟩ := List.getElem_of_mem hx
        simp [hno j hj (by omega)]
      have hne : ∀ w ∈ l, w ≠ [] := fun w hw h => by
        have := List.any_eq_false.1 hna w hw
        rw [h] at this; simp [noneIn] at this
      simp -dsimp only [h3, h0, encLL, Nat.not_lt.2 hge, ab65, ↓preB, postB, genB, ↓reduceIte, Nat.reduceEqDiff, Int.reduceToNat, Int.reduceLE, Int.reduceLT, Nat.reduceAdd, Nat.reduceLeDiff, intBin, strBin, unD, extractD, lit1, lit2, lit3, keptD, boxR, D.one, D.pub1, D.cells, splice, cutOwn]
      intros
      refine pwp_loopG (fun (x : Nat × Bl) env t => x.1 ≤ l.length ∧ IniP l x.2 x.1 0 ∧ HB l s x.2 t ∧ env 5 = .int .i64 (x.1 : Nat) ∧ env 4 = .ptr s.next 0 ∧ env 0 = encLL l) (fun x => l.length - x.1) (0, []) ?_ ?_
      · simp only [upd_apply, Nat.reduceEqDiff, if_true, if_false, h0]
        refine ⟨Nat.zero_le _, fun i' k' hi hk h => by omega, ⟨⟨_, _, Heap.new_same _ _, by rw [Heap.next_new]; omega, .inl ⟨rfl, rfl, rfl⟩⟩, InvB.nil l, fun i hi => by rw [Heap.new_get, if_neg (by omega)], by rw [Heap.next_new]; omega⟩, rfl, trivial, trivial⟩
      · rintro ⟨i, B⟩ env t ⟨hi, hIn, hHB, h5, h4, h0⟩
        simp only at hi hIn hHB h5
        rcases Nat.lt_or_ge i l.length with hlti | hgei
        · have hxi : l[i]? = some l[i] := List.getElem?_eq_getElem hlti
          have hp0 : 0 < l.length := by omega
          simp -dsimp only [h5, h4, h0, encLL, hlti, ↓preB, postB, genB, ↓reduceIte, Nat.reduceEqDiff, Int.reduceToNat, Int.reduceLE, Int.reduceLT, Nat.reduceAdd, Nat.reduceLeDiff, intBin, strBin, unD, extractD, lit1, lit2, lit3, keptD, boxR, D.one, D.pub1, D.cells, splice, cutOwn]
          intros
          refine pwp_loopG (fun (x : Nat × Bl) env t => x.1 ≤ l.length ∧ IniP l x.2 i x.1 ∧ HB l s x.2 t ∧ env 6 = .int .i64 (x.1 : Nat) ∧ env 5 = .int .i64 (i : Nat) ∧ env 4 = .ptr s.next 0 ∧ env 0 = encLL l) (fun x => l.length - x.1) (0, B) ?_ ?_
          · simp only [upd_apply, Nat.reduceEqDiff, if_true, if_false, h5, h4, h0]
            exact ⟨Nat.zero_le _, hIn, hHB, rfl, trivial, trivial, trivial⟩
          · rintro ⟨j, B⟩ env t ⟨hj, hIn, hHB, h6, h5, h4, h0⟩
            simp only at hj hIn hHB h6
            rcases Nat.lt_or_ge j l.length with hltj | hgej
            · have hxj : l[j]? = some l[j] := List.getElem?_eq_getElem hltj
              simp -dsimp only [h6, h5, h4, h0, encLL, hltj, ↓preB, postB, genB, ↓reduceIte, Nat.reduceEqDiff, Int.reduceToNat, Int.reduceLE, Int.reduceLT, Nat.reduceAdd, Nat.reduceLeDiff, intBin, strBin, unD, extractD, lit1, lit2, lit3, keptD, boxR, D.one, D.pub1, D.cells, splice, cutOwn]
              intros
              refine draw_s ?_
              have next : (i ≠ j → begW l[j] l[i] = true → Cov B (l[j].drop l[i].length) l[j].length) → IniP l B i (j + 1) := fun hc i' k' hi' hk' hp hne' hb' => by
                by_cases hlast : i' = i ∧ k' = j
                · obtain ⟨rfl, rfl⟩ := hlast
                  exact hc hne' hb'
                · exact hIn i' k' hi' hk' (by omega) hne' hb'
              by_cases hij : i = j
              · have c1 : ((i : Int) != (j : Int)) = false := by simp [hij]
                simp -dsimp only [h6, h5, h4, h0, encLL, hltj, c1, ↓preB, postB, genB, ↓reduceIte, Nat.reduceEqDiff, Int.reduceToNat, Int.reduceLE, Int.reduceLT, Nat.reduceAdd, Nat.reduceLeDiff, intBin, strBin, unD, extractD, lit1, lit2, lit3, keptD, boxR, D.one, D.pub1, D.cells, splice, cutOwn]
                exact ⟨(j + 1, B), ⟨by omega, next fun h => absurd hij h, hHB, wrap64_succ (by omega)⟩, by simp only; omega⟩
              · have c1 : ((i : Int) != (j : Int)) = true := by simp; omega
                simp -dsimp only [h6, h5, h4, h0, encLL, hltj, hlti, hxi, hxj, hp0, c1, ↓preB, postB, genB, ↓reduceIte, Nat.reduceEqDiff, Int.reduceToNat, Int.reduceLE, Int.reduceLT, Nat.reduceAdd, Nat.reduceLeDiff, intBin, strBin, unD, extractD, lit1, lit2, lit3, keptD, boxR, D.one, D.pub1, D.cells, splice, cutOwn]
                refine Fn.useS (refBegins_c _ _) ?_
                cases c2 : begW l[j] l[i]
                · simp -dsimp only [h6, h5, h4, h0, encLL, hltj, hlti, hxi, hxj, hp0, c1, c2, ↓preB, postB, genB, ↓reduceIte, Nat.reduceEqDiff, Int.reduceToNat, Int.reduceLE, Int.reduceLT, Nat.reduceAdd, Nat.reduceLeDiff, intBin, strBin, unD, extractD, lit1, lit2, lit3, keptD, boxR, D.one, D.pub1, D.cells, splice, cutOwn]
                  exact ⟨(j + 1, B), ⟨by omega, next fun _ hb => (by rw [c2] at hb; cases hb), hHB, wrap64_succ (by omega)⟩, by simp only; omega⟩
                · have hle := begW_le c2
                  have hcut := encSS_drop l[j] l[i].length hle
                  simp -dsimp only [h6, h5, h4, h0, encLL, hltj, hlti, hxi, hxj, hp0, c1, c2, ↓preB, postB, genB, ↓reduceIte, Nat.reduceEqDiff, Int.reduceToNat, Int.reduceLE, Int.reduceLT, Nat.reduceAdd, Nat.reduceLeDiff, intBin, strBin, unD, extractD, lit1, lit2, lit3, keptD, boxR, D.one, D.pub1, D.cells, splice, cutOwn]
                  refine draw_t 16 (by decide) ?_
                  simp -dsimp only [h6, h5, h4, h0, encLL, encSS, hltj, hlti, hxi, hxj, hp0, c1, c2, hcut, ↓preB, postB, genB, ↓reduceIte, Nat.reduceEqDiff, Int.reduceToNat, Int.reduceLE, Int.reduceLT, Nat.reduceAdd, Nat.reduceLeDiff, intBin, strBin, unD, extractD, lit1, lit2, lit3, keptD, boxR, D.one, D.pub1, D.cells, splice, cutOwn]
                  refine ⟨⟨by omega, by omega⟩, ?_⟩
                  rw [encSS_len]
                  have hw8 := h8 _ (List.getElem_mem hltj)
                  refine PCall.use (put_c l s.next B _ _ (by have := hHB.inv.len; omega) t hHB.bh) fun d τ ⟨hd, q1, q2, q3⟩ => ?_
                  simp -dsimp only [h6, h5, h4, h0, ↓preB, postB, genB, ↓reduceIte, Nat.reduceEqDiff, Int.reduceToNat, Int.reduceLE, Int.reduceLT, Nat.reduceAdd, Nat.reduceLeDiff, intBin, strBin, unD, extractD, lit1, lit2, lit3, keptD, boxR, D.one, D.pub1, D.cells, splice, cutOwn]
                  refine ⟨(j + 1, (putB B (l[j].drop l[i].length) l[j].length).2), ⟨by omega, fun i' k' hi' hk' hp hne' hb' => ?_, hHB.put (.init i j hlti hltj hij c2) (by omega) q1 q2 q3, wrap64_succ (by omega), rfl⟩, by simp only; omega⟩
                  by_cases hlast : i' = i ∧ k' = j
                  · obtain ⟨rfl, rfl⟩ := hlast
                    exact putB_cov _ _ _
                  · exact putB_mono (hIn i' k' hi' hk' (by simp only at hp; omega) hne' hb')
            · simp -dsimp only [h6, h5, h4, h0, encLL, Nat.not_lt.2 hgej, ↓preB, postB, genB, ↓reduceIte, Nat.reduceEqDiff, Int.reduceToNat, Int.reduceLE, Int.reduceLT, Nat.reduceAdd, Nat.reduceLeDiff, intBin, strBin, unD, extractD, lit1, lit2, lit3, keptD, boxR, D.one, D.pub1, D.cells, splice, cutOwn]
              intros
              have : j = l.length := by omega
              subst this
              exact ⟨(i + 1, B), ⟨by omega, fun i' k' hi' hk' hp => hIn i' k' hi' hk' (by omega), hHB, wrap64_succ (by omega)⟩, by simp only; omega⟩
        · simp -dsimp only [h5, h4, h0, encLL, Nat.not_lt.2 hgei, ↓preB, postB, genB, ↓reduceIte, Nat.reduceEqDiff, Int.reduceToNat, Int.reduceLE, Int.reduceLT, Nat.reduceAdd, Nat.reduceLeDiff, intBin, strBin, unD, extractD, lit1, lit2, lit3, keptD, boxR, D.one, D.pub1, D.cells, splice, cutOwn]
          intros
          have hIB : IniB l B := fun i' k' hi' hk' hne' hb' => hIn i' k' hi' hk' (by omega) hne' hb'
          refine pwp_loopG (fun (x : Bool × Bl) env t => IniB l x.2 ∧ HB l s x.2 t ∧ (x.1 = false → ∀ p ∈ x.2, ∀ k, FolB l x.2 p.1 p.2 k) ∧ env 7 = .bool x.1 ∧ env 4 = .ptr s.next 0 ∧ env 0 = encLL l) (fun x => if x.1 then leftB (rests l) 2000 x.2 + 1 else 0) (true, B) ?_ ?_
          · simp only [upd_apply, Nat.reduceEqDiff, if_true, if_false, h4, h0]
            exact ⟨hIB, hHB, fun h => (by cases h), trivial, trivial, trivial⟩
          · rintro ⟨ag, B⟩ env t ⟨hIB, hHB, hfix, h7, h4, h0⟩
            simp only at hIB hHB hfix h7
            cases ag
            · have hfix := hfix rfl
              simp -dsimp only [h7, h4, h0, encLL, ↓preB, postB, genB, ↓reduceIte, Nat.reduceEqDiff, Int.reduceToNat, Int.reduceLE, Int.reduceLT, Nat.reduceAdd, Nat.reduceLeDiff, intBin, strBin, unD, extractD, lit1, lit2, lit3, keptD, boxR, D.one, D.pub1, D.cells, splice, cutOwn]
              refine pwp_loopG (fun (i : Nat) env t' => i ≤ B.length ∧ (∀ i' (h : i' < B.length), i' < i → B[i'].1 ≠ []) ∧ t' = t ∧ env 13 = .int .i64 (i : Nat) ∧ env 4 = .ptr s.next 0) (fun i => B.length - i) 0 ?_ ?_
              · simp only [upd_apply, Nat.reduceEqDiff, if_true, if_false, h4]
                exact ⟨Nat.zero_le _, fun i' h h2 => by omega, trivial, rfl, trivial⟩
              · rintro i env t' ⟨hi, hnon, rfl, h13, h4⟩
                have hBl := hHB.inv.len
                obtain ⟨o1, d2, hq, hne2, he, hlt⟩ := hHB.bh.d1
                rcases Nat.lt_or_ge i B.length with hlti | hgei
                · obtain ⟨r1, r2, a1, a2, a3, a4, a5, rfl, rfl, hr1, hr2⟩ := hne2 (fun h => by subst h; exact absurd hlti (by simp))
                  have hx : B[i]? = some B[i] := List.getElem?_eq_getElem hlti
                  have hpB : 0 < B.length := by omega
                  by_cases hr : B[i].1 = []
                  · have c1 : ((B[i].1.length : Int) == 0) = true := by rw [hr]; rfl
                    simp -dsimp only [h13, h4, hq, hr1, hr2, restsD, leastD, encSS, hlti, hx, hpB, c1, ↓preB, postB, genB, ↓reduceIte, Nat.reduceEqDiff, Int.reduceToNat, Int.reduceLE, Int.reduceLT, Nat.reduceAdd, Nat.reduceLeDiff, intBin, strBin, unD, extractD, lit1, lit2, lit3, keptD, boxR, D.one, D.pub1, D.cells, splice, cutOwn]
                    intros
                    refine Ret.told s (.int .i64 B[i].2) (Nat.le_refl _) (hHB.hle hcl) hcl (.refl _) (.int _ _) ⟨rfl, _, rfl, ?_⟩
                    rw [SpecS, if_neg (by rw [hna]; decide)]
                    left
                    have hs := hHB.inv.sound _ (List.getElem_mem hlti)
                    rw [hr] at hs
                    refine ⟨_, rfl, hs, fun m hm => ?_⟩
                    obtain ⟨m', g1, g2⟩ := fix_cov hIB hfix hm
                    have g3 := getB_at hHB.inv.nodup hlti
                    rw [hr, g1] at g3
                    have := Option.some.inj g3
                    omega
                  · have c1 : ((B[i].1.length : Int) == 0) = false := by
                      have := List.length_pos_iff.2 hr
                      rw [beq_eq_false_iff_ne]; omega
                    simp -dsimp only [h13, h4, hq, hr1, hr2, restsD, leastD, encSS, hlti, hx, hpB, c1, ↓preB, postB, genB, ↓reduceIte, Nat.reduceEqDiff, Int.reduceToNat, Int.reduceLE, Int.reduceLT, Nat.reduceAdd, Nat.reduceLeDiff, intBin, strBin, unD, extractD, lit1, lit2, lit3, keptD, boxR, D.one, D.pub1, D.cells, splice, cutOwn]
                    intros
                    refine ⟨i + 1, ⟨by omega, fun i' h h2 => ?_, wrap64_succ (by omega)⟩, by omega⟩
                    rcases Nat.lt_succ_iff_lt_or_eq.1 h2 with h2 | rfl
                    · exact hnon i' h h2
                    · exact hr
                · simp -dsimp only [h13, h4, hq, Nat.not_lt.2 hgei, ↓preB, postB, genB, ↓reduceIte, Nat.reduceEqDiff, Int.reduceToNat, Int.reduceLE, Int.reduceLT, Nat.reduceAdd, Nat.reduceLeDiff, intBin, strBin, unD, extractD, lit1, lit2, lit3, keptD, boxR, D.one, D.pub1, D.cells, splice, cutOwn]
                  intros
                  refine Ret.told s (.int .i64 (-1)) (Nat.le_refl _) (hHB.hle hcl) hcl (.refl _) (.int _ _) ⟨rfl, _, rfl, ?_⟩
                  rw [SpecS, if_neg (by rw [hna]; decide)]
                  right
                  refine ⟨rfl, fun m hm => ?_⟩
                  obtain ⟨m', g1, g2⟩ := fix_cov hIB hfix hm
                  obtain ⟨i', hi', he'⟩ := List.getElem_of_mem (getB_mem g1)
                  exact hnon i' hi' (by omega) (by rw [he'])
            · simp -dsimp only [h7, h4, h0, encLL, ↓preB, postB, genB, ↓reduceIte, Nat.reduceEqDiff, Int.reduceToNat, Int.reduceLE, Int.reduceLT, Nat.reduceAdd, Nat.reduceLeDiff, intBin, strBin, unD, extractD, lit1, lit2, lit3, keptD, boxR, D.one, D.pub1, D.cells, splice, cutOwn]
              refine pwp_loopG (fun (x : Nat × Bool × Bl) env t => x.1 ≤ x.2.2.length ∧ IniB l x.2.2 ∧ HB l s x.2.2 t ∧ (x.2.1 = true → leftB (rests l) 2000 x.2.2 < leftB (rests l) 2000 B) ∧ (x.2.1 = false → x.2.2 = B ∧ ∀ i' (h : i' < x.2.2.length), i' < x.1 → ∀ k, FolB l x.2.2 x.2.2[i'].1 x.2.2[i'].2 k) ∧ env 8 = .int .i64 (x.1 : Nat) ∧ env 7 = .bool x.2.1 ∧ env 4 = .ptr s.next 0 ∧ env 0 = encLL l) (fun x => 216 - x.1) (0, false, B) ?_ ?_
              · simp only [upd_apply, Nat.reduceEqDiff, if_true, if_false, h4, h0]
                exact ⟨Nat.zero_le _, hIB, hHB, fun h => (by cases h), fun _ => ⟨trivial, fun i' h h2 => by omega⟩, rfl, trivial, trivial, trivial⟩
              · rintro ⟨i, ag, B'⟩ env t ⟨hi, hIB, hHB, hag1, hag2, h8', h7, h4, h0⟩
                simp only at hi hIB hHB hag1 hag2 h8' h7
                have hBl := hHB.inv.len
                obtain ⟨o1, d2, hq, hne2, he, hlt⟩ := hHB.bh.d1
                rcases Nat.lt_or_ge i B'.length with hlti | hgei
                · obtain ⟨r1, r2, a1, a2, a3, a4, a5, rfl, rfl, hr1, hr2⟩ := hne2 (fun h => by subst h; exact absurd hlti (by simp))
                  have hx : B'[i]? = some B'[i] := List.getElem?_eq_getElem hlti
                  have hpB : 0 < B'.length := by omega
                  simp -dsimp only [h8', h7, h4, h0, hq, hr1, hr2, restsD, leastD, hlti, hx, hpB, ↓preB, postB, genB, ↓reduceIte, Nat.reduceEqDiff, Int.reduceToNat, Int.reduceLE, Int.reduceLT, Nat.reduceAdd, Nat.reduceLeDiff, intBin, strBin, unD, extractD, lit1, lit2, lit3, keptD, boxR, D.one, D.pub1, D.cells, splice, cutOwn]
                  intros
                  refine draw_s ?_
                  simp -dsimp only [h8', h7, h4, h0, hq, hr1, hr2, restsD, leastD, hlti, hx, hpB, ↓preB, postB, genB, ↓reduceIte, Nat.reduceEqDiff, Int.reduceToNat, Int.reduceLE, Int.reduceLT, Nat.reduceAdd, Nat.reduceLeDiff, intBin, strBin, unD, extractD, lit1, lit2, lit3, keptD, boxR, D.one, D.pub1, D.cells, splice, cutOwn]
                  have hsn := hHB.inv.sound _ (List.getElem_mem hlti)
                  have hbd := hHB.inv.bound _ (List.getElem_mem hlti)
                  generalize hr : B'[i].1 = r at hsn
                  generalize hn : B'[i].2 = n at hsn hbd
                  refine pwp_loopG (fun (x : Nat × Bool × Bl) env t => x.1 ≤ l.length ∧ IniB l x.2.2 ∧ HB l s x.2.2 t ∧ B'.length ≤ x.2.2.length ∧ (x.2.1 = true → leftB (rests l) 2000 x.2.2 < leftB (rests l) 2000 B) ∧ (x.2.1 = false → x.2.2 = B' ∧ ag = false ∧ ∀ k', k' < x.1 → FolB l x.2.2 r n k') ∧ env 11 = .int .i64 (x.1 : Nat) ∧ env 9 = encSS r ∧ env 10 = .int .i64 n ∧ env 8 = .int .i64 (i : Nat) ∧ env 7 = .bool x.2.1 ∧ env 4 = .ptr s.next 0 ∧ env 0 = encLL l) (fun x => l.length - x.1) (0, ag, B') ?_ ?_
                  · simp only [upd_apply, Nat.reduceEqDiff, if_true, if_false, h4, h0, h7, h8']
                    exact ⟨Nat.zero_le _, hIB, hHB, Nat.le_refl _, hag1, fun h => ⟨trivial, h, fun k' h => by omega⟩, rfl, trivial, trivial, trivial, trivial, trivial, trivial⟩
                  · rintro ⟨k, ag2, C⟩ env t ⟨hk, hIC, hHC, hBC, hc1, hc2, h11, h9, h10, h8', h7, h4, h0⟩
                    simp only at hk hIC hHC hBC hc1 hc2 h11 h7
                    have done : (ag2 = false → ∀ k, FolB l C r n k) → ∃ y : Nat × Bool × Bl, (y.1 ≤ y.2.2.length ∧ IniB l y.2.2 ∧ HB l s y.2.2 t ∧ (y.2.1 = true → leftB (rests l) 2000 y.2.2 < leftB (rests l) 2000 B) ∧ (y.2.1 = false → y.2.2 = B ∧ ∀ i' (h : i' < y.2.2.length), i' < y.1 → ∀ k, FolB l y.2.2 y.2.2[i'].1 y.2.2[i'].2 k) ∧ IntKind.i64.wrap ((i:Int) + 1) = ((y.1 : Nat) : Int) ∧ ag2 = y.2.1) ∧ 216 - y.1 < 216 - i := fun hf => by
                      refine ⟨(i + 1, ag2, C), ⟨by simp only; omega, hIC, hHC, hc1, fun h => ?_, wrap64_succ (by omega), rfl⟩, by simp only; omega⟩
                      obtain ⟨rfl, rfl, _⟩ := hc2 h
                      obtain ⟨hCB, ha⟩ := hag2 rfl
                      refine ⟨hCB, fun i' h2 hii k => ?_⟩
                      rcases Nat.lt_succ_iff_lt_or_eq.1 hii with hii | rfl
                      · exact ha i' h2 hii k
                      · have := hf h k
                        rw [← hr, ← hn] at this
                        exact this
                    rcases Nat.lt_or_ge k l.length with hltk | hgek
                    · have hxk : l[k]? = some l[k] := List.getElem?_eq_getElem hltk
                      by_cases hr0 : r = []
                      · have c1 : ¬ (0 : Int) < r.length := by rw [hr0]; decide
                        simp -dsimp only [h11, h9, h10, h8', h7, h4, h0, encSS, encLL, hltk, c1, ↓preB, postB, genB, ↓reduceIte, Nat.reduceEqDiff, Int.reduceToNat, Int.reduceLE, Int.reduceLT, Nat.reduceAdd, Nat.reduceLeDiff, intBin, strBin, unD, extractD, lit1, lit2, lit3, keptD, boxR, D.one, D.pub1, D.cells, splice, cutOwn]
                        intros
                        exact done fun _ k h0 => absurd hr0 h0
                      · have c1 : (0 : Int) < r.length := by have := List.length_pos_iff.2 hr0; omega
                        simp -dsimp only [h11, h9, h10, h8', h7, h4, h0, encSS, encLL, hltk, hxk, c1, ↓preB, postB, genB, ↓reduceIte, Nat.reduceEqDiff, Int.reduceToNat, Int.reduceLE, Int.reduceLT, Nat.reduceAdd, Nat.reduceLeDiff, intBin, strBin, unD, extractD, lit1, lit2, lit3, keptD, boxR, D.one, D.pub1, D.cells, splice, cutOwn]
                        intros
                        refine ⟨by omega, Fn.use (refBegins_c _ _) ?_⟩
                        have hwk := h8 _ (List.getElem_mem hltk)
                        have hCl := hHC.inv.len
                        have hle1 : leftB (rests l) 2000 C ≤ leftB (rests l) 2000 B := by
                          cases ag2 with
                          | true => exact Nat.le_of_lt (hc1 rfl)
                          | false =>
                            obtain ⟨rfl, h2, _⟩ := hc2 rfl
                            rw [(hag2 h2).1]
                            exact Nat.le_refl _
                        have step : ∀ (r' : Wd) (n' : Nat) (τ : Heap), Rch l r' n' → n' ≤ 8 * (B'.length + 1) → (Cov (putB C r' n').2 r' n' → FolB l (putB C r' n').2 r n k) → BH l s.next (putB C r' n').2 τ → t.next ≤ τ.next → (∀ i, i < s.next → τ.get i = t.get i) → ∀ a3, a3 = ((putB C r' n').1 || ag2) →
                            ∃ y : Nat × Bool × Bl, (y.1 ≤ l.length ∧ IniB l y.2.2 ∧ HB l s y.2.2 τ ∧ B'.length ≤ y.2.2.length ∧ (y.2.1 = true → leftB (rests l) 2000 y.2.2 < leftB (rests l) 2000 B) ∧ (y.2.1 = false → y.2.2 = B' ∧ ag = false ∧ ∀ k', k' < y.1 → FolB l y.2.2 r n k') ∧ IntKind.i64.wrap ((k : Int) + 1) = ((y.1 : Nat) : Int) ∧ a3 = y.2.1) ∧ l.length - y.1 < l.length - k := fun r' n' τ g1 g2 g3 g4 g5 g6 a3 ha3 => by
                          refine ⟨(k + 1, a3, (putB C r' n').2), ⟨by simp only; omega, fun i' k' hi' hk' hne' hb' => putB_mono (hIC i' k' hi' hk' hne' hb'), hHC.put g1 (by omega) g4 g5 g6, ?_, fun h => ?_, fun h => ?_, wrap64_succ (by omega), rfl⟩, by simp only; omega⟩
                          · simp only [putB_len]; split <;> omega
                          · simp only at h ⊢
                            rw [ha3] at h
                            cases hp : (putB C r' n').1 with
                            | true => have := leftB_put (N := 2000) g1.rest (by omega) hp; omega
                            | false =>
                              rw [hp] at h
                              rw [putB_false hp]
                              exact hc1 (by simpa using h)
                          · simp only at h ⊢
                            rw [ha3] at h
                            simp only [Bool.or_eq_false_iff] at h
                            have hcov := putB_cov C r' n'
                            have g3 := g3 hcov
                            rw [putB_false h.1] at g3 ⊢
                            obtain ⟨e1, e2, e3⟩ := hc2 h.2
                            refine ⟨e1, e2, fun k' hk' => ?_⟩
                            rcases Nat.lt_succ_iff_lt_or_eq.1 hk' with hk' | rfl
                            · exact e3 k' hk'
                            · exact g3
                        cases c3 : begW l[k] r
                        · simp -dsimp only [h11, h9, h10, h8', h7, h4, h0, encSS, encLL, hltk, hxk, c1, c3, ↓preB, postB, genB, ↓reduceIte, Nat.reduceEqDiff, Int.reduceToNat, Int.reduceLE, Int.reduceLT, Nat.reduceAdd, Nat.reduceLeDiff, intBin, strBin, unD, extractD, lit1, lit2, lit3, keptD, boxR, D.one, D.pub1, D.cells, splice, cutOwn]
                          refine Fn.use (refBegins_c _ _) ?_
                          cases c4 : begW r l[k]
                          · simp -dsimp only [h11, h9, h10, h8', h7, h4, h0, encSS, encLL, hltk, hxk, c1, c3, c4, ↓preB, postB, genB, ↓reduceIte, Nat.reduceEqDiff, Int.reduceToNat, Int.reduceLE, Int.reduceLT, Nat.reduceAdd, Nat.reduceLeDiff, intBin, strBin, unD, extractD, lit1, lit2, lit3, keptD, boxR, D.one, D.pub1, D.cells, splice, cutOwn]
                            refine ⟨(k + 1, ag2, C), ⟨by simp only; omega, hIC, hHC, hBC, hc1, fun h => ?_, wrap64_succ (by omega), rfl⟩, by simp only; omega⟩
                            obtain ⟨e1, e2, e3⟩ := hc2 h
                            refine ⟨e1, e2, fun k' hk' => ?_⟩
                            rcases Nat.lt_succ_iff_lt_or_eq.1 hk' with hk' | rfl
                            · exact e3 k' hk'
                            · exact FolB.ofNone hltk c3 c4
                          · have hle := begW_le c4
                            simp -dsimp only [h11, h9, h10, h8', h7, h4, h0, encSS, encLL, hltk, hxk, c1, c3, c4, ↓preB, postB, genB, ↓reduceIte, Nat.reduceEqDiff, Int.reduceToNat, Int.reduceLE, Int.reduceLT, Nat.reduceAdd, Nat.reduceLeDiff, intBin, strBin, unD, extractD, lit1, lit2, lit3, keptD, boxR, D.one, D.pub1, D.cells, splice, cutOwn]
                            intro _
                            refine ⟨⟨by omega, by omega⟩, ?_⟩
                            rw [encSS_drop _ _ hle]
                            refine PCall.use (put_c l s.next C _ _ (by omega) t hHC.bh) fun d τ ⟨hd, q1, q2, q3⟩ => ?_
                            subst hd
                            have fin := step _ _ τ (.cut r n k hsn hr0 hltk c4) (by omega) (FolB.ofCut hltk c3) q1 q2 q3 _ rfl
                            cases hput : (putB C (r.drop l[k].length) n).1
                            · rw [hput] at fin
                              simp -dsimp only [h11, h9, h10, h8', h7, h4, h0, encSS, encLL, hltk, hxk, c1, c3, c4, ↓preB, postB, genB, ↓reduceIte, Nat.reduceEqDiff, Int.reduceToNat, Int.reduceLE, Int.reduceLT, Nat.reduceAdd, Nat.reduceLeDiff, intBin, strBin, unD, extractD, lit1, lit2, lit3, keptD, boxR, D.one, D.pub1, D.cells, splice, cutOwn]
                              simpa using fin
                            · rw [hput] at fin
                              simp -dsimp only [h11, h9, h10, h8', h7, h4, h0, encSS, encLL, hltk, hxk, c1, c3, c4, ↓preB, postB, genB, ↓reduceIte, Nat.reduceEqDiff, Int.reduceToNat, Int.reduceLE, Int.reduceLT, Nat.reduceAdd, Nat.reduceLeDiff, intBin, strBin, unD, extractD, lit1, lit2, lit3, keptD, boxR, D.one, D.pub1, D.cells, splice, cutOwn]
                              simpa using fin
                        · have hle := begW_le c3
                          have hw : IntKind.i64.wrap (IntKind.i64.wrap ((n : Int) + (l[k].length : Int)) - (r.length : Int)) = ((n + (l[k].length - r.length) : Nat) : Int) := by
                            have hw1 : IntKind.i64.wrap ((n : Int) + (l[k].length : Int)) = (n : Int) + (l[k].length : Int) := wrap64_in (by omega) (by omega)
                            rw [hw1, wrap64_in (by omega) (by omega)]
                            omega
                          simp -dsimp only [h11, h9, h10, h8', h7, h4, h0, encSS, encLL, hltk, hxk, c1, c3, hw, ↓preB, postB, genB, ↓reduceIte, Nat.reduceEqDiff, Int.reduceToNat, Int.reduceLE, Int.reduceLT, Nat.reduceAdd, Nat.reduceLeDiff, intBin, strBin, unD, extractD, lit1, lit2, lit3, keptD, boxR, D.one, D.pub1, D.cells, splice, cutOwn]
                          intro _
                          refine ⟨⟨by omega, by omega⟩, fun _ _ => ?_⟩
                          rw [encSS_drop _ _ hle]
                          refine PCall.use (put_c l s.next C _ _ (by omega) t hHC.bh) fun d τ ⟨hd, q1, q2, q3⟩ => ?_
                          subst hd
                          have fin := step _ _ τ (.ext r n k hsn hr0 hltk c3) (by omega) (FolB.ofExt hltk c3) q1 q2 q3 _ rfl
                          cases hput : (putB C (l[k].drop r.length) (n + (l[k].length - r.length))).1
                          · rw [hput] at fin
                            simp -dsimp only [h11, h9, h10, h8', h7, h4, h0, encSS, encLL, hltk, hxk, c1, c3, ↓preB, postB, genB, ↓reduceIte, Nat.reduceEqDiff, Int.reduceToNat, Int.reduceLE, Int.reduceLT, Nat.reduceAdd, Nat.reduceLeDiff, intBin, strBin, unD, extractD, lit1, lit2, lit3, keptD, boxR, D.one, D.pub1, D.cells, splice, cutOwn]
                            simpa using fin
                          · rw [hput] at fin
                            simp -dsimp only [h11, h9, h10, h8', h7, h4, h0, encSS, encLL, hltk, hxk, c1, c3, ↓preB, postB, genB, ↓reduceIte, Nat.reduceEqDiff, Int.reduceToNat, Int.reduceLE, Int.reduceLT, Nat.reduceAdd, Nat.reduceLeDiff, intBin, strBin, unD, extractD, lit1, lit2, lit3, keptD, boxR, D.one, D.pub1, D.cells, splice, cutOwn]
                            simpa using fin
                    · simp -dsimp only [h11, h9, h10, h8', h7, h4, h0, encSS, encLL, Nat.not_lt.2 hgek, ↓preB, postB, genB, ↓reduceIte, Nat.reduceEqDiff, Int.reduceToNat, Int.reduceLE, Int.reduceLT, Nat.reduceAdd, Nat.reduceLeDiff, intBin, strBin, unD, extractD, lit1, lit2, lit3, keptD, boxR, D.one, D.pub1, D.cells, splice, cutOwn]
                      intros
                      refine done fun ha k' => ?_
                      obtain ⟨_, _, hf⟩ := hc2 ha
                      by_cases hk' : k' < k
                      · exact hf k' hk'
                      · exact fun _ h => absurd h (by omega)
                · simp -dsimp only [h8', h7, h4, h0, hq, Nat.not_lt.2 hgei, ↓preB, postB, genB, ↓reduceIte, Nat.reduceEqDiff, Int.reduceToNat, Int.reduceLE, Int.reduceLT, Nat.reduceAdd, Nat.reduceLeDiff, intBin, strBin, unD, extractD, lit1, lit2, lit3, keptD, boxR, D.one, D.pub1, D.cells, splice, cutOwn]
                  intros
                  refine ⟨(ag, B'), ⟨hIB, hHB, fun h p hp k => ?_, rfl⟩, ?_⟩
                  · obtain ⟨i', hi', rfl⟩ := List.getElem_of_mem hp
                    exact (hag2 h).2 i' hi' (by simp only at hi'; omega) k
                  · cases ag
                    · simp
                    · have := hag1 rfl
                      simp only [if_true]
                      omega
end Go.Proofs.YtldlcejlfaogbaaGreatDoor.Vs

/- Races: copied, taken out. -/
namespace Go.Proofs.YtldlcejlfaogbaaGreatDoor.Vs
set_option linter.unusedVariables false
set_option linter.unusedSimpArgs false
set_option maxRecDepth 20000
theorem encSS_cut {w : Wd} {n : Nat} (h : n ≤ w.length) : D.sl .no (w.length - n) (((w.map D.str).drop n).take (w.length - n)) = encSS (w.drop n) := encSS_drop w n h

theorem bs42_0 {nx : Nat} : buildSliceR Zs 0 39 0 [] nx = some (.sl .full 0 [], .keep) := by rfl
theorem nilOf_pos {o : Own} {n : Nat} (ho : o ≠ .nil) (hn : 0 < n) : nilOf o n = some false := by
  cases o with
  | nil => exact absurd rfl ho
  | no => simp [nilOf, hn]
  | full => rfl
  | tip r z => rfl
theorem clone_c (ns : List Int) (o : Own) (ho : o ≠ .nil) (h0 : ns ≠ []) (hb : ns.length ≤ 100000) (σ : Heap) : PCall Zs 120 [.sl o ns.length (ns.map (.int .i64))] σ (fun d τ => Closed σ ∧ Acc 3 1 σ ns.length (ns.map (.int .i64)) d τ) := by
  have hp : 0 < ns.length := List.length_pos_iff.2 h0
  refine pcall_of (Z := Zs) ok120 fun hcl hbl => ?_
  simp -dsimp only [L120, nilOf_pos ho hp, bs42_0, ↓preB, postB, genB, ↓reduceIte, Nat.reduceEqDiff, Int.reduceToNat, Int.reduceLE, Int.reduceLT, Nat.reduceAdd, Nat.reduceLeDiff, intBin, strBin, unD, extractD, lit1, lit2, lit3, keptD, boxR, D.one, D.pub1, D.cells, splice, cutOwn]
  refine (Acc.full (e := 3) (z := 1) (n := 0) (cs := []) (HLe.refl σ)).append (m := ns.length) (ys := ns.map (.int .i64)) hcl tz39 rfl tz3 rfl rfl rfl (by decide) (by simp) (fedBy_sl tz39 rfl (by simp)) (by simp only []; omega) (by simp only [big]; omega) fun d' s' hA => ?_
  simp -dsimp only [↓preB, postB, genB, ↓reduceIte, Nat.reduceEqDiff, Int.reduceToNat, Int.reduceLE, Int.reduceLT, Nat.reduceAdd, Nat.reduceLeDiff, intBin, strBin, unD, extractD, lit1, lit2, lit3, keptD, boxR, D.one, D.pub1, D.cells, splice, cutOwn]
  refine Ret.now hA.le.next ⟨hcl, ?_⟩
  simpa using hA

def cellsR : List Race → List D
  | [] => []
  | e :: l => encSS e.more :: .int .i64 (e.long : Int) :: .sl e.ob e.behind.length (e.behind.map (.int .i64)) :: .sl e.oa e.ahead.length (e.ahead.map (.int .i64)) :: cellsR l
theorem cellsR_len : ∀ l : List Race, (cellsR l).length = l.length * 4
  | [] => rfl
  | e :: l => by simp only [cellsR, List.length_cons, cellsR_len l]; omega
theorem cellsR_append : ∀ a b : List Race, cellsR (a ++ b) = cellsR a ++ cellsR b
  | [], b => rfl
  | e :: a, b => by simp only [List.cons_append, cellsR, cellsR_append a b]
theorem cellsR_drop : ∀ (t : List Race) (k : Nat), (cellsR t).drop (k * 4) = cellsR (t.drop k)
  | [], k => by simp [cellsR]
  | e :: t, 0 => by simp
  | e :: t, k + 1 => by
    rw [show (k + 1) * 4 = k * 4 + 4 by omega]
    simp only [cellsR, List.drop_succ_cons]
    exact cellsR_drop t k
theorem cellsR_take : ∀ (t : List Race) (k : Nat), (cellsR t).take (k * 4) = cellsR (t.take k)
  | [], k => by simp [cellsR]
  | e :: t, 0 => by simp [cellsR]
  | e :: t, k + 1 => by
    rw [show (k + 1) * 4 = k * 4 + 4 by omega]
    simp only [cellsR, List.take_succ_cons]
    rw [cellsR_take t k]
theorem cellsR_at {t : List Race} {k : Nat} (h : k < t.length) (js : List D) : (cellsR t ++ js).drop (k * 4) = encSS t[k].more :: .int .i64 (t[k].long : Int) :: .sl t[k].ob t[k].behind.length (t[k].behind.map (.int .i64)) :: .sl t[k].oa t[k].ahead.length (t[k].ahead.map (.int .i64)) :: (cellsR (t.drop (k + 1)) ++ js) := by
  have hk : k * 4 ≤ (cellsR t).length := by rw [cellsR_len]; omega
  rw [List.drop_append_of_le_length hk, cellsR_drop, List.drop_eq_getElem_cons h]
  rfl

section
variable {g : Nat → Option AO} {r off n a b m : Nat} {k k' k'' : IntKind}
theorem srow3 (h1 : a ≤ b) (h2 : b ≤ m) (h3 : m ≤ n) : sliceD Zs g 164 (.row r off n none 4) (some (.int k a)) (some (.int k' b)) (some (.int k'' m)) = some (.row r (off + a * 4) (b - a) (some (m - a)) 4) := by
  unfold sliceD
  simp only [tz164, tz166, bound, Option.map_some, Int.toNat_natCast]
  rw [if_pos ⟨by omega, by omega, by omega, .inl (by omega), trivial⟩]
theorem srowHi (h : a ≤ n) : sliceD Zs g 164 (.row r off n none 4) none (some (.int k a)) none = some (.row r off a none 4) := by
  unfold sliceD
  simp only [tz164, tz166, bound, Option.map_some, Option.map_none, Int.toNat_natCast]
  rw [if_pos ⟨by omega, by omega, .inl (by omega), trivial⟩]
  simp
theorem srowLo (h : a ≤ n) : sliceD Zs g 164 (.row r off n none 4) (some (.int k a)) none none = some (.row r (off + a * 4) (n - a) none 4) := by
  unfold sliceD
  simp only [tz164, tz166, bound, Option.map_some, Option.map_none, Int.toNat_natCast]
  rw [if_pos ⟨by omega, by omega, .inl (by omega), trivial⟩]
theorem srow2 {e : TypeId} {cs : List D} (h1 : a ≤ b) (hg : g r = some (.cells e cs)) (hb : off + b * 4 ≤ cs.length) : sliceD Zs g 164 (.row r off n none 4) (some (.int k a)) (some (.int k' b)) none = some (.row r (off + a * 4) (b - a) none 4) := by
  unfold sliceD
  simp only [tz164, tz166, bound, Option.map_some, Option.map_none, Int.toNat_natCast]
  rw [if_pos ⟨by omega, by omega, .inr (by simp only [rowFits, hg]; exact decide_eq_true ⟨by omega, by decide⟩), trivial⟩]
theorem clear74 : ∃ zs : List D, zs.length = 4 ∧ ∀ {e : TypeId} {cs : List D} {c : Option Nat}, g r = some (.cells e cs) → off + 1 * 4 ≤ cs.length → clearR Zs g #[164] (.row r off 1 c 4) = some (.put r (.cells e (splice cs off zs))) := by
  obtain ⟨ie, hie, h1, h2, h3⟩ : ∃ ie, Zs.T 166 = some ie ∧ ie.size = 4 ∧ ie.zeros.all D.one = true ∧ ie.zeros.length = ie.size := ⟨_, tz166, rfl, rfl, rfl⟩
  refine ⟨litZero ie (1 * 4), by simp [litZero], fun hg hl => ?_⟩
  unfold clearR
  simp only [tz164, hie, hg, List.getElem?_toArray, List.getElem?_cons_zero, Option.map_some]
  rw [if_pos ⟨h1, by decide, hl, h2, h3⟩]
theorem fedRow {e : TypeId} {cs : List D} {c : Option Nat} (hg : g r = some (.cells e cs)) (hl : off + n * 4 ≤ cs.length) : fedBy Zs g 164 4 (.row r off n c 4) = some (n, (cs.drop off).take (n * 4)) := by
  simp [fedBy, tz164, hg, hl]
end
theorem app_row0 {Z : Sys} {t t2 e : TypeId} {it ie : TInfo} {n : Nat} {σ : Heap} {cs ys : List D} {y : D} {K : D → Heap → Prop} {hK : Keep K} {ann r : Nat} (ht : Z.T t = some it) (hd : it.d = .slice e) (hie : Z.T e = some ie) (hz : ie.zero.cells.size = ie.size) (hz1 : ie.zeros.all D.one = true) (hpos : 0 < ie.size) (hf : fedBy Z σ.get t2 ie.size y = some (0, ys)) (hr : σ.get r = some (.cells e cs)) (hcs : n * ie.size ≤ cs.length) (hb : n * ie.bytes ≤ 140737488355328) (hbig : n ≤ big)
    (k : K (.row r 0 n none ie.size) σ) : kR (appendR Z ann σ.get σ.next #[t, t2] (.row r 0 n none ie.size) y) σ K hK := by
  have : appendR Z ann σ.get σ.next #[t, t2] (.row r 0 n none ie.size) y = some (.row r 0 n none ie.size, .keep) := by
    unfold appendR
    simp only [ht, hd, hie, hf]
    rw [if_pos ⟨hpos, hz, hz1⟩]
    simp only [hr]
    rw [if_pos ⟨trivial, trivial, by omega, by simpa using hb, by simpa using hbig⟩, if_pos trivial]
  rw [this]; exact k

theorem Heap.set_self {σ : Heap} {q : Nat} {o : AO} (h : σ.get q = some o) : σ.set q o = σ := by
  cases σ with
  | mk n g =>
    simp only [Heap.set, Heap.mk.injEq, true_and]
    funext i
    split
    · rename_i hi; rw [hi]; exact h.symm
    · rfl
theorem cellsR_erase {t : List Race} {k : Nat} (hk : k < t.length) : cellsR (t.eraseIdx k) = cellsR (t.take k) ++ cellsR (t.drop (k + 1)) := by
  rw [List.eraseIdx_eq_take_drop_succ, cellsR_append]
theorem del_app {todo : List Race} {q k : Nat} {js : List D} {σ : Heap} {K : D → Heap → Prop} {hK : Keep K} (hk : k < todo.length) (hb : todo.length ≤ 100000) (hq : σ.get q = some (.cells 166 (cellsR todo ++ js)))
    (kk : ∀ rest : List D, 4 ≤ rest.length → K (.row q 0 (todo.length - 1) none 4) (σ.set q (.cells 166 (cellsR (todo.eraseIdx k) ++ rest)))) : kR (appendR Zs 0 σ.get σ.next #[164, 164] (.row q 0 k none 4) (.row q ((k + 1) * 4) (todo.length - (k + 1)) none 4)) σ K hK := by
  have hlen : (cellsR todo ++ js).length = todo.length * 4 + js.length := by rw [List.length_append, cellsR_len]
  have hf := fedRow (g := σ.get) (r := q) (off := (k + 1) * 4) (n := todo.length - (k + 1)) (c := none) hq (by omega)
  have e1 : ((cellsR todo ++ js).drop ((k + 1) * 4)).take ((todo.length - (k + 1)) * 4) = cellsR (todo.drop (k + 1)) := by
    rw [List.drop_append_of_le_length (by rw [cellsR_len]; omega), cellsR_drop, List.take_append_of_le_length (by rw [cellsR_len, List.length_drop]; exact Nat.le_refl _), List.take_of_length_le (by rw [cellsR_len, List.length_drop]; exact Nat.le_refl _)]
  have e2 : (cellsR todo ++ js).take (k * 4) = cellsR (todo.take k) := by
    rw [List.take_append_of_le_length (by rw [cellsR_len]; omega), cellsR_take]
  rw [e1] at hf
  by_cases hm : todo.length - (k + 1) = 0
  · rw [hm] at hf ⊢
    refine app_row0 tz164 rfl tz166 rfl rfl (by decide) hf hq (by rw [hlen]; simp only []; omega) (by simp only []; omega) (by simp only [big]; omega) ?_
    have hkn : k = todo.length - 1 := by omega
    have hd : todo.drop (k + 1) = [] := List.drop_of_length_le (by omega)
    have hc : cellsR todo ++ js = cellsR (todo.eraseIdx k) ++ (cellsR todo ++ js).drop (k * 4) := by
      rw [cellsR_erase hk, hd, cellsR, List.append_nil, ← e2, List.take_append_drop]
    have := kk ((cellsR todo ++ js).drop (k * 4)) (by rw [List.length_drop, hlen]; omega)
    rw [← hc, Heap.set_self hq, ← hkn] at this
    exact this
  · refine app_row tz164 rfl tz166 rfl rfl (by decide) hf hm hq (by rw [hlen]; simp only []; omega) (by simp only []; omega) (by simp only [big]; omega) (fun _ => ?_) (fun h => absurd (by rw [hlen]; simp only []; omega) h)
    have hc : splice (cellsR todo ++ js) (k * 4) (cellsR (todo.drop (k + 1))) = cellsR (todo.eraseIdx k) ++ (cellsR todo ++ js).drop (k * 4 + (cellsR (todo.drop (k + 1))).length) := by
      rw [splice, e2, cellsR_erase hk]
    have := kk ((cellsR todo ++ js).drop (k * 4 + (cellsR (todo.drop (k + 1))).length)) (by rw [List.length_drop, hlen, cellsR_len, List.length_drop]; omega)
    rw [← hc, show todo.length - 1 = k + (todo.length - (k + 1)) by omega] at this
    exact this

theorem delete_c (todo : List Race) (q k : Nat) (js : List D) (hk : k < todo.length) (hb : todo.length ≤ 100000) (σ : Heap) (hq : σ.get q = some (.cells 166 (cellsR todo ++ js))) :
    PCall Zs 119 [.row q 0 todo.length none 4, .int .i64 k, .int .i64 ((k + 1 : Nat) : Int)] σ (fun d τ => ∃ js', d = .row q 0 (todo.length - 1) none 4 ∧ τ = σ.set q (.cells 166 (cellsR (todo.eraseIdx k) ++ js'))) := by
  have hlen : (cellsR todo ++ js).length = todo.length * 4 + js.length := by rw [List.length_append, cellsR_len]
  have e1 : ((k : Int) == ((k + 1 : Nat) : Int)) = false := by rw [beq_eq_false_iff_ne]; omega
  have f3 : ∀ (g : Nat → Option AO), sliceD Zs g 164 (.row q 0 todo.length none 4) (some (.int .i64 k)) (some (.int .i64 ((k + 1 : Nat) : Int))) (some (.int .i64 todo.length)) = some (.row q (0 + k * 4) (k + 1 - k) (some (todo.length - k)) 4) := fun g => srow3 (by omega) (by omega) (by omega)
  refine pcall_of (Z := Zs) ok119 fun hcl hbl => ?_
  simp -dsimp only [L119, hq, e1, f3, srowHi (Nat.le_of_lt hk), srowLo (show k + 1 ≤ todo.length from hk), ↓preB, postB, genB, ↓reduceIte, Nat.reduceEqDiff, Int.reduceToNat, Int.reduceLE, Int.reduceLT, Nat.reduceAdd, Nat.reduceLeDiff, intBin, strBin, unD, extractD, lit1, lit2, lit3, keptD, boxR, D.one, D.pub1, D.cells, splice, cutOwn]
  intro _ _
  refine draw_t 6 (by decide) ?_
  simp -dsimp only [hq, e1, srowHi (Nat.le_of_lt hk), srowLo (show k + 1 ≤ todo.length from hk), ↓preB, postB, genB, ↓reduceIte, Nat.reduceEqDiff, Int.reduceToNat, Int.reduceLE, Int.reduceLT, Nat.reduceAdd, Nat.reduceLeDiff, intBin, strBin, unD, extractD, lit1, lit2, lit3, keptD, boxR, D.one, D.pub1, D.cells, splice, cutOwn]
  refine del_app hk hb hq fun rest hr => ?_
  generalize hs : σ.set q _ = s1
  have g1 : s1.get q = some (.cells 166 (cellsR (todo.eraseIdx k) ++ rest)) := by rw [← hs, Heap.set_same]
  have hle : (cellsR (todo.eraseIdx k)).length = (todo.length - 1) * 4 := by rw [cellsR_len, List.length_eraseIdx, if_pos hk]
  have f4 : sliceD Zs s1.get 164 (.row q 0 (todo.length - 1) none 4) (some (.int .i64 ((todo.length - 1 : Nat) : Int))) (some (.int .i64 todo.length)) none = some (.row q ((todo.length - 1) * 4) (todo.length - (todo.length - 1)) none 4) := by rw [srow2 (by omega) g1 (by rw [List.length_append, hle]; omega), Nat.zero_add]
  rw [show todo.length - (todo.length - 1) = 1 by omega] at f4
  obtain ⟨zs, z1, z2⟩ := clear74 (g := s1.get) (r := q) (off := (todo.length - 1) * 4)
  simp -dsimp only [g1, f4, ↓preB, postB, genB, ↓reduceIte, Nat.reduceEqDiff, Int.reduceToNat, Int.reduceLE, Int.reduceLT, Nat.reduceAdd, Nat.reduceLeDiff, intBin, strBin, unD, extractD, lit1, lit2, lit3, keptD, boxR, D.one, D.pub1, D.cells, splice, cutOwn]
  intro _
  rw [z2 g1 (by rw [List.length_append, hle]; omega)]
  simp -dsimp only [↓preB, postB, upd_apply, Nat.reduceEqDiff, ↓reduceIte, retQ_ret, exists_eq_left', Option.some.injEq]
  have hsp : splice (cellsR (todo.eraseIdx k) ++ rest) ((todo.length - 1) * 4) zs = cellsR (todo.eraseIdx k) ++ (zs ++ (cellsR (todo.eraseIdx k) ++ rest).drop ((todo.length - 1) * 4 + zs.length)) := by
    rw [splice, ← hle, List.take_left, List.append_assoc]
  rw [hsp]
  refine Ret.now (by rw [Heap.next_set, ← hs, Heap.next_set]; exact Nat.le_refl _) ⟨zs ++ (cellsR (todo.eraseIdx k) ++ rest).drop ((todo.length - 1) * 4 + zs.length), rfl, by rw [← hs, Heap.set_set]⟩
end Go.Proofs.YtldlcejlfaogbaaGreatDoor.Vs

/- The program's search for two rows of words that make one: its texts. -/

/- The program's search for two rows of words that make one. -/
namespace Go.Proofs.YtldlcejlfaogbaaGreatDoor.Vs
set_option linter.unusedVariables false
set_option linter.unusedSimpArgs false
set_option maxRecDepth 20000
def encTwo : Option (List Int × List Int) → D
  | none => .sl .nil 0 []
  | some (a, b) => .sl .no 2 [encI a, encI b]
theorem bel_encI {N : Nat} (a : List Int) : Bel N (encI a) := .no (bel_ints a)
theorem bel_encTwo {N : Nat} : ∀ r, Bel N (encTwo r)
  | none => .sl _ _ _ (fun r z h => by cases h) (by simp)
  | some (a, b) => .no fun d hd => by
    simp only [List.mem_cons, List.not_mem_nil, or_false] at hd
    rcases hd with rfl | rfl <;> exact bel_encI _
theorem told_two {σ τ : Heap} {o1 o2 o3 : Own} (a b : List Int) : Told σ τ (.sl o1 2 [.sl o2 a.length (a.map (.int .i64)), .sl o3 b.length (b.map (.int .i64))]) (encTwo (some (a, b))) :=
  .sl o1 .no 2 _ _ (.inl rfl) rfl fun i h1 h2 => match i, h1, h2 with
    | 0, _, _ => Told.pub1 _ _ _
    | 1, _, _ => Told.pub1 _ _ _
/-- What the search comes to. -/
def SpecC (l : List Wd) (res : Option (List Int × List Int)) : Prop :=
  match l.findIdx? noneIn with
  | some k => res = some ([], [(k : Int)])
  | none => match res with
    | none => ∀ m, ¬ Rch l [] m
    | some (a, b) => a ≠ b ∧ okNs l a ∧ okNs l b ∧ joinW l a = joinW l b ∧ Rch l [] (joinW l a).length ∧ (∀ m, Rch l [] m → (joinW l a).length ≤ m) ∧ a.length ≤ 10000 ∧ b.length ≤ 10000
theorem ab76 (o o2 o3 : Own) (n n2 n3 : Nat) (k : IntKind) (x : Int) (cs cs2 cs3 : List D) : aBuilt Zs 166 [(0, .sl o n cs), (1, .int k x), (2, .sl o2 n2 cs2), (3, .sl o3 n3 cs3)] = some [.sl o n cs, .int k x, .sl o2 n2 cs2, .sl o3 n3 cs3] := by rfl
theorem bs74 (o o2 o3 : Own) (n n2 n3 nx : Nat) (k : IntKind) (x : Int) (cs cs2 cs3 : List D) : buildSliceR Zs 0 164 1 [(0, .agg [.sl o n cs, .int k x, .sl o2 n2 cs2, .sl o3 n3 cs3])] nx = some (.sl .full 1 [.sl o n cs, .int k x, .sl o2 n2 cs2, .sl o3 n3 cs3], .keep) := by rfl
def ownsOK (t : List Race) : Prop := ∀ e ∈ t, e.ob ≠ .nil ∧ e.oa ≠ .nil

/-- The heap of which nothing is changed, and the map of what is done. -/
def baseC (σ : Heap) (m : Nat) (es : List ME) (c : Nat) : Heap := ⟨m + 1, fun i => if i = m then some (.map es c) else σ.get i⟩
theorem baseC_map {σ : Heap} {m : Nat} {es : List ME} {c : Nat} : (baseC σ m es c).get m = some (.map es c) := by simp [baseC]
theorem baseC_lt {σ : Heap} (hc : Closed σ) {m : Nat} (hm : σ.next ≤ m) {es : List ME} {c : Nat} : ∀ r o, (baseC σ m es c).get r = some o → r < (baseC σ m es c).next := fun r o h => by
  simp only [baseC] at h ⊢
  split at h
  · omega
  · have := hc.lt r o h; omega
theorem baseC_le {σ : Heap} (hc : Closed σ) {m : Nat} (hm : σ.next ≤ m) {es : List ME} {c : Nat} : HLe σ (baseC σ m es c) := ⟨by simp only [baseC]; omega, fun r o h => by
  have := hc.lt r o h
  simp only [baseC]
  rw [if_neg (by omega)]; exact h⟩
def MapC (es : List ME) (dn : Bl) : Prop := es.map (·.key) = dn.reverse.map (fun p => D.str (keyB p.1 sp)) ∧ ∀ e ∈ es, e.val = .bool true
theorem keyEq9 (a b : ByteArray) : keyEq Zs 9 (.str a) (.str b) = some (a == b) := by simp [keyEq, tz9, plainKeyT, eqS]
theorem findC : ∀ (es : List ME) (ks : List ByteArray) (i : Nat) (x : ByteArray), es.map (·.key) = ks.map D.str → (∀ e ∈ es, e.val = .bool true) → (x ∈ ks → ∃ j, findD Zs 9 (.str x) es i = some (some (j, .bool true))) ∧ (x ∉ ks → findD Zs 9 (.str x) es i = some none)
  | [], ks, i, x, h, _ => by
    have : ks = [] := by cases ks with
      | nil => rfl
      | cons => cases h
    subst this
    exact ⟨fun h => absurd h (by simp), fun _ => rfl⟩
  | e :: es, [], i, x, h, _ => by cases h
  | e :: es, k :: ks, i, x, h, hv => by
    simp only [List.map_cons, List.cons.injEq] at h
    obtain ⟨h1, h2⟩ := findC es ks (i + 1) x h.2 fun e he => hv e (List.mem_cons_of_mem _ he)
    simp only [findD, h.1, keyEq9]
    cases hx : (x == k)
    · have hne : x ≠ k := fun e => by rw [e, ba_refl] at hx; cases hx
      simp only
      exact ⟨fun hm => h1 (by rcases List.mem_cons.1 hm with hm | hm; exact absurd hm hne; exact hm), fun hm => h2 fun hm' => hm (List.mem_cons_of_mem _ hm')⟩
    · have := ba_eq hx
      subst this
      simp only
      exact ⟨fun _ => ⟨i, by rw [hv e (List.mem_cons_self ..)]⟩, fun hm => absurd (List.mem_cons_self ..) hm⟩
theorem MapC.find {es : List ME} {dn : Bl} (h : MapC es dn) (hd : ∀ p ∈ dn, goodW p.1) {r : Wd} (hr : goodW r) : (r ∈ dn.map (·.1) → ∃ j, findD Zs 9 (.str (keyB r sp)) es 0 = some (some (j, .bool true))) ∧ (r ∉ dn.map (·.1) → findD Zs 9 (.str (keyB r sp)) es 0 = some none) := by
  have hk : es.map (·.key) = (dn.reverse.map fun p => keyB p.1 sp).map D.str := by rw [h.1, List.map_map]; rfl
  obtain ⟨h1, h2⟩ := findC es _ 0 (keyB r sp) hk h.2
  refine ⟨fun hm => h1 ?_, fun hm => h2 fun hm' => hm ?_⟩
  · obtain ⟨p, hp, rfl⟩ := List.mem_map.1 hm
    exact List.mem_map.2 ⟨p, List.mem_reverse.2 hp, rfl⟩
  · obtain ⟨p, hp, he⟩ := List.mem_map.1 hm'
    have hp := List.mem_reverse.1 hp
    exact List.mem_map.2 ⟨p, hp, keyB_inj (hd p hp) hr he⟩
theorem MapC.add {es : List ME} {dn : Bl} (h : MapC es dn) (r : Wd) (n c : Nat) : MapC (es ++ [⟨c, .str (keyB r sp), .bool true⟩]) ((r, n) :: dn) := by
  refine ⟨?_, fun e he => ?_⟩
  · simp only [List.map_append, List.map_cons, List.map_nil, List.reverse_cons, h.1]
  · rcases List.mem_append.1 he with he | he
    · exact h.2 e he
    · rw [List.mem_singleton] at he; subst he; rfl
theorem look77 {g : Nat → Option AO} {m c : Nat} {es : List ME} {x : ByteArray} {r : Option (Nat × D)} (hg : g m = some (.map es c)) (h : findD Zs 9 (.str x) es 0 = some r) : lookupD Zs g 160 (.map m) (.str x) false = some ((r.map (·.2)).getD (.bool false)) := by
  unfold lookupD
  simp only [tz160, tz4, mapEnts, hg]
  rw [if_pos (by simp [keyFits, tz9, plainKeyT]), h]
  cases r with
  | none => rfl
  | some p => rfl
theorem upd77 {g : Nat → Option AO} {m c : Nat} {es : List ME} {x : ByteArray} {v : D} (hg : g m = some (.map es c)) (h : findD Zs 9 (.str x) es 0 = some none) : mapUpdateE Zs g 160 (.map m) (.str x) v = some (.put m (.map (es ++ [⟨c, .str x, v⟩]) (c + 1))) := by
  unfold mapUpdateE
  simp only [tz160, hg, Option.map_some]
  rw [if_pos (by simp [keyFits, tz9, plainKeyT]), h]
  rfl
theorem AccR.new {e : TypeId} {z n : Nat} {σ0 σ : Heap} {cs : List D} {d : D} (h : AccR e z σ0 n cs d σ) (hc : ∀ r o, σ0.get r = some o → r < σ0.next) (o : AO) : AccR e z σ0 n cs d (σ.new o) := by
  obtain ⟨h1, h2, h3⟩ := h
  refine ⟨h1.new o hc, h2, ?_⟩
  rcases h3 with h3 | ⟨q, js, a, b, c, d⟩
  · exact .inl h3
  · exact .inr ⟨q, js, a, by rw [Heap.next_new]; omega, c, by rw [Heap.new_get, if_neg (by omega)]; exact d⟩
/-- The heap below is told otherwise. -/
theorem AccR.base {e : TypeId} {z n : Nat} {σ0 σ1 σ : Heap} {cs : List D} {d : D} (h : AccR e z σ0 n cs d σ) (hle : HLe σ1 σ) (hq : ∀ q, d = .row q 0 n none z → σ1.get q = none) : AccR e z σ1 n cs d σ := by
  obtain ⟨h1, h2, h3⟩ := h
  refine ⟨hle, h2, ?_⟩
  rcases h3 with h3 | ⟨q, js, a, b, c, d⟩
  · exact .inl h3
  · exact .inr ⟨q, js, hq q c, b, c, d⟩

theorem mem_erase {t : List Race} {b : Nat} (hb : b < t.length) (x : Race) : x ∈ t ↔ x = t[b] ∨ x ∈ t.eraseIdx b := by
  have h1 : t = t.take b ++ t[b] :: t.drop (b + 1) := by rw [← List.drop_eq_getElem_cons hb, List.take_append_drop]
  have h2 : t.eraseIdx b = t.take b ++ t.drop (b + 1) := List.eraseIdx_eq_take_drop_succ ..
  rw [h2]
  constructor
  · intro hx
    rw [h1] at hx
    rcases List.mem_append.1 hx with hx | hx
    · exact .inr (List.mem_append_left _ hx)
    · rcases List.mem_cons.1 hx with hx | hx
      · exact .inl hx
      · exact .inr (List.mem_append_right _ hx)
  · intro hx
    rw [h1]
    rcases hx with hx | hx
    · exact List.mem_append_right _ (hx ▸ List.mem_cons_self ..)
    · rcases List.mem_append.1 hx with hx | hx
      · exact List.mem_append_left _ hx
      · exact List.mem_append_right _ (List.mem_cons_of_mem _ hx)
theorem good_rest {l : List Wd} (hg : ∀ w ∈ l, goodW w) {r : Wd} (h : r ∈ rests l) : goodW r := by
  obtain ⟨w, hw, h⟩ := List.mem_flatMap.1 h
  obtain ⟨i, _, rfl⟩ := List.mem_map.1 h
  exact (hg w hw).drop i

theorem clash_c (l : List Wd) (h24 : l.length ≤ 24) (hg : ∀ w ∈ l, goodW w) (h8 : ∀ w ∈ l, w.length ≤ 8) (σ : Heap) : PCall Zs 69 [encLL l] σ (fun d τ => τ = σ ∧ ∃ res, d = encTwo res ∧ SpecC l res) := by
  have hR : (rests l).length ≤ 216 := by have := rests_len h8; omega
  refine pcall_of (Z := Zs) ok69 fun hcl hbl => ?_
  simp -dsimp only [L69, ↓preB, postB, genB, ↓reduceIte, Nat.reduceEqDiff, Int.reduceToNat, Int.reduceLE, Int.reduceLT, Nat.reduceAdd, Nat.reduceLeDiff, intBin, strBin, unD, extractD, lit1, lit2, lit3, keptD, boxR, D.one, D.pub1, D.cells, splice, cutOwn]
  refine Fn.use (indexLL_c l noneIn 118 [] (fun x _ => noneIn_c x)) ?_
  cases hfi : l.findIdx? noneIn with
  | some k =>
    have hi : idxOf noneIn l = (k : Int) := by rw [idxOf, hfi]
    simp -dsimp only [hi, ↓preB, postB, genB, ↓reduceIte, Nat.reduceEqDiff, Int.reduceToNat, Int.reduceLE, Int.reduceLT, Nat.reduceAdd, Nat.reduceLeDiff, intBin, strBin, unD, extractD, lit1, lit2, lit3, keptD, boxR, D.one, D.pub1, D.cells, splice, cutOwn]
    exact Ret.told σ (encTwo (some ([], [(k : Int)]))) (Nat.le_refl _) (HLe.refl _) hcl (told_two [] [(k : Int)]) (bel_encTwo _) ⟨rfl, _, rfl, by rw [SpecC, hfi]⟩
  | none =>
    have hi : idxOf noneIn l = -1 := by rw [idxOf, hfi]
    have hne : ∀ w ∈ l, w ≠ [] := fun w hw h => by
      have := List.findIdx?_eq_none_iff.1 hfi w hw
      rw [h] at this; simp [noneIn] at this
    simp -dsimp only [hi, show ¬ ((0 : Int) ≤ -1) by decide, encLL, ↓preB, postB, genB, ↓reduceIte, Nat.reduceEqDiff, Int.reduceToNat, Int.reduceLE, Int.reduceLT, Nat.reduceAdd, Nat.reduceLeDiff, intBin, strBin, unD, extractD, lit1, lit2, lit3, keptD, boxR, D.one, D.pub1, D.cells, splice, cutOwn]
    intros
    refine pwp_loopG (fun (x : Nat × List Race) env s => x.1 ≤ l.length ∧ IniR l x.2 x.1 0 ∧ x.2.length ≤ 24 * x.1 ∧ ownsOK x.2 ∧ AccR 166 4 σ x.2.length (cellsR x.2) (env 4) s ∧ env 26 = .int .i64 (x.1 : Nat) ∧ env 25 = .int .i64 l.length ∧ env 24 = encLL l ∧ env 0 = encLL l) (fun x => l.length - x.1) (0, []) ?_ ?_
    · simp only [upd_apply, Nat.reduceEqDiff, if_true, if_false, envOf_apply]
      exact ⟨Nat.zero_le _, IniR.nil l, Nat.zero_le _, fun e h => absurd h (by simp), AccR.nil (HLe.refl _), rfl, trivial, rfl, rfl⟩
    · rintro ⟨i, todo⟩ env s ⟨hil, hI, hlen, how, hA, h26, h25, h24', h0⟩
      simp only at hil hI hlen how hA h26
      rcases Nat.lt_or_ge i l.length with hlti | hgei
      · have hxi : l[i]? = some l[i] := List.getElem?_eq_getElem hlti
        have hp0 : 0 < l.length := by omega
        simp -dsimp only [h26, h25, h24', h0, encLL, hlti, hxi, hp0, ↓preB, postB, genB, ↓reduceIte, Nat.reduceEqDiff, Int.reduceToNat, Int.reduceLE, Int.reduceLT, Nat.reduceAdd, Nat.reduceLeDiff, intBin, strBin, unD, extractD, lit1, lit2, lit3, keptD, boxR, D.one, D.pub1, D.cells, splice, cutOwn]
        intros
        refine pwp_loopG (fun (x : Nat × List Race) env s => x.1 ≤ l.length ∧ IniR l x.2 i x.1 ∧ x.2.length ≤ 24 * i + x.1 ∧ ownsOK x.2 ∧ AccR 166 4 σ x.2.length (cellsR x.2) (env 4) s ∧ env 33 = .int .i64 (x.1 : Nat) ∧ env 32 = .int .i64 l.length ∧ env 31 = encLL l ∧ env 5 = .int .i64 (i : Nat) ∧ env 6 = encSS l[i] ∧ env 26 = .int .i64 (i : Nat) ∧ env 25 = .int .i64 l.length ∧ env 24 = encLL l ∧ env 0 = encLL l) (fun x => l.length - x.1) (0, todo) ?_ ?_
        · simp only [upd_apply, Nat.reduceEqDiff, if_true, if_false, h26, h25, h24', h0]
          exact ⟨Nat.zero_le _, hI, hlen, how, hA, rfl, trivial, rfl, trivial, trivial, trivial, trivial, trivial, trivial⟩
        · rintro ⟨j, todo⟩ env s ⟨hjl, hI, hlen, how, hA, h33, h32, h31, h5, h6, h26, h25, h24', h0⟩
          simp only at hjl hI hlen how hA h33
          rcases Nat.lt_or_ge j l.length with hltj | hgej
          · have hxj : l[j]? = some l[j] := List.getElem?_eq_getElem hltj
            have skip : wants l i j l[i] l[j] = false → ∃ y : Nat × List Race, (y.1 ≤ l.length ∧ IniR l y.2 i y.1 ∧ y.2.length ≤ 24 * i + y.1 ∧ ownsOK y.2 ∧ AccR 166 4 σ y.2.length (cellsR y.2) (env 4) s ∧ IntKind.i64.wrap ((j : Int) + 1) = ((y.1 : Nat) : Int)) ∧ l.length - y.1 < l.length - j := fun hw =>
              ⟨(j + 1, todo), ⟨by omega, hI.next hlti hltj hw, by simp only at hlen ⊢; omega, how, hA, wrap64_succ (by omega)⟩, by simp only; omega⟩
            have take : wants l i j l[i] l[j] = true → ∀ d' s', AccR 166 4 σ (todo.length + 1) (cellsR todo ++ [encSS (l[j].drop l[i].length), .int .i64 l[j].length, .sl .full 1 [.int .i64 (i : Int)], .sl .full 1 [.int .i64 (j : Int)]]) d' s' → ∃ y : Nat × List Race, (y.1 ≤ l.length ∧ IniR l y.2 i y.1 ∧ y.2.length ≤ 24 * i + y.1 ∧ ownsOK y.2 ∧ AccR 166 4 σ y.2.length (cellsR y.2) d' s' ∧ IntKind.i64.wrap ((j : Int) + 1) = ((y.1 : Nat) : Int)) ∧ l.length - y.1 < l.length - j := fun hw d' s' hA' =>
              ⟨(j + 1, todo ++ [⟨l[j].drop l[i].length, l[j].length, [(i:Int)], [(j:Int)], .full, .full⟩]), ⟨by omega, hI.add h8 hlti hltj hw _ _, by simp only [List.length_append, List.length_cons, List.length_nil]; omega, fun e he => by
                rcases List.mem_append.1 he with he | he
                · exact how e he
                · rw [List.mem_singleton] at he; subst he; exact ⟨by simp, by simp⟩, by rw [cellsR_append, List.length_append]; exact hA', wrap64_succ (by omega)⟩, by simp only; omega⟩
            have hbd : todo.length ≤ 600 := by omega
            by_cases hij : i = j
            · have c1 : ((i : Int) != (j : Int)) = false := by simp [hij]
              simp -dsimp only [h33, h32, h31, h5, h6, h26, h25, h24', h0, encLL, hltj, hxj, hp0, c1, ↓preB, postB, genB, ↓reduceIte, Nat.reduceEqDiff, Int.reduceToNat, Int.reduceLE, Int.reduceLT, Nat.reduceAdd, Nat.reduceLeDiff, intBin, strBin, unD, extractD, lit1, lit2, lit3, keptD, boxR, D.one, D.pub1, D.cells, splice, cutOwn]
              exact skip (by simp [wants, hij])
            · have c1 : ((i : Int) != (j : Int)) = true := by simp; omega
              simp -dsimp only [h33, h32, h31, h5, h6, h26, h25, h24', h0, encLL, hltj, hxj, hp0, c1, ↓preB, postB, genB, ↓reduceIte, Nat.reduceEqDiff, Int.reduceToNat, Int.reduceLE, Int.reduceLT, Nat.reduceAdd, Nat.reduceLeDiff, intBin, strBin, unD, extractD, lit1, lit2, lit3, keptD, boxR, D.one, D.pub1, D.cells, splice, cutOwn]
              refine Fn.use (begins_c _ _) ?_
              cases c2 : begW l[j] l[i]
              · simp -dsimp only [h33, h32, h31, h5, h6, h26, h25, h24', h0, encLL, hltj, hxj, hp0, c1, c2, ↓preB, postB, genB, ↓reduceIte, Nat.reduceEqDiff, Int.reduceToNat, Int.reduceLE, Int.reduceLT, Nat.reduceAdd, Nat.reduceLeDiff, intBin, strBin, unD, extractD, lit1, lit2, lit3, keptD, boxR, D.one, D.pub1, D.cells, splice, cutOwn]
                exact skip (by simp [wants, c2])
              · have hle := begW_le c2
                by_cases c3 : (l[i].length : Int) < l[j].length
                · simp -dsimp only [h33, h32, h31, h5, h6, h26, h25, h24', h0, encLL, encSS, hltj, hxj, hp0, c1, c2, c3, ab76, bs74, ↓preB, postB, genB, ↓reduceIte, Nat.reduceEqDiff, Int.reduceToNat, Int.reduceLE, Int.reduceLT, Nat.reduceAdd, Nat.reduceLeDiff, intBin, strBin, unD, extractD, lit1, lit2, lit3, keptD, boxR, D.one, D.pub1, D.cells, splice, cutOwn]
                  intros
                  refine ⟨⟨by omega, by omega⟩, fun _ => ?_⟩
                  rw [encSS_cut hle]
                  refine hA.append (m := 1) hcl.lt tz164 rfl tz166 rfl rfl rfl (by decide) (fedBy_sl tz164 rfl rfl) (by decide) (by simp only []; omega) (by simp only [big]; omega) fun d' s' hA' => ?_
                  simp -dsimp only [h33, h32, h31, h5, h6, h26, h25, h24', h0, ↓preB, postB, genB, ↓reduceIte, Nat.reduceEqDiff, Int.reduceToNat, Int.reduceLE, Int.reduceLT, Nat.reduceAdd, Nat.reduceLeDiff, intBin, strBin, unD, extractD, lit1, lit2, lit3, keptD, boxR, D.one, D.pub1, D.cells, splice, cutOwn]
                  exact take (by simp only [wants, c2, Bool.and_eq_true, Bool.or_eq_true, decide_eq_true_eq]; exact ⟨hij, trivial, by omega⟩) d' s' hA'
                · by_cases c4 : (i : Int) < j
                  · simp -dsimp only [h33, h32, h31, h5, h6, h26, h25, h24', h0, encLL, encSS, hltj, hxj, hp0, c1, c2, c3, c4, ab76, bs74, ↓preB, postB, genB, ↓reduceIte, Nat.reduceEqDiff, Int.reduceToNat, Int.reduceLE, Int.reduceLT, Nat.reduceAdd, Nat.reduceLeDiff, intBin, strBin, unD, extractD, lit1, lit2, lit3, keptD, boxR, D.one, D.pub1, D.cells, splice, cutOwn]
                    intros
                    refine ⟨⟨by omega, by omega⟩, fun _ => ?_⟩
                    rw [encSS_cut hle]
                    refine hA.append (m := 1) hcl.lt tz164 rfl tz166 rfl rfl rfl (by decide) (fedBy_sl tz164 rfl rfl) (by decide) (by simp only []; omega) (by simp only [big]; omega) fun d' s' hA' => ?_
                    simp -dsimp only [h33, h32, h31, h5, h6, h26, h25, h24', h0, ↓preB, postB, genB, ↓reduceIte, Nat.reduceEqDiff, Int.reduceToNat, Int.reduceLE, Int.reduceLT, Nat.reduceAdd, Nat.reduceLeDiff, intBin, strBin, unD, extractD, lit1, lit2, lit3, keptD, boxR, D.one, D.pub1, D.cells, splice, cutOwn]
                    exact take (by simp only [wants, c2, Bool.and_eq_true, Bool.or_eq_true, decide_eq_true_eq]; exact ⟨hij, trivial, by omega⟩) d' s' hA'
                  · simp -dsimp only [h33, h32, h31, h5, h6, h26, h25, h24', h0, encLL, encSS, hltj, hxj, hp0, c1, c2, c3, c4, ↓preB, postB, genB, ↓reduceIte, Nat.reduceEqDiff, Int.reduceToNat, Int.reduceLE, Int.reduceLT, Nat.reduceAdd, Nat.reduceLeDiff, intBin, strBin, unD, extractD, lit1, lit2, lit3, keptD, boxR, D.one, D.pub1, D.cells, splice, cutOwn]
                    intros
                    exact skip (by
                      rw [← Bool.not_eq_true]
                      simp only [wants, c2, Bool.and_eq_true, Bool.or_eq_true, decide_eq_true_eq]
                      omega)
          · simp -dsimp only [h33, h32, h31, h5, h6, h26, h25, h24', h0, encLL, Nat.not_lt.2 hgej, ↓preB, postB, genB, ↓reduceIte, Nat.reduceEqDiff, Int.reduceToNat, Int.reduceLE, Int.reduceLT, Nat.reduceAdd, Nat.reduceLeDiff, intBin, strBin, unD, extractD, lit1, lit2, lit3, keptD, boxR, D.one, D.pub1, D.cells, splice, cutOwn]
            have : j = l.length := by omega
            subst this
            exact ⟨(i + 1, todo), ⟨by omega, hI.line, by simp only at hlen ⊢; omega, how, hA, wrap64_succ (by omega)⟩, by simp only; omega⟩
      · simp -dsimp only [h26, h25, h24', h0, encLL, Nat.not_lt.2 hgei, ↓preB, postB, genB, ↓reduceIte, Nat.reduceEqDiff, Int.reduceToNat, Int.reduceLE, Int.reduceLT, Nat.reduceAdd, Nat.reduceLeDiff, intBin, strBin, unD, extractD, lit1, lit2, lit3, keptD, boxR, D.one, D.pub1, D.cells, splice, cutOwn]
        obtain ⟨m, hm⟩ : ∃ m, m = s.next := ⟨_, rfl⟩
        have hσm : σ.next ≤ m := by have := hA.le.next; omega
        have hil' : i = l.length := by omega
        subst hil'
        refine pwp_loopG (fun (x : List Race × Bl × List ME × Nat) env s => InvR l x.1 x.2.1 ∧ x.1.length ≤ 600 + 24 * x.2.1.length ∧ ownsOK x.1 ∧ AccR 166 4 (baseC σ m x.2.2.1 x.2.2.2) x.1.length (cellsR x.1) (env 4) s ∧ MapC x.2.2.1 x.2.1 ∧ env 9 = .map m ∧ env 0 = encLL l) (fun x => leftR l x.1 x.2.1) (todo, [], [], 0) ?_ ?_
        · simp only [upd_apply, Nat.reduceEqDiff, if_true, if_false, h0]
          have hA' := hA.new hcl.lt (.map [] 0)
          refine ⟨hI.inv, by omega, how, hA'.base ⟨by simp only [baseC, Heap.next_new]; omega, fun r o h => ?_⟩ (fun q hq => ?_), ⟨rfl, fun e h => absurd h (by simp)⟩, by rw [hm], trivial⟩
          · simp only [baseC] at h
            split at h
            · rename_i hr; subst hr; rw [hm, Heap.new_same]; exact h
            · exact hA'.le.get r o h
          · rcases hA.2.2 with ⟨h1, _⟩ | ⟨q', js, a, b, c', d⟩
            · rw [h1] at hq; cases hq
            · rw [c'] at hq
              cases hq
              simp only [baseC]
              rw [if_neg (by omega)]; exact a
        · rintro ⟨todo, dn, es, c⟩ env s ⟨hV, hlen, how, hA, hM, h9, h0⟩
          simp only at hV hlen how hA hM
          have hdl := hV.dnlen
          by_cases ht0 : todo.length = 0
          · have e0 : todo = [] := List.eq_nil_of_length_eq_zero ht0
            subst e0
            have hle : HLe σ s := (baseC_le hcl hσm).trans hA.le
            have fin : Ret σ (fun d τ => τ = σ ∧ ∃ res, d = encTwo res ∧ SpecC l res) (.sl .nil 0 []) s := Ret.told σ (encTwo none) (Nat.le_refl _) hle hcl (.refl _) (bel_encTwo _) ⟨rfl, none, rfl, by
              rw [SpecC, hfi]
              exact hV.none⟩
            rcases hA.2.2 with ⟨h1, _⟩ | ⟨q', js, a, b, c', d⟩
            · simp -dsimp only [h9, h0, h1, List.length_nil, show ¬ ((0 : Int) < ((0 : Nat) : Int)) by decide, ↓preB, postB, genB, ↓reduceIte, Nat.reduceEqDiff, Int.reduceToNat, Int.reduceLE, Int.reduceLT, Nat.reduceAdd, Nat.reduceLeDiff, intBin, strBin, unD, extractD, lit1, lit2, lit3, keptD, boxR, D.one, D.pub1, D.cells, splice, cutOwn]
              exact fun _ => fin
            · simp -dsimp only [h9, h0, c', List.length_nil, show ¬ ((0 : Int) < ((0 : Nat) : Int)) by decide, ↓preB, postB, genB, ↓reduceIte, Nat.reduceEqDiff, Int.reduceToNat, Int.reduceLE, Int.reduceLT, Nat.reduceAdd, Nat.reduceLeDiff, intBin, strBin, unD, extractD, lit1, lit2, lit3, keptD, boxR, D.one, D.pub1, D.cells, splice, cutOwn]
              exact fun _ => fin
          · obtain ⟨q, js, hq0, hqn, hd, hqs⟩ := hA.row ht0
            have hpos : (0 : Int) < todo.length := by omega
            simp -dsimp only [h9, h0, hd, hpos, ↓preB, postB, genB, ↓reduceIte, Nat.reduceEqDiff, Int.reduceToNat, Int.reduceLE, Int.reduceLT, Nat.reduceAdd, Nat.reduceLeDiff, intBin, strBin, unD, extractD, lit1, lit2, lit3, keptD, boxR, D.one, D.pub1, D.cells, splice, cutOwn]
            intros
            refine pwp_loopG (fun (x : Nat × Nat) env s' => x.1 ≤ todo.length ∧ (∃ hb : x.2 < todo.length, ∀ j (hj : j < todo.length), j < x.1 → todo[x.2].long ≤ todo[j].long) ∧ AccR 166 4 (baseC σ m es c) todo.length (cellsR todo) (env 4) s' ∧ s'.get q = some (.cells 166 (cellsR todo ++ js)) ∧ q < s'.next ∧ env 4 = .row q 0 todo.length none 4 ∧ env 78 = .row q 0 todo.length none 4 ∧ env 79 = .int .i64 todo.length ∧ env 80 = .int .i64 (x.1 : Nat) ∧ env 10 = .int .i64 (x.2 : Nat) ∧ env 9 = .map m ∧ env 0 = encLL l) (fun x => todo.length - x.1) (0, 0) ?_ ?_
            · simp only [upd_apply, Nat.reduceEqDiff, if_true, if_false, h9, h0, hd]
              rw [hd] at hA
              exact ⟨Nat.zero_le _, ⟨by omega, fun j hj h => by omega⟩, hA, hqs, hqn, trivial, trivial, trivial, rfl, rfl, trivial, trivial⟩
            · rintro ⟨i, b⟩ env s' ⟨hi, ⟨hb, hmin⟩, hA, hqs, hqn, h4, h78, h79, h80, h10, h9, h0⟩
              simp only at hi hb hmin h80 h10
              rcases Nat.lt_or_ge i todo.length with hlti | hgei
              · have hat := cellsR_at hlti js
                have hatb := cellsR_at hb js
                have hcl2 : (cellsR todo ++ js).length = todo.length * 4 + js.length := by rw [List.length_append, cellsR_len]
                have hbd : i * 4 < (cellsR todo ++ js).length := by omega
                have hbd2 : b * 4 < (cellsR todo ++ js).length := by omega
                have h44 : 4 ≤ (cellsR todo ++ js).length - i * 4 := by omega
                have hn : ∀ o, (s'.new o).get q = some (.cells 166 (cellsR todo ++ js)) := fun o => by rw [Heap.new_get, if_neg (by omega)]; exact hqs
                have hatb1 : (cellsR todo ++ js)[b * 4 + 1]? = some (.int .i64 (todo[b].long : Int)) := by
                  have := congrArg (fun l => l[1]?) hatb
                  simpa using this
                simp -dsimp only [h4, h78, h79, h80, h10, h9, h0, hlti, hb, hqs, hat, hatb, hbd, hbd2, h44, ↓preB, postB, genB, ↓reduceIte, Nat.reduceEqDiff, Int.reduceToNat, Int.reduceLE, Int.reduceLT, Nat.reduceAdd, Nat.reduceLeDiff, intBin, strBin, unD, extractD, lit1, lit2, lit3, keptD, boxR, D.one, D.pub1, D.cells, splice, cutOwn]
                refine draw_s ?_
                by_cases hc1 : (todo[i].long : Int) < todo[b].long
                · simp -dsimp only [h4, h78, h79, h80, h10, h9, h0, hlti, hb, hn, hat, hatb, hatb1, hbd, hbd2, hc1, Heap.app, ↓preB, postB, genB, ↓reduceIte, Nat.reduceEqDiff, Int.reduceToNat, Int.reduceLE, Int.reduceLT, Nat.reduceAdd, Nat.reduceLeDiff, intBin, strBin, unD, extractD, lit1, lit2, lit3, keptD, boxR, D.one, D.pub1, D.cells, splice, cutOwn]
                  rw [h4] at hA
                  refine ⟨(i + 1, i), ⟨by simp only; omega, ⟨hlti, fun j hj h => ?_⟩, hA.new (baseC_lt hcl hσm) _, by omega, wrap64_succ (by omega), rfl⟩, by simp only; omega⟩
                  rcases Nat.lt_succ_iff_lt_or_eq.1 h with h | rfl
                  · have := hmin j hj h; simp only; omega
                  · exact Nat.le_refl _
                · simp -dsimp only [h4, h78, h79, h80, h10, h9, h0, hlti, hb, hn, hat, hatb, hatb1, hbd, hbd2, hc1, Heap.app, ↓preB, postB, genB, ↓reduceIte, Nat.reduceEqDiff, Int.reduceToNat, Int.reduceLE, Int.reduceLT, Nat.reduceAdd, Nat.reduceLeDiff, intBin, strBin, unD, extractD, lit1, lit2, lit3, keptD, boxR, D.one, D.pub1, D.cells, splice, cutOwn]
                  rw [h4] at hA
                  refine ⟨(i + 1, b), ⟨by simp only; omega, ⟨hb, fun j hj h => ?_⟩, hA.new (baseC_lt hcl hσm) _, by omega, wrap64_succ (by omega), rfl⟩, by simp only; omega⟩
                  rcases Nat.lt_succ_iff_lt_or_eq.1 h with h | rfl
                  · exact hmin j hj h
                  · simp only; omega
              · have hatb := cellsR_at hb js
                have hcl2 : (cellsR todo ++ js).length = todo.length * 4 + js.length := by rw [List.length_append, cellsR_len]
                have hbd2 : b * 4 < (cellsR todo ++ js).length := by omega
                have h44 : 4 ≤ (cellsR todo ++ js).length - b * 4 := by omega
                have hw1 : IntKind.i64.wrap ((b : Int) + 1) = ((b + 1 : Nat) : Int) := wrap64_succ (by omega)
                simp -dsimp only [h4, h78, h79, h80, h10, h9, h0, hb, hqs, hatb, h44, hw1, Nat.not_lt.2 hgei, ↓preB, postB, genB, ↓reduceIte, Nat.reduceEqDiff, Int.reduceToNat, Int.reduceLE, Int.reduceLT, Nat.reduceAdd, Nat.reduceLeDiff, intBin, strBin, unD, extractD, lit1, lit2, lit3, keptD, boxR, D.one, D.pub1, D.cells, splice, cutOwn]
                obtain ⟨p, hp⟩ : ∃ p, p = s'.next := ⟨_, rfl⟩
                have hmp : m < p := by have := hA.le.next; simp only [baseC] at this; omega
                refine PCall.use (delete_c todo q b js hb (by omega) _ (by rw [Heap.new_get, if_neg (by omega)]; exact hqs)) fun d τ ⟨js', hd', hτ⟩ => ?_
                subst hd'
                have he := hV.ok _ (List.getElem_mem hb)
                have howe := how _ (List.getElem_mem hb)
                have hmem : ∀ x, x ∈ todo ↔ x = todo[b] ∨ x ∈ todo.eraseIdx b := mem_erase hb
                have hmin' : ∀ x ∈ todo, todo[b].long ≤ x.long := fun x hx => by
                  obtain ⟨j, hj, rfl⟩ := List.getElem_of_mem hx
                  exact hmin j hj (by omega)
                have hel : (todo.eraseIdx b).length = todo.length - 1 := by rw [List.length_eraseIdx, if_pos hb]
                have hgm : goodW todo[b].more := good_rest hg he.rch.rest
                have hsm := he.small hne
                have hbnd := hV.bound _ (List.getElem_mem hb)
                generalize todo[b] = e at *
                have tp : τ.get p = some (.cells 166 [encSS e.more, .int .i64 (e.long : Int), .sl e.ob e.behind.length (e.behind.map (.int .i64)), .sl e.oa e.ahead.length (e.ahead.map (.int .i64))]) := by
                  rw [hτ, Heap.set_ne _ _ (by omega), hp, Heap.new_same]
                have tn : τ.next = p + 1 := by rw [hτ, Heap.next_set, Heap.next_new, hp]
                have tq : τ.get q = some (.cells 166 (cellsR (todo.eraseIdx b) ++ js')) := by rw [hτ, Heap.set_same]
                have hA3 : AccR 166 4 (baseC σ m es c) (todo.length - 1) (cellsR (todo.eraseIdx b)) (.row q 0 (todo.length - 1) none 4) τ := by
                  refine ⟨?_, by rw [cellsR_len, hel], .inr ⟨q, js', hq0, by omega, rfl, tq⟩⟩
                  rw [hτ]
                  exact (hA.le.new _ (baseC_lt hcl hσm)).set _ hq0
                clear hτ
                by_cases hm0 : e.more = []
                · have c1 : ((e.more.length : Int) == 0) = true := by rw [hm0]; rfl
                  simp -dsimp only [h4, h78, h79, h80, h10, h9, h0, ← hp, tp, encSS, c1, ↓preB, postB, genB, ↓reduceIte, Nat.reduceEqDiff, Int.reduceToNat, Int.reduceLE, Int.reduceLT, Nat.reduceAdd, Nat.reduceLeDiff, intBin, strBin, unD, extractD, lit1, lit2, lit3, keptD, boxR, D.one, D.pub1, D.cells, splice, cutOwn]
                  intros
                  have hle : HLe σ τ := (baseC_le hcl hσm).trans hA3.le
                  have hj := he.join
                  rw [hm0, List.append_nil] at hj
                  have hr := he.rch
                  rw [hm0, he.len, hj] at hr
                  refine Ret.told σ (encTwo (some (e.behind, e.ahead))) (Nat.le_refl _) hle hcl (told_two _ _) (bel_encTwo _) ⟨rfl, _, rfl, ?_⟩
                  rw [SpecC, hfi]
                  refine ⟨he.unlike, he.nb, he.na, hj.symm, hr, fun m' hm' => ?_, by omega, by omega⟩
                  have := hV.least hmin' hm'
                  rw [he.len, hj] at this
                  exact this
                · have c1 : ((e.more.length : Int) == 0) = false := by
                    have := List.length_pos_iff.2 hm0
                    rw [beq_eq_false_iff_ne]; omega
                  have hdg : ∀ p ∈ dn, goodW p.1 := fun p hp => good_rest hg (hV.non p hp).2
                  have hmg := hA3.le.get m _ baseC_map
                  obtain ⟨f1, f2⟩ := hM.find hdg hgm
                  simp -dsimp only [h4, h78, h79, h80, h10, h9, h0, ← hp, tp, encSS, c1, ↓preB, postB, genB, ↓reduceIte, Nat.reduceEqDiff, Int.reduceToNat, Int.reduceLE, Int.reduceLT, Nat.reduceAdd, Nat.reduceLeDiff, intBin, strBin, unD, extractD, lit1, lit2, lit3, keptD, boxR, D.one, D.pub1, D.cells, splice, cutOwn]
                  intros
                  refine Fn.use (key_c _ hgm) ?_
                  by_cases hdn : e.more ∈ dn.map (·.1)
                  · obtain ⟨j, f1⟩ := f1 hdn
                    simp -dsimp only [h4, h78, h79, h80, h10, h9, h0, ← hp, tp, encSS, c1, look77 hmg f1, Option.getD_some, ↓preB, postB, genB, ↓reduceIte, Nat.reduceEqDiff, Int.reduceToNat, Int.reduceLE, Int.reduceLT, Nat.reduceAdd, Nat.reduceLeDiff, intBin, strBin, unD, extractD, lit1, lit2, lit3, keptD, boxR, D.one, D.pub1, D.cells, splice, cutOwn]
                    exact ⟨(todo.eraseIdx b, dn, es, c), ⟨hV.skip hmem hdn, by simp only [hel]; omega, fun x hx => how x ((hmem x).2 (.inr hx)), by rw [hel]; exact hA3, hM⟩, by simp only [leftR, hel]; omega⟩
                  · have f2 := f2 hdn
                    simp -dsimp only [h4, h78, h79, h80, h10, h9, h0, ← hp, tp, encSS, c1, look77 hmg f2, Option.getD_none, ↓preB, postB, genB, ↓reduceIte, Nat.reduceEqDiff, Int.reduceToNat, Int.reduceLE, Int.reduceLT, Nat.reduceAdd, Nat.reduceLeDiff, intBin, strBin, unD, extractD, lit1, lit2, lit3, keptD, boxR, D.one, D.pub1, D.cells, splice, cutOwn]
                    refine Fn.use (key_c _ hgm) ?_
                    simp -dsimp only [h4, h78, h79, h80, h10, h9, h0, ← hp, tp, encSS, c1, upd77 hmg f2, ↓preB, postB, genB, ↓reduceIte, Nat.reduceEqDiff, Int.reduceToNat, Int.reduceLE, Int.reduceLT, Nat.reduceAdd, Nat.reduceLeDiff, intBin, strBin, unD, extractD, lit1, lit2, lit3, keptD, boxR, D.one, D.pub1, D.cells, splice, cutOwn]
                    intros
                    obtain ⟨es', hes⟩ : ∃ es', es' = es ++ [⟨c, .str (keyB e.more sp), .bool true⟩] := ⟨_, rfl⟩
                    have hM' : MapC es' ((e.more, e.long) :: dn) := hes ▸ hM.add e.more e.long c
                    obtain ⟨B2, hB2⟩ : ∃ B2 : Heap, B2 = ⟨p + 1, fun i => if i = p then some (.cells 166 [encSS e.more, .int .i64 (e.long : Int), .sl e.ob e.behind.length (e.behind.map (.int .i64)), .sl e.oa e.ahead.length (e.ahead.map (.int .i64))]) else (baseC σ m es' (c + 1)).get i⟩ := ⟨_, rfl⟩
                    have B2p : B2.get p = some (.cells 166 [encSS e.more, .int .i64 (e.long : Int), .sl e.ob e.behind.length (e.behind.map (.int .i64)), .sl e.oa e.ahead.length (e.ahead.map (.int .i64))]) := by rw [hB2]; simp only [if_true]
                    have B2lt : ∀ r o, B2.get r = some o → r < B2.next := fun r o h => by
                      rw [hB2] at h ⊢
                      simp only at h ⊢
                      split at h
                      · omega
                      · have := baseC_lt hcl hσm r o h; simp only [baseC] at this; omega
                    have B2le : HLe (baseC σ m es' (c + 1)) B2 := ⟨by rw [hB2]; simp only [baseC]; omega, fun r o h => by
                      have := baseC_lt hcl hσm r o h
                      simp only [baseC] at this
                      rw [hB2]; simp only; rw [if_neg (by omega)]; exact h⟩
                    have hqm : q ≠ m := fun h => by rw [h, baseC_map] at hq0; cases hq0
                    have hqσ : σ.get q = none := by simp only [baseC] at hq0; rw [if_neg hqm] at hq0; exact hq0
                    have hA4 : AccR 166 4 B2 (todo.length - 1) (cellsR (todo.eraseIdx b)) (.row q 0 (todo.length - 1) none 4) (τ.set m (.map es' (c + 1))) := by
                      refine ⟨⟨by rw [hB2, Heap.next_set]; simp only; omega, fun r o h => ?_⟩, by rw [cellsR_len, hel], .inr ⟨q, js', ?_, by rw [Heap.next_set]; omega, rfl, by rw [Heap.set_ne _ _ hqm]; exact tq⟩⟩
                      · rw [hB2] at h
                        simp only at h
                        split at h
                        · rename_i hr; subst hr; rw [Heap.set_ne _ _ (by omega), ← h]; exact tp
                        · simp only [baseC] at h
                          split at h
                          · rename_i hr; subst hr; rw [Heap.set_same]; exact h
                          · rename_i hr; rw [Heap.set_ne _ _ hr]
                            refine hA3.le.get r o ?_
                            simp only [baseC]; rw [if_neg hr]; exact h
                      · rw [hB2]; simp only; rw [if_neg (by omega)]; simp only [baseC]; rw [if_neg hqm]; exact hqσ
                    have hMid := hV.take hmem hmin' hm0 hdn
                    rw [← hes]
                    generalize τ.set m (.map es' (c + 1)) = s4 at hA4 ⊢
                    simp -dsimp only [h4, h78, h79, h80, h10, h9, h0, ← hp, encLL, ↓preB, postB, genB, ↓reduceIte, Nat.reduceEqDiff, Int.reduceToNat, Int.reduceLE, Int.reduceLT, Nat.reduceAdd, Nat.reduceLeDiff, intBin, strBin, unD, extractD, lit1, lit2, lit3, keptD, boxR, D.one, D.pub1, D.cells, splice, cutOwn]
                    intros
                    refine pwp_loopG (fun (x : Nat × List Race) env s => x.1 ≤ l.length ∧ MidR l x.2 dn e x.1 ∧ x.2.length ≤ todo.length + x.1 ∧ ownsOK x.2 ∧ AccR 166 4 B2 x.2.length (cellsR x.2) (env 4) s ∧ env 124 = .int .i64 (x.1 : Nat) ∧ env 123 = .int .i64 l.length ∧ env 122 = encLL l ∧ env 13 = .ptr p 0 ∧ env 9 = .map m ∧ env 0 = encLL l) (fun x => l.length - x.1) (0, todo.eraseIdx b) ?_ ?_
                    · simp only [upd_apply, Nat.reduceEqDiff, if_true, if_false, h9, h0, hp]
                      refine ⟨Nat.zero_le _, hMid, by simp only [hel]; omega, fun x hx => how x ((hmem x).2 (.inr hx)), by rw [hel]; exact hA4, rfl, trivial, trivial, trivial, trivial, trivial⟩
                    · rintro ⟨k, td⟩ env s ⟨hk, hMid, htl, how2, hA, h124, h123, h122, h13, h9, h0⟩
                      simp only at hk hMid htl how2 hA h124
                      have hsp := hA.le.get p _ B2p
                      rcases Nat.lt_or_ge k l.length with hltk | hgek
                      · have hxk : l[k]? = some l[k] := List.getElem?_eq_getElem hltk
                        have hp0 : 0 < l.length := by omega
                        simp -dsimp only [h124, h123, h122, h13, h9, h0, encLL, hltk, hxk, hp0, hsp, ↓preB, postB, genB, ↓reduceIte, Nat.reduceEqDiff, Int.reduceToNat, Int.reduceLE, Int.reduceLT, Nat.reduceAdd, Nat.reduceLeDiff, intBin, strBin, unD, extractD, lit1, lit2, lit3, keptD, boxR, D.one, D.pub1, D.cells, splice, cutOwn]
                        intros
                        obtain ⟨i0, k0, bt, at', hb1, ha1, hik⟩ := he.apart
                        have hb0 : e.behind ≠ [] := by rw [hb1]; simp
                        have hbl : e.behind.length ≤ 2000 := by omega
                        refine PCall.use (clone_c e.behind e.ob howe.1 hb0 (by omega) s) fun d1 s1 ⟨hc1, hAc⟩ => ?_
                        simp -dsimp only [h124, h123, h122, h13, h9, h0, encLL, hltk, hxk, hp0, hsp, ↓preB, postB, genB, ↓reduceIte, Nat.reduceEqDiff, Int.reduceToNat, Int.reduceLE, Int.reduceLT, Nat.reduceAdd, Nat.reduceLeDiff, intBin, strBin, unD, extractD, lit1, lit2, lit3, keptD, boxR, D.one, D.pub1, D.cells, splice, cutOwn]
                        refine hAc.append (m := 1) hc1 tz39 rfl tz3 rfl rfl rfl (by decide) (by simp) (fedBy_sl tz39 rfl rfl) (by simp only []; omega) (by simp only [big]; omega) fun d2 s2 hAc2 => ?_
                        obtain ⟨o2, ho2, ho2n⟩ : ∃ o, d2 = .sl o (e.behind ++ [(k : Int)]).length ((e.behind ++ [(k : Int)]).map (.int .i64)) ∧ o ≠ .nil := by
                          rcases hAc2 with ⟨_, h, _⟩ | ⟨h, _⟩ | ⟨r, _, h, _⟩
                          · omega
                          · exact ⟨.full, by rw [h]; simp, by simp⟩
                          · exact ⟨.tip r 1, by rw [h]; simp, by simp⟩
                        subst ho2
                        have hA2 := hA.mono hAc2.le
                        have hsp2 := hA2.le.get p _ B2p
                        have hwk := h8 _ (List.getElem_mem hltk)
                        have htl2 : td.length ≤ 10000 := by omega
                        simp -dsimp only [h124, h123, h122, h13, h9, h0, encLL, hltk, hxk, hp0, hsp2, ↓preB, postB, genB, ↓reduceIte, Nat.reduceEqDiff, Int.reduceToNat, Int.reduceLE, Int.reduceLT, Nat.reduceAdd, Nat.reduceLeDiff, intBin, strBin, unD, extractD, lit1, lit2, lit3, keptD, boxR, D.one, D.pub1, D.cells, splice, cutOwn]
                        refine Fn.use (begins_c _ _) ?_
                        cases c2 : begW e.more l[k]
                        · simp -dsimp only [h124, h123, h122, h13, h9, h0, encLL, hltk, hxk, hp0, hsp2, c2, ↓preB, postB, genB, ↓reduceIte, Nat.reduceEqDiff, Int.reduceToNat, Int.reduceLE, Int.reduceLT, Nat.reduceAdd, Nat.reduceLeDiff, intBin, strBin, unD, extractD, lit1, lit2, lit3, keptD, boxR, D.one, D.pub1, D.cells, splice, cutOwn]
                          refine Fn.use (begins_c _ _) ?_
                          cases c3 : begW l[k] e.more
                          · simp -dsimp only [h124, h123, h122, h13, h9, h0, encLL, hltk, hxk, hp0, hsp2, c2, c3, ↓preB, postB, genB, ↓reduceIte, Nat.reduceEqDiff, Int.reduceToNat, Int.reduceLE, Int.reduceLT, Nat.reduceAdd, Nat.reduceLeDiff, intBin, strBin, unD, extractD, lit1, lit2, lit3, keptD, boxR, D.one, D.pub1, D.cells, splice, cutOwn]
                            have hMid2 := hMid.add hltk [] (fun x hx => absurd hx (by simp)) (fun h => by rw [c2] at h; cases h) (fun _ h => by rw [c3] at h; cases h)
                            rw [List.append_nil] at hMid2
                            exact ⟨(k + 1, td), ⟨by simp only; omega, hMid2, by simp only; omega, how2, hA2, wrap64_succ (by omega)⟩, by simp only; omega⟩
                          · have hle := begW_le c3
                            simp -dsimp only [h124, h123, h122, h13, h9, h0, encLL, hltk, hxk, hp0, hsp2, c2, c3, ↓preB, postB, genB, ↓reduceIte, Nat.reduceEqDiff, Int.reduceToNat, Int.reduceLE, Int.reduceLT, Nat.reduceAdd, Nat.reduceLeDiff, intBin, strBin, unD, extractD, lit1, lit2, lit3, keptD, boxR, D.one, D.pub1, D.cells, splice, cutOwn]
                            refine draw_t 20 (by decide) ?_
                            simp -dsimp only [h124, h123, h122, h13, h9, h0, encLL, encSS, hltk, hxk, hp0, hsp2, c2, c3, ab76, bs74, ↓preB, postB, genB, ↓reduceIte, Nat.reduceEqDiff, Int.reduceToNat, Int.reduceLE, Int.reduceLT, Nat.reduceAdd, Nat.reduceLeDiff, intBin, strBin, unD, extractD, lit1, lit2, lit3, keptD, boxR, D.one, D.pub1, D.cells, splice, cutOwn]
                            refine ⟨⟨by omega, by omega⟩, ?_⟩
                            have hw : IntKind.i64.wrap (IntKind.i64.wrap ((e.long : Int) + (l[k].length : Int)) - (e.more.length : Int)) = ((e.long + (l[k].length - e.more.length) : Nat) : Int) := by
                              have hw1 : IntKind.i64.wrap ((e.long : Int) + (l[k].length : Int)) = (e.long : Int) + (l[k].length : Int) := wrap64_in (by omega) (by omega)
                              rw [hw1, wrap64_in (by omega) (by omega)]
                              omega
                            rw [encSS_cut hle, hw]
                            refine hA2.append (m := 1) B2lt tz164 rfl tz166 rfl rfl rfl (by decide) (fedBy_sl tz164 rfl rfl) (by decide) (by simp only []; omega) (by simp only [big]; omega) fun d' s' hA' => ?_
                            simp -dsimp only [h124, h123, h122, h13, h9, h0, ↓preB, postB, genB, ↓reduceIte, Nat.reduceEqDiff, Int.reduceToNat, Int.reduceLE, Int.reduceLT, Nat.reduceAdd, Nat.reduceLeDiff, intBin, strBin, unD, extractD, lit1, lit2, lit3, keptD, boxR, D.one, D.pub1, D.cells, splice, cutOwn]
                            have hMid2 := hMid.add hltk [⟨l[k].drop e.more.length, e.long + (l[k].length - e.more.length), e.ahead, e.behind ++ [(k : Int)], e.oa, o2⟩] (fun x hx => by
                              rw [List.mem_singleton] at hx
                              subst hx
                              exact ⟨he.ext hm0 hltk c3 o2, by simp only; omega, by simp only; omega⟩) (fun h => by rw [c2] at h; cases h) (fun _ _ => ⟨_, List.mem_singleton.2 rfl, rfl, rfl⟩)
                            refine ⟨(k + 1, td ++ [⟨l[k].drop e.more.length, e.long + (l[k].length - e.more.length), e.ahead, e.behind ++ [(k : Int)], e.oa, o2⟩]), ⟨by simp only; omega, hMid2, by simp only [List.length_append, List.length_cons, List.length_nil]; omega, fun x hx => ?_, by rw [cellsR_append, List.length_append]; exact hA', wrap64_succ (by omega), rfl, rfl⟩, by simp only; omega⟩
                            rcases List.mem_append.1 hx with hx | hx
                            · exact how2 x hx
                            · rw [List.mem_singleton] at hx; subst hx; exact ⟨howe.2, ho2n⟩
                        · have hle := begW_le c2
                          simp -dsimp only [h124, h123, h122, h13, h9, h0, encLL, hltk, hxk, hp0, hsp2, c2, ↓preB, postB, genB, ↓reduceIte, Nat.reduceEqDiff, Int.reduceToNat, Int.reduceLE, Int.reduceLT, Nat.reduceAdd, Nat.reduceLeDiff, intBin, strBin, unD, extractD, lit1, lit2, lit3, keptD, boxR, D.one, D.pub1, D.cells, splice, cutOwn]
                          refine draw_t 13 (by decide) ?_
                          simp -dsimp only [h124, h123, h122, h13, h9, h0, encLL, encSS, hltk, hxk, hp0, hsp2, c2, ab76, bs74, ↓preB, postB, genB, ↓reduceIte, Nat.reduceEqDiff, Int.reduceToNat, Int.reduceLE, Int.reduceLT, Nat.reduceAdd, Nat.reduceLeDiff, intBin, strBin, unD, extractD, lit1, lit2, lit3, keptD, boxR, D.one, D.pub1, D.cells, splice, cutOwn]
                          refine ⟨⟨by omega, by omega⟩, ?_⟩
                          rw [encSS_cut hle]
                          refine hA2.append (m := 1) B2lt tz164 rfl tz166 rfl rfl rfl (by decide) (fedBy_sl tz164 rfl rfl) (by decide) (by simp only []; omega) (by simp only [big]; omega) fun d' s' hA' => ?_
                          simp -dsimp only [h124, h123, h122, h13, h9, h0, ↓preB, postB, genB, ↓reduceIte, Nat.reduceEqDiff, Int.reduceToNat, Int.reduceLE, Int.reduceLT, Nat.reduceAdd, Nat.reduceLeDiff, intBin, strBin, unD, extractD, lit1, lit2, lit3, keptD, boxR, D.one, D.pub1, D.cells, splice, cutOwn]
                          have hMid2 := hMid.add hltk [⟨e.more.drop l[k].length, e.long, e.behind ++ [(k : Int)], e.ahead, o2, e.oa⟩] (fun x hx => by
                            rw [List.mem_singleton] at hx
                            subst hx
                            exact ⟨he.cut hm0 hltk c2 o2, Nat.le_refl _, by simp only; omega⟩) (fun _ => ⟨_, List.mem_singleton.2 rfl, rfl, rfl⟩) (fun h _ => by rw [c2] at h; cases h)
                          refine ⟨(k + 1, td ++ [⟨e.more.drop l[k].length, e.long, e.behind ++ [(k : Int)], e.ahead, o2, e.oa⟩]), ⟨by simp only; omega, hMid2, by simp only [List.length_append, List.length_cons, List.length_nil]; omega, fun x hx => ?_, by rw [cellsR_append, List.length_append]; exact hA', wrap64_succ (by omega), rfl, rfl⟩, by simp only; omega⟩
                          rcases List.mem_append.1 hx with hx | hx
                          · exact how2 x hx
                          · rw [List.mem_singleton] at hx; subst hx; exact ⟨ho2n, howe.2⟩
                      · simp -dsimp only [h124, h123, h122, h13, h9, h0, encLL, Nat.not_lt.2 hgek, ↓preB, postB, genB, ↓reduceIte, Nat.reduceEqDiff, Int.reduceToNat, Int.reduceLE, Int.reduceLT, Nat.reduceAdd, Nat.reduceLeDiff, intBin, strBin, unD, extractD, lit1, lit2, lit3, keptD, boxR, D.one, D.pub1, D.cells, splice, cutOwn]
                        have hkl : k = l.length := by omega
                        subst hkl
                        have hV' := hMid.done
                        have hdl' := hV'.dnlen
                        simp only [List.length_cons] at hdl'
                        refine ⟨(td, (e.more, e.long) :: dn, es', c + 1), ⟨hV', by simp only [List.length_cons]; omega, how2, hA.base (B2le.trans hA.le) (fun q' hq' => ?_), hM'⟩, by simp only [leftR, List.length_cons]; omega⟩
                        rcases hA.2.2 with ⟨h1, _⟩ | ⟨q2, js2, a, b', c', d⟩
                        · rw [h1] at hq'; cases hq'
                        · rw [c'] at hq'
                          cases hq'
                          simp only
                          cases hx : (baseC σ m es' (c + 1)).get q' with
                          | none => rfl
                          | some o => rw [B2le.get q' o hx] at a; cases a
end Go.Proofs.YtldlcejlfaogbaaGreatDoor.Vs
