/- numbers of Ythchlpikcpidaaa -/
import Derived.Test.YthchlpikcpidaaaGuR1
import Derived.Test.YthchlpikcpidaaaSs2
namespace Go.Proofs.Ythchlpikcpidaaa.Vs
set_option linter.unusedVariables false
set_option linter.unusedSimpArgs false
set_option maxRecDepth 100000
def cmpI (a b : Int) : Int := if a < b then -1 else if b < a then 1 else 0
theorem isNaNI_c (a : Int) : Fn Zs 68 [.int .i64 a] (.bool false) := by
  refine fn_of (Z := Zs) ok68 fun σ hcl hbl => ?_
  simp -dsimp only [L68, ↓preB, postB, genB, ↓reduceIte, Nat.reduceEqDiff, Int.reduceToNat, Int.reduceLE, Int.reduceLT, Nat.reduceAdd, Nat.reduceLeDiff, intBin, strBin, unD, extractD, lit1, lit2, lit3, keptD, boxR, D.one, D.pub1, D.cells, splice, cutOwn]
  simp -dsimp only [bne_self_eq_false, ↓preB, postB, genB, ↓reduceIte, Nat.reduceEqDiff, Int.reduceToNat, Int.reduceLE, Int.reduceLT, Nat.reduceAdd, Nat.reduceLeDiff, intBin, strBin, unD, extractD, lit1, lit2, lit3, keptD, boxR, D.one, D.pub1, D.cells, splice, cutOwn]
  exact Ret.is rfl
theorem cmpI_c (a b : Int) : Fn Zs 55 [.int .i64 a, .int .i64 b] (.int .i64 (cmpI a b)) := by
  refine fn_of (Z := Zs) ok55 fun σ hcl hbl => ?_
  simp -dsimp only [L55, ↓preB, postB, genB, ↓reduceIte, Nat.reduceEqDiff, Int.reduceToNat, Int.reduceLE, Int.reduceLT, Nat.reduceAdd, Nat.reduceLeDiff, intBin, strBin, unD, extractD, lit1, lit2, lit3, keptD, boxR, D.one, D.pub1, D.cells, splice, cutOwn]
  refine Fn.use (isNaNI_c a) ?_
  simp -dsimp only [↓preB, postB, genB, ↓reduceIte, Nat.reduceEqDiff, Int.reduceToNat, Int.reduceLE, Int.reduceLT, Nat.reduceAdd, Nat.reduceLeDiff, intBin, strBin, unD, extractD, lit1, lit2, lit3, keptD, boxR, D.one, D.pub1, D.cells, splice, cutOwn]
  refine Fn.use (isNaNI_c b) ?_
  by_cases h1 : a < b
  · simp -dsimp only [h1, ↓preB, postB, genB, ↓reduceIte, Nat.reduceEqDiff, Int.reduceToNat, Int.reduceLE, Int.reduceLT, Nat.reduceAdd, Nat.reduceLeDiff, intBin, strBin, unD, extractD, lit1, lit2, lit3, keptD, boxR, D.one, D.pub1, D.cells, splice, cutOwn]
    exact Ret.is (by rw [cmpI, if_pos h1])
  · by_cases h2 : b < a
    · simp -dsimp only [h1, h2, ↓preB, postB, genB, ↓reduceIte, Nat.reduceEqDiff, Int.reduceToNat, Int.reduceLE, Int.reduceLT, Nat.reduceAdd, Nat.reduceLeDiff, intBin, strBin, unD, extractD, lit1, lit2, lit3, keptD, boxR, D.one, D.pub1, D.cells, splice, cutOwn]
      exact Ret.is (by rw [cmpI, if_neg h1, if_pos h2])
    · simp -dsimp only [h1, h2, ↓preB, postB, genB, ↓reduceIte, Nat.reduceEqDiff, Int.reduceToNat, Int.reduceLE, Int.reduceLT, Nat.reduceAdd, Nat.reduceLeDiff, intBin, strBin, unD, extractD, lit1, lit2, lit3, keptD, boxR, D.one, D.pub1, D.cells, splice, cutOwn]
      exact Ret.is (by rw [cmpI, if_neg h1, if_neg h2])
theorem compare_c (a b c d : Int) : Fn Zs 38 [.agg [.int .i64 a, .int .i64 b], .agg [.int .i64 c, .int .i64 d]] (.int .i64 (cmpI a c)) := by
  refine fn_of (Z := Zs) ok38 fun σ hcl hbl => ?_
  simp -dsimp only [L38, ↓preB, postB, genB, ↓reduceIte, Nat.reduceEqDiff, Int.reduceToNat, Int.reduceLE, Int.reduceLT, Nat.reduceAdd, Nat.reduceLeDiff, intBin, strBin, unD, extractD, lit1, lit2, lit3, keptD, boxR, D.one, D.pub1, D.cells, splice, cutOwn]
  have g0 : ((σ.new (.cells 65 [.int .i64 a, .int .i64 b])).new (.cells 65 [.int .i64 c, .int .i64 d])).get σ.next = some (.cells 65 [.int .i64 a, .int .i64 b]) := by
    rw [Heap.new_ne _ _ (by simp only [Heap.next_new]; omega)]; exact Heap.new_same _ _
  have g1 : ((σ.new (.cells 65 [.int .i64 a, .int .i64 b])).new (.cells 65 [.int .i64 c, .int .i64 d])).get (σ.next + 1) = some (.cells 65 [.int .i64 c, .int .i64 d]) := Heap.new_same (σ := σ.new _) _
  simp -dsimp only [g0, g1, ↓preB, postB, genB, ↓reduceIte, Nat.reduceEqDiff, Int.reduceToNat, Int.reduceLE, Int.reduceLT, Nat.reduceAdd, Nat.reduceLeDiff, intBin, strBin, unD, extractD, lit1, lit2, lit3, keptD, boxR, D.one, D.pub1, D.cells, splice, cutOwn]
  refine Fn.use (cmpI_c a c) ?_
  simp -dsimp only [↓preB, postB, genB, ↓reduceIte, Nat.reduceEqDiff, Int.reduceToNat, Int.reduceLE, Int.reduceLT, Nat.reduceAdd, Nat.reduceLeDiff, intBin, strBin, unD, extractD, lit1, lit2, lit3, keptD, boxR, D.one, D.pub1, D.cells, splice, cutOwn]
  exact Ret.isH ((HLe.self_new _ hcl).new' _ hcl) hcl rfl (.int _ _)
def keyT (cf : CF) (w : Wd) (t : ByteArray) : Int := (chV (aF cf t) (aF cf noB) w).1
theorem less_c (x y : ByteArray) (w : Wd) (hw : goodW w) (q p8 p3 : Nat) (mf : ByteArray × ByteArray → Int) (cf : CF) (hn : Nice cf) (σ0 σ : Heap) (h : PG σ0 mf cf q σ) (h8 : σ.get p8 = some (.cells 66 [.bfunc 30 [.ptr q 0]])) (h3 : σ.get p3 = some (.cells 23 [encSS w])) :
    PCall Zs 37 [.str x, .str y, .ptr p8 0, .ptr p3 0] σ (fun d τ => d = .int .i64 (cmpI (keyT cf w y) (keyT cf w x)) ∧ τ = σ) := by
  refine pcall_of (Z := Zs) ok37 fun hcl hbl => ?_
  simp -dsimp only [L37, ↓preB, postB, genB, ↓reduceIte, Nat.reduceEqDiff, Int.reduceToNat, Int.reduceLE, Int.reduceLT, Nat.reduceAdd, Nat.reduceLeDiff, intBin, strBin, unD, extractD, lit1, lit2, lit3, keptD, boxR, D.one, D.pub1, D.cells, splice, cutOwn]
  refine draw_s ?_
  simp -dsimp only [h8, h3, ↓preB, postB, genB, ↓reduceIte, Nat.reduceEqDiff, Int.reduceToNat, Int.reduceLE, Int.reduceLT, Nat.reduceAdd, Nat.reduceLeDiff, intBin, strBin, unD, extractD, lit1, lit2, lit3, keptD, boxR, D.one, D.pub1, D.cells, splice, cutOwn]
  refine ⟨_, chance_c w y hw q mf cf hn σ0 σ h, ?_⟩
  simp -dsimp only [h8, h3, ↓preB, postB, genB, ↓reduceIte, Nat.reduceEqDiff, Int.reduceToNat, Int.reduceLE, Int.reduceLT, Nat.reduceAdd, Nat.reduceLeDiff, intBin, strBin, unD, extractD, lit1, lit2, lit3, keptD, boxR, D.one, D.pub1, D.cells, splice, cutOwn]
  refine ⟨_, chance_c w x hw q mf cf hn σ0 σ h, ?_⟩
  simp -dsimp only [↓preB, postB, genB, ↓reduceIte, Nat.reduceEqDiff, Int.reduceToNat, Int.reduceLE, Int.reduceLT, Nat.reduceAdd, Nat.reduceLeDiff, intBin, strBin, unD, extractD, lit1, lit2, lit3, keptD, boxR, D.one, D.pub1, D.cells, splice, cutOwn]
  refine Fn.useS (compare_c _ _ _ _) ?_
  simp -dsimp only [↓preB, postB, genB, ↓reduceIte, Nat.reduceEqDiff, Int.reduceToNat, Int.reduceLE, Int.reduceLT, Nat.reduceAdd, Nat.reduceLeDiff, intBin, strBin, unD, extractD, lit1, lit2, lit3, keptD, boxR, D.one, D.pub1, D.cells, splice, cutOwn]
  exact Ret.is rfl
/-- The greater chance first, of equal ones the lesser tag. -/
def ltK (cf : CF) (w : Wd) (x y : ByteArray) : Prop := keyT cf w y < keyT cf w x ∨ (keyT cf w x = keyT cf w y ∧ strLt x y = true)
theorem ltK_trans {cf : CF} {w : Wd} {a b c : ByteArray} (h1 : ltK cf w a b) (h2 : ltK cf w b c) : ltK cf w a c := by
  rcases h1 with h1 | ⟨h1, h1'⟩ <;> rcases h2 with h2 | ⟨h2, h2'⟩
  · exact .inl (by omega)
  · exact .inl (by omega)
  · exact .inl (by omega)
  · exact .inr ⟨by omega, strLt_trans h1' h2'⟩
theorem ltK_irrefl {cf : CF} {w : Wd} (a : ByteArray) : ¬ ltK cf w a a := by
  rintro (h | ⟨_, h⟩)
  · omega
  · rw [strLt_irrefl] at h; cases h
/-- The tags of a guesser in order of their chances for a word. -/
structure RankOf (cf : CF) (w : Wd) (L : List ByteArray) : Prop where
  so : L.Pairwise (ltK cf w)
  mem : ∀ t, t ∈ L ↔ (t ≠ noB ∧ cf noB t ≠ 0)
theorem RankOf.nodup {cf : CF} {w : Wd} {L : List ByteArray} (h : RankOf cf w L) : L.Nodup := h.so.imp fun {a b} h e => by subst e; exact ltK_irrefl _ h
theorem RankOf.one {cf : CF} {w : Wd} {L M : List ByteArray} (h : RankOf cf w L) (k : RankOf cf w M) : L = M := by
  refine sorted_one (T := ltK cf w) ltK_irrefl ltK_trans ?_ h.so k.so
  rw [List.perm_ext_iff_of_nodup h.nodup k.nodup]
  exact fun t => by rw [h.mem, k.mem]
theorem fst_tags {cf : CF} {w : Wd} {L : List ByteArray} (h : L.Pairwise fun a b => strLt a b = true) : L.Pairwise (Fst (fun x y => cmpI (keyT cf w y) (keyT cf w x)) (ltK cf w)) := h.imp fun {a b} hab => by
  refine ⟨fun h => ?_, fun h => ?_⟩
  · left
    simp only [cmpI] at h
    split at h
    · assumption
    · split at h <;> omega
  · simp only [cmpI] at h
    split at h
    · omega
    · rename_i h1
      rcases Int.lt_or_eq_of_le (Int.not_lt.1 h1) with h2 | h2
      · exact .inl h2
      · exact .inr ⟨h2.symm, hab⟩
def Big5 (cf : CF) : Prop := ∀ L : List ByteArray, L.Nodup → (∀ t ∈ L, cf noB t ≠ 0) → L.length ≤ 100000
theorem Rank_p (w : Wd) (q : Nat) (mf : ByteArray × ByteArray → Int) (cf : CF) (hn : Nice cf) (hbig : Big5 cf) (σ0 σ : Heap) (h : PG σ0 mf cf q σ) (ht : cf noB noB ≠ 0 → ∃ t, t ≠ noB ∧ cf noB t ≠ 0) :
    PCall Zs 16 [.ptr q 0, encSS w] σ (fun d τ => τ = σ ∧ ((badW w ≠ 0 ∧ d = .tup [.sl .nil 0 [], .int .i64 (badW w)]) ∨ (badW w = 0 ∧ cf noB noB = 0 ∧ d = .tup [.sl .nil 0 [], .int .i64 4]) ∨ (badW w = 0 ∧ cf noB noB ≠ 0 ∧ ∃ L, RankOf cf w L ∧ L ≠ [] ∧ d = .tup [encSS L, .int .i64 0]))) := by
  refine pcall_of (Z := Zs) ok16 fun hcl hbl => ?_
  simp -dsimp only [L16, ↓preB, postB, genB, ↓reduceIte, Nat.reduceEqDiff, Int.reduceToNat, Int.reduceLE, Int.reduceLT, Nat.reduceAdd, Nat.reduceLeDiff, intBin, strBin, unD, extractD, lit1, lit2, lit3, keptD, boxR, D.one, D.pub1, D.cells, splice, cutOwn]
  have h3 : (σ.new (.cells 23 [encSS w])).get σ.next = some (.cells 23 [encSS w]) := Heap.new_same _ _
  simp -dsimp only [h3, encSS, ↓preB, postB, genB, ↓reduceIte, Nat.reduceEqDiff, Int.reduceToNat, Int.reduceLE, Int.reduceLT, Nat.reduceAdd, Nat.reduceLeDiff, intBin, strBin, unD, extractD, lit1, lit2, lit3, keptD, boxR, D.one, D.pub1, D.cells, splice, cutOwn]
  refine Fn.use (symsValidateWord_c w) ?_
  have hle1 : HLe σ (σ.new (.cells 23 [encSS w])) := HLe.self_new _ hcl
  have hdr : ∀ {τ : Heap} {a : Int}, HLe σ τ → ∀ {K : D → Heap → Prop}, K (.tup [.sl .nil 0 [], .int .i64 a]) σ → Ret σ K (.tup [.sl .nil 0 [], .int .i64 a]) τ := fun hle K hK =>
    Ret.told σ _ (Nat.le_refl _) hle hcl (.refl _) (.tup2 (.sl _ _ _ (fun r z he => by cases he) fun d hd => by cases hd) (.int _ _)) hK
  by_cases c1 : badW w = 0
  · have c1' : (badW w != 0) = false := by simpa using c1
    have hPG1 := h.more hle1
    simp -dsimp only [c1', ↓preB, postB, genB, ↓reduceIte, Nat.reduceEqDiff, Int.reduceToNat, Int.reduceLE, Int.reduceLT, Nat.reduceAdd, Nat.reduceLeDiff, intBin, strBin, unD, extractD, lit1, lit2, lit3, keptD, boxR, D.one, D.pub1, D.cells, splice, cutOwn]
    refine PCall.use (none_c q mf cf σ0 _ hPG1) ?_
    rintro _ _ ⟨rfl, rfl⟩
    by_cases c2 : cf noB noB = 0
    · have c2' : (cf noB noB == 0) = true := by simpa using c2
      simp -dsimp only [c2', ↓preB, postB, genB, ↓reduceIte, Nat.reduceEqDiff, Int.reduceToNat, Int.reduceLE, Int.reduceLT, Nat.reduceAdd, Nat.reduceLeDiff, intBin, strBin, unD, extractD, lit1, lit2, lit3, keptD, boxR, D.one, D.pub1, D.cells, splice, cutOwn]
      exact hdr hle1 ⟨rfl, .inr (.inl ⟨c1, c2, rfl⟩)⟩
    · have c2' : (cf noB noB == 0) = false := by simpa using c2
      simp -dsimp only [c2', ↓preB, postB, genB, ↓reduceIte, Nat.reduceEqDiff, Int.reduceToNat, Int.reduceLE, Int.reduceLT, Nat.reduceAdd, Nat.reduceLeDiff, intBin, strBin, unD, extractD, lit1, lit2, lit3, keptD, boxR, D.one, D.pub1, D.cells, splice, cutOwn]
      refine PCall.use (Tags_p q mf cf hn hbig σ0 _ hPG1 c2 (ht c2)) ?_
      rintro _ τ ⟨hle2, L, x, js, hT, hL0, rfl, g1, g2, g3⟩
      have hlt1 : ∀ r o, (σ.new (.cells 23 [encSS w])).get r = some o → r < (σ.new (.cells 23 [encSS w])).next := new_ltG hcl.lt _
      obtain ⟨σ1, hσ1⟩ : ∃ σ1, σ1 = σ.new (.cells 23 [encSS w]) := ⟨_, rfl⟩
      have k3 : σ1.get σ.next = some (.cells 23 [encSS w]) := by rw [hσ1]; exact Heap.new_same _ _
      have hn1 : σ1.next = σ.next + 1 := by rw [hσ1]; rfl
      change HLe (σ.new (.cells 23 [encSS w])) τ at hle2
      change (σ.new (.cells 23 [encSS w])).get x = none at g1
      rw [← hσ1] at hle1 hPG1 hle2 g1 hlt1
      have k3t := hle2.get _ _ k3
      have hxn : x ≠ σ.next := fun e => by rw [e, k3] at g1; cases g1
      simp -dsimp only [↓preB, postB, genB, ↓reduceIte, Nat.reduceEqDiff, Int.reduceToNat, Int.reduceLE, Int.reduceLT, Nat.reduceAdd, Nat.reduceLeDiff, intBin, strBin, unD, extractD, lit1, lit2, lit3, keptD, boxR, D.one, D.pub1, D.cells, splice, cutOwn]
      have hxs : σ.get x = none := by
        rw [hσ1, Heap.new_get] at g1
        split at g1
        · cases g1
        · exact g1
      have hlex : ∀ o, HLe σ1 ((τ.new (.cells 66 [.bfunc 30 [.ptr q 0]])).set x o) := fun o => (hle2.new _ hlt1).set _ g1
      have hxt : x ≠ τ.next := by omega
      have gx : (τ.new (.cells 66 [.bfunc 30 [.ptr q 0]])).get x = some (.cells 9 (cellsT L js)) := by rw [Heap.new_ne _ _ hxt]; exact g3
      have hs3 : σ.next ≠ τ.next := by have := hle2.next; omega
      have hsrt := sortStable_p (T := ltK cf w) (cf := fun x y => cmpI (keyT cf w y) (keyT cf w x)) ltK_trans L (fst_tags hT.so) js x none 37 [.ptr τ.next 0, .ptr σ.next 0] (n := L.length) rfl (σ := τ.new (.cells 66 [.bfunc 30 [.ptr q 0]])) gx (hbig L (hT.so.imp fun {a b} h e => by subst e; rw [strLt_irrefl] at h; cases h) fun t ht => ((hT.mem t).1 ht).2)
        (fun l' _ a _ b _ => less_c a b w (badW_good c1) q τ.next σ.next mf cf hn σ0 _ (hPG1.more (hlex _)) (by rw [Heap.set_ne _ _ (fun e => hxt e.symm)]; exact Heap.new_same _ _) ((hlex _).get _ _ k3))
      refine PCall.use hsrt ?_
      rintro _ _ ⟨rfl, Z, p1, z1, rfl⟩
      simp -dsimp only [↓preB, postB, genB, ↓reduceIte, Nat.reduceEqDiff, Int.reduceToNat, Int.reduceLE, Int.reduceLT, Nat.reduceAdd, Nat.reduceLeDiff, intBin, strBin, unD, extractD, lit1, lit2, lit3, keptD, boxR, D.one, D.pub1, D.cells, splice, cutOwn]
      have hZ0 : Z ≠ [] := fun e => hL0 (by have := p1.length_eq; rw [e] at this; exact List.eq_nil_of_length_eq_zero this.symm)
      refine Ret.told σ (.tup [encSS Z, .int .i64 0]) (Nat.le_refl _) (hle1.trans (hlex _)) hcl (.tup2 ?_ (.refl _)) (.tup2 (Bel.no (bel_strs Z)) (.int _ _)) ⟨rfl, .inr (.inr ⟨c1, c2, Z, ⟨z1, fun t => by rw [p1.mem_iff]; exact hT.mem t⟩, hZ0, rfl⟩)⟩
      unfold encSS
      rw [← p1.length_eq]
      refine .row x 0 Z.length none 1 9 (cellsT Z js) _ (Heap.set_same _ _ _) hxs (by rw [cellsT_len]; omega) (by simp) fun i h1 h2 => ?_
      have : (cellsT Z js)[0 + i]'(by rw [cellsT_len]; omega) = (Z.map D.str)[i] := by
        simp only [Nat.zero_add]
        exact List.getElem_append_left (by simpa using h1)
      rw [this]
      exact .refl _
  · have c1' : (badW w != 0) = true := by simpa using c1
    simp -dsimp only [c1', ↓preB, postB, genB, ↓reduceIte, Nat.reduceEqDiff, Int.reduceToNat, Int.reduceLE, Int.reduceLT, Nat.reduceAdd, Nat.reduceLeDiff, intBin, strBin, unD, extractD, lit1, lit2, lit3, keptD, boxR, D.one, D.pub1, D.cells, splice, cutOwn]
    exact hdr hle1 ⟨rfl, .inl ⟨c1, rfl⟩⟩
end Go.Proofs.Ythchlpikcpidaaa.Vs
