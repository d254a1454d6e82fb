/- numbers of YtldlcejlfaogbaaDoor -/
/- The word of a text, by the program and by the specification. -/
import Derived.Test.YtldlcejlfaogbaaDoorRdF1
namespace Go.Proofs.YtldlcejlfaogbaaDoor.Vs
set_option linter.unusedVariables false
set_option linter.unusedSimpArgs false
set_option maxRecDepth 100000

theorem toB_nil : toB [] = ⟨#[]⟩ := rfl
theorem badW_one (x : ByteArray) : (badW [x] = 0) ↔ symOK x = true := by
  unfold badW
  by_cases h : 16 < x.size
  · have h2 : symOK x = false := by
      unfold symOK
      have : decide (x.size ≤ 16) = false := by simp; omega
      rw [this]; simp
    simp [h, h2]
  · rw [bytes_sym h]
    have h2 : decide (16 < x.size) = false := decide_eq_false h
    simp only [List.any_cons, List.any_nil, List.length_singleton, h2, Bool.or_false, show decide (60 < 1) = false from rfl, Bool.false_eq_true, if_false]
    cases (bytesOK x && !(x == ⟨#[]⟩)) <;> simp
theorem told_nilW {σ τ : Heap} : Told σ τ (.sl .nil 0 []) (encSS []) := .sl .nil .no 0 [] [] (.inl rfl) rfl (fun i h => by cases h)
theorem bytesOK_toB (l : List UInt8) : bytesOK (toB l) = l.all fun c => !badI c.toNat := by
  unfold bytesOK
  rw [toB_size]
  apply Bool.eq_iff_iff.2
  simp only [List.all_eq_true, List.mem_range]
  constructor
  · intro h c hc
    obtain ⟨i, hi, rfl⟩ := List.getElem_of_mem hc
    have := h i hi
    rw [toB_at (List.drop_eq_getElem_cons hi)] at this
    exact this
  · intro h i hi
    rw [toB_at (List.drop_eq_getElem_cons hi)]
    exact h _ (List.getElem_mem hi)
theorem symOK_one (c : UInt8) : symOK (toB [c]) = !badI c.toNat := by
  unfold symOK
  rw [bytesOK_toB, toB_size]
  simp
theorem kR_ex {r : Option (D × Eff)} {σ : Heap} {K : D → Heap → Prop} {hK : Keep K} (h : kR r σ K hK) : ∃ d e, r = some (d, e) ∧ K d (σ.app e) := by
  match r, h with
  | some (d, e), h => exact ⟨d, e, rfl, h⟩
theorem hf_build : ∀ a b c, hfKind (.buildSlice a b c) = false := fun _ _ _ => (rfl)
theorem actOp_append {Z : Sys} {σ σ1 : Heap} {K : Env → Prop} {env : Env} {dst ann : Nat} {x y : Operand} {ats : Array TypeId} : actOp Z σ σ1 ⟨some dst, .call ⟨.builtin .append, #[x, y], ats⟩, none, ann⟩ K env = kAct (appendR Z 0 σ.get σ.next ats (ev env x) (ev env y)) σ σ1 (fun d => K (upd env dst d)) ⟨⟩ := by rw [actOp_k]; rfl
theorem read_c (l : List UInt8) (hs : l.length ≤ 100000) : Fn Zs 37 [.str (toB l)] (.tup [encSS (rdW (toB l)).1, .bool (rdW (toB l)).2]) := by
  refine fn_of (Z := Zs) ok37 fun σ hcl hbl => ?_
  simp -dsimp only [L37, ↓preB, postB, genB, ↓reduceIte, Nat.reduceEqDiff, Int.reduceToNat, Int.reduceLE, Int.reduceLT, Nat.reduceAdd, Nat.reduceLeDiff, intBin, strBin, unD, extractD, lit1, lit2, lit3, keptD, boxR, D.one, D.pub1, D.cells, splice, cutOwn]
  have bad : ∀ (o : Bool) (s : Heap), HLe σ s → Ret σ (fun d τ => d = .tup [encSS [], .bool o] ∧ τ = σ) (.tup [.sl .nil 0 [], .bool o]) s := fun o s hle =>
    Ret.less hle hcl (.tup2 told_nilW (.refl _)) (.tup2 (.no (by simp)) (.bool _))
  have b0 : (toB l == (⟨#[91, 93]⟩ : ByteArray)) = (toB l == brk) := rfl
  cases c1 : (toB l == brk)
  case true =>
    simp -dsimp only [b0, c1, ↓preB, postB, genB, ↓reduceIte, Nat.reduceEqDiff, Int.reduceToNat, Int.reduceLE, Int.reduceLT, Nat.reduceAdd, Nat.reduceLeDiff, intBin, strBin, unD, extractD, lit1, lit2, lit3, keptD, boxR, D.one, D.pub1, D.cells, splice, cutOwn]
    have e : rdW (toB l) = ([], true) := by unfold rdW; rw [c1]; rfl
    rw [e]
    exact bad _ _ (HLe.refl _)
  cases c2 : (toB l == (⟨#[]⟩ : ByteArray))
  case true =>
    simp -dsimp only [b0, c1, c2, ↓preB, postB, genB, ↓reduceIte, Nat.reduceEqDiff, Int.reduceToNat, Int.reduceLE, Int.reduceLT, Nat.reduceAdd, Nat.reduceLeDiff, intBin, strBin, unD, extractD, lit1, lit2, lit3, keptD, boxR, D.one, D.pub1, D.cells, splice, cutOwn]
    have e : rdW (toB l) = ([], false) := by unfold rdW; rw [c1, c2]; rfl
    rw [e]
    exact bad _ _ (HLe.refl _)
  simp -dsimp only [b0, c1, c2, ↓preB, postB, genB, ↓reduceIte, Nat.reduceEqDiff, Int.reduceToNat, Int.reduceLE, Int.reduceLT, Nat.reduceAdd, Nat.reduceLeDiff, intBin, strBin, unD, extractD, lit1, lit2, lit3, keptD, boxR, D.one, D.pub1, D.cells, splice, cutOwn]
  have hrd : rdW (toB l) = match rdF l with | some w => (w, true) | none => ([], false) := by
    unfold rdW
    rw [c1, c2, toB_list]
    rfl
  refine pwp_loopG (fun (x : List UInt8 × Wd) env s => (x.1.length ≤ l.length ∧ x.2.length + x.1.length ≤ l.length ∧ (rdF x.1).map (x.2 ++ ·) = rdF l) ∧ Acc 9 1 σ x.2.length (x.2.map .str) (env 4) s ∧ env 0 = .str (toB x.1)) (fun x => x.1.length) (l, []) ?_ ?_
  · simp only [upd_apply, envOf_apply, Nat.reduceEqDiff, if_true, if_false]
    exact ⟨⟨Nat.le_refl _, by simp, by simp⟩, Acc.nil (HLe.refl _), rfl⟩
  · rintro ⟨r, out⟩ env s ⟨⟨hlr, hlo, hI⟩, hA, h0⟩
    simp only at hI hA h0 hlr hlo
    match r, hlr, hlo, hI, h0 with
    | [], hlr, hlo, hI, h0 =>
      have c3 : (toB [] == (⟨#[]⟩ : ByteArray)) = true := rfl
      simp -dsimp only [h0, c3, ↓preB, postB, genB, ↓reduceIte, Nat.reduceEqDiff, Int.reduceToNat, Int.reduceLE, Int.reduceLT, Nat.reduceAdd, Nat.reduceLeDiff, intBin, strBin, unD, extractD, lit1, lit2, lit3, keptD, boxR, D.one, D.pub1, D.cells, splice, cutOwn]
      rw [rdF, Option.map_some, List.append_nil] at hI
      rw [hrd, ← hI]
      exact Ret.less hA.le hcl (.tup2 hA.told (.refl _)) (.tup2 (.no (bel_strs _)) (.bool _))
    | c :: r, hlr, hlo, hI, h0 =>
      have c3 : (toB (c :: r) == (⟨#[]⟩ : ByteArray)) = false := by rw [← toB_nil, toB_beq]; simp
      have hsz := toB_size (c :: r)
      have hby : byteAt (toB (c :: r)) 0 = (c.toNat : Int) := toB_at (k := 0) rfl
      have h1 : (1 : Int) ≤ ((c :: r).length : Int) := by simp only [List.length_cons]; omega
      have h2 : (0 : Int) < ((c :: r).length : Int) := by simp only [List.length_cons]; omega
      simp -dsimp only [h0, c3, hsz, ↓preB, postB, genB, ↓reduceIte, Nat.reduceEqDiff, Int.reduceToNat, Int.reduceLE, Int.reduceLT, Nat.reduceAdd, Nat.reduceLeDiff, intBin, strBin, unD, extractD, lit1, lit2, lit3, keptD, boxR, D.one, D.pub1, D.cells, splice, cutOwn]
      refine draw_s ?_
      simp -dsimp only [h0, c3, hsz, hby, h1, h2, ↓preB, postB, genB, ↓reduceIte, Nat.reduceEqDiff, Int.reduceToNat, Int.reduceLE, Int.reduceLT, Nat.reduceAdd, Nat.reduceLeDiff, intBin, strBin, unD, extractD, lit1, lit2, lit3, keptD, boxR, D.one, D.pub1, D.cells, splice, cutOwn]
      by_cases hc : c = 60
      · have hcb : ((c.toNat : Int) == 60) = true := by rw [hc]; rfl
        simp -dsimp only [h0, c3, hsz, hby, h1, h2, hcb, ↓preB, postB, genB, ↓reduceIte, Nat.reduceEqDiff, Int.reduceToNat, Int.reduceLE, Int.reduceLT, Nat.reduceAdd, Nat.reduceLeDiff, intBin, strBin, unD, extractD, lit1, lit2, lit3, keptD, boxR, D.one, D.pub1, D.cells, splice, cutOwn]
        refine ⟨⟨by omega, h1⟩, h2, ?_⟩
        have hix := IndexByte_c (toB (c :: r)) 62
        rw [show ((62 : UInt8).toNat : Int) = 62 from rfl, toB_list] at hix
        refine Fn.use hix ?_
        have hne : c ≠ 62 := by rw [hc]; decide
        by_cases h62 : 62 ∈ r
        · rw [index_in 62 (List.mem_cons_of_mem _ h62), headL_ne hne]
          have hl62 : (headL 62 r).length + 1 ≤ r.length := by
            have := congrArg List.length (headL_in 62 h62)
            rw [List.length_append, List.length_cons] at this
            omega
          have hw1 : IntKind.i64.wrap ((((headL 62 r).length + 1 : Nat) : Int) + 1) = (((headL 62 r).length + 2 : Nat) : Int) := by
            simp only [List.length_cons] at hlr
            rw [wrap64_in (by omega) (by omega)]; omega
          have hw2 : IntKind.i64.wrap ((((headL 62 r).length + 2 : Nat) : Int) - 1) = (((headL 62 r).length + 1 : Nat) : Int) := by
            simp only [List.length_cons] at hlr
            rw [wrap64_in (by omega) (by omega)]; omega
          simp -dsimp only [h0, c3, hsz, hby, h1, h2, hcb, hw1, hw2, ↓preB, postB, genB, ↓reduceIte, Nat.reduceEqDiff, Int.reduceToNat, Int.reduceLE, Int.reduceLT, Nat.reduceAdd, Nat.reduceLeDiff, intBin, strBin, unD, extractD, lit1, lit2, lit3, keptD, boxR, D.one, D.pub1, D.cells, splice, cutOwn]
          by_cases h4 : (headL 62 r).length < 2
          · have hn : (((headL 62 r).length + 2 : Nat) : Int) < 4 := by omega
            rw [if_pos hn, hrd, ← hI, rdF, if_pos hc, if_neg (by omega)]
            exact bad _ _ hA.le
          · have hn : ¬ (((headL 62 r).length + 2 : Nat) : Int) < 4 := by omega
            rw [if_neg hn]
            refine ⟨⟨by omega, by omega⟩, ?_⟩
            simp only [Int.toNat_natCast]
            have hx : (toB (c :: r)).extract 1 ((headL 62 r).length + 1) = toB (headL 62 r) := by
              rw [toB_extract, List.take_succ_cons, List.drop_succ_cons, List.drop_zero]
              have h2 := congrArg (List.take (headL 62 r).length) (headL_in 62 h62)
              rw [List.take_left] at h2
              rw [h2]
            rw [hx]
            refine Fn.useP (symsValidateWord_c [toB (headL 62 r)]) rfl ?_
            have hdr : (c :: r).drop ((headL 62 r).length + 2) = tailL 62 r := by
              rw [List.drop_succ_cons]
              have h2 := congrArg (List.drop ((headL 62 r).length + 1)) (headL_in 62 h62)
              rw [drop_over] at h2
              exact h2
            generalize hX : toB (headL 62 r) = X at *
            cases hok : symOK X
            · have hb0 : (badW [X] != 0) = true := by
                have : badW [X] ≠ 0 := fun e => by have := (badW_one _).1 e; rw [hok] at this; cases this
                simpa using this
              simp -dsimp only [h0, c3, hsz, hby, h1, h2, hcb, hb0, ↓preB, postB, genB, ↓reduceIte, Nat.reduceEqDiff, Int.reduceToNat, Int.reduceLE, Int.reduceLT, Nat.reduceAdd, Nat.reduceLeDiff, intBin, strBin, unD, extractD, lit1, lit2, lit3, keptD, boxR, D.one, D.pub1, D.cells, splice, cutOwn]
              rw [hrd, ← hI, rdF, if_pos hc, hX, if_neg (by simp [hok])]
              exact bad _ _ hA.le
            · have hb0 : badW [X] = 0 := (badW_one _).2 hok
              simp -dsimp only [h0, c3, hsz, hby, h1, h2, hcb, hb0, bne_self_eq_false, ↓preB, postB, genB, ↓reduceIte, Nat.reduceEqDiff, Int.reduceToNat, Int.reduceLE, Int.reduceLT, Nat.reduceAdd, Nat.reduceLeDiff, intBin, strBin, unD, extractD, lit1, lit2, lit3, keptD, boxR, D.one, D.pub1, D.cells, splice, cutOwn]
              have hds : (toB (c :: r)).extract ((headL 62 r).length + 2) (r.length + 1) = toB (tailL 62 r) := by
                rw [toB_extract, show r.length + 1 = (c :: r).length from rfl, List.take_length, hdr]
              have ht := tailL_len 62 r
              have hI2 : (rdF (tailL 62 r)).map ((out ++ [X]) ++ ·) = rdF l := by
                rw [← hI, rdF, if_pos hc, hX, if_pos ⟨h62, by omega, hok⟩, Option.map_map]
                congr 1
                funext w
                simp
              simp only [List.length_cons] at hlo hlr
              obtain ⟨d', e, hap, hA'⟩ := kR_ex (hA.append (K := fun d' s' => Acc 9 1 σ (out.length + 1) (out.map .str ++ [.str X]) d' s') (hK := ⟨⟩) (y := .sl .full 1 [.str X]) (t2 := 29) hcl tz29 rfl tz9 rfl rfl rfl (by decide) (by simp) (fedBy_sl (m := 1) tz29 rfl (by simp)) (by simp only []; omega) (by simp only [big]; omega) fun d' s' h => h)
              refine draw_a 8 3 (s.app e) (by decide) (by decide) (by decide) ?_
              simp -dsimp only [h0, c3, hsz, hby, h1, h2, hcb, actOp_append, hf_build, hap, actOps_nil, actOps_act, actOps_hf, actOps_two, actOp_alloc, actOp_mapEntry, actOp_makeMap, actOp_box, kAct_some, hfB, ne_eq, eq_self, ↓preB, postB, genB, ↓reduceIte, Nat.reduceEqDiff, Int.reduceToNat, Int.reduceLE, Int.reduceLT, Nat.reduceAdd, Nat.reduceLeDiff, intBin, strBin, unD, extractD, lit1, lit2, lit3, keptD, boxR, D.one, D.pub1, D.cells, splice, cutOwn]
              refine ⟨⟨by omega, by omega⟩, ⟨by omega, by omega⟩, (tailL 62 r, out ++ [X]), ⟨⟨by simp only []; omega, by simp only [List.length_append, List.length_singleton]; omega, hI2⟩, ?_, hds⟩, by simp only []; omega⟩
              simpa using hA'
        · rw [index_out 62 (fun hm => h62 ((List.mem_cons.1 hm).resolve_left fun e => hne e.symm))]
          have hw1 : IntKind.i64.wrap (-1 + 1) = 0 := rfl
          simp -dsimp only [h0, c3, hsz, hby, h1, h2, hcb, hw1, show (0 : Int) < 4 by decide, if_true, ↓preB, postB, genB, ↓reduceIte, Nat.reduceEqDiff, Int.reduceToNat, Int.reduceLE, Int.reduceLT, Nat.reduceAdd, Nat.reduceLeDiff, intBin, strBin, unD, extractD, lit1, lit2, lit3, keptD, boxR, D.one, D.pub1, D.cells, splice, cutOwn]
          rw [hrd, ← hI, rdF, if_pos hc, if_neg (fun h => h62 h.1)]
          exact bad _ _ hA.le
      · have hcb : ((c.toNat : Int) == 60) = false := by
          simp only [beq_eq_false_iff_ne, ne_eq]
          exact fun e => hc (UInt8.toNat_inj.1 (by have : (60 : UInt8).toNat = 60 := rfl; omega))
        simp -dsimp only [h0, c3, hsz, hby, h1, h2, hcb, ↓preB, postB, genB, ↓reduceIte, Nat.reduceEqDiff, Int.reduceToNat, Int.reduceLE, Int.reduceLT, Nat.reduceAdd, Nat.reduceLeDiff, intBin, strBin, unD, extractD, lit1, lit2, lit3, keptD, boxR, D.one, D.pub1, D.cells, splice, cutOwn]
        refine ⟨⟨by omega, h1⟩, h2, ?_⟩
        have hx : (toB (c :: r)).extract 0 1 = toB [c] := by rw [toB_extract]; rfl
        rw [hx]
        refine Fn.useP (symsValidateWord_c [toB [c]]) rfl ?_
        cases hok : badI c.toNat
        · have hb0 : badW [toB [c]] = 0 := (badW_one _).2 (by rw [symOK_one, hok]; rfl)
          simp -dsimp only [h0, c3, hsz, hby, h1, h2, hcb, hb0, bne_self_eq_false, ↓preB, postB, genB, ↓reduceIte, Nat.reduceEqDiff, Int.reduceToNat, Int.reduceLE, Int.reduceLT, Nat.reduceAdd, Nat.reduceLeDiff, intBin, strBin, unD, extractD, lit1, lit2, lit3, keptD, boxR, D.one, D.pub1, D.cells, splice, cutOwn]
          obtain ⟨d', e, hap, hA'⟩ := kR_ex (hA.append (K := fun d' s' => Acc 9 1 σ (out.length + 1) (out.map .str ++ [.str (toB [c])]) d' s') (hK := ⟨⟩) (y := .sl .full 1 [.str (toB [c])]) (t2 := 29) hcl tz29 rfl tz9 rfl rfl rfl (by decide) (by simp) (fedBy_sl (m := 1) tz29 rfl (by simp)) (by simp only [List.length_cons] at hlo ⊢; omega) (by simp only [big]; simp only [List.length_cons] at hlo; omega) fun d' s' h => h)
          refine draw_a 8 3 (s.app e) (by decide) (by decide) (by decide) ?_
          simp -dsimp only [h0, c3, hsz, hby, h1, h2, hcb, actOp_append, hf_build, hap, actOps_nil, actOps_act, actOps_hf, actOps_two, actOp_alloc, actOp_mapEntry, actOp_makeMap, actOp_box, kAct_some, hfB, ne_eq, eq_self, ↓preB, postB, genB, ↓reduceIte, Nat.reduceEqDiff, Int.reduceToNat, Int.reduceLE, Int.reduceLT, Nat.reduceAdd, Nat.reduceLeDiff, intBin, strBin, unD, extractD, lit1, lit2, lit3, keptD, boxR, D.one, D.pub1, D.cells, splice, cutOwn]
          have hds : (toB (c :: r)).extract 1 (r.length + 1) = toB r := by
            rw [toB_extract, show r.length + 1 = (c :: r).length from rfl, List.take_length]; rfl
          have hI2 : (rdF r).map ((out ++ [toB [c]]) ++ ·) = rdF l := by
            rw [← hI, rdF, if_neg hc, if_neg (by rw [hok]; decide), Option.map_map]
            congr 1
            funext w
            simp
          simp only [List.length_cons] at hlo hlr
          refine ⟨⟨by omega, by omega⟩, ⟨by omega, by omega⟩, (r, out ++ [toB [c]]), ⟨⟨by simp only []; omega, by simp only [List.length_append, List.length_singleton]; omega, hI2⟩, ?_, hds⟩, by simp only []; omega⟩
          simpa using hA'
        · have hb0 : (badW [toB [c]] != 0) = true := by
            have : badW [toB [c]] ≠ 0 := fun e => by have := (badW_one _).1 e; rw [symOK_one, hok] at this; cases this
            simpa using this
          simp -dsimp only [h0, c3, hsz, hby, h1, h2, hcb, hb0, ↓preB, postB, genB, ↓reduceIte, Nat.reduceEqDiff, Int.reduceToNat, Int.reduceLE, Int.reduceLT, Nat.reduceAdd, Nat.reduceLeDiff, intBin, strBin, unD, extractD, lit1, lit2, lit3, keptD, boxR, D.one, D.pub1, D.cells, splice, cutOwn]
          rw [hrd, ← hI, rdF, if_neg hc, if_pos hok]
          exact bad _ _ hA.le
/-! ### the specification's word -/
theorem headL_lt (b : UInt8) : ∀ {r : List UInt8} {k : Nat}, k < (headL b r).length → ∃ c, r[k]? = some c ∧ c ≠ b ∧ k < r.length
  | [], k, h => by simp [headL] at h
  | c :: r, k, h => by
    by_cases hc : c = b
    · subst hc; rw [headL_eq] at h; simp at h
    · rw [headL_ne hc] at h
      match k, h with
      | 0, _ => exact ⟨c, rfl, hc, by simp⟩
      | k + 1, h =>
        obtain ⟨d, h1, h2, h3⟩ := headL_lt b (r := r) (k := k) (by simpa using h)
        exact ⟨d, by simpa using h1, h2, by simpa using h3⟩
theorem headL_end (b : UInt8) : ∀ {r : List UInt8}, (headL b r).length < r.length → r[(headL b r).length]? = some b ∧ b ∈ r
  | [], h => by simp [headL] at h
  | c :: r, h => by
    by_cases hc : c = b
    · subst hc; rw [headL_eq]; simp
    · rw [headL_ne hc] at h ⊢
      obtain ⟨h1, h2⟩ := headL_end b (r := r) (by simpa using h)
      exact ⟨by simpa using h1, List.mem_cons_of_mem _ h2⟩
theorem refCutW_c (l : List UInt8) (hs : l.length ≤ 100000) : Fn Zs 67 [.str (toB l)] (.tup [encSS ((rdF l).getD []), .bool (rdF l).isSome]) := by
  refine fn_of (Z := Zs) ok67 fun σ hcl hbl => ?_
  simp -dsimp only [L67, ↓preB, postB, genB, ↓reduceIte, Nat.reduceEqDiff, Int.reduceToNat, Int.reduceLE, Int.reduceLT, Nat.reduceAdd, Nat.reduceLeDiff, intBin, strBin, unD, extractD, lit1, lit2, lit3, keptD, boxR, D.one, D.pub1, D.cells, splice, cutOwn]
  have hsz := toB_size l
  have bad : ∀ (s : Heap), HLe σ s → rdF l = none → Ret σ (fun d τ => d = .tup [encSS ((rdF l).getD []), .bool (rdF l).isSome] ∧ τ = σ) (.tup [.sl .nil 0 [], .bool false]) s := fun s hle h => by
    rw [h]
    exact Ret.less hle hcl (.tup2 told_nilW (.refl _)) (.tup2 (.no (by simp)) (.bool _))
  refine pwp_loopG (fun (x : Nat × Wd) env s => (x.1 ≤ l.length ∧ x.2.length ≤ x.1 ∧ (rdF (l.drop x.1)).map (x.2 ++ ·) = rdF l) ∧ Acc 9 1 σ x.2.length (x.2.map .str) (env 4) s ∧ env 5 = .int .i64 (x.1:Nat) ∧ env 0 = .str (toB l)) (fun x => l.length - x.1) (0, []) ?_ ?_
  · simp only [upd_apply, envOf_apply, Nat.reduceEqDiff, if_true, if_false]
    exact ⟨⟨Nat.zero_le _, by simp, by simp⟩, Acc.nil (HLe.refl _), rfl, rfl⟩
  · rintro ⟨i, out⟩ env s ⟨⟨hil, hlo, hI⟩, hA, h5, h0⟩
    simp only at hI hA h5 hil hlo
    rcases Nat.lt_or_ge i l.length with hlt | hge
    · have hn : (i : Int) < l.length := by omega
      have hd : l.drop i = l[i] :: l.drop (i + 1) := List.drop_eq_getElem_cons hlt
      have hby := toB_at hd
      generalize l[i] = c at hd hby
      have hwi := wrap64_succ (k := i) (by simp only [big]; omega)
      simp -dsimp only [h0, h5, hsz, hn, hlt, hby, ↓preB, postB, genB, ↓reduceIte, Nat.reduceEqDiff, Int.reduceToNat, Int.reduceLE, Int.reduceLT, Nat.reduceAdd, Nat.reduceLeDiff, intBin, strBin, unD, extractD, lit1, lit2, lit3, keptD, boxR, D.one, D.pub1, D.cells, splice, cutOwn]
      intro _
      by_cases hc : c = 60
      · have e1 : ¬ ((c.toNat : Int) < 33) := by rw [hc]; decide
        have e2 : ¬ ((126 : Int) < c.toNat) := by rw [hc]; decide
        have e3 : ((c.toNat : Int) == 62) = false := by rw [hc]; rfl
        have e4 : ((c.toNat : Int) != 60) = false := by rw [hc]; rfl
        simp -dsimp only [h0, h5, hsz, hn, hlt, hby, e1, e2, e3, e4, hwi, gate, decide_false, decide_true, show (false == false) = true from rfl, show (true == false) = false from rfl, ↓preB, postB, genB, ↓reduceIte, Nat.reduceEqDiff, Int.reduceToNat, Int.reduceLE, Int.reduceLT, Nat.reduceAdd, Nat.reduceLeDiff, intBin, strBin, unD, extractD, lit1, lit2, lit3, keptD, boxR, D.one, D.pub1, D.cells, splice, cutOwn]
        have hdr : ∀ k, (l.drop (i + 1))[k]? = l[i + 1 + k]? := fun k => by rw [List.getElem?_drop]
        have hlr : (l.drop (i + 1)).length = l.length - (i + 1) := List.length_drop
        have hhl := headL_len 62 (l.drop (i + 1))
        refine pwp_loopG (fun (k : Nat) env' s' => k ≤ (headL 62 (l.drop (i + 1))).length ∧ s' = s ∧ env' 4 = env 4 ∧ env' 5 = .int .i64 (i:Nat) ∧ env' 6 = .int .i64 (i + 1 + k:Nat) ∧ env' 0 = .str (toB l)) (fun k => l.length - k) 0 ?_ ?_
        · simp only [upd_apply, Nat.reduceEqDiff, if_true, if_false]
          exact ⟨Nat.zero_le _, trivial, trivial, h5, by rw [hwi, Nat.add_zero], h0⟩
        · rintro k env' s' ⟨hk, rfl, g4, g5, g6, g0⟩
          rcases Nat.lt_or_ge k (headL 62 (l.drop (i + 1))).length with hklt | hkge
          · obtain ⟨d, d1, d2, d3⟩ := headL_lt 62 hklt
            have hlt2 : i + 1 + k < l.length := by omega
            have hn2 : ((i + 1 + k : Nat) : Int) < l.length := by omega
            have hd2 : l.drop (i + 1 + k) = d :: l.drop (i + 1 + k + 1) := by
              rw [List.drop_eq_getElem_cons hlt2]
              rw [hdr, List.getElem?_eq_getElem hlt2] at d1
              rw [Option.some.inj d1]
            have hby2 := toB_at hd2
            have f1 : ((d.toNat : Int) != 62) = true := by
              simp only [bne_iff_ne, ne_eq]
              exact fun e => d2 (UInt8.toNat_inj.1 (by have : (62 : UInt8).toNat = 62 := rfl; omega))
            simp -dsimp only [g0, g4, g5, g6, hsz, hn2, hlt2, hby2, f1, gate, decide_true, show (true == true) = true from rfl, ↓preB, postB, genB, ↓reduceIte, Nat.reduceEqDiff, Int.reduceToNat, Int.reduceLE, Int.reduceLT, Nat.reduceAdd, Nat.reduceLeDiff, intBin, strBin, unD, extractD, lit1, lit2, lit3, keptD, boxR, D.one, D.pub1, D.cells, splice, cutOwn]
            intro _
            exact ⟨k + 1, ⟨by omega, wrap64_succ (by simp only [big]; omega)⟩, by omega⟩
          · have hk2 : k = (headL 62 (l.drop (i + 1))).length := by omega
            by_cases h62 : 62 ∈ l.drop (i + 1)
            · have hin := congrArg List.length (headL_in 62 h62)
              rw [List.length_append, List.length_cons] at hin
              obtain ⟨d1, _⟩ := headL_end 62 (r := l.drop (i + 1)) (by omega)
              have hlt2 : i + 1 + k < l.length := by omega
              have hn2 : ((i + 1 + k : Nat) : Int) < l.length := by omega
              have hd2 : l.drop (i + 1 + k) = 62 :: l.drop (i + 1 + k + 1) := by
                rw [List.drop_eq_getElem_cons hlt2]
                rw [← hk2, hdr, List.getElem?_eq_getElem hlt2] at d1
                rw [Option.some.inj d1]
              have hby2 := toB_at hd2
              have f1 : (((62 : UInt8).toNat : Int) != 62) = false := rfl
              have f2 : (((i + 1 + k : Nat) : Int) == (l.length : Int)) = false := by simp only [beq_eq_false_iff_ne, ne_eq, Int.natCast_inj]; omega
              have f3 : IntKind.i64.wrap (((i + 1 + k : Nat) : Int) - (i : Int)) = (k + 1 : Nat) := by
                rw [wrap64_in (by omega) (by omega)]; omega
              by_cases h2 : k < 2
              · have f4 : ((k + 1 : Nat) : Int) < 3 := by omega
                simp -dsimp only [g0, g4, g5, g6, hsz, hn2, hlt2, hby2, f1, f2, f3, f4, hwi, gate, decide_true, show (true == true) = true from rfl, show (false == false) = true from rfl, show (true == false) = false from rfl, ↓preB, postB, genB, ↓reduceIte, Nat.reduceEqDiff, Int.reduceToNat, Int.reduceLE, Int.reduceLT, Nat.reduceAdd, Nat.reduceLeDiff, intBin, strBin, unD, extractD, lit1, lit2, lit3, keptD, boxR, D.one, D.pub1, D.cells, splice, cutOwn]
                intros
                refine bad _ hA.le ?_
                rw [← hI, hd, rdF, if_pos hc, if_neg (by omega)]
                rfl
              · have f4 : ¬ ((k + 1 : Nat) : Int) < 3 := by omega
                have hxx : (toB l).extract (i + 1) (i + 1 + k) = toB (headL 62 (l.drop (i + 1))) := by
                  rw [toB_extract, List.drop_take, show i + 1 + k - (i + 1) = k by omega, hk2]
                  have h2 := congrArg (List.take (headL 62 (l.drop (i + 1))).length) (headL_in 62 h62)
                  rw [List.take_left] at h2
                  rw [h2]
                have htl : l.drop (i + 1 + k + 1) = tailL 62 (l.drop (i + 1)) := by
                  have h2 := congrArg (List.drop ((headL 62 (l.drop (i + 1))).length + 1)) (headL_in 62 h62)
                  rw [drop_over, List.drop_drop, ← hk2] at h2
                  exact h2
                simp -dsimp only [g0, g4, g5, g6, hsz, hn2, hlt2, hby2, f1, f2, f3, f4, hwi, hxx, gate, decide_true, decide_false, show (true == true) = true from rfl, show (false == false) = true from rfl, ↓preB, postB, genB, ↓reduceIte, Nat.reduceEqDiff, Int.reduceToNat, Int.reduceLE, Int.reduceLT, Nat.reduceAdd, Nat.reduceLeDiff, intBin, strBin, unD, extractD, lit1, lit2, lit3, keptD, boxR, D.one, D.pub1, D.cells, splice, cutOwn]
                intros
                refine ⟨⟨by omega, by omega⟩, ?_⟩
                generalize hX : toB (headL 62 (l.drop (i + 1))) = X at *
                refine Fn.use (IsSymbol_c X) ?_
                cases hok : symOK X
                · simp -dsimp only [g0, g4, g5, g6, hsz, hwi, hxx, hok, ↓preB, postB, genB, ↓reduceIte, Nat.reduceEqDiff, Int.reduceToNat, Int.reduceLE, Int.reduceLT, Nat.reduceAdd, Nat.reduceLeDiff, intBin, strBin, unD, extractD, lit1, lit2, lit3, keptD, boxR, D.one, D.pub1, D.cells, splice, cutOwn]
                  refine bad _ hA.le ?_
                  rw [← hI, hd, rdF, if_pos hc, hX, if_neg (by simp [hok])]
                  rfl
                · simp -dsimp only [g0, g4, g5, g6, hsz, hwi, hxx, hok, ↓preB, postB, genB, ↓reduceIte, Nat.reduceEqDiff, Int.reduceToNat, Int.reduceLE, Int.reduceLT, Nat.reduceAdd, Nat.reduceLeDiff, intBin, strBin, unD, extractD, lit1, lit2, lit3, keptD, boxR, D.one, D.pub1, D.cells, splice, cutOwn]
                  refine ⟨⟨by omega, by omega⟩, ?_⟩
                  refine hA.append hcl tz29 rfl tz9 rfl rfl rfl (by decide) (by simp) (fedBy_sl (m := 1) tz29 rfl (by simp)) (by simp only []; omega) (by simp only [big]; omega) fun d' s2 hA' => ?_
                  simp -dsimp only [g0, g5, g6, ↓preB, postB, genB, ↓reduceIte, Nat.reduceEqDiff, Int.reduceToNat, Int.reduceLE, Int.reduceLT, Nat.reduceAdd, Nat.reduceLeDiff, intBin, strBin, unD, extractD, lit1, lit2, lit3, keptD, boxR, D.one, D.pub1, D.cells, splice, cutOwn]
                  have hI2 : (rdF (l.drop (i + 1 + k + 1))).map ((out ++ [X]) ++ ·) = rdF l := by
                    rw [← hI, hd, rdF, if_pos hc, hX, if_pos ⟨h62, by omega, hok⟩, Option.map_map, htl]
                    congr 1
                    funext w
                    simp
                  refine ⟨(i + 1 + k + 1, out ++ [X]), ⟨⟨by simp only []; omega, by simp only [List.length_append, List.length_singleton]; omega, hI2⟩, ?_, wrap64_succ (by simp only [big]; omega)⟩, by simp only []; omega⟩
                  simpa using hA'
            · have hn2 : ¬ ((i + 1 + k : Nat) : Int) < l.length := by
                rw [(headL_not 62 h62).1] at hk2
                omega
              have f2 : (((i + 1 + k : Nat) : Int) == (l.length : Int)) = true := by
                rw [(headL_not 62 h62).1] at hk2
                simp only [beq_iff_eq, Int.natCast_inj]; omega
              simp -dsimp only [g0, g4, g5, g6, hsz, hn2, f2, gate, decide_false, show (false == true) = false from rfl, show (true == false) = false from rfl, ↓preB, postB, genB, ↓reduceIte, Nat.reduceEqDiff, Int.reduceToNat, Int.reduceLE, Int.reduceLT, Nat.reduceAdd, Nat.reduceLeDiff, intBin, strBin, unD, extractD, lit1, lit2, lit3, keptD, boxR, D.one, D.pub1, D.cells, splice, cutOwn]
              intro _ _
              refine bad _ hA.le ?_
              rw [← hI, hd, rdF, if_pos hc, if_neg (fun h => h62 h.1)]
              rfl
      · have e4 : ((c.toNat : Int) != 60) = true := by
          simp only [bne_iff_ne, ne_eq]
          exact fun e => hc (UInt8.toNat_inj.1 (by have : (60 : UInt8).toNat = 60 := rfl; omega))
        cases hok : badI c.toNat
        · have hok' := hok
          simp only [badI, Bool.or_eq_false_iff, decide_eq_false_iff_not] at hok'
          obtain ⟨e1, e2, _, e3⟩ := hok'
          have e2' : ¬ ((126 : Int) < c.toNat) := e2
          simp -dsimp only [h0, h5, hsz, hn, hlt, hby, e1, e2', e3, e4, hwi, gate, decide_false, decide_true, show (false == false) = true from rfl, show (true == false) = false from rfl, ↓preB, postB, genB, ↓reduceIte, Nat.reduceEqDiff, Int.reduceToNat, Int.reduceLE, Int.reduceLT, Nat.reduceAdd, Nat.reduceLeDiff, intBin, strBin, unD, extractD, lit1, lit2, lit3, keptD, boxR, D.one, D.pub1, D.cells, splice, cutOwn]
          refine ⟨⟨by omega, by omega⟩, ?_⟩
          refine hA.append hcl tz29 rfl tz9 rfl rfl rfl (by decide) (by simp) (fedBy_sl (m := 1) tz29 rfl (by simp)) (by simp only []; omega) (by simp only [big]; omega) fun d' s' hA' => ?_
          simp -dsimp only [h0, h5, hwi, ↓preB, postB, genB, ↓reduceIte, Nat.reduceEqDiff, Int.reduceToNat, Int.reduceLE, Int.reduceLT, Nat.reduceAdd, Nat.reduceLeDiff, intBin, strBin, unD, extractD, lit1, lit2, lit3, keptD, boxR, D.one, D.pub1, D.cells, splice, cutOwn]
          have hx : (toB l).extract i (i + 1) = toB [c] := by
            rw [toB_extract, List.drop_take, hd, show i + 1 - i = 1 by omega]; rfl
          rw [hx] at hA'
          have hI2 : (rdF (l.drop (i + 1))).map ((out ++ [toB [c]]) ++ ·) = rdF l := by
            rw [← hI, hd, rdF, if_neg hc, if_neg (by rw [hok]; decide), Option.map_map]
            congr 1
            funext w
            simp
          refine ⟨(i + 1, out ++ [toB [c]]), ⟨⟨by simp only []; omega, by simp only [List.length_append, List.length_singleton]; omega, hI2⟩, ?_, rfl⟩, by simp only []; omega⟩
          simpa using hA'
        · have hno : rdF l = none := by rw [← hI, hd, rdF, if_neg hc, if_pos hok]; rfl
          by_cases e1 : (c.toNat : Int) < 33
          · simp -dsimp only [h0, h5, hsz, hn, hlt, hby, e1, e4, hwi, gate, decide_true, show (true == false) = false from rfl, ↓preB, postB, genB, ↓reduceIte, Nat.reduceEqDiff, Int.reduceToNat, Int.reduceLE, Int.reduceLT, Nat.reduceAdd, Nat.reduceLeDiff, intBin, strBin, unD, extractD, lit1, lit2, lit3, keptD, boxR, D.one, D.pub1, D.cells, splice, cutOwn]
            exact bad _ hA.le hno
          by_cases e2 : (126 : Int) < c.toNat
          · simp -dsimp only [h0, h5, hsz, hn, hlt, hby, e1, e2, e4, hwi, gate, decide_true, decide_false, show (false == false) = true from rfl, show (true == false) = false from rfl, ↓preB, postB, genB, ↓reduceIte, Nat.reduceEqDiff, Int.reduceToNat, Int.reduceLE, Int.reduceLT, Nat.reduceAdd, Nat.reduceLeDiff, intBin, strBin, unD, extractD, lit1, lit2, lit3, keptD, boxR, D.one, D.pub1, D.cells, splice, cutOwn]
            exact bad _ hA.le hno
          have e3 : ((c.toNat : Int) == 62) = true := by
            have h60 : ((c.toNat : Int) == 60) = false := by simpa using e4
            simp only [badI, Bool.or_eq_true, decide_eq_true_eq, h60, Bool.false_eq_true, false_or] at hok
            rcases hok with h | h | h
            · exact absurd h e1
            · exact absurd h e2
            · exact h
          simp -dsimp only [h0, h5, hsz, hn, hlt, hby, e1, e2, e3, e4, hwi, gate, decide_false, show (false == false) = true from rfl, show (true == false) = false from rfl, ↓preB, postB, genB, ↓reduceIte, Nat.reduceEqDiff, Int.reduceToNat, Int.reduceLE, Int.reduceLT, Nat.reduceAdd, Nat.reduceLeDiff, intBin, strBin, unD, extractD, lit1, lit2, lit3, keptD, boxR, D.one, D.pub1, D.cells, splice, cutOwn]
          exact bad _ hA.le hno
    · have hn : ¬ ((i : Int) < l.length) := by omega
      simp -dsimp only [h0, h5, hsz, hn, ↓preB, postB, genB, ↓reduceIte, Nat.reduceEqDiff, Int.reduceToNat, Int.reduceLE, Int.reduceLT, Nat.reduceAdd, Nat.reduceLeDiff, intBin, strBin, unD, extractD, lit1, lit2, lit3, keptD, boxR, D.one, D.pub1, D.cells, splice, cutOwn]
      intro _
      have hnil : l.drop i = [] := List.drop_of_length_le hge
      rw [hnil, rdF, Option.map_some, List.append_nil] at hI
      rw [← hI]
      exact Ret.less hA.le hcl (.tup2 hA.told (.refl _)) (.tup2 (.no (bel_strs _)) (.bool _))
theorem refRead_c (l : List UInt8) (hs : l.length ≤ 100000) : Fn Zs 45 [.str (toB l)] (.tup [encSS (rdW (toB l)).1, .bool (rdW (toB l)).2]) := by
  refine fn_of (Z := Zs) ok45 fun σ hcl hbl => ?_
  simp -dsimp only [L45, ↓preB, postB, genB, ↓reduceIte, Nat.reduceEqDiff, Int.reduceToNat, Int.reduceLE, Int.reduceLT, Nat.reduceAdd, Nat.reduceLeDiff, intBin, strBin, unD, extractD, lit1, lit2, lit3, keptD, boxR, D.one, D.pub1, D.cells, splice, cutOwn]
  have b0 : (toB l == (⟨#[91, 93]⟩ : ByteArray)) = (toB l == brk) := rfl
  cases c1 : (toB l == brk)
  case true =>
    simp -dsimp only [b0, c1, ↓preB, postB, genB, ↓reduceIte, Nat.reduceEqDiff, Int.reduceToNat, Int.reduceLE, Int.reduceLT, Nat.reduceAdd, Nat.reduceLeDiff, intBin, strBin, unD, extractD, lit1, lit2, lit3, keptD, boxR, D.one, D.pub1, D.cells, splice, cutOwn]
    have e : rdW (toB l) = ([], true) := by unfold rdW; rw [c1]; rfl
    rw [e]
    exact Ret.less (HLe.refl _) hcl (.tup2 told_nilW (.refl _)) (.tup2 (.no (by simp)) (.bool _))
  simp -dsimp only [b0, c1, ↓preB, postB, genB, ↓reduceIte, Nat.reduceEqDiff, Int.reduceToNat, Int.reduceLE, Int.reduceLT, Nat.reduceAdd, Nat.reduceLeDiff, intBin, strBin, unD, extractD, lit1, lit2, lit3, keptD, boxR, D.one, D.pub1, D.cells, splice, cutOwn]
  refine Fn.use (refCutW_c l hs) ?_
  cases c2 : (toB l == (⟨#[]⟩ : ByteArray))
  case true =>
    have e : rdW (toB l) = ([], false) := by unfold rdW; rw [c1, c2]; rfl
    have hl : l = [] := toB_inj (by rw [toB_nil]; exact ba_eq c2)
    have h2 : (toB l != (⟨#[]⟩ : ByteArray)) = false := by unfold bne; rw [c2]; rfl
    have hr : rdF l = some [] := by rw [hl, rdF]
    simp -dsimp only [hr, h2, Option.isSome_some, Option.getD_some, gate, show (true == true) = true from rfl, ↓preB, postB, genB, ↓reduceIte, Nat.reduceEqDiff, Int.reduceToNat, Int.reduceLE, Int.reduceLT, Nat.reduceAdd, Nat.reduceLeDiff, intBin, strBin, unD, extractD, lit1, lit2, lit3, keptD, boxR, D.one, D.pub1, D.cells, splice, cutOwn]
    rw [e]
    exact Ret.is (by rw [c2]; rfl)
  have h2 : (toB l != (⟨#[]⟩ : ByteArray)) = true := by unfold bne; rw [c2]; rfl
  have hrd : rdW (toB l) = match rdF l with | some w => (w, true) | none => ([], false) := by
    unfold rdW
    rw [c1, c2, toB_list]
    rfl
  cases hr : rdF l with
  | none =>
    rw [hr] at hrd
    simp -dsimp only [h2, Option.isSome_none, Option.getD_none, gate, show (false == true) = false from rfl, ↓preB, postB, genB, ↓reduceIte, Nat.reduceEqDiff, Int.reduceToNat, Int.reduceLE, Int.reduceLT, Nat.reduceAdd, Nat.reduceLeDiff, intBin, strBin, unD, extractD, lit1, lit2, lit3, keptD, boxR, D.one, D.pub1, D.cells, splice, cutOwn]
    rw [hrd]
    exact Ret.is rfl
  | some w =>
    rw [hr] at hrd
    simp -dsimp only [h2, Option.isSome_some, Option.getD_some, gate, show (true == true) = true from rfl, ↓preB, postB, genB, ↓reduceIte, Nat.reduceEqDiff, Int.reduceToNat, Int.reduceLE, Int.reduceLT, Nat.reduceAdd, Nat.reduceLeDiff, intBin, strBin, unD, extractD, lit1, lit2, lit3, keptD, boxR, D.one, D.pub1, D.cells, splice, cutOwn]
    rw [hrd]
    exact Ret.is (by rw [c2]; rfl)
end Go.Proofs.YtldlcejlfaogbaaDoor.Vs
