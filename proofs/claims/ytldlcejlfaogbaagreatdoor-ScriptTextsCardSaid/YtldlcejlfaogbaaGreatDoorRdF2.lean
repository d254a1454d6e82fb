/- numbers of YtldlcejlfaogbaaDoor -/
import Derived.Test.YtldlcejlfaogbaaGreatDoorRdF1
namespace Go.Proofs.YtldlcejlfaogbaaGreatDoor.Vs
set_option linter.unusedVariables false
set_option linter.unusedSimpArgs false
set_option maxRecDepth 100000
theorem toB_nil : toB [] = ⟨#[]⟩ := rfl
theorem badW_one (x : ByteArray) : (badW [x] = 0) ↔ symOK x = true := by
  unfold badW
  by_cases h : 16 < x.size
  · have h2 : symOK x = false := by
      unfold symOK
      have : decide (x.size ≤ 16) = false := by simp; omega
      rw [this]; simp
    simp [h, h2]
  · rw [bytes_sym h]
    have h2 : decide (16 < x.size) = false := decide_eq_false h
    simp only [List.any_cons, List.any_nil, List.length_singleton, h2, Bool.or_false, show decide (60 < 1) = false from rfl, Bool.false_eq_true, if_false]
    cases (bytesOK x && !(x == ⟨#[]⟩)) <;> simp
theorem told_nilW {σ τ : Heap} : Told σ τ (.sl .nil 0 []) (encSS []) := .sl .nil .no 0 [] [] (.inl rfl) rfl (fun i h => by cases h)
theorem bytesOK_toB (l : List UInt8) : bytesOK (toB l) = l.all fun c => !badI c.toNat := by
  unfold bytesOK
  rw [toB_size]
  apply Bool.eq_iff_iff.2
  simp only [List.all_eq_true, List.mem_range]
  constructor
  · intro h c hc
    obtain ⟨i, hi, rfl⟩ := List.getElem_of_mem hc
    have := h i hi
    rw [toB_at (List.drop_eq_getElem_cons hi)] at this
    exact this
  · intro h i hi
    rw [toB_at (List.drop_eq_getElem_cons hi)]
    exact h _ (List.getElem_mem hi)
theorem symOK_one (c : UInt8) : symOK (toB [c]) = !badI c.toNat := by
  unfold symOK
  rw [bytesOK_toB, toB_size]
  simp
theorem kR_ex {r : Option (D × Eff)} {σ : Heap} {K : D → Heap → Prop} {hK : Keep K} (h : kR r σ K hK) : ∃ d e, r = some (d, e) ∧ K d (σ.app e) := by
  match r, h with
  | some (d, e), h => exact ⟨d, e, rfl, h⟩
theorem hf_build : ∀ a b c, hfKind (.buildSlice a b c) = false := fun _ _ _ => (rfl)
theorem actOp_append {Z : Sys} {σ σ1 : Heap} {K : Env → Prop} {env : Env} {dst ann : Nat} {x y : Operand} {ats : Array TypeId} : actOp Z σ σ1 ⟨some dst, .call ⟨.builtin .append, #[x, y], ats⟩, none, ann⟩ K env = kAct (appendR Z 0 σ.get σ.next ats (ev env x) (ev env y)) σ σ1 (fun d => K (upd env dst d)) ⟨⟩ := by rw [actOp_k]; rfl
theorem read_c (l : List UInt8) (hs : l.length ≤ 100000) : Fn Zs 76 [.str (toB l)] (.tup [encSS (rdW (toB l)).1, .bool (rdW (toB l)).2]) := by
  refine fn_of (Z := Zs) ok76 fun σ hcl hbl => ?_
  simp -dsimp only [L76, ↓preB, postB, genB, ↓reduceIte, Nat.reduceEqDiff, Int.reduceToNat, Int.reduceLE, Int.reduceLT, Nat.reduceAdd, Nat.reduceLeDiff, intBin, strBin, unD, extractD, lit1, lit2, lit3, keptD, boxR, D.one, D.pub1, D.cells, splice, cutOwn]
  have bad : ∀ (o : Bool) (s : Heap), HLe σ s → Ret σ (fun d τ => d = .tup [encSS [], .bool o] ∧ τ = σ) (.tup [.sl .nil 0 [], .bool o]) s := fun o s hle =>
    Ret.less hle hcl (.tup2 told_nilW (.refl _)) (.tup2 (.no (by simp)) (.bool _))
  have b0 : (toB l == (⟨#[91, 93]⟩ : ByteArray)) = (toB l == brk) := rfl
  cases c1 : (toB l == brk)
  case true =>
    simp -dsimp only [b0, c1, ↓preB, postB, genB, ↓reduceIte, Nat.reduceEqDiff, Int.reduceToNat, Int.reduceLE, Int.reduceLT, Nat.reduceAdd, Nat.reduceLeDiff, intBin, strBin, unD, extractD, lit1, lit2, lit3, keptD, boxR, D.one, D.pub1, D.cells, splice, cutOwn]
    have e : rdW (toB l) = ([], true) := by unfold rdW; rw [c1]; rfl
    rw [e]
    exact bad _ _ (HLe.refl _)
  cases c2 : (toB l == (⟨#[]⟩ : ByteArray))
  case true =>
    simp -dsimp only [b0, c1, c2, ↓preB, postB, genB, ↓reduceIte, Nat.reduceEqDiff, Int.reduceToNat, Int.reduceLE, Int.reduceLT, Nat.reduceAdd, Nat.reduceLeDiff, intBin, strBin, unD, extractD, lit1, lit2, lit3, keptD, boxR, D.one, D.pub1, D.cells, splice, cutOwn]
    have e : rdW (toB l) = ([], false) := by unfold rdW; rw [c1, c2]; rfl
    rw [e]
    exact bad _ _ (HLe.refl _)
  simp -dsimp only [b0, c1, c2, ↓preB, postB, genB, ↓reduceIte, Nat.reduceEqDiff, Int.reduceToNat, Int.reduceLE, Int.reduceLT, Nat.reduceAdd, Nat.reduceLeDiff, intBin, strBin, unD, extractD, lit1, lit2, lit3, keptD, boxR, D.one, D.pub1, D.cells, splice, cutOwn]
  have hrd : rdW (toB l) = match rdF l with | some w => (w, true) | none => ([], false) := by
    unfold rdW
    rw [c1, c2, toB_list]
    rfl
  refine pwp_loopG (fun (x : List UInt8 × Wd) env s => (x.1.length ≤ l.length ∧ x.2.length + x.1.length ≤ l.length ∧ (rdF x.1).map (x.2 ++ ·) = rdF l) ∧ Acc 9 1 σ x.2.length (x.2.map .str) (env 4) s ∧ env 0 = .str (toB x.1)) (fun x => x.1.length) (l, []) ?_ ?_
  · simp only [upd_apply, envOf_apply, Nat.reduceEqDiff, if_true, if_false]
    exact ⟨⟨Nat.le_refl _, by simp, by simp⟩, Acc.nil (HLe.refl _), rfl⟩
  · rintro ⟨r, out⟩ env s ⟨⟨hlr, hlo, hI⟩, hA, h0⟩
    simp only at hI hA h0 hlr hlo
    match r, hlr, hlo, hI, h0 with
    | [], hlr, hlo, hI, h0 =>
      have c3 : (toB [] == (⟨#[]⟩ : ByteArray)) = true := rfl
      simp -dsimp only [h0, c3, ↓preB, postB, genB, ↓reduceIte, Nat.reduceEqDiff, Int.reduceToNat, Int.reduceLE, Int.reduceLT, Nat.reduceAdd, Nat.reduceLeDiff, intBin, strBin, unD, extractD, lit1, lit2, lit3, keptD, boxR, D.one, D.pub1, D.cells, splice, cutOwn]
      rw [rdF, Option.map_some, List.append_nil] at hI
      rw [hrd, ← hI]
      exact Ret.less hA.le hcl (.tup2 hA.told (.refl _)) (.tup2 (.no (bel_strs _)) (.bool _))
    | c :: r, hlr, hlo, hI, h0 =>
      have c3 : (toB (c :: r) == (⟨#[]⟩ : ByteArray)) = false := by rw [← toB_nil, toB_beq]; simp
      have hsz := toB_size (c :: r)
      have hby : byteAt (toB (c :: r)) 0 = (c.toNat : Int) := toB_at (k := 0) rfl
      have h1 : (1 : Int) ≤ ((c :: r).length : Int) := by simp only [List.length_cons]; omega
      have h2 : (0 : Int) < ((c :: r).length : Int) := by simp only [List.length_cons]; omega
      simp -dsimp only [h0, c3, hsz, ↓preB, postB, genB, ↓reduceIte, Nat.reduceEqDiff, Int.reduceToNat, Int.reduceLE, Int.reduceLT, Nat.reduceAdd, Nat.reduceLeDiff, intBin, strBin, unD, extractD, lit1, lit2, lit3, keptD, boxR, D.one, D.pub1, D.cells, splice, cutOwn]
      refine draw_s ?_
      simp -dsimp only [h0, c3, hsz, hby, h1, h2, ↓preB, postB, genB, ↓reduceIte, Nat.reduceEqDiff, Int.reduceToNat, Int.reduceLE, Int.reduceLT, Nat.reduceAdd, Nat.reduceLeDiff, intBin, strBin, unD, extractD, lit1, lit2, lit3, keptD, boxR, D.one, D.pub1, D.cells, splice, cutOwn]
      by_cases hc : c = 60
      · have hcb : ((c.toNat : Int) == 60) = true := by rw [hc]; rfl
        simp -dsimp only [h0, c3, hsz, hby, h1, h2, hcb, ↓preB, postB, genB, ↓reduceIte, Nat.reduceEqDiff, Int.reduceToNat, Int.reduceLE, Int.reduceLT, Nat.reduceAdd, Nat.reduceLeDiff, intBin, strBin, unD, extractD, lit1, lit2, lit3, keptD, boxR, D.one, D.pub1, D.cells, splice, cutOwn]
        refine ⟨⟨by omega, h1⟩, h2, ?_⟩
        have hix := IndexByte_c (toB (c :: r)) 62
        rw [show ((62 : UInt8).toNat : Int) = 62 from rfl, toB_list] at hix
        refine Fn.use hix ?_
        have hne : c ≠ 62 := by rw [hc]; decide
        by_cases h62 : 62 ∈ r
        · rw [index_in 62 (List.mem_cons_of_mem _ h62), headL_ne hne]
          have hl62 : (headL 62 r).length + 1 ≤ r.length := by
            have := congrArg List.length (headL_in 62 h62)
            rw [List.length_append, List.length_cons] at this
            omega
          have hw1 : IntKind.i64.wrap ((((headL 62 r).length + 1 : Nat) : Int) + 1) = (((headL 62 r).length + 2 : Nat) : Int) := by
            simp only [List.length_cons] at hlr
            rw [wrap64_in (by omega) (by omega)]; omega
          have hw2 : IntKind.i64.wrap ((((headL 62 r).length + 2 : Nat) : Int) - 1) = (((headL 62 r).length + 1 : Nat) : Int) := by
            simp only [List.length_cons] at hlr
            rw [wrap64_in (by omega) (by omega)]; omega
          simp -dsimp only [h0, c3, hsz, hby, h1, h2, hcb, hw1, hw2, ↓preB, postB, genB, ↓reduceIte, Nat.reduceEqDiff, Int.reduceToNat, Int.reduceLE, Int.reduceLT, Nat.reduceAdd, Nat.reduceLeDiff, intBin, strBin, unD, extractD, lit1, lit2, lit3, keptD, boxR, D.one, D.pub1, D.cells, splice, cutOwn]
          by_cases h4 : (headL 62 r).length < 2
          · have hn : (((headL 62 r).length + 2 : Nat) : Int) < 4 := by omega
            rw [if_pos hn, hrd, ← hI, rdF, if_pos hc, if_neg (by omega)]
            exact bad _ _ hA.le
          · have hn : ¬ (((headL 62 r).length + 2 : Nat) : Int) < 4 := by omega
            rw [if_neg hn]
            refine ⟨⟨by omega, by omega⟩, ?_⟩
            simp only [Int.toNat_natCast]
            have hx : (toB (c :: r)).extract 1 ((headL 62 r).length + 1) = toB (headL 62 r) := by
              rw [toB_extract, List.take_succ_cons, List.drop_succ_cons, List.drop_zero]
              have h2 := congrArg (List.take (headL 62 r).length) (headL_in 62 h62)
              rw [List.take_left] at h2
              rw [h2]
            rw [hx]
            refine Fn.useP (symsValidateWord_c [toB (headL 62 r)]) rfl ?_
            have hdr : (c :: r).drop ((headL 62 r).length + 2) = tailL 62 r := by
              rw [List.drop_succ_cons]
              have h2 := congrArg (List.drop ((headL 62 r).length + 1)) (headL_in 62 h62)
              rw [drop_over] at h2
              exact h2
            generalize hX : toB (headL 62 r) = X at *
            cases hok : symOK X
            · have hb0 : (badW [X] != 0) = true := by
                have : badW [X] ≠ 0 := fun e => by have := (badW_one _).1 e; rw [hok] at this; cases this
                simpa using this
              simp -dsimp only [h0, c3, hsz, hby, h1, h2, hcb, hb0, ↓preB, postB, genB, ↓reduceIte, Nat.reduceEqDiff, Int.reduceToNat, Int.reduceLE, Int.reduceLT, Nat.reduceAdd, Nat.reduceLeDiff, intBin, strBin, unD, extractD, lit1, lit2, lit3, keptD, boxR, D.one, D.pub1, D.cells, splice, cutOwn]
              rw [hrd, ← hI, rdF, if_pos hc, hX, if_neg (by simp [hok])]
              exact bad _ _ hA.le
            · have hb0 : badW [X] = 0 := (badW_one _).2 hok
              simp -dsimp only [h0, c3, hsz, hby, h1, h2, hcb, hb0, bne_self_eq_false, ↓preB, postB, genB, ↓reduceIte, Nat.reduceEqDiff, Int.reduceToNat, Int.reduceLE, Int.reduceLT, Nat.reduceAdd, Nat.reduceLeDiff, intBin, strBin, unD, extractD, lit1, lit2, lit3, keptD, boxR, D.one, D.pub1, D.cells, splice, cutOwn]
              have hds : (toB (c :: r)).extract ((headL 62 r).length + 2) (r.length + 1) = toB (tailL 62 r) := by
                rw [toB_extract, show r.length + 1 = (c :: r).length from rfl, List.take_length, hdr]
              have ht := tailL_len 62 r
              have hI2 : (rdF (tailL 62 r)).map ((out ++ [X]) ++ ·) = rdF l := by
                rw [← hI, rdF, if_pos hc, hX, if_pos ⟨h62, by omega, hok⟩, Option.map_map]
                congr 1
                funext w
                simp
              simp only [List.length_cons] at hlo hlr
              obtain ⟨d', e, hap, hA'⟩ := kR_ex (hA.append (K := fun d' s' => Acc 9 1 σ (out.length + 1) (out.map .str ++ [.str X]) d' s') (hK := ⟨⟩) (y := .sl .full 1 [.str X]) (t2 := 23) hcl tz23 rfl tz9 rfl rfl rfl (by decide) (by simp) (fedBy_sl (m := 1) tz23 rfl (by simp)) (by simp only []; omega) (by simp only [big]; omega) fun d' s' h => h)
              refine draw_a 8 3 (s.app e) (by decide) (by decide) (by decide) ?_
              simp -dsimp only [h0, c3, hsz, hby, h1, h2, hcb, actOp_append, hf_build, hap, actOps_nil, actOps_act, actOps_hf, actOps_two, actOp_alloc, actOp_mapEntry, actOp_makeMap, actOp_box, kAct_some, hfB, ne_eq, eq_self, ↓preB, postB, genB, ↓reduceIte, Nat.reduceEqDiff, Int.reduceToNat, Int.reduceLE, Int.reduceLT, Nat.reduceAdd, Nat.reduceLeDiff, intBin, strBin, unD, extractD, lit1, lit2, lit3, keptD, boxR, D.one, D.pub1, D.cells, splice, cutOwn]
              refine ⟨⟨by omega, by omega⟩, ⟨by omega, by omega⟩, (tailL 62 r, out ++ [X]), ⟨⟨by simp only []; omega, by simp only [List.length_append, List.length_singleton]; omega, hI2⟩, ?_, hds⟩, by simp only []; omega⟩
              simpa using hA'
        · rw [index_out 62 (fun hm => h62 ((List.mem_cons.1 hm).resolve_left fun e => hne e.symm))]
          have hw1 : IntKind.i64.wrap (-1 + 1) = 0 := rfl
          simp -dsimp only [h0, c3, hsz, hby, h1, h2, hcb, hw1, show (0 : Int) < 4 by decide, if_true, ↓preB, postB, genB, ↓reduceIte, Nat.reduceEqDiff, Int.reduceToNat, Int.reduceLE, Int.reduceLT, Nat.reduceAdd, Nat.reduceLeDiff, intBin, strBin, unD, extractD, lit1, lit2, lit3, keptD, boxR, D.one, D.pub1, D.cells, splice, cutOwn]
          rw [hrd, ← hI, rdF, if_pos hc, if_neg (fun h => h62 h.1)]
          exact bad _ _ hA.le
      · have hcb : ((c.toNat : Int) == 60) = false := by
          simp only [beq_eq_false_iff_ne, ne_eq]
          exact fun e => hc (UInt8.toNat_inj.1 (by have : (60 : UInt8).toNat = 60 := rfl; omega))
        simp -dsimp only [h0, c3, hsz, hby, h1, h2, hcb, ↓preB, postB, genB, ↓reduceIte, Nat.reduceEqDiff, Int.reduceToNat, Int.reduceLE, Int.reduceLT, Nat.reduceAdd, Nat.reduceLeDiff, intBin, strBin, unD, extractD, lit1, lit2, lit3, keptD, boxR, D.one, D.pub1, D.cells, splice, cutOwn]
        refine ⟨⟨by omega, h1⟩, h2, ?_⟩
        have hx : (toB (c :: r)).extract 0 1 = toB [c] := by rw [toB_extract]; rfl
        rw [hx]
        refine Fn.useP (symsValidateWord_c [toB [c]]) rfl ?_
        cases hok : badI c.toNat
        · have hb0 : badW [toB [c]] = 0 := (badW_one _).2 (by rw [symOK_one, hok]; rfl)
          simp -dsimp only [h0, c3, hsz, hby, h1, h2, hcb, hb0, bne_self_eq_false, ↓preB, postB, genB, ↓reduceIte, Nat.reduceEqDiff, Int.reduceToNat, Int.reduceLE, Int.reduceLT, Nat.reduceAdd, Nat.reduceLeDiff, intBin, strBin, unD, extractD, lit1, lit2, lit3, keptD, boxR, D.one, D.pub1, D.cells, splice, cutOwn]
          obtain ⟨d', e, hap, hA'⟩ := kR_ex (hA.append (K := fun d' s' => Acc 9 1 σ (out.length + 1) (out.map .str ++ [.str (toB [c])]) d' s') (hK := ⟨⟩) (y := .sl .full 1 [.str (toB [c])]) (t2 := 23) hcl tz23 rfl tz9 rfl rfl rfl (by decide) (by simp) (fedBy_sl (m := 1) tz23 rfl (by simp)) (by simp only [List.length_cons] at hlo ⊢; omega) (by simp only [big]; simp only [List.length_cons] at hlo; omega) fun d' s' h => h)
          refine draw_a 8 3 (s.app e) (by decide) (by decide) (by decide) ?_
          simp -dsimp only [h0, c3, hsz, hby, h1, h2, hcb, actOp_append, hf_build, hap, actOps_nil, actOps_act, actOps_hf, actOps_two, actOp_alloc, actOp_mapEntry, actOp_makeMap, actOp_box, kAct_some, hfB, ne_eq, eq_self, ↓preB, postB, genB, ↓reduceIte, Nat.reduceEqDiff, Int.reduceToNat, Int.reduceLE, Int.reduceLT, Nat.reduceAdd, Nat.reduceLeDiff, intBin, strBin, unD, extractD, lit1, lit2, lit3, keptD, boxR, D.one, D.pub1, D.cells, splice, cutOwn]
          have hds : (toB (c :: r)).extract 1 (r.length + 1) = toB r := by
            rw [toB_extract, show r.length + 1 = (c :: r).length from rfl, List.take_length]; rfl
          have hI2 : (rdF r).map ((out ++ [toB [c]]) ++ ·) = rdF l := by
            rw [← hI, rdF, if_neg hc, if_neg (by rw [hok]; decide), Option.map_map]
            congr 1
            funext w
            simp
          simp only [List.length_cons] at hlo hlr
          refine ⟨⟨by omega, by omega⟩, ⟨by omega, by omega⟩, (r, out ++ [toB [c]]), ⟨⟨by simp only []; omega, by simp only [List.length_append, List.length_singleton]; omega, hI2⟩, ?_, hds⟩, by simp only []; omega⟩
          simpa using hA'
        · have hb0 : (badW [toB [c]] != 0) = true := by
            have : badW [toB [c]] ≠ 0 := fun e => by have := (badW_one _).1 e; rw [symOK_one, hok] at this; cases this
            simpa using this
          simp -dsimp only [h0, c3, hsz, hby, h1, h2, hcb, hb0, ↓preB, postB, genB, ↓reduceIte, Nat.reduceEqDiff, Int.reduceToNat, Int.reduceLE, Int.reduceLT, Nat.reduceAdd, Nat.reduceLeDiff, intBin, strBin, unD, extractD, lit1, lit2, lit3, keptD, boxR, D.one, D.pub1, D.cells, splice, cutOwn]
          rw [hrd, ← hI, rdF, if_neg hc, if_pos hok]
          exact bad _ _ hA.le
end Go.Proofs.YtldlcejlfaogbaaGreatDoor.Vs
