/- numbers of YtldlcejlfaogbaaDoor -/
/- Whether a table is reversible, by the program. -/
import Derived.Test.YtldlcejlfaogbaaDoorRetF2
import Derived.Test.YtldlcejlfaogbaaDoorFnS
namespace Go.Proofs.YtldlcejlfaogbaaDoor.Vs
open Go.RowKit
set_option linter.unusedVariables false
set_option linter.unusedSimpArgs false
set_option maxRecDepth 20000

def RvSpec (t : List Sh) (is : Bool) (e : Int) : Prop :=
  (badT t ≠ 0 ∧ is = false ∧ e = badT t) ∨ (badT t = 0 ∧ askE t ≠ 0 ∧ is = false ∧ e = askE t) ∨ (badT t = 0 ∧ askE t = 0 ∧ e = 0 ∧ ∃ res, SpecC (t.map (·.To)) res ∧ is = res.isNone)
theorem ares_tct {Z : Sys} {t a b c r off : Nat} {e : TypeId} {cs : List D} {d : D} {env : Env} {g : Nat → Option AO} {i : TInfo} (hT : Z.T t = some i) (ha : env a = .ptr r off) (hg : g r = some (.cells e cs)) (hp : pack i (cs.drop off) = some d) : ares Z [.tmp b, .cell a t, .tmp c] env g = some (.tup [env b, d, env c]) := by
  simp only [ares, rvs, rv, hT, ha, hg, hp]
theorem pack41 (x y : D) (hx : x.one = true) (hy : y.one = true) : ∀ i, Zs.T 41 = some i → pack i ([x, y].drop 0) = some (.agg [x, y]) := fun i hi => by
  rw [tz41] at hi; cases hi
  simp [pack, hx, hy, TInfo.isAgg]
theorem ab41 : aBuilt Zs 41 [] = some [.sl .nil 0 [], .sl .nil 0 []] := by rfl
theorem Reversible_p (t : List Sh) {σ : Heap} : PCall Zs 19 [encT t] σ (fun d τ => τ = σ ∧ ∃ is e, d = .tup [.bool is, .agg [.junk, .junk], .int .i64 e] ∧ RvSpec t is e) := by
  refine pcall_of (Z := Zs) ok19 fun hcl hbl => ?_
  simp -dsimp only [L19, ↓preB, postB, genB, ↓reduceIte, Nat.reduceEqDiff, Int.reduceToNat, Int.reduceLE, Int.reduceLT, Nat.reduceAdd, Nat.reduceLeDiff, intBin, strBin, unD, extractD, lit1, lit2, lit3, keptD, boxR, D.one, D.pub1, D.cells, splice, cutOwn]
  have fin : ∀ (is : Bool) (e : Int) (x1 x2 : D) (s : Heap), HLe σ s → RvSpec t is e → Ret σ (fun d τ => τ = σ ∧ ∃ is e, d = .tup [.bool is, .agg [.junk, .junk], .int .i64 e] ∧ RvSpec t is e) (.tup [.bool is, .agg [x1, x2], .int .i64 e]) s := fun is e x1 x2 s hle h =>
    Ret.told σ (.tup [.bool is, .agg [.junk, .junk], .int .i64 e]) (Nat.le_refl _) hle hcl (.tup3 (.refl _) (.agg _ _ rfl fun i h1 h2 => match i, h1, h2 with | 0, _, _ => .junk _ | 1, _, _ => .junk _) (.refl _)) (.tup3 (.bool _) (.agg _ fun d hd => by simp at hd; subst hd; exact .junk) (.int _ _)) ⟨rfl, is, e, rfl, h⟩
  have hle1 := HLe.self_new (.cells 41 [D.sl Own.nil 0 [], D.sl Own.nil 0 []]) hcl
  have hc1 : Closed (σ.new (.cells 41 [D.sl Own.nil 0 [], D.sl Own.nil 0 []])) := hcl.new fun d hd => by
    simp only [List.mem_cons, List.not_mem_nil, or_false, or_self] at hd
    subst hd
    exact .sl _ _ _ (fun r z h => by cases h) (by simp)
  have hg1 : (σ.new (.cells 41 [D.sl Own.nil 0 [], D.sl Own.nil 0 []])).get σ.next = some (.cells 41 [D.sl Own.nil 0 [], D.sl Own.nil 0 []]) := Heap.new_same _ _
  refine Fn.use (validate_c t) ?_
  cases ca : (badT t != 0)
  case true =>
    have c' : badT t ≠ 0 := by simpa using ca
    simp -dsimp only [ca, hg1, ab41, ↓preB, postB, genB, ↓reduceIte, Nat.reduceEqDiff, Int.reduceToNat, Int.reduceLE, Int.reduceLT, Nat.reduceAdd, Nat.reduceLeDiff, intBin, strBin, unD, extractD, lit1, lit2, lit3, keptD, boxR, D.one, D.pub1, D.cells, splice, cutOwn]
    refine ⟨_, ares_tct (r := σ.next) tz41 (by simp [upd_apply]) (Heap.new_same _ _) (pack41 _ _ rfl rfl _ tz41), ?_⟩
    simp only [upd_apply, Nat.reduceEqDiff, if_true, if_false]
    exact fin _ _ _ _ _ hle1 (.inl ⟨c', rfl, rfl⟩)
  have ht : badT t = 0 := by simpa using ca
  simp -dsimp only [ca, hg1, ↓preB, postB, genB, ↓reduceIte, Nat.reduceEqDiff, Int.reduceToNat, Int.reduceLE, Int.reduceLT, Nat.reduceAdd, Nat.reduceLeDiff, intBin, strBin, unD, extractD, lit1, lit2, lit3, keptD, boxR, D.one, D.pub1, D.cells, splice, cutOwn]
  refine Fn.use (asked_c t) ?_
  cases cb : (askE t != 0)
  case true =>
    have c' : askE t ≠ 0 := by simpa using cb
    simp -dsimp only [cb, hg1, ab41, ↓preB, postB, genB, ↓reduceIte, Nat.reduceEqDiff, Int.reduceToNat, Int.reduceLE, Int.reduceLT, Nat.reduceAdd, Nat.reduceLeDiff, intBin, strBin, unD, extractD, lit1, lit2, lit3, keptD, boxR, D.one, D.pub1, D.cells, splice, cutOwn]
    refine ⟨_, ares_tct (r := σ.next) tz41 (by simp [upd_apply]) (Heap.new_same _ _) (pack41 _ _ rfl rfl _ tz41), ?_⟩
    simp only [upd_apply, Nat.reduceEqDiff, if_true, if_false]
    exact fin _ _ _ _ _ hle1 (.inr (.inl ⟨ht, c', rfl, rfl⟩))
  have hk : askE t = 0 := by simpa using cb
  obtain ⟨a1, a2⟩ := table_ok ht
  obtain ⟨a3, a4, _⟩ := badT_zero ht
  have a5 := firstE_zero a4
  simp -dsimp only [cb, hg1, encT, ↓preB, postB, genB, ↓reduceIte, Nat.reduceEqDiff, Int.reduceToNat, Int.reduceLE, Int.reduceLT, Nat.reduceAdd, Nat.reduceLeDiff, intBin, strBin, unD, extractD, lit1, lit2, lit3, keptD, boxR, D.one, D.pub1, D.cells, splice, cutOwn]
  intro hbig
  refine pwp_loopG (fun k env τ => k ≤ t.length ∧ Two (σ.new (.cells 41 [D.sl Own.nil 0 [], D.sl Own.nil 0 []])) 29 1 k (((t.take k).map (·.To)).map encSS) (env 7) 3 1 0 [] (.sl .nil 0 []) τ ∧ env 29 = .int .i64 (k:Nat) ∧ env 28 = .int .i64 t.length ∧ env 27 = encT t ∧ env 0 = encT t ∧ env 3 = .ptr σ.next 0) (fun k => t.length - k) 0 ?_ ?_
  · simp only [upd_apply, envOf_apply, encT, Nat.reduceEqDiff, if_true, if_false]
    exact ⟨Nat.zero_le _, Two.start hc1, by simp⟩
  · rintro k env τ ⟨hkk, hR, h29, h28, h27, h0, h3⟩
    rcases Nat.lt_or_ge k t.length with hlt | hge
    · have hd := rowsD_at hlt
      have hpos : 0 < (rowsD t).length := by rw [rowsD_len]; omega
      have htt := tos_take (a := t) hlt
      simp -dsimp only [h29, h28, h27, h0, h3, encT, encSS, hlt, hd, hpos, ↓preB, postB, genB, ↓reduceIte, Nat.reduceEqDiff, Int.reduceToNat, Int.reduceLE, Int.reduceLT, Nat.reduceAdd, Nat.reduceLeDiff, intBin, strBin, unD, extractD, lit1, lit2, lit3, keptD, boxR, D.one, D.pub1, D.cells, splice, cutOwn]
      have hT2 := hR.new hc1 (.cells 46 [encSS t[k].From, encSS t[k].To])
      refine hT2.append hc1 tz49 rfl tz29 rfl rfl rfl (by decide) (by simp; omega) (fedBy_sl (m := 1) tz49 rfl rfl) (by decide) (by simp only []; omega) (by simp only [big]; omega) fun d4 τ4 hT4 _ => ?_
      simp -dsimp only [h29, h28, h27, h0, h3, encT, encSS, hlt, hd, hpos, ↓preB, postB, genB, ↓reduceIte, Nat.reduceEqDiff, Int.reduceToNat, Int.reduceLE, Int.reduceLT, Nat.reduceAdd, Nat.reduceLeDiff, intBin, strBin, unD, extractD, lit1, lit2, lit3, keptD, boxR, D.one, D.pub1, D.cells, splice, cutOwn]
      refine ⟨k + 1, ⟨by omega, ?_, wrap64_succ (by omega)⟩, by omega⟩
      rw [htt, List.map_append]
      exact hT4
    · have hkl : k = t.length := by omega
      subst hkl
      rw [List.take_length] at hR
      have hgo : ∀ r ∈ t.map (·.To), goodW r := fun w hw => by
        obtain ⟨r, hr, rfl⟩ := List.mem_map.1 hw
        exact badW_good (a5 r hr).2
      have h8 : ∀ w ∈ t.map (·.To), w.length ≤ 8 := fun w hw => by
        obtain ⟨r, hr, rfl⟩ := List.mem_map.1 hw
        unfold askE at hk
        split at hk
        · split at hk
          · cases hk
          · rename_i hn
            simp only [Bool.not_eq_true] at hn
            have := List.any_eq_false.1 hn r hr
            simp only [decide_eq_true_eq] at this
            omega
        · cases hk
      simp -dsimp only [h29, h28, h27, h0, h3, encT, Nat.lt_irrefl, ↓preB, postB, genB, ↓reduceIte, Nat.reduceEqDiff, Int.reduceToNat, Int.reduceLE, Int.reduceLT, Nat.reduceAdd, Nat.reduceLeDiff, intBin, strBin, unD, extractD, lit1, lit2, lit3, keptD, boxR, D.one, D.pub1, D.cells, splice, cutOwn]
      refine PCall.useP (clash_c (t.map (·.To)) (by simpa using a3) hgo h8 τ) (by
        show [(env 7).pub1] = _
        rw [hR.one.pub1]
        simp [encLL]) ?_
      rintro d τ' ⟨rfl, res, rfl, hS⟩
      cases res with
      | none =>
        have hgq := hR.le.get _ _ hg1
        simp -dsimp only [h29, h28, h27, h0, h3, hgq, ab41, encTwo, nilOf, encT, ↓preB, postB, genB, ↓reduceIte, Nat.reduceEqDiff, Int.reduceToNat, Int.reduceLE, Int.reduceLT, Nat.reduceAdd, Nat.reduceLeDiff, intBin, strBin, unD, extractD, lit1, lit2, lit3, keptD, boxR, D.one, D.pub1, D.cells, splice, cutOwn]
        refine ⟨_, ares_tct (r := σ.next) tz41 (by simp [upd_apply, h3]) (Heap.set_same _ _ _) (pack41 _ _ rfl rfl _ tz41), ?_⟩
        simp only [upd_apply, Nat.reduceEqDiff, if_true, if_false]
        exact fin _ _ _ _ _ ((hle1.trans hR.le).set_out _ hcl (Nat.le_refl _)) (.inr (.inr ⟨ht, hk, rfl, none, hS, rfl⟩))
      | some p =>
        obtain ⟨x, y⟩ := p
        simp -dsimp only [h29, h28, h27, h0, h3, encTwo, nilOf, show (0 : Nat) < 2 from by decide, if_true, encT, ↓preB, postB, genB, ↓reduceIte, Nat.reduceEqDiff, Int.reduceToNat, Int.reduceLE, Int.reduceLT, Nat.reduceAdd, Nat.reduceLeDiff, intBin, strBin, unD, extractD, lit1, lit2, lit3, keptD, boxR, D.one, D.pub1, D.cells, splice, cutOwn]
        have hSa : x.length ≤ 10000 ∧ y.length ≤ 10000 ∧ okNs (t.map (·.To)) x ∧ okNs (t.map (·.To)) y := by
          unfold SpecC at hS
          split at hS
          · rename_i k hf
            cases hS
            have hkl : k < (t.map (·.To)).length := by
              have := List.findIdx?_eq_some_iff_getElem.1 hf
              exact this.1
            exact ⟨by simp, by simp, fun n hn => (by cases hn), fun n hn => by
              simp only [List.mem_cons, List.not_mem_nil, or_false] at hn
              subst hn
              omega⟩
          · exact ⟨hS.2.2.2.2.2.2.1, hS.2.2.2.2.2.2.2, hS.2.1, hS.2.2.1⟩
        have hle2 : HLe (σ.new (.cells 41 [D.sl Own.nil 0 [], D.sl Own.nil 0 []])) τ' := hR.le
        have hq2 : (τ'.new (.cells 41 [D.sl Own.nil 0 [], D.sl Own.nil 0 []])).get τ'.next = some (.cells 41 [D.sl Own.nil 0 [], D.sl Own.nil 0 []]) := Heap.new_same _ _
        have hTw0 : Two (σ.new (.cells 41 [D.sl Own.nil 0 [], D.sl Own.nil 0 []])) 9 1 0 [] (.sl .nil 0 []) 9 1 0 [] (.sl .nil 0 []) (τ'.new (.cells 41 [D.sl Own.nil 0 [], D.sl Own.nil 0 []])) :=
          ⟨hle2.new' _ hc1, new_lt hR.lt _, .inl ⟨rfl, rfl, rfl⟩, .inl ⟨rfl, rfl, rfl⟩, fun r r' h => by cases h⟩
        have hqn : (σ.new (.cells 41 [D.sl Own.nil 0 [], D.sl Own.nil 0 []])).next ≤ τ'.next := hle2.next
        generalize τ'.new (.cells 41 [D.sl Own.nil 0 [], D.sl Own.nil 0 []]) = s0 at hq2 hTw0 ⊢
        refine pwp_loopG (fun (i : Nat) env s => (i ≤ 2 ∧ ∃ n0 cs0 c0 n1 cs1 c1, Two (σ.new (.cells 41 [D.sl Own.nil 0 [], D.sl Own.nil 0 []])) 9 1 n0 cs0 c0 9 1 n1 cs1 c1 s ∧ s.get τ'.next = some (.cells 41 [c0, c1]) ∧ cs0.length = n0 ∧ cs1.length = n1 ∧ (i = 0 → n0 = 0) ∧ (i ≤ 1 → n1 = 0)) ∧ env 44 = .int .i64 (i:Nat) ∧ env 11 = .ptr τ'.next 0 ∧ env 10 = .sl .no 2 [encI x, encI y] ∧ env 3 = .ptr σ.next 0 ∧ env 0 = encT t) (fun i => 2 - i) 0 ?_ ?_
        · simp only [upd_apply, h0, h3, encT, Nat.reduceEqDiff, if_true, if_false]
          exact ⟨⟨by omega, 0, [], _, 0, [], _, hTw0, hq2, rfl, rfl, fun _ => rfl, fun _ => rfl⟩, by simp [encT]⟩
        · rintro i env s ⟨⟨hi, n0, cs0, c0, n1, cs1, c1, hTw, hq, hl0, hl1, hz0, hz1⟩, h44, h11, h10, h3, h0⟩
          by_cases i0 : i = 0
          · subst i0
            have hlt : ((0 : Nat) : Int) < 2 := by decide
            simp -dsimp only [h44, h11, h10, h3, h0, hlt, if_true, encI, List.getElem?_cons_zero, ↓preB, postB, genB, ↓reduceIte, Nat.reduceEqDiff, Int.reduceToNat, Int.reduceLE, Int.reduceLT, Nat.reduceAdd, Nat.reduceLeDiff, intBin, strBin, unD, extractD, lit1, lit2, lit3, keptD, boxR, D.one, D.pub1, D.cells, splice, cutOwn]
            refine ⟨⟨by decide, by decide⟩, fun hxb => ?_⟩
            have hn1 := hz1 (by omega)
            refine pwp_loopG (fun (j : Nat) env s => (j ≤ x.length ∧ ∃ n0 cs0 c0 n1 cs1 c1, Two (σ.new (.cells 41 [D.sl Own.nil 0 [], D.sl Own.nil 0 []])) 9 1 n0 cs0 c0 9 1 n1 cs1 c1 s ∧ s.get τ'.next = some (.cells 41 [c0, c1]) ∧ cs0.length = n0 ∧ cs1.length = n1 ∧ n0 ≤ 60 * j ∧ n1 = 0) ∧ env 52 = .int .i64 (j:Nat) ∧ env 51 = .int .i64 x.length ∧ env 50 = encI x ∧ env 44 = .int .i64 0 ∧ env 12 = .int .i64 0 ∧ env 11 = .ptr τ'.next 0 ∧ env 10 = .sl .no 2 [encI x, encI y] ∧ env 3 = .ptr σ.next 0 ∧ env 0 = encT t) (fun j => x.length - j) 0 ?_ ?_
            · simp only [upd_apply, h44, h11, h10, h3, h0, encI, Nat.reduceEqDiff, if_true, if_false]
              exact ⟨⟨Nat.zero_le _, n0, cs0, c0, n1, cs1, c1, hTw, hq, hl0, hl1, by rw [hz0 rfl]; omega, hn1⟩, by simp [encI]⟩
            · clear hTw hq hl0 hl1 hz0 hz1 hn1 h44 h11 h10 h3 h0
              rintro j env s ⟨⟨hj, n0, cs0, c0, n1, cs1, c1, hTw, hq, hl0, hl1, hn0, hn1⟩, h52, h51, h50, h44, h12, h11, h10, h3, h0⟩
              rcases Nat.lt_or_ge j x.length with hjl | hjl
              · have hxj : x[j]? = some x[j] := List.getElem?_eq_getElem hjl
                have hxp : 0 < x.length := by omega
                obtain ⟨p0, p1⟩ := hSa.2.2.1 _ (List.getElem_mem hjl)
                rw [List.length_map] at p1
                obtain ⟨r, hr⟩ : ∃ r : Nat, x[j] = (r : Int) := ⟨(x[j]).toNat, by omega⟩
                have hrl : r < t.length := by omega
                have hd := rowsD_at hrl
                have hpos : 0 < (rowsD t).length := by rw [rowsD_len]; omega
                have hfl : t[r].From.length ≤ 60 := badW_len (a5 _ (List.getElem_mem hrl)).1
                simp -dsimp only [h52, h51, h50, h44, h12, h11, h10, h3, h0, hxj, hxp, hjl, hr, encI, encT, List.getElem?_map, ↓preB, postB, genB, ↓reduceIte, Nat.reduceEqDiff, Int.reduceToNat, Int.reduceLE, Int.reduceLT, Nat.reduceAdd, Nat.reduceLeDiff, intBin, strBin, unD, extractD, lit1, lit2, lit3, keptD, boxR, D.one, D.pub1, D.cells, splice, cutOwn]
                refine draw_p _ rfl rfl rfl rfl ?_
                simp only [List.filterMap_cons, List.filterMap_nil, List.getElem?_cons_succ, List.getElem?_cons_zero, pOps, keepKind, hfKind, Bool.or_false, Bool.or_true, Bool.false_eq_true, if_true, if_false]
                simp -dsimp only [hq, h52, h51, h50, h44, h12, h11, h10, h3, h0, hr, hd, hpos, hrl, List.getElem?_cons_zero, encT, encSS, ↓preB, postB, genB, ↓reduceIte, Nat.reduceEqDiff, Int.reduceToNat, Int.reduceLE, Int.reduceLT, Nat.reduceAdd, Nat.reduceLeDiff, intBin, strBin, unD, extractD, lit1, lit2, lit3, keptD, boxR, D.one, D.pub1, D.cells, splice, cutOwn]
                have hfn : t[r].From.length ≠ 0 := fun h => a1 _ (List.getElem_mem hrl) (List.eq_nil_of_length_eq_zero h)
                refine ⟨by decide, hTw.append (m := t[r].From.length) (ys := t[r].From.map .str) hc1 tz29 rfl tz9 rfl rfl rfl (by decide) (by simp [hl0]) (fedBy_sl tz29 rfl (by simp)) hfn (by simp only []; omega) (by simp only [big]; omega) fun d4 τ4 hT4 hk4 => ?_⟩
                have hq4 := hk4 _ _ hq (by simp)
                obtain ⟨o4, ho4⟩ := hT4.one.is
                subst ho4
                simp -dsimp only [hq4, h52, h51, h50, h44, h12, h11, h10, h3, h0, hr, hd, hpos, hrl, List.getElem?_cons_zero, encI, encT, encSS, ↓preB, postB, genB, ↓reduceIte, Nat.reduceEqDiff, Int.reduceToNat, Int.reduceLE, Int.reduceLT, Nat.reduceAdd, Nat.reduceLeDiff, intBin, strBin, unD, extractD, lit1, lit2, lit3, keptD, boxR, D.one, D.pub1, D.cells, splice, cutOwn]
                exact ⟨by decide, j + 1, ⟨⟨by omega, _, _, _, _, _, _, hT4.set hc1 hq4 hqn _, rfl, by simp [hl0], hl1, by omega, hn1⟩, wrap64_succ (by omega)⟩, by omega⟩
              · have hjx : j = x.length := by omega
                subst hjx
                simp -dsimp only [h52, h51, h50, h44, h12, h11, h10, h3, h0, Nat.lt_irrefl, encI, encT, ↓preB, postB, genB, ↓reduceIte, Nat.reduceEqDiff, Int.reduceToNat, Int.reduceLE, Int.reduceLT, Nat.reduceAdd, Nat.reduceLeDiff, intBin, strBin, unD, extractD, lit1, lit2, lit3, keptD, boxR, D.one, D.pub1, D.cells, splice, cutOwn]
                exact ⟨1, ⟨⟨by omega, n0, cs0, c0, n1, cs1, c1, hTw, hq, hl0, hl1, fun h => by omega, fun _ => hn1⟩, by decide⟩, by omega⟩
          · by_cases i1 : i = 1
            · subst i1
              have hlt : ((1 : Nat) : Int) < 2 := by decide
              simp -dsimp only [h44, h11, h10, h3, h0, hlt, if_true, encI, List.getElem?_cons_zero, List.getElem?_cons_succ, ↓preB, postB, genB, ↓reduceIte, Nat.reduceEqDiff, Int.reduceToNat, Int.reduceLE, Int.reduceLT, Nat.reduceAdd, Nat.reduceLeDiff, intBin, strBin, unD, extractD, lit1, lit2, lit3, keptD, boxR, D.one, D.pub1, D.cells, splice, cutOwn]
              refine ⟨⟨by decide, by decide⟩, fun hxb => ?_⟩
              have hn1 := hz1 (by omega)
              refine pwp_loopG (fun (j : Nat) env s => (j ≤ y.length ∧ ∃ n0 cs0 c0 n1 cs1 c1, Two (σ.new (.cells 41 [D.sl Own.nil 0 [], D.sl Own.nil 0 []])) 9 1 n0 cs0 c0 9 1 n1 cs1 c1 s ∧ s.get τ'.next = some (.cells 41 [c0, c1]) ∧ cs0.length = n0 ∧ cs1.length = n1 ∧ n1 ≤ 60 * j) ∧ env 52 = .int .i64 (j:Nat) ∧ env 51 = .int .i64 y.length ∧ env 50 = encI y ∧ env 44 = .int .i64 1 ∧ env 12 = .int .i64 1 ∧ env 11 = .ptr τ'.next 0 ∧ env 10 = .sl .no 2 [encI x, encI y] ∧ env 3 = .ptr σ.next 0 ∧ env 0 = encT t) (fun j => y.length - j) 0 ?_ ?_
              · simp only [upd_apply, h44, h11, h10, h3, h0, encI, Nat.reduceEqDiff, if_true, if_false]
                exact ⟨⟨Nat.zero_le _, n0, cs0, c0, n1, cs1, c1, hTw, hq, hl0, hl1, by omega⟩, by simp [encI]⟩
              · clear hTw hq hl0 hl1 hz0 hz1 hn1 h44 h11 h10 h3 h0
                rintro j env s ⟨⟨hj, n0, cs0, c0, n1, cs1, c1, hTw, hq, hl0, hl1, hn1⟩, h52, h51, h50, h44, h12, h11, h10, h3, h0⟩
                rcases Nat.lt_or_ge j y.length with hjl | hjl
                · have hxj : y[j]? = some y[j] := List.getElem?_eq_getElem hjl
                  have hxp : 0 < y.length := by omega
                  obtain ⟨p0, p1⟩ := hSa.2.2.2 _ (List.getElem_mem hjl)
                  rw [List.length_map] at p1
                  obtain ⟨r, hr⟩ : ∃ r : Nat, y[j] = (r : Int) := ⟨(y[j]).toNat, by omega⟩
                  have hrl : r < t.length := by omega
                  have hd := rowsD_at hrl
                  have hpos : 0 < (rowsD t).length := by rw [rowsD_len]; omega
                  have hfl : t[r].From.length ≤ 60 := badW_len (a5 _ (List.getElem_mem hrl)).1
                  simp -dsimp only [h52, h51, h50, h44, h12, h11, h10, h3, h0, hxj, hxp, hjl, hr, encI, encT, List.getElem?_map, ↓preB, postB, genB, ↓reduceIte, Nat.reduceEqDiff, Int.reduceToNat, Int.reduceLE, Int.reduceLT, Nat.reduceAdd, Nat.reduceLeDiff, intBin, strBin, unD, extractD, lit1, lit2, lit3, keptD, boxR, D.one, D.pub1, D.cells, splice, cutOwn]
                  refine draw_p _ rfl rfl rfl rfl ?_
                  simp only [List.filterMap_cons, List.filterMap_nil, List.getElem?_cons_succ, List.getElem?_cons_zero, pOps, keepKind, hfKind, Bool.or_false, Bool.or_true, Bool.false_eq_true, if_true, if_false]
                  simp -dsimp only [hq, h52, h51, h50, h44, h12, h11, h10, h3, h0, hr, hd, hpos, hrl, List.getElem?_cons_zero, List.getElem?_cons_succ, encT, encSS, ↓preB, postB, genB, ↓reduceIte, Nat.reduceEqDiff, Int.reduceToNat, Int.reduceLE, Int.reduceLT, Nat.reduceAdd, Nat.reduceLeDiff, intBin, strBin, unD, extractD, lit1, lit2, lit3, keptD, boxR, D.one, D.pub1, D.cells, splice, cutOwn]
                  have hfn : t[r].From.length ≠ 0 := fun h => a1 _ (List.getElem_mem hrl) (List.eq_nil_of_length_eq_zero h)
                  refine ⟨by decide, hTw.swap.append (m := t[r].From.length) (ys := t[r].From.map .str) hc1 tz29 rfl tz9 rfl rfl rfl (by decide) (by simp [hl1]) (fedBy_sl tz29 rfl (by simp)) hfn (by simp only []; omega) (by simp only [big]; omega) fun d4 τ4 hT4 hk4 => ?_⟩
                  have hq4 := hk4 _ _ hq (by simp)
                  obtain ⟨o4, ho4⟩ := hT4.one.is
                  subst ho4
                  simp -dsimp only [hq4, h52, h51, h50, h44, h12, h11, h10, h3, h0, hr, hd, hpos, hrl, List.getElem?_cons_zero, List.getElem?_cons_succ, encI, encT, encSS, ↓preB, postB, genB, ↓reduceIte, Nat.reduceEqDiff, Int.reduceToNat, Int.reduceLE, Int.reduceLT, Nat.reduceAdd, Nat.reduceLeDiff, intBin, strBin, unD, extractD, lit1, lit2, lit3, keptD, boxR, D.one, D.pub1, D.cells, splice, cutOwn]
                  exact ⟨by decide, j + 1, ⟨⟨by omega, _, _, _, _, _, _, (hT4.set hc1 hq4 hqn _).swap, rfl, hl0, by simp [hl1], by omega⟩, wrap64_succ (by omega)⟩, by omega⟩
                · have hjx : j = y.length := by omega
                  subst hjx
                  simp -dsimp only [h52, h51, h50, h44, h12, h11, h10, h3, h0, Nat.lt_irrefl, encI, encT, ↓preB, postB, genB, ↓reduceIte, Nat.reduceEqDiff, Int.reduceToNat, Int.reduceLE, Int.reduceLT, Nat.reduceAdd, Nat.reduceLeDiff, intBin, strBin, unD, extractD, lit1, lit2, lit3, keptD, boxR, D.one, D.pub1, D.cells, splice, cutOwn]
                  exact ⟨2, ⟨⟨by omega, n0, cs0, c0, n1, cs1, c1, hTw, hq, hl0, hl1, fun h => by omega, fun h => by omega⟩, by decide⟩, by omega⟩
            · have hi2 : i = 2 := by omega
              subst hi2
              have hnlt : ¬ (((2 : Nat) : Int) < 2) := by decide
              have hgq := hTw.le.get _ _ hg1
              simp -dsimp only [h44, h11, h10, h3, h0, hnlt, if_false, hgq, hq, ↓preB, postB, genB, ↓reduceIte, Nat.reduceEqDiff, Int.reduceToNat, Int.reduceLE, Int.reduceLT, Nat.reduceAdd, Nat.reduceLeDiff, intBin, strBin, unD, extractD, lit1, lit2, lit3, keptD, boxR, D.one, D.pub1, D.cells, splice, cutOwn]
              obtain ⟨o1, ho1⟩ := hTw.one.is
              obtain ⟨o2, ho2⟩ := hTw.two.is
              subst ho1
              subst ho2
              refine draw_t 2 (by decide) ?_
              simp -dsimp only [h44, h11, h10, h3, h0, hgq, hq, List.take_succ_cons, List.take_zero, List.drop_succ_cons, List.drop_zero, ↓preB, postB, genB, ↓reduceIte, Nat.reduceEqDiff, Int.reduceToNat, Int.reduceLE, Int.reduceLT, Nat.reduceAdd, Nat.reduceLeDiff, intBin, strBin, unD, extractD, lit1, lit2, lit3, keptD, boxR, D.one, D.pub1, D.cells, splice, cutOwn]
              refine ⟨_, ares_tct (r := σ.next) tz41 (by simp [upd_apply, h3]) (Heap.set_same _ _ _) (pack41 _ _ rfl rfl _ tz41), ?_⟩
              simp only [upd_apply, Nat.reduceEqDiff, if_true, if_false]
              exact fin _ _ _ _ _ ((hle1.trans hTw.le).set_out _ hcl (Nat.le_refl _)) (.inr (.inr ⟨ht, hk, rfl, some (x, y), hS, rfl⟩))
end Go.Proofs.YtldlcejlfaogbaaDoor.Vs
