/- numbers of YtldlcejlfaogbaaDoor -/
import Derived.Test.YtldlcejlfaogbaaGreatDoorMgB
import Derived.Test.YtldlcejlfaogbaaGreatDoorRetF2
import Derived.Test.YtldlcejlfaogbaaGreatDoorRdF2
namespace Go.Proofs.YtldlcejlfaogbaaGreatDoor.Vs
open Go.RowKit Go.Sort
set_option linter.unusedVariables false
set_option linter.unusedSimpArgs false
set_option maxRecDepth 100000
set_option maxHeartbeats 1000000 in
/-- The closure that Read sorts by. -/
theorem closure42 {W : World} {f1 t1 f2 t2 : Value} {x y : Wd} (hu : RdW W f1 x) (hv : RdW W f2 y) (o1 : f1.oneCell' = true) (o2 : t1.oneCell' = true) (o3 : f2.oneCell' = true) (o4 : t2.oneCell' = true) :
    Calls Tryz.prog 80 #[.agg #[f1, t1], .agg #[f2, t2]] W fun e w' => e = .returned (.int .i64 (ordR x y)) ∧ ∃ q os', w' = grow (W.drewN q) os' := by
  have hcon := fun o1 o2 => compare_all ((hu.alloc o1).alloc o2) ((hv.alloc o1).alloc o2)
  obtain ⟨A, c, rfl, _, _⟩ := hu
  obtain ⟨B, d, rfl, _, _⟩ := hv
  generalize ordR x y = r at hcon ⊢
  go_enter Tryz.func80, Tryz.ntmps80
  go_wp2_with (go_at_call 61; refine (hcon _ _).mono ?_; rintro e w' ⟨rfl, rfl⟩)
  go_ret
  exact ⟨rfl, 0, _, by rw [alloc_eq_grow, alloc_eq_grow, grow_grow]; rfl⟩
theorem sort42_p (t : List Sh) (h0 : t ≠ []) (hl : t.length ≤ 100000) (hw : ∀ r ∈ t, r.From.length ≤ 100000) (rest : List D) {σ : Heap} {q : Nat} {e : TypeId} {c : Option Nat} (hq : σ.get q = some (.cells e (rowsD t ++ rest))) :
    PCall Zs 59 [.row q 0 t.length c 2, .func 80 []] σ (fun d τ => d = .tup [] ∧ ∃ t' : List Sh, t'.Perm t ∧ sortedT t' ∧ τ = σ.set q (.cells e (rowsD t' ++ rest))) :=
  sort_p sortOK (fun h1 h2 h3 h4 h5 h6 => closure42 h1 h2 h3 h4 h5 h6) (enters_of Tryz.func80 (by kernel_rfl) rfl) t h0 hl hw rest hq
theorem pdqNil42_c : Fn Zs 111 [.sl .nil 0 [], .int .i64 0, .int .i64 0, .int .i64 0, .func 80 []] (.tup []) := run_ok (T := Tb) (n := 200) (by kernel_rfl) (by kernel_rfl) (by kernel_rfl)
theorem sortNil42_c : Fn Zs 59 [.sl .nil 0 [], .func 80 []] (.tup []) := by
  refine fn_of (Z := Zs) ok59 fun σ hcl hbl => ?_
  simp -dsimp only [L59, ↓preB, postB, genB, ↓reduceIte, Nat.reduceEqDiff, Int.reduceToNat, Int.reduceLE, Int.reduceLT, Nat.reduceAdd, Nat.reduceLeDiff, intBin, strBin, unD, extractD, lit1, lit2, lit3, keptD, boxR, D.one, D.pub1, D.cells, splice, cutOwn]
  intro _
  refine Fn.use len0_c ?_
  simp -dsimp only [↓preB, postB, genB, ↓reduceIte, Nat.reduceEqDiff, Int.reduceToNat, Int.reduceLE, Int.reduceLT, Nat.reduceAdd, Nat.reduceLeDiff, intBin, strBin, unD, extractD, lit1, lit2, lit3, keptD, boxR, D.one, D.pub1, D.cells, splice, cutOwn]
  refine Fn.use pdqNil42_c ?_
  simp -dsimp only [↓preB, postB, genB, ↓reduceIte, Nat.reduceEqDiff, Int.reduceToNat, Int.reduceLE, Int.reduceLT, Nat.reduceAdd, Nat.reduceLeDiff, intBin, strBin, unD, extractD, lit1, lit2, lit3, keptD, boxR, D.one, D.pub1, D.cells, splice, cutOwn]
  exact Ret.is rfl
theorem rows_at {t : List Sh} {k : Nat} (h : k < t.length) (js : List D) : (rowsD t ++ js).drop (k * 2) = encSS t[k].From :: encSS t[k].To :: (rowsD (t.drop (k + 1)) ++ js) := by
  rw [List.drop_append_of_le_length (by rw [rowsD_len]; omega), rowsD_at h]; rfl
/-- Where in a row that grows. -/
theorem indexRow_p (t : List Sh) (p : Sh → Bool) (g : FuncId) (caps : List D) {σ : Heap} {q : Nat} {e : TypeId} {c : Option Nat} {js : List D} (hq : σ.get q = some (.cells e (rowsD t ++ js))) (hp : ∀ x ∈ t, PCall Zs g (encR x :: caps) σ (fun d τ => d = .bool (p x) ∧ τ = σ)) :
    PCall Zs 129 [.row q 0 t.length c 2, .func g caps] σ (fun d τ => d = .int .i64 (idxOf p t) ∧ τ = σ) := by
  refine pcall_of (Z := Zs) ok129 fun hcl hbl => ?_
  simp -dsimp only [L129, ↓preB, postB, genB, ↓reduceIte, Nat.reduceEqDiff, Int.reduceToNat, Int.reduceLE, Int.reduceLT, Nat.reduceAdd, Nat.reduceLeDiff, intBin, strBin, unD, extractD, lit1, lit2, lit3, keptD, boxR, D.one, D.pub1, D.cells, splice, cutOwn]
  intro hbig
  refine pwp_loopG (fun k env s => k ≤ t.length ∧ (∀ j (h : j < t.length), j < k → p t[j] = false) ∧ s = σ ∧ env 8 = .int .i64 (k:Nat) ∧ env 7 = .int .i64 t.length ∧ env 0 = .row q 0 t.length c 2 ∧ env 1 = .func g caps) (fun k => t.length - k) 0 ?_ ?_
  · simp [upd_apply, envOf_apply]
  · rintro k env s ⟨hk, hp', rfl, h8, h7, h0, h1⟩
    rcases Nat.lt_or_ge k t.length with hlt | hge
    · have hd := rows_at hlt js
      simp -dsimp only [h8, h7, h0, h1, hlt, hq, hd, Nat.zero_add, ↓preB, postB, genB, ↓reduceIte, Nat.reduceEqDiff, Int.reduceToNat, Int.reduceLE, Int.reduceLT, Nat.reduceAdd, Nat.reduceLeDiff, intBin, strBin, unD, extractD, lit1, lit2, lit3, keptD, boxR, D.one, D.pub1, D.cells, splice, cutOwn]
      refine PCall.use (hp _ (List.getElem_mem hlt)) ?_
      rintro d τ ⟨rfl, rfl⟩
      cases hpq : p t[k] <;> simp -dsimp only [h8, h7, h0, h1, hpq, hlt, hq, hd, Nat.zero_add, ↓preB, postB, genB, ↓reduceIte, Nat.reduceEqDiff, Int.reduceToNat, Int.reduceLE, Int.reduceLT, Nat.reduceAdd, Nat.reduceLeDiff, intBin, strBin, unD, extractD, lit1, lit2, lit3, keptD, boxR, D.one, D.pub1, D.cells, splice, cutOwn]
      · refine ⟨k + 1, ⟨by omega, fun j hj hjk => ?_, wrap64_succ (by omega)⟩, by omega⟩
        rcases Nat.lt_succ_iff_lt_or_eq.1 hjk with h | rfl
        · exact hp' j hj h
        · exact hpq
      · exact Ret.is (by rw [idxOf_at hlt hpq hp'])
    · simp -dsimp only [h8, h7, h0, h1, Nat.not_lt.2 hge, ↓preB, postB, genB, ↓reduceIte, Nat.reduceEqDiff, Int.reduceToNat, Int.reduceLE, Int.reduceLT, Nat.reduceAdd, Nat.reduceLeDiff, intBin, strBin, unD, extractD, lit1, lit2, lit3, keptD, boxR, D.one, D.pub1, D.cells, splice, cutOwn]
      exact Ret.is (by rw [idxOf_none (fun j hj => hp' j hj (by omega))])
theorem containsRow_p (t : List Sh) (p : Sh → Bool) (g : FuncId) (caps : List D) {σ : Heap} {q : Nat} {e : TypeId} {c : Option Nat} {js : List D} (hq : σ.get q = some (.cells e (rowsD t ++ js))) (hp : ∀ x ∈ t, PCall Zs g (encR x :: caps) σ (fun d τ => d = .bool (p x) ∧ τ = σ)) :
    PCall Zs 77 [.row q 0 t.length c 2, .func g caps] σ (fun d τ => d = .bool (t.any p) ∧ τ = σ) := by
  refine pcall_of (Z := Zs) ok77 fun hcl hbl => ?_
  simp -dsimp only [L77, ↓preB, postB, genB, ↓reduceIte, Nat.reduceEqDiff, Int.reduceToNat, Int.reduceLE, Int.reduceLT, Nat.reduceAdd, Nat.reduceLeDiff, intBin, strBin, unD, extractD, lit1, lit2, lit3, keptD, boxR, D.one, D.pub1, D.cells, splice, cutOwn]
  refine PCall.use (indexRow_p t p g caps hq hp) ?_
  rintro d τ ⟨rfl, rfl⟩
  simp -dsimp only [↓preB, postB, genB, ↓reduceIte, Nat.reduceEqDiff, Int.reduceToNat, Int.reduceLE, Int.reduceLT, Nat.reduceAdd, Nat.reduceLeDiff, intBin, strBin, unD, extractD, lit1, lit2, lit3, keptD, boxR, D.one, D.pub1, D.cells, splice, cutOwn]
  exact Ret.is (by rw [← idxOf_any])
theorem twice_p (w : Wd) (r : Sh) {σ : Heap} {q : Nat} (hq : σ.get q = some (.cells 23 [encSS w])) : PCall Zs 78 [encR r, .ptr q 0] σ (fun d τ => d = .bool (eqW r.From w) ∧ τ = σ) := by
  refine pcall_of (Z := Zs) ok78 fun hcl hbl => ?_
  simp -dsimp only [L78, encR, encSS, ↓preB, postB, genB, ↓reduceIte, Nat.reduceEqDiff, Int.reduceToNat, Int.reduceLE, Int.reduceLT, Nat.reduceAdd, Nat.reduceLeDiff, intBin, strBin, unD, extractD, lit1, lit2, lit3, keptD, boxR, D.one, D.pub1, D.cells, splice, cutOwn]
  have hne : q ≠ σ.next := Nat.ne_of_lt (hcl.lt q _ hq)
  have hq' : ∀ o, (σ.new o).get q = some (.cells 23 [encSS w]) := fun o => by
    rw [Heap.new_ne (h := hne)]; exact hq
  have hle := HLe.self_new (σ := σ) (.cells 67 [encSS r.From, encSS r.To]) hcl
  simp -dsimp only [hq', List.getElem?_cons_zero, encSS, ↓preB, postB, genB, ↓reduceIte, Nat.reduceEqDiff, Int.reduceToNat, Int.reduceLE, Int.reduceLT, Nat.reduceAdd, Nat.reduceLeDiff, intBin, strBin, unD, extractD, lit1, lit2, lit3, keptD, boxR, D.one, D.pub1, D.cells, splice, cutOwn]
  refine Fn.use (Equal_c r.From w) ?_
  simp -dsimp only [↓preB, postB, genB, ↓reduceIte, Nat.reduceEqDiff, Int.reduceToNat, Int.reduceLE, Int.reduceLT, Nat.reduceAdd, Nat.reduceLeDiff, intBin, strBin, unD, extractD, lit1, lit2, lit3, keptD, boxR, D.one, D.pub1, D.cells, splice, cutOwn]
  exact Ret.isH hle hcl rfl (.bool _)
theorem RT.box {σ0 σ : Heap} {e e' : TypeId} {z z' n n' : Nat} {cs cs' : List D} {d d' : D} (h : RT σ0 e z n cs d e' z' n' cs' d' σ) (hc : Closed σ0) (o o' : AO) : RT σ0 e z n cs d e' z' n' cs' d' ((σ.new o).set σ.next o') := by
  have hk : ∀ r x, σ.get r = some x → ((σ.new o).set σ.next o').get r = some x := fun r x hr => by
    rw [Heap.set_ne _ _ (Nat.ne_of_lt (h.lt r x hr))]
    exact new_keep h.lt o r x hr
  refine ⟨(h.le.new' o hc).set_out _ hc h.le.next, fun r x hr => ?_, h.one.mono fun r _ _ hr => hk r _ hr, h.two.mono fun r x _ hr => hk r x hr⟩
  rw [Heap.set_get] at hr
  rw [Heap.next_set, Heap.next_new]
  split at hr
  · rename_i e1; rw [e1]; exact Nat.lt_succ_self _
  · have := new_lt h.lt o r x hr
    rw [Heap.next_new] at this
    exact this
theorem three {α : Type} {l : List α} (h : l.length = 3) : ∃ a b c, l = [a, b, c] := by
  match l, h with
  | [a, b, c], _ => exact ⟨a, b, c, rfl⟩
theorem rowL_no {done : List Sh} {x : List UInt8} (h : (cutL 32 x).length ≠ 3) : rowL done x = none := by
  unfold rowL
  split
  · rename_i a m c e
    rw [e] at h
    exact absurd rfl h
  · rfl
theorem rowL_three {done : List Sh} {x a m c : List UInt8} (h : cutL 32 x = [a, m, c]) : rowL done x = if m = [61] ∧ (rdW (toB a)).2 = true ∧ (rdW (toB c)).2 = true ∧ hasF done (rdW (toB a)).1 = false then
      some (⟨(rdW (toB a)).1, (rdW (toB c)).1⟩, decide (400 < max a.length c.length) || decide (60 < max (rdW (toB a)).1.length (rdW (toB c)).1.length)) else none := by
  unfold rowL
  rw [h]
theorem pieces_le {b : UInt8} {x y : List UInt8} (h : y ∈ cutL b x) : y.length ≤ x.length := (cutL_pieces b _ x (Nat.le_refl _)).2 y h
theorem sortedT_iff {t : List Sh} : sortedT t ↔ sortedP t := by
  rw [sortedP, List.pairwise_iff_getElem]
  exact ⟨fun h i j hi hj hij => h i j hj hij, fun h i j hj hij => h i j (by omega) hj hij⟩
theorem readR_go {l : List UInt8} (h : l.length ≤ 6000) : readR (toB l) = match goR (linesL 10 l) 0 [] false with
    | .error i => ([], (i : Int), 2)
    | .ok (t, true) => ([], 0, 3)
    | .ok (t, false) => if badT (srtT t) = 0 then (srtT t, 0, 0) else ([], 0, badT (srtT t)) := by
  unfold readR
  rw [toB_size, if_neg (by omega), toB_list]
  rfl
def encRd (p : List Sh × Int × Int) : D := .tup [encT p.1, .int .i64 p.2.1, .int .i64 p.2.2]
theorem Read_c (l : List UInt8) (hs : l.length ≤ 100000) : Fn Zs 29 [.str (toB l)] (encRd (readR (toB l))) := by
  refine fn_of (Z := Zs) ok29 fun σ hcl hbl => ?_
  simp -dsimp only [L29, ↓preB, postB, genB, ↓reduceIte, Nat.reduceEqDiff, Int.reduceToNat, Int.reduceLE, Int.reduceLT, Nat.reduceAdd, Nat.reduceLeDiff, intBin, strBin, unD, extractD, lit1, lit2, lit3, keptD, boxR, D.one, D.pub1, D.cells, splice, cutOwn]
  have hsz := toB_size l
  have belT : ∀ (N : Nat) (o : List Sh), Bel N (encT o) := fun N o => .no (bel_rowsD _)
  have bad : ∀ (n e : Int) (s : Heap), HLe σ s → readR (toB l) = ([], n, e) → Ret σ (fun d τ => d = encRd (readR (toB l)) ∧ τ = σ) (.tup [.sl .nil 0 [], .int .i64 n, .int .i64 e]) s := fun n e s hle h => by
    rw [h]
    exact Ret.less hle hcl (.tup3 told_nilT (.refl _) (.refl _)) (.tup3 (belT _ _) (.int _ _) (.int _ _))
  by_cases hbig : 6000 < l.length
  · have c1 : (6000 : Int) < l.length := by omega
    simp -dsimp only [hsz, c1, ↓preB, postB, genB, ↓reduceIte, Nat.reduceEqDiff, Int.reduceToNat, Int.reduceLE, Int.reduceLT, Nat.reduceAdd, Nat.reduceLeDiff, intBin, strBin, unD, extractD, lit1, lit2, lit3, keptD, boxR, D.one, D.pub1, D.cells, splice, cutOwn]
    intros
    exact bad 0 3 _ (HLe.refl _) (by unfold readR; rw [if_pos (by rw [toB_size]; exact hbig)])
  have c1 : ¬ (6000 : Int) < l.length := by omega
  have hgo := readR_go (l := l) (by omega)
  simp -dsimp only [hsz, c1, ↓preB, postB, genB, ↓reduceIte, Nat.reduceEqDiff, Int.reduceToNat, Int.reduceLE, Int.reduceLT, Nat.reduceAdd, Nat.reduceLeDiff, intBin, strBin, unD, extractD, lit1, lit2, lit3, keptD, boxR, D.one, D.pub1, D.cells, splice, cutOwn]
  intro _
  refine pwp_loopG (fun (x : List UInt8 × List Sh × Bool × Nat) env s => (goR (linesL 10 x.1) x.2.2.2 x.2.1 x.2.2.1 = goR (linesL 10 l) 0 [] false ∧ x.1.length + x.2.2.2 ≤ l.length ∧ x.2.1.length ≤ x.2.2.2 ∧ ∀ r ∈ x.2.1, r.From.length ≤ l.length) ∧
      RT σ 67 2 x.2.1.length (rowsD x.2.1) (env 5) 9 1 0 [] (.sl .nil 0 []) s ∧ env 6 = .bool x.2.2.1 ∧ env 7 = .int .i64 (x.2.2.2:Nat) ∧ env 0 = .str (toB x.1)) (fun x => x.1.length) (l, [], false, 0) ?_ ?_
  · simp only [upd_apply, envOf_apply, Nat.reduceEqDiff, if_true, if_false]
    exact ⟨⟨by trivial, by simp, by simp, fun r hr => by cases hr⟩, RT.start hcl, by trivial, by trivial, by trivial⟩
  · rintro ⟨rest, done, great, i⟩ env s ⟨⟨hI, hri, hdi, hdf⟩, hR, h6, h7, h0⟩
    simp only at hI hri hdi hdf hR h6 h7 h0
    by_cases hne : rest = []
    · subst hne
      have c3 : (toB [] == (⟨#[]⟩ : ByteArray)) = true := rfl
      rw [linesL_nil, goR] at hI
      cases great
      case true =>
        simp -dsimp only [h0, h6, c3, ↓preB, postB, genB, ↓reduceIte, Nat.reduceEqDiff, Int.reduceToNat, Int.reduceLE, Int.reduceLT, Nat.reduceAdd, Nat.reduceLeDiff, intBin, strBin, unD, extractD, lit1, lit2, lit3, keptD, boxR, D.one, D.pub1, D.cells, splice, cutOwn]
        exact bad 0 3 _ hR.le (by rw [hgo, ← hI])
      simp -dsimp only [h0, h6, c3, ↓preB, postB, genB, ↓reduceIte, Nat.reduceEqDiff, Int.reduceToNat, Int.reduceLE, Int.reduceLT, Nat.reduceAdd, Nat.reduceLeDiff, intBin, strBin, unD, extractD, lit1, lit2, lit3, keptD, boxR, D.one, D.pub1, D.cells, splice, cutOwn]
      have hap : apartF done := goR_apart _ 0 [] false (fun x hx => by cases hx) hI.symm
      have key : PCall Zs 59 [env 5, .func 80 []] s (fun d τ' => d = .tup [] ∧ ∃ out : List Sh, out.Perm done ∧ sortedP out ∧ HLe σ τ' ∧ Told τ' Heap.nil (env 5) (encT out) ∧ Told τ' σ (env 5) (encT out)) := by
        rcases hR.one with ⟨g0, _, g⟩ | ⟨q, js, g, gq, g2, gn⟩
        · have ht0 : done = [] := List.eq_nil_of_length_eq_zero g0
          rw [g]
          refine (sortNil42_c s).mono fun d τ' ⟨h1, h2⟩ => ⟨h1, [], by rw [ht0], List.Pairwise.nil, by rw [h2]; exact hR.le, told_nilT, told_nilT⟩
        · have ht0 : done ≠ [] := fun e => gn (by rw [e]; rfl)
          have told2 : ∀ (β : Heap) {τ' : Heap} {out : List Sh}, β.get q = none → τ' = s.set q (.cells 67 (rowsD out ++ js)) → out.length = done.length → Told τ' β (.row q 0 done.length none 2) (encT out) := fun β τ' out hβ ht' hol => by
            have hro := rowsD_len out
            rw [encT, hol]
            refine .row q 0 done.length none 2 67 (rowsD out ++ js) (rowsD out) (by rw [ht']; exact Heap.set_same _ _ _) hβ (by rw [List.length_append]; omega) (by omega) fun i h1 h2 => ?_
            simp only [Nat.zero_add]
            rw [List.getElem_append_left h2]
            exact .refl _
          rw [g]
          refine (sort42_p done ht0 (by omega) (fun r hr => by have := hdf r hr; omega) js (c := none) g2).mono fun d τ' ⟨h1, out, h2, h3, h4⟩ => ⟨h1, out, h2, sortedT_iff.1 h3, ?_, ?_, ?_⟩
          · rw [h4]; exact hR.le.set_out _ hcl gq
          · exact told2 Heap.nil (by rfl) h4 h2.length_eq
          · exact told2 σ (hcl.none gq) h4 h2.length_eq
      refine PCall.use key ?_
      rintro d τ' ⟨rfl, out, hperm, hsrt, hle, htn, hts⟩
      have hout : out = srtT done := sorted_unique (hperm.trans (srtT_perm done).symm) hsrt (srtT_sorted done) fun x hx y hy he => hap x (hperm.mem_iff.1 hx) y (hperm.mem_iff.1 hy) he
      rw [← hI] at hgo
      simp only at hgo
      rw [← hout] at hgo
      simp -dsimp only [h0, h6, c3, ↓preB, postB, genB, ↓reduceIte, Nat.reduceEqDiff, Int.reduceToNat, Int.reduceLE, Int.reduceLT, Nat.reduceAdd, Nat.reduceLeDiff, intBin, strBin, unD, extractD, lit1, lit2, lit3, keptD, boxR, D.one, D.pub1, D.cells, splice, cutOwn]
      refine Fn.useV (validate_c out) (by rfl) (by rfl) (fun i h1 h2 => match i, h1, h2 with | 0, _, _ => htn) (fun d hd => by simp only [List.mem_cons, List.not_mem_nil, or_false] at hd; subst hd; exact belT _ _) ?_
      cases co : (badT out != 0)
      case true =>
        have c' : badT out ≠ 0 := by simpa using co
        simp -dsimp only [h0, h6, co, ↓preB, postB, genB, ↓reduceIte, Nat.reduceEqDiff, Int.reduceToNat, Int.reduceLE, Int.reduceLT, Nat.reduceAdd, Nat.reduceLeDiff, intBin, strBin, unD, extractD, lit1, lit2, lit3, keptD, boxR, D.one, D.pub1, D.cells, splice, cutOwn]
        exact bad 0 (badT out) _ hle (by rw [hgo, if_neg c'])
      have ho : badT out = 0 := by simpa using co
      simp -dsimp only [h0, h6, co, ↓preB, postB, genB, ↓reduceIte, Nat.reduceEqDiff, Int.reduceToNat, Int.reduceLE, Int.reduceLT, Nat.reduceAdd, Nat.reduceLeDiff, intBin, strBin, unD, extractD, lit1, lit2, lit3, keptD, boxR, D.one, D.pub1, D.cells, splice, cutOwn]
      rw [hgo, if_pos ho]
      exact Ret.less hle hcl (.tup3 hts (.refl _) (.refl _)) (.tup3 (belT _ _) (.int _ _) (.int _ _))
    · have c3 : (toB rest == (⟨#[]⟩ : ByteArray)) = false := by rw [← toB_nil, toB_beq]; exact decide_eq_false hne
      have htl := tailL_len 10 rest
      have hpos := List.length_pos_iff.2 hne
      have hhl := headL_len 10 rest
      rw [linesL_cons 10 hne, goR] at hI
      simp -dsimp only [h0, h6, h7, c3, ↓preB, postB, genB, ↓reduceIte, Nat.reduceEqDiff, Int.reduceToNat, Int.reduceLE, Int.reduceLT, Nat.reduceAdd, Nat.reduceLeDiff, intBin, strBin, unD, extractD, lit1, lit2, lit3, keptD, boxR, D.one, D.pub1, D.cells, splice, cutOwn]
      refine Fn.use (Cut_c rest 10 (by omega)) ?_
      generalize headL 10 rest = line at *
      generalize tailL 10 rest = rest' at *
      simp -dsimp only [h6, h7, ↓preB, postB, genB, ↓reduceIte, Nat.reduceEqDiff, Int.reduceToNat, Int.reduceLE, Int.reduceLT, Nat.reduceAdd, Nat.reduceLeDiff, intBin, strBin, unD, extractD, lit1, lit2, lit3, keptD, boxR, D.one, D.pub1, D.cells, splice, cutOwn]
      refine Fn.use (Split1_c (toB line) 32 (by rw [toB_size]; omega)) ?_
      rw [cutB, toB_list]
      have err : rowL done line = none → readR (toB l) = ([], (i : Int), 2) := fun h => by
        rw [h] at hI
        rw [hgo, ← hI]
      by_cases h3 : (cutL 32 line).length = 3
      · obtain ⟨a, m, c, hP⟩ := three h3
        have ha := pieces_le (b := 32) (x := line) (y := a) (by rw [hP]; simp)
        have hc := pieces_le (b := 32) (x := line) (y := c) (by rw [hP]; simp)
        have hrow := rowL_three (done := done) hP
        rw [hP]
        have e3 : (((3 : Nat) : Int) != 3) = false := rfl
        by_cases hm : m = [61]
        · subst hm
          have e1 : (toB [61] == (⟨#[61]⟩ : ByteArray)) = true := rfl
          simp -dsimp only [h6, h7, e1, e3, encSS, List.map_cons, List.map_nil, List.length_cons, List.length_nil, gate, show (false == false) = true from rfl, ↓preB, postB, genB, ↓reduceIte, Nat.reduceEqDiff, Int.reduceToNat, Int.reduceLE, Int.reduceLT, Nat.reduceAdd, Nat.reduceLeDiff, intBin, strBin, unD, extractD, lit1, lit2, lit3, keptD, boxR, D.one, D.pub1, D.cells, splice, cutOwn]
          intros
          refine ⟨⟨by decide, by decide⟩, ⟨by decide, by decide⟩, Fn.use (read_c a (by omega)) ?_⟩
          simp -dsimp only [h6, h7, e1, e3, encSS, ↓preB, postB, genB, ↓reduceIte, Nat.reduceEqDiff, Int.reduceToNat, Int.reduceLE, Int.reduceLT, Nat.reduceAdd, Nat.reduceLeDiff, intBin, strBin, unD, extractD, lit1, lit2, lit3, keptD, boxR, D.one, D.pub1, D.cells, splice, cutOwn]
          refine ⟨⟨by decide, by decide⟩, Fn.use (read_c c (by omega)) ?_⟩
          have la := rdW_len (toB a)
          have lc := rdW_len (toB c)
          rw [toB_size] at la lc
          have hza := toB_size a
          have hzc := toB_size c
          generalize rdW (toB a) = pa at *
          generalize rdW (toB c) = pc at *
          obtain ⟨wa, oa⟩ := pa
          obtain ⟨wc, oc⟩ := pc
          simp only at la lc hrow
          have hR1 := hR.new hcl (.cells 23 [encSS wa])
          have hget : (s.new (.cells 23 [encSS wa])).get s.next = some (.cells 23 [encSS wa]) := Heap.new_same _ _
          simp -dsimp only [h6, h7, e1, e3, encSS, ↓preB, postB, genB, ↓reduceIte, Nat.reduceEqDiff, Int.reduceToNat, Int.reduceLE, Int.reduceLT, Nat.reduceAdd, Nat.reduceLeDiff, intBin, strBin, unD, extractD, lit1, lit2, lit3, keptD, boxR, D.one, D.pub1, D.cells, splice, cutOwn]
          rw [show D.sl Own.no wa.length (wa.map D.str) = encSS wa from rfl]
          generalize s.new (.cells 23 [encSS wa]) = s1 at *
          generalize s.next = q0 at *
          have key : PCall Zs 77 [env 5, .func 78 [.ptr q0 0]] s1 (fun d τ => d = .bool (hasF done wa) ∧ τ = s1) := by
            rcases hR1.one with ⟨g0, _, g⟩ | ⟨q, js, g, gq, g2, gn⟩
            · have h0 : done = [] := List.eq_nil_of_length_eq_zero g0
              rw [g, h0]
              exact PCall.pub (containsSh_p [] (fun r => eqW r.From wa) 78 [.ptr q0 0] (fun x hx => by cases hx))
            · rw [g]
              exact containsRow_p done (fun r => eqW r.From wa) 78 [.ptr q0 0] g2 (fun r _ => twice_p wa r hget)
          refine PCall.use key ?_
          rintro d τ ⟨rfl, rfl⟩
          cases oa
          case false =>
            rw [if_neg (by simp)] at hrow
            simp -dsimp only [h6, h7, e1, e3, encSS, gate, Bool.not_false, show (true == false) = false from rfl, show (false == false) = true from rfl, ↓preB, postB, genB, ↓reduceIte, Nat.reduceEqDiff, Int.reduceToNat, Int.reduceLE, Int.reduceLT, Nat.reduceAdd, Nat.reduceLeDiff, intBin, strBin, unD, extractD, lit1, lit2, lit3, keptD, boxR, D.one, D.pub1, D.cells, splice, cutOwn]
            exact bad _ _ _ hR1.le (err hrow)
          cases oc
          case false =>
            rw [if_neg (by simp)] at hrow
            simp -dsimp only [h6, h7, e1, e3, encSS, gate, Bool.not_false, Bool.not_true, show (true == false) = false from rfl, show (false == false) = true from rfl, ↓preB, postB, genB, ↓reduceIte, Nat.reduceEqDiff, Int.reduceToNat, Int.reduceLE, Int.reduceLT, Nat.reduceAdd, Nat.reduceLeDiff, intBin, strBin, unD, extractD, lit1, lit2, lit3, keptD, boxR, D.one, D.pub1, D.cells, splice, cutOwn]
            exact bad _ _ _ hR1.le (err hrow)
          cases hh : hasF done wa
          case true =>
            rw [if_neg (by simp [hh])] at hrow
            simp -dsimp only [h6, h7, e1, e3, hh, encSS, gate, Bool.not_false, Bool.not_true, show (true == false) = false from rfl, show (false == false) = true from rfl, ↓preB, postB, genB, ↓reduceIte, Nat.reduceEqDiff, Int.reduceToNat, Int.reduceLE, Int.reduceLT, Nat.reduceAdd, Nat.reduceLeDiff, intBin, strBin, unD, extractD, lit1, lit2, lit3, keptD, boxR, D.one, D.pub1, D.cells, splice, cutOwn]
            exact bad _ _ _ hR1.le (err hrow)
          rw [if_pos ⟨trivial, rfl, rfl, hh⟩] at hrow
          rw [hrow] at hI
          simp only at hI
          simp -dsimp only [h6, h7, e1, e3, hh, encSS, gate, Bool.not_false, Bool.not_true, show (true == false) = false from rfl, show (false == false) = true from rfl, ↓preB, postB, genB, ↓reduceIte, Nat.reduceEqDiff, Int.reduceToNat, Int.reduceLE, Int.reduceLT, Nat.reduceAdd, Nat.reduceLeDiff, intBin, strBin, unD, extractD, lit1, lit2, lit3, keptD, boxR, D.one, D.pub1, D.cells, splice, cutOwn]
          have hm1 : decide ((400 : Int) < if a.length < c.length then (c.length : Int) else (a.length : Int)) = decide (400 < max a.length c.length) := by
            rw [decide_eq_decide]; split <;> omega
          have hm2 : decide ((60 : Int) < if wa.length < wc.length then (wc.length : Int) else (wa.length : Int)) = decide (60 < max wa.length wc.length) := by
            rw [decide_eq_decide]; split <;> omega
          obtain ⟨G, hG⟩ : ∃ G, (great || (decide (400 < max a.length c.length) || decide (60 < max wa.length wc.length))) = G := ⟨_, rfl⟩
          rw [hG] at hI
          have hrl := rowsD_len done
          cases great <;> cases hB1 : decide (400 < max a.length c.length) <;> cases hB2 : decide (60 < max wa.length wc.length) <;>
          · rw [hB1, hB2] at hG
            simp only [Bool.or_true, Bool.or_false, Bool.true_or, Bool.false_or] at hG
            refine draw_s ?_
            simp -dsimp only [h6, h7, e1, e3, hh, hget, hza, hzc, hm1, hm2, hB1, hB2, List.getElem?_cons_zero, encSS, ab46, bs22, gate, show (true == false) = false from rfl, show (false == false) = true from rfl, ↓preB, postB, genB, ↓reduceIte, Nat.reduceEqDiff, Int.reduceToNat, Int.reduceLE, Int.reduceLT, Nat.reduceAdd, Nat.reduceLeDiff, intBin, strBin, unD, extractD, lit1, lit2, lit3, keptD, boxR, D.one, D.pub1, D.cells, splice, cutOwn]
            first | refine ⟨⟨by decide, by decide⟩, ⟨by decide, by decide⟩, ?_⟩ | refine ⟨⟨by decide, by decide⟩, ?_⟩ | skip
            refine hR1.appendRow hcl tz22 rfl tz67 rfl rfl rfl (by decide) hrl (fedBy_sl (m := 1) tz22 rfl rfl) (by decide) (by simp only []; omega) (by simp only [big]; omega) fun d2 τ2 hT3 _ => ?_
            simp -dsimp only [h6, h7, ↓preB, postB, genB, ↓reduceIte, Nat.reduceEqDiff, Int.reduceToNat, Int.reduceLE, Int.reduceLT, Nat.reduceAdd, Nat.reduceLeDiff, intBin, strBin, unD, extractD, lit1, lit2, lit3, keptD, boxR, D.one, D.pub1, D.cells, splice, cutOwn]
            refine ⟨(rest', done ++ [⟨wa, wc⟩], G, i + 1), ⟨⟨hI, by simp only []; omega, by simp only [List.length_append, List.length_singleton]; omega, fun r hr => ?_⟩, ?_, by rw [← hG], wrap64_succ (k := i) (by simp only [big]; omega), rfl⟩, by simp only []; omega⟩
            · rcases List.mem_append.1 hr with hr | hr
              · exact hdf r hr
              · rw [List.mem_singleton.1 hr]; show wa.length ≤ _; omega
            · simp only [List.length_append, List.length_singleton, rowsD_append]
              exact hT3
        · have e1 : (toB m == (⟨#[61]⟩ : ByteArray)) = false := by
            rw [show (⟨#[61]⟩ : ByteArray) = toB [61] from rfl, toB_beq]; exact decide_eq_false hm
          rw [if_neg (fun h => hm h.1)] at hrow
          simp -dsimp only [h6, h7, e1, e3, encSS, List.map_cons, List.map_nil, List.length_cons, List.length_nil, gate, show (false == false) = true from rfl, ↓preB, postB, genB, ↓reduceIte, Nat.reduceEqDiff, Int.reduceToNat, Int.reduceLE, Int.reduceLT, Nat.reduceAdd, Nat.reduceLeDiff, intBin, strBin, unD, extractD, lit1, lit2, lit3, keptD, boxR, D.one, D.pub1, D.cells, splice, cutOwn]
          intros
          exact ⟨⟨by decide, by decide⟩, bad _ _ _ hR.le (err hrow)⟩
      · have e1 : (((cutL 32 line).length : Int) != 3) = true := by
          simp only [bne_iff_ne, ne_eq]; omega
        simp -dsimp only [h6, h7, e1, encSS, List.length_map, gate, show (true == false) = false from rfl, ↓preB, postB, genB, ↓reduceIte, Nat.reduceEqDiff, Int.reduceToNat, Int.reduceLE, Int.reduceLT, Nat.reduceAdd, Nat.reduceLeDiff, intBin, strBin, unD, extractD, lit1, lit2, lit3, keptD, boxR, D.one, D.pub1, D.cells, splice, cutOwn]
        intros
        exact bad _ _ _ hR.le (err (rowL_no h3))
end Go.Proofs.YtldlcejlfaogbaaGreatDoor.Vs
