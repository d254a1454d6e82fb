/- numbers of YtldlcejlfaogbaaDoor -/
/- A table turned round by the program. -/
import Derived.Test.YtldlcejlfaogbaaDoorRetF1
import Derived.Test.YtldlcejlfaogbaaDoorMgB
import Derived.Test.YtldlcejlfaogbaaDoorLawReturnsA
import Derived.Test.YtldlcejlfaogbaaDoorDmTwo
import Derived.Test.YtldlcejlfaogbaaDoorDmKnown
namespace Go.Proofs.YtldlcejlfaogbaaDoor.Vs
open Go.RowKit
set_option linter.unusedVariables false
set_option linter.unusedSimpArgs false
set_option maxRecDepth 20000

/-- A call whose arguments are told as values, for the call alone: nothing of the heap is forgotten. -/
theorem Fn.useV {Z : Sys} {f : FuncId} {ds ds' : List D} {x : D} {σ : Heap} {K : D → Heap → Prop} {h : Keep K} (c : Fn Z f ds' x) (hx : x.plain = true) (hl : ds.length = ds'.length) (ht : ∀ i (h1 : i < ds.length) (h2 : i < ds'.length), Told σ Heap.nil ds[i] ds'[i]) (hb : ∀ d ∈ ds', Bel 0 d) (hk : K x σ) : kCall Z f ds σ K h := by
  have key : PCall Z f ds σ (fun d τ => d = x ∧ τ = σ) := ⟨(c Heap.nil).1, fun w s vs hs hv hW => by
    subst hs
    have hle : HLe Heap.nil s.σ := ⟨Nat.zero_le _, fun r o hr => by cases hr⟩
    have hc : Closed Heap.nil := ⟨fun r o hr => (by cases hr), fun r o hr => (by cases hr)⟩
    refine ((c Heap.nil).2 w ⟨Heap.nil, s.ρ⟩ vs rfl ⟨by rw [hv.1, hl], fun i hi => (ht i (by omega) hi).ok hW hle (hv.2 i (by omega)) (hb _ (List.getElem_mem hi))⟩ (hW.less hle hc)).mono fun e w' ⟨v, d, s', h1, h2, h3, h4, h5, h6⟩ => ?_
    subst h5
    have hblk : ∀ b, b < w.heap.size → w'.heap[b]? = w.heap[b]? := fun b hb => h4.blk b hb (fun r o hr => by cases hr)
    have hE : Ext w s w' s := ⟨h4.os, h4.tape, h4.output, h4.size, Nat.le_refl _, fun _ _ => rfl, fun b hb _ => hblk b hb, fun _ _ h => h, fun r e x hr o v ho hc =>
      ⟨(cell_of_heap (hblk _ (hW.blk hr)) o).trans hc, ((Ext.refl hW).tip r e x hr o v ho hc).2⟩⟩
    exact ⟨v, d, s, h1, h2.plain hx, hW.step hE (fun r o hr => .inl ⟨hr, hblk _ (hW.blk hr)⟩) hW.inj, hE, rfl, rfl⟩⟩
  exact PCall.use key fun d τ ⟨h1, h2⟩ => by rw [h1, h2]; exact hk
def RevSpec (t out : List Sh) (ok : Bool) (e : Int) : Prop :=
  (badT t ≠ 0 ∧ ok = false ∧ e = badT t) ∨ (badT t = 0 ∧ askE t ≠ 0 ∧ ok = false ∧ e = askE t) ∨ (badT t = 0 ∧ askE t = 0 ∧ e = 0 ∧ (ok = true → out.Perm (rev t) ∧ badT out = 0 ∧ joinsW out (t.map (·.To)) = true))
theorem rev_take {t : List Sh} {k : Nat} (h : k < t.length) : rev (t.take (k + 1)) = rev (t.take k) ++ [⟨t[k].To, t[k].From⟩] := by
  rw [List.take_succ_eq_append_getElem h]
  simp only [rev, List.map_append, List.map_cons, List.map_nil]
theorem len0_c : Fn Zs 65 [.int .u64 0] (.int .i64 0) := by
  obtain ⟨fn, cc, hf, hb, _, _, _, hn, _⟩ := ok65.ok
  refine fn_below (Z := Zs) ⟨fn, hf, by rw [hb]; rfl, hn⟩ fun W s vs hv hW => ?_
  obtain ⟨v0, rfl⟩ : ∃ a, vs = #[a] := by
    obtain ⟨l⟩ := vs
    match l, hv.1 with
    | [a], _ => exact ⟨a, rfl⟩
  have e0 : V W (Lim s) v0 (.int .u64 0) := hv.2 0 (by simp)
  cases e0
  refine ⟨.int .i64 0, fun w' => .int _ _, ?_⟩
  have L := Tryd.sort41
  refine (Go.Proofs.Any.bits_Len (Go.Proofs.SlLaysF0.n15.bits (P := Tryd.prog) (ρ := Tryd.sort41_ren) { L with }) 0 W (by omega) (by omega)).mono ?_
  rintro e w' ⟨rfl, rfl⟩
  exact ⟨by rfl, Below.refl _ _⟩
theorem pdqNil_c : Fn Zs 64 [.sl .nil 0 [], .int .i64 0, .int .i64 0, .int .i64 0, .func 47 []] (.tup []) := run_ok (T := Tb) (n := 200) (by kernel_rfl) (by kernel_rfl) (by kernel_rfl)
theorem sortNil_c : Fn Zs 41 [.sl .nil 0 [], .func 47 []] (.tup []) := by
  refine fn_of (Z := Zs) ok41 fun σ hcl hbl => ?_
  simp -dsimp only [L41, ↓preB, postB, genB, ↓reduceIte, Nat.reduceEqDiff, Int.reduceToNat, Int.reduceLE, Int.reduceLT, Nat.reduceAdd, Nat.reduceLeDiff, intBin, strBin, unD, extractD, lit1, lit2, lit3, keptD, boxR, D.one, D.pub1, D.cells, splice, cutOwn]
  intro _
  refine Fn.use len0_c ?_
  simp -dsimp only [↓preB, postB, genB, ↓reduceIte, Nat.reduceEqDiff, Int.reduceToNat, Int.reduceLE, Int.reduceLT, Nat.reduceAdd, Nat.reduceLeDiff, intBin, strBin, unD, extractD, lit1, lit2, lit3, keptD, boxR, D.one, D.pub1, D.cells, splice, cutOwn]
  refine Fn.use pdqNil_c ?_
  simp -dsimp only [↓preB, postB, genB, ↓reduceIte, Nat.reduceEqDiff, Int.reduceToNat, Int.reduceLE, Int.reduceLT, Nat.reduceAdd, Nat.reduceLeDiff, intBin, strBin, unD, extractD, lit1, lit2, lit3, keptD, boxR, D.one, D.pub1, D.cells, splice, cutOwn]
  exact Ret.is rfl
theorem Reverse_p (t : List Sh) {σ : Heap} : PCall Zs 18 [encT t] σ (fun d τ => τ = σ ∧ ∃ out ok e, d = .tup [encT out, .bool ok, .int .i64 e] ∧ RevSpec t out ok e) := by
  refine pcall_of (Z := Zs) ok18 fun hcl hbl => ?_
  simp -dsimp only [L18, ↓preB, postB, genB, ↓reduceIte, Nat.reduceEqDiff, Int.reduceToNat, Int.reduceLE, Int.reduceLT, Nat.reduceAdd, Nat.reduceLeDiff, intBin, strBin, unD, extractD, lit1, lit2, lit3, keptD, boxR, D.one, D.pub1, D.cells, splice, cutOwn]
  have bad : ∀ (e : Int) (s : Heap), HLe σ s → RevSpec t [] false e → Ret σ (fun d τ => τ = σ ∧ ∃ out ok e, d = .tup [encT out, .bool ok, .int .i64 e] ∧ RevSpec t out ok e) (.tup [.sl .nil 0 [], .bool false, .int .i64 e]) s := fun e s hle h =>
    Ret.told σ (.tup [encT [], .bool false, .int .i64 e]) (Nat.le_refl _) hle hcl (.tup3 told_nilT (.refl _) (.refl _)) (bel_encJ ([], false, e)) ⟨rfl, [], false, e, rfl, h⟩
  refine Fn.use (validate_c t) ?_
  cases ca : (badT t != 0)
  case true =>
    have c' : badT t ≠ 0 := by simpa using ca
    simp -dsimp only [ca, ↓preB, postB, genB, ↓reduceIte, Nat.reduceEqDiff, Int.reduceToNat, Int.reduceLE, Int.reduceLT, Nat.reduceAdd, Nat.reduceLeDiff, intBin, strBin, unD, extractD, lit1, lit2, lit3, keptD, boxR, D.one, D.pub1, D.cells, splice, cutOwn]
    exact bad _ _ (HLe.refl _) (.inl ⟨c', rfl, rfl⟩)
  have ht : badT t = 0 := by simpa using ca
  simp -dsimp only [ca, ↓preB, postB, genB, ↓reduceIte, Nat.reduceEqDiff, Int.reduceToNat, Int.reduceLE, Int.reduceLT, Nat.reduceAdd, Nat.reduceLeDiff, intBin, strBin, unD, extractD, lit1, lit2, lit3, keptD, boxR, D.one, D.pub1, D.cells, splice, cutOwn]
  refine Fn.use (asked_c t) ?_
  cases cb : (askE t != 0)
  case true =>
    have c' : askE t ≠ 0 := by simpa using cb
    simp -dsimp only [cb, ↓preB, postB, genB, ↓reduceIte, Nat.reduceEqDiff, Int.reduceToNat, Int.reduceLE, Int.reduceLT, Nat.reduceAdd, Nat.reduceLeDiff, intBin, strBin, unD, extractD, lit1, lit2, lit3, keptD, boxR, D.one, D.pub1, D.cells, splice, cutOwn]
    exact bad _ _ (HLe.refl _) (.inr (.inl ⟨ht, c', rfl, rfl⟩))
  have hk : askE t = 0 := by simpa using cb
  obtain ⟨a1, a2⟩ := table_ok ht
  obtain ⟨a3, a4, _⟩ := badT_zero ht
  have a5 := firstE_zero a4
  simp -dsimp only [cb, encT, ↓preB, postB, genB, ↓reduceIte, Nat.reduceEqDiff, Int.reduceToNat, Int.reduceLE, Int.reduceLT, Nat.reduceAdd, Nat.reduceLeDiff, intBin, strBin, unD, extractD, lit1, lit2, lit3, keptD, boxR, D.one, D.pub1, D.cells, splice, cutOwn]
  intro hbig
  refine pwp_loopG (fun k env τ => k ≤ t.length ∧ RT σ 46 2 k (rowsD (rev (t.take k))) (env 7) 29 1 k (((t.take k).map (·.To)).map encSS) (env 8) τ ∧ env 23 = .int .i64 (k:Nat) ∧ env 22 = .int .i64 t.length ∧ env 21 = encT t) (fun k => t.length - k) 0 ?_ ?_
  · simp only [upd_apply, envOf_apply, encT, Nat.reduceEqDiff, if_true, if_false]
    exact ⟨Nat.zero_le _, RT.start hcl, by simp⟩
  · rintro k env τ ⟨hkk, hR, h23, h22, h21⟩
    rcases Nat.lt_or_ge k t.length with hlt | hge
    · have hd := rowsD_at hlt
      have hpos : 0 < (rowsD t).length := by rw [rowsD_len]; omega
      have hak := List.getElem_mem hlt
      have htl := a2 _ hak
      have hfl : t[k].From.length ≤ 60 := badW_len (a5 _ hak).1
      have hjt := rev_take hlt
      have htt := tos_take (a := t) hlt
      simp -dsimp only [h23, h22, h21, encT, hlt, hd, hpos, ↓preB, postB, genB, ↓reduceIte, Nat.reduceEqDiff, Int.reduceToNat, Int.reduceLE, Int.reduceLT, Nat.reduceAdd, Nat.reduceLeDiff, intBin, strBin, unD, extractD, lit1, lit2, lit3, keptD, boxR, D.one, D.pub1, D.cells, splice, cutOwn]
      have hT2 := hR.new hcl (.cells 46 [encSS t[k].From, encSS t[k].To])
      have hget : (τ.new (.cells 46 [encSS t[k].From, encSS t[k].To])).get τ.next = some (.cells 46 [encSS t[k].From, encSS t[k].To]) := Heap.new_same _ _
      have hnext : σ.next ≤ τ.next := hR.le.next
      generalize t[k] = r at hd htl hfl hjt htt hget hT2 hak ⊢
      refine draw_t 9 (by decide) ?_
      simp -dsimp only [hget, h23, h22, h21, List.getElem?_cons_zero, List.getElem?_cons_succ, encT, hlt, hd, hpos, List.take_succ_cons, List.take_zero, List.drop_succ_cons, List.drop_zero, ↓preB, postB, genB, ↓reduceIte, Nat.reduceEqDiff, Int.reduceToNat, Int.reduceLE, Int.reduceLT, Nat.reduceAdd, Nat.reduceLeDiff, intBin, strBin, unD, extractD, lit1, lit2, lit3, keptD, boxR, D.one, D.pub1, D.cells, splice, cutOwn]
      refine Fn.useS (clone_any r.To (by omega)) ?_
      simp -dsimp only [hget, h23, h22, h21, List.getElem?_cons_zero, List.getElem?_cons_succ, encT, hlt, hd, hpos, ↓preB, postB, genB, ↓reduceIte, Nat.reduceEqDiff, Int.reduceToNat, Int.reduceLE, Int.reduceLT, Nat.reduceAdd, Nat.reduceLeDiff, intBin, strBin, unD, extractD, lit1, lit2, lit3, keptD, boxR, D.one, D.pub1, D.cells, splice, cutOwn]
      refine Fn.useS (clone_any r.From (by omega)) ?_
      simp -dsimp only [hget, h23, h22, h21, encT, encSS, hlt, hd, hpos, ab46, bs22, ↓preB, postB, genB, ↓reduceIte, Nat.reduceEqDiff, Int.reduceToNat, Int.reduceLE, Int.reduceLT, Nat.reduceAdd, Nat.reduceLeDiff, intBin, strBin, unD, extractD, lit1, lit2, lit3, keptD, boxR, D.one, D.pub1, D.cells, splice, cutOwn]
      refine hT2.appendRow hcl tz22 rfl tz46 rfl rfl rfl (by decide) (by rw [rowsD_len]; simp [rev]; omega) (fedBy_sl (m := 1) tz22 rfl rfl) (by decide) (by simp only []; omega) (by simp only [big]; omega) fun d2 τ2 hT3 hk3 => ?_
      have hne : env 7 ≠ .row τ.next 0 k none 2 := fun he => by
        rcases hR.one with ⟨_, _, g⟩ | ⟨r2, js, g, _, g2, _⟩
        · rw [he] at g; cases g
        · rw [he] at g; cases g
          exact absurd (hR.lt _ _ g2) (Nat.lt_irrefl _)
      have hget3 := hk3 _ _ hget hne
      simp -dsimp only [hget3, h23, h22, h21, List.getElem?_cons_zero, List.getElem?_cons_succ, encT, encSS, hlt, hd, hpos, ↓preB, postB, genB, ↓reduceIte, Nat.reduceEqDiff, Int.reduceToNat, Int.reduceLE, Int.reduceLT, Nat.reduceAdd, Nat.reduceLeDiff, intBin, strBin, unD, extractD, lit1, lit2, lit3, keptD, boxR, D.one, D.pub1, D.cells, splice, cutOwn]
      refine hT3.appendTip hcl tz49 rfl tz29 rfl rfl rfl (by decide) (by simp; omega) (fedBy_sl (m := 1) tz49 rfl rfl) (by decide) (by simp only []; omega) (by simp only [big]; omega) fun d4 τ4 hT4 => ?_
      simp -dsimp only [h23, h22, h21, encT, encSS, hlt, hd, hpos, ↓preB, postB, genB, ↓reduceIte, Nat.reduceEqDiff, Int.reduceToNat, Int.reduceLE, Int.reduceLT, Nat.reduceAdd, Nat.reduceLeDiff, intBin, strBin, unD, extractD, lit1, lit2, lit3, keptD, boxR, D.one, D.pub1, D.cells, splice, cutOwn]
      refine ⟨k + 1, ⟨by omega, ?_, wrap64_succ (by omega)⟩, by omega⟩
      rw [hjt, htt, rowsD_append, List.map_append]
      exact hT4
    · have hkl : k = t.length := by omega
      subst hkl
      rw [List.take_length] at hR
      simp -dsimp only [h23, h22, h21, encT, Nat.lt_irrefl, ↓preB, postB, genB, ↓reduceIte, Nat.reduceEqDiff, Int.reduceToNat, Int.reduceLE, Int.reduceLT, Nat.reduceAdd, Nat.reduceLeDiff, intBin, strBin, unD, extractD, lit1, lit2, lit3, keptD, boxR, D.one, D.pub1, D.cells, splice, cutOwn]
      have hrl : (rev t).length = t.length := by simp [rev]
      have key : PCall Zs 41 [env 7, .func 47 []] τ (fun d τ' => d = .tup [] ∧ ∃ out : List Sh, out.Perm (rev t) ∧ HLe σ τ' ∧ Told τ' Heap.nil (env 7) (encT out) ∧ Told τ' σ (env 7) (encT out)) := by
        rcases hR.one with ⟨g0, _, g⟩ | ⟨q, js, g, gq, g2, gn⟩
        · have ht0 : t = [] := List.eq_nil_of_length_eq_zero g0
          rw [g]
          refine (sortNil_c τ).mono fun d τ' ⟨h1, h2⟩ => ⟨h1, [], by rw [ht0]; exact .refl _, by rw [h2]; exact hR.le, told_nilT, told_nilT⟩
        · by_cases ht0 : t = []
          · exact absurd (by rw [ht0]; rfl) gn
          have told2 : ∀ (β : Heap) {τ' : Heap} {out : List Sh}, β.get q = none → τ' = τ.set q (.cells 46 (rowsD out ++ js)) → out.length = t.length → Told τ' β (.row q 0 t.length none 2) (encT out) := fun β τ' out hβ ht' hol => by
            have hro := rowsD_len out
            rw [encT, hol]
            refine .row q 0 t.length none 2 46 (rowsD out ++ js) (rowsD out) (by rw [ht']; exact Heap.set_same _ _ _) hβ (by rw [List.length_append]; omega) (by omega) fun i h1 h2 => ?_
            simp only [Nat.zero_add]
            rw [List.getElem_append_left h2]
            exact .refl _
          rw [g, ← hrl]
          refine (sort47_p (rev t) (by simpa [rev] using ht0) (by rw [hrl]; omega) (fun r hr => ?_) js (c := none) g2).mono fun d τ' ⟨h1, out, h2, h3, h4⟩ => ⟨h1, out, h2, ?_, ?_, ?_⟩
          · obtain ⟨x, hx, rfl⟩ := List.mem_map.1 hr
            have := a2 x hx
            show x.To.length ≤ 100000
            omega
          · rw [h4]; exact hR.le.set_out _ hcl gq
          · rw [hrl]; exact told2 Heap.nil (by rfl) h4 (by rw [h2.length_eq, hrl])
          · rw [hrl]; exact told2 σ (hcl.none gq) h4 (by rw [h2.length_eq, hrl])
      refine PCall.use key ?_
      rintro d τ' ⟨rfl, out, hperm, hle, htn, hts⟩
      have ht8 : ∀ τ'', Told τ' τ'' (env 8) (encLL (t.map (·.To))) := fun τ'' => by
        have := hR.two.told (τ := τ') (τ' := τ'')
        simpa [encLL] using this
      simp -dsimp only [h23, h22, h21, encT, ↓preB, postB, genB, ↓reduceIte, Nat.reduceEqDiff, Int.reduceToNat, Int.reduceLE, Int.reduceLT, Nat.reduceAdd, Nat.reduceLeDiff, intBin, strBin, unD, extractD, lit1, lit2, lit3, keptD, boxR, D.one, D.pub1, D.cells, splice, cutOwn]
      have belT : ∀ o : List Sh, Bel 0 (encT o) := fun o => .no (bel_rowsD _)
      refine Fn.useV (validate_c out) (by rfl) (by rfl) (fun i h1 h2 => match i, h1, h2 with | 0, _, _ => htn) (fun d hd => by simp only [List.mem_cons, List.not_mem_nil, or_false] at hd; subst hd; exact belT _) ?_
      cases co : (badT out != 0)
      case true =>
        have c' : badT out ≠ 0 := by simpa using co
        simp -dsimp only [h23, h22, h21, co, gate, show (true == false) = false from rfl, encT, ↓preB, postB, genB, ↓reduceIte, Nat.reduceEqDiff, Int.reduceToNat, Int.reduceLE, Int.reduceLT, Nat.reduceAdd, Nat.reduceLeDiff, intBin, strBin, unD, extractD, lit1, lit2, lit3, keptD, boxR, D.one, D.pub1, D.cells, splice, cutOwn]
        exact bad 0 _ hle (.inr (.inr ⟨ht, hk, rfl, fun h => by cases h⟩))
      have ho : badT out = 0 := by simpa using co
      obtain ⟨o1, o2⟩ := table_ok ho
      obtain ⟨o3, o4, _⟩ := badT_zero ho
      simp -dsimp only [h23, h22, h21, co, gate, show (false == false) = true from rfl, encT, ↓preB, postB, genB, ↓reduceIte, Nat.reduceEqDiff, Int.reduceToNat, Int.reduceLE, Int.reduceLT, Nat.reduceAdd, Nat.reduceLeDiff, intBin, strBin, unD, extractD, lit1, lit2, lit3, keptD, boxR, D.one, D.pub1, D.cells, splice, cutOwn]
      refine Fn.useV (joins_c (t.map (·.To)) out o1 o2 (fun r hr => badW_len (firstE_zero o4 r hr).1) o3 fun w hw => ?_) (by rfl) (by rfl) (fun i h1 h2 => match i, h1, h2 with | 0, _, _ => ht8 _ | 1, _, _ => htn) (fun d hd => by
        simp only [List.mem_cons, List.not_mem_nil, or_false] at hd
        rcases hd with rfl | rfl
        · exact bel_LL _
        · exact belT _) ?_
      · obtain ⟨r, hr, rfl⟩ := List.mem_map.1 hw
        exact badW_good (a5 r hr).2
      · cases hj : joinsW out (t.map (·.To)) with
        | false =>
          simp -dsimp only [h23, h22, h21, hj, encT, ↓preB, postB, genB, ↓reduceIte, Nat.reduceEqDiff, Int.reduceToNat, Int.reduceLE, Int.reduceLT, Nat.reduceAdd, Nat.reduceLeDiff, intBin, strBin, unD, extractD, lit1, lit2, lit3, keptD, boxR, D.one, D.pub1, D.cells, splice, cutOwn]
          exact bad 0 _ hle (.inr (.inr ⟨ht, hk, rfl, fun h => by cases h⟩))
        | true =>
          simp -dsimp only [h23, h22, h21, hj, encT, ↓preB, postB, genB, ↓reduceIte, Nat.reduceEqDiff, Int.reduceToNat, Int.reduceLE, Int.reduceLT, Nat.reduceAdd, Nat.reduceLeDiff, intBin, strBin, unD, extractD, lit1, lit2, lit3, keptD, boxR, D.one, D.pub1, D.cells, splice, cutOwn]
          exact Ret.told σ (.tup [encT out, .bool true, .int .i64 0]) (Nat.le_refl _) hle hcl (.tup3 hts (.refl _) (.refl _)) (bel_encJ (out, true, 0)) ⟨rfl, out, true, 0, rfl, .inr (.inr ⟨ht, hk, rfl, fun _ => ⟨hperm, ho, hj⟩⟩)⟩
end Go.Proofs.YtldlcejlfaogbaaDoor.Vs
