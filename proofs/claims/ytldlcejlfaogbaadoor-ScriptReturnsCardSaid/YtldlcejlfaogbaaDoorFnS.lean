/- The program's search for two rows of words that make one. -/
import Derived.Test.YtldlcejlfaogbaaDoorFnR
namespace Go.Proofs.YtldlcejlfaogbaaDoor.Vs
set_option linter.unusedVariables false
set_option linter.unusedSimpArgs false
set_option maxRecDepth 20000

def encTwo : Option (List Int × List Int) → D
  | none => .sl .nil 0 []
  | some (a, b) => .sl .no 2 [encI a, encI b]
theorem bel_encI {N : Nat} (a : List Int) : Bel N (encI a) := .no (bel_ints a)
theorem bel_encTwo {N : Nat} : ∀ r, Bel N (encTwo r)
  | none => .sl _ _ _ (fun r z h => by cases h) (by simp)
  | some (a, b) => .no fun d hd => by
    simp only [List.mem_cons, List.not_mem_nil, or_false] at hd
    rcases hd with rfl | rfl <;> exact bel_encI _
theorem told_two {σ τ : Heap} {o1 o2 o3 : Own} (a b : List Int) : Told σ τ (.sl o1 2 [.sl o2 a.length (a.map (.int .i64)), .sl o3 b.length (b.map (.int .i64))]) (encTwo (some (a, b))) :=
  .sl o1 .no 2 _ _ (.inl rfl) rfl fun i h1 h2 => match i, h1, h2 with
    | 0, _, _ => Told.pub1 _ _ _
    | 1, _, _ => Told.pub1 _ _ _
/-- What the search comes to. -/
def SpecC (l : List Wd) (res : Option (List Int × List Int)) : Prop :=
  match l.findIdx? noneIn with
  | some k => res = some ([], [(k : Int)])
  | none => match res with
    | none => ∀ m, ¬ Rch l [] m
    | some (a, b) => a ≠ b ∧ okNs l a ∧ okNs l b ∧ joinW l a = joinW l b ∧ Rch l [] (joinW l a).length ∧ (∀ m, Rch l [] m → (joinW l a).length ≤ m) ∧ a.length ≤ 10000 ∧ b.length ≤ 10000
theorem ab76 (o o2 o3 : Own) (n n2 n3 : Nat) (k : IntKind) (x : Int) (cs cs2 cs3 : List D) : aBuilt Zs 98 [(0, .sl o n cs), (1, .int k x), (2, .sl o2 n2 cs2), (3, .sl o3 n3 cs3)] = some [.sl o n cs, .int k x, .sl o2 n2 cs2, .sl o3 n3 cs3] := by rfl
theorem bs74 (o o2 o3 : Own) (n n2 n3 nx : Nat) (k : IntKind) (x : Int) (cs cs2 cs3 : List D) : buildSliceR Zs 0 96 1 [(0, .agg [.sl o n cs, .int k x, .sl o2 n2 cs2, .sl o3 n3 cs3])] nx = some (.sl .full 1 [.sl o n cs, .int k x, .sl o2 n2 cs2, .sl o3 n3 cs3], .keep) := by rfl
def ownsOK (t : List Race) : Prop := ∀ e ∈ t, e.ob ≠ .nil ∧ e.oa ≠ .nil

/-- The heap of which nothing is changed, and the map of what is done. -/
def baseC (σ : Heap) (m : Nat) (es : List ME) (c : Nat) : Heap := ⟨m + 1, fun i => if i = m then some (.map es c) else σ.get i⟩
theorem baseC_map {σ : Heap} {m : Nat} {es : List ME} {c : Nat} : (baseC σ m es c).get m = some (.map es c) := by simp [baseC]
theorem baseC_lt {σ : Heap} (hc : Closed σ) {m : Nat} (hm : σ.next ≤ m) {es : List ME} {c : Nat} : ∀ r o, (baseC σ m es c).get r = some o → r < (baseC σ m es c).next := fun r o h => by
  simp only [baseC] at h ⊢
  split at h
  · omega
  · have := hc.lt r o h; omega
theorem baseC_le {σ : Heap} (hc : Closed σ) {m : Nat} (hm : σ.next ≤ m) {es : List ME} {c : Nat} : HLe σ (baseC σ m es c) := ⟨by simp only [baseC]; omega, fun r o h => by
  have := hc.lt r o h
  simp only [baseC]
  rw [if_neg (by omega)]; exact h⟩
def MapC (es : List ME) (dn : Bl) : Prop := es.map (·.key) = dn.reverse.map (fun p => D.str (keyB p.1 sp)) ∧ ∀ e ∈ es, e.val = .bool true
theorem keyEq9 (a b : ByteArray) : keyEq Zs 9 (.str a) (.str b) = some (a == b) := by simp [keyEq, tz9, plainKeyT, eqS]
theorem findC : ∀ (es : List ME) (ks : List ByteArray) (i : Nat) (x : ByteArray), es.map (·.key) = ks.map D.str → (∀ e ∈ es, e.val = .bool true) → (x ∈ ks → ∃ j, findD Zs 9 (.str x) es i = some (some (j, .bool true))) ∧ (x ∉ ks → findD Zs 9 (.str x) es i = some none)
  | [], ks, i, x, h, _ => by
    have : ks = [] := by cases ks with
      | nil => rfl
      | cons => cases h
    subst this
    exact ⟨fun h => absurd h (by simp), fun _ => rfl⟩
  | e :: es, [], i, x, h, _ => by cases h
  | e :: es, k :: ks, i, x, h, hv => by
    simp only [List.map_cons, List.cons.injEq] at h
    obtain ⟨h1, h2⟩ := findC es ks (i + 1) x h.2 fun e he => hv e (List.mem_cons_of_mem _ he)
    simp only [findD, h.1, keyEq9]
    cases hx : (x == k)
    · have hne : x ≠ k := fun e => by rw [e, ba_refl] at hx; cases hx
      simp only
      exact ⟨fun hm => h1 (by rcases List.mem_cons.1 hm with hm | hm; exact absurd hm hne; exact hm), fun hm => h2 fun hm' => hm (List.mem_cons_of_mem _ hm')⟩
    · have := ba_eq hx
      subst this
      simp only
      exact ⟨fun _ => ⟨i, by rw [hv e (List.mem_cons_self ..)]⟩, fun hm => absurd (List.mem_cons_self ..) hm⟩
theorem MapC.find {es : List ME} {dn : Bl} (h : MapC es dn) (hd : ∀ p ∈ dn, goodW p.1) {r : Wd} (hr : goodW r) : (r ∈ dn.map (·.1) → ∃ j, findD Zs 9 (.str (keyB r sp)) es 0 = some (some (j, .bool true))) ∧ (r ∉ dn.map (·.1) → findD Zs 9 (.str (keyB r sp)) es 0 = some none) := by
  have hk : es.map (·.key) = (dn.reverse.map fun p => keyB p.1 sp).map D.str := by rw [h.1, List.map_map]; rfl
  obtain ⟨h1, h2⟩ := findC es _ 0 (keyB r sp) hk h.2
  refine ⟨fun hm => h1 ?_, fun hm => h2 fun hm' => hm ?_⟩
  · obtain ⟨p, hp, rfl⟩ := List.mem_map.1 hm
    exact List.mem_map.2 ⟨p, List.mem_reverse.2 hp, rfl⟩
  · obtain ⟨p, hp, he⟩ := List.mem_map.1 hm'
    have hp := List.mem_reverse.1 hp
    exact List.mem_map.2 ⟨p, hp, keyB_inj (hd p hp) hr he⟩
theorem MapC.add {es : List ME} {dn : Bl} (h : MapC es dn) (r : Wd) (n c : Nat) : MapC (es ++ [⟨c, .str (keyB r sp), .bool true⟩]) ((r, n) :: dn) := by
  refine ⟨?_, fun e he => ?_⟩
  · simp only [List.map_append, List.map_cons, List.map_nil, List.reverse_cons, h.1]
  · rcases List.mem_append.1 he with he | he
    · exact h.2 e he
    · rw [List.mem_singleton] at he; subst he; rfl
theorem look77 {g : Nat → Option AO} {m c : Nat} {es : List ME} {x : ByteArray} {r : Option (Nat × D)} (hg : g m = some (.map es c)) (h : findD Zs 9 (.str x) es 0 = some r) : lookupD Zs g 60 (.map m) (.str x) false = some ((r.map (·.2)).getD (.bool false)) := by
  unfold lookupD
  simp only [tz60, tz4, mapEnts, hg]
  rw [if_pos (by simp [keyFits, tz9, plainKeyT]), h]
  cases r with
  | none => rfl
  | some p => rfl
theorem upd77 {g : Nat → Option AO} {m c : Nat} {es : List ME} {x : ByteArray} {v : D} (hg : g m = some (.map es c)) (h : findD Zs 9 (.str x) es 0 = some none) : mapUpdateE Zs g 60 (.map m) (.str x) v = some (.put m (.map (es ++ [⟨c, .str x, v⟩]) (c + 1))) := by
  unfold mapUpdateE
  simp only [tz60, hg, Option.map_some]
  rw [if_pos (by simp [keyFits, tz9, plainKeyT]), h]
  rfl
theorem AccR.new {e : TypeId} {z n : Nat} {σ0 σ : Heap} {cs : List D} {d : D} (h : AccR e z σ0 n cs d σ) (hc : ∀ r o, σ0.get r = some o → r < σ0.next) (o : AO) : AccR e z σ0 n cs d (σ.new o) := by
  obtain ⟨h1, h2, h3⟩ := h
  refine ⟨h1.new o hc, h2, ?_⟩
  rcases h3 with h3 | ⟨q, js, a, b, c, d⟩
  · exact .inl h3
  · exact .inr ⟨q, js, a, by rw [Heap.next_new]; omega, c, by rw [Heap.new_get, if_neg (by omega)]; exact d⟩
theorem AccR.setOut {e : TypeId} {z n r : Nat} {σ0 σ : Heap} {cs : List D} {d : D} (h : AccR e z σ0 n cs d σ) (hr : σ0.get r = none) (hq : ∀ q, d = .row q 0 n none z → q ≠ r) (o : AO) : AccR e z σ0 n cs d (σ.set r o) := by
  obtain ⟨h1, h2, h3⟩ := h
  refine ⟨h1.set o hr, h2, ?_⟩
  rcases h3 with h3 | ⟨q, js, a, b, c, d⟩
  · exact .inl h3
  · exact .inr ⟨q, js, a, b, c, by rw [Heap.set_ne _ _ (hq q c)]; exact d⟩
/-- The heap below is told otherwise. -/
theorem AccR.base {e : TypeId} {z n : Nat} {σ0 σ1 σ : Heap} {cs : List D} {d : D} (h : AccR e z σ0 n cs d σ) (hle : HLe σ1 σ) (hq : ∀ q, d = .row q 0 n none z → σ1.get q = none) : AccR e z σ1 n cs d σ := by
  obtain ⟨h1, h2, h3⟩ := h
  refine ⟨hle, h2, ?_⟩
  rcases h3 with h3 | ⟨q, js, a, b, c, d⟩
  · exact .inl h3
  · exact .inr ⟨q, js, hq q c, b, c, d⟩

theorem mem_erase {t : List Race} {b : Nat} (hb : b < t.length) (x : Race) : x ∈ t ↔ x = t[b] ∨ x ∈ t.eraseIdx b := by
  have h1 : t = t.take b ++ t[b] :: t.drop (b + 1) := by rw [← List.drop_eq_getElem_cons hb, List.take_append_drop]
  have h2 : t.eraseIdx b = t.take b ++ t.drop (b + 1) := List.eraseIdx_eq_take_drop_succ ..
  rw [h2]
  constructor
  · intro hx
    rw [h1] at hx
    rcases List.mem_append.1 hx with hx | hx
    · exact .inr (List.mem_append_left _ hx)
    · rcases List.mem_cons.1 hx with hx | hx
      · exact .inl hx
      · exact .inr (List.mem_append_right _ hx)
  · intro hx
    rw [h1]
    rcases hx with hx | hx
    · exact List.mem_append_right _ (hx ▸ List.mem_cons_self ..)
    · rcases List.mem_append.1 hx with hx | hx
      · exact List.mem_append_left _ hx
      · exact List.mem_append_right _ (List.mem_cons_of_mem _ hx)
theorem good_rest {l : List Wd} (hg : ∀ w ∈ l, goodW w) {r : Wd} (h : r ∈ rests l) : goodW r := by
  obtain ⟨w, hw, h⟩ := List.mem_flatMap.1 h
  obtain ⟨i, _, rfl⟩ := List.mem_map.1 h
  exact (hg w hw).drop i

theorem clash_c (l : List Wd) (h24 : l.length ≤ 24) (hg : ∀ w ∈ l, goodW w) (h8 : ∀ w ∈ l, w.length ≤ 8) (σ : Heap) : PCall Zs 48 [encLL l] σ (fun d τ => τ = σ ∧ ∃ res, d = encTwo res ∧ SpecC l res) := by
  have hR : (rests l).length ≤ 216 := by have := rests_len h8; omega
  refine pcall_of (Z := Zs) ok48 fun hcl hbl => ?_
  simp -dsimp only [L48, ↓preB, postB, genB, ↓reduceIte, Nat.reduceEqDiff, Int.reduceToNat, Int.reduceLE, Int.reduceLT, Nat.reduceAdd, Nat.reduceLeDiff, intBin, strBin, unD, extractD, lit1, lit2, lit3, keptD, boxR, D.one, D.pub1, D.cells, splice, cutOwn]
  refine Fn.use (indexLL_c l noneIn 69 [] (fun x _ => noneIn_c x)) ?_
  cases hfi : l.findIdx? noneIn with
  | some k =>
    have hi : idxOf noneIn l = (k : Int) := by rw [idxOf, hfi]
    simp -dsimp only [hi, ↓preB, postB, genB, ↓reduceIte, Nat.reduceEqDiff, Int.reduceToNat, Int.reduceLE, Int.reduceLT, Nat.reduceAdd, Nat.reduceLeDiff, intBin, strBin, unD, extractD, lit1, lit2, lit3, keptD, boxR, D.one, D.pub1, D.cells, splice, cutOwn]
    exact Ret.told σ (encTwo (some ([], [(k : Int)]))) (Nat.le_refl _) (HLe.refl _) hcl (told_two [] [(k : Int)]) (bel_encTwo _) ⟨rfl, _, rfl, by rw [SpecC, hfi]⟩
  | none =>
    have hi : idxOf noneIn l = -1 := by rw [idxOf, hfi]
    have hne : ∀ w ∈ l, w ≠ [] := fun w hw h => by
      have := List.findIdx?_eq_none_iff.1 hfi w hw
      rw [h] at this; simp [noneIn] at this
    simp -dsimp only [hi, show ¬ ((0 : Int) ≤ -1) by decide, encLL, ↓preB, postB, genB, ↓reduceIte, Nat.reduceEqDiff, Int.reduceToNat, Int.reduceLE, Int.reduceLT, Nat.reduceAdd, Nat.reduceLeDiff, intBin, strBin, unD, extractD, lit1, lit2, lit3, keptD, boxR, D.one, D.pub1, D.cells, splice, cutOwn]
    intros
    refine pwp_loopG (fun (x : Nat × List Race) env s => x.1 ≤ l.length ∧ IniR l x.2 x.1 0 ∧ x.2.length ≤ 24 * x.1 ∧ ownsOK x.2 ∧ AccR 98 4 σ x.2.length (cellsR x.2) (env 4) s ∧ env 26 = .int .i64 (x.1 : Nat) ∧ env 25 = .int .i64 l.length ∧ env 24 = encLL l ∧ env 0 = encLL l) (fun x => l.length - x.1) (0, []) ?_ ?_
    · simp only [upd_apply, Nat.reduceEqDiff, if_true, if_false, envOf_apply]
      exact ⟨Nat.zero_le _, IniR.nil l, Nat.zero_le _, fun e h => absurd h (by simp), AccR.nil (HLe.refl _), rfl, trivial, rfl, rfl⟩
    · rintro ⟨i, todo⟩ env s ⟨hil, hI, hlen, how, hA, h26, h25, h24', h0⟩
      simp only at hil hI hlen how hA h26
      rcases Nat.lt_or_ge i l.length with hlti | hgei
      · have hxi : l[i]? = some l[i] := List.getElem?_eq_getElem hlti
        have hp0 : 0 < l.length := by omega
        simp -dsimp only [h26, h25, h24', h0, encLL, hlti, hxi, hp0, ↓preB, postB, genB, ↓reduceIte, Nat.reduceEqDiff, Int.reduceToNat, Int.reduceLE, Int.reduceLT, Nat.reduceAdd, Nat.reduceLeDiff, intBin, strBin, unD, extractD, lit1, lit2, lit3, keptD, boxR, D.one, D.pub1, D.cells, splice, cutOwn]
        intros
        refine pwp_loopG (fun (x : Nat × List Race) env s => x.1 ≤ l.length ∧ IniR l x.2 i x.1 ∧ x.2.length ≤ 24 * i + x.1 ∧ ownsOK x.2 ∧ AccR 98 4 σ x.2.length (cellsR x.2) (env 4) s ∧ env 33 = .int .i64 (x.1 : Nat) ∧ env 32 = .int .i64 l.length ∧ env 31 = encLL l ∧ env 5 = .int .i64 (i : Nat) ∧ env 6 = encSS l[i] ∧ env 26 = .int .i64 (i : Nat) ∧ env 25 = .int .i64 l.length ∧ env 24 = encLL l ∧ env 0 = encLL l) (fun x => l.length - x.1) (0, todo) ?_ ?_
        · simp only [upd_apply, Nat.reduceEqDiff, if_true, if_false, h26, h25, h24', h0]
          exact ⟨Nat.zero_le _, hI, hlen, how, hA, rfl, trivial, rfl, trivial, trivial, trivial, trivial, trivial, trivial⟩
        · rintro ⟨j, todo⟩ env s ⟨hjl, hI, hlen, how, hA, h33, h32, h31, h5, h6, h26, h25, h24', h0⟩
          simp only at hjl hI hlen how hA h33
          rcases Nat.lt_or_ge j l.length with hltj | hgej
          · have hxj : l[j]? = some l[j] := List.getElem?_eq_getElem hltj
            have skip : wants l i j l[i] l[j] = false → ∃ y : Nat × List Race, (y.1 ≤ l.length ∧ IniR l y.2 i y.1 ∧ y.2.length ≤ 24 * i + y.1 ∧ ownsOK y.2 ∧ AccR 98 4 σ y.2.length (cellsR y.2) (env 4) s ∧ IntKind.i64.wrap ((j : Int) + 1) = ((y.1 : Nat) : Int)) ∧ l.length - y.1 < l.length - j := fun hw =>
              ⟨(j + 1, todo), ⟨by omega, hI.next hlti hltj hw, by simp only at hlen ⊢; omega, how, hA, wrap64_succ (by omega)⟩, by simp only; omega⟩
            have take : wants l i j l[i] l[j] = true → ∀ d' s', AccR 98 4 σ (todo.length + 1) (cellsR todo ++ [encSS (l[j].drop l[i].length), .int .i64 l[j].length, .sl .full 1 [.int .i64 (i : Int)], .sl .full 1 [.int .i64 (j : Int)]]) d' s' → ∃ y : Nat × List Race, (y.1 ≤ l.length ∧ IniR l y.2 i y.1 ∧ y.2.length ≤ 24 * i + y.1 ∧ ownsOK y.2 ∧ AccR 98 4 σ y.2.length (cellsR y.2) d' s' ∧ IntKind.i64.wrap ((j : Int) + 1) = ((y.1 : Nat) : Int)) ∧ l.length - y.1 < l.length - j := fun hw d' s' hA' =>
              ⟨(j + 1, todo ++ [⟨l[j].drop l[i].length, l[j].length, [(i:Int)], [(j:Int)], .full, .full⟩]), ⟨by omega, hI.add h8 hlti hltj hw _ _, by simp only [List.length_append, List.length_cons, List.length_nil]; omega, fun e he => by
                rcases List.mem_append.1 he with he | he
                · exact how e he
                · rw [List.mem_singleton] at he; subst he; exact ⟨by simp, by simp⟩, by rw [cellsR_append, List.length_append]; exact hA', wrap64_succ (by omega)⟩, by simp only; omega⟩
            have hbd : todo.length ≤ 600 := by omega
            by_cases hij : i = j
            · have c1 : ((i : Int) != (j : Int)) = false := by simp [hij]
              simp -dsimp only [h33, h32, h31, h5, h6, h26, h25, h24', h0, encLL, hltj, hxj, hp0, c1, ↓preB, postB, genB, ↓reduceIte, Nat.reduceEqDiff, Int.reduceToNat, Int.reduceLE, Int.reduceLT, Nat.reduceAdd, Nat.reduceLeDiff, intBin, strBin, unD, extractD, lit1, lit2, lit3, keptD, boxR, D.one, D.pub1, D.cells, splice, cutOwn]
              exact skip (by simp [wants, hij])
            · have c1 : ((i : Int) != (j : Int)) = true := by simp; omega
              simp -dsimp only [h33, h32, h31, h5, h6, h26, h25, h24', h0, encLL, hltj, hxj, hp0, c1, ↓preB, postB, genB, ↓reduceIte, Nat.reduceEqDiff, Int.reduceToNat, Int.reduceLE, Int.reduceLT, Nat.reduceAdd, Nat.reduceLeDiff, intBin, strBin, unD, extractD, lit1, lit2, lit3, keptD, boxR, D.one, D.pub1, D.cells, splice, cutOwn]
              refine Fn.use (begins_c _ _) ?_
              cases c2 : begW l[j] l[i]
              · simp -dsimp only [h33, h32, h31, h5, h6, h26, h25, h24', h0, encLL, hltj, hxj, hp0, c1, c2, ↓preB, postB, genB, ↓reduceIte, Nat.reduceEqDiff, Int.reduceToNat, Int.reduceLE, Int.reduceLT, Nat.reduceAdd, Nat.reduceLeDiff, intBin, strBin, unD, extractD, lit1, lit2, lit3, keptD, boxR, D.one, D.pub1, D.cells, splice, cutOwn]
                exact skip (by simp [wants, c2])
              · have hle := begW_le c2
                by_cases c3 : (l[i].length : Int) < l[j].length
                · simp -dsimp only [h33, h32, h31, h5, h6, h26, h25, h24', h0, encLL, encSS, hltj, hxj, hp0, c1, c2, c3, ab76, bs74, ↓preB, postB, genB, ↓reduceIte, Nat.reduceEqDiff, Int.reduceToNat, Int.reduceLE, Int.reduceLT, Nat.reduceAdd, Nat.reduceLeDiff, intBin, strBin, unD, extractD, lit1, lit2, lit3, keptD, boxR, D.one, D.pub1, D.cells, splice, cutOwn]
                  intros
                  refine ⟨⟨by omega, by omega⟩, fun _ => ?_⟩
                  rw [encSS_cut hle]
                  refine hA.append (m := 1) hcl.lt tz96 rfl tz98 rfl rfl rfl (by decide) (fedBy_sl tz96 rfl rfl) (by decide) (by simp only []; omega) (by simp only [big]; omega) fun d' s' hA' => ?_
                  simp -dsimp only [h33, h32, h31, h5, h6, h26, h25, h24', h0, ↓preB, postB, genB, ↓reduceIte, Nat.reduceEqDiff, Int.reduceToNat, Int.reduceLE, Int.reduceLT, Nat.reduceAdd, Nat.reduceLeDiff, intBin, strBin, unD, extractD, lit1, lit2, lit3, keptD, boxR, D.one, D.pub1, D.cells, splice, cutOwn]
                  exact take (by simp only [wants, c2, Bool.and_eq_true, Bool.or_eq_true, decide_eq_true_eq]; exact ⟨hij, trivial, by omega⟩) d' s' hA'
                · by_cases c4 : (i : Int) < j
                  · simp -dsimp only [h33, h32, h31, h5, h6, h26, h25, h24', h0, encLL, encSS, hltj, hxj, hp0, c1, c2, c3, c4, ab76, bs74, ↓preB, postB, genB, ↓reduceIte, Nat.reduceEqDiff, Int.reduceToNat, Int.reduceLE, Int.reduceLT, Nat.reduceAdd, Nat.reduceLeDiff, intBin, strBin, unD, extractD, lit1, lit2, lit3, keptD, boxR, D.one, D.pub1, D.cells, splice, cutOwn]
                    intros
                    refine ⟨⟨by omega, by omega⟩, fun _ => ?_⟩
                    rw [encSS_cut hle]
                    refine hA.append (m := 1) hcl.lt tz96 rfl tz98 rfl rfl rfl (by decide) (fedBy_sl tz96 rfl rfl) (by decide) (by simp only []; omega) (by simp only [big]; omega) fun d' s' hA' => ?_
                    simp -dsimp only [h33, h32, h31, h5, h6, h26, h25, h24', h0, ↓preB, postB, genB, ↓reduceIte, Nat.reduceEqDiff, Int.reduceToNat, Int.reduceLE, Int.reduceLT, Nat.reduceAdd, Nat.reduceLeDiff, intBin, strBin, unD, extractD, lit1, lit2, lit3, keptD, boxR, D.one, D.pub1, D.cells, splice, cutOwn]
                    exact take (by simp only [wants, c2, Bool.and_eq_true, Bool.or_eq_true, decide_eq_true_eq]; exact ⟨hij, trivial, by omega⟩) d' s' hA'
                  · simp -dsimp only [h33, h32, h31, h5, h6, h26, h25, h24', h0, encLL, encSS, hltj, hxj, hp0, c1, c2, c3, c4, ↓preB, postB, genB, ↓reduceIte, Nat.reduceEqDiff, Int.reduceToNat, Int.reduceLE, Int.reduceLT, Nat.reduceAdd, Nat.reduceLeDiff, intBin, strBin, unD, extractD, lit1, lit2, lit3, keptD, boxR, D.one, D.pub1, D.cells, splice, cutOwn]
                    intros
                    exact skip (by
                      rw [← Bool.not_eq_true]
                      simp only [wants, c2, Bool.and_eq_true, Bool.or_eq_true, decide_eq_true_eq]
                      omega)
          · simp -dsimp only [h33, h32, h31, h5, h6, h26, h25, h24', h0, encLL, Nat.not_lt.2 hgej, ↓preB, postB, genB, ↓reduceIte, Nat.reduceEqDiff, Int.reduceToNat, Int.reduceLE, Int.reduceLT, Nat.reduceAdd, Nat.reduceLeDiff, intBin, strBin, unD, extractD, lit1, lit2, lit3, keptD, boxR, D.one, D.pub1, D.cells, splice, cutOwn]
            have : j = l.length := by omega
            subst this
            exact ⟨(i + 1, todo), ⟨by omega, hI.line, by simp only at hlen ⊢; omega, how, hA, wrap64_succ (by omega)⟩, by simp only; omega⟩
      · simp -dsimp only [h26, h25, h24', h0, encLL, Nat.not_lt.2 hgei, ↓preB, postB, genB, ↓reduceIte, Nat.reduceEqDiff, Int.reduceToNat, Int.reduceLE, Int.reduceLT, Nat.reduceAdd, Nat.reduceLeDiff, intBin, strBin, unD, extractD, lit1, lit2, lit3, keptD, boxR, D.one, D.pub1, D.cells, splice, cutOwn]
        obtain ⟨m, hm⟩ : ∃ m, m = s.next := ⟨_, rfl⟩
        have hσm : σ.next ≤ m := by have := hA.le.next; omega
        have hil' : i = l.length := by omega
        subst hil'
        refine pwp_loopG (fun (x : List Race × Bl × List ME × Nat) env s => InvR l x.1 x.2.1 ∧ x.1.length ≤ 600 + 24 * x.2.1.length ∧ ownsOK x.1 ∧ AccR 98 4 (baseC σ m x.2.2.1 x.2.2.2) x.1.length (cellsR x.1) (env 4) s ∧ MapC x.2.2.1 x.2.1 ∧ env 9 = .map m ∧ env 0 = encLL l) (fun x => leftR l x.1 x.2.1) (todo, [], [], 0) ?_ ?_
        · simp only [upd_apply, Nat.reduceEqDiff, if_true, if_false, h0]
          have hA' := hA.new hcl.lt (.map [] 0)
          refine ⟨hI.inv, by omega, how, hA'.base ⟨by simp only [baseC, Heap.next_new]; omega, fun r o h => ?_⟩ (fun q hq => ?_), ⟨rfl, fun e h => absurd h (by simp)⟩, by rw [hm], trivial⟩
          · simp only [baseC] at h
            split at h
            · rename_i hr; subst hr; rw [hm, Heap.new_same]; exact h
            · exact hA'.le.get r o h
          · rcases hA.2.2 with ⟨h1, _⟩ | ⟨q', js, a, b, c', d⟩
            · rw [h1] at hq; cases hq
            · rw [c'] at hq
              cases hq
              simp only [baseC]
              rw [if_neg (by omega)]; exact a
        · rintro ⟨todo, dn, es, c⟩ env s ⟨hV, hlen, how, hA, hM, h9, h0⟩
          simp only at hV hlen how hA hM
          have hdl := hV.dnlen
          by_cases ht0 : todo.length = 0
          · have e0 : todo = [] := List.eq_nil_of_length_eq_zero ht0
            subst e0
            have hle : HLe σ s := (baseC_le hcl hσm).trans hA.le
            have fin : Ret σ (fun d τ => τ = σ ∧ ∃ res, d = encTwo res ∧ SpecC l res) (.sl .nil 0 []) s := Ret.told σ (encTwo none) (Nat.le_refl _) hle hcl (.refl _) (bel_encTwo _) ⟨rfl, none, rfl, by
              rw [SpecC, hfi]
              exact hV.none⟩
            rcases hA.2.2 with ⟨h1, _⟩ | ⟨q', js, a, b, c', d⟩
            · simp -dsimp only [h9, h0, h1, List.length_nil, show ¬ ((0 : Int) < ((0 : Nat) : Int)) by decide, ↓preB, postB, genB, ↓reduceIte, Nat.reduceEqDiff, Int.reduceToNat, Int.reduceLE, Int.reduceLT, Nat.reduceAdd, Nat.reduceLeDiff, intBin, strBin, unD, extractD, lit1, lit2, lit3, keptD, boxR, D.one, D.pub1, D.cells, splice, cutOwn]
              exact fun _ => fin
            · simp -dsimp only [h9, h0, c', List.length_nil, show ¬ ((0 : Int) < ((0 : Nat) : Int)) by decide, ↓preB, postB, genB, ↓reduceIte, Nat.reduceEqDiff, Int.reduceToNat, Int.reduceLE, Int.reduceLT, Nat.reduceAdd, Nat.reduceLeDiff, intBin, strBin, unD, extractD, lit1, lit2, lit3, keptD, boxR, D.one, D.pub1, D.cells, splice, cutOwn]
              exact fun _ => fin
          · obtain ⟨q, js, hq0, hqn, hd, hqs⟩ := hA.row ht0
            have hpos : (0 : Int) < todo.length := by omega
            simp -dsimp only [h9, h0, hd, hpos, ↓preB, postB, genB, ↓reduceIte, Nat.reduceEqDiff, Int.reduceToNat, Int.reduceLE, Int.reduceLT, Nat.reduceAdd, Nat.reduceLeDiff, intBin, strBin, unD, extractD, lit1, lit2, lit3, keptD, boxR, D.one, D.pub1, D.cells, splice, cutOwn]
            intros
            refine pwp_loopG (fun (x : Nat × Nat) env s' => x.1 ≤ todo.length ∧ (∃ hb : x.2 < todo.length, ∀ j (hj : j < todo.length), j < x.1 → todo[x.2].long ≤ todo[j].long) ∧ AccR 98 4 (baseC σ m es c) todo.length (cellsR todo) (env 4) s' ∧ s'.get q = some (.cells 98 (cellsR todo ++ js)) ∧ q < s'.next ∧ env 4 = .row q 0 todo.length none 4 ∧ env 78 = .row q 0 todo.length none 4 ∧ env 79 = .int .i64 todo.length ∧ env 80 = .int .i64 (x.1 : Nat) ∧ env 10 = .int .i64 (x.2 : Nat) ∧ env 9 = .map m ∧ env 0 = encLL l) (fun x => todo.length - x.1) (0, 0) ?_ ?_
            · simp only [upd_apply, Nat.reduceEqDiff, if_true, if_false, h9, h0, hd]
              rw [hd] at hA
              exact ⟨Nat.zero_le _, ⟨by omega, fun j hj h => by omega⟩, hA, hqs, hqn, trivial, trivial, trivial, rfl, rfl, trivial, trivial⟩
            · rintro ⟨i, b⟩ env s' ⟨hi, ⟨hb, hmin⟩, hA, hqs, hqn, h4, h78, h79, h80, h10, h9, h0⟩
              simp only at hi hb hmin h80 h10
              rcases Nat.lt_or_ge i todo.length with hlti | hgei
              · have hat := cellsR_at hlti js
                have hatb := cellsR_at hb js
                have hcl2 : (cellsR todo ++ js).length = todo.length * 4 + js.length := by rw [List.length_append, cellsR_len]
                have hbd : i * 4 < (cellsR todo ++ js).length := by omega
                have hbd2 : b * 4 < (cellsR todo ++ js).length := by omega
                have h44 : 4 ≤ (cellsR todo ++ js).length - i * 4 := by omega
                have hn : ∀ o, (s'.new o).get q = some (.cells 98 (cellsR todo ++ js)) := fun o => by rw [Heap.new_get, if_neg (by omega)]; exact hqs
                have hatb1 : (cellsR todo ++ js)[b * 4 + 1]? = some (.int .i64 (todo[b].long : Int)) := by
                  have := congrArg (fun l => l[1]?) hatb
                  simpa using this
                simp -dsimp only [h4, h78, h79, h80, h10, h9, h0, hlti, hb, hqs, hat, hatb, hbd, hbd2, h44, ↓preB, postB, genB, ↓reduceIte, Nat.reduceEqDiff, Int.reduceToNat, Int.reduceLE, Int.reduceLT, Nat.reduceAdd, Nat.reduceLeDiff, intBin, strBin, unD, extractD, lit1, lit2, lit3, keptD, boxR, D.one, D.pub1, D.cells, splice, cutOwn]
                refine draw_s ?_
                by_cases hc1 : (todo[i].long : Int) < todo[b].long
                · simp -dsimp only [h4, h78, h79, h80, h10, h9, h0, hlti, hb, hn, hat, hatb, hatb1, hbd, hbd2, hc1, Heap.app, ↓preB, postB, genB, ↓reduceIte, Nat.reduceEqDiff, Int.reduceToNat, Int.reduceLE, Int.reduceLT, Nat.reduceAdd, Nat.reduceLeDiff, intBin, strBin, unD, extractD, lit1, lit2, lit3, keptD, boxR, D.one, D.pub1, D.cells, splice, cutOwn]
                  rw [h4] at hA
                  refine ⟨(i + 1, i), ⟨by simp only; omega, ⟨hlti, fun j hj h => ?_⟩, hA.new (baseC_lt hcl hσm) _, by omega, wrap64_succ (by omega), rfl⟩, by simp only; omega⟩
                  rcases Nat.lt_succ_iff_lt_or_eq.1 h with h | rfl
                  · have := hmin j hj h; simp only; omega
                  · exact Nat.le_refl _
                · simp -dsimp only [h4, h78, h79, h80, h10, h9, h0, hlti, hb, hn, hat, hatb, hatb1, hbd, hbd2, hc1, Heap.app, ↓preB, postB, genB, ↓reduceIte, Nat.reduceEqDiff, Int.reduceToNat, Int.reduceLE, Int.reduceLT, Nat.reduceAdd, Nat.reduceLeDiff, intBin, strBin, unD, extractD, lit1, lit2, lit3, keptD, boxR, D.one, D.pub1, D.cells, splice, cutOwn]
                  rw [h4] at hA
                  refine ⟨(i + 1, b), ⟨by simp only; omega, ⟨hb, fun j hj h => ?_⟩, hA.new (baseC_lt hcl hσm) _, by omega, wrap64_succ (by omega), rfl⟩, by simp only; omega⟩
                  rcases Nat.lt_succ_iff_lt_or_eq.1 h with h | rfl
                  · exact hmin j hj h
                  · simp only; omega
              · have hatb := cellsR_at hb js
                have hcl2 : (cellsR todo ++ js).length = todo.length * 4 + js.length := by rw [List.length_append, cellsR_len]
                have hbd2 : b * 4 < (cellsR todo ++ js).length := by omega
                have h44 : 4 ≤ (cellsR todo ++ js).length - b * 4 := by omega
                have hw1 : IntKind.i64.wrap ((b : Int) + 1) = ((b + 1 : Nat) : Int) := wrap64_succ (by omega)
                simp -dsimp only [h4, h78, h79, h80, h10, h9, h0, hb, hqs, hatb, h44, hw1, Nat.not_lt.2 hgei, ↓preB, postB, genB, ↓reduceIte, Nat.reduceEqDiff, Int.reduceToNat, Int.reduceLE, Int.reduceLT, Nat.reduceAdd, Nat.reduceLeDiff, intBin, strBin, unD, extractD, lit1, lit2, lit3, keptD, boxR, D.one, D.pub1, D.cells, splice, cutOwn]
                obtain ⟨p, hp⟩ : ∃ p, p = s'.next := ⟨_, rfl⟩
                have hmp : m < p := by have := hA.le.next; simp only [baseC] at this; omega
                refine PCall.use (delete_c todo q b js hb (by omega) _ (by rw [Heap.new_get, if_neg (by omega)]; exact hqs)) fun d τ ⟨js', hd', hτ⟩ => ?_
                subst hd'
                have he := hV.ok _ (List.getElem_mem hb)
                have howe := how _ (List.getElem_mem hb)
                have hmem : ∀ x, x ∈ todo ↔ x = todo[b] ∨ x ∈ todo.eraseIdx b := mem_erase hb
                have hmin' : ∀ x ∈ todo, todo[b].long ≤ x.long := fun x hx => by
                  obtain ⟨j, hj, rfl⟩ := List.getElem_of_mem hx
                  exact hmin j hj (by omega)
                have hel : (todo.eraseIdx b).length = todo.length - 1 := by rw [List.length_eraseIdx, if_pos hb]
                have hgm : goodW todo[b].more := good_rest hg he.rch.rest
                have hsm := he.small hne
                have hbnd := hV.bound _ (List.getElem_mem hb)
                generalize todo[b] = e at *
                have tp : τ.get p = some (.cells 98 [encSS e.more, .int .i64 (e.long : Int), .sl e.ob e.behind.length (e.behind.map (.int .i64)), .sl e.oa e.ahead.length (e.ahead.map (.int .i64))]) := by
                  rw [hτ, Heap.set_ne _ _ (by omega), hp, Heap.new_same]
                have tn : τ.next = p + 1 := by rw [hτ, Heap.next_set, Heap.next_new, hp]
                have tq : τ.get q = some (.cells 98 (cellsR (todo.eraseIdx b) ++ js')) := by rw [hτ, Heap.set_same]
                have hA3 : AccR 98 4 (baseC σ m es c) (todo.length - 1) (cellsR (todo.eraseIdx b)) (.row q 0 (todo.length - 1) none 4) τ := by
                  refine ⟨?_, by rw [cellsR_len, hel], .inr ⟨q, js', hq0, by omega, rfl, tq⟩⟩
                  rw [hτ]
                  exact (hA.le.new _ (baseC_lt hcl hσm)).set _ hq0
                clear hτ
                by_cases hm0 : e.more = []
                · have c1 : ((e.more.length : Int) == 0) = true := by rw [hm0]; rfl
                  simp -dsimp only [h4, h78, h79, h80, h10, h9, h0, ← hp, tp, encSS, c1, ↓preB, postB, genB, ↓reduceIte, Nat.reduceEqDiff, Int.reduceToNat, Int.reduceLE, Int.reduceLT, Nat.reduceAdd, Nat.reduceLeDiff, intBin, strBin, unD, extractD, lit1, lit2, lit3, keptD, boxR, D.one, D.pub1, D.cells, splice, cutOwn]
                  intros
                  have hle : HLe σ τ := (baseC_le hcl hσm).trans hA3.le
                  have hj := he.join
                  rw [hm0, List.append_nil] at hj
                  have hr := he.rch
                  rw [hm0, he.len, hj] at hr
                  refine Ret.told σ (encTwo (some (e.behind, e.ahead))) (Nat.le_refl _) hle hcl (told_two _ _) (bel_encTwo _) ⟨rfl, _, rfl, ?_⟩
                  rw [SpecC, hfi]
                  refine ⟨he.unlike, he.nb, he.na, hj.symm, hr, fun m' hm' => ?_, by omega, by omega⟩
                  have := hV.least hmin' hm'
                  rw [he.len, hj] at this
                  exact this
                · have c1 : ((e.more.length : Int) == 0) = false := by
                    have := List.length_pos_iff.2 hm0
                    rw [beq_eq_false_iff_ne]; omega
                  have hdg : ∀ p ∈ dn, goodW p.1 := fun p hp => good_rest hg (hV.non p hp).2
                  have hmg := hA3.le.get m _ baseC_map
                  obtain ⟨f1, f2⟩ := hM.find hdg hgm
                  simp -dsimp only [h4, h78, h79, h80, h10, h9, h0, ← hp, tp, encSS, c1, ↓preB, postB, genB, ↓reduceIte, Nat.reduceEqDiff, Int.reduceToNat, Int.reduceLE, Int.reduceLT, Nat.reduceAdd, Nat.reduceLeDiff, intBin, strBin, unD, extractD, lit1, lit2, lit3, keptD, boxR, D.one, D.pub1, D.cells, splice, cutOwn]
                  intros
                  refine Fn.use (key_c _ hgm) ?_
                  by_cases hdn : e.more ∈ dn.map (·.1)
                  · obtain ⟨j, f1⟩ := f1 hdn
                    simp -dsimp only [h4, h78, h79, h80, h10, h9, h0, ← hp, tp, encSS, c1, look77 hmg f1, Option.getD_some, ↓preB, postB, genB, ↓reduceIte, Nat.reduceEqDiff, Int.reduceToNat, Int.reduceLE, Int.reduceLT, Nat.reduceAdd, Nat.reduceLeDiff, intBin, strBin, unD, extractD, lit1, lit2, lit3, keptD, boxR, D.one, D.pub1, D.cells, splice, cutOwn]
                    exact ⟨(todo.eraseIdx b, dn, es, c), ⟨hV.skip hmem hdn, by simp only [hel]; omega, fun x hx => how x ((hmem x).2 (.inr hx)), by rw [hel]; exact hA3, hM⟩, by simp only [leftR, hel]; omega⟩
                  · have f2 := f2 hdn
                    simp -dsimp only [h4, h78, h79, h80, h10, h9, h0, ← hp, tp, encSS, c1, look77 hmg f2, Option.getD_none, ↓preB, postB, genB, ↓reduceIte, Nat.reduceEqDiff, Int.reduceToNat, Int.reduceLE, Int.reduceLT, Nat.reduceAdd, Nat.reduceLeDiff, intBin, strBin, unD, extractD, lit1, lit2, lit3, keptD, boxR, D.one, D.pub1, D.cells, splice, cutOwn]
                    refine Fn.use (key_c _ hgm) ?_
                    simp -dsimp only [h4, h78, h79, h80, h10, h9, h0, ← hp, tp, encSS, c1, upd77 hmg f2, ↓preB, postB, genB, ↓reduceIte, Nat.reduceEqDiff, Int.reduceToNat, Int.reduceLE, Int.reduceLT, Nat.reduceAdd, Nat.reduceLeDiff, intBin, strBin, unD, extractD, lit1, lit2, lit3, keptD, boxR, D.one, D.pub1, D.cells, splice, cutOwn]
                    intros
                    obtain ⟨es', hes⟩ : ∃ es', es' = es ++ [⟨c, .str (keyB e.more sp), .bool true⟩] := ⟨_, rfl⟩
                    have hM' : MapC es' ((e.more, e.long) :: dn) := hes ▸ hM.add e.more e.long c
                    obtain ⟨B2, hB2⟩ : ∃ B2 : Heap, B2 = ⟨p + 1, fun i => if i = p then some (.cells 98 [encSS e.more, .int .i64 (e.long : Int), .sl e.ob e.behind.length (e.behind.map (.int .i64)), .sl e.oa e.ahead.length (e.ahead.map (.int .i64))]) else (baseC σ m es' (c + 1)).get i⟩ := ⟨_, rfl⟩
                    have B2p : B2.get p = some (.cells 98 [encSS e.more, .int .i64 (e.long : Int), .sl e.ob e.behind.length (e.behind.map (.int .i64)), .sl e.oa e.ahead.length (e.ahead.map (.int .i64))]) := by rw [hB2]; simp only [if_true]
                    have B2lt : ∀ r o, B2.get r = some o → r < B2.next := fun r o h => by
                      rw [hB2] at h ⊢
                      simp only at h ⊢
                      split at h
                      · omega
                      · have := baseC_lt hcl hσm r o h; simp only [baseC] at this; omega
                    have B2le : HLe (baseC σ m es' (c + 1)) B2 := ⟨by rw [hB2]; simp only [baseC]; omega, fun r o h => by
                      have := baseC_lt hcl hσm r o h
                      simp only [baseC] at this
                      rw [hB2]; simp only; rw [if_neg (by omega)]; exact h⟩
                    have hqm : q ≠ m := fun h => by rw [h, baseC_map] at hq0; cases hq0
                    have hqσ : σ.get q = none := by simp only [baseC] at hq0; rw [if_neg hqm] at hq0; exact hq0
                    have hA4 : AccR 98 4 B2 (todo.length - 1) (cellsR (todo.eraseIdx b)) (.row q 0 (todo.length - 1) none 4) (τ.set m (.map es' (c + 1))) := by
                      refine ⟨⟨by rw [hB2, Heap.next_set]; simp only; omega, fun r o h => ?_⟩, by rw [cellsR_len, hel], .inr ⟨q, js', ?_, by rw [Heap.next_set]; omega, rfl, by rw [Heap.set_ne _ _ hqm]; exact tq⟩⟩
                      · rw [hB2] at h
                        simp only at h
                        split at h
                        · rename_i hr; subst hr; rw [Heap.set_ne _ _ (by omega), ← h]; exact tp
                        · simp only [baseC] at h
                          split at h
                          · rename_i hr; subst hr; rw [Heap.set_same]; exact h
                          · rename_i hr; rw [Heap.set_ne _ _ hr]
                            refine hA3.le.get r o ?_
                            simp only [baseC]; rw [if_neg hr]; exact h
                      · rw [hB2]; simp only; rw [if_neg (by omega)]; simp only [baseC]; rw [if_neg hqm]; exact hqσ
                    have hMid := hV.take hmem hmin' hm0 hdn
                    rw [← hes]
                    generalize τ.set m (.map es' (c + 1)) = s4 at hA4 ⊢
                    simp -dsimp only [h4, h78, h79, h80, h10, h9, h0, ← hp, encLL, ↓preB, postB, genB, ↓reduceIte, Nat.reduceEqDiff, Int.reduceToNat, Int.reduceLE, Int.reduceLT, Nat.reduceAdd, Nat.reduceLeDiff, intBin, strBin, unD, extractD, lit1, lit2, lit3, keptD, boxR, D.one, D.pub1, D.cells, splice, cutOwn]
                    intros
                    refine pwp_loopG (fun (x : Nat × List Race) env s => x.1 ≤ l.length ∧ MidR l x.2 dn e x.1 ∧ x.2.length ≤ todo.length + x.1 ∧ ownsOK x.2 ∧ AccR 98 4 B2 x.2.length (cellsR x.2) (env 4) s ∧ env 124 = .int .i64 (x.1 : Nat) ∧ env 123 = .int .i64 l.length ∧ env 122 = encLL l ∧ env 13 = .ptr p 0 ∧ env 9 = .map m ∧ env 0 = encLL l) (fun x => l.length - x.1) (0, todo.eraseIdx b) ?_ ?_
                    · simp only [upd_apply, Nat.reduceEqDiff, if_true, if_false, h9, h0, hp]
                      refine ⟨Nat.zero_le _, hMid, by simp only [hel]; omega, fun x hx => how x ((hmem x).2 (.inr hx)), by rw [hel]; exact hA4, rfl, trivial, trivial, trivial, trivial, trivial⟩
                    · rintro ⟨k, td⟩ env s ⟨hk, hMid, htl, how2, hA, h124, h123, h122, h13, h9, h0⟩
                      simp only at hk hMid htl how2 hA h124
                      have hsp := hA.le.get p _ B2p
                      rcases Nat.lt_or_ge k l.length with hltk | hgek
                      · have hxk : l[k]? = some l[k] := List.getElem?_eq_getElem hltk
                        have hp0 : 0 < l.length := by omega
                        simp -dsimp only [h124, h123, h122, h13, h9, h0, encLL, hltk, hxk, hp0, hsp, ↓preB, postB, genB, ↓reduceIte, Nat.reduceEqDiff, Int.reduceToNat, Int.reduceLE, Int.reduceLT, Nat.reduceAdd, Nat.reduceLeDiff, intBin, strBin, unD, extractD, lit1, lit2, lit3, keptD, boxR, D.one, D.pub1, D.cells, splice, cutOwn]
                        intros
                        obtain ⟨i0, k0, bt, at', hb1, ha1, hik⟩ := he.apart
                        have hb0 : e.behind ≠ [] := by rw [hb1]; simp
                        have hbl : e.behind.length ≤ 2000 := by omega
                        refine PCall.use (clone_c e.behind e.ob howe.1 hb0 (by omega) s) fun d1 s1 ⟨hc1, hAc⟩ => ?_
                        simp -dsimp only [h124, h123, h122, h13, h9, h0, encLL, hltk, hxk, hp0, hsp, ↓preB, postB, genB, ↓reduceIte, Nat.reduceEqDiff, Int.reduceToNat, Int.reduceLE, Int.reduceLT, Nat.reduceAdd, Nat.reduceLeDiff, intBin, strBin, unD, extractD, lit1, lit2, lit3, keptD, boxR, D.one, D.pub1, D.cells, splice, cutOwn]
                        refine hAc.append (m := 1) hc1 tz56 rfl tz3 rfl rfl rfl (by decide) (by simp) (fedBy_sl tz56 rfl rfl) (by simp only []; omega) (by simp only [big]; omega) fun d2 s2 hAc2 => ?_
                        obtain ⟨o2, ho2, ho2n⟩ : ∃ o, d2 = .sl o (e.behind ++ [(k : Int)]).length ((e.behind ++ [(k : Int)]).map (.int .i64)) ∧ o ≠ .nil := by
                          rcases hAc2 with ⟨_, h, _⟩ | ⟨h, _⟩ | ⟨r, _, h, _⟩
                          · omega
                          · exact ⟨.full, by rw [h]; simp, by simp⟩
                          · exact ⟨.tip r 1, by rw [h]; simp, by simp⟩
                        subst ho2
                        have hA2 := hA.mono hAc2.le
                        have hsp2 := hA2.le.get p _ B2p
                        have hwk := h8 _ (List.getElem_mem hltk)
                        have htl2 : td.length ≤ 10000 := by omega
                        simp -dsimp only [h124, h123, h122, h13, h9, h0, encLL, hltk, hxk, hp0, hsp2, ↓preB, postB, genB, ↓reduceIte, Nat.reduceEqDiff, Int.reduceToNat, Int.reduceLE, Int.reduceLT, Nat.reduceAdd, Nat.reduceLeDiff, intBin, strBin, unD, extractD, lit1, lit2, lit3, keptD, boxR, D.one, D.pub1, D.cells, splice, cutOwn]
                        refine Fn.use (begins_c _ _) ?_
                        cases c2 : begW e.more l[k]
                        · simp -dsimp only [h124, h123, h122, h13, h9, h0, encLL, hltk, hxk, hp0, hsp2, c2, ↓preB, postB, genB, ↓reduceIte, Nat.reduceEqDiff, Int.reduceToNat, Int.reduceLE, Int.reduceLT, Nat.reduceAdd, Nat.reduceLeDiff, intBin, strBin, unD, extractD, lit1, lit2, lit3, keptD, boxR, D.one, D.pub1, D.cells, splice, cutOwn]
                          refine Fn.use (begins_c _ _) ?_
                          cases c3 : begW l[k] e.more
                          · simp -dsimp only [h124, h123, h122, h13, h9, h0, encLL, hltk, hxk, hp0, hsp2, c2, c3, ↓preB, postB, genB, ↓reduceIte, Nat.reduceEqDiff, Int.reduceToNat, Int.reduceLE, Int.reduceLT, Nat.reduceAdd, Nat.reduceLeDiff, intBin, strBin, unD, extractD, lit1, lit2, lit3, keptD, boxR, D.one, D.pub1, D.cells, splice, cutOwn]
                            have hMid2 := hMid.add hltk [] (fun x hx => absurd hx (by simp)) (fun h => by rw [c2] at h; cases h) (fun _ h => by rw [c3] at h; cases h)
                            rw [List.append_nil] at hMid2
                            exact ⟨(k + 1, td), ⟨by simp only; omega, hMid2, by simp only; omega, how2, hA2, wrap64_succ (by omega)⟩, by simp only; omega⟩
                          · have hle := begW_le c3
                            simp -dsimp only [h124, h123, h122, h13, h9, h0, encLL, hltk, hxk, hp0, hsp2, c2, c3, ↓preB, postB, genB, ↓reduceIte, Nat.reduceEqDiff, Int.reduceToNat, Int.reduceLE, Int.reduceLT, Nat.reduceAdd, Nat.reduceLeDiff, intBin, strBin, unD, extractD, lit1, lit2, lit3, keptD, boxR, D.one, D.pub1, D.cells, splice, cutOwn]
                            refine draw_t 20 (by decide) ?_
                            simp -dsimp only [h124, h123, h122, h13, h9, h0, encLL, encSS, hltk, hxk, hp0, hsp2, c2, c3, ab76, bs74, ↓preB, postB, genB, ↓reduceIte, Nat.reduceEqDiff, Int.reduceToNat, Int.reduceLE, Int.reduceLT, Nat.reduceAdd, Nat.reduceLeDiff, intBin, strBin, unD, extractD, lit1, lit2, lit3, keptD, boxR, D.one, D.pub1, D.cells, splice, cutOwn]
                            refine ⟨⟨by omega, by omega⟩, ?_⟩
                            have hw : IntKind.i64.wrap (IntKind.i64.wrap ((e.long : Int) + (l[k].length : Int)) - (e.more.length : Int)) = ((e.long + (l[k].length - e.more.length) : Nat) : Int) := by
                              have hw1 : IntKind.i64.wrap ((e.long : Int) + (l[k].length : Int)) = (e.long : Int) + (l[k].length : Int) := wrap64_in (by omega) (by omega)
                              rw [hw1, wrap64_in (by omega) (by omega)]
                              omega
                            rw [encSS_cut hle, hw]
                            refine hA2.append (m := 1) B2lt tz96 rfl tz98 rfl rfl rfl (by decide) (fedBy_sl tz96 rfl rfl) (by decide) (by simp only []; omega) (by simp only [big]; omega) fun d' s' hA' => ?_
                            simp -dsimp only [h124, h123, h122, h13, h9, h0, ↓preB, postB, genB, ↓reduceIte, Nat.reduceEqDiff, Int.reduceToNat, Int.reduceLE, Int.reduceLT, Nat.reduceAdd, Nat.reduceLeDiff, intBin, strBin, unD, extractD, lit1, lit2, lit3, keptD, boxR, D.one, D.pub1, D.cells, splice, cutOwn]
                            have hMid2 := hMid.add hltk [⟨l[k].drop e.more.length, e.long + (l[k].length - e.more.length), e.ahead, e.behind ++ [(k : Int)], e.oa, o2⟩] (fun x hx => by
                              rw [List.mem_singleton] at hx
                              subst hx
                              exact ⟨he.ext hm0 hltk c3 o2, by simp only; omega, by simp only; omega⟩) (fun h => by rw [c2] at h; cases h) (fun _ _ => ⟨_, List.mem_singleton.2 rfl, rfl, rfl⟩)
                            refine ⟨(k + 1, td ++ [⟨l[k].drop e.more.length, e.long + (l[k].length - e.more.length), e.ahead, e.behind ++ [(k : Int)], e.oa, o2⟩]), ⟨by simp only; omega, hMid2, by simp only [List.length_append, List.length_cons, List.length_nil]; omega, fun x hx => ?_, by rw [cellsR_append, List.length_append]; exact hA', wrap64_succ (by omega), rfl, rfl⟩, by simp only; omega⟩
                            rcases List.mem_append.1 hx with hx | hx
                            · exact how2 x hx
                            · rw [List.mem_singleton] at hx; subst hx; exact ⟨howe.2, ho2n⟩
                        · have hle := begW_le c2
                          simp -dsimp only [h124, h123, h122, h13, h9, h0, encLL, hltk, hxk, hp0, hsp2, c2, ↓preB, postB, genB, ↓reduceIte, Nat.reduceEqDiff, Int.reduceToNat, Int.reduceLE, Int.reduceLT, Nat.reduceAdd, Nat.reduceLeDiff, intBin, strBin, unD, extractD, lit1, lit2, lit3, keptD, boxR, D.one, D.pub1, D.cells, splice, cutOwn]
                          refine draw_t 13 (by decide) ?_
                          simp -dsimp only [h124, h123, h122, h13, h9, h0, encLL, encSS, hltk, hxk, hp0, hsp2, c2, ab76, bs74, ↓preB, postB, genB, ↓reduceIte, Nat.reduceEqDiff, Int.reduceToNat, Int.reduceLE, Int.reduceLT, Nat.reduceAdd, Nat.reduceLeDiff, intBin, strBin, unD, extractD, lit1, lit2, lit3, keptD, boxR, D.one, D.pub1, D.cells, splice, cutOwn]
                          refine ⟨⟨by omega, by omega⟩, ?_⟩
                          rw [encSS_cut hle]
                          refine hA2.append (m := 1) B2lt tz96 rfl tz98 rfl rfl rfl (by decide) (fedBy_sl tz96 rfl rfl) (by decide) (by simp only []; omega) (by simp only [big]; omega) fun d' s' hA' => ?_
                          simp -dsimp only [h124, h123, h122, h13, h9, h0, ↓preB, postB, genB, ↓reduceIte, Nat.reduceEqDiff, Int.reduceToNat, Int.reduceLE, Int.reduceLT, Nat.reduceAdd, Nat.reduceLeDiff, intBin, strBin, unD, extractD, lit1, lit2, lit3, keptD, boxR, D.one, D.pub1, D.cells, splice, cutOwn]
                          have hMid2 := hMid.add hltk [⟨e.more.drop l[k].length, e.long, e.behind ++ [(k : Int)], e.ahead, o2, e.oa⟩] (fun x hx => by
                            rw [List.mem_singleton] at hx
                            subst hx
                            exact ⟨he.cut hm0 hltk c2 o2, Nat.le_refl _, by simp only; omega⟩) (fun _ => ⟨_, List.mem_singleton.2 rfl, rfl, rfl⟩) (fun h _ => by rw [c2] at h; cases h)
                          refine ⟨(k + 1, td ++ [⟨e.more.drop l[k].length, e.long, e.behind ++ [(k : Int)], e.ahead, o2, e.oa⟩]), ⟨by simp only; omega, hMid2, by simp only [List.length_append, List.length_cons, List.length_nil]; omega, fun x hx => ?_, by rw [cellsR_append, List.length_append]; exact hA', wrap64_succ (by omega), rfl, rfl⟩, by simp only; omega⟩
                          rcases List.mem_append.1 hx with hx | hx
                          · exact how2 x hx
                          · rw [List.mem_singleton] at hx; subst hx; exact ⟨ho2n, howe.2⟩
                      · simp -dsimp only [h124, h123, h122, h13, h9, h0, encLL, Nat.not_lt.2 hgek, ↓preB, postB, genB, ↓reduceIte, Nat.reduceEqDiff, Int.reduceToNat, Int.reduceLE, Int.reduceLT, Nat.reduceAdd, Nat.reduceLeDiff, intBin, strBin, unD, extractD, lit1, lit2, lit3, keptD, boxR, D.one, D.pub1, D.cells, splice, cutOwn]
                        have hkl : k = l.length := by omega
                        subst hkl
                        have hV' := hMid.done
                        have hdl' := hV'.dnlen
                        simp only [List.length_cons] at hdl'
                        refine ⟨(td, (e.more, e.long) :: dn, es', c + 1), ⟨hV', by simp only [List.length_cons]; omega, how2, hA.base (B2le.trans hA.le) (fun q' hq' => ?_), hM'⟩, by simp only [leftR, List.length_cons]; omega⟩
                        rcases hA.2.2 with ⟨h1, _⟩ | ⟨q2, js2, a, b', c', d⟩
                        · rw [h1] at hq'; cases hq'
                        · rw [c'] at hq'
                          cases hq'
                          simp only
                          cases hx : (baseC σ m es' (c + 1)).get q' with
                          | none => rfl
                          | some o => rw [B2le.get q' o hx] at a; cases a
end Go.Proofs.YtldlcejlfaogbaaDoor.Vs
