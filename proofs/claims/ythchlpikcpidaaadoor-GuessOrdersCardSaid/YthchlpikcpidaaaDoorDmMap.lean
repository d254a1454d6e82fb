/- The engine 'Dm', part 15: maps by lists of pairs. -/
import Derived.Test.YthchlpikcpidaaaDoorDmLib2
namespace Go.Proofs.YthchlpikcpidaaaDoor.Vs
open Go.RowKit
set_option linter.unusedVariables false
set_option linter.unusedSimpArgs false
set_option linter.unusedSectionVars false
section
variable {κ ν : Type} [DecidableEq κ]
def lkp : List (κ × ν) → κ → Option ν
  | [], _ => none
  | p :: m, k => if p.1 = k then some p.2 else lkp m k
def insA : List (κ × ν) → κ → ν → List (κ × ν)
  | [], k, v => [(k, v)]
  | p :: m, k, v => if p.1 = k then (k, v) :: m else p :: insA m k v
def delA : List (κ × ν) → κ → List (κ × ν)
  | [], _ => []
  | p :: m, k => if p.1 = k then m else p :: delA m k
def findA : List (κ × ν) → κ → Nat → Option (Nat × ν)
  | [], _, _ => none
  | p :: m, k, i => if p.1 = k then some (i, p.2) else findA m k (i + 1)

theorem lkp_ins : ∀ (m : List (κ × ν)) (k k' : κ) (v : ν), lkp (insA m k v) k' = if k = k' then some v else lkp m k'
  | [], k, k', v => by simp [insA, lkp]
  | p :: m, k, k', v => by
    by_cases h : p.1 = k
    · subst h
      by_cases h' : p.1 = k' <;> simp [insA, lkp, h']
    · by_cases h' : p.1 = k'
      · have : ¬ k = k' := fun e => h (h'.trans e.symm)
        have e1 : insA (p :: m) k v = p :: insA m k v := by simp only [insA, if_neg h]
        rw [e1]; simp only [lkp, if_pos h', if_neg this]
      · simp [insA, lkp, h, h', lkp_ins m k k' v]
theorem lkp_none : ∀ {m : List (κ × ν)} {k : κ}, lkp m k = none ↔ k ∉ m.map Prod.fst
  | [], k => by simp [lkp]
  | p :: m, k => by
    by_cases h : p.1 = k
    · simp [lkp, h]
    · have h' : ¬ k = p.1 := fun e => h e.symm
      simp [lkp, h, h', lkp_none (m := m) (k := k)]
theorem lkp_mem : ∀ {m : List (κ × ν)} {k : κ} {v : ν}, lkp m k = some v → (k, v) ∈ m
  | [], k, v, h => by cases h
  | p :: m, k, v, h => by
    simp only [lkp] at h
    split at h
    · rename_i hp; cases h; subst hp; exact List.mem_cons_self
    · exact List.mem_cons_of_mem _ (lkp_mem h)
theorem mem_lkp : ∀ {m : List (κ × ν)} {k : κ} {v : ν}, (m.map Prod.fst).Nodup → (k, v) ∈ m → lkp m k = some v
  | [], k, v, _, h => by cases h
  | p :: m, k, v, hn, h => by
    rw [List.map_cons, List.nodup_cons] at hn
    rcases List.mem_cons.1 h with rfl | h
    · simp [lkp]
    · have : p.1 ≠ k := fun e => hn.1 (by rw [e]; exact List.mem_map.2 ⟨_, h, rfl⟩)
      simp only [lkp, if_neg this]
      exact mem_lkp hn.2 h
theorem keys_ins : ∀ (m : List (κ × ν)) (k : κ) (v : ν), (insA m k v).map Prod.fst = if k ∈ m.map Prod.fst then m.map Prod.fst else m.map Prod.fst ++ [k]
  | [], k, v => by simp [insA]
  | p :: m, k, v => by
    by_cases h : p.1 = k
    · simp [insA, h]
    · have h' : ¬ k = p.1 := fun e => h e.symm
      simp only [insA, if_neg h, List.map_cons, keys_ins m k v, List.mem_cons, h', false_or]
      split <;> simp
theorem nodup_ins {m : List (κ × ν)} (h : (m.map Prod.fst).Nodup) (k : κ) (v : ν) : ((insA m k v).map Prod.fst).Nodup := by
  rw [keys_ins]
  split
  · exact h
  · rename_i hk
    rw [List.nodup_append]
    exact ⟨h, by simp, fun a ha b hb => by simp at hb; subst hb; exact fun e => hk (e ▸ ha)⟩
theorem del_sub : ∀ (m : List (κ × ν)) (k : κ), (delA m k).Sublist m
  | [], _ => List.Sublist.refl _
  | p :: m, k => by
    simp only [delA]
    split
    · exact List.sublist_cons_self _ _
    · exact (del_sub m k).cons_cons _
theorem nodup_del {m : List (κ × ν)} (h : (m.map Prod.fst).Nodup) (k : κ) : ((delA m k).map Prod.fst).Nodup := h.sublist ((del_sub m k).map _)
theorem lkp_del : ∀ {m : List (κ × ν)} (h : (m.map Prod.fst).Nodup) (k k' : κ), lkp (delA m k) k' = if k = k' then none else lkp m k'
  | [], _, k, k' => by simp [delA, lkp]
  | p :: m, h, k, k' => by
    rw [List.map_cons, List.nodup_cons] at h
    by_cases hp : p.1 = k
    · subst hp
      by_cases h' : p.1 = k'
      · subst h'
        simp only [delA, if_true]
        exact lkp_none.2 h.1
      · simp [delA, lkp, h']
    · by_cases h' : p.1 = k'
      · have : ¬ k = k' := fun e => hp (h'.trans e.symm)
        have e1 : delA (p :: m) k = p :: delA m k := by simp only [delA, if_neg hp]
        rw [e1]; simp only [lkp, if_pos h', if_neg this]
      · simp [delA, lkp, hp, h', lkp_del h.2 k k']
theorem insA_twice : ∀ (m : List (κ × ν)) (k : κ) (v v' : ν), insA (insA m k v) k v' = insA m k v'
  | [], k, v, v' => by simp [insA]
  | p :: m, k, v, v' => by
    by_cases h : p.1 = k
    · simp [insA, h]
    · simp [insA, h, insA_twice m k v v']
theorem findA_none : ∀ {m : List (κ × ν)} {k : κ} {i : Nat}, findA m k i = none → lkp m k = none ∧ ∀ v, insA m k v = m ++ [(k, v)]
  | [], k, i, _ => ⟨rfl, fun _ => rfl⟩
  | p :: m, k, i, h => by
    simp only [findA] at h
    split at h
    · cases h
    · rename_i hp
      obtain ⟨h1, h2⟩ := findA_none h
      exact ⟨by simp only [lkp, if_neg hp, h1], fun v => by simp only [insA, if_neg hp, h2, List.cons_append]⟩
theorem findA_some : ∀ {m : List (κ × ν)} {k : κ} {i j : Nat} {v : ν}, findA m k i = some (j, v) → i ≤ j ∧ m[j - i]? = some (k, v) ∧ lkp m k = some v ∧ (∀ v', insA m k v' = m.set (j - i) (k, v')) ∧ delA m k = m.eraseIdx (j - i)
  | [], k, i, j, v, h => by cases h
  | p :: m, k, i, j, v, h => by
    simp only [findA] at h
    split at h
    · rename_i hp
      cases h
      subst hp
      simp [lkp, insA, delA]
    · rename_i hp
      obtain ⟨h1, h2, h3, h4, h5⟩ := findA_some h
      have hj : j - i = (j - (i + 1)) + 1 := by omega
      exact ⟨by omega, by rw [hj]; simpa using h2, by simp only [lkp, if_neg hp, h3], fun v' => by rw [hj]; simp only [insA, if_neg hp, h4, List.set_cons_succ], by rw [hj]; simp only [delA, if_neg hp, h5, List.eraseIdx_cons_succ]⟩
theorem insA_same : ∀ {m : List (κ × ν)} {k : κ} {v : ν}, lkp m k = some v → insA m k v = m
  | [], k, v, h => by cases h
  | p :: m, k, v, h => by
    simp only [lkp] at h
    simp only [insA]
    split at h
    · rename_i hp; cases h; subst hp; rw [if_pos rfl]
    · rename_i hp; rw [if_neg hp, insA_same h]
end
structure KeyOf {κ : Type} [DecidableEq κ] (Z : Sys) (kt : TypeId) (enc : κ → D) : Prop where
  fits : ∀ k, keyFits Z kt (enc k) = true
  eq : ∀ a b, keyEq Z kt (enc a) (enc b) = some (decide (a = b))

theorem map_erase {α β : Type} (f : α → β) : ∀ (l : List α) (i : Nat), (l.eraseIdx i).map f = (l.map f).eraseIdx i
  | [], i => by simp
  | a :: l, 0 => by simp
  | a :: l, i + 1 => by simp [map_erase f l i]
section
variable {κ ν : Type} [DecidableEq κ] {Z : Sys} {kt et t : TypeId} {it ie : TInfo} {enc : κ → D} {encv : ν → D}
def MapIs (enc : κ → D) (encv : ν → D) (m : List (κ × ν)) (es : List ME) (clk : Nat) : Prop :=
  es.map (fun e => (e.key, e.val)) = m.map (fun p => (enc p.1, encv p.2)) ∧ (∀ e ∈ es, e.born < clk) ∧ (es.map (·.born)).Nodup
theorem MapIs.nil : MapIs enc encv ([] : List (κ × ν)) [] 0 := ⟨rfl, fun _ h => (by cases h), by simp⟩
theorem MapIs.len {m : List (κ × ν)} {es : List ME} {clk : Nat} (h : MapIs enc encv m es clk) : es.length = m.length := by
  have := congrArg List.length h.1
  simpa using this
theorem MapIs.at {m : List (κ × ν)} {es : List ME} {clk : Nat} (h : MapIs enc encv m es clk) {i : Nat} {k : κ} {v : ν} (hi : m[i]? = some (k, v)) : ∃ b, es[i]? = some ⟨b, enc k, encv v⟩ := by
  have := congrArg (fun l => l[i]?) h.1
  simp only [List.getElem?_map, hi, Option.map_some] at this
  cases he : es[i]? with
  | none => rw [he] at this; cases this
  | some e =>
    rw [he] at this
    simp only [Option.map_some, Option.some.injEq, Prod.mk.injEq] at this
    exact ⟨e.born, by rw [← this.1, ← this.2]⟩
theorem find_is (hk : KeyOf Z kt enc) (k : κ) : ∀ (es : List ME) (m : List (κ × ν)) (i : Nat), es.map (fun e => (e.key, e.val)) = m.map (fun p => (enc p.1, encv p.2)) → findD Z kt (enc k) es i = some ((findA m k i).map fun q => (q.1, encv q.2))
  | [], [], i, _ => rfl
  | [], _ :: _, i, h => by simp at h
  | _ :: _, [], i, h => by simp at h
  | e :: es, p :: m, i, h => by
    simp only [List.map_cons, List.cons.injEq, Prod.mk.injEq] at h
    obtain ⟨⟨h1, h2⟩, h3⟩ := h
    simp only [findD, h1, hk.eq, findA]
    by_cases hp : p.1 = k
    · rw [if_pos hp, decide_eq_true hp.symm]; simp [h2]
    · rw [if_neg hp, decide_eq_false fun e => hp e.symm]
      exact find_is hk k es m (i + 1) h3
theorem lookup_is {g : Nat → Option AO} {m : List (κ × ν)} {es : List ME} {clk r : Nat} {z : D} (hk : KeyOf Z kt enc) (ht : Z.T t = some it) (hd : it.d = .map kt et) (he : Z.T et = some ie) (hz : zeroD ie = some z) (hr : g r = some (.map es clk)) (hm : MapIs enc encv m es clk) (k : κ) :
    lookupD Z g t (.map r) (enc k) false = some (((lkp m k).map encv).getD z) := by
  unfold lookupD
  simp only [ht, hd, he, mapEnts, hr, hk.fits, if_true, find_is hk k es m 0 hm.1]
  cases hf : findA m k 0 with
  | none => simp [(findA_none hf).1, hz]
  | some q =>
    obtain ⟨i, v⟩ := q
    obtain ⟨_, _, h3, _⟩ := findA_some hf
    simp [h3]
theorem lookup_nil {g : Nat → Option AO} {z : D} (hk : KeyOf Z kt enc) (ht : Z.T t = some it) (hd : it.d = .map kt et) (he : Z.T et = some ie) (hz : zeroD ie = some z) (k : κ) :
    lookupD Z g t .nilmap (enc k) false = some z := by
  unfold lookupD
  simp only [ht, hd, he, mapEnts, hk.fits, if_true, findD, hz]
  rfl

theorem nodup_born {es : List ME} (h : (es.map (·.born)).Nodup) : ∀ {i j : Nat} {a b : ME}, es[i]? = some a → es[j]? = some b → a.born = b.born → i = j := fun {i j a b} h1 h2 h3 => by
  obtain ⟨hi, rfl⟩ := List.getElem?_eq_some_iff.1 h1
  obtain ⟨hj, rfl⟩ := List.getElem?_eq_some_iff.1 h2
  exact (List.getElem_inj (h₀ := by simpa using hi) (h₁ := by simpa using hj) h).1 (by simpa using h3)
theorem MapIs.modify {m : List (κ × ν)} {es : List ME} {clk : Nat} (h : MapIs enc encv m es clk) {i : Nat} {k : κ} {v v' : ν} (hi : m[i]? = some (k, v)) (f : ME → ME) (hf : ∀ b, f ⟨b, enc k, encv v⟩ = ⟨b, enc k, encv v'⟩) : MapIs enc encv (m.set i (k, v')) (es.modify i f) clk := by
  obtain ⟨b, hb⟩ := h.at hi
  obtain ⟨hlt, hbe⟩ := List.getElem?_eq_some_iff.1 hb
  have e0 : es.modify i f = es.set i ⟨b, enc k, encv v'⟩ := by
    apply List.ext_getElem?
    intro j
    rw [List.getElem?_modify, List.getElem?_set]
    by_cases hij : i = j
    · subst hij; simp only [if_true, hb, hlt, hbe, hf, Functor.map, Option.map_some]
    · simp [hij]
  rw [e0]
  refine ⟨?_, ?_, ?_⟩
  · rw [List.map_set, List.map_set, h.1]
  · intro e he
    rcases List.mem_or_eq_of_mem_set he with he | rfl
    · exact h.2.1 e he
    · have := h.2.1 _ (List.mem_of_getElem? hb); exact this
  · rw [List.map_set]
    have : (es.map (·.born)).set i b = es.map (·.born) := by
      apply List.ext_getElem?
      intro j
      rw [List.getElem?_set]
      split
      · rename_i hij; subst hij; simp [hlt, hbe]
      · rfl
    rw [this]; exact h.2.2
theorem MapIs.push {m : List (κ × ν)} {es : List ME} {clk : Nat} (h : MapIs enc encv m es clk) (k : κ) (v : ν) : MapIs enc encv (m ++ [(k, v)]) (es ++ [⟨clk, enc k, encv v⟩]) (clk + 1) := by
  refine ⟨by simp [h.1], fun e he => ?_, ?_⟩
  · rcases List.mem_append.1 he with he | he
    · have := h.2.1 e he; omega
    · simp at he; subst he; exact Nat.lt_succ_self _
  · rw [List.map_append, List.nodup_append]
    refine ⟨h.2.2, by simp, fun a ha b hb => ?_⟩
    obtain ⟨e, he, rfl⟩ := List.mem_map.1 ha
    simp at hb
    have := h.2.1 e he
    omega
theorem MapIs.erase {m : List (κ × ν)} {es : List ME} {clk : Nat} (h : MapIs enc encv m es clk) (i : Nat) : MapIs enc encv (m.eraseIdx i) (es.eraseIdx i) clk := by
  refine ⟨by rw [map_erase, map_erase, h.1], fun e he => h.2.1 e (List.mem_of_mem_eraseIdx he), ?_⟩
  rw [map_erase]
  exact h.2.2.sublist (List.eraseIdx_sublist _ _)
theorem upd_is {m : List (κ × ν)} {es : List ME} {clk : Nat} (hk : KeyOf Z kt enc) (hm : MapIs enc encv m es clk) (k : κ) (v : ν) :
    ∃ q, findD Z kt (enc k) es 0 = some q ∧ MapIs enc encv (insA m k v) (setD es q (enc k) (encv v) clk).1 (setD es q (enc k) (encv v) clk).2 := by
  refine ⟨_, find_is hk k es m 0 hm.1, ?_⟩
  cases hf : findA m k 0 with
  | none =>
    rw [(findA_none hf).2]
    exact hm.push k v
  | some q =>
    obtain ⟨i, v0⟩ := q
    obtain ⟨_, h2, _, h4, _⟩ := findA_some hf
    rw [h4]
    exact hm.modify h2 _ fun b => rfl
theorem mapUpdate_go {m : List (κ × ν)} {es : List ME} {clk r : Nat} {σ : Heap} {K : D → Heap → Prop} {hK : Keep K} {x : D} (hk : KeyOf Z kt enc) (ht : Z.T t = some it) (hd : it.d = .map kt et) (hr : σ.get r = some (.map es clk)) (hm : MapIs enc encv m es clk) (k : κ) (v : ν)
    (h : ∀ es' clk', MapIs enc encv (insA m k v) es' clk' → K x (σ.set r (.map es' clk'))) : kE (mapUpdateE Z σ.get t (.map r) (enc k) (encv v)) x σ K hK := by
  obtain ⟨q, h1, h2⟩ := upd_is hk hm k v
  unfold mapUpdateE
  simp only [ht, Option.map_some, hd, hr, hk.fits, if_true, h1]
  exact h _ _ h2
/-- An entry that stands open. -/
def Stamped (m : List (κ × ν)) (es : List ME) (k : κ) (b : Int) : Prop := ∃ i v, findA m k 0 = some (i, v) ∧ es.findIdx? (fun e => (e.born : Int) == b) = some i
theorem findIdx_born {es : List ME} (hn : (es.map (·.born)).Nodup) {i : Nat} {e : ME} (hi : es[i]? = some e) : es.findIdx? (fun x => (x.born : Int) == (e.born : Int)) = some i := by
  obtain ⟨hlt, rfl⟩ := List.getElem?_eq_some_iff.1 hi
  rw [List.findIdx?_eq_some_iff_getElem]
  refine ⟨hlt, by simp, fun j hj => ?_⟩
  intro hb
  have hb : ((es[j]'(by omega)).born : Int) = es[i].born := by simpa using hb
  have : j = i := nodup_born hn (List.getElem?_eq_getElem (by omega)) hi (by omega)
  omega
theorem findA_push : ∀ {m : List (κ × ν)} {k : κ} {i : Nat} (v : ν), findA m k i = none → findA (m ++ [(k, v)]) k i = some (i + m.length, v)
  | [], k, i, v, _ => by simp [findA]
  | p :: m, k, i, v, h => by
    simp only [findA] at h
    split at h
    · cases h
    · rename_i hp
      simp only [List.cons_append, findA, if_neg hp, findA_push v h, List.length_cons]
      congr 2; omega
theorem mapEntry_is {m : List (κ × ν)} {es : List ME} {clk r : Nat} {g : Nat → Option AO} {v0 : ν} (hk : KeyOf Z kt enc) (ht : Z.T t = some it) (hd : it.d = .map kt et) (he : Z.T et = some ie) (hz : zeroD ie = some (encv v0)) (hr : g r = some (.map es clk)) (hm : MapIs enc encv m es clk) (k : κ) :
    ∃ es' clk' b, mapEntryR Z g t (.map r) (enc k) = some (.tup [encv ((lkp m k).getD v0), .int .i64 ((b : Nat) : Int)], .put r (.map es' clk')) ∧ MapIs enc encv (insA m k ((lkp m k).getD v0)) es' clk' ∧ Stamped (insA m k ((lkp m k).getD v0)) es' k (b : Int) := by
  unfold mapEntryR
  simp only [ht, Option.map_some, hd, hr, he, hk.fits, if_true, find_is hk k es m 0 hm.1]
  cases hf : findA m k 0 with
  | none =>
    obtain ⟨h1, h2⟩ := findA_none hf
    simp only [Option.map_none, hz, Option.map_some]
    rw [h1]
    simp only [Option.getD_none]
    rw [h2]
    refine ⟨_, _, clk, rfl, hm.push k v0, m.length, v0, by simpa using findA_push v0 hf, ?_⟩
    have := findIdx_born (es := es ++ [⟨clk, enc k, encv v0⟩]) (i := m.length) (e := ⟨clk, enc k, encv v0⟩) (hm.push k v0).2.2 (by rw [← hm.len]; simp)
    exact this
  | some q =>
    obtain ⟨i, v⟩ := q
    obtain ⟨_, h2, h3, h4, _⟩ := findA_some hf
    obtain ⟨b, hb⟩ := hm.at h2
    rw [Nat.sub_zero] at h2
    simp only [Nat.sub_zero] at hb
    have hs : m.set i (k, v) = m := by rw [← Nat.sub_zero i, ← h4 v]; exact insA_same h3
    simp only [Option.map_some, hb, Option.getD_some]
    rw [h3]
    simp only [Option.getD_some]
    rw [insA_same h3]
    have hmod := hm.modify h2 (v' := v) (fun e : ME => { e with key := enc k }) (fun b => rfl)
    rw [hs] at hmod
    refine ⟨_, _, b, rfl, hmod, i, v, hf, ?_⟩
    have hlt := (List.getElem?_eq_some_iff.1 hb).1
    have h5 : (es.modify i fun e : ME => { e with key := enc k })[i]? = some ⟨b, enc k, encv v⟩ := by
      simp [List.getElem?_modify, hb]
    exact findIdx_born hmod.2.2 h5
theorem entryStore_go {m : List (κ × ν)} {es : List ME} {clk r : Nat} {σ : Heap} {K : D → Heap → Prop} {hK : Keep K} {x : D} {k : κ} {b : Int} (hr : σ.get r = some (.map es clk)) (hm : MapIs enc encv m es clk) (hs : Stamped m es k b) (v : ν) {ki : IntKind}
    (h : ∀ es', MapIs enc encv (insA m k v) es' clk → K x (σ.set r (.map es' clk))) : kE (entryStoreE σ.get (.map r) (.int ki b) (encv v)) x σ K hK := by
  obtain ⟨i, v0, hf, hi⟩ := hs
  obtain ⟨_, h2, _, h4, _⟩ := findA_some hf
  unfold entryStoreE
  simp only [hr, hi, Option.map_some]
  rw [h4] at h
  exact h _ (hm.modify h2 _ fun b => rfl)
theorem delete_go {m : List (κ × ν)} {es : List ME} {clk r : Nat} {σ : Heap} {K : D → Heap → Prop} {hK : Keep K} {x : D} {ts : Array TypeId} (hk : KeyOf Z kt enc) (hts : ts[0]? = some t) (ht : Z.T t = some it) (hd : it.d = .map kt et) (hr : σ.get r = some (.map es clk)) (hm : MapIs enc encv m es clk) (k : κ)
    (h : ∀ es', MapIs enc encv (delA m k) es' clk → K x (σ.set r (.map es' clk))) : kE (deleteE Z σ.get ts (.map r) (enc k)) x σ K hK := by
  unfold deleteE
  simp only [hts, Option.bind_some, ht, Option.map_some, hd, hr, hk.fits, if_true, find_is hk k es m 0 hm.1]
  cases hf : findA m k 0 with
  | none =>
    have h0 : delA m k = m := by
      have : ∀ (m : List (κ × ν)) (i : Nat), findA m k i = none → delA m k = m := fun m => by
        induction m with
        | nil => intro _ _; rfl
        | cons p m ih =>
          intro i h
          simp only [findA] at h
          split at h
          · cases h
          · rename_i hp; simp only [delA, if_neg hp, ih _ h]
      exact this m 0 hf
    rw [h0] at h
    exact h _ hm
  | some q =>
    obtain ⟨i, v0⟩ := q
    obtain ⟨_, _, _, _, h5⟩ := findA_some hf
    rw [h5] at h
    exact h _ (hm.erase _)
end
section
variable {κ : Type} [DecidableEq κ]
/-- A map of numbers of which none is 0. -/
def Cnt (m : List (κ × Int)) (f : κ → Int) : Prop := (m.map Prod.fst).Nodup ∧ (∀ p ∈ m, p.2 ≠ 0) ∧ ∀ k, f k = (lkp m k).getD 0
theorem Cnt.nil : Cnt ([] : List (κ × Int)) fun _ => 0 := ⟨by simp, fun p hp => absurd hp (by simp), fun _ => rfl⟩
theorem Cnt.get {m : List (κ × Int)} {f : κ → Int} (h : Cnt m f) (k : κ) : lkp m k = if f k = 0 then none else some (f k) := by
  have h3 := h.2.2 k
  cases hl : lkp m k with
  | none => rw [hl] at h3; have h4 : f k = 0 := h3; rw [if_pos h4]
  | some v =>
    rw [hl] at h3
    have h4 : f k = v := h3
    have := h.2.1 _ (lkp_mem hl)
    rw [if_neg (by rw [h4]; exact this), h4]
def addAt (f : κ → Int) (k : κ) (n : Int) : κ → Int := fun x => if x = k then f x + n else f x
theorem Cnt.add {m : List (κ × Int)} {f : κ → Int} (h : Cnt m f) (k : κ) (n : Int) (h0 : f k + n ≠ 0) : Cnt (insA m k (f k + n)) (addAt f k n) := by
  refine ⟨nodup_ins h.1 _ _, fun p hp => ?_, fun x => ?_⟩
  · have h1 := mem_lkp (nodup_ins h.1 k (f k + n)) (show (p.1, p.2) ∈ _ from hp)
    rw [lkp_ins] at h1
    split at h1
    · have h2 : f k + n = p.2 := by simpa using h1
      rw [← h2]; exact h0
    · exact h.2.1 _ (lkp_mem h1)
  · rw [lkp_ins, addAt]
    by_cases hx : x = k
    · subst hx; simp
    · rw [if_neg hx, if_neg (fun e => hx e.symm)]; exact h.2.2 x
theorem Cnt.sub {m : List (κ × Int)} {f : κ → Int} (h : Cnt m f) (k : κ) (n : Int) (h0 : f k + n = 0) : Cnt (delA (insA m k (f k + n)) k) (addAt f k n) := by
  have hn := nodup_ins h.1 k (f k + n)
  refine ⟨nodup_del hn _, fun p hp => ?_, fun x => ?_⟩
  · have h1 := mem_lkp (nodup_del hn k) (show (p.1, p.2) ∈ _ from hp)
    rw [lkp_del hn, lkp_ins] at h1
    split at h1
    · cases h1
    · rename_i hk; exact h.2.1 _ (lkp_mem h1)
  · rw [lkp_del hn, lkp_ins, addAt]
    by_cases hx : x = k
    · subst hx; simp [h0]
    · have hx' : ¬ k = x := fun e => hx e.symm
      rw [if_neg hx, if_neg hx', if_neg hx']; exact h.2.2 x
theorem Cnt.empty {m : List (κ × Int)} {f : κ → Int} (h : Cnt m f) : m = [] ↔ ∀ k, f k = 0 := by
  constructor
  · rintro rfl k; exact h.2.2 k
  · intro hf
    cases m with
    | nil => rfl
    | cons p m =>
      have h1 := mem_lkp h.1 (show (p.1, p.2) ∈ p :: m from List.mem_cons_self)
      rw [h.get, if_pos (hf _)] at h1
      cases h1
end
end Go.Proofs.YthchlpikcpidaaaDoor.Vs
