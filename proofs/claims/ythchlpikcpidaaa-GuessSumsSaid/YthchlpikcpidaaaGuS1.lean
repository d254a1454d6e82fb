import Derived.Test.YthchlpikcpidaaaGuR1
/- numbers of Ythchlpikcpidaaa -/
namespace Go.Proofs.Ythchlpikcpidaaa.Vs
set_option linter.unusedVariables false
set_option linter.unusedSimpArgs false
set_option maxRecDepth 100000
theorem uTT : ((true : Bool) == true) = true := (rfl)
theorem uTF : ((true : Bool) == false) = false := (rfl)
theorem uFT : ((false : Bool) == true) = false := (rfl)
theorem uFF : ((false : Bool) == false) = true := (rfl)
theorem RGat.less {L : List Smp} {q : Nat} {σ σ' : Heap} (h : RGat L q σ) (hle : HLe σ σ') : RGat L q σ' := by
  obtain ⟨d, h1, h2⟩ := h
  refine ⟨d, hle.get _ _ h1, ?_⟩
  rcases h2 with h2 | ⟨h3, r, js, h4, h5, h6⟩
  · exact .inl h2
  · exact .inr ⟨h3, r, js, h4, h5, hle.get _ _ h6⟩
def tagL (L : List Smp) : List ByteArray := L.map (·.tag)
/-- What differs from its neighbour, of a sorted row. -/
structure DedOf (S : List ByteArray) (i : Nat) (O : List ByteArray) : Prop where
  so : O.Pairwise fun a b => strLt a b = true
  mem : ∀ t, t ∈ O ↔ t ∈ S.take i
  le : O.length ≤ i
theorem DedOf.nil (S : List ByteArray) : DedOf S 0 [] := ⟨List.Pairwise.nil, fun t => by simp, Nat.le_refl _⟩
theorem DedOf.keep {S : List ByteArray} {i : Nat} {O : List ByteArray} (h : DedOf S i O) (hi : i < S.length) (h0 : 0 < i) (he : S[i] = S[i - 1]'(by omega)) : DedOf S (i + 1) O := by
  refine ⟨h.so, fun t => ?_, Nat.le_succ_of_le h.le⟩
  rw [h.mem, List.take_succ_eq_append_getElem hi, List.mem_append, List.mem_singleton]
  constructor
  · exact .inl
  · rintro (h1 | rfl)
    · exact h1
    · rw [he]
      exact List.mem_take_iff_getElem.2 ⟨i - 1, by omega, rfl⟩
theorem DedOf.push {S : List ByteArray} {i : Nat} {O : List ByteArray} (hS : S.Pairwise fun a b => strLt b a = false) (h : DedOf S i O) (hi : i < S.length) (he : ∀ h0 : 0 < i, S[i] ≠ S[i - 1]'(by omega)) : DedOf S (i + 1) (O ++ [S[i]]) := by
  have hs := List.pairwise_iff_getElem.1 hS
  refine ⟨List.pairwise_append.2 ⟨h.so, List.pairwise_singleton _ _, fun a ha b hb => ?_⟩, fun t => ?_, by have := h.le; simp; omega⟩
  · simp only [List.mem_singleton] at hb
    subst hb
    obtain ⟨p, hp, rfl⟩ := List.mem_take_iff_getElem.1 ((h.mem a).1 ha)
    have hpi : p < i := by omega
    rcases strLt_tri S[p] S[i] with h1 | h1 | h1
    · exact h1
    · exfalso
      refine he (by omega) ?_
      by_cases hp1 : p = i - 1
      · subst hp1; exact h1.symm
      · have a1 := hs p (i - 1) (by omega) (by omega) (by omega)
        have a2 := hs (i - 1) i (by omega) hi (by omega)
        rcases strLt_tri (S[i - 1]'(by omega)) S[i] with h2 | h2 | h2
        · rw [← h1, a1] at h2; cases h2
        · exact h2.symm
        · rw [a2] at h2; cases h2
    · have := hs p i (by omega) hi hpi
      rw [this] at h1; cases h1
  · rw [List.take_succ_eq_append_getElem hi, List.mem_append, List.mem_append, h.mem]
end Go.Proofs.Ythchlpikcpidaaa.Vs

/- numbers of Ythchlpikcpidaaa -/
namespace Go.Proofs.Ythchlpikcpidaaa.Vs
set_option linter.unusedVariables false
set_option linter.unusedSimpArgs false
set_option maxRecDepth 100000
def ltG (key : ByteArray → Int) (x y : ByteArray) : Prop := key y < key x ∨ (key x = key y ∧ strLt x y = true)
theorem Acc.setL {e : TypeId} {z r n : Nat} {x o : AO} {σ0 σ : Heap} {cs : List D} {d : D} (h : Acc e z σ0 n cs d σ) (hc : ∀ r o, σ0.get r = some o → r < σ0.next) (hr : σ0.get r = some o) : σ.get r = some o ∧ Acc e z (σ0.set r x) n cs d (σ.set r x) := by
  refine ⟨h.le.get r o hr, ?_⟩
  rcases h with ⟨h1, h2, h3, h4⟩ | ⟨h1, h4⟩ | ⟨q, h1, h2, h3, h4⟩
  · exact .inl ⟨h1, h2, h3, h4.set_both r x⟩
  · exact .inr (.inl ⟨h1, h4.set_both r x⟩)
  · have hne : q ≠ r := fun e => by have := hc r o hr; omega
    exact .inr (.inr ⟨q, h1, h2, by rw [Heap.set_ne _ _ hne]; exact h3, h4.set_both r x⟩)
/-- What is chosen so far. -/
structure SelOf (key : ByteArray → Int) (O : List ByteArray) (N : List Int) (U : List ByteArray) : Prop where
  len : N.length = O.length
  nd : U.Nodup
  sub : ∀ t ∈ U, t ∈ O
  num : ∀ i (h : i < O.length) (h2 : i < N.length), (O[i] ∈ U → N[i] = -1) ∧ (O[i] ∉ U → N[i] = key O[i])
  so : U.Pairwise (ltG key)
  rest : ∀ u ∈ U, ∀ t ∈ O, t ∉ U → ltG key u t
section
variable {key : ByteArray → Int} {O : List ByteArray}
theorem SelOf.nil (O : List ByteArray) : SelOf key O (O.map key) [] := ⟨by simp, List.nodup_nil, fun t h => (by cases h), fun i h h2 => ⟨fun h => (by cases h), fun _ => by simp⟩, List.Pairwise.nil, fun u h => (by cases h)⟩
theorem len_sub {U O : List ByteArray} (h : U.Nodup) (hO : O.Nodup) (hs : ∀ t ∈ U, t ∈ O) : U.length ≤ O.length := by
  classical
  have hp : U.Perm (O.filter fun t => decide (t ∈ U)) := by
    rw [List.perm_ext_iff_of_nodup h (List.Pairwise.filter _ hO)]
    exact fun t => ⟨fun ht => List.mem_filter.2 ⟨hs t ht, by simpa using ht⟩, fun ht => by simpa using (List.mem_filter.1 ht).2⟩
  rw [hp.length_eq]
  exact List.length_filter_le _ _
theorem SelOf.le {N : List Int} {U : List ByteArray} (h : SelOf key O N U) (hO : O.Nodup) : U.length ≤ O.length := len_sub h.nd hO h.sub
theorem SelOf.step {N : List Int} {U : List ByteArray} (h : SelOf key O N U) (hO : O.Pairwise fun a b => strLt a b = true) (hk0 : ∀ t, 0 ≤ key t) (hlt : U.length < O.length) {k : Nat} (hk : k < O.length)
    (hmax : ∀ j (hj : j < N.length), N[j] < N[k]'(by rw [h.len]; exact hk) ∨ (N[j] = N[k]'(by rw [h.len]; exact hk) ∧ k ≤ j)) : SelOf key O (N.set k (-1)) (U ++ [O[k]]) := by
  have hnd : O.Nodup := hO.imp fun {a b} h e => by subst e; rw [strLt_irrefl] at h; cases h
  have hkN : k < N.length := by rw [h.len]; exact hk
  obtain ⟨i, hi, hiU⟩ : ∃ i, ∃ hi : i < O.length, O[i] ∉ U := Classical.byContradiction fun hc => by
    have hall : ∀ t, t ∈ O → t ∈ U := fun t ht => by
      obtain ⟨i, hi, rfl⟩ := List.getElem_of_mem ht
      exact Classical.byContradiction fun hn => hc ⟨i, hi, hn⟩
    have hp : U.Perm O := by
      rw [List.perm_ext_iff_of_nodup h.nd hnd]
      exact fun t => ⟨h.sub t, hall t⟩
    rw [hp.length_eq] at hlt
    exact Nat.lt_irrefl _ hlt
  have hkU : O[k] ∉ U := fun hk2 => by
    have h1 := (h.num k hk hkN).1 hk2
    have h2 := (h.num i hi (by rw [h.len]; exact hi)).2 hiU
    have h3 := hk0 O[i]
    have h4 := hmax i (by rw [h.len]; exact hi)
    omega
  have hne : ∀ j (hj : j < O.length), j ≠ k → O[j] ≠ O[k] := fun j hj hjk e => hjk ((List.getElem_inj hnd).1 e)
  have hgk : ∀ t ∈ O, t ∉ U → t ≠ O[k] → ltG key O[k] t := fun t ht htU htk => by
    obtain ⟨j, hj, rfl⟩ := List.getElem_of_mem ht
    have h1 := (h.num k hk hkN).2 hkU
    have h2 := (h.num j hj (by rw [h.len]; exact hj)).2 htU
    have h4 := hmax j (by rw [h.len]; exact hj)
    rw [h1, h2] at h4
    rcases h4 with h4 | ⟨h4, h5⟩
    · exact .inl h4
    · have hjk : k < j := by
        rcases Nat.lt_or_eq_of_le h5 with h6 | h6
        · exact h6
        · subst h6; exact absurd rfl htk
      exact .inr ⟨h4.symm, List.pairwise_iff_getElem.1 hO k j hk hj hjk⟩
  refine ⟨by rw [List.length_set]; exact h.len, ?_, ?_, ?_, ?_, ?_⟩
  · rw [List.nodup_append]
    exact ⟨h.nd, by simp, fun a ha b hb => by simp at hb; subst hb; exact fun e => hkU (e ▸ ha)⟩
  · intro t ht
    rcases List.mem_append.1 ht with ht | ht
    · exact h.sub t ht
    · simp at ht; subst ht; exact List.getElem_mem hk
  · intro j hj h2
    rw [List.getElem_set]
    by_cases hjk : k = j
    · subst hjk; rw [if_pos rfl]; exact ⟨fun _ => rfl, fun h => absurd (by simp) h⟩
    · rw [if_neg hjk]
      have : (O[j] ∈ U ++ [O[k]]) ↔ O[j] ∈ U := by
        rw [List.mem_append, List.mem_singleton]
        exact ⟨fun h => h.elim id fun e => absurd e (hne j hj fun e => hjk e.symm), .inl⟩
      rw [this]
      exact h.num j hj (by rw [h.len]; exact hj)
  · rw [List.pairwise_append]
    exact ⟨h.so, List.pairwise_singleton _ _, fun a ha b hb => by simp at hb; subst hb; exact h.rest a ha _ (List.getElem_mem hk) hkU⟩
  · intro u hu t ht htU
    have ht1 : t ∉ U := fun h => htU (List.mem_append.2 (.inl h))
    have ht2 : t ≠ O[k] := fun e => htU (List.mem_append.2 (.inr (by simp [e])))
    rcases List.mem_append.1 hu with hu | hu
    · exact h.rest u hu t ht ht1
    · simp at hu; subst hu; exact hgk t ht ht1 ht2
end
end Go.Proofs.Ythchlpikcpidaaa.Vs
