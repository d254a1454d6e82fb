/- The engine 'Dm', part 16: ranges over maps by lists of pairs. -/
import Derived.Test.YthchlpikcpidaaaDoorDmMap
namespace Go.Proofs.YthchlpikcpidaaaDoor.Vs
open Go.RowKit
set_option linter.unusedVariables false
set_option linter.unusedSimpArgs false
set_option linter.unusedSectionVars false
section
variable {κ ν : Type} [DecidableEq κ] {Z : Sys} {kt et t : TypeId} {it0 ie : TInfo} {enc : κ → D} {encv : ν → D}
/-- What has come of a map so far. -/
def IterIs (es : List ME) (m : List (κ × ν)) (seen : List Nat) (done : List (κ × ν)) : Prop :=
  ∃ idx : List Nat, idx.Nodup ∧ (∀ i ∈ idx, i < m.length) ∧ seen = idx.map (fun i => (es.getD i ⟨0, .junk, .junk⟩).born) ∧ done.map some = idx.map (fun i => m[i]?)
theorem IterIs.nil (es : List ME) (m : List (κ × ν)) : IterIs es m [] [] := ⟨[], by simp, by simp, rfl, rfl⟩
theorem IterIs.sub {es : List ME} {m : List (κ × ν)} {seen : List Nat} {done : List (κ × ν)} (h : IterIs es m seen done) : ∀ p ∈ done, p ∈ m := fun p hp => by
  obtain ⟨idx, _, _, _, h4⟩ := h
  have : some p ∈ done.map some := List.mem_map.2 ⟨p, hp, rfl⟩
  rw [h4] at this
  obtain ⟨i, _, hi⟩ := List.mem_map.1 this
  exact List.mem_of_getElem? hi
theorem IterIs.le {es : List ME} {m : List (κ × ν)} {seen : List Nat} {done : List (κ × ν)} (h : IterIs es m seen done) : done.length ≤ m.length := by
  obtain ⟨idx, h1, h2, _, h4⟩ := h
  have e := congrArg List.length h4
  simp only [List.length_map] at e
  rw [e]
  have hp : idx.Perm ((List.range m.length).filter fun i => decide (i ∈ idx)) := by
    rw [List.perm_ext_iff_of_nodup h1 (List.Pairwise.filter _ List.nodup_range)]
    exact fun i => ⟨fun h => List.mem_filter.2 ⟨List.mem_range.2 (h2 i h), by simpa using h⟩, fun h => by simpa using (List.mem_filter.1 h).2⟩
  rw [hp.length_eq]
  exact Nat.le_trans (List.length_filter_le _ _) (by simp)
theorem IterIs.all {es : List ME} {m : List (κ × ν)} {seen : List Nat} {done : List (κ × ν)} (h : IterIs es m seen done) (hl : es.length = m.length) (hn : (es.map (·.born)).Nodup) (ha : ∀ e ∈ es, e.born ∈ seen) : done.Perm m := by
  obtain ⟨idx, h1, h2, h3, h4⟩ := h
  have hc : ∀ i, i < m.length → i ∈ idx := fun i hi => by
    have hi' : i < es.length := by omega
    have := ha es[i] (List.getElem_mem hi')
    rw [h3] at this
    obtain ⟨j, hj, hb⟩ := List.mem_map.1 this
    have hj' : j < es.length := by have := h2 j hj; omega
    rw [show es.getD j ⟨0, .junk, .junk⟩ = es[j] by simp [List.getD, hj']] at hb
    have := nodup_born hn (List.getElem?_eq_getElem hj') (List.getElem?_eq_getElem hi') hb
    subst this; exact hj
  have hp : idx.Perm (List.range m.length) := by
    rw [List.perm_ext_iff_of_nodup h1 List.nodup_range]
    exact fun i => ⟨fun h => List.mem_range.2 (h2 i h), fun h => hc i (List.mem_range.1 h)⟩
  have hq : (done.map some).Perm (m.map some) := by
    rw [h4]
    refine (hp.map _).trans ?_
    have : (List.range m.length).map (fun i => m[i]?) = m.map some := by
      apply List.ext_getElem
      · simp
      · intro i h1 h2
        simp at h1
        simp [h1]
    rw [this]
  have := hq.filterMap id
  simpa using this
theorem range_is {g : Nat → Option AO} {es : List ME} {clk r : Nat} (ht : Z.T t = some it0) (hd : it0.d = .map kt et) (hr : g r = some (.map es clk)) : rangeR Z g t (.map r) = some (.new (.miter (some r) clk [] clk)) := by
  simp only [rangeR, ht, Option.map_some, hd, hr]
/-- What comes next. -/
theorem next_go {σ : Heap} {es : List ME} {clk r it : Nat} {seen : List Nat} {m done : List (κ × ν)} {K : D → Heap → Prop} {hK : Keep K} (hit : σ.get it = some (.miter (some r) clk seen clk)) (hne : r ≠ it) (hr : σ.get r = some (.map es clk)) (hm : MapIs enc encv m es clk) (hs : IterIs es m seen done)
    (hend : done.Perm m → K (.tup [.bool false]) σ)
    (hnx : ∀ p seen', p ∈ m → done.length < m.length → IterIs es m seen' (done ++ [p]) → entryD (σ.set it (.miter (some r) clk seen' clk)).get (.ptr it 0) = some (.tup [enc p.1, encv p.2]) → K (.tup [.bool true, enc p.1, encv p.2]) (σ.set it (.miter (some r) clk seen' clk))) : kNext (.ptr it 0) σ K hK := by
  unfold kNext nextK
  simp only [hit, hr]
  refine ⟨Nat.le_refl _, hm.2.1, fun ha => hend (hs.all hm.len hm.2.2 ha), fun e he hn => ?_⟩
  obtain ⟨i, hi, rfl⟩ := List.getElem_of_mem he
  have him : i < m.length := by rw [← hm.len]; exact hi
  obtain ⟨b, hb⟩ := hm.at (i := i) (k := m[i].1) (v := m[i].2) (by rw [List.getElem?_eq_getElem him])
  have heb : es[i] = ⟨b, enc m[i].1, encv m[i].2⟩ := by rw [List.getElem?_eq_getElem hi] at hb; exact Option.some.inj hb
  obtain ⟨idx, h1, h2, h3, h4⟩ := hs
  have hni : i ∉ idx := fun h => hn (by rw [h3]; exact List.mem_map.2 ⟨i, h, by simp [List.getD, hi]⟩)
  have hs' : IterIs es m (seen ++ [es[i].born]) (done ++ [m[i]]) := by
    refine ⟨idx ++ [i], ?_, ?_, ?_, ?_⟩
    · rw [List.nodup_append]; exact ⟨h1, by simp, fun a ha b hb => by simp at hb; subst hb; exact fun e => hni (e ▸ ha)⟩
    · intro j hj
      rcases List.mem_append.1 hj with hj | hj
      · exact h2 j hj
      · simp at hj; subst hj; exact him
    · rw [List.map_append, ← h3]; simp [List.getD, hi]
    · rw [List.map_append, List.map_append, h4]; simp [him]
  have hlt : done.length < m.length := by
    have := hs'.le
    simp at this; omega
  have hent : entryD (σ.set it (.miter (some r) clk (seen ++ [es[i].born]) clk)).get (.ptr it 0) = some (.tup [enc m[i].1, encv m[i].2]) := by
    unfold entryD
    simp only [Heap.set_same]
    rw [Heap.set_ne _ _ hne, hr]
    simp only [List.getLast?_append, List.getLast?_singleton]
    have hf : es.find? (fun e => e.born == es[i].born) = some es[i] := by
      rw [List.find?_eq_some_iff_getElem]
      refine ⟨by simp, i, hi, rfl, fun j hj => ?_⟩
      simp only [Bool.not_eq_true', beq_eq_false_iff_ne, ne_eq]
      intro hb
      have := nodup_born hm.2.2 (List.getElem?_eq_getElem (by omega)) (List.getElem?_eq_getElem hi) hb
      omega
    have hbb : es[i].born = b := by rw [heb]
    rw [hbb] at hf
    simp only [Option.some_or, hbb, hf, Option.map_some, heb, if_true]
  have := hnx m[i] (seen ++ [es[i].born]) (List.getElem_mem him) hlt hs' hent
  rw [heb] at this ⊢
  exact this
end
end Go.Proofs.YthchlpikcpidaaaDoor.Vs
