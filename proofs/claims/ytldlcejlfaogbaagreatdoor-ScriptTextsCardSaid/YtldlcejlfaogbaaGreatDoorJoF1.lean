/- numbers of YtldlcejlfaogbaaDoor -/
import Derived.Test.YtldlcejlfaogbaaGreatDoorJoinA
import Derived.Test.YtldlcejlfaogbaaGreatDoorDmLib2
import Derived.Test.YtldlcejlfaogbaaGreatDoorDmMap
namespace Go.Proofs.YtldlcejlfaogbaaGreatDoor.Vs
set_option linter.unusedVariables false
set_option linter.unusedSimpArgs false
set_option maxRecDepth 20000
/-- Of a row of a given room, what is filled and that nothing else is changed. -/
def Room (σ0 : Heap) (k n : Nat) (cs : List D) (d : D) (σ : Heap) : Prop :=
  HLe σ0 σ ∧ cs.length = n ∧ n ≤ k ∧ ((k = 0 ∧ d = .sl .nil 0 []) ∨ (k ≠ 0 ∧ ∃ q js, σ0.next ≤ q ∧ q < σ.next ∧ d = .row q 0 n none 1 ∧ σ.get q = some (.cells 9 (cs ++ js)) ∧ n + js.length = k))
theorem Room.append {σ0 σ : Heap} {k n : Nat} {w : Wd} {cs : List D} {d : D} (h : Room σ0 k n cs d σ) (hc : Closed σ0) (hk : n + w.length ≤ k) (hk2 : k ≤ 100000) {K : D → Heap → Prop} {hK : Keep K} (kk : ∀ d' σ', Room σ0 k (n + w.length) (cs ++ w.map .str) d' σ' → K d' σ') :
    kR (appendR Zs 0 σ.get σ.next #[23, 23] d (encSS w)) σ K hK := by
  obtain ⟨hle, hl, hn, hd⟩ := h
  have hf : fedBy Zs σ.get 23 1 (encSS w) = some (w.length, w.map .str) := fedBy_sl tz23 rfl (by simp)
  rcases hd with ⟨h0, rfl⟩ | ⟨h0, q, js, hq0, hq, rfl, hg, hj⟩
  · have hw : w = [] := List.eq_nil_of_length_eq_zero (by omega)
    have hn0 : n = 0 := by omega
    subst hw; subst hn0
    have hcs : cs = [] := List.eq_nil_of_length_eq_zero hl
    subst hcs
    have : appendR Zs 0 σ.get σ.next #[23, 23] (.sl .nil 0 []) (encSS []) = some (.sl .nil 0 [], .keep) := by
      unfold appendR
      simp only [tz23, tz9, hf]
      rfl
    rw [this]
    exact kk _ _ ⟨hle, rfl, hn, .inl ⟨h0, rfl⟩⟩
  · by_cases hw : w.length = 0
    · have hw : w = [] := List.eq_nil_of_length_eq_zero hw
      subst hw
      have : appendR Zs 0 σ.get σ.next #[23, 23] (.row q 0 n none 1) (encSS []) = some (.row q 0 n none 1, .keep) := by
        unfold appendR
        simp only [tz23, tz9, hf, hg]
        rw [if_pos ⟨by decide, by decide, by decide⟩, if_pos ⟨trivial, trivial, by simp only [List.length_append]; omega, by simp only [List.length_nil]; omega, by simp only [List.length_nil, big]; omega⟩, if_pos (by rfl)]
      rw [this]
      exact kk _ _ ⟨hle, by simpa using hl, hn, .inr ⟨h0, q, js, hq0, hq, rfl, by rw [List.map_nil, List.append_nil]; exact hg, hj⟩⟩
    · refine app_row (m := w.length) tz23 rfl tz9 rfl rfl (by decide) hf hw hg (by simp only [List.length_append]; omega) (by simp only []; omega) (by simp only [big]; omega) (fun _ => ?_) (fun h => absurd (by simp only [List.length_append]; omega) h)
      have hsp : splice (cs ++ js) (n * 1) (w.map D.str) = cs ++ w.map .str ++ js.drop w.length := by
        simp only [splice, Nat.mul_one]
        rw [← hl, List.take_left, List.length_map, List.drop_append, List.drop_of_length_le (by omega), List.nil_append]
        congr 2
        omega
      refine kk _ _ ⟨hle.set_out _ hc hq0, by simp [hl], hk, .inr ⟨h0, q, js.drop w.length, hq0, hq, rfl, ?_, by simp; omega⟩⟩
      rw [Heap.set_same]
      rw [← hsp]
theorem Room.told {σ0 σ : Heap} {k n : Nat} {cs : List D} {d : D} (h : Room σ0 k n cs d σ) (hc : Closed σ0) : Told σ σ0 d (.sl .no n cs) := by
  obtain ⟨hle, hl, hn, hd⟩ := h
  rcases hd with ⟨h0, rfl⟩ | ⟨h0, q, js, hq0, hq, rfl, hg, hj⟩
  · have hn0 : n = 0 := by omega
    subst hn0
    have hcs : cs = [] := List.eq_nil_of_length_eq_zero hl
    subst hcs
    exact .sl .nil .no 0 [] [] (.inl rfl) rfl (fun i h => by cases h)
  · refine .row q 0 n none 1 9 (cs ++ js) cs hg (hc.none hq0) (by simp only [List.length_append]; omega) (by omega) fun i h1 h2 => ?_
    simp only [Nat.zero_add]
    rw [List.getElem_append_left h2]
    exact .refl _
end Go.Proofs.YtldlcejlfaogbaaGreatDoor.Vs
