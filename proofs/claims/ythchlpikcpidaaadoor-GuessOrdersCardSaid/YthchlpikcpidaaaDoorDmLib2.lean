/- The engine 'Dm', part 13: rows that grow; calls that write. -/
import Derived.Test.YthchlpikcpidaaaDoorDmLib
namespace Go.Proofs.YthchlpikcpidaaaDoor.Vs
open Go.RowKit
set_option linter.unusedVariables false
set_option linter.unusedSimpArgs false
section
variable {Z : Sys} {t t2 e : TypeId} {it ie : TInfo} {n m : Nat} {σ : Heap} {cs ys : List D} {y : D} {K : D → Heap → Prop} {hK : Keep K}
theorem app_row_nil (ht : Z.T t = some it) (hd : it.d = .slice e) (hie : Z.T e = some ie) (hz : ie.zero.cells.size = ie.size) (hz1 : ie.zeros.all D.one = true) (hpos : 0 < ie.size) (hf : fedBy Z σ.get t2 ie.size y = some (m, ys)) (hm : m ≠ 0) (hb : m * ie.bytes ≤ 140737488355328) (hbig : m ≤ big)
    (k : K (.row σ.next 0 m none ie.size) (σ.new (.cells e ys))) : kR (appendR Z 1 σ.get σ.next #[t, t2] (.sl .nil 0 []) y) σ K hK := by
  have : appendR Z 1 σ.get σ.next #[t, t2] (.sl .nil 0 []) y = some (.row σ.next 0 m none ie.size, .new (.cells e ys)) := by
    unfold appendR
    simp only [ht, hd, hie, hf]
    rw [if_pos ⟨hpos, hz, hz1⟩, if_pos ⟨by simp, by simpa using hb, by simpa using hbig⟩, if_neg hm]
    simp
  rw [this]; exact k
theorem app_row {ann r : Nat} (ht : Z.T t = some it) (hd : it.d = .slice e) (hie : Z.T e = some ie) (hz : ie.zero.cells.size = ie.size) (hz1 : ie.zeros.all D.one = true) (hpos : 0 < ie.size) (hf : fedBy Z σ.get t2 ie.size y = some (m, ys)) (hm : m ≠ 0) (hr : σ.get r = some (.cells e cs)) (hcs : n * ie.size ≤ cs.length) (hb : (n + m) * ie.bytes ≤ 140737488355328) (hbig : n + m ≤ big)
    (k1 : (n + m) * ie.size ≤ cs.length → K (.row r 0 (n + m) none ie.size) (σ.set r (.cells e (splice cs (n * ie.size) ys))))
    (k2 : ¬ (n + m) * ie.size ≤ cs.length → K (.row σ.next 0 (n + m) none ie.size) ((σ.del r).new (.cells e (cs.take (n * ie.size) ++ ys)))) : kR (appendR Z ann σ.get σ.next #[t, t2] (.row r 0 n none ie.size) y) σ K hK := by
  by_cases hc : (n + m) * ie.size ≤ cs.length
  · have : appendR Z ann σ.get σ.next #[t, t2] (.row r 0 n none ie.size) y = some (.row r 0 (n + m) none ie.size, .put r (.cells e (splice cs (n * ie.size) ys))) := by
      unfold appendR
      simp only [ht, hd, hie, hf]
      rw [if_pos ⟨hpos, hz, hz1⟩]
      simp only [hr]
      rw [if_pos ⟨trivial, trivial, by omega, hb, hbig⟩, if_neg hm]
      simp [hc]
    rw [this]; exact k1 hc
  · have : appendR Z ann σ.get σ.next #[t, t2] (.row r 0 n none ie.size) y = some (.row σ.next 0 (n + m) none ie.size, .move r (.cells e (cs.take (n * ie.size) ++ ys))) := by
      unfold appendR
      simp only [ht, hd, hie, hf]
      rw [if_pos ⟨hpos, hz, hz1⟩]
      simp only [hr]
      rw [if_pos ⟨trivial, trivial, by omega, hb, hbig⟩, if_neg hm]
      simp [hc]
    rw [this]; exact k2 hc
end
def AccR (e : TypeId) (z : Nat) (σ0 : Heap) (n : Nat) (cs : List D) (d : D) (σ : Heap) : Prop :=
  HLe σ0 σ ∧ cs.length = n * z ∧ ((d = .sl .nil 0 [] ∧ n = 0) ∨ ∃ q js, σ0.get q = none ∧ q < σ.next ∧ d = .row q 0 n none z ∧ σ.get q = some (.cells e (cs ++ js)))
theorem AccR.nil {e : TypeId} {z : Nat} {σ0 σ : Heap} (h : HLe σ0 σ) : AccR e z σ0 0 [] (.sl .nil 0 []) σ := ⟨h, by simp, .inl ⟨rfl, rfl⟩⟩
theorem AccR.le {e : TypeId} {z n : Nat} {σ0 σ : Heap} {cs : List D} {d : D} (h : AccR e z σ0 n cs d σ) : HLe σ0 σ := h.1
/-- Over a heap that has grown behind. -/
theorem AccR.mono {e : TypeId} {z n : Nat} {σ0 σ σ' : Heap} {cs : List D} {d : D} (h : AccR e z σ0 n cs d σ) (hle : HLe σ σ') : AccR e z σ0 n cs d σ' := by
  obtain ⟨h1, h2, h3⟩ := h
  refine ⟨h1.trans hle, h2, ?_⟩
  rcases h3 with h3 | ⟨q, js, a, b, c, d⟩
  · exact .inl h3
  · exact .inr ⟨q, js, a, Nat.lt_of_lt_of_le b hle.next, c, hle.get _ _ d⟩
theorem AccR.row {e : TypeId} {z n : Nat} {σ0 σ : Heap} {cs : List D} {d : D} (h : AccR e z σ0 n cs d σ) (hn : n ≠ 0) : ∃ q js, σ0.get q = none ∧ q < σ.next ∧ d = .row q 0 n none z ∧ σ.get q = some (.cells e (cs ++ js)) := by
  rcases h.2.2 with ⟨_, h⟩ | h
  · exact absurd h hn
  · exact h
theorem AccR.append {Z : Sys} {t t2 e : TypeId} {it ie : TInfo} {n m : Nat} {σ0 σ : Heap} {cs ys : List D} {d y : D} {K : D → Heap → Prop} {hK : Keep K} {z : Nat} (h : AccR e z σ0 n cs d σ) (hc : ∀ r o, σ0.get r = some o → r < σ0.next) (ht : Z.T t = some it) (hd : it.d = .slice e) (hie : Z.T e = some ie) (hsz : ie.size = z)
    (hz : ie.zero.cells.size = ie.size) (hz1 : ie.zeros.all D.one = true) (hpos : 0 < ie.size) (hf : fedBy Z σ.get t2 ie.size y = some (m, ys)) (hm : m ≠ 0) (hb : (n + m) * ie.bytes ≤ 140737488355328) (hbig : n + m ≤ big)
    (k : ∀ d' σ', AccR e z σ0 (n + m) (cs ++ ys) d' σ' → K d' σ') : kR (appendR Z 1 σ.get σ.next #[t, t2] d y) σ K hK := by
  subst hsz
  have hlen := fedBy_len hf
  obtain ⟨hle, hcs, hd'⟩ := h
  have hl2 : (cs ++ ys).length = (n + m) * ie.size := by rw [List.length_append, hcs, hlen, Nat.add_mul]
  have new0 : σ0.get σ.next = none := by
    cases hx : σ0.get σ.next with
    | none => rfl
    | some o => have := hc _ o hx; have := hle.next; omega
  rcases hd' with ⟨rfl, rfl⟩ | ⟨q, js, h1, h1', rfl, h2⟩
  · have hc0 : cs = [] := List.eq_nil_of_length_eq_zero (by simpa using hcs)
    subst hc0
    refine app_row_nil ht hd hie hz hz1 hpos hf hm (by simpa using hb) (by simpa using hbig) ?_
    rw [show m = 0 + m by omega]
    refine k _ _ ⟨hle.new _ hc, hl2, .inr ⟨σ.next, [], new0, by simp [Heap.new], rfl, by simp [Heap.new]⟩⟩
  · have hn : n * ie.size ≤ (cs ++ js).length := by rw [List.length_append, hcs]; omega
    refine app_row ht hd hie hz hz1 hpos hf hm h2 hn hb hbig (fun hr => ?_) (fun hr => ?_)
    · refine k _ _ ⟨hle.set _ h1, hl2, .inr ⟨q, js.drop ys.length, h1, h1', rfl, ?_⟩⟩
      rw [Heap.set_same]
      congr 2
      have e1 : (cs ++ js).take (n * ie.size) = cs := by rw [← hcs]; simp
      have e2 : (cs ++ js).drop (n * ie.size + ys.length) = js.drop ys.length := by rw [← hcs]; simp
      simp only [splice, e1, e2, List.append_assoc]
    · have e1 : (cs ++ js).take (n * ie.size) = cs := by rw [← hcs]; simp
      rw [e1] at *
      refine k _ _ ⟨(hle.set_del h1).new _ hc, hl2, .inr ⟨σ.next, [], new0, by simp [Heap.new, Heap.del], rfl, by simp [Heap.new, Heap.del]⟩⟩
/-- Another object of the heap below is written. -/
theorem AccR.set {e : TypeId} {z r n : Nat} {x o : AO} {σ0 σ : Heap} {cs : List D} {d : D} (h : AccR e z σ0 n cs d σ) (hr : σ0.get r = some o) : σ.get r = some o ∧ AccR e z (σ0.set r x) n cs d (σ.set r x) := by
  obtain ⟨h1, h2, h3⟩ := h
  refine ⟨h1.get r o hr, h1.set_both r x, h2, ?_⟩
  rcases h3 with h3 | ⟨q, js, a, b, c, d⟩
  · exact .inl h3
  · have hne : q ≠ r := fun e => by rw [e, hr] at a; cases a
    exact .inr ⟨q, js, by rw [Heap.set_ne _ _ hne]; exact a, b, c, by rw [Heap.set_ne _ _ hne]; exact d⟩
end Go.Proofs.YthchlpikcpidaaaDoor.Vs
