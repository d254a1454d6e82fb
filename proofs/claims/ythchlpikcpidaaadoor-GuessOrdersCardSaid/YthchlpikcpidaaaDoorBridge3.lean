/- numbers of Ythchlpikcpidaaa -/
import Derived.Test.YthchlpikcpidaaaDoorBridge2
import Derived.Test.YthchlpikcpidaaaDoorGuA1
import Derived.ChangeArms
import Derived.DataReads
namespace Go.Proofs.YthchlpikcpidaaaDoor.Vs
open Go.RowKit
set_option linter.unusedVariables false
set_option linter.unusedSimpArgs false
theorem lists_of' {α : Type} {n : Nat} {p : Nat → α → Prop} (h : ∀ i, i < n → ∃ l, p i l) : ∃ ls : List α, ls.length = n ∧ ∀ i (hi : i < ls.length), p i ls[i] := by
  induction n with
  | zero => exact ⟨[], rfl, fun i hi => by cases hi⟩
  | succ n ih =>
    obtain ⟨ls, h1, h2⟩ := ih fun i hi => h i (by omega)
    obtain ⟨l, hl⟩ := h n (by omega)
    refine ⟨ls ++ [l], by simp [h1], fun i hi => ?_⟩
    by_cases hin : i < ls.length
    · rw [List.getElem_append_left hin]; exact h2 i hin
    · have : i = n := by simp at hi; omega
      subst this
      rw [List.getElem_append_right (by omega)]
      simpa [h1] using hl
section
variable {H : Type} {enc : TypeId × Value → H} {P : Program} {w : World}
theorem read_str {t : TypeId} {fuel : Nat} {v : Value} {x : DataW H × List MemPlace} (ht : P.underlying t = some .string) (h : DataW.trod enc P w 0 (fun _ => true) true fuel t [v] = some x) : ∃ s : ByteArray, v = .string s ∧ V w (Lim gz) v (.str s) := by
  obtain ⟨s, h1, _, h2⟩ := DataW.trod_string ht h
  simp only [List.cons.injEq, and_true] at h1
  subst h1
  exact ⟨s, rfl, .str s (Nat.le_trans h2 maxLen_big)⟩
theorem read_int {t : TypeId} {k : IntKind} {fuel : Nat} {v : Value} {x : DataW H × List MemPlace} (ht : P.underlying t = some (.int k)) (h : DataW.trod enc P w 0 (fun _ => true) true fuel t [v] = some x) : ∃ n : Int, v = .int k n ∧ V w (Lim gz) v (.int k n) := by
  obtain ⟨n, h1, _, h2⟩ := DataW.trod_int ht h
  simp only [List.cons.injEq, and_true] at h1
  subst h1
  exact ⟨n, rfl, .int k n⟩
theorem cellsS_get : ∀ (l : List Smp) (i : Nat) (h : i < l.length), (cellsS l)[i * 3]? = some (encSS l[i].word) ∧ (cellsS l)[i * 3 + 1]? = some (.str l[i].tag) ∧ (cellsS l)[i * 3 + 2]? = some (.int .i64 l[i].many) := fun l i h => by
  have hd := cellsS_at h
  have e0 := congrArg (fun l => l[0]?) hd
  have e1 := congrArg (fun l => l[1]?) hd
  have e2 := congrArg (fun l => l[2]?) hd
  simp only [List.getElem?_drop, List.getElem?_cons_zero, List.getElem?_cons_succ, Nat.add_zero] at e0 e1 e2
  exact ⟨e0, e1, e2⟩
/-- A value that reads as a slice of samples stands for a list of them. -/
theorem read_samples {t e : TypeId} {f0 f1 f2 : Field} {s : TypeId} {fuel : Nat} {v : Value} {x : DataW H × List MemPlace} (ht : P.underlying t = some (.slice e)) (he : P.underlying e = some (.struct #[f0, f1, f2]))
    (ce : P.cellsOf e = 3) (o0 : f0.offset = 0) (o1 : f1.offset = 1) (o2 : f2.offset = 2) (c0 : P.cellsOf f0.type = 1) (c1 : P.cellsOf f1.type = 1) (c2 : P.cellsOf f2.type = 1)
    (u0 : P.underlying f0.type = some (.slice s)) (us : P.underlying s = some .string) (cs : P.cellsOf s = 1) (u1 : P.underlying f1.type = some .string) (u2 : P.underlying f2.type = some (.int .i64))
    (h : DataW.trod enc P w 0 (fun _ => true) true fuel t [v] = some x) : ∃ l : List Smp, V w (Lim gz) v (encS l) := by
  rcases Go.Deep.open_slice ht h with ⟨h1, _⟩ | ⟨a, len, cap, m, n, _, _, h1, _, hl, hm, hmm, _, hx⟩
  · simp only [List.cons.injEq, and_true] at h1
    subst h1
    exact ⟨[], .sl .no 0 0 none [] (fun _ => undef) (Nat.le_refl _) (Nat.zero_le _) (fun _ => rfl) (fun i hi => by cases hi) (fun i hi => by cases hi) (fun i hi => by cases hi)⟩
  · simp only [List.cons.injEq, and_true] at h1
    subst h1
    simp only [if_true] at hmm
    have each : ∀ i, i < len → ∃ y : Smp, (∃ u, w.cell? (a.add (i * 3)) = some u ∧ V w (Lim gz) u (encSS y.word)) ∧ (∃ u, w.cell? (a.add (i * 3 + 1)) = some u ∧ V w (Lim gz) u (.str y.tag)) ∧ ∃ u, w.cell? (a.add (i * 3 + 2)) = some u ∧ V w (Lim gz) u (.int .i64 y.many) := by
      intro i hi
      obtain ⟨cs', g1, g2⟩ := hx i (by omega)
      rw [ce] at g1
      obtain ⟨_, hlen, hcell⟩ := World.cells?_some g1
      obtain ⟨xs, k, _, _, _, hxl, hf⟩ := DataW.trod_struct he g2
      match xs, hxl, cs', hlen with
      | [y0, y1, y2], _, [v0, v1, v2], _ =>
        have q0 := hf 0 f0 rfl
        have q1 := hf 1 f1 rfl
        have q2 := hf 2 f2 rfl
        simp [o0, o1, o2, c0, c1, c2] at q0 q1 q2
        have e0 := hcell 0 (by omega)
        have e1 := hcell 1 (by omega)
        have e2 := hcell 2 (by omega)
        rw [add_add] at e0 e1 e2
        obtain ⟨wd, r0⟩ := read_strs u0 us cs q0
        obtain ⟨tg, _, r1⟩ := read_str u1 q1
        obtain ⟨mn, _, r2⟩ := read_int u2 q2
        exact ⟨⟨wd, tg, mn⟩, ⟨v0, by simpa using e0, r0⟩, ⟨v1, by simpa using e1, r1⟩, v2, by simpa using e2, r2⟩
    obtain ⟨T, hlen, hat⟩ := lists_of' each
    refine ⟨T, ?_⟩
    have hcell : ∀ i, i < (cellsS T).length → ∃ u, w.cell? (a.add i) = some u ∧ u.oneCell' = true ∧ ∀ (hi : i < (cellsS T).length), V w (Lim gz) u (cellsS T)[i] := fun i hi => by
      rw [cellsS_len] at hi
      have hq : i / 3 < T.length := by omega
      obtain ⟨p0, p1, p2⟩ := cellsS_get T (i / 3) hq
      obtain ⟨⟨u0, a0, b0⟩, ⟨u1, a1, b1⟩, u2, a2, b2⟩ := hat (i / 3) hq
      have h3 : i % 3 = 0 ∨ i % 3 = 1 ∨ i % 3 = 2 := by omega
      rcases h3 with h3 | h3 | h3
      · have e : i / 3 * 3 = i := by omega
        rw [e] at p0 a0
        refine ⟨_, a0, (b0.one rfl).1, fun hi => ?_⟩
        rw [List.getElem?_eq_getElem hi] at p0
        rw [Option.some.inj p0]; exact b0
      · have e : i / 3 * 3 + 1 = i := by omega
        rw [e] at p1 a1
        refine ⟨_, a1, (b1.one rfl).1, fun hi => ?_⟩
        rw [List.getElem?_eq_getElem hi] at p1
        rw [Option.some.inj p1]; exact b1
      · have e : i / 3 * 3 + 2 = i := by omega
        rw [e] at p2 a2
        refine ⟨_, a2, (b2.one rfl).1, fun hi => ?_⟩
        rw [List.getElem?_eq_getElem hi] at p2
        rw [Option.some.inj p2]; exact b2
    have hne : len = T.length := hlen.symm
    rw [hne] at hl ⊢
    refine .sl .no _ cap (some a) (cellsS T) (fun i => (w.cell? (a.add i)).getD undef) hl (Nat.le_trans hm maxLen_big) (fun hA => by cases hA) (fun i hi => ?_) (fun i hi => ?_) (fun i hi => ?_)
    · obtain ⟨u, hu, ho, _⟩ := hcell i hi; simp [hu, ho]
    · obtain ⟨u, hu, _⟩ := hcell i hi; exact ⟨a, rfl, by simp [hu], Lim_nil _ _⟩
    · obtain ⟨u, hu, _, hv⟩ := hcell i hi; simp only [hu, Option.getD_some]; exact hv hi
end
end Go.Proofs.YthchlpikcpidaaaDoor.Vs
