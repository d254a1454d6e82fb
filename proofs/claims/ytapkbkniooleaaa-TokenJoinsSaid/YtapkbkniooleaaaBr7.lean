import Derived.Test.YtapkbkniooleaaaBrX
import Derived.Test.YtapkbkniooleaaaTkK
import Derived.ChangeArms
import Derived.DataReads
import Derived.Test.YtapkbkniooleaaaTkV
/- numbers of Ytapkbkniooleaaa -/
namespace Go.Proofs.Ytapkbkniooleaaa.Vs
open Go.RowKit
set_option linter.unusedVariables false
set_option linter.unusedSimpArgs false
section
variable {H : Type} {enc : TypeId × Value → H} {P : Program} {w : World}
theorem weights_each {ts : List TypeId} {ds : List (DataW H)} {i : Nat} {t : TypeId} {d : DataW H} {n : Nat} (ht : ts[i]? = some t) (hd : ds[i]? = some d) (hn : n ∈ d.weights P t) : n ∈ DataW.weightsEach P ts ds := by
  induction ts generalizing ds i with
  | nil => simp at ht
  | cons a ts ih =>
    cases ds with
    | nil => simp at hd
    | cons b ds =>
      rw [DataW.weightsEach]
      cases i with
      | zero =>
        simp only [List.getElem?_cons_zero, Option.some.injEq] at ht hd
        subst ht; subst hd
        exact List.mem_append_left _ hn
      | succ i =>
        simp only [List.getElem?_cons_succ] at ht hd
        exact List.mem_append_right _ (ih ht hd)
end
end Go.Proofs.Ytapkbkniooleaaa.Vs

/- numbers of Ytapkbkniooleaaa -/
namespace Go.Proofs.Ytapkbkniooleaaa.Vs
open Go.RowKit
set_option linter.unusedVariables false
set_option linter.unusedSimpArgs false
def encK (l : List Tok) : D := .sl .no l.length (encTks l)
theorem lists_ofK {α : Type} {n : Nat} {p : Nat → α → Prop} (h : ∀ i, i < n → ∃ l, p i l) : ∃ ls : List α, ls.length = n ∧ ∀ i (hi : i < ls.length), p i ls[i] := by
  induction n with
  | zero => exact ⟨[], rfl, fun i hi => by cases hi⟩
  | succ n ih =>
    obtain ⟨ls, h1, h2⟩ := ih fun i hi => h i (by omega)
    obtain ⟨l, hl⟩ := h n (by omega)
    refine ⟨ls ++ [l], by simp [h1], fun i hi => ?_⟩
    by_cases hin : i < ls.length
    · rw [List.getElem_append_left hin]; exact h2 i hin
    · have : i = n := by simp at hi; omega
      subst this
      rw [List.getElem_append_right (by omega)]
      simpa [h1] using hl
section
variable {H : Type} {enc : TypeId × Value → H} {P : Program} {w : World}
theorem weights_all {e : TypeId} {d : DataW H} {n : Nat} : ∀ {l : List (DataW H)}, d ∈ l → n ∈ d.weights P e → n ∈ DataW.weightsAll P e l
  | [], h, _ => by cases h
  | a :: l, h, hn => by
    rw [DataW.weightsAll]
    rcases List.mem_cons.1 h with rfl | h
    · exact List.mem_append_left _ hn
    · exact List.mem_append_right _ (weights_all h hn)
/-- A value that reads as a slice of tokens stands for a list of them. -/
theorem read_tokens {t e : TypeId} {f0 f1 f2 f3 : Field} {fuel : Nat} {v : Value} {x : DataW H × List MemPlace} (ht : P.underlying t = some (.slice e)) (he : P.underlying e = some (.struct #[f0, f1, f2, f3]))
    (ce : P.cellsOf e = 4) (o0 : f0.offset = 0) (o1 : f1.offset = 1) (o2 : f2.offset = 2) (o3 : f3.offset = 3) (c0 : P.cellsOf f0.type = 1) (c1 : P.cellsOf f1.type = 1) (c2 : P.cellsOf f2.type = 1) (c3 : P.cellsOf f3.type = 1)
    (u0 : P.underlying f0.type = some (.int .i64)) (u1 : P.underlying f1.type = some (.int .i64)) (u2 : P.underlying f2.type = some (.int .i64)) (u3 : P.underlying f3.type = some .string)
    (h : DataW.trod enc P w 0 (fun _ => true) true fuel t [v] = some x) (hw : ∀ n ∈ x.1.weights P t, n ≤ reachBytes) : ∃ l : List Tok, V w (Lim gz) v (encK l) ∧ ∀ y ∈ l, y.text.size ≤ 140737488351232 := by
  rcases Go.Deep.open_slice ht h with ⟨h1, _⟩ | ⟨a, len, cap, m, n, D', _, h1, _, hl, hm, hmm, hxd, hx⟩
  · simp only [List.cons.injEq, and_true] at h1
    subst h1
    exact ⟨[], .sl .no 0 0 none [] (fun _ => undef) (Nat.le_refl _) (Nat.zero_le _) (fun _ => rfl) (fun i hi => by cases hi) (fun i hi => by cases hi) (fun i hi => by cases hi), fun y hy => by cases hy⟩
  · simp only [List.cons.injEq, and_true] at h1
    subst h1
    simp only [if_true] at hmm
    have each : ∀ i, i < len → ∃ y : Tok, (w.cell? (a.add (i * 4)) = some (.int .i64 y.fr) ∧ w.cell? (a.add (i * 4 + 1)) = some (.int .i64 y.to) ∧ w.cell? (a.add (i * 4 + 2)) = some (.int .i64 y.kind) ∧ w.cell? (a.add (i * 4 + 3)) = some (.string y.text)) ∧ y.text.size ≤ 140737488351232 := by
      intro i hi
      obtain ⟨cs', g1, g2⟩ := hx i (by omega)
      rw [ce] at g1
      obtain ⟨_, hlen, hcell⟩ := World.cells?_some g1
      obtain ⟨xs, k, _, hxs, _, hxl, hf⟩ := DataW.trod_struct he g2
      match xs, hxl, cs', hlen with
      | [y0, y1, y2, y3], _, [v0, v1, v2, v3], _ =>
        have q0 := hf 0 f0 rfl
        have q1 := hf 1 f1 rfl
        have q2 := hf 2 f2 rfl
        have q3 := hf 3 f3 rfl
        simp [o0, o1, o2, o3, c0, c1, c2, c3] at q0 q1 q2 q3
        have e0 := hcell 0 (by omega)
        have e1 := hcell 1 (by omega)
        have e2 := hcell 2 (by omega)
        have e3 := hcell 3 (by omega)
        rw [add_add] at e0 e1 e2 e3
        obtain ⟨n0, r0, _⟩ := read_int' u0 q0
        obtain ⟨n1, r1, _⟩ := read_int' u1 q1
        obtain ⟨n2, r2, _⟩ := read_int' u2 q2
        obtain ⟨s3, r3, z3, _⟩ := DataW.trod_string u3 q3
        simp only [List.cons.injEq, and_true] at r3
        subst r0; subst r1; subst r2; subst r3
        refine ⟨⟨n0, n1, n2, s3⟩, ⟨by simpa using e0, by simpa using e1, by simpa using e2, by simpa using e3⟩, ?_⟩
        have hin : s3.data.toList.length ∈ x.1.weights P t := by
          rw [hxd]
          show _ ∈ DataW.weights P t (.slice _ _)
          rw [DataW.weights, ht]
          refine List.mem_cons_of_mem _ (List.mem_append_left _ (weights_all (List.mem_map.2 ⟨i, List.mem_range.2 hi, rfl⟩) ?_))
          rw [show D' i = .agg [y0.1, y1.1, y2.1, y3.1] from congrArg Prod.fst hxs]
          rw [DataW.weights, he]
          refine weights_each (i := 3) (t := f3.type) (d := y3.1) rfl rfl ?_
          rw [z3, DataW.weights]
          exact List.mem_singleton.2 rfl
        have h9 := hw _ hin
        rw [← Lib.size_eq] at h9
        exact h9
    obtain ⟨T, hlen, hat⟩ := lists_ofK each
    refine ⟨T, ?_, fun y hy => by
      obtain ⟨i, hi, rfl⟩ := List.getElem_of_mem hy
      exact (hat i hi).2⟩
    have hcell : ∀ i, i < (encTks T).length → ∃ u, w.cell? (a.add i) = some u ∧ u.oneCell' = true ∧ ∀ (hi : i < (encTks T).length), V w (Lim gz) u (encTks T)[i] := fun i hi => by
      rw [encTks_len] at hi
      have hq : i / 4 < T.length := by omega
      have p0 := encTks_0 hq
      have p1 := encTks_1 hq
      have p2 := encTks_2 hq
      have p3 := encTks_3 hq
      obtain ⟨⟨a0, a1, a2, a3⟩, hsz⟩ := hat (i / 4) hq
      have h3 : i % 4 = 0 ∨ i % 4 = 1 ∨ i % 4 = 2 ∨ i % 4 = 3 := by omega
      rcases h3 with h3 | h3 | h3 | h3
      · have e : i / 4 * 4 = i := by omega
        rw [e] at p0 a0
        refine ⟨_, a0, rfl, fun hi => ?_⟩
        rw [List.getElem?_eq_getElem hi] at p0
        rw [Option.some.inj p0]; exact .int _ _
      · have e : i / 4 * 4 + 1 = i := by omega
        rw [e] at p1 a1
        refine ⟨_, a1, rfl, fun hi => ?_⟩
        rw [List.getElem?_eq_getElem hi] at p1
        rw [Option.some.inj p1]; exact .int _ _
      · have e : i / 4 * 4 + 2 = i := by omega
        rw [e] at p2 a2
        refine ⟨_, a2, rfl, fun hi => ?_⟩
        rw [List.getElem?_eq_getElem hi] at p2
        rw [Option.some.inj p2]; exact .int _ _
      · have e : i / 4 * 4 + 3 = i := by omega
        rw [e] at p3 a3
        refine ⟨_, a3, rfl, fun hi => ?_⟩
        rw [List.getElem?_eq_getElem hi] at p3
        rw [Option.some.inj p3]; exact .str _ (by simp only [big]; omega)
    have hne : len = T.length := hlen.symm
    unfold encK
    rw [hne] at hl ⊢
    refine .sl .no _ cap (some a) (encTks T) (fun i => (w.cell? (a.add i)).getD undef) hl (Nat.le_trans hm maxLen_big) (fun hA => by cases hA) (fun i hi => ?_) (fun i hi => ?_) (fun i hi => ?_)
    · obtain ⟨u, hu, ho, _⟩ := hcell i hi; simp [hu, ho]
    · obtain ⟨u, hu, _⟩ := hcell i hi; exact ⟨a, rfl, by simp [hu], Lim_nil _ _⟩
    · obtain ⟨u, hu, _, hv⟩ := hcell i hi; simp only [hu, Option.getD_some]; exact hv hi
end
end Go.Proofs.Ytapkbkniooleaaa.Vs
