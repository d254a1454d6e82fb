import Derived.Test.YtapkbkniooleaaaBridge
import Derived.Deep.Slices
import Derived.ChangeArms
import Derived.DataReads
import Derived.Test.YtapkbkniooleaaaTkK
/- Lists of words, read in memory. -/
namespace Go.Proofs.Ytapkbkniooleaaa.Vs
open Go.RowKit
set_option linter.unusedVariables false
set_option linter.unusedSimpArgs false
section
variable {H : Type} {enc : TypeId × Value → H} {P : Program} {w : World}
end
end Go.Proofs.Ytapkbkniooleaaa.Vs

/- Texts and numbers, read in memory. -/
namespace Go.Proofs.Ytapkbkniooleaaa.Vs
open Go.RowKit
set_option linter.unusedVariables false
set_option linter.unusedSimpArgs false
section
variable {H : Type} {enc : TypeId × Value → H} {P : Program} {w : World}
theorem read_str' {t : TypeId} {fuel : Nat} {v : Value} {x : DataW H × List MemPlace} (ht : P.underlying t = some .string) (h : DataW.trod enc P w 0 (fun _ => true) true fuel t [v] = some x) : ∃ s : ByteArray, v = .string s ∧ V w (Lim gz) v (.str s) := by
  obtain ⟨s, h1, _, h2⟩ := DataW.trod_string ht h
  simp only [List.cons.injEq, and_true] at h1
  subst h1
  exact ⟨s, rfl, .str s (Nat.le_trans h2 maxLen_big)⟩
end
end Go.Proofs.Ytapkbkniooleaaa.Vs

/- Texts of a list, read in memory, with their sizes. -/
namespace Go.Proofs.Ytapkbkniooleaaa.Vs
open Go.RowKit
set_option linter.unusedVariables false
set_option linter.unusedSimpArgs false
section
variable {H : Type} {enc : TypeId × Value → H} {P : Program} {w : World}
theorem weights_strs {e : TypeId} : ∀ {l : List ByteArray} {s : ByteArray}, s ∈ l → s.data.toList.length ∈ DataW.weightsAll (H := H) P e (Go.ChangeShapes.strs l)
  | [], _, h => by cases h
  | a :: l, s, h => by
    show _ ∈ DataW.weightsAll P e (DataW.lit (.string a.data.toList) :: Go.ChangeShapes.strs l)
    rw [DataW.weightsAll, DataW.weights]
    rcases List.mem_cons.1 h with rfl | h
    · exact List.mem_append_left _ (by simp)
    · exact List.mem_append_right _ (weights_strs h)
theorem read_strsW {t e : TypeId} {fuel : Nat} {v : Value} {x : DataW H × List MemPlace} (ht : P.underlying t = some (.slice e)) (he : P.underlying e = some .string) (hc : P.cellsOf e = 1)
    (h : DataW.trod enc P w 0 (fun _ => true) true fuel t [v] = some x) (hw : ∀ n ∈ x.1.weights P t, n ≤ reachBytes) : ∃ l : Wd, V w (Lim gz) v (encSS l) ∧ ∀ s ∈ l, s.size ≤ 140737488351232 := by
  rcases Go.ChangeShapes.open_strings ht he hc h with ⟨h1, _⟩ | ⟨a, len, cap, ss, h1, _, hl, hm, hlen, hx, hcell, hs⟩
  · simp only [List.cons.injEq, and_true] at h1
    subst h1
    exact ⟨[], V_strs rfl (.inl ⟨rfl, rfl⟩) (Nat.le_refl _) (Nat.zero_le _) (fun s hs => by cases hs), fun s hs => by cases hs⟩
  · simp only [List.cons.injEq, and_true] at h1
    subst h1
    simp only [if_true] at hlen
    refine ⟨ss.take len, V_strs (by simp; omega) (.inr ⟨a, rfl, fun i hi => ?_⟩) hl (Nat.le_trans hm maxLen_big) (fun s hs' => Nat.le_trans (hs s (List.mem_of_mem_take hs')) maxLen_big), fun s hs' => ?_⟩
    · rw [hcell i (by omega)]
      congr 2
      simp [List.getD_eq_getElem?_getD, List.getElem?_take, hi]
    · have hin : s.data.toList.length ∈ x.1.weights P t := by
        rw [hx]
        show _ ∈ DataW.weights P t (.slice _ _)
        rw [DataW.weights, ht]
        exact List.mem_cons_of_mem _ (List.mem_append_left _ (weights_strs hs'))
      have := hw _ hin
      have e : s.data.toList.length = s.size := by simp
      rw [e] at this
      exact this
end
end Go.Proofs.Ytapkbkniooleaaa.Vs

/- numbers of Ytapkbkniooleaaa -/
namespace Go.Proofs.Ytapkbkniooleaaa.Vs
open Go.RowKit
set_option linter.unusedVariables false
set_option linter.unusedSimpArgs false
section
variable {H : Type} {enc : TypeId × Value → H} {P : Program} {w : World}
theorem weights_each {ts : List TypeId} {ds : List (DataW H)} {i : Nat} {t : TypeId} {d : DataW H} {n : Nat} (ht : ts[i]? = some t) (hd : ds[i]? = some d) (hn : n ∈ d.weights P t) : n ∈ DataW.weightsEach P ts ds := by
  induction ts generalizing ds i with
  | nil => simp at ht
  | cons a ts ih =>
    cases ds with
    | nil => simp at hd
    | cons b ds =>
      rw [DataW.weightsEach]
      cases i with
      | zero =>
        simp only [List.getElem?_cons_zero, Option.some.injEq] at ht hd
        subst ht; subst hd
        exact List.mem_append_left _ hn
      | succ i =>
        simp only [List.getElem?_cons_succ] at ht hd
        exact List.mem_append_right _ (ih ht hd)
theorem read_cutter {t s e : TypeId} {f0 f1 f2 f3 : Field} {fuel : Nat} {cs : Array Value} {x : DataW H × List MemPlace} (ht : P.underlying t = some (.struct #[f0, f1, f2, f3])) (ce : P.cellsOf t = 4)
    (o0 : f0.offset = 0) (o1 : f1.offset = 1) (o2 : f2.offset = 2) (o3 : f3.offset = 3) (t0 : f0.type = s) (t1 : f1.type = s) (t2 : f2.type = s) (t3 : f3.type = s) (c0 : P.cellsOf s = 1)
    (us : P.underlying s = some (.slice e)) (ue : P.underlying e = some .string) (cse : P.cellsOf e = 1) (hsz : cs.size = 4)
    (h : DataW.trod enc P w 0 (fun _ => true) true fuel t (Value.agg cs).cells.toList = some x) (hw : ∀ n ∈ x.1.weights P t, n ≤ reachBytes) :
    ∃ c : Cut, V w (Lim gz) (.agg cs) (encC c) ∧ ∀ l ∈ lsC c, ∀ s ∈ l, s.size ≤ 140737488351232 := by
  have hcells : (Value.agg cs).cells.toList = cs.toList := rfl
  rw [hcells] at h
  obtain ⟨xs, k, _, hx, hlen, hxl, hf⟩ := DataW.trod_struct ht h
  obtain ⟨v0, v1, v2, v3, rfl⟩ : ∃ a b c d, cs = #[a, b, c, d] := by
    obtain ⟨l⟩ := cs
    match l, hsz with
    | [a, b, c, d], _ => exact ⟨a, b, c, d, rfl⟩
  match xs, hxl with
  | [y0, y1, y2, y3], _ =>
    have q0 := hf 0 f0 rfl
    have q1 := hf 1 f1 rfl
    have q2 := hf 2 f2 rfl
    have q3 := hf 3 f3 rfl
    simp only [o0, o1, o2, o3, t0, t1, t2, t3, c0, List.drop_zero, List.drop_succ_cons, List.take_succ_cons, List.take_zero, List.getElem?_cons_zero, List.getElem?_cons_succ] at q0 q1 q2 q3
    have hwt : ∀ (i : Nat) (y : DataW H × List MemPlace), i < 4 → [y0, y1, y2, y3][i]? = some y → ∀ n ∈ y.1.weights P s, n ≤ reachBytes := fun i y hi hy n hn => by
      refine hw n ?_
      rw [hx]
      show n ∈ DataW.weights P t (.agg _)
      rw [DataW.weights, ht]
      refine weights_each (i := i) (t := s) (d := y.1) ?_ ?_ hn
      · match i, hi with
        | 0, _ => simp [t0]
        | 1, _ => simp [t1]
        | 2, _ => simp [t2]
        | 3, _ => simp [t3]
      · rw [List.getElem?_map, hy]; rfl
    obtain ⟨w0, r0, s0⟩ := read_strsW us ue cse q0 (hwt 0 y0 (by decide) rfl)
    obtain ⟨w1, r1, s1⟩ := read_strsW us ue cse q1 (hwt 1 y1 (by decide) rfl)
    obtain ⟨w2, r2, s2⟩ := read_strsW us ue cse q2 (hwt 2 y2 (by decide) rfl)
    obtain ⟨w3, r3, s3⟩ := read_strsW us ue cse q3 (hwt 3 y3 (by decide) rfl)
    refine ⟨⟨w0, w1, w2, w3⟩, .agg _ _ rfl (fun v hv => ?_) (fun i hi => ?_), fun l hl => ?_⟩
    · simp only [List.mem_cons, List.not_mem_nil, or_false] at hv
      rcases hv with rfl | rfl | rfl | rfl
      · unfold encSS at r0; cases r0; rfl
      · unfold encSS at r1; cases r1; rfl
      · unfold encSS at r2; cases r2; rfl
      · unfold encSS at r3; cases r3; rfl
    · match i, hi with
      | 0, _ => exact r0
      | 1, _ => exact r1
      | 2, _ => exact r2
      | 3, _ => exact r3
    · simp only [lsC, List.mem_cons, List.not_mem_nil, or_false] at hl
      rcases hl with rfl | rfl | rfl | rfl
      · exact s0
      · exact s1
      · exact s2
      · exact s3
end
end Go.Proofs.Ytapkbkniooleaaa.Vs
