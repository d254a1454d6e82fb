/- numbers of YtldlcejlfaogbaaDoor -/
/- A table turned round: the plain law. -/
import Derived.Test.YtldlcejlfaogbaaDoorLawRoadsA
import Derived.Test.YtldlcejlfaogbaaDoorMgB
namespace Go.Proofs.YtldlcejlfaogbaaDoor.Vs
set_option linter.unusedVariables false
set_option linter.unusedSimpArgs false
set_option maxRecDepth 20000

/-! ### the longest row -/
def fits (t : List Sh) (w : Wd) (b : Option Nat) (k : Nat) : Prop :=
  match b with
  | none => ∀ j r, j < k → t[j]? = some r → begW w r.From = false
  | some i => i < k ∧ ∃ r, t[i]? = some r ∧ begW w r.From = true ∧ ∀ j r', j < k → t[j]? = some r' → begW w r'.From = true → r'.From.length ≤ r.From.length
theorem fits_step {t : List Sh} {w : Wd} {b : Option Nat} {k : Nat} (h : fits t w b k) (hk : k < t.length) : fits t w (bestI t b k w) (k + 1) := by
  have hx : t[k]? = some t[k] := List.getElem?_eq_getElem hk
  unfold bestI
  rw [hx]
  simp only
  cases hb : begW w t[k].From with
  | false =>
    simp only [Bool.false_and, Bool.false_eq_true, if_false]
    cases b with
    | none =>
      intro j r hj hr
      rcases Nat.lt_succ_iff_lt_or_eq.1 hj with h1 | rfl
      · exact h j r h1 hr
      · rw [hx] at hr; cases hr; exact hb
    | some i =>
      obtain ⟨h1, r, h2, h3, h4⟩ := h
      refine ⟨by omega, r, h2, h3, fun j r' hj hr' hb' => ?_⟩
      rcases Nat.lt_succ_iff_lt_or_eq.1 hj with h5 | rfl
      · exact h4 j r' h5 hr' hb'
      · rw [hx] at hr'; cases hr'; rw [hb] at hb'; cases hb'
  | true =>
    cases b with
    | none =>
      simp only [longer, Bool.and_self, if_true]
      refine ⟨by omega, _, hx, hb, fun j r' hj hr' hb' => ?_⟩
      rcases Nat.lt_succ_iff_lt_or_eq.1 hj with h5 | rfl
      · rw [h j r' h5 hr'] at hb'; cases hb'
      · rw [hx] at hr'; cases hr'; exact Nat.le_refl _
    | some i =>
      obtain ⟨h1, r, h2, h3, h4⟩ := h
      by_cases hl : r.From.length < t[k].From.length
      · simp only [longer, h2, Option.map_some, Option.getD_some, hl, decide_true, Bool.and_self, if_true]
        refine ⟨by omega, _, hx, hb, fun j r' hj hr' hb' => ?_⟩
        rcases Nat.lt_succ_iff_lt_or_eq.1 hj with h5 | rfl
        · have := h4 j r' h5 hr' hb'; omega
        · rw [hx] at hr'; cases hr'; exact Nat.le_refl _
      · simp only [longer, h2, Option.map_some, Option.getD_some, hl, decide_false, Bool.and_false, Bool.false_eq_true, if_false]
        refine ⟨by omega, r, h2, h3, fun j r' hj hr' hb' => ?_⟩
        rcases Nat.lt_succ_iff_lt_or_eq.1 hj with h5 | rfl
        · exact h4 j r' h5 hr' hb'
        · rw [hx] at hr'; cases hr'; omega
theorem fits_from {t : List Sh} {w : Wd} : ∀ (n : Nat) (b : Option Nat) (k : Nat), k + n = t.length → fits t w b k → fits t w (fitFrom t w n b k) t.length
  | 0, b, k, hk, h => by rw [fitFrom, show t.length = k by omega]; exact h
  | n + 1, b, k, hk, h => by
    rw [fitFrom]
    exact fits_from n _ (k + 1) (by omega) (fits_step h (by omega))
theorem fitW_fits (t : List Sh) (w : Wd) : fits t w (fitW t w) t.length := fits_from t.length none 0 (by omega) fun j r hj => absurd hj (by omega)
/-! ### rows in order -/
theorem ordBad_lt : ∀ {t : List Sh} {p : Wd}, ordBad (some p) t = false → (∀ r ∈ t, ltW p r.From = true) ∧ t.Pairwise (fun a b => ltW a.From b.From = true)
  | [], p, _ => ⟨fun r hr => (by cases hr), .nil⟩
  | r :: t, p, h => by
    rw [ordBad, Bool.or_eq_false_iff] at h
    obtain ⟨h1, h2⟩ := h
    have hpr : ltW p r.From = true := by
      simp only [badO, Bool.or_eq_false_iff, decide_eq_false_iff_not, Int.not_le] at h1
      exact decide_eq_true h1.2
    obtain ⟨h3, h4⟩ := ordBad_lt h2
    refine ⟨fun x hx => ?_, .cons h3 h4⟩
    rcases List.mem_cons.1 hx with rfl | hx
    · exact hpr
    · exact ltW_trans hpr (h3 x hx)
theorem ordBad_pair : ∀ {t : List Sh}, ordBad none t = false → t.Pairwise (fun a b => ltW a.From b.From = true)
  | [], _ => .nil
  | r :: t, h => by
    rw [ordBad, Bool.or_eq_false_iff] at h
    obtain ⟨h3, h4⟩ := ordBad_lt h.2
    exact .cons h3 h4
theorem from_inj {t : List Sh} (h : badT t = 0) {a b : Sh} (ha : a ∈ t) (hb : b ∈ t) (he : a.From = b.From) : a = b := by
  have hp := ordBad_pair (badT_zero h).2.2
  obtain ⟨i, hi, rfl⟩ := List.getElem_of_mem ha
  obtain ⟨j, hj, rfl⟩ := List.getElem_of_mem hb
  rcases Nat.lt_trichotomy i j with hij | hij | hij
  · have := List.pairwise_iff_getElem.1 hp i j hi hj hij
    rw [he, ltW_irrefl] at this; cases this
  · subst hij; rfl
  · have := List.pairwise_iff_getElem.1 hp j i hj hi hij
    rw [← he, ltW_irrefl] at this; cases this
theorem begW_self (w : Wd) : begW w w = true := begW_pre.2 ⟨[], by simp⟩
/-- A whole From is taken. -/
theorem shiftW_row {u : List Sh} (hu : badT u = 0) {r : Sh} (hr : r ∈ u) : (shiftW u r.From).1 = r.To := by
  have h0 := (table_ok hu).1
  have hne := h0 r hr
  have hf := fitW_fits u r.From
  obtain ⟨i, hi, hri⟩ := List.getElem_of_mem hr
  cases hk : fitW u r.From with
  | none =>
    rw [hk] at hf
    have := hf i r (by omega) (by rw [List.getElem?_eq_getElem hi, hri])
    rw [begW_self] at this; cases this
  | some k =>
    rw [hk] at hf
    obtain ⟨hkl, r', h2, h3, h4⟩ := hf
    have hle := h4 i r hi (by rw [List.getElem?_eq_getElem hi, hri]) (begW_self _)
    obtain ⟨v, hv⟩ := begW_pre.1 h3
    have hlen := congrArg List.length hv
    rw [List.length_append] at hlen
    have hv0 : v = [] := List.eq_nil_of_length_eq_zero (by omega)
    rw [hv0, List.append_nil] at hv
    have hrr : r = r' := from_inj hu hr (List.mem_of_getElem? h2) hv
    subst hrr
    have e1 : stepTo u r.From = r.To := by simp [stepTo, hk, h2]
    have e2 : stepN u r.From = r.From.length := by simp [stepN, hk, h2]
    rw [shiftW_go h0 hne, e1, e2, List.drop_length, shiftW_nil]
    simp
/-! ### turned round -/
def rev (t : List Sh) : List Sh := t.map fun r => ⟨r.To, r.From⟩
theorem rev_row {t out : List Sh} (ho : badT out = 0) (hp : out.Perm (rev t)) {r : Sh} (hr : r ∈ t) : (shiftW out r.To).1 = r.From :=
  shiftW_row (r := ⟨r.To, r.From⟩) ho (hp.mem_iff.2 (List.mem_map.2 ⟨r, hr, rfl⟩))
theorem rev_words {t out : List Sh} (ho : badT out = 0) (hp : out.Perm (rev t)) (hj : joinsW out (t.map (·.To)) = true) {rs : List Sh} (hr : ∀ r ∈ rs, r ∈ t) : (shiftW out (rs.map (·.To)).flatten).1 = (rs.map (·.From)).flatten := by
  obtain ⟨b1, b2, _⟩ := badT_zero ho
  have hm := joinsW_app (table_ok ho).1 (fun r hr => badW_len (firstE_zero b2 r hr).1) b1 hj (rs.map (·.To)) fun x hx => by
    obtain ⟨r, hxr, rfl⟩ := List.mem_map.1 hx
    exact List.mem_map.2 ⟨r, hr r hxr, rfl⟩
  rw [hm, List.map_map]
  congr 1
  exact List.map_congr_left fun r hx => rev_row ho hp (hr r hx)
theorem clean_from {a : List Sh} (ha : ∀ r ∈ a, r.From ≠ []) : ∀ (n : Nat) (w : Wd), w.length ≤ n → (shiftW a w).2 = true →
    ∃ rs : List Sh, (∀ r ∈ rs, r ∈ a) ∧ (shiftW a w).1 = (rs.map (·.To)).flatten ∧ w = (rs.map (·.From)).flatten := fun n => by
  induction n with
  | zero =>
    intro w h _
    have : w = [] := List.eq_nil_of_length_eq_zero (by omega)
    subst this
    exact ⟨[], fun r hr => (by cases hr), rfl, rfl⟩
  | succ n ih =>
    intro w h hc
    by_cases hw : w = []
    · subst hw
      exact ⟨[], fun r hr => (by cases hr), rfl, rfl⟩
    · have hst := stepN_pos ha hw
      rw [shiftW_go ha hw] at hc ⊢
      simp only [Bool.and_eq_true, decide_eq_true_eq] at hc
      cases hf : fitW a w with
      | none => rw [hf] at hc; exact absurd hc.1 (by decide)
      | some j =>
        have hjl := fitW_lt hf
        have e1 : stepTo a w = a[j].To := by simp [stepTo, hf, hjl]
        have e3 : stepN a w = a[j].From.length := by simp [stepN, hf, hjl]
        obtain ⟨r, hr, hb⟩ := fitW_beg hf
        rw [List.getElem?_eq_getElem hjl] at hr
        cases hr
        obtain ⟨v, hv⟩ := begW_pre.1 hb
        obtain ⟨rs, h1, h2, h3⟩ := ih (w.drop (stepN a w)) (by rw [List.length_drop]; omega) hc.2
        refine ⟨a[j] :: rs, fun r hr => ?_, ?_, ?_⟩
        · rcases List.mem_cons.1 hr with rfl | hr
          · exact List.getElem_mem hjl
          · exact h1 r hr
        · simp only [e1, h2, List.map_cons, List.flatten_cons]
        · rw [List.map_cons, List.flatten_cons, ← h3, e3]
          have : w.drop a[j].From.length = v := by
            have := congrArg (List.drop a[j].From.length) hv
            rwa [List.drop_left] at this
          rw [this]
          exact hv
/-- Each clean word comes back. -/
theorem returns {t out : List Sh} {w : Wd} (ht : badT t = 0) (ho : badT out = 0) (hp : out.Perm (rev t)) (hj : joinsW out (t.map (·.To)) = true) (hc : cleanR t w = (true, 0)) (hs : (shiftR t w).2 = 0) : shiftR out (shiftR t w).1 = (w, 0) := by
  have ha0 := (table_ok ht).1
  obtain ⟨a1, a2, _⟩ := badT_zero ht
  have he : errTW t w = 0 := by
    unfold cleanR at hc
    cases h : (errTW t w != 0) with
    | false => simpa using h
    | true => rw [h] at hc; simp at hc
  have hw := (errTW_zero he).2
  have hcl : (shiftW t w).2 = true := by
    unfold cleanR at hc
    rw [he] at hc
    simpa using hc
  have hx : ¬ 60 < (shiftW t w).1.length ∧ (shiftR t w).1 = (shiftW t w).1 := by
    unfold shiftR at hs ⊢
    rw [he] at hs ⊢
    simp only [bne_self_eq_false, Bool.false_eq_true, if_false] at hs ⊢
    split at hs
    · cases hs
    · rename_i h; rw [if_neg h]; exact ⟨h, rfl⟩
  rw [hx.2]
  obtain ⟨rs, r1, r2, r3⟩ := clean_from ha0 _ w (Nat.le_refl _) hcl
  have hm := rev_words ho hp hj r1
  rw [← r2, ← r3] at hm
  have hbx : badW (shiftW t w).1 = 0 := sym_badW (by omega) fun s hs => by
    rcases shiftW_mem ha0 _ w (Nat.le_refl _) s hs with h | ⟨p, hp, h⟩
    · exact badW_sym hw s h
    · exact badW_sym (firstE_zero a2 p hp).2 s h
  have e1 : errTW out (shiftW t w).1 = 0 := by simp [errTW, ho, hbx]
  have h60 := badW_len hw
  unfold shiftR
  rw [e1, hm]
  simp only [bne_self_eq_false, Bool.false_eq_true, if_false]
  rw [if_neg (by omega)]
/-- No two unlike rows of words make one. -/
theorem rev_unique {t out : List Sh} (ht : badT t = 0) (hpl : plainT t = true) (ho : badT out = 0) (hp : out.Perm (rev t)) (hj : joinsW out (t.map (·.To)) = true) {a b : List Int} (ha : okNs (t.map (·.To)) a) (hb : okNs (t.map (·.To)) b) (hab : joinW (t.map (·.To)) a = joinW (t.map (·.To)) b) : a = b := by
  have one : ∀ r ∈ t, r.From.length = 1 := fun r hr => by
    unfold plainT at hpl
    simp only [Bool.not_eq_true'] at hpl
    have := List.any_eq_false.1 hpl r hr
    simp only [bne_iff_ne, ne_eq, Decidable.not_not] at this
    omega
  have rows : ∀ ns : List Int, okNs (t.map (·.To)) ns → ∃ rs : List Sh, (∀ r ∈ rs, r ∈ t) ∧ joinW (t.map (·.To)) ns = (rs.map (·.To)).flatten ∧ rs.length = ns.length ∧ ∀ i (h : i < ns.length), rs[i]? = t[(ns[i]).toNat]? := fun ns => by
    induction ns with
    | nil => intro _; exact ⟨[], fun r hr => (by cases hr), rfl, rfl, fun i h => by simp at h⟩
    | cons n ns ih =>
      intro hn
      obtain ⟨rs, h1, h2, h3, h4⟩ := ih fun x hx => hn x (List.mem_cons_of_mem _ hx)
      obtain ⟨n0, n1⟩ := hn n (by simp)
      rw [List.length_map] at n1
      have hlt : n.toNat < t.length := by omega
      refine ⟨t[n.toNat] :: rs, fun r hr => ?_, ?_, by simp [h3], fun i hi => ?_⟩
      · rcases List.mem_cons.1 hr with rfl | hr
        · exact List.getElem_mem hlt
        · exact h1 r hr
      · have : joinW (t.map (·.To)) (n :: ns) = ((t.map (·.To))[n.toNat]?).getD [] ++ joinW (t.map (·.To)) ns := rfl
        rw [this, h2]
        simp [hlt]
      · cases i with
        | zero => simp [hlt]
        | succ i => simpa using h4 i (by simpa using hi)
  obtain ⟨ra, a1, a2, a3, a4⟩ := rows a ha
  obtain ⟨rb, b1, b2, b3, b4⟩ := rows b hb
  have hf : (ra.map (·.From)).flatten = (rb.map (·.From)).flatten := by
    rw [← rev_words ho hp hj a1, ← rev_words ho hp hj b1, ← a2, ← b2, hab]
  have single : ∀ (xs ys : List Sh), (∀ r ∈ xs, r ∈ t) → (∀ r ∈ ys, r ∈ t) → (xs.map (·.From)).flatten = (ys.map (·.From)).flatten → xs = ys := fun xs => by
    induction xs with
    | nil =>
      intro ys _ hy h
      cases ys with
      | nil => rfl
      | cons y ys =>
        have h1 := one y (hy y (by simp))
        rw [List.map_nil, List.flatten_nil, List.map_cons, List.flatten_cons] at h
        have h2 := congrArg List.length h
        rw [List.length_append, List.length_nil] at h2
        omega
    | cons x xs ih =>
      intro ys hx hy h
      have hx1 := one x (hx x (by simp))
      cases ys with
      | nil =>
        rw [List.map_nil, List.flatten_nil, List.map_cons, List.flatten_cons] at h
        have h2 := congrArg List.length h
        rw [List.length_append, List.length_nil] at h2
        omega
      | cons y ys =>
        have hy1 := one y (hy y (by simp))
        rw [List.map_cons, List.map_cons, List.flatten_cons, List.flatten_cons] at h
        obtain ⟨h1, h2⟩ := List.append_inj h (by rw [hx1, hy1])
        rw [from_inj ht (hx x (by simp)) (hy y (by simp)) h1, ih ys (fun r hr => hx r (List.mem_cons_of_mem _ hr)) (fun r hr => hy r (List.mem_cons_of_mem _ hr)) h2]
  have hrr := single ra rb a1 b1 hf
  subst hrr
  have hl : a.length = b.length := by omega
  refine List.ext_getElem hl fun i h1 h2 => ?_
  have e := (a4 i h1).symm.trans (b4 i h2)
  obtain ⟨p0, p1⟩ := ha _ (List.getElem_mem h1)
  obtain ⟨q0, q1⟩ := hb _ (List.getElem_mem h2)
  rw [List.length_map] at p1 q1
  have g1 : (a[i]).toNat < t.length := by omega
  have g2 : (b[i]).toNat < t.length := by omega
  rw [List.getElem?_eq_getElem g1, List.getElem?_eq_getElem g2] at e
  have e := Option.some.inj e
  have hpw := ordBad_pair (badT_zero ht).2.2
  rcases Nat.lt_trichotomy (a[i]).toNat (b[i]).toNat with hij | hij | hij
  · have := List.pairwise_iff_getElem.1 hpw _ _ g1 g2 hij
    rw [e, ltW_irrefl] at this; cases this
  · have p0' := p0
    have q0' := q0
    rw [← Int.toNat_of_nonneg p0, ← Int.toNat_of_nonneg q0, hij]
  · have := List.pairwise_iff_getElem.1 hpw _ _ g2 g1 hij
    rw [e, ltW_irrefl] at this; cases this
end Go.Proofs.YtldlcejlfaogbaaDoor.Vs
