import Derived.Test.YtldlcejlfaogbaaGreatDoorJoF6
import Derived.Test.YtldlcejlfaogbaaGreatDoorOrdW
/- numbers of YtldlcejlfaogbaaDoor -/
namespace Go.Proofs.YtldlcejlfaogbaaGreatDoor.Vs
set_option linter.unusedVariables false
set_option linter.unusedSimpArgs false
set_option maxRecDepth 20000
theorem begW_pre : ∀ {w x : Wd}, begW w x = true ↔ ∃ v, w = x ++ v
  | w, [] => by simp [begW]
  | [], x :: xs => by simp [begW]
  | a :: w, x :: xs => by
    simp only [begW, Bool.and_eq_true, begW_pre (w := w) (x := xs), List.cons_append, List.cons.injEq]
    exact ⟨fun ⟨h, v, hv⟩ => ⟨v, ba_eq h, hv⟩, fun ⟨v, h, hv⟩ => ⟨by rw [h]; exact ba_refl _, v, hv⟩⟩
/-- Where nothing waits, what stands behind does not tell which row begins. -/
theorem begW_app {u v x : Wd} (h : u.length < x.length → begW x u = false) : begW (u ++ v) x = begW u x := by
  rw [Bool.eq_iff_iff, begW_pre, begW_pre]
  constructor
  · rintro ⟨y, hy⟩
    by_cases hl : u.length < x.length
    · have hp : u = x.take u.length := by
        have := congrArg (List.take u.length) hy
        rw [List.take_left, List.take_append_of_le_length (by omega)] at this
        exact this
      have : begW x u = true := begW_pre.2 ⟨x.drop u.length, by
        have := (List.take_append_drop u.length x).symm
        rw [← hp] at this; exact this⟩
      rw [h hl] at this; cases this
    · refine ⟨u.drop x.length, ?_⟩
      have h1 := congrArg (List.take x.length) hy
      rw [List.take_left, List.take_append_of_le_length (by omega)] at h1
      have h2 := (List.take_append_drop x.length u).symm
      rw [h1] at h2
      exact h2
  · rintro ⟨y, hy⟩
    exact ⟨y ++ v, by rw [hy, List.append_assoc]⟩
theorem not_waits {t : List Sh} {u : Wd} (h : waitsW t u = false) {r : Sh} (hr : r ∈ t) : u.length < r.From.length → begW r.From u = false := fun hl => by
  have := List.any_eq_false.1 h r hr
  simp only [waitsR, Bool.and_eq_true, decide_eq_true_eq, not_and, Bool.not_eq_true] at this
  exact this hl
theorem fitFrom_app {t : List Sh} {u v : Wd} (h : waitsW t u = false) : ∀ (n : Nat) (b : Option Nat) (k : Nat), fitFrom t (u ++ v) n b k = fitFrom t u n b k
  | 0, b, k => rfl
  | n + 1, b, k => by
    have hb : bestI t b k (u ++ v) = bestI t b k u := by
      unfold bestI
      cases hk : t[k]? with
      | none => rfl
      | some r => simp only [begW_app (v := v) (not_waits h (List.mem_of_getElem? hk))]
    rw [fitFrom, fitFrom, hb, fitFrom_app h n]
theorem fitW_app {t : List Sh} {u v : Wd} (h : waitsW t u = false) : fitW t (u ++ v) = fitW t u := fitFrom_app h _ _ _
theorem stepTo_app {t : List Sh} {u v : Wd} (h : waitsW t u = false) (hu : u ≠ []) : stepTo t (u ++ v) = stepTo t u ∧ stepN t (u ++ v) = stepN t u := by
  unfold stepTo stepN
  rw [fitW_app h]
  cases hf : fitW t u with
  | none =>
    refine ⟨?_, rfl⟩
    cases u with
    | nil => exact absurd rfl hu
    | cons a u => rfl
  | some k => exact ⟨rfl, rfl⟩
theorem shiftF_more {t : List Sh} (ht : ∀ r ∈ t, r.From ≠ []) : ∀ (n m : Nat) (w : Wd), w.length ≤ n → w.length ≤ m → shiftF t n w = shiftF t m w
  | 0, m, w, h1, h2 => by
    have : w = [] := List.eq_nil_of_length_eq_zero (by omega)
    subst this
    cases m <;> simp [shiftF]
  | n + 1, 0, w, h1, h2 => by
    have : w = [] := List.eq_nil_of_length_eq_zero (by omega)
    subst this
    simp [shiftF]
  | n + 1, m + 1, w, h1, h2 => by
    by_cases hw : w.length = 0
    · simp [shiftF, hw]
    · have hw' : w ≠ [] := fun e => hw (by rw [e]; rfl)
      have hs := stepN_pos ht hw'
      simp only [shiftF, hw, if_false]
      rw [shiftF_more ht n m (w.drop (stepN t w)) (by rw [List.length_drop]; omega) (by rw [List.length_drop]; omega)]
theorem shiftW_nil (t : List Sh) : shiftW t [] = ([], true) := rfl
theorem shiftW_go {t : List Sh} (ht : ∀ r ∈ t, r.From ≠ []) {w : Wd} (hw : w ≠ []) : shiftW t w = (stepTo t w ++ (shiftW t (w.drop (stepN t w))).1, decide (0 ≤ optI (fitW t w)) && (shiftW t (w.drop (stepN t w))).2) := by
  have hs := stepN_pos ht hw
  have hw0 : ¬ w.length = 0 := fun e => hw (List.eq_nil_of_length_eq_zero e)
  have e : shiftW t w = shiftF t ((w.length - 1) + 1) w := by
    unfold shiftW
    congr 1
    omega
  rw [e]
  simp only [shiftF, hw0, if_false]
  rw [show shiftW t (w.drop (stepN t w)) = shiftF t (w.length - 1) (w.drop (stepN t w)) from shiftF_more ht _ _ _ (Nat.le_refl _) (by rw [List.length_drop]; omega)]
/-- What was written stays, whatever comes. -/
theorem fed_app {t : List Sh} (ht : ∀ r ∈ t, r.From ≠ []) : ∀ (n : Nat) (u v : Wd), u.length ≤ n → (shiftW t (u ++ v)).1 = (fedW t u).1 ++ (shiftW t ((fedW t u).2 ++ v)).1 := fun n => by
  induction n with
  | zero =>
    intro u v h
    have : u = [] := List.eq_nil_of_length_eq_zero (by omega)
    subst this
    rw [fedW_stop (.inl rfl)]
    rfl
  | succ n ih =>
    intro u v h
    by_cases hc : u.length = 0 ∨ waitsW t u = true
    · rw [fedW_stop hc]; rfl
    · have hu : u ≠ [] := fun e => hc (.inl (by rw [e]; rfl))
      have hw : waitsW t u = false := by
        cases h : waitsW t u with
        | false => rfl
        | true => exact absurd (.inr h) hc
      obtain ⟨e1, e2⟩ := stepTo_app (v := v) hw hu
      have hs := stepN_pos ht hu
      have huv : u ++ v ≠ [] := by simp [hu]
      rw [fedW_go ht hc, shiftW_go ht huv, e1, e2]
      simp only
      rw [List.drop_append_of_le_length hs.2, ih (u.drop (stepN t u)) v (by rw [List.length_drop]; omega), List.append_assoc]
theorem inJ_sub {t : List Sh} {left : Wd} : ∀ {l : List Wd} {todo todo' : List Wd}, inJ t left l todo = some todo' → (∀ w ∈ todo, w ∈ todo') ∧ todo.length ≤ todo'.length ∧ (∀ i, i < todo.length → todo'[i]? = todo[i]?) ∧ ∀ w ∈ l, stepJ t left w = true ∧ nextJ t left w ∈ todo'
  | [], todo, todo', h => by
    simp only [inJ, Option.some.injEq] at h
    subst h
    exact ⟨fun w hw => hw, Nat.le_refl _, fun i _ => rfl, fun w hw => by cases hw⟩
  | w :: l, todo, todo', h => by
    rw [inJ] at h
    by_cases hs : stepJ t left w = true
    · rw [if_pos hs] at h
      obtain ⟨h1, h2, h3, h4⟩ := inJ_sub h
      have ha : (∀ x ∈ todo, x ∈ addJ todo (nextJ t left w)) ∧ todo.length ≤ (addJ todo (nextJ t left w)).length ∧ (∀ i, i < todo.length → (addJ todo (nextJ t left w))[i]? = todo[i]?) ∧ nextJ t left w ∈ addJ todo (nextJ t left w) := by
        unfold addJ
        split
        · rename_i hm
          exact ⟨fun x hx => hx, Nat.le_refl _, fun i _ => rfl, anyEq.1 hm⟩
        · exact ⟨fun x hx => List.mem_append_left _ hx, by simp, fun i hi => List.getElem?_append_left hi, by simp⟩
      refine ⟨fun x hx => h1 x (ha.1 x hx), Nat.le_trans ha.2.1 h2, fun i hi => by rw [h3 i (by have := ha.2.1; omega), ha.2.2.1 i hi], fun x hx => ?_⟩
      rcases List.mem_cons.1 hx with rfl | hx
      · exact ⟨hs, h1 _ ha.2.2.2⟩
      · exact h4 x hx
    · rw [if_neg hs] at h; cases h
theorem inJ_todo {t : List Sh} (ht : ∀ r ∈ t, r.From ≠ []) {left : Wd} : ∀ {l : List Wd} {todo todo' : List Wd}, TodoJ t todo → inJ t left l todo = some todo' → TodoJ t todo'
  | [], todo, todo', hT, h => by simp only [inJ, Option.some.injEq] at h; subst h; exact hT
  | w :: l, todo, todo', hT, h => by
    rw [inJ] at h
    split at h
    · exact inJ_todo ht (hT.add (nextJ_ok ht left w)) h
    · cases h
/-- All that there is to do was done. -/
theorem outJ_closed {t : List Sh} (ht : ∀ r ∈ t, r.From ≠ []) (h60 : ∀ r ∈ t, r.From.length ≤ 60) (h24 : t.length ≤ 24) {l : List Wd} : ∀ (f i : Nat) (todo : List Wd), TodoJ t todo → i ≤ todo.length → 1442 ≤ f + i → outJ t l f i todo = true →
    (∀ j, j < i → ∀ left, todo[j]? = some left → ∀ w ∈ l, stepJ t left w = true ∧ nextJ t left w ∈ todo) →
    ∃ T : List Wd, (∀ w ∈ todo, w ∈ T) ∧ ∀ left ∈ T, ∀ w ∈ l, stepJ t left w = true ∧ nextJ t left w ∈ T
  | 0, i, todo, hT, hi, hf, _, hd => by
    have := hT.len h60 h24
    omega
  | f + 1, i, todo, hT, hi, hf, h, hd => by
    rw [outJ] at h
    cases hx : todo[i]? with
    | none =>
      have hge : todo.length ≤ i := by rwa [List.getElem?_eq_none_iff] at hx
      refine ⟨todo, fun w hw => hw, fun left hl w hw => ?_⟩
      obtain ⟨j, hj, rfl⟩ := List.getElem_of_mem hl
      exact hd j (by omega) _ (List.getElem?_eq_getElem hj) w hw
    | some left =>
      rw [hx] at h
      simp only at h
      cases hin : inJ t left l todo with
      | none => rw [hin] at h; cases h
      | some todo' =>
        rw [hin] at h
        simp only at h
        obtain ⟨h1, h2, h3, h4⟩ := inJ_sub hin
        have hlt : i < todo.length := by
          rcases Nat.lt_or_ge i todo.length with hl | hl
          · exact hl
          · rw [List.getElem?_eq_none hl] at hx; cases hx
        have hT' : TodoJ t todo' := inJ_todo ht hT hin
        have hd' : ∀ j, j < i + 1 → ∀ left, todo'[j]? = some left → ∀ w ∈ l, stepJ t left w = true ∧ nextJ t left w ∈ todo' := fun j hj left' hl' w hw => by
          rw [h3 j (by omega)] at hl'
          by_cases hji : j = i
          · rw [hji, hx] at hl'
            cases hl'
            exact h4 w hw
          · obtain ⟨g1, g2⟩ := hd j (by omega) left' hl' w hw
            exact ⟨g1, h1 _ g2⟩
        obtain ⟨T, hT1, hT2⟩ := outJ_closed ht h60 h24 f (i + 1) todo' hT' (by omega) (by omega) h hd'
        exact ⟨T, fun w hw => hT1 w (h1 w hw), hT2⟩
theorem joinsW_app {t : List Sh} (ht : ∀ r ∈ t, r.From ≠ []) (h60 : ∀ r ∈ t, r.From.length ≤ 60) (h24 : t.length ≤ 24) {l : List Wd} (h : joinsW t l = true) (ws : List Wd) (hw : ∀ w ∈ ws, w ∈ l) :
    (shiftW t ws.flatten).1 = (ws.map fun w => (shiftW t w).1).flatten := by
  obtain ⟨T, hT1, hT2⟩ := outJ_closed ht h60 h24 2000 0 [[]] (TodoJ.init t) (Nat.zero_le _) (by omega) h (fun j hj => by omega)
  have key : ∀ (ws : List Wd), (∀ w ∈ ws, w ∈ l) → ∀ left ∈ T, (shiftW t (left ++ ws.flatten)).1 = (shiftW t left).1 ++ (ws.map fun w => (shiftW t w).1).flatten := fun ws => by
    induction ws with
    | nil => intro _ left _; simp
    | cons w ws ih =>
      intro hw left hl
      obtain ⟨h1, h2⟩ := hT2 left hl w (hw w (by simp))
      have h3 := ih (fun x hx => hw x (List.mem_cons_of_mem _ hx)) _ h2
      have h4 := eqW_iff.1 h1
      rw [List.flatten_cons, ← List.append_assoc, fed_app ht _ (left ++ w) ws.flatten (Nat.le_refl _)]
      rw [show (fedW t (left ++ w)).2 = nextJ t left w from rfl, h3, ← List.append_assoc, List.map_cons, List.flatten_cons, ← List.append_assoc, h4]
      rfl
  have := key ws hw [] (hT1 [] (by simp))
  rw [shiftW_nil] at this
  simpa using this

theorem firstE_of {t : List Sh} (h : ∀ r ∈ t, badW r.From = 0 ∧ badW r.To = 0) : firstE t = 0 := by
  induction t with
  | nil => rfl
  | cons r t ih =>
    obtain ⟨h1, h2⟩ := h r (by simp)
    have hr : rowE r = 0 := by simp [rowE, h1, h2]
    rw [firstE, hr, ih fun x hx => h x (List.mem_cons_of_mem _ hx)]
    rfl
end Go.Proofs.YtldlcejlfaogbaaGreatDoor.Vs

/- numbers of YtldlcejlfaogbaaDoor -/
namespace Go.Proofs.YtldlcejlfaogbaaGreatDoor.Vs
set_option linter.unusedVariables false
set_option linter.unusedSimpArgs false
set_option maxRecDepth 20000
def fits (t : List Sh) (w : Wd) (b : Option Nat) (k : Nat) : Prop :=
  match b with
  | none => ∀ j r, j < k → t[j]? = some r → begW w r.From = false
  | some i => i < k ∧ ∃ r, t[i]? = some r ∧ begW w r.From = true ∧ ∀ j r', j < k → t[j]? = some r' → begW w r'.From = true → r'.From.length ≤ r.From.length
theorem fits_step {t : List Sh} {w : Wd} {b : Option Nat} {k : Nat} (h : fits t w b k) (hk : k < t.length) : fits t w (bestI t b k w) (k + 1) := by
  have hx : t[k]? = some t[k] := List.getElem?_eq_getElem hk
  unfold bestI
  rw [hx]
  simp only
  cases hb : begW w t[k].From with
  | false =>
    simp only [Bool.false_and, Bool.false_eq_true, if_false]
    cases b with
    | none =>
      intro j r hj hr
      rcases Nat.lt_succ_iff_lt_or_eq.1 hj with h1 | rfl
      · exact h j r h1 hr
      · rw [hx] at hr; cases hr; exact hb
    | some i =>
      obtain ⟨h1, r, h2, h3, h4⟩ := h
      refine ⟨by omega, r, h2, h3, fun j r' hj hr' hb' => ?_⟩
      rcases Nat.lt_succ_iff_lt_or_eq.1 hj with h5 | rfl
      · exact h4 j r' h5 hr' hb'
      · rw [hx] at hr'; cases hr'; rw [hb] at hb'; cases hb'
  | true =>
    cases b with
    | none =>
      simp only [longer, Bool.and_self, if_true]
      refine ⟨by omega, _, hx, hb, fun j r' hj hr' hb' => ?_⟩
      rcases Nat.lt_succ_iff_lt_or_eq.1 hj with h5 | rfl
      · rw [h j r' h5 hr'] at hb'; cases hb'
      · rw [hx] at hr'; cases hr'; exact Nat.le_refl _
    | some i =>
      obtain ⟨h1, r, h2, h3, h4⟩ := h
      by_cases hl : r.From.length < t[k].From.length
      · simp only [longer, h2, Option.map_some, Option.getD_some, hl, decide_true, Bool.and_self, if_true]
        refine ⟨by omega, _, hx, hb, fun j r' hj hr' hb' => ?_⟩
        rcases Nat.lt_succ_iff_lt_or_eq.1 hj with h5 | rfl
        · have := h4 j r' h5 hr' hb'; omega
        · rw [hx] at hr'; cases hr'; exact Nat.le_refl _
      · simp only [longer, h2, Option.map_some, Option.getD_some, hl, decide_false, Bool.and_false, Bool.false_eq_true, if_false]
        refine ⟨by omega, r, h2, h3, fun j r' hj hr' hb' => ?_⟩
        rcases Nat.lt_succ_iff_lt_or_eq.1 hj with h5 | rfl
        · exact h4 j r' h5 hr' hb'
        · rw [hx] at hr'; cases hr'; omega
theorem fits_from {t : List Sh} {w : Wd} : ∀ (n : Nat) (b : Option Nat) (k : Nat), k + n = t.length → fits t w b k → fits t w (fitFrom t w n b k) t.length
  | 0, b, k, hk, h => by rw [fitFrom, show t.length = k by omega]; exact h
  | n + 1, b, k, hk, h => by
    rw [fitFrom]
    exact fits_from n _ (k + 1) (by omega) (fits_step h (by omega))
theorem fitW_fits (t : List Sh) (w : Wd) : fits t w (fitW t w) t.length := fits_from t.length none 0 (by omega) fun j r hj => absurd hj (by omega)
theorem ordBad_lt : ∀ {t : List Sh} {p : Wd}, ordBad (some p) t = false → (∀ r ∈ t, ltW p r.From = true) ∧ t.Pairwise (fun a b => ltW a.From b.From = true)
  | [], p, _ => ⟨fun r hr => (by cases hr), .nil⟩
  | r :: t, p, h => by
    rw [ordBad, Bool.or_eq_false_iff] at h
    obtain ⟨h1, h2⟩ := h
    have hpr : ltW p r.From = true := by
      simp only [badO, Bool.or_eq_false_iff, decide_eq_false_iff_not, Int.not_le] at h1
      exact decide_eq_true h1.2
    obtain ⟨h3, h4⟩ := ordBad_lt h2
    refine ⟨fun x hx => ?_, .cons h3 h4⟩
    rcases List.mem_cons.1 hx with rfl | hx
    · exact hpr
    · exact ltW_trans hpr (h3 x hx)
theorem ordBad_pair : ∀ {t : List Sh}, ordBad none t = false → t.Pairwise (fun a b => ltW a.From b.From = true)
  | [], _ => .nil
  | r :: t, h => by
    rw [ordBad, Bool.or_eq_false_iff] at h
    obtain ⟨h3, h4⟩ := ordBad_lt h.2
    exact .cons h3 h4
theorem from_inj {t : List Sh} (h : badT t = 0) {a b : Sh} (ha : a ∈ t) (hb : b ∈ t) (he : a.From = b.From) : a = b := by
  have hp := ordBad_pair (badT_zero h).2.2
  obtain ⟨i, hi, rfl⟩ := List.getElem_of_mem ha
  obtain ⟨j, hj, rfl⟩ := List.getElem_of_mem hb
  rcases Nat.lt_trichotomy i j with hij | hij | hij
  · have := List.pairwise_iff_getElem.1 hp i j hi hj hij
    rw [he, ltW_irrefl] at this; cases this
  · subst hij; rfl
  · have := List.pairwise_iff_getElem.1 hp j i hj hi hij
    rw [← he, ltW_irrefl] at this; cases this
theorem begW_self (w : Wd) : begW w w = true := begW_pre.2 ⟨[], by simp⟩
/-- A whole From is taken. -/
theorem shiftW_row {u : List Sh} (hu : badT u = 0) {r : Sh} (hr : r ∈ u) : (shiftW u r.From).1 = r.To := by
  have h0 := (table_ok hu).1
  have hne := h0 r hr
  have hf := fitW_fits u r.From
  obtain ⟨i, hi, hri⟩ := List.getElem_of_mem hr
  cases hk : fitW u r.From with
  | none =>
    rw [hk] at hf
    have := hf i r (by omega) (by rw [List.getElem?_eq_getElem hi, hri])
    rw [begW_self] at this; cases this
  | some k =>
    rw [hk] at hf
    obtain ⟨hkl, r', h2, h3, h4⟩ := hf
    have hle := h4 i r hi (by rw [List.getElem?_eq_getElem hi, hri]) (begW_self _)
    obtain ⟨v, hv⟩ := begW_pre.1 h3
    have hlen := congrArg List.length hv
    rw [List.length_append] at hlen
    have hv0 : v = [] := List.eq_nil_of_length_eq_zero (by omega)
    rw [hv0, List.append_nil] at hv
    have hrr : r = r' := from_inj hu hr (List.mem_of_getElem? h2) hv
    subst hrr
    have e1 : stepTo u r.From = r.To := by simp [stepTo, hk, h2]
    have e2 : stepN u r.From = r.From.length := by simp [stepN, hk, h2]
    rw [shiftW_go h0 hne, e1, e2, List.drop_length, shiftW_nil]
    simp
def rev (t : List Sh) : List Sh := t.map fun r => ⟨r.To, r.From⟩
theorem rev_row {t out : List Sh} (ho : badT out = 0) (hp : out.Perm (rev t)) {r : Sh} (hr : r ∈ t) : (shiftW out r.To).1 = r.From :=
  shiftW_row (r := ⟨r.To, r.From⟩) ho (hp.mem_iff.2 (List.mem_map.2 ⟨r, hr, rfl⟩))
theorem rev_words {t out : List Sh} (ho : badT out = 0) (hp : out.Perm (rev t)) (hj : joinsW out (t.map (·.To)) = true) {rs : List Sh} (hr : ∀ r ∈ rs, r ∈ t) : (shiftW out (rs.map (·.To)).flatten).1 = (rs.map (·.From)).flatten := by
  obtain ⟨b1, b2, _⟩ := badT_zero ho
  have hm := joinsW_app (table_ok ho).1 (fun r hr => badW_len (firstE_zero b2 r hr).1) b1 hj (rs.map (·.To)) fun x hx => by
    obtain ⟨r, hxr, rfl⟩ := List.mem_map.1 hx
    exact List.mem_map.2 ⟨r, hr r hxr, rfl⟩
  rw [hm, List.map_map]
  congr 1
  exact List.map_congr_left fun r hx => rev_row ho hp (hr r hx)
end Go.Proofs.YtldlcejlfaogbaaGreatDoor.Vs
