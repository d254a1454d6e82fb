/- numbers of YtldlcejlfaogbaaDoor -/
/- A joined table shifts as one table behind the other: the plain law. -/
import Derived.Test.YtldlcejlfaogbaaDoorJoF6
namespace Go.Proofs.YtldlcejlfaogbaaDoor.Vs
set_option linter.unusedVariables false
set_option linter.unusedSimpArgs false
set_option maxRecDepth 20000

/-! ### fed, whatever stands behind -/
theorem begW_pre : ∀ {w x : Wd}, begW w x = true ↔ ∃ v, w = x ++ v
  | w, [] => by simp [begW]
  | [], x :: xs => by simp [begW]
  | a :: w, x :: xs => by
    simp only [begW, Bool.and_eq_true, begW_pre (w := w) (x := xs), List.cons_append, List.cons.injEq]
    exact ⟨fun ⟨h, v, hv⟩ => ⟨v, ba_eq h, hv⟩, fun ⟨v, h, hv⟩ => ⟨by rw [h]; exact ba_refl _, v, hv⟩⟩
/-- Where nothing waits, what stands behind does not tell which row begins. -/
theorem begW_app {u v x : Wd} (h : u.length < x.length → begW x u = false) : begW (u ++ v) x = begW u x := by
  rw [Bool.eq_iff_iff, begW_pre, begW_pre]
  constructor
  · rintro ⟨y, hy⟩
    by_cases hl : u.length < x.length
    · have hp : u = x.take u.length := by
        have := congrArg (List.take u.length) hy
        rw [List.take_left, List.take_append_of_le_length (by omega)] at this
        exact this
      have : begW x u = true := begW_pre.2 ⟨x.drop u.length, by
        have := (List.take_append_drop u.length x).symm
        rw [← hp] at this; exact this⟩
      rw [h hl] at this; cases this
    · refine ⟨u.drop x.length, ?_⟩
      have h1 := congrArg (List.take x.length) hy
      rw [List.take_left, List.take_append_of_le_length (by omega)] at h1
      have h2 := (List.take_append_drop x.length u).symm
      rw [h1] at h2
      exact h2
  · rintro ⟨y, hy⟩
    exact ⟨y ++ v, by rw [hy, List.append_assoc]⟩
theorem not_waits {t : List Sh} {u : Wd} (h : waitsW t u = false) {r : Sh} (hr : r ∈ t) : u.length < r.From.length → begW r.From u = false := fun hl => by
  have := List.any_eq_false.1 h r hr
  simp only [waitsR, Bool.and_eq_true, decide_eq_true_eq, not_and, Bool.not_eq_true] at this
  exact this hl
theorem fitFrom_app {t : List Sh} {u v : Wd} (h : waitsW t u = false) : ∀ (n : Nat) (b : Option Nat) (k : Nat), fitFrom t (u ++ v) n b k = fitFrom t u n b k
  | 0, b, k => rfl
  | n + 1, b, k => by
    have hb : bestI t b k (u ++ v) = bestI t b k u := by
      unfold bestI
      cases hk : t[k]? with
      | none => rfl
      | some r => simp only [begW_app (v := v) (not_waits h (List.mem_of_getElem? hk))]
    rw [fitFrom, fitFrom, hb, fitFrom_app h n]
theorem fitW_app {t : List Sh} {u v : Wd} (h : waitsW t u = false) : fitW t (u ++ v) = fitW t u := fitFrom_app h _ _ _
theorem stepTo_app {t : List Sh} {u v : Wd} (h : waitsW t u = false) (hu : u ≠ []) : stepTo t (u ++ v) = stepTo t u ∧ stepN t (u ++ v) = stepN t u := by
  unfold stepTo stepN
  rw [fitW_app h]
  cases hf : fitW t u with
  | none =>
    refine ⟨?_, rfl⟩
    cases u with
    | nil => exact absurd rfl hu
    | cons a u => rfl
  | some k => exact ⟨rfl, rfl⟩
theorem shiftF_more {t : List Sh} (ht : ∀ r ∈ t, r.From ≠ []) : ∀ (n m : Nat) (w : Wd), w.length ≤ n → w.length ≤ m → shiftF t n w = shiftF t m w
  | 0, m, w, h1, h2 => by
    have : w = [] := List.eq_nil_of_length_eq_zero (by omega)
    subst this
    cases m <;> simp [shiftF]
  | n + 1, 0, w, h1, h2 => by
    have : w = [] := List.eq_nil_of_length_eq_zero (by omega)
    subst this
    simp [shiftF]
  | n + 1, m + 1, w, h1, h2 => by
    by_cases hw : w.length = 0
    · simp [shiftF, hw]
    · have hw' : w ≠ [] := fun e => hw (by rw [e]; rfl)
      have hs := stepN_pos ht hw'
      simp only [shiftF, hw, if_false]
      rw [shiftF_more ht n m (w.drop (stepN t w)) (by rw [List.length_drop]; omega) (by rw [List.length_drop]; omega)]
theorem shiftW_nil (t : List Sh) : shiftW t [] = ([], true) := rfl
theorem shiftW_go {t : List Sh} (ht : ∀ r ∈ t, r.From ≠ []) {w : Wd} (hw : w ≠ []) : shiftW t w = (stepTo t w ++ (shiftW t (w.drop (stepN t w))).1, decide (0 ≤ optI (fitW t w)) && (shiftW t (w.drop (stepN t w))).2) := by
  have hs := stepN_pos ht hw
  have hw0 : ¬ w.length = 0 := fun e => hw (List.eq_nil_of_length_eq_zero e)
  have e : shiftW t w = shiftF t ((w.length - 1) + 1) w := by
    unfold shiftW
    congr 1
    omega
  rw [e]
  simp only [shiftF, hw0, if_false]
  rw [show shiftW t (w.drop (stepN t w)) = shiftF t (w.length - 1) (w.drop (stepN t w)) from shiftF_more ht _ _ _ (Nat.le_refl _) (by rw [List.length_drop]; omega)]
/-- What was written stays, whatever comes. -/
theorem fed_app {t : List Sh} (ht : ∀ r ∈ t, r.From ≠ []) : ∀ (n : Nat) (u v : Wd), u.length ≤ n → (shiftW t (u ++ v)).1 = (fedW t u).1 ++ (shiftW t ((fedW t u).2 ++ v)).1 := fun n => by
  induction n with
  | zero =>
    intro u v h
    have : u = [] := List.eq_nil_of_length_eq_zero (by omega)
    subst this
    rw [fedW_stop (.inl rfl)]
    rfl
  | succ n ih =>
    intro u v h
    by_cases hc : u.length = 0 ∨ waitsW t u = true
    · rw [fedW_stop hc]; rfl
    · have hu : u ≠ [] := fun e => hc (.inl (by rw [e]; rfl))
      have hw : waitsW t u = false := by
        cases h : waitsW t u with
        | false => rfl
        | true => exact absurd (.inr h) hc
      obtain ⟨e1, e2⟩ := stepTo_app (v := v) hw hu
      have hs := stepN_pos ht hu
      have huv : u ++ v ≠ [] := by simp [hu]
      rw [fedW_go ht hc, shiftW_go ht huv, e1, e2]
      simp only
      rw [List.drop_append_of_le_length hs.2, ih (u.drop (stepN t u)) v (by rw [List.length_drop]; omega), List.append_assoc]
/-! ### the search, if it finds nothing -/
theorem inJ_sub {t : List Sh} {left : Wd} : ∀ {l : List Wd} {todo todo' : List Wd}, inJ t left l todo = some todo' → (∀ w ∈ todo, w ∈ todo') ∧ todo.length ≤ todo'.length ∧ (∀ i, i < todo.length → todo'[i]? = todo[i]?) ∧ ∀ w ∈ l, stepJ t left w = true ∧ nextJ t left w ∈ todo'
  | [], todo, todo', h => by
    simp only [inJ, Option.some.injEq] at h
    subst h
    exact ⟨fun w hw => hw, Nat.le_refl _, fun i _ => rfl, fun w hw => by cases hw⟩
  | w :: l, todo, todo', h => by
    rw [inJ] at h
    by_cases hs : stepJ t left w = true
    · rw [if_pos hs] at h
      obtain ⟨h1, h2, h3, h4⟩ := inJ_sub h
      have ha : (∀ x ∈ todo, x ∈ addJ todo (nextJ t left w)) ∧ todo.length ≤ (addJ todo (nextJ t left w)).length ∧ (∀ i, i < todo.length → (addJ todo (nextJ t left w))[i]? = todo[i]?) ∧ nextJ t left w ∈ addJ todo (nextJ t left w) := by
        unfold addJ
        split
        · rename_i hm
          exact ⟨fun x hx => hx, Nat.le_refl _, fun i _ => rfl, anyEq.1 hm⟩
        · exact ⟨fun x hx => List.mem_append_left _ hx, by simp, fun i hi => List.getElem?_append_left hi, by simp⟩
      refine ⟨fun x hx => h1 x (ha.1 x hx), Nat.le_trans ha.2.1 h2, fun i hi => by rw [h3 i (by have := ha.2.1; omega), ha.2.2.1 i hi], fun x hx => ?_⟩
      rcases List.mem_cons.1 hx with rfl | hx
      · exact ⟨hs, h1 _ ha.2.2.2⟩
      · exact h4 x hx
    · rw [if_neg hs] at h; cases h
theorem inJ_todo {t : List Sh} (ht : ∀ r ∈ t, r.From ≠ []) {left : Wd} : ∀ {l : List Wd} {todo todo' : List Wd}, TodoJ t todo → inJ t left l todo = some todo' → TodoJ t todo'
  | [], todo, todo', hT, h => by simp only [inJ, Option.some.injEq] at h; subst h; exact hT
  | w :: l, todo, todo', hT, h => by
    rw [inJ] at h
    split at h
    · exact inJ_todo ht (hT.add (nextJ_ok ht left w)) h
    · cases h
/-- All that there is to do was done. -/
theorem outJ_closed {t : List Sh} (ht : ∀ r ∈ t, r.From ≠ []) (h60 : ∀ r ∈ t, r.From.length ≤ 60) (h24 : t.length ≤ 24) {l : List Wd} : ∀ (f i : Nat) (todo : List Wd), TodoJ t todo → i ≤ todo.length → 1442 ≤ f + i → outJ t l f i todo = true →
    (∀ j, j < i → ∀ left, todo[j]? = some left → ∀ w ∈ l, stepJ t left w = true ∧ nextJ t left w ∈ todo) →
    ∃ T : List Wd, (∀ w ∈ todo, w ∈ T) ∧ ∀ left ∈ T, ∀ w ∈ l, stepJ t left w = true ∧ nextJ t left w ∈ T
  | 0, i, todo, hT, hi, hf, _, hd => by
    have := hT.len h60 h24
    omega
  | f + 1, i, todo, hT, hi, hf, h, hd => by
    rw [outJ] at h
    cases hx : todo[i]? with
    | none =>
      have hge : todo.length ≤ i := by rwa [List.getElem?_eq_none_iff] at hx
      refine ⟨todo, fun w hw => hw, fun left hl w hw => ?_⟩
      obtain ⟨j, hj, rfl⟩ := List.getElem_of_mem hl
      exact hd j (by omega) _ (List.getElem?_eq_getElem hj) w hw
    | some left =>
      rw [hx] at h
      simp only at h
      cases hin : inJ t left l todo with
      | none => rw [hin] at h; cases h
      | some todo' =>
        rw [hin] at h
        simp only at h
        obtain ⟨h1, h2, h3, h4⟩ := inJ_sub hin
        have hlt : i < todo.length := by
          rcases Nat.lt_or_ge i todo.length with hl | hl
          · exact hl
          · rw [List.getElem?_eq_none hl] at hx; cases hx
        have hT' : TodoJ t todo' := inJ_todo ht hT hin
        have hd' : ∀ j, j < i + 1 → ∀ left, todo'[j]? = some left → ∀ w ∈ l, stepJ t left w = true ∧ nextJ t left w ∈ todo' := fun j hj left' hl' w hw => by
          rw [h3 j (by omega)] at hl'
          by_cases hji : j = i
          · rw [hji, hx] at hl'
            cases hl'
            exact h4 w hw
          · obtain ⟨g1, g2⟩ := hd j (by omega) left' hl' w hw
            exact ⟨g1, h1 _ g2⟩
        obtain ⟨T, hT1, hT2⟩ := outJ_closed ht h60 h24 f (i + 1) todo' hT' (by omega) (by omega) h hd'
        exact ⟨T, fun w hw => hT1 w (h1 w hw), hT2⟩
theorem joinsW_app {t : List Sh} (ht : ∀ r ∈ t, r.From ≠ []) (h60 : ∀ r ∈ t, r.From.length ≤ 60) (h24 : t.length ≤ 24) {l : List Wd} (h : joinsW t l = true) (ws : List Wd) (hw : ∀ w ∈ ws, w ∈ l) :
    (shiftW t ws.flatten).1 = (ws.map fun w => (shiftW t w).1).flatten := by
  obtain ⟨T, hT1, hT2⟩ := outJ_closed ht h60 h24 2000 0 [[]] (TodoJ.init t) (Nat.zero_le _) (by omega) h (fun j hj => by omega)
  have key : ∀ (ws : List Wd), (∀ w ∈ ws, w ∈ l) → ∀ left ∈ T, (shiftW t (left ++ ws.flatten)).1 = (shiftW t left).1 ++ (ws.map fun w => (shiftW t w).1).flatten := fun ws => by
    induction ws with
    | nil => intro _ left _; simp
    | cons w ws ih =>
      intro hw left hl
      obtain ⟨h1, h2⟩ := hT2 left hl w (hw w (by simp))
      have h3 := ih (fun x hx => hw x (List.mem_cons_of_mem _ hx)) _ h2
      have h4 := eqW_iff.1 h1
      rw [List.flatten_cons, ← List.append_assoc, fed_app ht _ (left ++ w) ws.flatten (Nat.le_refl _)]
      rw [show (fedW t (left ++ w)).2 = nextJ t left w from rfl, h3, ← List.append_assoc, List.map_cons, List.flatten_cons, ← List.append_assoc, h4]
      rfl
  have := key ws hw [] (hT1 [] (by simp))
  rw [shiftW_nil] at this
  simpa using this

/-! ### the joined table -/
def symW (s : ByteArray) : Prop := s.size ≤ 16 ∧ bytesOK s = true ∧ (s == ⟨#[]⟩) = false
theorem badW_sym {w : Wd} (h : badW w = 0) : ∀ s ∈ w, symW s := fun s hs => by
  unfold badW at h
  split at h
  · cases h
  · rename_i h1
    split at h
    · cases h
    · rename_i h2
      have a2 : ∀ s ∈ w, bytesOK s = true ∧ (s == ⟨#[]⟩) = false := by simpa using h2
      simp only [Bool.or_eq_true, decide_eq_true_eq, not_or, Bool.not_eq_true] at h1
      have a1 := List.any_eq_false.1 h1.2 s hs
      simp only [decide_eq_true_eq] at a1
      exact ⟨by omega, a2 s hs⟩
theorem sym_badW {w : Wd} (hl : w.length ≤ 60) (h : ∀ s ∈ w, symW s) : badW w = 0 := by
  have h1 : (decide (60 < w.length) || w.any (fun s => decide (16 < s.size))) = false := by
    rw [Bool.or_eq_false_iff]
    refine ⟨decide_eq_false (by omega), List.any_eq_false.2 fun s hs => ?_⟩
    have := (h s hs).1
    simp only [decide_eq_true_eq]; omega
  have h2 : w.any (fun s => !(bytesOK s && !(s == ⟨#[]⟩))) = false := List.any_eq_false.2 fun s hs => by
    obtain ⟨_, b1, b2⟩ := h s hs
    rw [b1, b2]; decide
  rw [badW, h1, h2]
  rfl
theorem stepTo_mem {t : List Sh} {w : Wd} : ∀ s ∈ stepTo t w, s ∈ w ∨ ∃ r ∈ t, s ∈ r.To := fun s hs => by
  unfold stepTo at hs
  cases hf : fitW t w with
  | none => rw [hf] at hs; exact .inl (List.mem_of_mem_take hs)
  | some j =>
    rw [hf] at hs
    have hj := fitW_lt hf
    simp only [List.getElem?_eq_getElem hj, Option.map_some, Option.getD_some] at hs
    exact .inr ⟨_, List.getElem_mem hj, hs⟩
theorem shiftW_mem {t : List Sh} (ht : ∀ r ∈ t, r.From ≠ []) : ∀ (n : Nat) (w : Wd), w.length ≤ n → ∀ s ∈ (shiftW t w).1, s ∈ w ∨ ∃ r ∈ t, s ∈ r.To := fun n => by
  induction n with
  | zero =>
    intro w h s hs
    have : w = [] := List.eq_nil_of_length_eq_zero (by omega)
    subst this
    rw [shiftW_nil] at hs; cases hs
  | succ n ih =>
    intro w h s hs
    by_cases hw : w = []
    · subst hw; rw [shiftW_nil] at hs; cases hs
    · have hst := stepN_pos ht hw
      rw [shiftW_go ht hw] at hs
      rcases List.mem_append.1 hs with hs | hs
      · exact stepTo_mem s hs
      · rcases ih (w.drop (stepN t w)) (by rw [List.length_drop]; omega) s hs with h1 | h1
        · exact .inl (List.mem_of_mem_drop h1)
        · exact .inr h1
theorem joinT_get {a b : List Sh} (k : Nat) : (joinT a b)[k]? = (a[k]?).map fun r => ⟨r.From, (shiftW b r.To).1⟩ := by simp [joinT]
theorem fitFrom_join {a b : List Sh} (w : Wd) : ∀ (n : Nat) (o : Option Nat) (k : Nat), fitFrom (joinT a b) w n o k = fitFrom a w n o k
  | 0, o, k => rfl
  | n + 1, o, k => by
    have hlo : ∀ m, longer (joinT a b) o m = longer a o m := fun m => by
      unfold longer
      cases o with
      | none => rfl
      | some j =>
        simp only [joinT_get]
        cases a[j]? <;> rfl
    have hb : bestI (joinT a b) o k w = bestI a o k w := by
      unfold bestI
      simp only [joinT_get]
      cases a[k]? with
      | none => rfl
      | some r => simp only [Option.map_some, hlo]
    rw [fitFrom, fitFrom, hb, fitFrom_join w n]
theorem fitW_join {a b : List Sh} (w : Wd) : fitW (joinT a b) w = fitW a w := by
  unfold fitW
  rw [show (joinT a b).length = a.length by simp [joinT]]
  exact fitFrom_join w _ _ _
theorem ordBad_join {a b : List Sh} : ∀ (p : Option Wd), ordBad p (joinT a b) = ordBad p a := by
  induction a with
  | nil => intro p; rfl
  | cons r a ih =>
    intro p
    show (badO p ⟨r.From, (shiftW b r.To).1⟩ || ordBad (some r.From) (joinT a b)) = _
    rw [ih]
    rfl
theorem firstE_of {t : List Sh} (h : ∀ r ∈ t, badW r.From = 0 ∧ badW r.To = 0) : firstE t = 0 := by
  induction t with
  | nil => rfl
  | cons r t ih =>
    obtain ⟨h1, h2⟩ := h r (by simp)
    have hr : rowE r = 0 := by simp [rowE, h1, h2]
    rw [firstE, hr, ih fun x hx => h x (List.mem_cons_of_mem _ hx)]
    rfl
theorem joinT_ok {a b : List Sh} (ha : badT a = 0) (hb : badT b = 0) (h60 : (joinT a b).any (fun r => decide (60 < r.To.length)) = false) : badT (joinT a b) = 0 := by
  obtain ⟨a1, a2, a3⟩ := badT_zero ha
  obtain ⟨b1, b2, _⟩ := badT_zero hb
  have ar := firstE_zero a2
  have br := firstE_zero b2
  have hl : (joinT a b).length = a.length := by simp [joinT]
  have hf : firstE (joinT a b) = 0 := firstE_of fun r hr => by
    have hlen := List.any_eq_false.1 h60 r hr
    simp only [decide_eq_true_eq] at hlen
    obtain ⟨q, hq, rfl⟩ := List.mem_map.1 hr
    refine ⟨(ar q hq).1, sym_badW (by omega) fun s hs => ?_⟩
    rcases shiftW_mem (table_ok hb).1 _ q.To (Nat.le_refl _) s hs with h | ⟨p, hp, h⟩
    · exact badW_sym (ar q hq).2 s h
    · exact badW_sym (br p hp).2 s h
  rw [badT, if_neg (by omega), hf, ordBad_join, a3]
  rfl
/-- The rows of a clean word. -/
theorem clean_rows {a b : List Sh} (ha : ∀ r ∈ a, r.From ≠ []) : ∀ (n : Nat) (w : Wd), w.length ≤ n → (shiftW a w).2 = true →
    ∃ rs : List Sh, (∀ r ∈ rs, r ∈ a) ∧ (shiftW a w).1 = (rs.map (·.To)).flatten ∧ (shiftW (joinT a b) w).1 = (rs.map fun r => (shiftW b r.To).1).flatten := fun n => by
  have hj : ∀ r ∈ joinT a b, r.From ≠ [] := fun r hr => by
    obtain ⟨q, hq, rfl⟩ := List.mem_map.1 hr
    exact ha q hq
  induction n with
  | zero =>
    intro w h _
    have : w = [] := List.eq_nil_of_length_eq_zero (by omega)
    subst this
    exact ⟨[], fun r hr => (by cases hr), rfl, rfl⟩
  | succ n ih =>
    intro w h hc
    by_cases hw : w = []
    · subst hw
      exact ⟨[], fun r hr => (by cases hr), rfl, rfl⟩
    · have hst := stepN_pos ha hw
      rw [shiftW_go ha hw] at hc ⊢
      simp only [Bool.and_eq_true, decide_eq_true_eq] at hc
      cases hf : fitW a w with
      | none => rw [hf] at hc; exact absurd hc.1 (by decide)
      | some j =>
        have hjl := fitW_lt hf
        have e1 : stepTo a w = a[j].To := by simp [stepTo, hf, hjl]
        have hfj : fitW (joinT a b) w = some j := by rw [fitW_join, hf]
        have hgj : (joinT a b)[j]? = some ⟨a[j].From, (shiftW b a[j].To).1⟩ := by rw [joinT_get, List.getElem?_eq_getElem hjl]; rfl
        have e2 : stepTo (joinT a b) w = (shiftW b a[j].To).1 := by simp [stepTo, hfj, hgj]
        have e3 : stepN (joinT a b) w = stepN a w := by simp [stepN, hfj, hf, hgj, hjl]
        obtain ⟨rs, h1, h2, h3⟩ := ih (w.drop (stepN a w)) (by rw [List.length_drop]; omega) hc.2
        refine ⟨a[j] :: rs, fun r hr => ?_, ?_, ?_⟩
        · rcases List.mem_cons.1 hr with rfl | hr
          · exact List.getElem_mem hjl
          · exact h1 r hr
        · simp only [e1, h2, List.map_cons, List.flatten_cons]
        · rw [shiftW_go hj hw, e2, e3]
          simp only [h3, List.map_cons, List.flatten_cons]
/-- ScriptRoads in plain words. -/
theorem roads {a b : List Sh} {w : Wd} (hJ : (joinV a b).2.2 = 0) (hi : (joinV a b).2.1 = true) (hc : (cleanR a w) = (true, 0)) (hs : (shiftR a w).2 = 0) : shiftR b (shiftR a w).1 = shiftR (joinV a b).1 w := by
  have hE : joinE a b = 0 := by
    unfold joinV at hJ
    split at hJ
    · exact hJ
    · rename_i h; simpa using h
  have hV : joinV a b = if joinsW b (a.map (·.To)) = true then (joinT a b, true, 0) else ([], false, 0) := by rw [joinV, if_neg (by simpa using hE)]
  have hj : joinsW b (a.map (·.To)) = true := by
    rw [hV] at hi
    split at hi
    · assumption
    · cases hi
  rw [hV, if_pos hj]
  unfold joinE at hE
  split at hE
  · rename_i h; exact absurd hE h
  rename_i ha; have ha : badT a = 0 := by simpa using ha
  split at hE
  · rename_i h; exact absurd hE h
  rename_i hb; have hb : badT b = 0 := by simpa using hb
  split at hE
  · rename_i h; exact absurd hE h
  split at hE
  · cases hE
  rename_i h60
  have h60 : (joinT a b).any (fun r => decide (60 < r.To.length)) = false := by simpa using h60
  have hT := joinT_ok ha hb h60
  obtain ⟨b1, b2, _⟩ := badT_zero hb
  obtain ⟨a1, a2, _⟩ := badT_zero ha
  have ha0 := (table_ok ha).1
  have hb0 := (table_ok hb).1
  have he : errTW a w = 0 := by
    unfold cleanR at hc
    cases h : (errTW a w != 0) with
    | false => simpa using h
    | true => rw [h] at hc; simp at hc
  have hw := (errTW_zero he).2
  have hcl : (shiftW a w).2 = true := by
    unfold cleanR at hc
    rw [he] at hc
    simpa using hc
  have hx : ¬ 60 < (shiftW a w).1.length ∧ (shiftR a w).1 = (shiftW a w).1 := by
    unfold shiftR at hs ⊢
    rw [he] at hs ⊢
    simp only [bne_self_eq_false, Bool.false_eq_true, if_false] at hs ⊢
    split at hs
    · cases hs
    · rename_i h; rw [if_neg h]; exact ⟨h, rfl⟩
  rw [hx.2]
  obtain ⟨rs, r1, r2, r3⟩ := clean_rows (b := b) ha0 _ w (Nat.le_refl _) hcl
  have hm := joinsW_app hb0 (fun r hr => badW_len (firstE_zero b2 r hr).1) b1 hj (rs.map (·.To)) fun x hx => by
    obtain ⟨r, hr, rfl⟩ := List.mem_map.1 hx
    exact List.mem_map.2 ⟨r, r1 r hr, rfl⟩
  rw [← r2, List.map_map] at hm
  have hbx : badW (shiftW a w).1 = 0 := sym_badW (by omega) fun s hs => by
    rcases shiftW_mem ha0 _ w (Nat.le_refl _) s hs with h | ⟨p, hp, h⟩
    · exact badW_sym hw s h
    · exact badW_sym (firstE_zero a2 p hp).2 s h
  have e1 : errTW b (shiftW a w).1 = 0 := by simp [errTW, hb, hbx]
  have e2 : errTW (joinT a b) w = 0 := by simp [errTW, hT, hw]
  have e3 : (shiftW b (shiftW a w).1).1 = (shiftW (joinT a b) w).1 := by rw [hm, r3]; rfl
  unfold shiftR
  rw [e1, e2, e3]
end Go.Proofs.YtldlcejlfaogbaaDoor.Vs
