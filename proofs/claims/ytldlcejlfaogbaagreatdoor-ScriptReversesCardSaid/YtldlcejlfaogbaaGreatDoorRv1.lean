import Derived.Test.YtldlcejlfaogbaaGreatDoorLawR1
import Derived.Test.YtldlcejlfaogbaaGreatDoorLawReadsA
import Derived.Test.YtldlcejlfaogbaaGreatDoorRet1
import Derived.Test.YtldlcejlfaogbaaGreatDoorJo2
import Derived.Test.YtldlcejlfaogbaaGreatDoorRd1
import Derived.Test.YtldlcejlfaogbaaGreatDoorFnN
import Derived.Test.YtldlcejlfaogbaaGreatDoorLoopJ
import Derived.Test.YtldlcejlfaogbaaGreatDoorFnD1
import Derived.Test.YtldlcejlfaogbaaGreatDoorFnR1
import Derived.Test.YtldlcejlfaogbaaGreatDoorDmKnown
/- numbers of YtldlcejlfaogbaaDoor -/
namespace Go.Proofs.YtldlcejlfaogbaaGreatDoor.Vs
set_option linter.unusedVariables false
set_option linter.unusedSimpArgs false
set_option maxRecDepth 20000
/-- Words of a list joined can begin with a word. -/
def begunF (l : List Wd) : Nat → Wd → Bool
  | 0, w => l.any (fun x => begW x w) || (w.length == 0)
  | d + 1, w => l.any (fun x => begW x w || (decide (0 < x.length) && (begW w x && begunF l d (w.drop x.length)))) || (w.length == 0)
theorem begunF_nil (l : List Wd) : ∀ d, begunF l d [] = true
  | 0 => by unfold begunF; simp
  | d + 1 => by unfold begunF; simp
theorem begunF_pre {l : List Wd} {x : Wd} (hx : x ∈ l) {r : Wd} (h : begW x r = true) : ∀ d, begunF l d r = true
  | 0 => by unfold begunF; rw [List.any_eq_true.2 ⟨x, hx, h⟩]; rfl
  | d + 1 => by unfold begunF; rw [List.any_eq_true.2 ⟨x, hx, by rw [h]; rfl⟩]; rfl
theorem begun_of {l : List Wd} (hne : ∀ a ∈ l, a ≠ []) : ∀ (ws : List Wd), (∀ w ∈ ws, w ∈ l) → ∀ (d : Nat) (r v : Wd), ws.flatten = r ++ v → r.length ≤ d → begunF l d r = true
  | [], _, d, r, v, h, _ => by
    have : r = [] := (List.append_eq_nil_iff.1 h.symm).1
    rw [this]; exact begunF_nil l d
  | w :: ws, hw, d, r, v, h, hd => by
    have hwl := hw w List.mem_cons_self
    rw [List.flatten_cons] at h
    by_cases c : r.length ≤ w.length
    · have e : w.take r.length = r := by
        have := congrArg (List.take r.length) h
        rwa [List.take_append_of_le_length c, List.take_left] at this
      refine begunF_pre hwl (begW_pre.2 ⟨w.drop r.length, ?_⟩) d
      conv => lhs; rw [← List.take_append_drop r.length w, e]
    · have e : r.take w.length = w := by
        have := congrArg (List.take w.length) h
        rw [List.take_left, List.take_append_of_le_length (by omega)] at this
        exact this.symm
      have e2 : r = w ++ r.drop w.length := by
        conv => lhs; rw [← List.take_append_drop w.length r, e]
      have h2 : ws.flatten = r.drop w.length ++ v := by
        rw [e2, List.append_assoc] at h
        exact List.append_cancel_left h
      have hpos : 0 < w.length := List.length_pos_iff.2 (hne w hwl)
      obtain ⟨d', rfl⟩ : ∃ d', d = d' + 1 := ⟨d - 1, by omega⟩
      have ih := begun_of hne ws (fun x hx => hw x (List.mem_cons_of_mem _ hx)) d' (r.drop w.length) v h2 (by rw [List.length_drop]; omega)
      unfold begunF
      rw [List.any_eq_true.2 ⟨w, hwl, by rw [ih, decide_eq_true hpos, begW_pre.2 ⟨_, e2⟩]; simp⟩]
      rfl
theorem begun_ex {l : List Wd} : ∀ (d : Nat) (r : Wd), begunF l d r = true → ∃ ws : List Wd, (∀ w ∈ ws, w ∈ l) ∧ ∃ v, ws.flatten = r ++ v
  | d, r, h => by
    have base : ∀ x ∈ l, begW x r = true → ∃ ws : List Wd, (∀ w ∈ ws, w ∈ l) ∧ ∃ v, ws.flatten = r ++ v := fun x hx hb => by
      obtain ⟨v, hv⟩ := begW_pre.1 hb
      exact ⟨[x], fun w hw => by rw [List.mem_singleton.1 hw]; exact hx, v, by simpa using hv⟩
    have nil : r.length = 0 → ∃ ws : List Wd, (∀ w ∈ ws, w ∈ l) ∧ ∃ v, ws.flatten = r ++ v := fun h0 => ⟨[], fun w hw => (by cases hw), [], by rw [List.eq_nil_of_length_eq_zero h0]; rfl⟩
    cases d with
    | zero =>
      unfold begunF at h
      rw [Bool.or_eq_true] at h
      rcases h with h | h
      · obtain ⟨x, hx, hb⟩ := List.any_eq_true.1 h
        exact base x hx hb
      · exact nil (by simpa using h)
    | succ d =>
      unfold begunF at h
      rw [Bool.or_eq_true] at h
      rcases h with h | h
      · obtain ⟨x, hx, hb⟩ := List.any_eq_true.1 h
        rw [Bool.or_eq_true] at hb
        rcases hb with hb | hb
        · exact base x hx hb
        · rw [Bool.and_eq_true, Bool.and_eq_true] at hb
          obtain ⟨_, h2, h3⟩ := hb
          obtain ⟨ws, h4, v, h5⟩ := begun_ex d _ h3
          obtain ⟨u, hu⟩ := begW_pre.1 h2
          refine ⟨x :: ws, fun w hw => ?_, v, ?_⟩
          · rcases List.mem_cons.1 hw with rfl | hw
            · exact hx
            · exact h4 w hw
          · rw [List.flatten_cons, h5, ← List.append_assoc]
            congr 1
            rw [hu]; simp
      · exact nil (by simpa using h)
structure OkL (l : List Wd) : Prop where
  ne : ∀ a ∈ l, a ≠ []
  nd : l.Nodup
  no : ∀ a ∈ l, ∀ b ∈ l, a.length < b.length → begW b a = true → begunF l b.length (b.drop a.length) = false
/-- At words of the list joined, the first one is taken. -/
theorem fit_word {o : List Sh} {l : List Wd} (ho : badT o = 0) (hl : ∀ w, w ∈ l ↔ ∃ r ∈ o, r.From = w) (ok : OkL l) {w : Wd} {ws : List Wd} (hw : w ∈ l) (hws : ∀ x ∈ ws, x ∈ l) :
    ∃ r ∈ o, r.From = w ∧ stepTo o (w ++ ws.flatten) = r.To ∧ stepN o (w ++ ws.flatten) = w.length := by
  obtain ⟨r, hr, hrw⟩ := (hl w).1 hw
  have hf := fitW_fits o (w ++ ws.flatten)
  obtain ⟨i, hi, hri⟩ := List.getElem_of_mem hr
  have hbw : begW (w ++ ws.flatten) r.From = true := begW_pre.2 ⟨_, by rw [hrw]⟩
  cases hk : fitW o (w ++ ws.flatten) with
  | none =>
    rw [hk] at hf
    have := hf i r (by omega) (by rw [List.getElem?_eq_getElem hi, hri])
    rw [hbw] at this; cases this
  | some k =>
    rw [hk] at hf
    obtain ⟨hkl, r', h2, h3, h4⟩ := hf
    have hle := h4 i r hi (by rw [List.getElem?_eq_getElem hi, hri]) hbw
    have hr' := List.mem_of_getElem? h2
    obtain ⟨v, hv⟩ := begW_pre.1 h3
    rw [hrw] at hle
    have hb : r'.From ∈ l := (hl _).2 ⟨r', hr', rfl⟩
    have e : r'.From.take w.length = w := by
      have := congrArg (List.take w.length) hv
      rw [List.take_left, List.take_append_of_le_length hle] at this
      exact this.symm
    have e2 : r'.From = w ++ r'.From.drop w.length := by
      conv => lhs; rw [← List.take_append_drop w.length r'.From, e]
    by_cases c : w.length < r'.From.length
    · have h5 := ok.no w hw _ hb c (begW_pre.2 ⟨_, e2⟩)
      have h6 : ws.flatten = r'.From.drop w.length ++ v := by
        rw [e2, List.append_assoc] at hv
        exact List.append_cancel_left hv
      rw [begun_of ok.ne ws hws _ _ v h6 (by rw [List.length_drop]; omega)] at h5
      cases h5
    · have e3 : r'.From = r.From := by
        rw [hrw, e2, List.drop_of_length_le (by omega), List.append_nil]
      have hrr : r = r' := from_inj ho hr hr' e3.symm
      subst hrr
      exact ⟨r, hr, hrw, by simp [stepTo, hk, h2], by simp [stepN, hk, h2, hrw]⟩
section
variable {o : List Sh} {l : List Wd} (ho : badT o = 0) (hl : ∀ w, w ∈ l ↔ ∃ r ∈ o, r.From = w) (ok : OkL l)
include ho hl ok
theorem shift_flat : ∀ ws : List Wd, (∀ x ∈ ws, x ∈ l) → (shiftW o ws.flatten).1 = (ws.map fun w => (shiftW o w).1).flatten
  | [], _ => by rw [List.flatten_nil, shiftW_nil]; rfl
  | w :: ws, h => by
    have hw := h w List.mem_cons_self
    have hws := fun x hx => h x (List.mem_cons_of_mem _ hx)
    obtain ⟨r, hr, h1, h2, h3⟩ := fit_word ho hl ok hw hws
    have hne : w ++ ws.flatten ≠ [] := fun e => ok.ne w hw (List.append_eq_nil_iff.1 e).1
    rw [List.flatten_cons, shiftW_go (table_ok ho).1 hne, h2, h3, List.drop_left, List.map_cons, List.flatten_cons, ← shift_flat ws hws, ← h1, shiftW_row ho hr]
theorem next_flat : ∀ ws : List Wd, (∀ x ∈ ws, x ∈ l) → ∃ us : List Wd, (∀ x ∈ us, x ∈ l) ∧ (fedW o ws.flatten).2 = us.flatten
  | [], _ => ⟨[], fun x hx => (by cases hx), by rw [List.flatten_nil, fedW_stop (.inl rfl)]⟩
  | w :: ws, h => by
    by_cases c : (w :: ws).flatten.length = 0 ∨ waitsW o (w :: ws).flatten = true
    · exact ⟨w :: ws, h, by rw [fedW_stop c]⟩
    · have hw := h w List.mem_cons_self
      have hws := fun x hx => h x (List.mem_cons_of_mem _ hx)
      obtain ⟨r, hr, h1, h2, h3⟩ := fit_word ho hl ok hw hws
      obtain ⟨us, h4, h5⟩ := next_flat ws hws
      refine ⟨us, h4, ?_⟩
      rw [fedW_go (table_ok ho).1 c, ← h5]
      simp only [List.flatten_cons, h3, List.drop_left]
theorem step_flat {us : List Wd} (hu : ∀ x ∈ us, x ∈ l) {w : Wd} (hw : w ∈ l) : stepJ o us.flatten w = true := by
  have hall : ∀ x ∈ us ++ [w], x ∈ l := fun x hx => (List.mem_append.1 hx).elim (hu x) fun h => by rw [List.mem_singleton.1 h]; exact hw
  have h1 := shift_flat ho hl ok (us ++ [w]) hall
  have h2 := shift_flat ho hl ok us hu
  have h3 := fed_app (table_ok ho).1 _ (us.flatten ++ w) [] (Nat.le_refl _)
  rw [List.append_nil, List.append_nil] at h3
  unfold stepJ
  rw [eqW_iff, ← h3, h2]
  have e : (us ++ [w]).flatten = us.flatten ++ w := by simp
  rw [e] at h1
  rw [h1]
  simp
theorem in_flat {us : List Wd} (hu : ∀ x ∈ us, x ∈ l) : ∀ (l' todo : List Wd), (∀ w ∈ l', w ∈ l) → (∀ x ∈ todo, ∃ vs : List Wd, (∀ y ∈ vs, y ∈ l) ∧ x = vs.flatten) →
    ∃ todo', inJ o us.flatten l' todo = some todo' ∧ ∀ x ∈ todo', ∃ vs : List Wd, (∀ y ∈ vs, y ∈ l) ∧ x = vs.flatten
  | [], todo, _, ht => ⟨todo, rfl, ht⟩
  | w :: l', todo, hl', ht => by
    have hw := hl' w List.mem_cons_self
    rw [inJ, if_pos (step_flat ho hl ok hu hw)]
    refine in_flat hu l' _ (fun x hx => hl' x (List.mem_cons_of_mem _ hx)) fun x hx => ?_
    unfold addJ at hx
    split at hx
    · exact ht x hx
    · rcases List.mem_append.1 hx with hx | hx
      · exact ht x hx
      · rw [List.mem_singleton.1 hx]
        obtain ⟨vs, h1, h2⟩ := next_flat ho hl ok (us ++ [w]) fun x hx => (List.mem_append.1 hx).elim (hu x) fun h => by rw [List.mem_singleton.1 h]; exact hw
        refine ⟨vs, h1, ?_⟩
        rw [← h2]
        unfold nextJ
        simp
theorem out_flat : ∀ (f i : Nat) (todo : List Wd), (∀ x ∈ todo, ∃ vs : List Wd, (∀ y ∈ vs, y ∈ l) ∧ x = vs.flatten) → outJ o l f i todo = true
  | 0, _, _, _ => rfl
  | f + 1, i, todo, ht => by
    rw [outJ]
    cases h : todo[i]? with
    | none => rfl
    | some left =>
      obtain ⟨vs, h1, h2⟩ := ht left (List.mem_of_getElem? h)
      subst h2
      obtain ⟨todo', h3, h4⟩ := in_flat ho hl ok h1 l todo (fun w hw => hw) ht
      simp only [h3]
      exact out_flat f (i + 1) todo' h4
theorem joins_flat : joinsW o l = true := out_flat ho hl ok 2000 0 [[]] fun x hx => ⟨[], fun y hy => (by cases hy), by rw [List.mem_singleton.1 hx]; rfl⟩
end
theorem ord_ok : ∀ (o : List Sh) (p : Option Wd), (∀ r ∈ o, r.From ≠ []) → (∀ q, p = some q → ∀ r ∈ o, ltW q r.From = true) → o.Pairwise (fun a b => ltW a.From b.From = true) → ordBad p o = false
  | [], _, _, _, _ => rfl
  | r :: o, p, h1, h2, h3 => by
    rw [List.pairwise_cons] at h3
    rw [ordBad, Bool.or_eq_false_iff]
    refine ⟨?_, ord_ok o (some r.From) (fun x hx => h1 x (List.mem_cons_of_mem _ hx)) (fun q hq x hx => by cases hq; exact h3.1 x hx) h3.2⟩
    unfold badO
    rw [Bool.or_eq_false_iff]
    refine ⟨?_, ?_⟩
    · have := h1 r List.mem_cons_self
      rw [beq_eq_false_iff_ne]
      exact fun h => this (List.eq_nil_of_length_eq_zero h)
    · cases p with
      | none => rfl
      | some q =>
        have := h2 q rfl r List.mem_cons_self
        unfold ltW at this
        rw [decide_eq_true_eq] at this
        simp only []
        rw [decide_eq_false_iff_not]
        omega
theorem rev_froms (t : List Sh) : (rev t).map (·.From) = t.map (·.To) := by unfold rev; rw [List.map_map]; rfl
theorem rev_mem {t o : List Sh} (hp : o.Perm (rev t)) (w : Wd) : w ∈ t.map (·.To) ↔ ∃ r ∈ o, r.From = w := by
  rw [← rev_froms]
  constructor
  · intro h
    obtain ⟨r, hr, e⟩ := List.mem_map.1 h
    exact ⟨r, hp.mem_iff.2 hr, e⟩
  · rintro ⟨r, hr, e⟩
    exact List.mem_map.2 ⟨r, hp.mem_iff.1 hr, e⟩
theorem rev_good {t o : List Sh} (ht : badT t = 0) (hp : o.Perm (rev t)) (hs : sortedP o) (ok : OkL (t.map (·.To))) : badT o = 0 := by
  obtain ⟨a1, a2, a3⟩ := badT_zero ht
  have hlen : o.length = t.length := by rw [hp.length_eq]; simp [rev]
  have hfe : firstE o = 0 := firstE_of fun r hr => by
    obtain ⟨x, hx, rfl⟩ := List.mem_map.1 (hp.mem_iff.1 hr)
    have := firstE_zero a2 x hx
    exact ⟨this.2, this.1⟩
  have hnd : (o.map (·.From)).Nodup := by
    have h1 : (o.map (·.From)).Perm ((rev t).map (·.From)) := hp.map _
    rw [rev_froms] at h1
    exact h1.nodup_iff.2 ok.nd
  have hne : ∀ r ∈ o, r.From ≠ [] := fun r hr => ok.ne _ ((rev_mem hp _).2 ⟨r, hr, rfl⟩)
  have hpw : o.Pairwise (fun a b => ltW a.From b.From = true) := by
    have h1 : o.Pairwise (fun a b => a.From ≠ b.From) := List.pairwise_map.1 hnd
    exact (List.pairwise_and_iff.2 ⟨hs, h1⟩).imp fun {a b} h => by
      rcases ltW_tri a.From b.From with h2 | h2 | h2
      · exact h2
      · exact absurd h2 h.2
      · rw [h.1] at h2; cases h2
  have hob := ord_ok o none hne (fun q hq => by cases hq) hpw
  unfold badT
  rw [if_neg (by omega), hfe, if_neg (by decide), hob]
  rfl
theorem rows_of {t : List Sh} : ∀ ws : List Wd, (∀ w ∈ ws, w ∈ t.map (·.To)) → ∃ rs : List Sh, (∀ r ∈ rs, r ∈ t) ∧ rs.map (·.To) = ws
  | [], _ => ⟨[], fun r hr => (by cases hr), rfl⟩
  | w :: ws, h => by
    obtain ⟨r, hr, e⟩ := List.mem_map.1 (h w List.mem_cons_self)
    obtain ⟨rs, h1, h2⟩ := rows_of ws fun x hx => h x (List.mem_cons_of_mem _ hx)
    exact ⟨r :: rs, fun x hx => by
      rcases List.mem_cons.1 hx with rfl | hx
      · exact hr
      · exact h1 x hx, by rw [List.map_cons, h2, e]⟩
theorem plain_one {t : List Sh} (h : plainT t = true) : ∀ r ∈ t, r.From.length = 1 := fun r hr => by
  unfold plainT at h
  rw [Bool.not_eq_true'] at h
  have := List.any_eq_false.1 h r hr
  simp only [bne_iff_ne, ne_eq, Decidable.not_not] at this
  omega
theorem rev_okL {t o : List Sh} (ht : badT t = 0) (hpl : plainT t = true) (ho : badT o = 0) (hp : o.Perm (rev t)) (hj : joinsW o (t.map (·.To)) = true) : OkL (t.map (·.To)) := by
  have hne : ∀ a ∈ t.map (·.To), a ≠ [] := fun a ha => by
    obtain ⟨r, hr, e⟩ := (rev_mem hp a).1 ha
    rw [← e]; exact (table_ok ho).1 r hr
  have h1 : (o.map (·.From)).Perm ((rev t).map (·.From)) := hp.map _
  rw [rev_froms] at h1
  refine ⟨hne, h1.nodup_iff.1 ?_, fun a ha b hb hlt hbeg => ?_⟩
  · exact List.pairwise_map.2 ((ordBad_pair (badT_zero ho).2.2).imp fun {x y} h e => by rw [e, ltW_irrefl] at h; cases h)
  · rw [Bool.eq_false_iff]
    intro hbegun
    obtain ⟨ws, h2, v, h3⟩ := begun_ex _ _ hbegun
    obtain ⟨ra, hra, ea⟩ := List.mem_map.1 ha
    obtain ⟨rs, h4, h5⟩ := rows_of ws h2
    have hw := rev_words ho hp hj (rs := ra :: rs) fun r hr => by
      rcases List.mem_cons.1 hr with rfl | hr
      · exact hra
      · exact h4 r hr
    simp only [List.map_cons, List.flatten_cons, h5, ea, h3] at hw
    obtain ⟨u, hu⟩ := begW_pre.1 hbeg
    have hx : a ++ (b.drop a.length ++ v) = b ++ v := by
      rw [← List.append_assoc]; congr 1; rw [hu]; simp
    rw [hx] at hw
    obtain ⟨rb, hrb, eb⟩ := (rev_mem hp b).1 hb
    have hf := fitW_fits o (b ++ v)
    obtain ⟨i, hi, hri⟩ := List.getElem_of_mem hrb
    have hbw : begW (b ++ v) rb.From = true := begW_pre.2 ⟨v, by rw [eb]⟩
    have hbne : b ++ v ≠ [] := fun e => hne b hb (List.append_eq_nil_iff.1 e).1
    cases hk : fitW o (b ++ v) with
    | none =>
      rw [hk] at hf
      have := hf i rb (by omega) (by rw [List.getElem?_eq_getElem hi, hri])
      rw [hbw] at this; cases this
    | some k =>
      rw [hk] at hf
      obtain ⟨hkl, r', h7, h8, h9⟩ := hf
      have hle := h9 i rb hi (by rw [List.getElem?_eq_getElem hi, hri]) hbw
      rw [eb] at hle
      have hr' := List.mem_of_getElem? h7
      obtain ⟨rc, hrc, ec⟩ := List.mem_map.1 (hp.mem_iff.1 hr')
      rw [shiftW_go (table_ok ho).1 hbne] at hw
      have e1 : stepTo o (b ++ v) = r'.To := by simp [stepTo, hk, h7]
      rw [e1] at hw
      have e2 : r'.To = rc.From := by rw [← ec]
      have e3 : r'.From = rc.To := by rw [← ec]
      have l1 := plain_one hpl ra hra
      have l2 := plain_one hpl rc hrc
      rw [e2] at hw
      have h10 : rc.From = ra.From := by
        have := congrArg (List.take 1) hw
        rwa [List.take_append_of_le_length (by omega), List.take_append_of_le_length (by omega), List.take_of_length_le (by omega), List.take_of_length_le (by omega)] at this
      have h11 := from_inj ht hrc hra h10
      rw [e3, h11, ea] at hle
      omega
end Go.Proofs.YtldlcejlfaogbaaGreatDoor.Vs

/- numbers of YtldlcejlfaogbaaDoor -/
namespace Go.Proofs.YtldlcejlfaogbaaGreatDoor.Vs
open Go.RowKit
set_option linter.unusedVariables false
set_option linter.unusedSimpArgs false
set_option maxRecDepth 20000
def RevSpec2 (t out : List Sh) (ok : Bool) (e : Int) : Prop :=
  (badT t ≠ 0 ∧ ok = false ∧ e = badT t ∧ out = []) ∨ (badT t = 0 ∧ askE t ≠ 0 ∧ ok = false ∧ e = askE t ∧ out = []) ∨ (badT t = 0 ∧ askE t = 0 ∧ e = 0 ∧ ∃ o : List Sh, o.Perm (rev t) ∧ sortedP o ∧ ((ok = true ∧ out = o ∧ badT o = 0 ∧ joinsW o (t.map (·.To)) = true) ∨ (ok = false ∧ out = [] ∧ (badT o ≠ 0 ∨ joinsW o (t.map (·.To)) = false))))
theorem sortedT_P {t : List Sh} (h : sortedT t) : sortedP t := List.pairwise_iff_getElem.2 fun i j hi hj hij => h i j hj hij
theorem Reverse_q (t : List Sh) {σ : Heap} : PCall Zs 22 [encT t] σ (fun d τ => τ = σ ∧ ∃ out ok e, d = .tup [encT out, .bool ok, .int .i64 e] ∧ RevSpec2 t out ok e) := by
  refine pcall_of (Z := Zs) ok22 fun hcl hbl => ?_
  simp -dsimp only [L22, ↓preB, postB, genB, ↓reduceIte, Nat.reduceEqDiff, Int.reduceToNat, Int.reduceLE, Int.reduceLT, Nat.reduceAdd, Nat.reduceLeDiff, intBin, strBin, unD, extractD, lit1, lit2, lit3, keptD, boxR, D.one, D.pub1, D.cells, splice, cutOwn]
  have bad : ∀ (e : Int) (s : Heap), HLe σ s → RevSpec2 t [] false e → Ret σ (fun d τ => τ = σ ∧ ∃ out ok e, d = .tup [encT out, .bool ok, .int .i64 e] ∧ RevSpec2 t out ok e) (.tup [.sl .nil 0 [], .bool false, .int .i64 e]) s := fun e s hle h =>
    Ret.told σ (.tup [encT [], .bool false, .int .i64 e]) (Nat.le_refl _) hle hcl (.tup3 told_nilT (.refl _) (.refl _)) (bel_encJ ([], false, e)) ⟨rfl, [], false, e, rfl, h⟩
  refine Fn.use (validate_c t) ?_
  cases ca : (badT t != 0)
  case true =>
    have c' : badT t ≠ 0 := by simpa using ca
    simp -dsimp only [ca, ↓preB, postB, genB, ↓reduceIte, Nat.reduceEqDiff, Int.reduceToNat, Int.reduceLE, Int.reduceLT, Nat.reduceAdd, Nat.reduceLeDiff, intBin, strBin, unD, extractD, lit1, lit2, lit3, keptD, boxR, D.one, D.pub1, D.cells, splice, cutOwn]
    exact bad _ _ (HLe.refl _) (.inl ⟨c', rfl, rfl, rfl⟩)
  have ht : badT t = 0 := by simpa using ca
  simp -dsimp only [ca, ↓preB, postB, genB, ↓reduceIte, Nat.reduceEqDiff, Int.reduceToNat, Int.reduceLE, Int.reduceLT, Nat.reduceAdd, Nat.reduceLeDiff, intBin, strBin, unD, extractD, lit1, lit2, lit3, keptD, boxR, D.one, D.pub1, D.cells, splice, cutOwn]
  refine Fn.use (asked_c t) ?_
  cases cb : (askE t != 0)
  case true =>
    have c' : askE t ≠ 0 := by simpa using cb
    simp -dsimp only [cb, ↓preB, postB, genB, ↓reduceIte, Nat.reduceEqDiff, Int.reduceToNat, Int.reduceLE, Int.reduceLT, Nat.reduceAdd, Nat.reduceLeDiff, intBin, strBin, unD, extractD, lit1, lit2, lit3, keptD, boxR, D.one, D.pub1, D.cells, splice, cutOwn]
    exact bad _ _ (HLe.refl _) (.inr (.inl ⟨ht, c', rfl, rfl, rfl⟩))
  have hk : askE t = 0 := by simpa using cb
  obtain ⟨a1, a2⟩ := table_ok ht
  obtain ⟨a3, a4, _⟩ := badT_zero ht
  have a5 := firstE_zero a4
  simp -dsimp only [cb, encT, ↓preB, postB, genB, ↓reduceIte, Nat.reduceEqDiff, Int.reduceToNat, Int.reduceLE, Int.reduceLT, Nat.reduceAdd, Nat.reduceLeDiff, intBin, strBin, unD, extractD, lit1, lit2, lit3, keptD, boxR, D.one, D.pub1, D.cells, splice, cutOwn]
  intro hbig
  refine pwp_loopG (fun k env τ => k ≤ t.length ∧ RT σ 67 2 k (rowsD (rev (t.take k))) (env 7) 23 1 k (((t.take k).map (·.To)).map encSS) (env 8) τ ∧ env 23 = .int .i64 (k:Nat) ∧ env 22 = .int .i64 t.length ∧ env 21 = encT t) (fun k => t.length - k) 0 ?_ ?_
  · simp only [upd_apply, envOf_apply, encT, Nat.reduceEqDiff, if_true, if_false]
    exact ⟨Nat.zero_le _, RT.start hcl, by simp⟩
  · rintro k env τ ⟨hkk, hR, h23, h22, h21⟩
    rcases Nat.lt_or_ge k t.length with hlt | hge
    · have hd := rowsD_at hlt
      have hpos : 0 < (rowsD t).length := by rw [rowsD_len]; omega
      have hak := List.getElem_mem hlt
      have htl := a2 _ hak
      have hfl : t[k].From.length ≤ 60 := badW_len (a5 _ hak).1
      have hjt := rev_take hlt
      have htt := tos_take (a := t) hlt
      simp -dsimp only [h23, h22, h21, encT, hlt, hd, hpos, ↓preB, postB, genB, ↓reduceIte, Nat.reduceEqDiff, Int.reduceToNat, Int.reduceLE, Int.reduceLT, Nat.reduceAdd, Nat.reduceLeDiff, intBin, strBin, unD, extractD, lit1, lit2, lit3, keptD, boxR, D.one, D.pub1, D.cells, splice, cutOwn]
      have hT2 := hR.new hcl (.cells 67 [encSS t[k].From, encSS t[k].To])
      have hget : (τ.new (.cells 67 [encSS t[k].From, encSS t[k].To])).get τ.next = some (.cells 67 [encSS t[k].From, encSS t[k].To]) := Heap.new_same _ _
      have hnext : σ.next ≤ τ.next := hR.le.next
      generalize t[k] = r at hd htl hfl hjt htt hget hT2 hak ⊢
      refine draw_t 9 (by decide) ?_
      simp -dsimp only [hget, h23, h22, h21, List.getElem?_cons_zero, List.getElem?_cons_succ, encT, hlt, hd, hpos, List.take_succ_cons, List.take_zero, List.drop_succ_cons, List.drop_zero, ↓preB, postB, genB, ↓reduceIte, Nat.reduceEqDiff, Int.reduceToNat, Int.reduceLE, Int.reduceLT, Nat.reduceAdd, Nat.reduceLeDiff, intBin, strBin, unD, extractD, lit1, lit2, lit3, keptD, boxR, D.one, D.pub1, D.cells, splice, cutOwn]
      refine Fn.useS (clone_any r.To (by omega)) ?_
      simp -dsimp only [hget, h23, h22, h21, List.getElem?_cons_zero, List.getElem?_cons_succ, encT, hlt, hd, hpos, ↓preB, postB, genB, ↓reduceIte, Nat.reduceEqDiff, Int.reduceToNat, Int.reduceLE, Int.reduceLT, Nat.reduceAdd, Nat.reduceLeDiff, intBin, strBin, unD, extractD, lit1, lit2, lit3, keptD, boxR, D.one, D.pub1, D.cells, splice, cutOwn]
      refine Fn.useS (clone_any r.From (by omega)) ?_
      simp -dsimp only [hget, h23, h22, h21, encT, encSS, hlt, hd, hpos, ab46, bs22, ↓preB, postB, genB, ↓reduceIte, Nat.reduceEqDiff, Int.reduceToNat, Int.reduceLE, Int.reduceLT, Nat.reduceAdd, Nat.reduceLeDiff, intBin, strBin, unD, extractD, lit1, lit2, lit3, keptD, boxR, D.one, D.pub1, D.cells, splice, cutOwn]
      refine hT2.appendRow hcl tz22 rfl tz67 rfl rfl rfl (by decide) (by rw [rowsD_len]; simp [rev]; omega) (fedBy_sl (m := 1) tz22 rfl rfl) (by decide) (by simp only []; omega) (by simp only [big]; omega) fun d2 τ2 hT3 hk3 => ?_
      have hne : env 7 ≠ .row τ.next 0 k none 2 := fun he => by
        rcases hR.one with ⟨_, _, g⟩ | ⟨r2, js, g, _, g2, _⟩
        · rw [he] at g; cases g
        · rw [he] at g; cases g
          exact absurd (hR.lt _ _ g2) (Nat.lt_irrefl _)
      have hget3 := hk3 _ _ hget hne
      simp -dsimp only [hget3, h23, h22, h21, List.getElem?_cons_zero, List.getElem?_cons_succ, encT, encSS, hlt, hd, hpos, ↓preB, postB, genB, ↓reduceIte, Nat.reduceEqDiff, Int.reduceToNat, Int.reduceLE, Int.reduceLT, Nat.reduceAdd, Nat.reduceLeDiff, intBin, strBin, unD, extractD, lit1, lit2, lit3, keptD, boxR, D.one, D.pub1, D.cells, splice, cutOwn]
      refine hT3.appendTip hcl tz58 rfl tz23 rfl rfl rfl (by decide) (by simp; omega) (fedBy_sl (m := 1) tz58 rfl rfl) (by decide) (by simp only []; omega) (by simp only [big]; omega) fun d4 τ4 hT4 => ?_
      simp -dsimp only [h23, h22, h21, encT, encSS, hlt, hd, hpos, ↓preB, postB, genB, ↓reduceIte, Nat.reduceEqDiff, Int.reduceToNat, Int.reduceLE, Int.reduceLT, Nat.reduceAdd, Nat.reduceLeDiff, intBin, strBin, unD, extractD, lit1, lit2, lit3, keptD, boxR, D.one, D.pub1, D.cells, splice, cutOwn]
      refine ⟨k + 1, ⟨by omega, ?_, wrap64_succ (by omega)⟩, by omega⟩
      rw [hjt, htt, rowsD_append, List.map_append]
      exact hT4
    · have hkl : k = t.length := by omega
      subst hkl
      rw [List.take_length] at hR
      simp -dsimp only [h23, h22, h21, encT, Nat.lt_irrefl, ↓preB, postB, genB, ↓reduceIte, Nat.reduceEqDiff, Int.reduceToNat, Int.reduceLE, Int.reduceLT, Nat.reduceAdd, Nat.reduceLeDiff, intBin, strBin, unD, extractD, lit1, lit2, lit3, keptD, boxR, D.one, D.pub1, D.cells, splice, cutOwn]
      have hrl : (rev t).length = t.length := by simp [rev]
      have key : PCall Zs 59 [env 7, .func 60 []] τ (fun d τ' => d = .tup [] ∧ ∃ out : List Sh, out.Perm (rev t) ∧ sortedP out ∧ HLe σ τ' ∧ Told τ' Heap.nil (env 7) (encT out) ∧ Told τ' σ (env 7) (encT out)) := by
        rcases hR.one with ⟨g0, _, g⟩ | ⟨q, js, g, gq, g2, gn⟩
        · have ht0 : t = [] := List.eq_nil_of_length_eq_zero g0
          rw [g]
          refine (sortNil_c τ).mono fun d τ' ⟨h1, h2⟩ => ⟨h1, [], by rw [ht0]; exact .refl _, .nil, by rw [h2]; exact hR.le, told_nilT, told_nilT⟩
        · by_cases ht0 : t = []
          · exact absurd (by rw [ht0]; rfl) gn
          have told2 : ∀ (β : Heap) {τ' : Heap} {out : List Sh}, β.get q = none → τ' = τ.set q (.cells 67 (rowsD out ++ js)) → out.length = t.length → Told τ' β (.row q 0 t.length none 2) (encT out) := fun β τ' out hβ ht' hol => by
            have hro := rowsD_len out
            rw [encT, hol]
            refine .row q 0 t.length none 2 67 (rowsD out ++ js) (rowsD out) (by rw [ht']; exact Heap.set_same _ _ _) hβ (by rw [List.length_append]; omega) (by omega) fun i h1 h2 => ?_
            simp only [Nat.zero_add]
            rw [List.getElem_append_left h2]
            exact .refl _
          rw [g, ← hrl]
          refine (sort47_p (rev t) (by simpa [rev] using ht0) (by rw [hrl]; omega) (fun r hr => ?_) js (c := none) g2).mono fun d τ' ⟨h1, out, h2, h3, h4⟩ => ⟨h1, out, h2, sortedT_P h3, ?_, ?_, ?_⟩
          · obtain ⟨x, hx, rfl⟩ := List.mem_map.1 hr
            have := a2 x hx
            show x.To.length ≤ 100000
            omega
          · rw [h4]; exact hR.le.set_out _ hcl gq
          · rw [hrl]; exact told2 Heap.nil (by rfl) h4 (by rw [h2.length_eq, hrl])
          · rw [hrl]; exact told2 σ (hcl.none gq) h4 (by rw [h2.length_eq, hrl])
      refine PCall.use key ?_
      rintro d τ' ⟨rfl, out, hperm, hsrt, hle, htn, hts⟩
      have ht8 : ∀ τ'', Told τ' τ'' (env 8) (encLL (t.map (·.To))) := fun τ'' => by
        have := hR.two.told (τ := τ') (τ' := τ'')
        simpa [encLL] using this
      simp -dsimp only [h23, h22, h21, encT, ↓preB, postB, genB, ↓reduceIte, Nat.reduceEqDiff, Int.reduceToNat, Int.reduceLE, Int.reduceLT, Nat.reduceAdd, Nat.reduceLeDiff, intBin, strBin, unD, extractD, lit1, lit2, lit3, keptD, boxR, D.one, D.pub1, D.cells, splice, cutOwn]
      have belT : ∀ o : List Sh, Bel 0 (encT o) := fun o => .no (bel_rowsD _)
      refine Fn.useV (validate_c out) (by rfl) (by rfl) (fun i h1 h2 => match i, h1, h2 with | 0, _, _ => htn) (fun d hd => by simp only [List.mem_cons, List.not_mem_nil, or_false] at hd; subst hd; exact belT _) ?_
      cases co : (badT out != 0)
      case true =>
        have c' : badT out ≠ 0 := by simpa using co
        simp -dsimp only [h23, h22, h21, co, gate, show (true == false) = false from rfl, encT, ↓preB, postB, genB, ↓reduceIte, Nat.reduceEqDiff, Int.reduceToNat, Int.reduceLE, Int.reduceLT, Nat.reduceAdd, Nat.reduceLeDiff, intBin, strBin, unD, extractD, lit1, lit2, lit3, keptD, boxR, D.one, D.pub1, D.cells, splice, cutOwn]
        exact bad 0 _ hle (.inr (.inr ⟨ht, hk, rfl, out, hperm, hsrt, .inr ⟨rfl, rfl, .inl c'⟩⟩))
      have ho : badT out = 0 := by simpa using co
      obtain ⟨o1, o2⟩ := table_ok ho
      obtain ⟨o3, o4, _⟩ := badT_zero ho
      simp -dsimp only [h23, h22, h21, co, gate, show (false == false) = true from rfl, encT, ↓preB, postB, genB, ↓reduceIte, Nat.reduceEqDiff, Int.reduceToNat, Int.reduceLE, Int.reduceLT, Nat.reduceAdd, Nat.reduceLeDiff, intBin, strBin, unD, extractD, lit1, lit2, lit3, keptD, boxR, D.one, D.pub1, D.cells, splice, cutOwn]
      refine Fn.useV (joins_c (t.map (·.To)) out o1 o2 (fun r hr => badW_len (firstE_zero o4 r hr).1) o3 fun w hw => ?_) (by rfl) (by rfl) (fun i h1 h2 => match i, h1, h2 with | 0, _, _ => ht8 _ | 1, _, _ => htn) (fun d hd => by
        simp only [List.mem_cons, List.not_mem_nil, or_false] at hd
        rcases hd with rfl | rfl
        · exact bel_LL _
        · exact belT _) ?_
      · obtain ⟨r, hr, rfl⟩ := List.mem_map.1 hw
        exact badW_good (a5 r hr).2
      · cases hj : joinsW out (t.map (·.To)) with
        | false =>
          simp -dsimp only [h23, h22, h21, hj, encT, ↓preB, postB, genB, ↓reduceIte, Nat.reduceEqDiff, Int.reduceToNat, Int.reduceLE, Int.reduceLT, Nat.reduceAdd, Nat.reduceLeDiff, intBin, strBin, unD, extractD, lit1, lit2, lit3, keptD, boxR, D.one, D.pub1, D.cells, splice, cutOwn]
          exact bad 0 _ hle (.inr (.inr ⟨ht, hk, rfl, out, hperm, hsrt, .inr ⟨rfl, rfl, .inr hj⟩⟩))
        | true =>
          simp -dsimp only [h23, h22, h21, hj, encT, ↓preB, postB, genB, ↓reduceIte, Nat.reduceEqDiff, Int.reduceToNat, Int.reduceLE, Int.reduceLT, Nat.reduceAdd, Nat.reduceLeDiff, intBin, strBin, unD, extractD, lit1, lit2, lit3, keptD, boxR, D.one, D.pub1, D.cells, splice, cutOwn]
          exact Ret.told σ (.tup [encT out, .bool true, .int .i64 0]) (Nat.le_refl _) hle hcl (.tup3 hts (.refl _) (.refl _)) (bel_encJ (out, true, 0)) ⟨rfl, out, true, 0, rfl, .inr (.inr ⟨ht, hk, rfl, out, hperm, hsrt, .inl ⟨rfl, rfl, ho, hj⟩⟩)⟩
end Go.Proofs.YtldlcejlfaogbaaGreatDoor.Vs

/- numbers of YtldlcejlfaogbaaDoor -/
namespace Go.Proofs.YtldlcejlfaogbaaGreatDoor.Vs
open Go.RowKit
set_option linter.unusedVariables false
set_option linter.unusedSimpArgs false
set_option maxRecDepth 20000
/-- The From's of rows, one behind the other. -/
def symsT (t : List Sh) (ns : List Int) : Wd := ns.flatMap fun n => ((t[n.toNat]?).map (·.From)).getD []
theorem symsT_take {t : List Sh} {x : List Int} {j r : Nat} (hj : j < x.length) (hr : x[j] = (r : Int)) (hl : r < t.length) : symsT t (x.take (j + 1)) = symsT t (x.take j) ++ t[r].From := by
  rw [List.take_succ_eq_append_getElem hj, symsT, symsT, List.flatMap_append, List.flatMap_singleton, hr, Int.toNat_natCast, List.getElem?_eq_getElem hl]
  rfl
def RvSpec2 (t : List Sh) (is : Bool) (w0 w1 : Wd) (e : Int) : Prop :=
  (badT t ≠ 0 ∧ is = false ∧ e = badT t ∧ w0 = [] ∧ w1 = []) ∨ (badT t = 0 ∧ askE t ≠ 0 ∧ is = false ∧ e = askE t ∧ w0 = [] ∧ w1 = []) ∨ (badT t = 0 ∧ askE t = 0 ∧ e = 0 ∧ ∃ res, SpecC (t.map (·.To)) res ∧ match res with
    | none => is = true ∧ w0 = [] ∧ w1 = []
    | some (x, y) => is = false ∧ w0 = symsT t x ∧ w1 = symsT t y)
theorem told_nilV {σ τ : Heap} : Told σ τ (.sl .nil 0 []) (encSS []) := .sl .nil .no 0 [] _ (.inl rfl) rfl fun i h => absurd h (Nat.not_lt_zero _)
theorem Reversible_q (t : List Sh) {σ : Heap} : PCall Zs 25 [encT t] σ (fun d τ => τ = σ ∧ ∃ is w0 w1 e, d = .tup [.bool is, .agg [encSS w0, encSS w1], .int .i64 e] ∧ RvSpec2 t is w0 w1 e) := by
  refine pcall_of (Z := Zs) ok25 fun hcl hbl => ?_
  simp -dsimp only [L25, ↓preB, postB, genB, ↓reduceIte, Nat.reduceEqDiff, Int.reduceToNat, Int.reduceLE, Int.reduceLT, Nat.reduceAdd, Nat.reduceLeDiff, intBin, strBin, unD, extractD, lit1, lit2, lit3, keptD, boxR, D.one, D.pub1, D.cells, splice, cutOwn]
  have fin : ∀ (is : Bool) (e : Int) (x1 x2 : D) (w0 w1 : Wd) (s : Heap), HLe σ s → Told s σ x1 (encSS w0) → Told s σ x2 (encSS w1) → RvSpec2 t is w0 w1 e → Ret σ (fun d τ => τ = σ ∧ ∃ is w0 w1 e, d = .tup [.bool is, .agg [encSS w0, encSS w1], .int .i64 e] ∧ RvSpec2 t is w0 w1 e) (.tup [.bool is, .agg [x1, x2], .int .i64 e]) s := fun is e x1 x2 w0 w1 s hle t1 t2 h =>
    Ret.told σ (.tup [.bool is, .agg [encSS w0, encSS w1], .int .i64 e]) (Nat.le_refl _) hle hcl (.tup3 (.refl _) (.agg _ _ rfl fun i h1 h2 => match i, h1, h2 with | 0, _, _ => t1 | 1, _, _ => t2) (.refl _)) (.tup3 (.bool _) (.agg _ fun d hd => by
      simp only [List.mem_cons, List.not_mem_nil, or_false] at hd
      rcases hd with rfl | rfl
      · exact .no (bel_strs _)
      · exact .no (bel_strs _)) (.int _ _)) ⟨rfl, is, w0, w1, e, rfl, h⟩
  have hle1 := HLe.self_new (.cells 24 [D.sl Own.nil 0 [], D.sl Own.nil 0 []]) hcl
  have hc1 : Closed (σ.new (.cells 24 [D.sl Own.nil 0 [], D.sl Own.nil 0 []])) := hcl.new fun d hd => by
    simp only [List.mem_cons, List.not_mem_nil, or_false, or_self] at hd
    subst hd
    exact .sl _ _ _ (fun r z h => by cases h) (by simp)
  have hg1 : (σ.new (.cells 24 [D.sl Own.nil 0 [], D.sl Own.nil 0 []])).get σ.next = some (.cells 24 [D.sl Own.nil 0 [], D.sl Own.nil 0 []]) := Heap.new_same _ _
  refine Fn.use (validate_c t) ?_
  cases ca : (badT t != 0)
  case true =>
    have c' : badT t ≠ 0 := by simpa using ca
    simp -dsimp only [ca, hg1, ab41, ↓preB, postB, genB, ↓reduceIte, Nat.reduceEqDiff, Int.reduceToNat, Int.reduceLE, Int.reduceLT, Nat.reduceAdd, Nat.reduceLeDiff, intBin, strBin, unD, extractD, lit1, lit2, lit3, keptD, boxR, D.one, D.pub1, D.cells, splice, cutOwn]
    refine ⟨_, ares_tct (r := σ.next) tz24 (by simp [upd_apply]) (Heap.new_same _ _) (pack41 _ _ rfl rfl _ tz24), ?_⟩
    simp only [upd_apply, Nat.reduceEqDiff, if_true, if_false]
    exact fin _ _ _ _ [] [] _ hle1 told_nilV told_nilV (.inl ⟨c', rfl, rfl, rfl, rfl⟩)
  have ht : badT t = 0 := by simpa using ca
  simp -dsimp only [ca, hg1, ↓preB, postB, genB, ↓reduceIte, Nat.reduceEqDiff, Int.reduceToNat, Int.reduceLE, Int.reduceLT, Nat.reduceAdd, Nat.reduceLeDiff, intBin, strBin, unD, extractD, lit1, lit2, lit3, keptD, boxR, D.one, D.pub1, D.cells, splice, cutOwn]
  refine Fn.use (asked_c t) ?_
  cases cb : (askE t != 0)
  case true =>
    have c' : askE t ≠ 0 := by simpa using cb
    simp -dsimp only [cb, hg1, ab41, ↓preB, postB, genB, ↓reduceIte, Nat.reduceEqDiff, Int.reduceToNat, Int.reduceLE, Int.reduceLT, Nat.reduceAdd, Nat.reduceLeDiff, intBin, strBin, unD, extractD, lit1, lit2, lit3, keptD, boxR, D.one, D.pub1, D.cells, splice, cutOwn]
    refine ⟨_, ares_tct (r := σ.next) tz24 (by simp [upd_apply]) (Heap.new_same _ _) (pack41 _ _ rfl rfl _ tz24), ?_⟩
    simp only [upd_apply, Nat.reduceEqDiff, if_true, if_false]
    exact fin _ _ _ _ [] [] _ hle1 told_nilV told_nilV (.inr (.inl ⟨ht, c', rfl, rfl, rfl, rfl⟩))
  have hk : askE t = 0 := by simpa using cb
  obtain ⟨a1, a2⟩ := table_ok ht
  obtain ⟨a3, a4, _⟩ := badT_zero ht
  have a5 := firstE_zero a4
  simp -dsimp only [cb, hg1, encT, ↓preB, postB, genB, ↓reduceIte, Nat.reduceEqDiff, Int.reduceToNat, Int.reduceLE, Int.reduceLT, Nat.reduceAdd, Nat.reduceLeDiff, intBin, strBin, unD, extractD, lit1, lit2, lit3, keptD, boxR, D.one, D.pub1, D.cells, splice, cutOwn]
  intro hbig
  refine pwp_loopG (fun k env τ => k ≤ t.length ∧ Two (σ.new (.cells 24 [D.sl Own.nil 0 [], D.sl Own.nil 0 []])) 23 1 k (((t.take k).map (·.To)).map encSS) (env 7) 3 1 0 [] (.sl .nil 0 []) τ ∧ env 29 = .int .i64 (k:Nat) ∧ env 28 = .int .i64 t.length ∧ env 27 = encT t ∧ env 0 = encT t ∧ env 3 = .ptr σ.next 0) (fun k => t.length - k) 0 ?_ ?_
  · simp only [upd_apply, envOf_apply, encT, Nat.reduceEqDiff, if_true, if_false]
    exact ⟨Nat.zero_le _, Two.start hc1, by simp⟩
  · rintro k env τ ⟨hkk, hR, h29, h28, h27, h0, h3⟩
    rcases Nat.lt_or_ge k t.length with hlt | hge
    · have hd := rowsD_at hlt
      have hpos : 0 < (rowsD t).length := by rw [rowsD_len]; omega
      have htt := tos_take (a := t) hlt
      simp -dsimp only [h29, h28, h27, h0, h3, encT, encSS, hlt, hd, hpos, ↓preB, postB, genB, ↓reduceIte, Nat.reduceEqDiff, Int.reduceToNat, Int.reduceLE, Int.reduceLT, Nat.reduceAdd, Nat.reduceLeDiff, intBin, strBin, unD, extractD, lit1, lit2, lit3, keptD, boxR, D.one, D.pub1, D.cells, splice, cutOwn]
      have hT2 := hR.new hc1 (.cells 67 [encSS t[k].From, encSS t[k].To])
      refine hT2.append hc1 tz58 rfl tz23 rfl rfl rfl (by decide) (by simp; omega) (fedBy_sl (m := 1) tz58 rfl rfl) (by decide) (by simp only []; omega) (by simp only [big]; omega) fun d4 τ4 hT4 _ => ?_
      simp -dsimp only [h29, h28, h27, h0, h3, encT, encSS, hlt, hd, hpos, ↓preB, postB, genB, ↓reduceIte, Nat.reduceEqDiff, Int.reduceToNat, Int.reduceLE, Int.reduceLT, Nat.reduceAdd, Nat.reduceLeDiff, intBin, strBin, unD, extractD, lit1, lit2, lit3, keptD, boxR, D.one, D.pub1, D.cells, splice, cutOwn]
      refine ⟨k + 1, ⟨by omega, ?_, wrap64_succ (by omega)⟩, by omega⟩
      rw [htt, List.map_append]
      exact hT4
    · have hkl : k = t.length := by omega
      subst hkl
      rw [List.take_length] at hR
      have hgo : ∀ r ∈ t.map (·.To), goodW r := fun w hw => by
        obtain ⟨r, hr, rfl⟩ := List.mem_map.1 hw
        exact badW_good (a5 r hr).2
      have h8 : ∀ w ∈ t.map (·.To), w.length ≤ 8 := fun w hw => by
        obtain ⟨r, hr, rfl⟩ := List.mem_map.1 hw
        unfold askE at hk
        split at hk
        · split at hk
          · cases hk
          · rename_i hn
            simp only [Bool.not_eq_true] at hn
            have := List.any_eq_false.1 hn r hr
            simp only [decide_eq_true_eq] at this
            omega
        · cases hk
      simp -dsimp only [h29, h28, h27, h0, h3, encT, Nat.lt_irrefl, ↓preB, postB, genB, ↓reduceIte, Nat.reduceEqDiff, Int.reduceToNat, Int.reduceLE, Int.reduceLT, Nat.reduceAdd, Nat.reduceLeDiff, intBin, strBin, unD, extractD, lit1, lit2, lit3, keptD, boxR, D.one, D.pub1, D.cells, splice, cutOwn]
      refine PCall.useP (clash_c (t.map (·.To)) (by simpa using a3) hgo h8 τ) (by
        show [(env 7).pub1] = _
        rw [hR.one.pub1]
        simp [encLL]) ?_
      rintro d τ' ⟨rfl, res, rfl, hS⟩
      cases res with
      | none =>
        have hgq := hR.le.get _ _ hg1
        simp -dsimp only [h29, h28, h27, h0, h3, hgq, ab41, encTwo, nilOf, encT, ↓preB, postB, genB, ↓reduceIte, Nat.reduceEqDiff, Int.reduceToNat, Int.reduceLE, Int.reduceLT, Nat.reduceAdd, Nat.reduceLeDiff, intBin, strBin, unD, extractD, lit1, lit2, lit3, keptD, boxR, D.one, D.pub1, D.cells, splice, cutOwn]
        refine ⟨_, ares_tct (r := σ.next) tz24 (by simp [upd_apply, h3]) (Heap.set_same _ _ _) (pack41 _ _ rfl rfl _ tz24), ?_⟩
        simp only [upd_apply, Nat.reduceEqDiff, if_true, if_false]
        exact fin _ _ _ _ [] [] _ ((hle1.trans hR.le).set_out _ hcl (Nat.le_refl _)) told_nilV told_nilV (.inr (.inr ⟨ht, hk, rfl, none, hS, rfl, rfl, rfl⟩))
      | some p =>
        obtain ⟨x, y⟩ := p
        simp -dsimp only [h29, h28, h27, h0, h3, encTwo, nilOf, show (0 : Nat) < 2 from by decide, if_true, encT, ↓preB, postB, genB, ↓reduceIte, Nat.reduceEqDiff, Int.reduceToNat, Int.reduceLE, Int.reduceLT, Nat.reduceAdd, Nat.reduceLeDiff, intBin, strBin, unD, extractD, lit1, lit2, lit3, keptD, boxR, D.one, D.pub1, D.cells, splice, cutOwn]
        have hSa : x.length ≤ 10000 ∧ y.length ≤ 10000 ∧ okNs (t.map (·.To)) x ∧ okNs (t.map (·.To)) y := by
          unfold SpecC at hS
          split at hS
          · rename_i k hf
            cases hS
            have hkl : k < (t.map (·.To)).length := by
              have := List.findIdx?_eq_some_iff_getElem.1 hf
              exact this.1
            exact ⟨by simp, by simp, fun n hn => (by cases hn), fun n hn => by
              simp only [List.mem_cons, List.not_mem_nil, or_false] at hn
              subst hn
              omega⟩
          · exact ⟨hS.2.2.2.2.2.2.1, hS.2.2.2.2.2.2.2, hS.2.1, hS.2.2.1⟩
        have hle2 : HLe (σ.new (.cells 24 [D.sl Own.nil 0 [], D.sl Own.nil 0 []])) τ' := hR.le
        have hq2 : (τ'.new (.cells 24 [D.sl Own.nil 0 [], D.sl Own.nil 0 []])).get τ'.next = some (.cells 24 [D.sl Own.nil 0 [], D.sl Own.nil 0 []]) := Heap.new_same _ _
        have hTw0 : Two (σ.new (.cells 24 [D.sl Own.nil 0 [], D.sl Own.nil 0 []])) 9 1 0 [] (.sl .nil 0 []) 9 1 0 [] (.sl .nil 0 []) (τ'.new (.cells 24 [D.sl Own.nil 0 [], D.sl Own.nil 0 []])) :=
          ⟨hle2.new' _ hc1, new_lt hR.lt _, .inl ⟨rfl, rfl, rfl⟩, .inl ⟨rfl, rfl, rfl⟩, fun r r' h => by cases h⟩
        have hqn : (σ.new (.cells 24 [D.sl Own.nil 0 [], D.sl Own.nil 0 []])).next ≤ τ'.next := hle2.next
        generalize τ'.new (.cells 24 [D.sl Own.nil 0 [], D.sl Own.nil 0 []]) = s0 at hq2 hTw0 ⊢
        refine pwp_loopG (fun (i : Nat) env s => (i ≤ 2 ∧ ∃ n0 cs0 c0 n1 cs1 c1, Two (σ.new (.cells 24 [D.sl Own.nil 0 [], D.sl Own.nil 0 []])) 9 1 n0 cs0 c0 9 1 n1 cs1 c1 s ∧ s.get τ'.next = some (.cells 24 [c0, c1]) ∧ cs0.length = n0 ∧ cs1.length = n1 ∧ (i = 0 → n0 = 0) ∧ (i ≤ 1 → n1 = 0) ∧ (1 ≤ i → cs0 = (symsT t x).map .str) ∧ (2 ≤ i → cs1 = (symsT t y).map .str)) ∧ env 44 = .int .i64 (i:Nat) ∧ env 11 = .ptr τ'.next 0 ∧ env 10 = .sl .no 2 [encI x, encI y] ∧ env 3 = .ptr σ.next 0 ∧ env 0 = encT t) (fun i => 2 - i) 0 ?_ ?_
        · simp only [upd_apply, h0, h3, encT, Nat.reduceEqDiff, if_true, if_false]
          exact ⟨⟨by omega, 0, [], _, 0, [], _, hTw0, hq2, rfl, rfl, fun _ => rfl, fun _ => rfl, fun h => absurd h (by decide), fun h => absurd h (by decide)⟩, by simp [encT]⟩
        · rintro i env s ⟨⟨hi, n0, cs0, c0, n1, cs1, c1, hTw, hq, hl0, hl1, hz0, hz1, hw0, hw1⟩, h44, h11, h10, h3, h0⟩
          by_cases i0 : i = 0
          · subst i0
            have hlt : ((0 : Nat) : Int) < 2 := by decide
            simp -dsimp only [h44, h11, h10, h3, h0, hlt, if_true, encI, List.getElem?_cons_zero, ↓preB, postB, genB, ↓reduceIte, Nat.reduceEqDiff, Int.reduceToNat, Int.reduceLE, Int.reduceLT, Nat.reduceAdd, Nat.reduceLeDiff, intBin, strBin, unD, extractD, lit1, lit2, lit3, keptD, boxR, D.one, D.pub1, D.cells, splice, cutOwn]
            refine ⟨⟨by decide, by decide⟩, fun hxb => ?_⟩
            have hn1 := hz1 (by omega)
            refine pwp_loopG (fun (j : Nat) env s => (j ≤ x.length ∧ ∃ n0 cs0 c0 n1 cs1 c1, Two (σ.new (.cells 24 [D.sl Own.nil 0 [], D.sl Own.nil 0 []])) 9 1 n0 cs0 c0 9 1 n1 cs1 c1 s ∧ s.get τ'.next = some (.cells 24 [c0, c1]) ∧ cs0.length = n0 ∧ cs1.length = n1 ∧ n0 ≤ 60 * j ∧ n1 = 0 ∧ cs0 = (symsT t (x.take j)).map .str) ∧ env 52 = .int .i64 (j:Nat) ∧ env 51 = .int .i64 x.length ∧ env 50 = encI x ∧ env 44 = .int .i64 0 ∧ env 12 = .int .i64 0 ∧ env 11 = .ptr τ'.next 0 ∧ env 10 = .sl .no 2 [encI x, encI y] ∧ env 3 = .ptr σ.next 0 ∧ env 0 = encT t) (fun j => x.length - j) 0 ?_ ?_
            · simp only [upd_apply, h44, h11, h10, h3, h0, encI, Nat.reduceEqDiff, if_true, if_false]
              exact ⟨⟨Nat.zero_le _, n0, cs0, c0, n1, cs1, c1, hTw, hq, hl0, hl1, by rw [hz0 rfl]; omega, hn1, by rw [List.eq_nil_of_length_eq_zero (hl0.trans (hz0 rfl))]; rfl⟩, by simp [encI]⟩
            · clear hTw hq hl0 hl1 hz0 hz1 hn1 hw0 hw1 h44 h11 h10 h3 h0
              rintro j env s ⟨⟨hj, n0, cs0, c0, n1, cs1, c1, hTw, hq, hl0, hl1, hn0, hn1, hw0⟩, h52, h51, h50, h44, h12, h11, h10, h3, h0⟩
              rcases Nat.lt_or_ge j x.length with hjl | hjl
              · have hxj : x[j]? = some x[j] := List.getElem?_eq_getElem hjl
                have hxp : 0 < x.length := by omega
                obtain ⟨p0, p1⟩ := hSa.2.2.1 _ (List.getElem_mem hjl)
                rw [List.length_map] at p1
                obtain ⟨r, hr⟩ : ∃ r : Nat, x[j] = (r : Int) := ⟨(x[j]).toNat, by omega⟩
                have hrl : r < t.length := by omega
                have hd := rowsD_at hrl
                have hpos : 0 < (rowsD t).length := by rw [rowsD_len]; omega
                have hfl : t[r].From.length ≤ 60 := badW_len (a5 _ (List.getElem_mem hrl)).1
                simp -dsimp only [h52, h51, h50, h44, h12, h11, h10, h3, h0, hxj, hxp, hjl, hr, encI, encT, List.getElem?_map, ↓preB, postB, genB, ↓reduceIte, Nat.reduceEqDiff, Int.reduceToNat, Int.reduceLE, Int.reduceLT, Nat.reduceAdd, Nat.reduceLeDiff, intBin, strBin, unD, extractD, lit1, lit2, lit3, keptD, boxR, D.one, D.pub1, D.cells, splice, cutOwn]
                refine draw_p _ rfl rfl rfl rfl ?_
                simp only [List.filterMap_cons, List.filterMap_nil, List.getElem?_cons_succ, List.getElem?_cons_zero, pOps, keepKind, hfKind, Bool.or_false, Bool.or_true, Bool.false_eq_true, if_true, if_false]
                simp -dsimp only [hq, h52, h51, h50, h44, h12, h11, h10, h3, h0, hr, hd, hpos, hrl, List.getElem?_cons_zero, encT, encSS, ↓preB, postB, genB, ↓reduceIte, Nat.reduceEqDiff, Int.reduceToNat, Int.reduceLE, Int.reduceLT, Nat.reduceAdd, Nat.reduceLeDiff, intBin, strBin, unD, extractD, lit1, lit2, lit3, keptD, boxR, D.one, D.pub1, D.cells, splice, cutOwn]
                have hfn : t[r].From.length ≠ 0 := fun h => a1 _ (List.getElem_mem hrl) (List.eq_nil_of_length_eq_zero h)
                refine ⟨by decide, hTw.append (m := t[r].From.length) (ys := t[r].From.map .str) hc1 tz23 rfl tz9 rfl rfl rfl (by decide) (by simp [hl0]) (fedBy_sl tz23 rfl (by simp)) hfn (by simp only []; omega) (by simp only [big]; omega) fun d4 τ4 hT4 hk4 => ?_⟩
                have hq4 := hk4 _ _ hq (by simp)
                obtain ⟨o4, ho4⟩ := hT4.one.is
                subst ho4
                simp -dsimp only [hq4, h52, h51, h50, h44, h12, h11, h10, h3, h0, hr, hd, hpos, hrl, List.getElem?_cons_zero, encI, encT, encSS, ↓preB, postB, genB, ↓reduceIte, Nat.reduceEqDiff, Int.reduceToNat, Int.reduceLE, Int.reduceLT, Nat.reduceAdd, Nat.reduceLeDiff, intBin, strBin, unD, extractD, lit1, lit2, lit3, keptD, boxR, D.one, D.pub1, D.cells, splice, cutOwn]
                exact ⟨by decide, j + 1, ⟨⟨by omega, _, _, _, _, _, _, hT4.set hc1 hq4 hqn _, rfl, by simp [hl0], hl1, by omega, hn1, by rw [symsT_take hjl hr hrl, List.map_append, hw0]⟩, wrap64_succ (by omega)⟩, by omega⟩
              · have hjx : j = x.length := by omega
                subst hjx
                simp -dsimp only [h52, h51, h50, h44, h12, h11, h10, h3, h0, Nat.lt_irrefl, encI, encT, ↓preB, postB, genB, ↓reduceIte, Nat.reduceEqDiff, Int.reduceToNat, Int.reduceLE, Int.reduceLT, Nat.reduceAdd, Nat.reduceLeDiff, intBin, strBin, unD, extractD, lit1, lit2, lit3, keptD, boxR, D.one, D.pub1, D.cells, splice, cutOwn]
                exact ⟨1, ⟨⟨by omega, n0, cs0, c0, n1, cs1, c1, hTw, hq, hl0, hl1, fun h => by omega, fun _ => hn1, fun _ => by rw [hw0, List.take_length], fun h => by omega⟩, by decide⟩, by omega⟩
          · by_cases i1 : i = 1
            · subst i1
              have hlt : ((1 : Nat) : Int) < 2 := by decide
              simp -dsimp only [h44, h11, h10, h3, h0, hlt, if_true, encI, List.getElem?_cons_zero, List.getElem?_cons_succ, ↓preB, postB, genB, ↓reduceIte, Nat.reduceEqDiff, Int.reduceToNat, Int.reduceLE, Int.reduceLT, Nat.reduceAdd, Nat.reduceLeDiff, intBin, strBin, unD, extractD, lit1, lit2, lit3, keptD, boxR, D.one, D.pub1, D.cells, splice, cutOwn]
              refine ⟨⟨by decide, by decide⟩, fun hxb => ?_⟩
              have hn1 := hz1 (by omega)
              refine pwp_loopG (fun (j : Nat) env s => (j ≤ y.length ∧ ∃ n0 cs0 c0 n1 cs1 c1, Two (σ.new (.cells 24 [D.sl Own.nil 0 [], D.sl Own.nil 0 []])) 9 1 n0 cs0 c0 9 1 n1 cs1 c1 s ∧ s.get τ'.next = some (.cells 24 [c0, c1]) ∧ cs0.length = n0 ∧ cs1.length = n1 ∧ n1 ≤ 60 * j ∧ cs0 = (symsT t x).map .str ∧ cs1 = (symsT t (y.take j)).map .str) ∧ env 52 = .int .i64 (j:Nat) ∧ env 51 = .int .i64 y.length ∧ env 50 = encI y ∧ env 44 = .int .i64 1 ∧ env 12 = .int .i64 1 ∧ env 11 = .ptr τ'.next 0 ∧ env 10 = .sl .no 2 [encI x, encI y] ∧ env 3 = .ptr σ.next 0 ∧ env 0 = encT t) (fun j => y.length - j) 0 ?_ ?_
              · simp only [upd_apply, h44, h11, h10, h3, h0, encI, Nat.reduceEqDiff, if_true, if_false]
                exact ⟨⟨Nat.zero_le _, n0, cs0, c0, n1, cs1, c1, hTw, hq, hl0, hl1, by omega, hw0 (by omega), by rw [List.eq_nil_of_length_eq_zero (hl1.trans hn1)]; rfl⟩, by simp [encI]⟩
              · clear hTw hq hl0 hl1 hz0 hz1 hn1 hw0 hw1 h44 h11 h10 h3 h0
                rintro j env s ⟨⟨hj, n0, cs0, c0, n1, cs1, c1, hTw, hq, hl0, hl1, hn1, hw0, hw1⟩, h52, h51, h50, h44, h12, h11, h10, h3, h0⟩
                rcases Nat.lt_or_ge j y.length with hjl | hjl
                · have hxj : y[j]? = some y[j] := List.getElem?_eq_getElem hjl
                  have hxp : 0 < y.length := by omega
                  obtain ⟨p0, p1⟩ := hSa.2.2.2 _ (List.getElem_mem hjl)
                  rw [List.length_map] at p1
                  obtain ⟨r, hr⟩ : ∃ r : Nat, y[j] = (r : Int) := ⟨(y[j]).toNat, by omega⟩
                  have hrl : r < t.length := by omega
                  have hd := rowsD_at hrl
                  have hpos : 0 < (rowsD t).length := by rw [rowsD_len]; omega
                  have hfl : t[r].From.length ≤ 60 := badW_len (a5 _ (List.getElem_mem hrl)).1
                  simp -dsimp only [h52, h51, h50, h44, h12, h11, h10, h3, h0, hxj, hxp, hjl, hr, encI, encT, List.getElem?_map, ↓preB, postB, genB, ↓reduceIte, Nat.reduceEqDiff, Int.reduceToNat, Int.reduceLE, Int.reduceLT, Nat.reduceAdd, Nat.reduceLeDiff, intBin, strBin, unD, extractD, lit1, lit2, lit3, keptD, boxR, D.one, D.pub1, D.cells, splice, cutOwn]
                  refine draw_p _ rfl rfl rfl rfl ?_
                  simp only [List.filterMap_cons, List.filterMap_nil, List.getElem?_cons_succ, List.getElem?_cons_zero, pOps, keepKind, hfKind, Bool.or_false, Bool.or_true, Bool.false_eq_true, if_true, if_false]
                  simp -dsimp only [hq, h52, h51, h50, h44, h12, h11, h10, h3, h0, hr, hd, hpos, hrl, List.getElem?_cons_zero, List.getElem?_cons_succ, encT, encSS, ↓preB, postB, genB, ↓reduceIte, Nat.reduceEqDiff, Int.reduceToNat, Int.reduceLE, Int.reduceLT, Nat.reduceAdd, Nat.reduceLeDiff, intBin, strBin, unD, extractD, lit1, lit2, lit3, keptD, boxR, D.one, D.pub1, D.cells, splice, cutOwn]
                  have hfn : t[r].From.length ≠ 0 := fun h => a1 _ (List.getElem_mem hrl) (List.eq_nil_of_length_eq_zero h)
                  refine ⟨by decide, hTw.swap.append (m := t[r].From.length) (ys := t[r].From.map .str) hc1 tz23 rfl tz9 rfl rfl rfl (by decide) (by simp [hl1]) (fedBy_sl tz23 rfl (by simp)) hfn (by simp only []; omega) (by simp only [big]; omega) fun d4 τ4 hT4 hk4 => ?_⟩
                  have hq4 := hk4 _ _ hq (by simp)
                  obtain ⟨o4, ho4⟩ := hT4.one.is
                  subst ho4
                  simp -dsimp only [hq4, h52, h51, h50, h44, h12, h11, h10, h3, h0, hr, hd, hpos, hrl, List.getElem?_cons_zero, List.getElem?_cons_succ, encI, encT, encSS, ↓preB, postB, genB, ↓reduceIte, Nat.reduceEqDiff, Int.reduceToNat, Int.reduceLE, Int.reduceLT, Nat.reduceAdd, Nat.reduceLeDiff, intBin, strBin, unD, extractD, lit1, lit2, lit3, keptD, boxR, D.one, D.pub1, D.cells, splice, cutOwn]
                  exact ⟨by decide, j + 1, ⟨⟨by omega, _, _, _, _, _, _, (hT4.set hc1 hq4 hqn _).swap, rfl, hl0, by simp [hl1], by omega, hw0, by rw [symsT_take hjl hr hrl, List.map_append, hw1]⟩, wrap64_succ (by omega)⟩, by omega⟩
                · have hjx : j = y.length := by omega
                  subst hjx
                  simp -dsimp only [h52, h51, h50, h44, h12, h11, h10, h3, h0, Nat.lt_irrefl, encI, encT, ↓preB, postB, genB, ↓reduceIte, Nat.reduceEqDiff, Int.reduceToNat, Int.reduceLE, Int.reduceLT, Nat.reduceAdd, Nat.reduceLeDiff, intBin, strBin, unD, extractD, lit1, lit2, lit3, keptD, boxR, D.one, D.pub1, D.cells, splice, cutOwn]
                  exact ⟨2, ⟨⟨by omega, n0, cs0, c0, n1, cs1, c1, hTw, hq, hl0, hl1, fun h => by omega, fun h => by omega, fun _ => hw0, fun _ => by rw [hw1, List.take_length]⟩, by decide⟩, by omega⟩
            · have hi2 : i = 2 := by omega
              subst hi2
              have hnlt : ¬ (((2 : Nat) : Int) < 2) := by decide
              have hgq := hTw.le.get _ _ hg1
              simp -dsimp only [h44, h11, h10, h3, h0, hnlt, if_false, hgq, hq, ↓preB, postB, genB, ↓reduceIte, Nat.reduceEqDiff, Int.reduceToNat, Int.reduceLE, Int.reduceLT, Nat.reduceAdd, Nat.reduceLeDiff, intBin, strBin, unD, extractD, lit1, lit2, lit3, keptD, boxR, D.one, D.pub1, D.cells, splice, cutOwn]
              obtain ⟨o1, ho1⟩ := hTw.one.is
              obtain ⟨o2, ho2⟩ := hTw.two.is
              subst ho1
              subst ho2
              have hc0 := hw0 (by decide)
              have hc1 := hw1 (by decide)
              subst hc0
              subst hc1
              rw [List.length_map] at hl0 hl1
              subst hl0
              subst hl1
              refine draw_t 2 (by decide) ?_
              simp -dsimp only [h44, h11, h10, h3, h0, hgq, hq, List.take_succ_cons, List.take_zero, List.drop_succ_cons, List.drop_zero, ↓preB, postB, genB, ↓reduceIte, Nat.reduceEqDiff, Int.reduceToNat, Int.reduceLE, Int.reduceLT, Nat.reduceAdd, Nat.reduceLeDiff, intBin, strBin, unD, extractD, lit1, lit2, lit3, keptD, boxR, D.one, D.pub1, D.cells, splice, cutOwn]
              refine ⟨_, ares_tct (r := σ.next) tz24 (by simp [upd_apply, h3]) (Heap.set_same _ _ _) (pack41 _ _ rfl rfl _ tz24), ?_⟩
              simp only [upd_apply, Nat.reduceEqDiff, if_true, if_false]
              exact fin _ _ _ _ (symsT t x) (symsT t y) _ ((hle1.trans hTw.le).set_out _ hcl (Nat.le_refl _)) hTw.one.told hTw.two.told (.inr (.inr ⟨ht, hk, rfl, some (x, y), hS, rfl, rfl, rfl⟩))
end Go.Proofs.YtldlcejlfaogbaaGreatDoor.Vs

/- numbers of YtldlcejlfaogbaaGreatDoor -/
namespace Go.Proofs.YtldlcejlfaogbaaGreatDoor.Vs
set_option linter.unusedVariables false
set_option linter.unusedSimpArgs false
set_option maxRecDepth 20000
theorem bTTr : (true == true) = true := rfl
theorem bTFr : (true == false) = false := rfl
theorem bFTr : (false == true) = false := rfl
theorem bFFr : (false == false) = true := rfl
theorem lawPlain_c (t : List Sh) : Fn Zs 21 [encT t] (.bool (plainT t)) := by
  refine fn_of (Z := Zs) ok21 fun σ hcl hbl => ?_
  simp -dsimp only [L21, encT, ↓preB, postB, genB, ↓reduceIte, Nat.reduceEqDiff, Int.reduceToNat, Int.reduceLE, Int.reduceLT, Nat.reduceAdd, Nat.reduceLeDiff, intBin, strBin, unD, extractD, lit1, lit2, lit3, keptD, boxR, D.one, D.pub1, D.cells, splice, cutOwn]
  refine pwp_loopG (fun k env s => k ≤ t.length ∧ plainT (t.drop k) = plainT t ∧ s = σ ∧ env 3 = .int .i64 (k:Nat) ∧ env 0 = encT t) (fun k => t.length - k) 0 ?_ ?_
  · simp only [upd_apply, envOf_apply, encT, Nat.reduceEqDiff, if_true, if_false]
    exact ⟨Nat.zero_le _, by rw [List.drop_zero], trivial, rfl, rfl⟩
  · rintro k env s ⟨hk, hp, rfl, h3, h0⟩
    rcases Nat.lt_or_ge k t.length with hlt | hge
    · have hd := rowsD_at hlt
      have hpos : 0 < (rowsD t).length := by rw [rowsD_len]; omega
      rw [List.drop_eq_getElem_cons hlt, plainT, List.any_cons] at hp
      cases hc : ((t[k].From.length : Int) != 1) <;> simp -dsimp only [h3, h0, hc, encT, encSS, hlt, hd, hpos, ↓preB, postB, genB, ↓reduceIte, Nat.reduceEqDiff, Int.reduceToNat, Int.reduceLE, Int.reduceLT, Nat.reduceAdd, Nat.reduceLeDiff, intBin, strBin, unD, extractD, lit1, lit2, lit3, keptD, boxR, D.one, D.pub1, D.cells, splice, cutOwn]
      · intros
        rw [hc, Bool.false_or] at hp
        exact ⟨k + 1, ⟨by omega, by rw [← hp]; rfl, wrap64_succ (by omega)⟩, by omega⟩
      · intros
        rw [hc, Bool.true_or] at hp
        exact Ret.is (by rw [← hp]; rfl)
    · rw [List.drop_of_length_le hge] at hp
      simp -dsimp only [h3, h0, encT, Nat.not_lt.2 hge, ↓preB, postB, genB, ↓reduceIte, Nat.reduceEqDiff, Int.reduceToNat, Int.reduceLE, Int.reduceLT, Nat.reduceAdd, Nat.reduceLeDiff, intBin, strBin, unD, extractD, lit1, lit2, lit3, keptD, boxR, D.one, D.pub1, D.cells, splice, cutOwn]
      intros
      exact Ret.is (by rw [← hp]; rfl)
/-- What is wrong with a table that is to be plain, with short words. -/
def planE (t : List Sh) : Int := if badT t ≠ 0 then badT t else askE t
theorem refPlain_c (t : List Sh) : Fn Zs 63 [encT t] (.int .i64 (planE t)) := by
  refine fn_of (Z := Zs) ok63 fun σ hcl hbl => ?_
  simp -dsimp only [L63, encT, ↓preB, postB, genB, ↓reduceIte, Nat.reduceEqDiff, Int.reduceToNat, Int.reduceLE, Int.reduceLT, Nat.reduceAdd, Nat.reduceLeDiff, intBin, strBin, unD, extractD, lit1, lit2, lit3, keptD, boxR, D.one, D.pub1, D.cells, splice, cutOwn]
  have hV := refValidate_c t
  have hP := isPlain_c t
  unfold encT at hV hP
  refine Fn.use hV ?_
  cases ca : (badT t != 0)
  case true =>
    have c' : badT t ≠ 0 := by simpa using ca
    simp -dsimp only [ca, ↓preB, postB, genB, ↓reduceIte, Nat.reduceEqDiff, Int.reduceToNat, Int.reduceLE, Int.reduceLT, Nat.reduceAdd, Nat.reduceLeDiff, intBin, strBin, unD, extractD, lit1, lit2, lit3, keptD, boxR, D.one, D.pub1, D.cells, splice, cutOwn]
    exact Ret.is (by rw [planE, if_pos c'])
  have ht : badT t = 0 := by simpa using ca
  have hE : planE t = askE t := by rw [planE, if_neg (by simpa using ht)]
  have htl : t.length ≤ 24 := (badT_zero ht).1
  have hT := tos_c t (by omega)
  unfold encT at hT
  simp -dsimp only [ca, ↓preB, postB, genB, ↓reduceIte, Nat.reduceEqDiff, Int.reduceToNat, Int.reduceLE, Int.reduceLT, Nat.reduceAdd, Nat.reduceLeDiff, intBin, strBin, unD, extractD, lit1, lit2, lit3, keptD, boxR, D.one, D.pub1, D.cells, splice, cutOwn]
  refine Fn.use hP ?_
  cases cp : plainT t
  · simp -dsimp only [cp, ↓preB, postB, genB, ↓reduceIte, Nat.reduceEqDiff, Int.reduceToNat, Int.reduceLE, Int.reduceLT, Nat.reduceAdd, Nat.reduceLeDiff, intBin, strBin, unD, extractD, lit1, lit2, lit3, keptD, boxR, D.one, D.pub1, D.cells, splice, cutOwn]
    exact Ret.is (by rw [hE, askE, cp]; rfl)
  have hany : (t.map (·.To)).any long8 = t.any (fun r => decide ((8 : Int) < r.To.length)) := by
    rw [List.any_map]
    congr 1
    funext r
    simp only [Function.comp, long8]
    exact decide_eq_decide.2 (by omega)
  simp -dsimp only [cp, ↓preB, postB, genB, ↓reduceIte, Nat.reduceEqDiff, Int.reduceToNat, Int.reduceLE, Int.reduceLT, Nat.reduceAdd, Nat.reduceLeDiff, intBin, strBin, unD, extractD, lit1, lit2, lit3, keptD, boxR, D.one, D.pub1, D.cells, splice, cutOwn]
  refine Fn.use hT ?_
  simp -dsimp only [cp, ↓preB, postB, genB, ↓reduceIte, Nat.reduceEqDiff, Int.reduceToNat, Int.reduceLE, Int.reduceLT, Nat.reduceAdd, Nat.reduceLeDiff, intBin, strBin, unD, extractD, lit1, lit2, lit3, keptD, boxR, D.one, D.pub1, D.cells, splice, cutOwn]
  refine Fn.use (isLong8_c (t.map (·.To))) ?_
  cases c8 : (t.map (·.To)).any long8
  · simp -dsimp only [c8, ↓preB, postB, genB, ↓reduceIte, Nat.reduceEqDiff, Int.reduceToNat, Int.reduceLE, Int.reduceLT, Nat.reduceAdd, Nat.reduceLeDiff, intBin, strBin, unD, extractD, lit1, lit2, lit3, keptD, boxR, D.one, D.pub1, D.cells, splice, cutOwn]
    exact Ret.is (by rw [hE, askE, cp, ← hany, c8]; rfl)
  · simp -dsimp only [c8, ↓preB, postB, genB, ↓reduceIte, Nat.reduceEqDiff, Int.reduceToNat, Int.reduceLE, Int.reduceLT, Nat.reduceAdd, Nat.reduceLeDiff, intBin, strBin, unD, extractD, lit1, lit2, lit3, keptD, boxR, D.one, D.pub1, D.cells, splice, cutOwn]
    exact Ret.is (by rw [hE, askE, cp, ← hany, c8]; rfl)
theorem refPlain_tos (t : List Sh) (h : planE t = 0) : badT t = 0 ∧ askE t = 0 ∧ plainT t = true ∧ ∀ w ∈ t.map (·.To), w.length ≤ 8 := by
  unfold planE at h
  by_cases ht : badT t = 0
  · rw [if_neg (by simpa using ht)] at h
    refine ⟨ht, h, ?_⟩
    unfold askE at h
    split at h
    · rename_i hp
      refine ⟨hp, fun w hw => ?_⟩
      obtain ⟨r, hr, rfl⟩ := List.mem_map.1 hw
      split at h
      · cases h
      · rename_i hn
        simp only [Bool.not_eq_true] at hn
        have := List.any_eq_false.1 hn r hr
        simp only [decide_eq_true_eq] at this
        omega
    · cases h
  · rw [if_pos ht] at h
    exact absurd h ht
theorem isBegun_z (l : List Wd) (w : Wd) : Fn Zs 66 [encLL l, encSS w, .int .i64 ((0 : Nat) : Int)] (.bool (begunF l 0 w)) := by
  have hd : begunF l 0 w = (l.any (fun x => begW x w) || (w.length == 0)) := rfl
  refine fn_of (Z := Zs) ok66 fun σ hcl hbl => ?_
  simp -dsimp only [L66, encLL, ↓preB, postB, genB, ↓reduceIte, Nat.reduceEqDiff, Int.reduceToNat, Int.reduceLE, Int.reduceLT, Nat.reduceAdd, Nat.reduceLeDiff, intBin, strBin, unD, extractD, lit1, lit2, lit3, keptD, boxR, D.one, D.pub1, D.cells, splice, cutOwn]
  refine pwp_loopG (fun k env s => k ≤ l.length ∧ (∀ j (h : j < l.length), j < k → begW l[j] w = false) ∧ s = σ ∧ env 7 = .int .i64 (k:Nat) ∧ env 0 = encLL l ∧ env 1 = encSS w ∧ env 2 = .int .i64 (0 : Nat)) (fun k => l.length - k) 0 ?_ ?_
  · simp only [upd_apply, envOf_apply, encLL, Nat.reduceEqDiff, if_true, if_false]
    exact ⟨Nat.zero_le _, fun j h hj => absurd hj (Nat.not_lt_zero _), (by first | trivial | rfl | omega), (by first | trivial | rfl | omega), (by first | trivial | rfl | omega), (by first | trivial | rfl | omega), (by first | trivial | rfl | omega)⟩
  · rintro k env s ⟨hk, hp, rfl, h7, h0, h1, h2⟩
    rcases Nat.lt_or_ge k l.length with hlt | hge
    · have hx : l[k]? = some l[k] := List.getElem?_eq_getElem hlt
      have hmem := List.getElem_mem hlt
      have hstep : begW l[k] w = false → ∀ j (h : j < l.length), j < k + 1 → begW l[j] w = false := fun h j hj hjk => by
        rcases Nat.lt_succ_iff_lt_or_eq.1 hjk with h5 | rfl
        · exact hp j hj h5
        · exact h
      have hB := refBegins_c l[k] w
      have hC := refBegins_c w l[k]
      have hpre := begunF_pre hmem (r := w)
      have hend : ∀ c : Bool, begW l[k] w = true → begunF l 0 w = true := fun _ h => by
        rw [hd, List.any_eq_true.2 ⟨l[k], hmem, h⟩]; rfl
      generalize l[k] = x at *
      unfold encLL at h0
      simp -dsimp only [h7, h0, h1, h2, encLL, hlt, hx, ↓preB, postB, genB, ↓reduceIte, Nat.reduceEqDiff, Int.reduceToNat, Int.reduceLE, Int.reduceLT, Nat.reduceAdd, Nat.reduceLeDiff, intBin, strBin, unD, extractD, lit1, lit2, lit3, keptD, boxR, D.one, D.pub1, D.cells, splice, cutOwn]
      intro hbig
      refine ⟨by omega, Fn.use hB ?_⟩
      cases b1 : begW x w
      case true =>
        simp -dsimp only [h7, h0, h1, h2, b1, encLL, hlt, hx, ↓preB, postB, genB, ↓reduceIte, Nat.reduceEqDiff, Int.reduceToNat, Int.reduceLE, Int.reduceLT, Nat.reduceAdd, Nat.reduceLeDiff, intBin, strBin, unD, extractD, lit1, lit2, lit3, keptD, boxR, D.one, D.pub1, D.cells, splice, cutOwn]
        exact Ret.is (by rw [hpre b1])
      by_cases l1 : 0 < x.length
      case neg =>
        have l1' : ¬ (0 : Int) < x.length := by omega
        simp -dsimp only [h7, h0, h1, h2, b1, l1', encLL, encSS, hlt, hx, gate, bTTr, bTFr, bFTr, bFFr, decide_false, ↓preB, postB, genB, ↓reduceIte, Nat.reduceEqDiff, Int.reduceToNat, Int.reduceLE, Int.reduceLT, Nat.reduceAdd, Nat.reduceLeDiff, intBin, strBin, unD, extractD, lit1, lit2, lit3, keptD, boxR, D.one, D.pub1, D.cells, splice, cutOwn]
        refine ⟨by omega, ?_⟩
        intros
        exact ⟨k + 1, ⟨by omega, hstep (by simp [b1, l1]), wrap64_succ (by omega)⟩, by omega⟩
      have l1' : (0 : Int) < x.length := by omega
      have hC' := hC
      unfold encSS at hC'
      simp -dsimp only [h7, h0, h1, h2, b1, l1', encLL, encSS, hlt, hx, gate, bTTr, bTFr, bFTr, bFFr, decide_true, ↓preB, postB, genB, ↓reduceIte, Nat.reduceEqDiff, Int.reduceToNat, Int.reduceLE, Int.reduceLT, Nat.reduceAdd, Nat.reduceLeDiff, intBin, strBin, unD, extractD, lit1, lit2, lit3, keptD, boxR, D.one, D.pub1, D.cells, splice, cutOwn]
      refine ⟨by omega, ?_⟩
      intros
      refine ⟨by omega, Fn.use hC' ?_⟩
      cases b2 : begW w x
      case false =>
        simp -dsimp only [h7, h0, h1, h2, b1, b2, l1', encLL, hlt, hx, gate, bTTr, bTFr, bFTr, bFFr, decide_true, decide_false, encSS, ↓preB, postB, genB, ↓reduceIte, Nat.reduceEqDiff, Int.reduceToNat, Int.reduceLE, Int.reduceLT, Nat.reduceAdd, Nat.reduceLeDiff, intBin, strBin, unD, extractD, lit1, lit2, lit3, keptD, boxR, D.one, D.pub1, D.cells, splice, cutOwn]
        exact ⟨k + 1, ⟨by omega, hstep (by simp [b1, b2]), wrap64_succ (by omega)⟩, by omega⟩
      have d0 : ¬ (0 : Int) < ((0 : Nat) : Int) := by decide
      simp -dsimp only [h7, h0, h1, h2, b1, b2, l1', encLL, hlt, hx, gate, bTTr, bTFr, bFTr, bFFr, decide_true, decide_false, d0, encSS, ↓preB, postB, genB, ↓reduceIte, Nat.reduceEqDiff, Int.reduceToNat, Int.reduceLE, Int.reduceLT, Nat.reduceAdd, Nat.reduceLeDiff, intBin, strBin, unD, extractD, lit1, lit2, lit3, keptD, boxR, D.one, D.pub1, D.cells, splice, cutOwn]
      exact ⟨k + 1, ⟨by omega, hstep (by simp [b1]), wrap64_succ (by omega)⟩, by omega⟩
    · have hn : ¬ (k : Int) < l.length := by omega
      have hend2 : l.any (fun x => begW x w) = false := by
        rw [List.any_eq_false]
        intro x hx
        obtain ⟨j, hj, rfl⟩ := List.getElem_of_mem hx
        rw [hp j hj (by omega)]; simp
      unfold encLL at h0
      simp -dsimp only [h7, h0, h1, h2, hn, encLL, encSS, ↓preB, postB, genB, ↓reduceIte, Nat.reduceEqDiff, Int.reduceToNat, Int.reduceLE, Int.reduceLT, Nat.reduceAdd, Nat.reduceLeDiff, intBin, strBin, unD, extractD, lit1, lit2, lit3, keptD, boxR, D.one, D.pub1, D.cells, splice, cutOwn]
      intros
      exact Ret.is (by rw [hd, hend2, Bool.false_or]; congr 1; rw [Bool.eq_iff_iff, beq_iff_eq, beq_iff_eq]; omega)
theorem isBegun_s (l : List Wd) (d : Nat) (hdl : d ≤ 1000) (ih : ∀ w : Wd, Fn Zs 66 [encLL l, encSS w, .int .i64 (d : Nat)] (.bool (begunF l d w))) (w : Wd) : Fn Zs 66 [encLL l, encSS w, .int .i64 ((d + 1 : Nat) : Int)] (.bool (begunF l (d + 1) w)) := by
  have hd : begunF l (d + 1) w = (l.any (fun x => begW x w || (decide (0 < x.length) && (begW w x && begunF l d (w.drop x.length)))) || (w.length == 0)) := rfl
  refine fn_of (Z := Zs) ok66 fun σ hcl hbl => ?_
  simp -dsimp only [L66, encLL, ↓preB, postB, genB, ↓reduceIte, Nat.reduceEqDiff, Int.reduceToNat, Int.reduceLE, Int.reduceLT, Nat.reduceAdd, Nat.reduceLeDiff, intBin, strBin, unD, extractD, lit1, lit2, lit3, keptD, boxR, D.one, D.pub1, D.cells, splice, cutOwn]
  refine pwp_loopG (fun k env s => k ≤ l.length ∧ (∀ j (h : j < l.length), j < k → (begW l[j] w || (decide (0 < l[j].length) && (begW w l[j] && begunF l d (w.drop l[j].length)))) = false) ∧ s = σ ∧ env 7 = .int .i64 (k:Nat) ∧ env 0 = encLL l ∧ env 1 = encSS w ∧ env 2 = .int .i64 (d + 1 : Nat)) (fun k => l.length - k) 0 ?_ ?_
  · simp only [upd_apply, envOf_apply, encLL, Nat.reduceEqDiff, if_true, if_false]
    exact ⟨Nat.zero_le _, fun j h hj => absurd hj (Nat.not_lt_zero _), (by first | trivial | rfl | omega), (by first | trivial | rfl | omega), (by first | trivial | rfl | omega), (by first | trivial | rfl | omega), (by first | trivial | rfl | omega)⟩
  · rintro k env s ⟨hk, hp, rfl, h7, h0, h1, h2⟩
    rcases Nat.lt_or_ge k l.length with hlt | hge
    · have hx : l[k]? = some l[k] := List.getElem?_eq_getElem hlt
      have hmem := List.getElem_mem hlt
      have hstep : (begW l[k] w || (decide (0 < l[k].length) && (begW w l[k] && begunF l d (w.drop l[k].length)))) = false → ∀ j (h : j < l.length), j < k + 1 → (begW l[j] w || (decide (0 < l[j].length) && (begW w l[j] && begunF l d (w.drop l[j].length)))) = false := fun h j hj hjk => by
        rcases Nat.lt_succ_iff_lt_or_eq.1 hjk with h5 | rfl
        · exact hp j hj h5
        · exact h
      have hB := refBegins_c l[k] w
      have hC := refBegins_c w l[k]
      have hpre := begunF_pre hmem (r := w)
      have hend : ∀ c : Bool, (begW l[k] w || (decide (0 < l[k].length) && (begW w l[k] && begunF l d (w.drop l[k].length)))) = true → begunF l (d + 1) w = true := fun _ h => by
        rw [hd, List.any_eq_true.2 ⟨l[k], hmem, h⟩]; rfl
      generalize l[k] = x at *
      unfold encLL at h0
      simp -dsimp only [h7, h0, h1, h2, encLL, hlt, hx, ↓preB, postB, genB, ↓reduceIte, Nat.reduceEqDiff, Int.reduceToNat, Int.reduceLE, Int.reduceLT, Nat.reduceAdd, Nat.reduceLeDiff, intBin, strBin, unD, extractD, lit1, lit2, lit3, keptD, boxR, D.one, D.pub1, D.cells, splice, cutOwn]
      intro hbig
      refine ⟨by omega, Fn.use hB ?_⟩
      cases b1 : begW x w
      case true =>
        simp -dsimp only [h7, h0, h1, h2, b1, encLL, hlt, hx, ↓preB, postB, genB, ↓reduceIte, Nat.reduceEqDiff, Int.reduceToNat, Int.reduceLE, Int.reduceLT, Nat.reduceAdd, Nat.reduceLeDiff, intBin, strBin, unD, extractD, lit1, lit2, lit3, keptD, boxR, D.one, D.pub1, D.cells, splice, cutOwn]
        exact Ret.is (by rw [hpre b1])
      by_cases l1 : 0 < x.length
      case neg =>
        have l1' : ¬ (0 : Int) < x.length := by omega
        simp -dsimp only [h7, h0, h1, h2, b1, l1', encLL, encSS, hlt, hx, gate, bTTr, bTFr, bFTr, bFFr, decide_false, ↓preB, postB, genB, ↓reduceIte, Nat.reduceEqDiff, Int.reduceToNat, Int.reduceLE, Int.reduceLT, Nat.reduceAdd, Nat.reduceLeDiff, intBin, strBin, unD, extractD, lit1, lit2, lit3, keptD, boxR, D.one, D.pub1, D.cells, splice, cutOwn]
        refine ⟨by omega, ?_⟩
        intros
        exact ⟨k + 1, ⟨by omega, hstep (by simp [b1, l1]), wrap64_succ (by omega)⟩, by omega⟩
      have l1' : (0 : Int) < x.length := by omega
      have hC' := hC
      unfold encSS at hC'
      simp -dsimp only [h7, h0, h1, h2, b1, l1', encLL, encSS, hlt, hx, gate, bTTr, bTFr, bFTr, bFFr, decide_true, ↓preB, postB, genB, ↓reduceIte, Nat.reduceEqDiff, Int.reduceToNat, Int.reduceLE, Int.reduceLT, Nat.reduceAdd, Nat.reduceLeDiff, intBin, strBin, unD, extractD, lit1, lit2, lit3, keptD, boxR, D.one, D.pub1, D.cells, splice, cutOwn]
      refine ⟨by omega, ?_⟩
      intros
      refine ⟨by omega, Fn.use hC' ?_⟩
      cases b2 : begW w x
      case false =>
        simp -dsimp only [h7, h0, h1, h2, b1, b2, l1', encLL, hlt, hx, gate, bTTr, bTFr, bFTr, bFFr, decide_true, decide_false, encSS, ↓preB, postB, genB, ↓reduceIte, Nat.reduceEqDiff, Int.reduceToNat, Int.reduceLE, Int.reduceLT, Nat.reduceAdd, Nat.reduceLeDiff, intBin, strBin, unD, extractD, lit1, lit2, lit3, keptD, boxR, D.one, D.pub1, D.cells, splice, cutOwn]
        exact ⟨k + 1, ⟨by omega, hstep (by simp [b1, b2]), wrap64_succ (by omega)⟩, by omega⟩
      have d0 : (0 : Int) < ((d + 1 : Nat) : Int) := by omega
      have wd : IntKind.i64.wrap (((d + 1 : Nat) : Int) - 1) = ((d : Nat) : Int) := by rw [wrap64_in (by omega) (by omega)]; omega
      simp -dsimp only [h7, h0, h1, h2, b1, b2, l1', encLL, hlt, hx, gate, bTTr, bTFr, bFTr, bFFr, decide_true, decide_false, d0, wd, encSS, ↓preB, postB, genB, ↓reduceIte, Nat.reduceEqDiff, Int.reduceToNat, Int.reduceLE, Int.reduceLT, Nat.reduceAdd, Nat.reduceLeDiff, intBin, strBin, unD, extractD, lit1, lit2, lit3, keptD, boxR, D.one, D.pub1, D.cells, splice, cutOwn]
      obtain ⟨u, hu⟩ := begW_pre.1 b2
      have hle : x.length ≤ w.length := by rw [hu, List.length_append]; omega
      have hI := ih (w.drop x.length)
      rw [← encSS_drop w x.length hle] at hI
      unfold encLL at hI
      refine ⟨by omega, fun _ => ⟨⟨by omega, by omega⟩, Fn.use hI ?_⟩⟩
      cases b3 : begunF l d (w.drop x.length)
      · simp -dsimp only [h7, h0, h1, h2, b1, b2, b3, l1', encLL, hlt, hx, gate, bTTr, bTFr, bFTr, bFFr, decide_true, decide_false, d0, wd, encSS, ↓preB, postB, genB, ↓reduceIte, Nat.reduceEqDiff, Int.reduceToNat, Int.reduceLE, Int.reduceLT, Nat.reduceAdd, Nat.reduceLeDiff, intBin, strBin, unD, extractD, lit1, lit2, lit3, keptD, boxR, D.one, D.pub1, D.cells, splice, cutOwn]
        exact ⟨k + 1, ⟨by omega, hstep (by simp [b1, b3]), wrap64_succ (by omega)⟩, by omega⟩
      · simp -dsimp only [h7, h0, h1, h2, b1, b2, b3, l1', encLL, hlt, hx, gate, bTTr, bTFr, bFTr, bFFr, decide_true, decide_false, d0, wd, encSS, ↓preB, postB, genB, ↓reduceIte, Nat.reduceEqDiff, Int.reduceToNat, Int.reduceLE, Int.reduceLT, Nat.reduceAdd, Nat.reduceLeDiff, intBin, strBin, unD, extractD, lit1, lit2, lit3, keptD, boxR, D.one, D.pub1, D.cells, splice, cutOwn]
        exact Ret.is (by rw [hend true (by simp [l1, b2, b3])])
    · have hn : ¬ (k : Int) < l.length := by omega
      have hend2 : l.any (fun x => begW x w || (decide (0 < x.length) && (begW w x && begunF l d (w.drop x.length)))) = false := by
        rw [List.any_eq_false]
        intro x hx
        obtain ⟨j, hj, rfl⟩ := List.getElem_of_mem hx
        rw [hp j hj (by omega)]; simp
      unfold encLL at h0
      simp -dsimp only [h7, h0, h1, h2, hn, encLL, encSS, ↓preB, postB, genB, ↓reduceIte, Nat.reduceEqDiff, Int.reduceToNat, Int.reduceLE, Int.reduceLT, Nat.reduceAdd, Nat.reduceLeDiff, intBin, strBin, unD, extractD, lit1, lit2, lit3, keptD, boxR, D.one, D.pub1, D.cells, splice, cutOwn]
      intros
      exact Ret.is (by rw [hd, hend2, Bool.false_or]; congr 1; rw [Bool.eq_iff_iff, beq_iff_eq, beq_iff_eq]; omega)
theorem isBegun_c (l : List Wd) : ∀ (d : Nat), d ≤ 1000 → ∀ w : Wd, Fn Zs 66 [encLL l, encSS w, .int .i64 (d : Nat)] (.bool (begunF l d w))
  | 0, _, w => isBegun_z l w
  | d + 1, h, w => isBegun_s l d (by omega) (isBegun_c l d (by omega)) w
def pairOK (l : List Wd) (a b : Wd) : Prop := a.length < b.length → begW b a = true → begunF l b.length (b.drop a.length) = false
/-- What stands against a table that is turned round: looked at so far. -/
def seenOK (l : List Wd) (i k : Nat) : Prop := ∀ (i' : Nat) (hi : i' < l.length), (i' < i → l[i'] ≠ []) ∧ ∀ (k' : Nat) (hk : k' < l.length), (i' < i ∨ (i' = i ∧ k' < k)) → (k' ≠ i' → l[i'] ≠ l[k']) ∧ pairOK l l[i'] l[k']
theorem seenOK_all {l : List Wd} : (∃ k, seenOK l l.length k) ↔ OkL l := by
  constructor
  · rintro ⟨k, h⟩
    refine ⟨fun a ha => ?_, ?_, fun a ha b hb => ?_⟩
    · obtain ⟨i, hi, rfl⟩ := List.getElem_of_mem ha
      exact (h i hi).1 hi
    · exact List.pairwise_iff_getElem.2 fun i j hi hj hij => ((h i hi).2 j hj (.inl hi)).1 (by omega)
    · obtain ⟨i, hi, rfl⟩ := List.getElem_of_mem ha
      obtain ⟨j, hj, rfl⟩ := List.getElem_of_mem hb
      exact ((h i hi).2 j hj (.inl hi)).2
  · intro h
    refine ⟨0, fun i hi => ⟨fun _ => h.ne _ (List.getElem_mem hi), fun k hk _ => ⟨fun hne e => ?_, h.no _ (List.getElem_mem hi) _ (List.getElem_mem hk)⟩⟩⟩
    have hp := List.pairwise_iff_getElem.1 h.nd
    rcases Nat.lt_or_gt_of_ne hne with h1 | h1
    · exact hp k i hk hi h1 e.symm
    · exact hp i k hi hk h1 e
theorem seenOK_zero (l : List Wd) : seenOK l 0 0 := fun i hi => ⟨fun h => absurd h (Nat.not_lt_zero _), fun k hk h => by omega⟩
theorem seenOK_row {l : List Wd} {i : Nat} (h : seenOK l i l.length) (hi : i < l.length) (hne : l[i] ≠ []) : seenOK l (i + 1) 0 := fun i' hi' => ⟨fun h1 => by
    rcases Nat.lt_succ_iff_lt_or_eq.1 h1 with h2 | rfl
    · exact (h i' hi').1 h2
    · exact hne, fun k' hk' h1 => (h i' hi').2 k' hk' (by omega)⟩
theorem seenOK_next {l : List Wd} {i k : Nat} (h : seenOK l i k) (hi : i < l.length) (hk : k < l.length) (h1 : k ≠ i → l[i] ≠ l[k]) (h2 : pairOK l l[i] l[k]) : seenOK l i (k + 1) := fun i' hi' => ⟨(h i' hi').1, fun k' hk' h3 => by
  by_cases c : i' < i ∨ (i' = i ∧ k' < k)
  · exact (h i' hi').2 k' hk' c
  · have e1 : i' = i := by omega
    have e2 : k' = k := by omega
    subst e1; subst e2
    exact ⟨h1, h2⟩⟩
open Classical in
/-- What the reference answers. -/
noncomputable def refRev (t : List Sh) : List Sh × Bool × Int := if planE t ≠ 0 then ([], false, planE t) else if OkL (t.map (·.To)) then (srtT (rev t), true, 0) else ([], false, 0)
theorem refRev_err {t : List Sh} (h : planE t ≠ 0) : refRev t = ([], false, planE t) := by unfold refRev; rw [if_pos h]
theorem refRev_no {t : List Sh} (h : planE t = 0) (k : ¬ OkL (t.map (·.To))) : refRev t = ([], false, 0) := by unfold refRev; rw [if_neg (by simpa using h), if_neg k]
theorem refRev_yes {t : List Sh} (h : planE t = 0) (k : OkL (t.map (·.To))) : refRev t = (srtT (rev t), true, 0) := by unfold refRev; rw [if_neg (by simpa using h), if_pos k]
end Go.Proofs.YtldlcejlfaogbaaGreatDoor.Vs

/- numbers of YtldlcejlfaogbaaDoor -/
namespace Go.Proofs.YtldlcejlfaogbaaGreatDoor.Vs
set_option linter.unusedVariables false
set_option linter.unusedSimpArgs false
set_option maxRecDepth 20000
/-- A row of one symbol is taken at it. -/
theorem plain_step {t : List Sh} (ht : badT t = 0) (hpl : plainT t = true) {r : Sh} (hr : r ∈ t) (v : Wd) : stepTo t (r.From ++ v) = r.To ∧ stepN t (r.From ++ v) = r.From.length ∧ 0 ≤ optI (fitW t (r.From ++ v)) := by
  have hf := fitW_fits t (r.From ++ v)
  obtain ⟨i, hi, hri⟩ := List.getElem_of_mem hr
  have hb : begW (r.From ++ v) r.From = true := begW_pre.2 ⟨v, rfl⟩
  cases hk : fitW t (r.From ++ v) with
  | none =>
    rw [hk] at hf
    have := hf i r (by omega) (by rw [List.getElem?_eq_getElem hi, hri])
    rw [hb] at this; cases this
  | some k =>
    rw [hk] at hf
    obtain ⟨hkl, r', h2, h3, _⟩ := hf
    have hr' := List.mem_of_getElem? h2
    obtain ⟨u, hu⟩ := begW_pre.1 h3
    have l1 := plain_one hpl r hr
    have l2 := plain_one hpl r' hr'
    have e : r.From = r'.From := by
      have := congrArg (List.take 1) hu
      rwa [List.take_append_of_le_length (by omega), List.take_append_of_le_length (by omega), List.take_of_length_le (by omega), List.take_of_length_le (by omega)] at this
    have hrr : r = r' := from_inj ht hr hr' e
    subst hrr
    exact ⟨by simp [stepTo, hk, h2], by simp [stepN, hk, h2], by simp [optI]⟩
theorem okNs_cons {l : List Wd} {n : Int} {ns : List Int} (h : okNs l (n :: ns)) : 0 ≤ n ∧ n < l.length ∧ okNs l ns := ⟨(h n List.mem_cons_self).1, (h n List.mem_cons_self).2, fun m hm => h m (List.mem_cons_of_mem _ hm)⟩
theorem symsT_cons {t : List Sh} {k : Nat} {ns : List Int} (h : k < t.length) : symsT t ((k : Int) :: ns) = t[k].From ++ symsT t ns := by
  unfold symsT
  rw [List.flatMap_cons, Int.toNat_natCast, List.getElem?_eq_getElem h]; rfl
theorem joinW_cons {t : List Sh} {k : Nat} {ns : List Int} (h : k < t.length) : joinW (t.map (·.To)) ((k : Int) :: ns) = t[k].To ++ joinW (t.map (·.To)) ns := by
  unfold joinW
  rw [List.flatMap_cons, Int.toNat_natCast, List.getElem?_map, List.getElem?_eq_getElem h]; rfl
theorem shift_syms {t : List Sh} (ht : badT t = 0) (hpl : plainT t = true) : ∀ ns : List Int, okNs (t.map (·.To)) ns → shiftW t (symsT t ns) = (joinW (t.map (·.To)) ns, true)
  | [], _ => rfl
  | n :: ns, h => by
    obtain ⟨h1, h2, h3⟩ := okNs_cons h
    rw [List.length_map] at h2
    obtain ⟨k, rfl⟩ : ∃ k : Nat, n = (k : Int) := ⟨n.toNat, by omega⟩
    have hk : k < t.length := by omega
    have hr := List.getElem_mem hk
    obtain ⟨e1, e2, e3⟩ := plain_step ht hpl hr (symsT t ns)
    have hne : t[k].From ++ symsT t ns ≠ [] := fun e => (table_ok ht).1 _ hr (List.append_eq_nil_iff.1 e).1
    rw [symsT_cons hk, joinW_cons hk, shiftW_go (table_ok ht).1 hne, e1, e2, List.drop_left, shift_syms ht hpl ns h3, decide_eq_true e3]
    rfl
theorem symsT_len {t : List Sh} (hpl : plainT t = true) : ∀ ns : List Int, okNs (t.map (·.To)) ns → (symsT t ns).length = ns.length
  | [], _ => rfl
  | n :: ns, h => by
    obtain ⟨h1, h2, h3⟩ := okNs_cons h
    rw [List.length_map] at h2
    obtain ⟨k, rfl⟩ : ∃ k : Nat, n = (k : Int) := ⟨n.toNat, by omega⟩
    have hk : k < t.length := by omega
    rw [symsT_cons hk, List.length_append, symsT_len hpl ns h3, plain_one hpl _ (List.getElem_mem hk), List.length_cons, Nat.add_comm]
theorem row_inj {t : List Sh} (ht : badT t = 0) {i j : Nat} (hi : i < t.length) (hj : j < t.length) (h : t[i].From = t[j].From) : i = j := by
  have hp := ordBad_pair (badT_zero ht).2.2
  rcases Nat.lt_trichotomy i j with hij | hij | hij
  · have := List.pairwise_iff_getElem.1 hp i j hi hj hij
    rw [h, ltW_irrefl] at this; cases this
  · exact hij
  · have := List.pairwise_iff_getElem.1 hp j i hj hi hij
    rw [← h, ltW_irrefl] at this; cases this
theorem symsT_inj {t : List Sh} (ht : badT t = 0) (hpl : plainT t = true) : ∀ a b : List Int, okNs (t.map (·.To)) a → okNs (t.map (·.To)) b → symsT t a = symsT t b → a = b
  | [], b, ha, hb, h => by
    have h1 := symsT_len hpl b hb
    rw [← h] at h1
    exact (List.eq_nil_of_length_eq_zero h1.symm).symm
  | n :: a, [], ha, hb, h => by
    have h1 := symsT_len hpl _ ha
    rw [h] at h1
    exact List.eq_nil_of_length_eq_zero h1.symm
  | n :: a, m :: b, ha, hb, h => by
    obtain ⟨h1, h2, h3⟩ := okNs_cons ha
    obtain ⟨g1, g2, g3⟩ := okNs_cons hb
    rw [List.length_map] at h2 g2
    obtain ⟨k, rfl⟩ : ∃ k : Nat, n = (k : Int) := ⟨n.toNat, by omega⟩
    obtain ⟨j, rfl⟩ : ∃ j : Nat, m = (j : Int) := ⟨m.toNat, by omega⟩
    have hk : k < t.length := by omega
    have hj : j < t.length := by omega
    rw [symsT_cons hk, symsT_cons hj] at h
    have l1 := plain_one hpl _ (List.getElem_mem hk)
    have l2 := plain_one hpl _ (List.getElem_mem hj)
    obtain ⟨e1, e2⟩ := List.append_inj h (by omega)
    rw [symsT_inj ht hpl a b h3 g3 e2, row_inj ht hk hj e1]
theorem spec_none {l : List Wd} {n : Int} (h : SpecC l none) (k : SpecS l n) : n = -1 := by
  unfold SpecC at h
  unfold SpecS at k
  cases hf : l.findIdx? noneIn with
  | some i => rw [hf] at h; simp only at h; cases h
  | none =>
    rw [hf] at h
    simp only at h
    have hna : l.any noneIn = false := by
      rw [List.any_eq_false]
      intro w hw
      simpa using List.findIdx?_eq_none_iff.1 hf w hw
    rw [hna] at k
    simp only [Bool.false_eq_true, if_false] at k
    rcases k with ⟨m, _, h1, _⟩ | ⟨h1, _⟩
    · exact absurd h1 (h m)
    · exact h1
theorem spec_some {l : List Wd} {n : Int} {x y : List Int} (h : SpecC l (some (x, y))) (k : SpecS l n) : x ≠ y ∧ okNs l x ∧ okNs l y ∧ joinW l x = joinW l y ∧ n = ((joinW l x).length : Nat) ∧ x.length ≤ 10000 ∧ y.length ≤ 10000 := by
  unfold SpecC at h
  unfold SpecS at k
  cases hf : l.findIdx? noneIn with
  | some i =>
    rw [hf] at h
    simp only at h
    cases h
    obtain ⟨hkl, hkn, _⟩ := List.findIdx?_eq_some_iff_getElem.1 hf
    have hany : l.any noneIn = true := List.any_eq_true.2 ⟨_, List.getElem_mem hkl, hkn⟩
    rw [hany] at k
    simp only [if_true] at k
    have hlk : l[i] = [] := by
      have : l[i].length = 0 := by simpa [noneIn] using hkn
      exact List.eq_nil_of_length_eq_zero this
    refine ⟨by simp, fun m hm => absurd hm (by simp), fun m hm => by rw [List.mem_singleton] at hm; omega, ?_, ?_, by simp, by simp⟩
    · rw [joinW_one hkl, hlk]; rfl
    · rw [k]; rfl
  | none =>
    rw [hf] at h
    simp only at h
    have hna : l.any noneIn = false := by
      rw [List.any_eq_false]
      intro w hw
      simpa using List.findIdx?_eq_none_iff.1 hf w hw
    rw [hna] at k
    simp only [Bool.false_eq_true, if_false] at k
    obtain ⟨s1, s2, s3, s4, s5, s6, s7, s8⟩ := h
    refine ⟨s1, s2, s3, s4, ?_, s7, s8⟩
    rcases k with ⟨m, h1, h2, h3⟩ | ⟨_, h1⟩
    · have := h3 _ s5
      have := s6 _ h2
      omega
    · exact absurd s5 (h1 _)
end Go.Proofs.YtldlcejlfaogbaaGreatDoor.Vs

/- numbers of YtldlcejlfaogbaaGreatDoor -/
namespace Go.Proofs.YtldlcejlfaogbaaGreatDoor.Vs
set_option linter.unusedVariables false
set_option linter.unusedSimpArgs false
set_option maxRecDepth 20000
set_option maxHeartbeats 2000000 in
theorem refReverse_c (t : List Sh) : Fn Zs 23 [encT t] (encJ (refRev t)) := by
  have rErr := refRev_err (t := t)
  have rNo := refRev_no (t := t)
  have rYes := refRev_yes (t := t)
  generalize refRev t = R at *
  refine fn_of (Z := Zs) ok23 fun σ hcl hbl => ?_
  simp -dsimp only [L23, encT, ↓preB, postB, genB, ↓reduceIte, Nat.reduceEqDiff, Int.reduceToNat, Int.reduceLE, Int.reduceLT, Nat.reduceAdd, Nat.reduceLeDiff, intBin, strBin, unD, extractD, lit1, lit2, lit3, keptD, boxR, D.one, D.pub1, D.cells, splice, cutOwn]
  have bad : ∀ (e : Int) (s : Heap), HLe σ s → R = ([], false, e) → Ret σ (fun d τ => d = encJ R ∧ τ = σ) (.tup [.sl .nil 0 [], .bool false, .int .i64 e]) s := fun e s hle h => by
    rw [h]
    exact Ret.less hle hcl (.tup3 told_nilT (.refl _) (.refl _)) (bel_encJ ([], false, e))
  have hPl := refPlain_c t
  unfold encT at hPl
  refine Fn.use hPl ?_
  cases ce : (planE t != 0)
  case true =>
    simp -dsimp only [ce, ↓preB, postB, genB, ↓reduceIte, Nat.reduceEqDiff, Int.reduceToNat, Int.reduceLE, Int.reduceLT, Nat.reduceAdd, Nat.reduceLeDiff, intBin, strBin, unD, extractD, lit1, lit2, lit3, keptD, boxR, D.one, D.pub1, D.cells, splice, cutOwn]
    exact bad _ _ (HLe.refl _) (rErr (by simpa using ce))
  have hp0 : planE t = 0 := by simpa using ce
  obtain ⟨ht, hk, hpl, h8⟩ := refPlain_tos t hp0
  replace rNo := rNo hp0
  replace rYes := rYes hp0
  clear rErr
  obtain ⟨a1, a2⟩ := table_ok ht
  obtain ⟨a3, a4, _⟩ := badT_zero ht
  have a5 := firstE_zero a4
  have hT := tos_c t (by omega)
  unfold encT at hT
  simp -dsimp only [ce, ↓preB, postB, genB, ↓reduceIte, Nat.reduceEqDiff, Int.reduceToNat, Int.reduceLE, Int.reduceLT, Nat.reduceAdd, Nat.reduceLeDiff, intBin, strBin, unD, extractD, lit1, lit2, lit3, keptD, boxR, D.one, D.pub1, D.cells, splice, cutOwn]
  refine Fn.use hT ?_
  have hll : (t.map (·.To)).length ≤ 24 := by simpa using a3
  generalize hl : t.map (·.To) = l at *
  simp -dsimp only [encT, ↓preB, postB, genB, ↓reduceIte, Nat.reduceEqDiff, Int.reduceToNat, Int.reduceLE, Int.reduceLT, Nat.reduceAdd, Nat.reduceLeDiff, intBin, strBin, unD, extractD, lit1, lit2, lit3, keptD, boxR, D.one, D.pub1, D.cells, splice, cutOwn]
  refine pwp_loopJ 0 (fun e τ => τ = σ ∧ OkL l ∧ e 0 = encT t) (fun (i : Nat) env s => i ≤ l.length ∧ seenOK l i 0 ∧ s = σ ∧ env 7 = .int .i64 (i:Nat) ∧ env 6 = encLL l ∧ env 0 = encT t) (fun i => l.length - i) 0 ?_ ?_ ?_
  · simp only [upd_apply, envOf_apply, encT, Nat.reduceEqDiff, if_true, if_false]
    exact ⟨Nat.zero_le _, seenOK_zero l, (by first | trivial | rfl | omega), (by first | trivial | rfl | omega), (by first | trivial | rfl | omega), (by first | trivial | rfl | omega)⟩
  · rintro i env s ⟨hi, hseen, rfl, h7, h6, h0⟩
    rcases Nat.lt_or_ge i l.length with hlt | hge
    · have hx : l[i]? = some l[i] := List.getElem?_eq_getElem hlt
      have hn : (i : Int) < l.length := by omega
      unfold encLL at h6
      by_cases c0 : l[i].length = 0
      · have c0' : ((l[i].length : Int) == 0) = true := by rw [c0]; rfl
        simp -dsimp only [h7, h6, h0, hlt, hn, hx, c0', encSS, exitR_exit, exitR_ret, ↓preB, postB, genB, ↓reduceIte, Nat.reduceEqDiff, Int.reduceToNat, Int.reduceLE, Int.reduceLT, Nat.reduceAdd, Nat.reduceLeDiff, intBin, strBin, unD, extractD, lit1, lit2, lit3, keptD, boxR, D.one, D.pub1, D.cells, splice, cutOwn]
        intro _
        refine ⟨by omega, fun _ => ?_⟩
        exact bad 0 _ (HLe.refl _) (rNo fun ok => ok.ne _ (List.getElem_mem hlt) (List.eq_nil_of_length_eq_zero c0))
      · have c0' : ((l[i].length : Int) == 0) = false := by rw [beq_eq_false_iff_ne]; omega
        simp -dsimp only [h7, h6, h0, hlt, hn, hx, c0', encSS, exitR_exit, exitR_ret, ↓preB, postB, genB, ↓reduceIte, Nat.reduceEqDiff, Int.reduceToNat, Int.reduceLE, Int.reduceLT, Nat.reduceAdd, Nat.reduceLeDiff, intBin, strBin, unD, extractD, lit1, lit2, lit3, keptD, boxR, D.one, D.pub1, D.cells, splice, cutOwn]
        intro _
        refine ⟨by omega, fun _ => ?_⟩
        refine pwp_loopG (fun (k : Nat) e s' => k ≤ l.length ∧ seenOK l i k ∧ s' = s ∧ e 8 = .int .i64 (k:Nat) ∧ e 7 = .int .i64 (i:Nat) ∧ e 6 = .sl .no l.length (l.map encSS) ∧ e 0 = encT t) (fun k => l.length - k) 0 ?_ ?_
        · simp only [upd_apply, h7, h6, h0, Nat.reduceEqDiff, if_true, if_false]
          exact ⟨Nat.zero_le _, hseen, (by first | trivial | rfl | omega), (by first | trivial | rfl | omega), (by first | trivial | rfl | omega), (by first | trivial | rfl | omega), (by first | trivial | rfl | omega)⟩
        · rintro k e s' ⟨hk, hs, rfl, g8, g7, g6, g0⟩
          rcases Nat.lt_or_ge k l.length with hkl | hkg
          · have hxk : l[k]? = some l[k] := List.getElem?_eq_getElem hkl
            have kn : (k : Int) < l.length := by omega
            have wk : IntKind.i64.wrap ((k : Int) + 1) = ((k + 1 : Nat) : Int) := wrap64_succ (by simp only [big]; omega)
            by_cases ik : k = i
            · subst ik
              have e1 : ((k : Int) != (k : Int)) = false := by simp
              have c1 : ¬ ((l[k].length : Int) < (l[k].length : Int)) := by omega
              simp -dsimp only [e1, g8, g7, g6, g0, hlt, hx, kn, hxk, hkl, gate, bTTr, bTFr, bFTr, bFFr, decide_true, decide_false, exitR_exit, exitR_ret, ↓preB, postB, genB, ↓reduceIte, Nat.reduceEqDiff, Int.reduceToNat, Int.reduceLE, Int.reduceLT, Nat.reduceAdd, Nat.reduceLeDiff, intBin, strBin, unD, extractD, lit1, lit2, lit3, keptD, boxR, D.one, D.pub1, D.cells, splice, cutOwn]
              refine fun _ => draw_s ?_
              simp -dsimp only [e1, g8, g7, g6, g0, hlt, hx, kn, hxk, hkl, gate, bTTr, bTFr, bFTr, bFFr, decide_true, decide_false, exitR_exit, exitR_ret, ↓preB, postB, genB, ↓reduceIte, Nat.reduceEqDiff, Int.reduceToNat, Int.reduceLE, Int.reduceLT, Nat.reduceAdd, Nat.reduceLeDiff, intBin, strBin, unD, extractD, lit1, lit2, lit3, keptD, boxR, D.one, D.pub1, D.cells, splice, cutOwn]
              refine draw_s ?_
              simp -dsimp only [e1, g8, g7, g6, g0, hlt, hx, kn, hxk, hkl, gate, bTTr, bTFr, bFTr, bFFr, decide_true, decide_false, exitR_exit, exitR_ret, encSS, c1, wk, ↓preB, postB, genB, ↓reduceIte, Nat.reduceEqDiff, Int.reduceToNat, Int.reduceLE, Int.reduceLT, Nat.reduceAdd, Nat.reduceLeDiff, intBin, strBin, unD, extractD, lit1, lit2, lit3, keptD, boxR, D.one, D.pub1, D.cells, splice, cutOwn]
              exact ⟨by omega, by omega, k + 1, ⟨by omega, seenOK_next hs hlt hkl (fun h => absurd rfl h) (fun h => absurd h (Nat.lt_irrefl _)), rfl⟩, by omega⟩
            · have e1 : ((k : Int) != (i : Int)) = true := by rw [bne_iff_ne]; omega
              simp -dsimp only [e1, g8, g7, g6, g0, hlt, hx, kn, hxk, hkl, gate, bTTr, bTFr, bFTr, bFFr, decide_true, decide_false, exitR_exit, exitR_ret, ↓preB, postB, genB, ↓reduceIte, Nat.reduceEqDiff, Int.reduceToNat, Int.reduceLE, Int.reduceLT, Nat.reduceAdd, Nat.reduceLeDiff, intBin, strBin, unD, extractD, lit1, lit2, lit3, keptD, boxR, D.one, D.pub1, D.cells, splice, cutOwn]
              refine fun _ => draw_s ?_
              simp -dsimp only [e1, g8, g7, g6, g0, hlt, hx, kn, hxk, hkl, gate, bTTr, bTFr, bFTr, bFFr, decide_true, decide_false, exitR_exit, exitR_ret, ↓preB, postB, genB, ↓reduceIte, Nat.reduceEqDiff, Int.reduceToNat, Int.reduceLE, Int.reduceLT, Nat.reduceAdd, Nat.reduceLeDiff, intBin, strBin, unD, extractD, lit1, lit2, lit3, keptD, boxR, D.one, D.pub1, D.cells, splice, cutOwn]
              refine ⟨by omega, by omega, Fn.useS (Same_c l[i] l[k]) ?_⟩
              cases q1 : eqW l[i] l[k]
              case true =>
                simp -dsimp only [e1, g8, g7, g6, g0, hlt, hx, kn, hxk, hkl, gate, bTTr, bTFr, bFTr, bFFr, decide_true, decide_false, exitR_exit, exitR_ret, q1, ↓preB, postB, genB, ↓reduceIte, Nat.reduceEqDiff, Int.reduceToNat, Int.reduceLE, Int.reduceLT, Nat.reduceAdd, Nat.reduceLeDiff, intBin, strBin, unD, extractD, lit1, lit2, lit3, keptD, boxR, D.one, D.pub1, D.cells, splice, cutOwn]
                exact bad 0 _ (HLe.refl _) (rNo fun ok => by
                  have hp := List.pairwise_iff_getElem.1 ok.nd
                  have he := eqW_iff.1 q1
                  rcases Nat.lt_or_gt_of_ne ik with h1 | h1
                  · exact hp k i hkl hlt h1 he.symm
                  · exact hp i k hlt hkl h1 he)
              have hne : k ≠ i → l[i] ≠ l[k] := fun _ h => by rw [eqW_iff.2 h] at q1; cases q1
              simp -dsimp only [e1, g8, g7, g6, g0, hlt, hx, kn, hxk, hkl, gate, bTTr, bTFr, bFTr, bFFr, decide_true, decide_false, exitR_exit, exitR_ret, q1, ↓preB, postB, genB, ↓reduceIte, Nat.reduceEqDiff, Int.reduceToNat, Int.reduceLE, Int.reduceLT, Nat.reduceAdd, Nat.reduceLeDiff, intBin, strBin, unD, extractD, lit1, lit2, lit3, keptD, boxR, D.one, D.pub1, D.cells, splice, cutOwn]
              refine draw_s ?_
              have hB := refBegins_c l[k] l[i]
              unfold encSS at hB
              by_cases c1 : l[i].length < l[k].length
              case neg =>
                have c1' : ¬ ((l[i].length : Int) < (l[k].length : Int)) := by omega
                simp -dsimp only [e1, g8, g7, g6, g0, hlt, hx, kn, hxk, hkl, gate, bTTr, bTFr, bFTr, bFFr, decide_true, decide_false, exitR_exit, exitR_ret, q1, encSS, c1', wk, ↓preB, postB, genB, ↓reduceIte, Nat.reduceEqDiff, Int.reduceToNat, Int.reduceLE, Int.reduceLT, Nat.reduceAdd, Nat.reduceLeDiff, intBin, strBin, unD, extractD, lit1, lit2, lit3, keptD, boxR, D.one, D.pub1, D.cells, splice, cutOwn]
                exact ⟨by omega, by omega, k + 1, ⟨by omega, seenOK_next hs hlt hkl hne (fun h => absurd h c1), rfl⟩, by omega⟩
              have c1' : ((l[i].length : Int) < (l[k].length : Int)) := by omega
              simp -dsimp only [e1, g8, g7, g6, g0, hlt, hx, kn, hxk, hkl, gate, bTTr, bTFr, bFTr, bFFr, decide_true, decide_false, exitR_exit, exitR_ret, q1, encSS, c1', wk, ↓preB, postB, genB, ↓reduceIte, Nat.reduceEqDiff, Int.reduceToNat, Int.reduceLE, Int.reduceLT, Nat.reduceAdd, Nat.reduceLeDiff, intBin, strBin, unD, extractD, lit1, lit2, lit3, keptD, boxR, D.one, D.pub1, D.cells, splice, cutOwn]
              refine ⟨by omega, by omega, by omega, by omega, Fn.useS hB ?_⟩
              cases b2 : begW l[k] l[i]
              case false =>
                simp -dsimp only [e1, g8, g7, g6, g0, hlt, hx, kn, hxk, hkl, gate, bTTr, bTFr, bFTr, bFFr, decide_true, decide_false, exitR_exit, exitR_ret, q1, b2, encSS, c1', wk, ↓preB, postB, genB, ↓reduceIte, Nat.reduceEqDiff, Int.reduceToNat, Int.reduceLE, Int.reduceLT, Nat.reduceAdd, Nat.reduceLeDiff, intBin, strBin, unD, extractD, lit1, lit2, lit3, keptD, boxR, D.one, D.pub1, D.cells, splice, cutOwn]
                exact ⟨k + 1, ⟨by omega, seenOK_next hs hlt hkl hne (fun _ h => by rw [b2] at h; cases h), rfl⟩, by omega⟩
              have hI := isBegun_c l l[k].length (by have := h8 _ (List.getElem_mem hkl); omega) (l[k].drop l[i].length)
              rw [← encSS_drop l[k] l[i].length (by omega)] at hI
              unfold encLL at hI
              simp -dsimp only [e1, g8, g7, g6, g0, hlt, hx, kn, hxk, hkl, gate, bTTr, bTFr, bFTr, bFFr, decide_true, decide_false, exitR_exit, exitR_ret, q1, b2, encSS, c1', wk, ↓preB, postB, genB, ↓reduceIte, Nat.reduceEqDiff, Int.reduceToNat, Int.reduceLE, Int.reduceLT, Nat.reduceAdd, Nat.reduceLeDiff, intBin, strBin, unD, extractD, lit1, lit2, lit3, keptD, boxR, D.one, D.pub1, D.cells, splice, cutOwn]
              refine ⟨by omega, by omega, ⟨by omega, by omega⟩, by omega, Fn.useS hI ?_⟩
              cases b3 : begunF l l[k].length (l[k].drop l[i].length)
              case false =>
                simp -dsimp only [e1, g8, g7, g6, g0, hlt, hx, kn, hxk, hkl, gate, bTTr, bTFr, bFTr, bFFr, decide_true, decide_false, exitR_exit, exitR_ret, q1, b2, b3, encSS, c1', wk, ↓preB, postB, genB, ↓reduceIte, Nat.reduceEqDiff, Int.reduceToNat, Int.reduceLE, Int.reduceLT, Nat.reduceAdd, Nat.reduceLeDiff, intBin, strBin, unD, extractD, lit1, lit2, lit3, keptD, boxR, D.one, D.pub1, D.cells, splice, cutOwn]
                exact ⟨k + 1, ⟨by omega, seenOK_next hs hlt hkl hne (fun _ _ => b3), rfl⟩, by omega⟩
              simp -dsimp only [e1, g8, g7, g6, g0, hlt, hx, kn, hxk, hkl, gate, bTTr, bTFr, bFTr, bFFr, decide_true, decide_false, exitR_exit, exitR_ret, q1, b2, b3, encSS, c1', wk, ↓preB, postB, genB, ↓reduceIte, Nat.reduceEqDiff, Int.reduceToNat, Int.reduceLE, Int.reduceLT, Nat.reduceAdd, Nat.reduceLeDiff, intBin, strBin, unD, extractD, lit1, lit2, lit3, keptD, boxR, D.one, D.pub1, D.cells, splice, cutOwn]
              exact bad 0 _ (HLe.refl _) (rNo fun ok => by
                rw [ok.no _ (List.getElem_mem hlt) _ (List.getElem_mem hkl) c1 b2] at b3
                cases b3)
          · have kn : ¬ (k : Int) < l.length := by omega
            have wi : IntKind.i64.wrap ((i : Int) + 1) = ((i + 1 : Nat) : Int) := wrap64_succ (by simp only [big]; omega)
            simp -dsimp only [g8, g7, g6, g0, hlt, hx, kn, gate, bTTr, bTFr, bFTr, bFFr, decide_true, decide_false, exitR_exit, exitR_ret, wi, encLL, ↓preB, postB, genB, ↓reduceIte, Nat.reduceEqDiff, Int.reduceToNat, Int.reduceLE, Int.reduceLT, Nat.reduceAdd, Nat.reduceLeDiff, intBin, strBin, unD, extractD, lit1, lit2, lit3, keptD, boxR, D.one, D.pub1, D.cells, splice, cutOwn]
            intro _
            exact ⟨i + 1, ⟨by omega, seenOK_row (by rw [show l.length = k by omega]; exact hs) hlt (fun h => c0 (by rw [h]; rfl)), rfl⟩, by omega⟩
    · have hn : ¬ (i : Int) < l.length := by omega
      have hok : OkL l := seenOK_all.1 ⟨0, by rw [show l.length = i by omega]; exact hseen⟩
      unfold encLL at h6
      simp -dsimp only [h7, h6, h0, hn, exitR_exit, exitR_ret, ↓preB, postB, genB, ↓reduceIte, Nat.reduceEqDiff, Int.reduceToNat, Int.reduceLE, Int.reduceLT, Nat.reduceAdd, Nat.reduceLeDiff, intBin, strBin, unD, extractD, lit1, lit2, lit3, keptD, boxR, D.one, D.pub1, D.cells, splice, cutOwn]
      exact fun _ => hok
  · rintro e τ ⟨rfl, hok, h0⟩
    have hR := rYes hok
    clear bad rNo rYes hp0
    unfold encT at h0
    simp -dsimp only [h0, ↓preB, postB, genB, ↓reduceIte, Nat.reduceEqDiff, Int.reduceToNat, Int.reduceLE, Int.reduceLT, Nat.reduceAdd, Nat.reduceLeDiff, intBin, strBin, unD, extractD, lit1, lit2, lit3, keptD, boxR, D.one, D.pub1, D.cells, splice, cutOwn]
    refine pwp_loopG (fun k env s => k ≤ t.length ∧ Acc 67 2 τ k (rowsD (rev (t.take k))) (env 9) s ∧ env 10 = .int .i64 (k:Nat) ∧ env 0 = encT t) (fun k => t.length - k) 0 ?_ ?_
    · simp only [upd_apply, h0, encT, Nat.reduceEqDiff, if_true, if_false]
      exact ⟨Nat.zero_le _, Acc.nil (HLe.refl _), (by first | trivial | rfl | omega), (by first | trivial | rfl | omega)⟩
    · rintro k env s ⟨hkk, hA, h10, h0'⟩
      rcases Nat.lt_or_ge k t.length with hlt | hge
      · have hd := rowsD_at hlt
        have hpos : 0 < (rowsD t).length := by rw [rowsD_len]; omega
        have hak := List.getElem_mem hlt
        have htl := a2 _ hak
        have hfl : t[k].From.length ≤ 60 := badW_len (a5 _ hak).1
        have hjt := rev_take hlt
        have hrl : (rev (t.take k)).length = k := by simp [rev]; omega
        generalize t[k] = r at hd htl hfl hjt hak ⊢
        simp -dsimp only [h10, h0', encT, hlt, hd, hpos, ↓preB, postB, genB, ↓reduceIte, Nat.reduceEqDiff, Int.reduceToNat, Int.reduceLE, Int.reduceLT, Nat.reduceAdd, Nat.reduceLeDiff, intBin, strBin, unD, extractD, lit1, lit2, lit3, keptD, boxR, D.one, D.pub1, D.cells, splice, cutOwn]
        refine fun _ => draw_t 15 (by decide) ?_
        simp -dsimp only [h10, h0', encT, hlt, hd, hpos, List.take_succ_cons, List.take_zero, List.drop_succ_cons, List.drop_zero, ↓preB, postB, genB, ↓reduceIte, Nat.reduceEqDiff, Int.reduceToNat, Int.reduceLE, Int.reduceLT, Nat.reduceAdd, Nat.reduceLeDiff, intBin, strBin, unD, extractD, lit1, lit2, lit3, keptD, boxR, D.one, D.pub1, D.cells, splice, cutOwn]
        refine Fn.useSP (refJoinW_c r.To [] (by omega) (by simp)) (by rfl) ?_
        rw [List.append_nil]
        simp -dsimp only [h10, h0', encT, hlt, hd, hpos, ↓preB, postB, genB, ↓reduceIte, Nat.reduceEqDiff, Int.reduceToNat, Int.reduceLE, Int.reduceLT, Nat.reduceAdd, Nat.reduceLeDiff, intBin, strBin, unD, extractD, lit1, lit2, lit3, keptD, boxR, D.one, D.pub1, D.cells, splice, cutOwn]
        refine Fn.useSP (refJoinW_c r.From [] (by omega) (by simp)) (by rfl) ?_
        rw [List.append_nil]
        simp -dsimp only [h10, h0', encT, encSS, hlt, hd, hpos, ab46, bs22, ↓preB, postB, genB, ↓reduceIte, Nat.reduceEqDiff, Int.reduceToNat, Int.reduceLE, Int.reduceLT, Nat.reduceAdd, Nat.reduceLeDiff, intBin, strBin, unD, extractD, lit1, lit2, lit3, keptD, boxR, D.one, D.pub1, D.cells, splice, cutOwn]
        refine hA.append hcl tz22 rfl tz67 rfl rfl rfl (by decide) (by rw [rowsD_len, hrl]) (fedBy_sl (m := 1) tz22 rfl rfl) (by simp only []; omega) (by simp only [big]; omega) fun d2 s2 hA2 => ?_
        simp -dsimp only [h10, h0', encT, encSS, hlt, hd, hpos, ↓preB, postB, genB, ↓reduceIte, Nat.reduceEqDiff, Int.reduceToNat, Int.reduceLE, Int.reduceLT, Nat.reduceAdd, Nat.reduceLeDiff, intBin, strBin, unD, extractD, lit1, lit2, lit3, keptD, boxR, D.one, D.pub1, D.cells, splice, cutOwn]
        refine ⟨k + 1, ⟨by omega, ?_, wrap64_succ (by omega)⟩, by omega⟩
        rw [hjt, rowsD_append]; exact hA2
      · have hkl : k = t.length := by omega
        subst hkl
        rw [List.take_length] at hA
        simp -dsimp only [h10, h0', encT, Nat.lt_irrefl, ↓preB, postB, genB, ↓reduceIte, Nat.reduceEqDiff, Int.reduceToNat, Int.reduceLE, Int.reduceLT, Nat.reduceAdd, Nat.reduceLeDiff, intBin, strBin, unD, extractD, lit1, lit2, lit3, keptD, boxR, D.one, D.pub1, D.cells, splice, cutOwn]
        have hrl : (rev t).length = t.length := by simp [rev]
        have hS := sorted_c (rev t) (by omega)
        intro _
        refine Fn.useP hS (by simp [hA.pub1, encT, hrl]) ?_
        simp -dsimp only [h10, h0', encT, ↓preB, postB, genB, ↓reduceIte, Nat.reduceEqDiff, Int.reduceToNat, Int.reduceLE, Int.reduceLT, Nat.reduceAdd, Nat.reduceLeDiff, intBin, strBin, unD, extractD, lit1, lit2, lit3, keptD, boxR, D.one, D.pub1, D.cells, splice, cutOwn]
        exact Ret.isH hA.le hcl (by rw [hR]; rfl) (bel_encJ R)
end Go.Proofs.YtldlcejlfaogbaaGreatDoor.Vs

/- numbers of YtldlcejlfaogbaaGreatDoor -/
namespace Go.Proofs.YtldlcejlfaogbaaGreatDoor.Vs
set_option linter.unusedVariables false
set_option linter.unusedSimpArgs false
set_option maxRecDepth 20000
theorem Plain_c (t : List Sh) : Fn Zs 19 [encT t] (.tup [.bool (decide (badT t = 0) && plainT t), .int .i64 (badT t)]) := by
  refine fn_of (Z := Zs) ok19 fun σ hcl hbl => ?_
  simp -dsimp only [L19, ↓preB, postB, genB, ↓reduceIte, Nat.reduceEqDiff, Int.reduceToNat, Int.reduceLE, Int.reduceLT, Nat.reduceAdd, Nat.reduceLeDiff, intBin, strBin, unD, extractD, lit1, lit2, lit3, keptD, boxR, D.one, D.pub1, D.cells, splice, cutOwn]
  refine Fn.use (validate_c t) ?_
  cases ca : (badT t != 0)
  case true =>
    have c' : badT t ≠ 0 := by simpa using ca
    simp -dsimp only [ca, ↓preB, postB, genB, ↓reduceIte, Nat.reduceEqDiff, Int.reduceToNat, Int.reduceLE, Int.reduceLT, Nat.reduceAdd, Nat.reduceLeDiff, intBin, strBin, unD, extractD, lit1, lit2, lit3, keptD, boxR, D.one, D.pub1, D.cells, splice, cutOwn]
    exact Ret.is (by rw [decide_eq_false c']; rfl)
  have ht : badT t = 0 := by simpa using ca
  simp -dsimp only [ca, ↓preB, postB, genB, ↓reduceIte, Nat.reduceEqDiff, Int.reduceToNat, Int.reduceLE, Int.reduceLT, Nat.reduceAdd, Nat.reduceLeDiff, intBin, strBin, unD, extractD, lit1, lit2, lit3, keptD, boxR, D.one, D.pub1, D.cells, splice, cutOwn]
  refine Fn.use (plain_c t) ?_
  simp -dsimp only [ca, ↓preB, postB, genB, ↓reduceIte, Nat.reduceEqDiff, Int.reduceToNat, Int.reduceLE, Int.reduceLT, Nat.reduceAdd, Nat.reduceLeDiff, intBin, strBin, unD, extractD, lit1, lit2, lit3, keptD, boxR, D.one, D.pub1, D.cells, splice, cutOwn]
  exact Ret.is (by rw [ht]; rfl)
theorem refReversible_p (t : List Sh) {σ : Heap} : PCall Zs 26 [encT t] σ (fun d τ => τ = σ ∧ ∃ n e, d = .tup [.int .i64 n, .int .i64 e] ∧ ((planE t ≠ 0 ∧ n = 0 ∧ e = planE t) ∨ (planE t = 0 ∧ e = 0 ∧ SpecS (t.map (·.To)) n))) := by
  refine pcall_of (Z := Zs) ok26 fun hcl hbl => ?_
  simp -dsimp only [L26, ↓preB, postB, genB, ↓reduceIte, Nat.reduceEqDiff, Int.reduceToNat, Int.reduceLE, Int.reduceLT, Nat.reduceAdd, Nat.reduceLeDiff, intBin, strBin, unD, extractD, lit1, lit2, lit3, keptD, boxR, D.one, D.pub1, D.cells, splice, cutOwn]
  refine Fn.use (refPlain_c t) ?_
  cases ce : (planE t != 0)
  case true =>
    have c' : planE t ≠ 0 := by simpa using ce
    simp -dsimp only [ce, ↓preB, postB, genB, ↓reduceIte, Nat.reduceEqDiff, Int.reduceToNat, Int.reduceLE, Int.reduceLT, Nat.reduceAdd, Nat.reduceLeDiff, intBin, strBin, unD, extractD, lit1, lit2, lit3, keptD, boxR, D.one, D.pub1, D.cells, splice, cutOwn]
    exact Ret.now (Nat.le_refl _) ⟨rfl, _, _, rfl, .inl ⟨c', rfl, rfl⟩⟩
  have hp0 : planE t = 0 := by simpa using ce
  obtain ⟨ht, hk, hpl, h8⟩ := refPlain_tos t hp0
  have a3 := (badT_zero ht).1
  simp -dsimp only [ce, ↓preB, postB, genB, ↓reduceIte, Nat.reduceEqDiff, Int.reduceToNat, Int.reduceLE, Int.reduceLT, Nat.reduceAdd, Nat.reduceLeDiff, intBin, strBin, unD, extractD, lit1, lit2, lit3, keptD, boxR, D.one, D.pub1, D.cells, splice, cutOwn]
  refine Fn.use (tos_c t (by omega)) ?_
  simp -dsimp only [ce, ↓preB, postB, genB, ↓reduceIte, Nat.reduceEqDiff, Int.reduceToNat, Int.reduceLE, Int.reduceLT, Nat.reduceAdd, Nat.reduceLeDiff, intBin, strBin, unD, extractD, lit1, lit2, lit3, keptD, boxR, D.one, D.pub1, D.cells, splice, cutOwn]
  refine PCall.use (Shortest_c (t.map (·.To)) (by simpa using a3) h8 σ) ?_
  rintro d τ ⟨rfl, x, rfl, hS⟩
  simp -dsimp only [ce, ↓preB, postB, genB, ↓reduceIte, Nat.reduceEqDiff, Int.reduceToNat, Int.reduceLE, Int.reduceLT, Nat.reduceAdd, Nat.reduceLeDiff, intBin, strBin, unD, extractD, lit1, lit2, lit3, keptD, boxR, D.one, D.pub1, D.cells, splice, cutOwn]
  exact Ret.now (Nat.le_refl _) ⟨rfl, _, _, rfl, .inr ⟨hp0, rfl, hS⟩⟩
theorem planE_bad {t : List Sh} (h : badT t ≠ 0) : planE t = badT t := by unfold planE; rw [if_pos h]
theorem planE_ask {t : List Sh} (h : badT t = 0) : planE t = askE t := by unfold planE; rw [if_neg (by simpa using h)]
theorem rev_agree {t out : List Sh} {ok : Bool} {e : Int} (h : RevSpec2 t out ok e) : refRev t = (out, ok, e) := by
  rcases h with ⟨h1, rfl, rfl, rfl⟩ | ⟨h1, h2, rfl, rfl, rfl⟩ | ⟨h1, h2, rfl, o, hp, hs, h3⟩
  · rw [refRev_err (by rw [planE_bad h1]; exact h1), planE_bad h1]
  · rw [refRev_err (by rw [planE_ask h1]; exact h2), planE_ask h1]
  · have hp0 : planE t = 0 := by rw [planE_ask h1]; exact h2
    obtain ⟨_, _, hpl, _⟩ := refPlain_tos t hp0
    rcases h3 with ⟨rfl, rfl, ho, hj⟩ | ⟨rfl, rfl, h3⟩
    · rw [refRev_yes hp0 (rev_okL h1 hpl ho hp hj)]
      rw [sorted_unique (hp.trans (srtT_perm (rev t)).symm) hs (srtT_sorted (rev t)) fun x hx y hy he => from_inj ho hx hy he]
    · refine refRev_no hp0 fun ok => ?_
      have ho := rev_good h1 hp hs ok
      rcases h3 with h3 | h3
      · exact h3 ho
      · rw [joins_flat ho (fun w => rev_mem hp w) ok] at h3
        cases h3
theorem rv_agree {t : List Sh} {is : Bool} {w0 w1 : Wd} {e f n : Int} (h : RvSpec2 t is w0 w1 e) (k : (planE t ≠ 0 ∧ n = 0 ∧ f = planE t) ∨ (planE t = 0 ∧ f = 0 ∧ SpecS (t.map (·.To)) n)) :
    f = e ∧ ((e ≠ 0 ∧ is = false ∧ w0 = [] ∧ w1 = []) ∨ (e = 0 ∧ n < 0 ∧ is = true ∧ w0 = [] ∧ w1 = []) ∨ (e = 0 ∧ is = false ∧ w0 ≠ w1 ∧ badT t = 0 ∧ ∃ u : Wd, shiftW t w0 = (u, true) ∧ shiftW t w1 = (u, true) ∧ n = (u.length : Nat) ∧ w0.length ≤ 20000 ∧ w1.length ≤ 20000)) := by
  rcases h with ⟨h1, rfl, rfl, rfl, rfl⟩ | ⟨h1, h2, rfl, rfl, rfl, rfl⟩ | ⟨h1, h2, rfl, res, hS, h3⟩
  · rcases k with ⟨_, _, k3⟩ | ⟨k1, _⟩
    · exact ⟨by rw [k3, planE_bad h1], .inl ⟨h1, rfl, rfl, rfl⟩⟩
    · rw [planE_bad h1] at k1; exact absurd k1 h1
  · rcases k with ⟨_, _, k3⟩ | ⟨k1, _⟩
    · exact ⟨by rw [k3, planE_ask h1], .inl ⟨h2, rfl, rfl, rfl⟩⟩
    · rw [planE_ask h1] at k1; exact absurd k1 h2
  · have hp0 : planE t = 0 := by rw [planE_ask h1]; exact h2
    obtain ⟨_, _, hpl, _⟩ := refPlain_tos t hp0
    rcases k with ⟨k1, _⟩ | ⟨_, k2, k3⟩
    · exact absurd hp0 k1
    · refine ⟨k2, .inr ?_⟩
      cases res with
      | none =>
        obtain ⟨rfl, rfl, rfl⟩ := h3
        exact .inl ⟨rfl, by rw [spec_none hS k3]; decide, rfl, rfl, rfl⟩
      | some p =>
        obtain ⟨x, y⟩ := p
        obtain ⟨rfl, rfl, rfl⟩ := h3
        obtain ⟨s1, s2, s3, s4, s5, s6, s7⟩ := spec_some hS k3
        refine .inr ⟨rfl, rfl, fun he => s1 (symsT_inj h1 hpl x y s2 s3 he), h1, joinW (t.map (·.To)) x, shift_syms h1 hpl x s2, by rw [shift_syms h1 hpl y s3, s4], s5, ?_, ?_⟩
        · rw [symsT_len hpl x s2]; omega
        · rw [symsT_len hpl y s3]; omega
set_option maxHeartbeats 2000000 in
theorem reverses_of (t : List Sh) : Fn Zs 4 [encT t] (.bool true) := by
  refine fn_of (Z := Zs) ok4 fun σ hcl hbl => ?_
  simp -dsimp only [L4, ↓preB, postB, genB, ↓reduceIte, Nat.reduceEqDiff, Int.reduceToNat, Int.reduceLE, Int.reduceLT, Nat.reduceAdd, Nat.reduceLeDiff, intBin, strBin, unD, extractD, lit1, lit2, lit3, keptD, boxR, D.one, D.pub1, D.cells, splice, cutOwn]
  have ei : ∀ x : Int, (x == x) = true := fun x => by simp
  have en : ∀ x : Int, (x != x) = false := fun x => by simp
  have eb : ∀ x : Bool, (x != x) = false := fun x => by simp
  have ebb : ∀ x : Bool, (x == x) = true := fun x => by simp
  refine Fn.use (over_c t) ?_
  cases c1 : decide (100000 < overF t t.length)
  case true =>
    simp -dsimp only [c1, gate, bTFr, ↓preB, postB, genB, ↓reduceIte, Nat.reduceEqDiff, Int.reduceToNat, Int.reduceLE, Int.reduceLT, Nat.reduceAdd, Nat.reduceLeDiff, intBin, strBin, unD, extractD, lit1, lit2, lit3, keptD, boxR, D.one, D.pub1, D.cells, splice, cutOwn]
    refine Fn.use known_c ?_
    simp -dsimp only [↓preB, postB, genB, ↓reduceIte, Nat.reduceEqDiff, Int.reduceToNat, Int.reduceLE, Int.reduceLT, Nat.reduceAdd, Nat.reduceLeDiff, intBin, strBin, unD, extractD, lit1, lit2, lit3, keptD, boxR, D.one, D.pub1, D.cells, splice, cutOwn]
    exact Ret.is rfl
  simp -dsimp only [c1, gate, bFFr, ↓preB, postB, genB, ↓reduceIte, Nat.reduceEqDiff, Int.reduceToNat, Int.reduceLE, Int.reduceLT, Nat.reduceAdd, Nat.reduceLeDiff, intBin, strBin, unD, extractD, lit1, lit2, lit3, keptD, boxR, D.one, D.pub1, D.cells, splice, cutOwn]
  refine Fn.use (Plain_c t) ?_
  simp -dsimp only [List.getElem?_cons_zero, List.getElem?_cons_succ, ↓preB, postB, genB, ↓reduceIte, Nat.reduceEqDiff, Int.reduceToNat, Int.reduceLE, Int.reduceLT, Nat.reduceAdd, Nat.reduceLeDiff, intBin, strBin, unD, extractD, lit1, lit2, lit3, keptD, boxR, D.one, D.pub1, D.cells, splice, cutOwn]
  refine Fn.use (refValidate_c t) ?_
  by_cases ht : badT t = 0
  have hb0 : (badT t == 0) = true := by rw [ht]; rfl
  have hd : decide (badT t = 0) = true := decide_eq_true ht
  simp -dsimp only [hb0, hd, ei, en, eb, ebb, List.getElem?_cons_zero, List.getElem?_cons_succ, gate, decide_true, decide_false, Bool.true_and, Bool.false_and, bTTr, bTFr, bFTr, bFFr, ↓preB, postB, genB, ↓reduceIte, Nat.reduceEqDiff, Int.reduceToNat, Int.reduceLE, Int.reduceLT, Nat.reduceAdd, Nat.reduceLeDiff, intBin, strBin, unD, extractD, lit1, lit2, lit3, keptD, boxR, D.one, D.pub1, D.cells, splice, cutOwn]
  refine Fn.use (lawPlain_c t) ?_
  simp -dsimp only [hb0, hd, ei, en, eb, ebb, List.getElem?_cons_zero, List.getElem?_cons_succ, gate, decide_true, decide_false, Bool.true_and, Bool.false_and, bTTr, bTFr, bFTr, bFFr, ↓preB, postB, genB, ↓reduceIte, Nat.reduceEqDiff, Int.reduceToNat, Int.reduceLE, Int.reduceLT, Nat.reduceAdd, Nat.reduceLeDiff, intBin, strBin, unD, extractD, lit1, lit2, lit3, keptD, boxR, D.one, D.pub1, D.cells, splice, cutOwn]
  clear hb0 hd ht
  rotate_left
  have hb0 : (badT t == 0) = false := by rw [beq_eq_false_iff_ne]; exact ht
  have hd : decide (badT t = 0) = false := decide_eq_false ht
  simp -dsimp only [hb0, hd, ei, en, eb, ebb, List.getElem?_cons_zero, List.getElem?_cons_succ, gate, decide_true, decide_false, Bool.true_and, Bool.false_and, bTTr, bTFr, bFTr, bFFr, ↓preB, postB, genB, ↓reduceIte, Nat.reduceEqDiff, Int.reduceToNat, Int.reduceLE, Int.reduceLT, Nat.reduceAdd, Nat.reduceLeDiff, intBin, strBin, unD, extractD, lit1, lit2, lit3, keptD, boxR, D.one, D.pub1, D.cells, splice, cutOwn]
  clear hb0 hd ht
  rotate_left
  all_goals
    refine PCall.use (Reverse_q t) ?_
    rintro d τ ⟨rfl, out, ok, e, rfl, hR⟩
    have hA := rev_agree hR
    have hF := refReverse_c t
    rw [hA] at hF
    unfold encJ at hF
    simp -dsimp only [ei, en, eb, ebb, List.getElem?_cons_zero, List.getElem?_cons_succ, gate, decide_true, decide_false, Bool.true_and, Bool.false_and, Bool.not_true, Bool.not_false, bTTr, bTFr, bFTr, bFFr, ↓preB, postB, genB, ↓reduceIte, Nat.reduceEqDiff, Int.reduceToNat, Int.reduceLE, Int.reduceLT, Nat.reduceAdd, Nat.reduceLeDiff, intBin, strBin, unD, extractD, lit1, lit2, lit3, keptD, boxR, D.one, D.pub1, D.cells, splice, cutOwn]
    refine Fn.use hF ?_
    simp -dsimp only [ei, en, eb, ebb, List.getElem?_cons_zero, List.getElem?_cons_succ, gate, decide_true, decide_false, Bool.true_and, Bool.false_and, Bool.not_true, Bool.not_false, bTTr, bTFr, bFTr, bFFr, ↓preB, postB, genB, ↓reduceIte, Nat.reduceEqDiff, Int.reduceToNat, Int.reduceLE, Int.reduceLT, Nat.reduceAdd, Nat.reduceLeDiff, intBin, strBin, unD, extractD, lit1, lit2, lit3, keptD, boxR, D.one, D.pub1, D.cells, splice, cutOwn]
    refine Fn.use (sameT_c out) ?_
    simp -dsimp only [ei, en, eb, ebb, List.getElem?_cons_zero, List.getElem?_cons_succ, gate, decide_true, decide_false, Bool.true_and, Bool.false_and, Bool.not_true, Bool.not_false, bTTr, bTFr, bFTr, bFFr, ↓preB, postB, genB, ↓reduceIte, Nat.reduceEqDiff, Int.reduceToNat, Int.reduceLE, Int.reduceLT, Nat.reduceAdd, Nat.reduceLeDiff, intBin, strBin, unD, extractD, lit1, lit2, lit3, keptD, boxR, D.one, D.pub1, D.cells, splice, cutOwn]
    clear hF hA hR
    refine PCall.use (Reversible_q t) ?_
    rintro d τ ⟨rfl, is, w0, w1, e2, rfl, hV⟩
    simp -dsimp only [ei, en, eb, ebb, List.getElem?_cons_zero, List.getElem?_cons_succ, gate, decide_true, decide_false, Bool.true_and, Bool.false_and, Bool.not_true, Bool.not_false, bTTr, bTFr, bFTr, bFFr, ↓preB, postB, genB, ↓reduceIte, Nat.reduceEqDiff, Int.reduceToNat, Int.reduceLE, Int.reduceLT, Nat.reduceAdd, Nat.reduceLeDiff, intBin, strBin, unD, extractD, lit1, lit2, lit3, keptD, boxR, D.one, D.pub1, D.cells, splice, cutOwn]
    have hle := HLe.self_new (.cells 24 [encSS w0, encSS w1]) hcl
    have hg : (τ.new (.cells 24 [encSS w0, encSS w1])).get τ.next = some (.cells 24 [encSS w0, encSS w1]) := Heap.new_same _ _
    generalize τ.new (.cells 24 [encSS w0, encSS w1]) = s1 at hle hg ⊢
    have z00 : (((0 : Nat) : Int) == 0) = true := rfl
    have fin : Ret τ (fun d τ' => d = D.bool true ∧ τ' = τ) (.bool true) s1 := Ret.isH hle hcl rfl (.bool _)
    refine PCall.use (refReversible_p t) ?_
    rintro d s2 ⟨rfl, n, f, rfl, hN⟩
    obtain ⟨rfl, hcase⟩ := rv_agree hV hN
    clear hV hN
    rcases hcase with ⟨h1, rfl, rfl, rfl⟩ | ⟨rfl, h2, rfl, rfl, rfl⟩ | ⟨rfl, rfl, hne, ht, u, u1, u2, hn, l1, l2⟩
    · have k1 : (f != 0) = true := by rw [bne_iff_ne]; exact h1
      have k2 : (f == 0) = false := by rw [beq_eq_false_iff_ne]; exact h1
      simp -dsimp only [k1, k2, z00, hg, encSS, List.length_nil, List.map_nil, List.drop_zero, List.drop_succ_cons, ei, en, eb, ebb, List.getElem?_cons_zero, List.getElem?_cons_succ, gate, decide_true, decide_false, Bool.true_and, Bool.false_and, Bool.not_true, Bool.not_false, bTTr, bTFr, bFTr, bFFr, ↓preB, postB, genB, ↓reduceIte, Nat.reduceEqDiff, Int.reduceToNat, Int.reduceLE, Int.reduceLT, Nat.reduceAdd, Nat.reduceLeDiff, intBin, strBin, unD, extractD, lit1, lit2, lit3, keptD, boxR, D.one, D.pub1, D.cells, splice, cutOwn]
      refine ⟨by decide, fun _ => ⟨by decide, fun _ => ?_⟩⟩
      refine Fn.use known_c ?_
      simp -dsimp only [ei, en, eb, ebb, List.getElem?_cons_zero, List.getElem?_cons_succ, gate, decide_true, decide_false, Bool.true_and, Bool.false_and, Bool.not_true, Bool.not_false, bTTr, bTFr, bFTr, bFFr, ↓preB, postB, genB, ↓reduceIte, Nat.reduceEqDiff, Int.reduceToNat, Int.reduceLE, Int.reduceLT, Nat.reduceAdd, Nat.reduceLeDiff, intBin, strBin, unD, extractD, lit1, lit2, lit3, keptD, boxR, D.one, D.pub1, D.cells, splice, cutOwn]
      exact fin
    · have k1 : n < 0 := h2
      simp -dsimp only [k1, z00, hg, encSS, List.length_nil, List.map_nil, List.drop_zero, List.drop_succ_cons, ei, en, eb, ebb, List.getElem?_cons_zero, List.getElem?_cons_succ, gate, decide_true, decide_false, Bool.true_and, Bool.false_and, Bool.not_true, Bool.not_false, bTTr, bTFr, bFTr, bFFr, ↓preB, postB, genB, ↓reduceIte, Nat.reduceEqDiff, Int.reduceToNat, Int.reduceLE, Int.reduceLT, Nat.reduceAdd, Nat.reduceLeDiff, intBin, strBin, unD, extractD, lit1, lit2, lit3, keptD, boxR, D.one, D.pub1, D.cells, splice, cutOwn]
      refine ⟨by decide, fun _ => ⟨by decide, fun _ => ?_⟩⟩
      refine Fn.use known_c ?_
      simp -dsimp only [ei, en, eb, ebb, List.getElem?_cons_zero, List.getElem?_cons_succ, gate, decide_true, decide_false, Bool.true_and, Bool.false_and, Bool.not_true, Bool.not_false, bTTr, bTFr, bFTr, bFFr, ↓preB, postB, genB, ↓reduceIte, Nat.reduceEqDiff, Int.reduceToNat, Int.reduceLE, Int.reduceLT, Nat.reduceAdd, Nat.reduceLeDiff, intBin, strBin, unD, extractD, lit1, lit2, lit3, keptD, boxR, D.one, D.pub1, D.cells, splice, cutOwn]
      exact fin
    · obtain ⟨a1, a2⟩ := table_ok ht
      have a3 := (badT_zero ht).1
      have k1 : ¬ n < 0 := by omega
      have hS0 := Shifted_c t w0 a1 a2 l1 (by omega)
      have hS1 := Shifted_c t w1 a1 a2 l2 (by omega)
      rw [u1] at hS0
      rw [u2] at hS1
      simp -dsimp only [k1, hg, List.drop_zero, List.drop_succ_cons, ei, en, eb, ebb, List.getElem?_cons_zero, List.getElem?_cons_succ, gate, decide_true, decide_false, Bool.true_and, Bool.false_and, Bool.not_true, Bool.not_false, bTTr, bTFr, bFTr, bFFr, ↓preB, postB, genB, ↓reduceIte, Nat.reduceEqDiff, Int.reduceToNat, Int.reduceLE, Int.reduceLT, Nat.reduceAdd, Nat.reduceLeDiff, intBin, strBin, unD, extractD, lit1, lit2, lit3, keptD, boxR, D.one, D.pub1, D.cells, splice, cutOwn]
      simp only [] at hS0 hS1
      refine ⟨by decide, Fn.use hS0 ?_⟩
      simp -dsimp only [k1, hg, List.drop_zero, List.drop_succ_cons, ei, en, eb, ebb, List.getElem?_cons_zero, List.getElem?_cons_succ, gate, decide_true, decide_false, Bool.true_and, Bool.false_and, Bool.not_true, Bool.not_false, bTTr, bTFr, bFTr, bFFr, ↓preB, postB, genB, ↓reduceIte, Nat.reduceEqDiff, Int.reduceToNat, Int.reduceLE, Int.reduceLT, Nat.reduceAdd, Nat.reduceLeDiff, intBin, strBin, unD, extractD, lit1, lit2, lit3, keptD, boxR, D.one, D.pub1, D.cells, splice, cutOwn]
      refine ⟨by decide, Fn.use hS1 ?_⟩
      have q1 : eqW w0 w1 = false := by
        rw [Bool.eq_false_iff]; exact fun h => hne (eqW_iff.1 h)
      have q2 : eqW u u = true := eqW_iff.2 rfl
      have q3 : ((u.length : Int) == n) = true := by rw [beq_iff_eq, hn]
      simp -dsimp only [k1, hg, List.drop_zero, List.drop_succ_cons, ei, en, eb, ebb, List.getElem?_cons_zero, List.getElem?_cons_succ, gate, decide_true, decide_false, Bool.true_and, Bool.false_and, Bool.not_true, Bool.not_false, bTTr, bTFr, bFTr, bFFr, ↓preB, postB, genB, ↓reduceIte, Nat.reduceEqDiff, Int.reduceToNat, Int.reduceLE, Int.reduceLT, Nat.reduceAdd, Nat.reduceLeDiff, intBin, strBin, unD, extractD, lit1, lit2, lit3, keptD, boxR, D.one, D.pub1, D.cells, splice, cutOwn]
      refine ⟨by decide, by decide, Fn.use (Same_c w0 w1) ?_⟩
      simp -dsimp only [k1, hg, q1, q2, q3, List.drop_zero, List.drop_succ_cons, ei, en, eb, ebb, List.getElem?_cons_zero, List.getElem?_cons_succ, gate, decide_true, decide_false, Bool.true_and, Bool.false_and, Bool.not_true, Bool.not_false, bTTr, bTFr, bFTr, bFFr, ↓preB, postB, genB, ↓reduceIte, Nat.reduceEqDiff, Int.reduceToNat, Int.reduceLE, Int.reduceLT, Nat.reduceAdd, Nat.reduceLeDiff, intBin, strBin, unD, extractD, lit1, lit2, lit3, keptD, boxR, D.one, D.pub1, D.cells, splice, cutOwn]
      refine Fn.use (Same_c u u) ?_
      simp -dsimp only [k1, hg, q1, q2, q3, List.drop_zero, List.drop_succ_cons, ei, en, eb, ebb, List.getElem?_cons_zero, List.getElem?_cons_succ, gate, decide_true, decide_false, Bool.true_and, Bool.false_and, Bool.not_true, Bool.not_false, bTTr, bTFr, bFTr, bFFr, encSS, ↓preB, postB, genB, ↓reduceIte, Nat.reduceEqDiff, Int.reduceToNat, Int.reduceLE, Int.reduceLT, Nat.reduceAdd, Nat.reduceLeDiff, intBin, strBin, unD, extractD, lit1, lit2, lit3, keptD, boxR, D.one, D.pub1, D.cells, splice, cutOwn]
      intros
      refine Fn.use known_c ?_
      simp -dsimp only [k1, hg, q1, q2, q3, List.drop_zero, List.drop_succ_cons, ei, en, eb, ebb, List.getElem?_cons_zero, List.getElem?_cons_succ, gate, decide_true, decide_false, Bool.true_and, Bool.false_and, Bool.not_true, Bool.not_false, bTTr, bTFr, bFTr, bFFr, ↓preB, postB, genB, ↓reduceIte, Nat.reduceEqDiff, Int.reduceToNat, Int.reduceLE, Int.reduceLT, Nat.reduceAdd, Nat.reduceLeDiff, intBin, strBin, unD, extractD, lit1, lit2, lit3, keptD, boxR, D.one, D.pub1, D.cells, splice, cutOwn]
      exact fin
end Go.Proofs.YtldlcejlfaogbaaGreatDoor.Vs
