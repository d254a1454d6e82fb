/- numbers of Ythchlpikcpidaaa -/
/- The program's guesser in memory: its maps. -/
import Derived.Test.YthchlpikcpidaaaGuF5
namespace Go.Proofs.Ythchlpikcpidaaa.Vs
set_option linter.unusedVariables false
set_option linter.unusedSimpArgs false
set_option maxRecDepth 20000

theorem ba_dec (a b : ByteArray) : (a == b) = decide (a = b) := by
  cases h : (a == b) with
  | true => rw [ba_eq h]; simp
  | false =>
    symm
    rw [decide_eq_false_iff_not]
    rintro rfl
    rw [ba_refl] at h
    cases h
theorem keyStr : KeyOf Zs 9 D.str := by
  constructor
  · intro k; simp [keyFits, tz9, plainKeyT]
  · intro a b
    simp only [keyEq, tz9, plainKeyT, eqS, if_true, ba_dec]
def encK (p : ByteArray × ByteArray) : D := .agg [.str p.1, .str p.2]
theorem keyK : KeyOf Zs 79 encK := by
  constructor
  · rintro ⟨a, b⟩; rfl
  · rintro ⟨a, b⟩ ⟨c, d⟩
    have h : eqT Zs 79 (.agg [.str a, .str b]) (.agg [.str c, .str d]) = some ((a == c) && (b == d)) := by
      cases h1 : (a == c) <;> cases h2 : (b == d) <;> simp [eqT, tz79, tz9, eqFs, fieldEq, eqS, TInfo.isAgg, h1, h2]
    have h' : keyEq Zs 79 (.agg [.str a, .str b]) (.agg [.str c, .str d]) = (match eqT Zs 79 (.agg [.str a, .str b]) (.agg [.str c, .str d]) with
      | some r => if r = true then (if cellsSame [.str a, .str b] [.str c, .str d] = true then some true else none) else some false
      | none => none) := by
      unfold keyEq
      simp only [tz79]
      rw [h]
    show keyEq Zs 79 (.agg [.str a, .str b]) (.agg [.str c, .str d]) = _
    rw [h', h]
    simp only [cellsSame, scalarSame, Bool.and_true]
    rw [ba_dec, ba_dec]
    by_cases h1 : a = c <;> by_cases h2 : b = d <;> simp [h1, h2]

abbrev iD : Int → D := D.int .i64
def MapI (m : List (ByteArray × Int)) (r : Nat) (σ : Heap) : Prop := ∃ es c, σ.get r = some (.map es c) ∧ MapIs D.str iD m es c
abbrev EL := List (ByteArray × Nat)
abbrev ML := List ((ByteArray × ByteArray) × Int)
abbrev AF := ByteArray → List (ByteArray × Int)

structure PGx (σ0 σ : Heap) (q r1 r2 : Nat) (M : ML) (E : EL) (A : AF) : Prop where
  le : HLe σ0 σ
  nq : σ0.get q = none
  n1 : σ0.get r1 = none
  n2 : σ0.get r2 = none
  e1 : q ≠ r1
  e2 : q ≠ r2
  e3 : r1 ≠ r2
  lq : q < σ.next
  l1 : r1 < σ.next
  l2 : r2 < σ.next
  hq : σ.get q = some (.cells 56 [.map r1, .map r2])
  h1 : ∃ es c, σ.get r1 = some (.map es c) ∧ MapIs encK iD M es c
  h2 : ∃ es c, σ.get r2 = some (.map es c) ∧ MapIs D.str D.map E es c
  hE : ∀ p ∈ E, σ0.get p.2 = none ∧ p.2 < σ.next ∧ p.2 ≠ q ∧ p.2 ≠ r1 ∧ p.2 ≠ r2 ∧ MapI (A p.1) p.2 σ
  nd : (E.map Prod.fst).Nodup
  nd2 : (E.map Prod.snd).Nodup

section
variable {σ0 σ : Heap} {q r1 r2 : Nat} {M : ML} {E : EL} {A : AF}
/-- The map of words is written. -/
theorem PGx.setM (h : PGx σ0 σ q r1 r2 M E A) {M' : ML} {es : List ME} {c : Nat} (hm : MapIs encK iD M' es c) : PGx σ0 (σ.set r1 (.map es c)) q r1 r2 M' E A := {
  le := h.le.set _ h.n1
  nq := h.nq
  n1 := h.n1
  n2 := h.n2
  e1 := h.e1
  e2 := h.e2
  e3 := h.e3
  lq := h.lq
  l1 := h.l1
  l2 := h.l2
  hq := by rw [Heap.set_ne _ _ h.e1]; exact h.hq
  h1 := ⟨es, c, Heap.set_same _ _ _, hm⟩
  h2 := by obtain ⟨a, b, h3, h4⟩ := h.h2; exact ⟨a, b, by rw [Heap.set_ne _ _ (Ne.symm h.e3)]; exact h3, h4⟩
  hE := fun p hp => by
    obtain ⟨a1, a2, a3, a4, a5, es', c', a6, a7⟩ := h.hE p hp
    exact ⟨a1, a2, a3, a4, a5, es', c', by rw [Heap.set_ne _ _ a4]; exact a6, a7⟩
  nd := h.nd
  nd2 := h.nd2 }
/-- The map of endings is written. -/
theorem PGx.setE (h : PGx σ0 σ q r1 r2 M E A) {E' : EL} {es : List ME} {c : Nat} (hm : MapIs D.str D.map E' es c) (hs : ∀ p ∈ E', p ∈ E) (n1 : (E'.map Prod.fst).Nodup) (n2 : (E'.map Prod.snd).Nodup) : PGx σ0 (σ.set r2 (.map es c)) q r1 r2 M E' A := {
  le := h.le.set _ h.n2
  nq := h.nq
  n1 := h.n1
  n2 := h.n2
  e1 := h.e1
  e2 := h.e2
  e3 := h.e3
  lq := h.lq
  l1 := h.l1
  l2 := h.l2
  hq := by rw [Heap.set_ne _ _ h.e2]; exact h.hq
  h1 := by obtain ⟨a, b, h3, h4⟩ := h.h1; exact ⟨a, b, by rw [Heap.set_ne _ _ h.e3]; exact h3, h4⟩
  h2 := ⟨es, c, Heap.set_same _ _ _, hm⟩
  hE := fun p hp => by
    obtain ⟨a1, a2, a3, a4, a5, es', c', a6, a7⟩ := h.hE p (hs p hp)
    exact ⟨a1, a2, a3, a4, a5, es', c', by rw [Heap.set_ne _ _ a5]; exact a6, a7⟩
  nd := n1
  nd2 := n2 }
theorem PGx.delE (h : PGx σ0 σ q r1 r2 M E A) (e : ByteArray) {es : List ME} {c : Nat} (hm : MapIs D.str D.map (delA E e) es c) : PGx σ0 (σ.set r2 (.map es c)) q r1 r2 M (delA E e) A :=
  h.setE hm (fun p hp => (del_sub E e).subset hp) (nodup_del h.nd e) (h.nd2.sublist ((del_sub E e).map _))
/-- An ending that was not there. -/
theorem PGx.addE (h : PGx σ0 σ q r1 r2 M E A) (hc : ∀ r o, σ0.get r = some o → r < σ0.next) {e : ByteArray} (he : lkp E e = none) {es : List ME} {c : Nat} (hm : MapIs D.str D.map (insA E e σ.next) es c) (A' : AF) (hA : A' e = []) (hA' : ∀ e', e' ≠ e → A' e' = A e') :
    PGx σ0 ((σ.new (.map [] 0)).set r2 (.map es c)) q r1 r2 M (insA E e σ.next) A' := {
  le := (h.le.new _ hc).set _ h.n2
  nq := h.nq
  n1 := h.n1
  n2 := h.n2
  e1 := h.e1
  e2 := h.e2
  e3 := h.e3
  lq := Nat.lt_succ_of_lt h.lq
  l1 := Nat.lt_succ_of_lt h.l1
  l2 := Nat.lt_succ_of_lt h.l2
  hq := by rw [Heap.set_ne _ _ h.e2, Heap.new_ne _ _ (Nat.ne_of_lt h.lq)]; exact h.hq
  h1 := by obtain ⟨a, b, h3, h4⟩ := h.h1; exact ⟨a, b, by rw [Heap.set_ne _ _ h.e3, Heap.new_ne _ _ (Nat.ne_of_lt h.l1)]; exact h3, h4⟩
  h2 := ⟨es, c, Heap.set_same _ _ _, hm⟩
  hE := fun p hp => by
    have hl := lkp_none.1 he
    have hx := mem_lkp (nodup_ins h.nd e σ.next) (show (p.1, p.2) ∈ _ from hp)
    rw [lkp_ins] at hx
    split at hx
    · rename_i hpe
      have hp2 : p.2 = σ.next := by simpa using hx.symm
      have g0 : σ0.get σ.next = none := by
        cases hz : σ0.get σ.next with
        | none => rfl
        | some o => have := hc _ o hz; have := h.le.next; omega
      refine ⟨by rw [hp2]; exact g0, by rw [hp2, Heap.next_set, Heap.next_new]; exact Nat.lt_succ_self _, by rw [hp2]; exact Nat.ne_of_gt h.lq, by rw [hp2]; exact Nat.ne_of_gt h.l1, by rw [hp2]; exact Nat.ne_of_gt h.l2, [], 0, ?_, ?_⟩
      · rw [hp2, Heap.set_ne _ _ (Nat.ne_of_gt h.l2), Heap.new_same]
      · rw [← hpe, hA]; exact .nil
    · rename_i hpe
      obtain ⟨a1, a2, a3, a4, a5, es', c', a6, a7⟩ := h.hE p (lkp_mem hx)
      refine ⟨a1, Nat.lt_succ_of_lt a2, a3, a4, a5, es', c', by rw [Heap.set_ne _ _ a5, Heap.new_ne _ _ (Nat.ne_of_lt a2)]; exact a6, ?_⟩
      rw [hA' _ fun e' => hpe e'.symm]; exact a7
  nd := nodup_ins h.nd _ _
  nd2 := by
    have : insA E e σ.next = E ++ [(e, σ.next)] := by
      cases hf : findA E e 0 with
      | none => exact (findA_none hf).2 _
      | some p => obtain ⟨i, v⟩ := p; rw [(findA_some hf).2.2.1] at he; cases he
    rw [this, List.map_append, List.nodup_append]
    refine ⟨h.nd2, by simp, fun a ha b hb => ?_⟩
    obtain ⟨p, hp, rfl⟩ := List.mem_map.1 ha
    have hbe : b = σ.next := by simpa using hb
    rw [hbe]; exact Nat.ne_of_lt (h.hE p hp).2.1 }
/-- The counts of an ending are written. -/
theorem PGx.setA (h : PGx σ0 σ q r1 r2 M E A) {e : ByteArray} {r : Nat} (he : lkp E e = some r) (A' : AF) {es : List ME} {c : Nat} (hm : MapIs D.str iD (A' e) es c) (hA' : ∀ e', e' ≠ e → A' e' = A e') : PGx σ0 (σ.set r (.map es c)) q r1 r2 M E A' := by
  obtain ⟨b1, b2, b3, b4, b5, _⟩ := h.hE _ (lkp_mem he)
  exact {
    le := h.le.set _ b1
    nq := h.nq
    n1 := h.n1
    n2 := h.n2
    e1 := h.e1
    e2 := h.e2
    e3 := h.e3
    lq := h.lq
    l1 := h.l1
    l2 := h.l2
    hq := by rw [Heap.set_ne _ _ (Ne.symm b3)]; exact h.hq
    h1 := by obtain ⟨a, b, h3, h4⟩ := h.h1; exact ⟨a, b, by rw [Heap.set_ne _ _ (Ne.symm b4)]; exact h3, h4⟩
    h2 := by obtain ⟨a, b, h3, h4⟩ := h.h2; exact ⟨a, b, by rw [Heap.set_ne _ _ (Ne.symm b5)]; exact h3, h4⟩
    hE := fun p hp => by
      obtain ⟨a1, a2, a3, a4, a5, es', c', a6, a7⟩ := h.hE p hp
      by_cases hpe : p.1 = e
      · have : p.2 = r := by
          have := mem_lkp h.nd (show (p.1, p.2) ∈ E from hp)
          rw [hpe, he] at this; simpa using this.symm
        refine ⟨a1, a2, a3, a4, a5, es, c, by rw [this]; exact Heap.set_same _ _ _, by rw [hpe]; exact hm⟩
      · have hne : p.2 ≠ r := fun e2 => by
          have m1 := lkp_mem he
          obtain ⟨i, hi, hpi⟩ := List.getElem_of_mem hp
          obtain ⟨j, hj, hpj⟩ := List.getElem_of_mem m1
          have hi2 : i < (E.map Prod.snd).length := by simpa using hi
          have hj2 : j < (E.map Prod.snd).length := by simpa using hj
          have := (List.getElem_inj (h₀ := hi2) (h₁ := hj2) h.nd2).1 (by simp [hpi, hpj, e2])
          subst this
          rw [hpi] at hpj
          exact hpe (by rw [hpj])
        exact ⟨a1, a2, a3, a4, a5, es', c', by rw [Heap.set_ne _ _ hne]; exact a6, by rw [hA' _ hpe]; exact a7⟩
    nd := h.nd
    nd2 := h.nd2 }

/-- A heap with one object more. -/
def ext0 (σ0 σ : Heap) (o : AO) : Heap := ⟨σ.next + 1, fun i => if i = σ.next then some o else σ0.get i⟩
theorem ext0_same (σ0 σ : Heap) (o : AO) : (ext0 σ0 σ o).get σ.next = some o := by simp [ext0]
theorem ext0_ne {i : Nat} (σ0 σ : Heap) (o : AO) (h : i ≠ σ.next) : (ext0 σ0 σ o).get i = σ0.get i := by simp [ext0, h]
theorem ext0_lt (hle : HLe σ0 σ) (hc : ∀ r o, σ0.get r = some o → r < σ0.next) (o : AO) : ∀ r x, (ext0 σ0 σ o).get r = some x → r < (ext0 σ0 σ o).next := fun r x hr => by
  by_cases h : r = σ.next
  · rw [h]; exact Nat.lt_succ_self _
  · rw [ext0_ne _ _ _ h] at hr
    have := hc r x hr
    have := hle.next
    show r < σ.next + 1
    omega
theorem ext0_le (hle : HLe σ0 σ) (hc : ∀ r o, σ0.get r = some o → r < σ0.next) (o : AO) : HLe σ0 (ext0 σ0 σ o) := ⟨by have := hle.next; show σ0.next ≤ σ.next + 1; omega, fun r x hr => by
  have h1 := hc r x hr
  have h2 := hle.next
  rw [ext0_ne _ _ _ (by omega)]; exact hr⟩
theorem PGx.ext (h : PGx σ0 σ q r1 r2 M E A) (o : AO) : PGx (ext0 σ0 σ o) (σ.new o) q r1 r2 M E A := {
  le := ⟨Nat.le_refl _, fun r x hr => by
    by_cases hrn : r = σ.next
    · rw [hrn] at hr ⊢; rw [ext0_same] at hr; rw [Heap.new_same]; exact hr
    · rw [ext0_ne _ _ _ hrn] at hr; rw [Heap.new_ne _ _ hrn]; exact h.le.get r x hr⟩
  nq := by rw [ext0_ne _ _ _ (Nat.ne_of_lt h.lq)]; exact h.nq
  n1 := by rw [ext0_ne _ _ _ (Nat.ne_of_lt h.l1)]; exact h.n1
  n2 := by rw [ext0_ne _ _ _ (Nat.ne_of_lt h.l2)]; exact h.n2
  e1 := h.e1
  e2 := h.e2
  e3 := h.e3
  lq := Nat.lt_succ_of_lt h.lq
  l1 := Nat.lt_succ_of_lt h.l1
  l2 := Nat.lt_succ_of_lt h.l2
  hq := by rw [Heap.new_ne _ _ (Nat.ne_of_lt h.lq)]; exact h.hq
  h1 := by obtain ⟨a, b, h3, h4⟩ := h.h1; exact ⟨a, b, by rw [Heap.new_ne _ _ (Nat.ne_of_lt h.l1)]; exact h3, h4⟩
  h2 := by obtain ⟨a, b, h3, h4⟩ := h.h2; exact ⟨a, b, by rw [Heap.new_ne _ _ (Nat.ne_of_lt h.l2)]; exact h3, h4⟩
  hE := fun p hp => by
    obtain ⟨a1, a2, a3, a4, a5, es', c', a6, a7⟩ := h.hE p hp
    exact ⟨by rw [ext0_ne _ _ _ (Nat.ne_of_lt a2)]; exact a1, Nat.lt_succ_of_lt a2, a3, a4, a5, es', c', by rw [Heap.new_ne _ _ (Nat.ne_of_lt a2)]; exact a6, a7⟩
  nd := h.nd
  nd2 := h.nd2 }
/-- Told over a smaller heap. -/
theorem PGx.low {σb : Heap} (h : PGx σb σ q r1 r2 M E A) (hle : HLe σ0 σb) : PGx σ0 σ q r1 r2 M E A := by
  have key : ∀ r, σb.get r = none → σ0.get r = none := fun r hr => by
    cases hz : σ0.get r with
    | none => rfl
    | some o => rw [hle.get _ _ hz] at hr; cases hr
  exact { h with le := hle.trans h.le, nq := key _ h.nq, n1 := key _ h.n1, n2 := key _ h.n2, hE := fun p hp => by obtain ⟨a1, a2⟩ := h.hE p hp; exact ⟨key _ a1, a2⟩ }
theorem PGx.more {σ' : Heap} (h : PGx σ0 σ q r1 r2 M E A) (hle : HLe σ σ') : PGx σ0 σ' q r1 r2 M E A :=
  { h with
    le := h.le.trans hle
    lq := Nat.lt_of_lt_of_le h.lq hle.next
    l1 := Nat.lt_of_lt_of_le h.l1 hle.next
    l2 := Nat.lt_of_lt_of_le h.l2 hle.next
    hq := hle.get _ _ h.hq
    h1 := by obtain ⟨a, b, h3, h4⟩ := h.h1; exact ⟨a, b, hle.get _ _ h3, h4⟩
    h2 := by obtain ⟨a, b, h3, h4⟩ := h.h2; exact ⟨a, b, hle.get _ _ h3, h4⟩
    hE := fun p hp => by
      obtain ⟨a1, a2, a3, a4, a5, es', c', a6, a7⟩ := h.hE p hp
      exact ⟨a1, Nat.lt_of_lt_of_le a2 hle.next, a3, a4, a5, es', c', hle.get _ _ a6, a7⟩ }
/-- What is looked up. -/
theorem PGx.lk1 (h : PGx σ0 σ q r1 r2 M E A) (k : ByteArray × ByteArray) : lookupD Zs σ.get 53 (.map r1) (.agg [.str k.1, .str k.2]) false = some (.int .i64 ((lkp M k).getD 0)) := by
  obtain ⟨es, c, h3, h4⟩ := h.h1
  have := lookup_is (z := .int .i64 0) keyK tz53 rfl tz3 rfl h3 h4 k
  rw [show D.agg [.str k.1, .str k.2] = encK k from rfl, this]
  cases lkp M k <;> rfl
theorem PGx.lk2 (h : PGx σ0 σ q r1 r2 M E A) (e : ByteArray) : lookupD Zs σ.get 54 (.map r2) (.str e) false = some (match lkp E e with | some r => .map r | none => .nilmap) := by
  obtain ⟨es, c, h3, h4⟩ := h.h2
  have := lookup_is (z := .nilmap) keyStr tz54 rfl tz63 rfl h3 h4 e
  rw [this]
  cases lkp E e <;> rfl
theorem PGx.lk3 (h : PGx σ0 σ q r1 r2 M E A) {e : ByteArray} {r : Nat} (he : lkp E e = some r) (t : ByteArray) : lookupD Zs σ.get 63 (.map r) (.str t) false = some (.int .i64 ((lkp (A e) t).getD 0)) := by
  obtain ⟨_, _, _, _, _, es, c, h3, h4⟩ := h.hE _ (lkp_mem he)
  have := lookup_is (z := .int .i64 0) keyStr tz63 rfl tz3 rfl h3 h4 t
  rw [this]
  cases lkp (A e) t <;> rfl
end
theorem lk_nil (g : Nat → Option AO) (t : ByteArray) : lookupD Zs g 63 .nilmap (.str t) false = some (.int .i64 0) := lookup_nil keyStr tz63 rfl tz3 rfl t
end Go.Proofs.Ythchlpikcpidaaa.Vs
