import Derived.Test.YthchlpikcpidaaaDoorGuB1
/- numbers of Ythchlpikcpidaaa -/
namespace Go.Proofs.YthchlpikcpidaaaDoor.Vs
set_option linter.unusedVariables false
set_option linter.unusedSimpArgs false
set_option maxRecDepth 20000
theorem ba_dec (a b : ByteArray) : (a == b) = decide (a = b) := by
  cases h : (a == b) with
  | true => rw [ba_eq h]; simp
  | false =>
    symm
    rw [decide_eq_false_iff_not]
    rintro rfl
    rw [ba_refl] at h
    cases h
theorem keyStr : KeyOf Zs 9 D.str := by
  constructor
  · intro k; simp [keyFits, tz9, plainKeyT]
  · intro a b
    simp only [keyEq, tz9, plainKeyT, eqS, if_true, ba_dec]
def encK (p : ByteArray × ByteArray) : D := .agg [.str p.1, .str p.2]
theorem keyK : KeyOf Zs 48 encK := by
  constructor
  · rintro ⟨a, b⟩; rfl
  · rintro ⟨a, b⟩ ⟨c, d⟩
    have h : eqT Zs 48 (.agg [.str a, .str b]) (.agg [.str c, .str d]) = some ((a == c) && (b == d)) := by
      cases h1 : (a == c) <;> cases h2 : (b == d) <;> simp [eqT, tz48, tz9, eqFs, fieldEq, eqS, TInfo.isAgg, h1, h2]
    have h' : keyEq Zs 48 (.agg [.str a, .str b]) (.agg [.str c, .str d]) = (match eqT Zs 48 (.agg [.str a, .str b]) (.agg [.str c, .str d]) with
      | some r => if r = true then (if cellsSame [.str a, .str b] [.str c, .str d] = true then some true else none) else some false
      | none => none) := by
      unfold keyEq
      simp only [tz48]
      rw [h]
    show keyEq Zs 48 (.agg [.str a, .str b]) (.agg [.str c, .str d]) = _
    rw [h', h]
    simp only [cellsSame, scalarSame, Bool.and_true]
    rw [ba_dec, ba_dec]
    by_cases h1 : a = c <;> by_cases h2 : b = d <;> simp [h1, h2]

abbrev iD : Int → D := D.int .i64
def MapI (m : List (ByteArray × Int)) (r : Nat) (σ : Heap) : Prop := ∃ es c, σ.get r = some (.map es c) ∧ MapIs D.str iD m es c
abbrev EL := List (ByteArray × Nat)
abbrev ML := List ((ByteArray × ByteArray) × Int)
abbrev AF := ByteArray → List (ByteArray × Int)

structure PGx (σ0 σ : Heap) (q r1 r2 : Nat) (M : ML) (E : EL) (A : AF) : Prop where
  le : HLe σ0 σ
  nq : σ0.get q = none
  n1 : σ0.get r1 = none
  n2 : σ0.get r2 = none
  e1 : q ≠ r1
  e2 : q ≠ r2
  e3 : r1 ≠ r2
  lq : q < σ.next
  l1 : r1 < σ.next
  l2 : r2 < σ.next
  hq : σ.get q = some (.cells 43 [.map r1, .map r2])
  h1 : ∃ es c, σ.get r1 = some (.map es c) ∧ MapIs encK iD M es c
  h2 : ∃ es c, σ.get r2 = some (.map es c) ∧ MapIs D.str D.map E es c
  hE : ∀ p ∈ E, σ0.get p.2 = none ∧ p.2 < σ.next ∧ p.2 ≠ q ∧ p.2 ≠ r1 ∧ p.2 ≠ r2 ∧ MapI (A p.1) p.2 σ
  nd : (E.map Prod.fst).Nodup
  nd2 : (E.map Prod.snd).Nodup

section
variable {σ0 σ : Heap} {q r1 r2 : Nat} {M : ML} {E : EL} {A : AF}
/-- The map of words is written. -/
theorem PGx.setM (h : PGx σ0 σ q r1 r2 M E A) {M' : ML} {es : List ME} {c : Nat} (hm : MapIs encK iD M' es c) : PGx σ0 (σ.set r1 (.map es c)) q r1 r2 M' E A := {
  le := h.le.set _ h.n1
  nq := h.nq
  n1 := h.n1
  n2 := h.n2
  e1 := h.e1
  e2 := h.e2
  e3 := h.e3
  lq := h.lq
  l1 := h.l1
  l2 := h.l2
  hq := by rw [Heap.set_ne _ _ h.e1]; exact h.hq
  h1 := ⟨es, c, Heap.set_same _ _ _, hm⟩
  h2 := by obtain ⟨a, b, h3, h4⟩ := h.h2; exact ⟨a, b, by rw [Heap.set_ne _ _ (Ne.symm h.e3)]; exact h3, h4⟩
  hE := fun p hp => by
    obtain ⟨a1, a2, a3, a4, a5, es', c', a6, a7⟩ := h.hE p hp
    exact ⟨a1, a2, a3, a4, a5, es', c', by rw [Heap.set_ne _ _ a4]; exact a6, a7⟩
  nd := h.nd
  nd2 := h.nd2 }
/-- The map of endings is written. -/
theorem PGx.setE (h : PGx σ0 σ q r1 r2 M E A) {E' : EL} {es : List ME} {c : Nat} (hm : MapIs D.str D.map E' es c) (hs : ∀ p ∈ E', p ∈ E) (n1 : (E'.map Prod.fst).Nodup) (n2 : (E'.map Prod.snd).Nodup) : PGx σ0 (σ.set r2 (.map es c)) q r1 r2 M E' A := {
  le := h.le.set _ h.n2
  nq := h.nq
  n1 := h.n1
  n2 := h.n2
  e1 := h.e1
  e2 := h.e2
  e3 := h.e3
  lq := h.lq
  l1 := h.l1
  l2 := h.l2
  hq := by rw [Heap.set_ne _ _ h.e2]; exact h.hq
  h1 := by obtain ⟨a, b, h3, h4⟩ := h.h1; exact ⟨a, b, by rw [Heap.set_ne _ _ h.e3]; exact h3, h4⟩
  h2 := ⟨es, c, Heap.set_same _ _ _, hm⟩
  hE := fun p hp => by
    obtain ⟨a1, a2, a3, a4, a5, es', c', a6, a7⟩ := h.hE p (hs p hp)
    exact ⟨a1, a2, a3, a4, a5, es', c', by rw [Heap.set_ne _ _ a5]; exact a6, a7⟩
  nd := n1
  nd2 := n2 }
theorem PGx.delE (h : PGx σ0 σ q r1 r2 M E A) (e : ByteArray) {es : List ME} {c : Nat} (hm : MapIs D.str D.map (delA E e) es c) : PGx σ0 (σ.set r2 (.map es c)) q r1 r2 M (delA E e) A :=
  h.setE hm (fun p hp => (del_sub E e).subset hp) (nodup_del h.nd e) (h.nd2.sublist ((del_sub E e).map _))
/-- An ending that was not there. -/
theorem PGx.addE (h : PGx σ0 σ q r1 r2 M E A) (hc : ∀ r o, σ0.get r = some o → r < σ0.next) {e : ByteArray} (he : lkp E e = none) {es : List ME} {c : Nat} (hm : MapIs D.str D.map (insA E e σ.next) es c) (A' : AF) (hA : A' e = []) (hA' : ∀ e', e' ≠ e → A' e' = A e') :
    PGx σ0 ((σ.new (.map [] 0)).set r2 (.map es c)) q r1 r2 M (insA E e σ.next) A' := {
  le := (h.le.new _ hc).set _ h.n2
  nq := h.nq
  n1 := h.n1
  n2 := h.n2
  e1 := h.e1
  e2 := h.e2
  e3 := h.e3
  lq := Nat.lt_succ_of_lt h.lq
  l1 := Nat.lt_succ_of_lt h.l1
  l2 := Nat.lt_succ_of_lt h.l2
  hq := by rw [Heap.set_ne _ _ h.e2, Heap.new_ne _ _ (Nat.ne_of_lt h.lq)]; exact h.hq
  h1 := by obtain ⟨a, b, h3, h4⟩ := h.h1; exact ⟨a, b, by rw [Heap.set_ne _ _ h.e3, Heap.new_ne _ _ (Nat.ne_of_lt h.l1)]; exact h3, h4⟩
  h2 := ⟨es, c, Heap.set_same _ _ _, hm⟩
  hE := fun p hp => by
    have hl := lkp_none.1 he
    have hx := mem_lkp (nodup_ins h.nd e σ.next) (show (p.1, p.2) ∈ _ from hp)
    rw [lkp_ins] at hx
    split at hx
    · rename_i hpe
      have hp2 : p.2 = σ.next := by simpa using hx.symm
      have g0 : σ0.get σ.next = none := by
        cases hz : σ0.get σ.next with
        | none => rfl
        | some o => have := hc _ o hz; have := h.le.next; omega
      refine ⟨by rw [hp2]; exact g0, by rw [hp2, Heap.next_set, Heap.next_new]; exact Nat.lt_succ_self _, by rw [hp2]; exact Nat.ne_of_gt h.lq, by rw [hp2]; exact Nat.ne_of_gt h.l1, by rw [hp2]; exact Nat.ne_of_gt h.l2, [], 0, ?_, ?_⟩
      · rw [hp2, Heap.set_ne _ _ (Nat.ne_of_gt h.l2), Heap.new_same]
      · rw [← hpe, hA]; exact .nil
    · rename_i hpe
      obtain ⟨a1, a2, a3, a4, a5, es', c', a6, a7⟩ := h.hE p (lkp_mem hx)
      refine ⟨a1, Nat.lt_succ_of_lt a2, a3, a4, a5, es', c', by rw [Heap.set_ne _ _ a5, Heap.new_ne _ _ (Nat.ne_of_lt a2)]; exact a6, ?_⟩
      rw [hA' _ fun e' => hpe e'.symm]; exact a7
  nd := nodup_ins h.nd _ _
  nd2 := by
    have : insA E e σ.next = E ++ [(e, σ.next)] := by
      cases hf : findA E e 0 with
      | none => exact (findA_none hf).2 _
      | some p => obtain ⟨i, v⟩ := p; rw [(findA_some hf).2.2.1] at he; cases he
    rw [this, List.map_append, List.nodup_append]
    refine ⟨h.nd2, by simp, fun a ha b hb => ?_⟩
    obtain ⟨p, hp, rfl⟩ := List.mem_map.1 ha
    have hbe : b = σ.next := by simpa using hb
    rw [hbe]; exact Nat.ne_of_lt (h.hE p hp).2.1 }
/-- The counts of an ending are written. -/
theorem PGx.setA (h : PGx σ0 σ q r1 r2 M E A) {e : ByteArray} {r : Nat} (he : lkp E e = some r) (A' : AF) {es : List ME} {c : Nat} (hm : MapIs D.str iD (A' e) es c) (hA' : ∀ e', e' ≠ e → A' e' = A e') : PGx σ0 (σ.set r (.map es c)) q r1 r2 M E A' := by
  obtain ⟨b1, b2, b3, b4, b5, _⟩ := h.hE _ (lkp_mem he)
  exact {
    le := h.le.set _ b1
    nq := h.nq
    n1 := h.n1
    n2 := h.n2
    e1 := h.e1
    e2 := h.e2
    e3 := h.e3
    lq := h.lq
    l1 := h.l1
    l2 := h.l2
    hq := by rw [Heap.set_ne _ _ (Ne.symm b3)]; exact h.hq
    h1 := by obtain ⟨a, b, h3, h4⟩ := h.h1; exact ⟨a, b, by rw [Heap.set_ne _ _ (Ne.symm b4)]; exact h3, h4⟩
    h2 := by obtain ⟨a, b, h3, h4⟩ := h.h2; exact ⟨a, b, by rw [Heap.set_ne _ _ (Ne.symm b5)]; exact h3, h4⟩
    hE := fun p hp => by
      obtain ⟨a1, a2, a3, a4, a5, es', c', a6, a7⟩ := h.hE p hp
      by_cases hpe : p.1 = e
      · have : p.2 = r := by
          have := mem_lkp h.nd (show (p.1, p.2) ∈ E from hp)
          rw [hpe, he] at this; simpa using this.symm
        refine ⟨a1, a2, a3, a4, a5, es, c, by rw [this]; exact Heap.set_same _ _ _, by rw [hpe]; exact hm⟩
      · have hne : p.2 ≠ r := fun e2 => by
          have m1 := lkp_mem he
          obtain ⟨i, hi, hpi⟩ := List.getElem_of_mem hp
          obtain ⟨j, hj, hpj⟩ := List.getElem_of_mem m1
          have hi2 : i < (E.map Prod.snd).length := by simpa using hi
          have hj2 : j < (E.map Prod.snd).length := by simpa using hj
          have := (List.getElem_inj (h₀ := hi2) (h₁ := hj2) h.nd2).1 (by simp [hpi, hpj, e2])
          subst this
          rw [hpi] at hpj
          exact hpe (by rw [hpj])
        exact ⟨a1, a2, a3, a4, a5, es', c', by rw [Heap.set_ne _ _ hne]; exact a6, by rw [hA' _ hpe]; exact a7⟩
    nd := h.nd
    nd2 := h.nd2 }

/-- A heap with one object more. -/
def ext0 (σ0 σ : Heap) (o : AO) : Heap := ⟨σ.next + 1, fun i => if i = σ.next then some o else σ0.get i⟩
theorem ext0_same (σ0 σ : Heap) (o : AO) : (ext0 σ0 σ o).get σ.next = some o := by simp [ext0]
theorem ext0_ne {i : Nat} (σ0 σ : Heap) (o : AO) (h : i ≠ σ.next) : (ext0 σ0 σ o).get i = σ0.get i := by simp [ext0, h]
theorem ext0_lt (hle : HLe σ0 σ) (hc : ∀ r o, σ0.get r = some o → r < σ0.next) (o : AO) : ∀ r x, (ext0 σ0 σ o).get r = some x → r < (ext0 σ0 σ o).next := fun r x hr => by
  by_cases h : r = σ.next
  · rw [h]; exact Nat.lt_succ_self _
  · rw [ext0_ne _ _ _ h] at hr
    have := hc r x hr
    have := hle.next
    show r < σ.next + 1
    omega
theorem ext0_le (hle : HLe σ0 σ) (hc : ∀ r o, σ0.get r = some o → r < σ0.next) (o : AO) : HLe σ0 (ext0 σ0 σ o) := ⟨by have := hle.next; show σ0.next ≤ σ.next + 1; omega, fun r x hr => by
  have h1 := hc r x hr
  have h2 := hle.next
  rw [ext0_ne _ _ _ (by omega)]; exact hr⟩
theorem PGx.ext (h : PGx σ0 σ q r1 r2 M E A) (o : AO) : PGx (ext0 σ0 σ o) (σ.new o) q r1 r2 M E A := {
  le := ⟨Nat.le_refl _, fun r x hr => by
    by_cases hrn : r = σ.next
    · rw [hrn] at hr ⊢; rw [ext0_same] at hr; rw [Heap.new_same]; exact hr
    · rw [ext0_ne _ _ _ hrn] at hr; rw [Heap.new_ne _ _ hrn]; exact h.le.get r x hr⟩
  nq := by rw [ext0_ne _ _ _ (Nat.ne_of_lt h.lq)]; exact h.nq
  n1 := by rw [ext0_ne _ _ _ (Nat.ne_of_lt h.l1)]; exact h.n1
  n2 := by rw [ext0_ne _ _ _ (Nat.ne_of_lt h.l2)]; exact h.n2
  e1 := h.e1
  e2 := h.e2
  e3 := h.e3
  lq := Nat.lt_succ_of_lt h.lq
  l1 := Nat.lt_succ_of_lt h.l1
  l2 := Nat.lt_succ_of_lt h.l2
  hq := by rw [Heap.new_ne _ _ (Nat.ne_of_lt h.lq)]; exact h.hq
  h1 := by obtain ⟨a, b, h3, h4⟩ := h.h1; exact ⟨a, b, by rw [Heap.new_ne _ _ (Nat.ne_of_lt h.l1)]; exact h3, h4⟩
  h2 := by obtain ⟨a, b, h3, h4⟩ := h.h2; exact ⟨a, b, by rw [Heap.new_ne _ _ (Nat.ne_of_lt h.l2)]; exact h3, h4⟩
  hE := fun p hp => by
    obtain ⟨a1, a2, a3, a4, a5, es', c', a6, a7⟩ := h.hE p hp
    exact ⟨by rw [ext0_ne _ _ _ (Nat.ne_of_lt a2)]; exact a1, Nat.lt_succ_of_lt a2, a3, a4, a5, es', c', by rw [Heap.new_ne _ _ (Nat.ne_of_lt a2)]; exact a6, a7⟩
  nd := h.nd
  nd2 := h.nd2 }
/-- Told over a smaller heap. -/
theorem PGx.low {σb : Heap} (h : PGx σb σ q r1 r2 M E A) (hle : HLe σ0 σb) : PGx σ0 σ q r1 r2 M E A := by
  have key : ∀ r, σb.get r = none → σ0.get r = none := fun r hr => by
    cases hz : σ0.get r with
    | none => rfl
    | some o => rw [hle.get _ _ hz] at hr; cases hr
  exact { h with le := hle.trans h.le, nq := key _ h.nq, n1 := key _ h.n1, n2 := key _ h.n2, hE := fun p hp => by obtain ⟨a1, a2⟩ := h.hE p hp; exact ⟨key _ a1, a2⟩ }
theorem PGx.more {σ' : Heap} (h : PGx σ0 σ q r1 r2 M E A) (hle : HLe σ σ') : PGx σ0 σ' q r1 r2 M E A :=
  { h with
    le := h.le.trans hle
    lq := Nat.lt_of_lt_of_le h.lq hle.next
    l1 := Nat.lt_of_lt_of_le h.l1 hle.next
    l2 := Nat.lt_of_lt_of_le h.l2 hle.next
    hq := hle.get _ _ h.hq
    h1 := by obtain ⟨a, b, h3, h4⟩ := h.h1; exact ⟨a, b, hle.get _ _ h3, h4⟩
    h2 := by obtain ⟨a, b, h3, h4⟩ := h.h2; exact ⟨a, b, hle.get _ _ h3, h4⟩
    hE := fun p hp => by
      obtain ⟨a1, a2, a3, a4, a5, es', c', a6, a7⟩ := h.hE p hp
      exact ⟨a1, Nat.lt_of_lt_of_le a2 hle.next, a3, a4, a5, es', c', hle.get _ _ a6, a7⟩ }
/-- What is looked up. -/
theorem PGx.lk1 (h : PGx σ0 σ q r1 r2 M E A) (k : ByteArray × ByteArray) : lookupD Zs σ.get 40 (.map r1) (.agg [.str k.1, .str k.2]) false = some (.int .i64 ((lkp M k).getD 0)) := by
  obtain ⟨es, c, h3, h4⟩ := h.h1
  have := lookup_is (z := .int .i64 0) keyK tz40 rfl tz3 rfl h3 h4 k
  rw [show D.agg [.str k.1, .str k.2] = encK k from rfl, this]
  cases lkp M k <;> rfl
theorem PGx.lk2 (h : PGx σ0 σ q r1 r2 M E A) (e : ByteArray) : lookupD Zs σ.get 41 (.map r2) (.str e) false = some (match lkp E e with | some r => .map r | none => .nilmap) := by
  obtain ⟨es, c, h3, h4⟩ := h.h2
  have := lookup_is (z := .nilmap) keyStr tz41 rfl tz57 rfl h3 h4 e
  rw [this]
  cases lkp E e <;> rfl
theorem PGx.lk3 (h : PGx σ0 σ q r1 r2 M E A) {e : ByteArray} {r : Nat} (he : lkp E e = some r) (t : ByteArray) : lookupD Zs σ.get 57 (.map r) (.str t) false = some (.int .i64 ((lkp (A e) t).getD 0)) := by
  obtain ⟨_, _, _, _, _, es, c, h3, h4⟩ := h.hE _ (lkp_mem he)
  have := lookup_is (z := .int .i64 0) keyStr tz57 rfl tz3 rfl h3 h4 t
  rw [this]
  cases lkp (A e) t <;> rfl
end
theorem lk_nil (g : Nat → Option AO) (t : ByteArray) : lookupD Zs g 57 .nilmap (.str t) false = some (.int .i64 0) := lookup_nil keyStr tz57 rfl tz3 rfl t
end Go.Proofs.YthchlpikcpidaaaDoor.Vs

/- numbers of Ythchlpikcpidaaa -/
namespace Go.Proofs.YthchlpikcpidaaaDoor.Vs
set_option linter.unusedVariables false
set_option linter.unusedSimpArgs false
set_option maxRecDepth 20000
abbrev CF := ByteArray → ByteArray → Int
def PGA (E : EL) (A : AF) (cf : CF) : Prop := ∀ e, (lkp E e = none → ∀ t, cf e t = 0) ∧ (lkp E e ≠ none → Cnt (A e) (cf e) ∧ A e ≠ [])
/-- The program's guesser, made over a heap: how often each word stood with each tag, and each ending. -/
def PG (σ0 : Heap) (mf : ByteArray × ByteArray → Int) (cf : CF) (q : Nat) (σ : Heap) : Prop := ∃ r1 r2 M E A, PGx σ0 σ q r1 r2 M E A ∧ Cnt M mf ∧ PGA E A cf
def stepF (cf : CF) (e tag : ByteArray) (n : Int) : CF := fun e' => if e' = e then addAt (addAt (cf e') tag n) noB n else cf e'
def putF (cf : CF) (w : Wd) (tag : ByteArray) (n : Int) : Nat → CF
  | 0 => cf
  | k + 1 => stepF (putF cf w tag n k) (keyB (suf w k) sp) tag n
theorem addAt_bound {κ : Type} [DecidableEq κ] {f : κ → Int} {k : κ} {n b : Int} (hf : ∀ x, -b ≤ f x ∧ f x ≤ b) (hn : -1000 ≤ n ∧ n ≤ 1000) (x : κ) : -(b + 1000) ≤ addAt f k n x ∧ addAt f k n x ≤ b + 1000 := by
  have := hf x
  unfold addAt
  split <;> omega
theorem putF_bound {cf : CF} {w : Wd} {tag : ByteArray} {n : Int} (hf : ∀ e t, -1000 ≤ cf e t ∧ cf e t ≤ 1000) (hn : -1000 ≤ n ∧ n ≤ 1000) : ∀ (k : Nat) (e t : ByteArray), -(1000 + 2000 * (k : Int)) ≤ putF cf w tag n k e t ∧ putF cf w tag n k e t ≤ 1000 + 2000 * (k : Int)
  | 0, e, t => by have := hf e t; simp only [putF]; omega
  | k + 1, e, t => by
    have ih := putF_bound hf hn (w := w) (tag := tag) k e
    simp only [putF, stepF]
    split
    · have h1 := fun x => addAt_bound (k := tag) ih hn x
      have h2 := addAt_bound (k := noB) h1 hn t
      have : ((k + 1 : Nat) : Int) = (k : Int) + 1 := by omega
      omega
    · have := ih t
      have : ((k + 1 : Nat) : Int) = (k : Int) + 1 := by omega
      omega

/-- Two ways come to one loop. -/
theorem share {Z : Sys} {a : LCode} {Q : Ex → Env → Heap → Prop} {G : Prop} (R : Env → Heap → Prop) (key : ∀ env s, R env s → kLoop Z a Q env s ⟨⟩) (main : (∀ env s, R env s → kLoop Z a Q env s ⟨⟩) → G) : G := main key

theorem Cnt.val {κ : Type} [DecidableEq κ] {m : List (κ × Int)} {f : κ → Int} (h : Cnt m f) (k : κ) : (lkp m k).getD 0 = f k := (h.2.2 k).symm
theorem PGA.other {E E' : EL} {A A' : AF} {cf cf' : CF} (h : PGA E A cf) {e : ByteArray} (h1 : ∀ e', e' ≠ e → lkp E' e' = lkp E e' ∧ A' e' = A e' ∧ cf' e' = cf e') (h2 : (lkp E' e = none → ∀ t, cf' e t = 0) ∧ (lkp E' e ≠ none → Cnt (A' e) (cf' e) ∧ A' e ≠ [])) : PGA E' A' cf' := fun e' => by
  by_cases he : e' = e
  · subst he; exact h2
  · obtain ⟨a, b, c⟩ := h1 e' he
    rw [a, b, c]; exact h e'
def tgs (tag : ByteArray) (j : Nat) : ByteArray := if j = 0 then tag else noB
def inn (f : ByteArray → Int) (tag : ByteArray) (n : Int) : Nat → ByteArray → Int
  | 0 => f
  | j + 1 => addAt (inn f tag n j) (tgs tag j) n
theorem tgs_at (tag : ByteArray) {j : Nat} (h : j < 2) : ([.str tag, .str ⟨#[]⟩] : List D)[j]? = some (.str (tgs tag j)) := by
  have : j = 0 ∨ j = 1 := by omega
  rcases this with rfl | rfl <;> rfl

theorem bt79 (a b : ByteArray) : aBuilt Zs 48 [(0, .str a), (1, .str b)] = some [.str a, .str b] := by rfl
theorem put_c (x : Smp) (n : Int) (mf : ByteArray × ByteArray → Int) (cf : CF) (q : Nat) (hg : goodW x.word) (hn : -1000 ≤ n ∧ n ≤ 1000) (hmf : ∀ k, -1000 ≤ mf k ∧ mf k ≤ 1000) (hcf : ∀ e t, -1000 ≤ cf e t ∧ cf e t ≤ 1000) (σ0 σ : Heap) (hc0 : ∀ r o, σ0.get r = some o → r < σ0.next) (h : PG σ0 mf cf q σ) :
    PCall Zs 14 [.ptr q 0, aggS x, .int .i64 n] σ (fun d τ => PG σ0 (addAt mf (keyB x.word sp, x.tag) n) (putF cf x.word x.tag n (min x.word.length 4 + 1)) q τ) := by
  obtain ⟨r1, r2, M, E, A, hP, hM, hA⟩ := h
  refine pcall_of (Z := Zs) ok14 fun hcl hbl => ?_
  simp -dsimp only [L14, aggS, encSS, ↓preB, postB, genB, ↓reduceIte, Nat.reduceEqDiff, Int.reduceToNat, Int.reduceLE, Int.reduceLT, Nat.reduceAdd, Nat.reduceLeDiff, intBin, strBin, unD, extractD, lit1, lit2, lit3, keptD, boxR, D.one, D.pub1, D.cells, splice, cutOwn]
  have hP1 := hP.ext (.cells 25 [.sl .no x.word.length (x.word.map .str), .str x.tag, .int .i64 x.many])
  have hlt1 := ext0_lt hP.le hc0 (.cells 25 [.sl .no x.word.length (x.word.map .str), .str x.tag, .int .i64 x.many])
  have hle01 := ext0_le hP.le hc0 (.cells 25 [.sl .no x.word.length (x.word.map .str), .str x.tag, .int .i64 x.many])
  have hb1 := ext0_same σ0 σ (.cells 25 [.sl .no x.word.length (x.word.map .str), .str x.tag, .int .i64 x.many])
  have hn1 : (σ.new (.cells 25 [.sl .no x.word.length (x.word.map .str), .str x.tag, .int .i64 x.many])).next = σ.next + 1 := rfl
  have hnb : (ext0 σ0 σ (.cells 25 [.sl .no x.word.length (x.word.map .str), .str x.tag, .int .i64 x.many])).next = σ.next + 1 := rfl
  generalize ext0 σ0 σ (.cells 25 [.sl .no x.word.length (x.word.map .str), .str x.tag, .int .i64 x.many]) = σa at *
  obtain ⟨s1, hs1⟩ : ∃ s1, σ.new (.cells 25 [.sl .no x.word.length (x.word.map .str), .str x.tag, .int .i64 x.many]) = s1 := ⟨_, rfl⟩
  rw [hs1] at hP1 hn1
  refine draw_a 7 6 (s1.new (.cells 48 [.str ⟨#[]⟩, .str ⟨#[]⟩])) (by decide) (by decide) (by decide) ?_
  have g1 := hP1.le.get _ _ hb1
  have g2 : ∀ o, (s1.new o).get σ.next = some (.cells 25 [.sl .no x.word.length (x.word.map .str), .str x.tag, .int .i64 x.many]) := fun o => by rw [Heap.new_ne _ _ (by omega)]; exact g1
  simp -dsimp only [hs1, g1, g2, encSS, actOps_nil, actOps_act, actOps_hf, actOps_two, actOp_alloc, actOp_mapEntry, actOp_makeMap, actOp_box, kAct_some, hfB, ne_eq, eq_self, ↓preB, postB, genB, ↓reduceIte, Nat.reduceEqDiff, Int.reduceToNat, Int.reduceLE, Int.reduceLT, Nat.reduceAdd, Nat.reduceLeDiff, intBin, strBin, unD, extractD, lit1, lit2, lit3, keptD, boxR, D.one, D.pub1, D.cells, splice, cutOwn]
  refine Fn.useS (gkey_c _ hg) ?_
  simp -dsimp only [hs1, g1, g2, encSS, actOps_nil, actOps_act, actOps_hf, actOps_two, actOp_alloc, actOp_mapEntry, actOp_makeMap, actOp_box, kAct_some, hfB, ne_eq, eq_self, ↓preB, postB, genB, ↓reduceIte, Nat.reduceEqDiff, Int.reduceToNat, Int.reduceLE, Int.reduceLT, Nat.reduceAdd, Nat.reduceLeDiff, intBin, strBin, unD, extractD, lit1, lit2, lit3, keptD, boxR, D.one, D.pub1, D.cells, splice, cutOwn]
  refine Fn.useS (gkey_c _ hg) ?_
  simp -dsimp only [hs1, g1, g2, bt79, encSS, actOps_nil, actOps_act, actOps_hf, actOps_two, actOp_alloc, actOp_mapEntry, actOp_makeMap, actOp_box, kAct_some, hfB, ne_eq, eq_self, ↓preB, postB, genB, ↓reduceIte, Nat.reduceEqDiff, Int.reduceToNat, Int.reduceLE, Int.reduceLT, Nat.reduceAdd, Nat.reduceLeDiff, intBin, strBin, unD, extractD, lit1, lit2, lit3, keptD, boxR, D.one, D.pub1, D.cells, splice, cutOwn]
  have hP3 := hP1.ext (.cells 48 [.str (keyB x.word sp), .str x.tag])
  have hle02 := ext0_le hP1.le hlt1 (.cells 48 [.str (keyB x.word sp), .str x.tag])
  have hltb := ext0_lt hP1.le hlt1 (.cells 48 [.str (keyB x.word sp), .str x.tag])
  have hb2 := ext0_same σa s1 (.cells 48 [.str (keyB x.word sp), .str x.tag])
  have hb1' := hle02.get _ _ hb1
  have hle0 := hle01.trans hle02
  have hnext3 : (ext0 σa s1 (.cells 48 [.str (keyB x.word sp), .str x.tag])).next = σ.next + 2 := by show s1.next + 1 = _; omega
  obtain ⟨σb, hσb⟩ : ∃ σb, ext0 σa s1 (.cells 48 [.str (keyB x.word sp), .str x.tag]) = σb := ⟨_, rfl⟩
  obtain ⟨s3, hs3⟩ : ∃ s3, s1.new (.cells 48 [.str (keyB x.word sp), .str x.tag]) = s3 := ⟨_, rfl⟩
  rw [hσb, hs3] at hP3
  rw [hσb] at hle02 hltb hb2 hb1' hle0 hnext3
  rw [hn1] at hb2
  have gk := hP3.le.get _ _ hb2
  generalize hkk : (keyB x.word sp, x.tag) = kk at *
  have hk1 : kk.1 = keyB x.word sp := by rw [← hkk]
  have hk2 : kk.2 = x.tag := by rw [← hkk]
  obtain ⟨es1, c1, hr1, hm1⟩ := hP3.h1
  obtain ⟨es', c', b, hme, hmi, hst⟩ := mapEntry_is (v0 := (0 : Int)) keyK tz40 rfl tz3 rfl hr1 hm1 kk
  rw [hM.val kk] at hme hmi hst
  have hP4 := hP3.setM hmi
  obtain ⟨s4, hs4⟩ : ∃ s4, s3.set r1 (.map es' c') = s4 := ⟨_, rfl⟩
  rw [hs4] at hP4
  have gk4 := hP4.le.get _ _ hb2
  have hlk3 := hP3.lk1 kk
  have hlk4 := hP4.lk1 kk
  rw [hM.val kk, hk1, hk2] at hlk3
  rw [lkp_ins, if_pos rfl, Option.getD_some, hk1, hk2] at hlk4
  have hme' : mapEntryR Zs s3.get 40 (.map r1) (.agg [.str (keyB x.word sp), .str x.tag]) = some (.tup [.int .i64 (mf kk), .int .i64 (b : Int)], .put r1 (.map es' c')) := by
    rw [← hk1, ← hk2]; exact hme
  have hwm : IntKind.i64.wrap (mf kk + n) = mf kk + n := by have := hmf kk; exact wrap64_in (by omega) (by omega)
  have hn13 : s1.next = σ.next + 1 := hn1
  have hs3' : (s1.new (.cells 48 [.str ⟨#[]⟩, .str ⟨#[]⟩])).set (σ.next + 1) (.cells 48 [.str (keyB x.word sp), .str x.tag]) = s3 := by rw [← hn1, Heap.new_set, hs3]
  refine draw_a 10 8 s4 (by decide) (by decide) (by decide) ?_
  simp -dsimp only [hs1, hs3', hn13, hP3.hq, hP4.hq, gk, gk4, hlk3, hlk4, hme', hs4, hwm, actOps_nil, actOps_act, actOps_hf, actOps_two, actOp_alloc, actOp_mapEntry, actOp_makeMap, actOp_box, kAct_some, hfB, ne_eq, eq_self, ↓preB, postB, genB, ↓reduceIte, Nat.reduceEqDiff, Int.reduceToNat, Int.reduceLE, Int.reduceLT, Nat.reduceAdd, Nat.reduceLeDiff, intBin, strBin, unD, extractD, lit1, lit2, lit3, keptD, boxR, D.one, D.pub1, D.cells, splice, cutOwn]
  obtain ⟨es4, c4, hr4, hm4⟩ := hP4.h1
  have hr4' : s4.get r1 = some (.map es' c') := by rw [← hs4]; exact Heap.set_same _ _ _
  rw [hr4'] at hr4
  cases hr4
  refine entryStore_go (encv := iD) hr4' hm4 hst (mf kk + n) fun es5 hm5 => ?_
  have hP5 := hP4.setM hm5
  rw [insA_twice] at hP5
  obtain ⟨s5, hs5⟩ : ∃ s5, s4.set r1 (.map es5 c') = s5 := ⟨_, rfl⟩
  rw [hs5] at hP5
  have gk5 := hP5.le.get _ _ hb2
  have hlk5 := hP5.lk1 kk
  rw [lkp_ins, if_pos rfl, Option.getD_some, hk1, hk2] at hlk5
  simp -dsimp only [hs5, ↓preB, postB, genB, ↓reduceIte, Nat.reduceEqDiff, Int.reduceToNat, Int.reduceLE, Int.reduceLT, Nat.reduceAdd, Nat.reduceLeDiff, intBin, strBin, unD, extractD, lit1, lit2, lit3, keptD, boxR, D.one, D.pub1, D.cells, splice, cutOwn]
  refine draw_s ?_
  simp -dsimp only [hs5, hP5.hq, gk5, hlk5, ↓preB, postB, genB, ↓reduceIte, Nat.reduceEqDiff, Int.reduceToNat, Int.reduceLE, Int.reduceLT, Nat.reduceAdd, Nat.reduceLeDiff, intBin, strBin, unD, extractD, lit1, lit2, lit3, keptD, boxR, D.one, D.pub1, D.cells, splice, cutOwn]
  apply share (R := fun env s => env 0 = .ptr q 0 ∧ env 2 = .int .i64 n ∧ env 4 = .ptr σ.next 0 ∧ env 7 = .int .i64 0 ∧ ∃ M', PGx σb s q r1 r2 M' E A ∧ Cnt M' (addAt mf kk n))
  case main =>
    intro key
    by_cases hz : mf kk + n = 0
    · have hz' : (mf kk + n == 0) = true := by simpa using hz
      simp -dsimp only [hz', ↓preB, postB, genB, ↓reduceIte, Nat.reduceEqDiff, Int.reduceToNat, Int.reduceLE, Int.reduceLT, Nat.reduceAdd, Nat.reduceLeDiff, intBin, strBin, unD, extractD, lit1, lit2, lit3, keptD, boxR, D.one, D.pub1, D.cells, splice, cutOwn]
      refine draw_t 5 (by decide) ?_
      simp -dsimp only [hs5, hP5.hq, gk5, ↓preB, postB, genB, ↓reduceIte, Nat.reduceEqDiff, Int.reduceToNat, Int.reduceLE, Int.reduceLT, Nat.reduceAdd, Nat.reduceLeDiff, intBin, strBin, unD, extractD, lit1, lit2, lit3, keptD, boxR, D.one, D.pub1, D.cells, splice, cutOwn]
      obtain ⟨es6, c6, hr6, hm6⟩ := hP5.h1
      have hkd : D.agg [.str (keyB x.word sp), .str x.tag] = encK kk := by rw [← hkk]; rfl
      rw [hkd]
      refine delete_go (t := 40) keyK rfl tz40 rfl hr6 hm6 kk fun es7 hm7 => ?_
      have hP6 := hP5.setM hm7
      simp -dsimp only [↓preB, postB, genB, ↓reduceIte, Nat.reduceEqDiff, Int.reduceToNat, Int.reduceLE, Int.reduceLT, Nat.reduceAdd, Nat.reduceLeDiff, intBin, strBin, unD, extractD, lit1, lit2, lit3, keptD, boxR, D.one, D.pub1, D.cells, splice, cutOwn]
      refine key _ _ ?_
      simp only [upd_apply, envOf_apply, Nat.reduceEqDiff, if_true, if_false]
      exact ⟨rfl, rfl, trivial, trivial, _, hP6, hM.sub kk n hz⟩
    · have hz' : (mf kk + n == 0) = false := by simpa using hz
      simp -dsimp only [hz', ↓preB, postB, genB, ↓reduceIte, Nat.reduceEqDiff, Int.reduceToNat, Int.reduceLE, Int.reduceLT, Nat.reduceAdd, Nat.reduceLeDiff, intBin, strBin, unD, extractD, lit1, lit2, lit3, keptD, boxR, D.one, D.pub1, D.cells, splice, cutOwn]
      refine key _ _ ?_
      simp only [upd_apply, envOf_apply, Nat.reduceEqDiff, if_true, if_false]
      exact ⟨rfl, rfl, trivial, trivial, _, hP5, hM.add kk n hz⟩
  case key =>
    rintro env s ⟨h0, h2, h4, h7, M', hPs, hMs⟩
    have hms : min x.word.length 4 ≤ 4 := Nat.min_le_right _ _
    refine pwp_loopG (fun k env s => k ≤ min x.word.length 4 + 1 ∧ env 7 = .int .i64 (k:Nat) ∧ env 0 = .ptr q 0 ∧ env 2 = .int .i64 n ∧ env 4 = .ptr σ.next 0 ∧ ∃ M' E' A', PGx σb s q r1 r2 M' E' A' ∧ Cnt M' (addAt mf kk n) ∧ PGA E' A' (putF cf x.word x.tag n k)) (fun k => min x.word.length 4 + 1 - k) 0 ?_ ?_
    · exact ⟨Nat.zero_le _, h7, h0, h2, h4, M', E, A, hPs, hMs, hA⟩
    · clear h0 h2 h4 h7 hPs hMs
      rintro k env s ⟨hk, h7, h0, h2, h4, M', E', A', hPs, hMs, hAs⟩
      have gp := hPs.le.get _ _ hb1'
      have hmin : (if (4 : Int) < (x.word.length : Int) then (4 : Int) else (x.word.length : Int)) = ((min x.word.length 4 : Nat) : Int) := by split <;> omega
      rcases Nat.lt_or_ge (min x.word.length 4) k with hge | hle
      · have hke : k = min x.word.length 4 + 1 := by omega
        have hc : ¬ (k : Int) ≤ ((min x.word.length 4 : Nat) : Int) := by omega
        simp -dsimp only [h7, h0, h2, h4, gp, hmin, hc, ↓preB, postB, genB, ↓reduceIte, Nat.reduceEqDiff, Int.reduceToNat, Int.reduceLE, Int.reduceLT, Nat.reduceAdd, Nat.reduceLeDiff, intBin, strBin, unD, extractD, lit1, lit2, lit3, keptD, boxR, D.one, D.pub1, D.cells, splice, cutOwn]
        intros
        refine Ret.now (Nat.le_trans (by rw [hnext3]; omega) hPs.le.next) ⟨r1, r2, M', E', A', hPs.low hle0, hMs, ?_⟩
        rw [← hke]; exact hAs
      · have hc : (k : Int) ≤ ((min x.word.length 4 : Nat) : Int) := by omega
        have hkl : k ≤ x.word.length := by omega
        have hkl2 : ((x.word.length - k : Nat) : Int) ≤ (x.word.length : Int) := by omega
        have hsuf : D.sl .no (x.word.length - (x.word.length - k)) (((x.word.map D.str).drop (x.word.length - k)).take (x.word.length - (x.word.length - k))) = encSS (suf x.word k) := encSS_drop _ _ (Nat.sub_le _ _)
        have hws := wsub hkl (show x.word.length ≤ big by have := hg.1; simp only [big]; omega)
        have hbd := putF_bound (w := x.word) (tag := x.tag) hcf hn k
        simp -dsimp only [h7, h0, h2, h4, gp, hmin, hc, hws, hkl2, hsuf, ↓preB, postB, genB, ↓reduceIte, Nat.reduceEqDiff, Int.reduceToNat, Int.reduceLE, Int.reduceLT, Nat.reduceAdd, Nat.reduceLeDiff, intBin, strBin, unD, extractD, lit1, lit2, lit3, keptD, boxR, D.one, D.pub1, D.cells, splice, cutOwn]
        intros
        refine ⟨by omega, ?_⟩
        refine Fn.use (gkey_c _ (hg.drop _)) ?_
        generalize he : keyB (suf x.word k) sp = e
        have hstep : putF cf x.word x.tag n (k + 1) = stepF (putF cf x.word x.tag n k) e x.tag n := by rw [← he]; rfl
        generalize hf0 : putF cf x.word x.tag n k = F at *
        have hl2 := hPs.lk2 e
        apply share (R := fun env' s' => env' 7 = .int .i64 (k:Nat) ∧ env' 0 = .ptr q 0 ∧ env' 2 = .int .i64 n ∧ env' 4 = .ptr σ.next 0 ∧ env' 8 = .str e ∧ env' 71 = .sl .full 2 [.str x.tag, .str ⟨#[]⟩] ∧ env' 72 = .int .i64 2 ∧ env' 73 = .int .i64 0 ∧ ∃ E2 A2 re, PGx σb s' q r1 r2 M' E2 A2 ∧ lkp E2 e = some re ∧ Cnt (A2 e) (F e) ∧ ∀ e', e' ≠ e → lkp E2 e' = lkp E' e' ∧ A2 e' = A' e')
        case main =>
          intro key2
          cases hE : lkp E' e with
          | none =>
            rw [hE] at hl2
            simp -dsimp only [h7, h0, h2, h4, gp, hPs.hq, hl2, ↓preB, postB, genB, ↓reduceIte, Nat.reduceEqDiff, Int.reduceToNat, Int.reduceLE, Int.reduceLT, Nat.reduceAdd, Nat.reduceLeDiff, intBin, strBin, unD, extractD, lit1, lit2, lit3, keptD, boxR, D.one, D.pub1, D.cells, splice, cutOwn]
            obtain ⟨es2, c2, hr2, hm2⟩ := hPs.h2
            have hr2' : ∀ o, (s.new o).get r2 = some (.map es2 c2) := fun o => by rw [Heap.new_ne _ _ (Nat.ne_of_lt hPs.l2)]; exact hr2
            refine mapUpdate_go (encv := D.map) keyStr tz41 rfl (hr2' _) hm2 e s.next fun es3 c3 hm3 => ?_
            have hP7 := hPs.addE hltb hE hm3 (fun e' => if e' = e then [] else A' e') (by simp) (fun e' h => by simp [h])
            have gp7 := hP7.le.get _ _ hb1'
            have hF : F e = fun _ => 0 := funext fun t => (hAs e).1 hE t
            simp -dsimp only [h7, h0, h2, h4, gp7, ↓preB, postB, genB, ↓reduceIte, Nat.reduceEqDiff, Int.reduceToNat, Int.reduceLE, Int.reduceLT, Nat.reduceAdd, Nat.reduceLeDiff, intBin, strBin, unD, extractD, lit1, lit2, lit3, keptD, boxR, D.one, D.pub1, D.cells, splice, cutOwn]
            intros
            refine key2 _ _ ?_
            simp only [upd_apply, Nat.reduceEqDiff, if_true, if_false]
            refine ⟨h7, h0, h2, h4, trivial, trivial, rfl, trivial, _, _, s.next, hP7, by rw [lkp_ins, if_pos rfl], ?_, fun e' h => ⟨by rw [lkp_ins, if_neg (fun h' => h h'.symm)], by simp [h]⟩⟩
            rw [if_pos rfl, hF]; exact Cnt.nil
          | some re =>
            rw [hE] at hl2
            simp -dsimp only [h7, h0, h2, h4, gp, hPs.hq, hl2, ↓preB, postB, genB, ↓reduceIte, Nat.reduceEqDiff, Int.reduceToNat, Int.reduceLE, Int.reduceLT, Nat.reduceAdd, Nat.reduceLeDiff, intBin, strBin, unD, extractD, lit1, lit2, lit3, keptD, boxR, D.one, D.pub1, D.cells, splice, cutOwn]
            intros
            refine key2 _ _ ?_
            simp only [upd_apply, Nat.reduceEqDiff, if_true, if_false]
            exact ⟨h7, h0, h2, h4, trivial, trivial, rfl, trivial, E', A', re, hPs, hE, ((hAs e).2 (by rw [hE]; simp)).1, fun _ _ => ⟨rfl, rfl⟩⟩
        case key =>
          rintro env' s' ⟨h7, h0, h2, h4, h8, h71, h72, h73, E2, A2, re, hP2, hre, hC2, hoth⟩
          refine pwp_loopG (fun j env s => j ≤ 2 ∧ env 73 = .int .i64 (j:Nat) ∧ env 72 = .int .i64 2 ∧ env 71 = .sl .full 2 [.str x.tag, .str ⟨#[]⟩] ∧ env 7 = .int .i64 (k:Nat) ∧ env 0 = .ptr q 0 ∧ env 2 = .int .i64 n ∧ env 4 = .ptr σ.next 0 ∧ env 8 = .str e ∧ ∃ A3, PGx σb s q r1 r2 M' E2 A3 ∧ Cnt (A3 e) (inn (F e) x.tag n j) ∧ ∀ e', e' ≠ e → A3 e' = A2 e') (fun j => 2 - j) 0 ?_ ?_
          · exact ⟨by omega, h73, h72, h71, h7, h0, h2, h4, h8, A2, hP2, hC2, fun _ _ => rfl⟩
          · clear h7 h0 h2 h4 h8 h71 h72 h73 hP2 hC2
            rintro j env s ⟨hj, h73, h72, h71, h7, h0, h2, h4, h8, A3, hP8, hC3, hoth3⟩
            have hl2 := hP8.lk2 e
            rw [hre] at hl2
            obtain ⟨_, _, _, _, _, es, c, hr, hm⟩ := hP8.hE _ (lkp_mem hre)
            rcases Nat.lt_or_ge j 2 with hlt | hge
            · have hx := tgs_at x.tag hlt
              have hl3 := hP8.lk3 hre (tgs x.tag j)
              rw [hC3.val] at hl3
              have hib : -(1000 + 2000 * (k : Int) + 2000) ≤ inn (F e) x.tag n j (tgs x.tag j) ∧ inn (F e) x.tag n j (tgs x.tag j) ≤ 1000 + 2000 * (k : Int) + 2000 := by
                have h0 := fun t => hbd e t
                have h1 := fun t => addAt_bound (k := tgs x.tag 0) h0 hn t
                have : j = 0 ∨ j = 1 := by omega
                rcases this with rfl | rfl
                · have := h0 (tgs x.tag 0); simp only [inn]; omega
                · have := h1 (tgs x.tag 1); simp only [inn]; omega
              have hww : IntKind.i64.wrap (inn (F e) x.tag n j (tgs x.tag j) + n) = inn (F e) x.tag n j (tgs x.tag j) + n := wrap64_in (by omega) (by omega)
              have hjl : (j : Int) < 2 := by omega
              simp -dsimp only [h73, h72, h71, h7, h0, h2, h4, h8, hx, hjl, hP8.hq, hl2, hl3, hww, ↓preB, postB, genB, ↓reduceIte, Nat.reduceEqDiff, Int.reduceToNat, Int.reduceLE, Int.reduceLT, Nat.reduceAdd, Nat.reduceLeDiff, intBin, strBin, unD, extractD, lit1, lit2, lit3, keptD, boxR, D.one, D.pub1, D.cells, splice, cutOwn]
              refine ⟨by omega, ?_⟩
              refine mapUpdate_go (encv := iD) keyStr tz57 rfl hr hm (tgs x.tag j) (inn (F e) x.tag n j (tgs x.tag j) + n) fun es' c' hm' => ?_
              have hP9 := hP8.setA hre (fun e' => if e' = e then insA (A3 e) (tgs x.tag j) (inn (F e) x.tag n j (tgs x.tag j) + n) else A3 e') (by rw [if_pos rfl]; exact hm') (fun e' h => by rw [if_neg h])
              have hl4 := hP9.lk2 e
              rw [hre] at hl4
              have hl5 := hP9.lk3 hre (tgs x.tag j)
              rw [if_pos rfl, lkp_ins, if_pos rfl, Option.getD_some] at hl5
              by_cases hz : inn (F e) x.tag n j (tgs x.tag j) + n = 0
              · have hz' : (inn (F e) x.tag n j (tgs x.tag j) + n == 0) = true := by simpa using hz
                simp -dsimp only [h73, h72, h71, h7, h0, h2, h4, h8, hP9.hq, hl4, hl5, hz', ↓preB, postB, genB, ↓reduceIte, Nat.reduceEqDiff, Int.reduceToNat, Int.reduceLE, Int.reduceLT, Nat.reduceAdd, Nat.reduceLeDiff, intBin, strBin, unD, extractD, lit1, lit2, lit3, keptD, boxR, D.one, D.pub1, D.cells, splice, cutOwn]
                refine delete_go (encv := iD) (t := 57) keyStr rfl tz57 rfl (Heap.set_same _ _ _) hm' (tgs x.tag j) fun es9 hm9 => ?_
                have hP10 := hP9.setA hre (fun e' => if e' = e then delA (insA (A3 e) (tgs x.tag j) (inn (F e) x.tag n j (tgs x.tag j) + n)) (tgs x.tag j) else A3 e') (by rw [if_pos rfl]; exact hm9) (fun e' h => by rw [if_neg h, if_neg h])
                simp -dsimp only [h73, h72, h71, h7, h0, h2, h4, h8, ↓preB, postB, genB, ↓reduceIte, Nat.reduceEqDiff, Int.reduceToNat, Int.reduceLE, Int.reduceLT, Nat.reduceAdd, Nat.reduceLeDiff, intBin, strBin, unD, extractD, lit1, lit2, lit3, keptD, boxR, D.one, D.pub1, D.cells, splice, cutOwn]
                refine ⟨j + 1, ⟨by omega, wrap64_succ (by simp only [big]; omega), ?_⟩, by omega⟩
                refine ⟨_, by rw [Heap.set_set] at hP10; exact hP10, ?_, fun e' h => by rw [if_neg h]; exact hoth3 e' h⟩
                rw [if_pos rfl]; exact hC3.sub _ _ hz
              · have hz' : (inn (F e) x.tag n j (tgs x.tag j) + n == 0) = false := by simpa using hz
                simp -dsimp only [h73, h72, h71, h7, h0, h2, h4, h8, hP9.hq, hl4, hl5, hz', ↓preB, postB, genB, ↓reduceIte, Nat.reduceEqDiff, Int.reduceToNat, Int.reduceLE, Int.reduceLT, Nat.reduceAdd, Nat.reduceLeDiff, intBin, strBin, unD, extractD, lit1, lit2, lit3, keptD, boxR, D.one, D.pub1, D.cells, splice, cutOwn]
                refine ⟨j + 1, ⟨by omega, wrap64_succ (by simp only [big]; omega), ?_⟩, by omega⟩
                refine ⟨_, hP9, ?_, fun e' h => by rw [if_neg h]; exact hoth3 e' h⟩
                rw [if_pos rfl]; exact hC3.add _ _ hz
            · have hj2 : j = 2 := by omega
              subst hj2
              have hne : ¬ ((2 : Nat) : Int) < 2 := by decide
              have hlen : es.length = (A3 e).length := hm.len
              have hcf : putF cf x.word x.tag n (k + 1) e = inn (F e) x.tag n 2 := by rw [hstep, stepF, if_pos rfl]; rfl
              have hoth2 : ∀ e', e' ≠ e → putF cf x.word x.tag n (k + 1) e' = F e' := fun e' h => by rw [hstep, stepF, if_neg h]
              have hk1 : IntKind.i64.wrap ((k : Int) + 1) = ((k + 1 : Nat) : Int) := wrap64_succ (by simp only [big]; omega)
              cases hA0 : A3 e with
              | nil =>
                have hl0 : ((es.length : Int) == 0) = true := by rw [hlen, hA0]; rfl
                simp -dsimp only [h73, h72, h71, h7, h0, h2, h4, h8, hP8.hq, hl2, hr, hl0, hne, ↓preB, postB, genB, ↓reduceIte, Nat.reduceEqDiff, Int.reduceToNat, Int.reduceLE, Int.reduceLT, Nat.reduceAdd, Nat.reduceLeDiff, intBin, strBin, unD, extractD, lit1, lit2, lit3, keptD, boxR, D.one, D.pub1, D.cells, splice, cutOwn]
                obtain ⟨es2, c2, hr2, hm2⟩ := hP8.h2
                refine delete_go (encv := D.map) (t := 41) keyStr rfl tz41 rfl hr2 hm2 e fun es9 hm9 => ?_
                have hP10 := hP8.delE e hm9
                simp -dsimp only [h73, h72, h71, h7, h0, h2, h4, h8, ↓preB, postB, genB, ↓reduceIte, Nat.reduceEqDiff, Int.reduceToNat, Int.reduceLE, Int.reduceLT, Nat.reduceAdd, Nat.reduceLeDiff, intBin, strBin, unD, extractD, lit1, lit2, lit3, keptD, boxR, D.one, D.pub1, D.cells, splice, cutOwn]
                refine ⟨k + 1, ⟨by omega, hk1, M', delA E2 e, A3, hP10, hMs, ?_⟩, by omega⟩
                refine hAs.other (e := e) (fun e' h => ⟨?_, by rw [hoth3 e' h, (hoth e' h).2], hoth2 e' h⟩) ⟨fun _ t => ?_, fun h => ?_⟩
                · rw [lkp_del hP8.nd, if_neg (fun h' => h h'.symm), (hoth e' h).1]
                · rw [hcf]; exact hC3.empty.1 hA0 t
                · rw [lkp_del hP8.nd, if_pos rfl] at h; exact absurd rfl h
              | cons p m =>
                have hl0 : ((es.length : Int) == 0) = false := by
                  rw [hlen, hA0, beq_eq_false_iff_ne, List.length_cons]; omega
                simp -dsimp only [h73, h72, h71, h7, h0, h2, h4, h8, hP8.hq, hl2, hr, hl0, hne, ↓preB, postB, genB, ↓reduceIte, Nat.reduceEqDiff, Int.reduceToNat, Int.reduceLE, Int.reduceLT, Nat.reduceAdd, Nat.reduceLeDiff, intBin, strBin, unD, extractD, lit1, lit2, lit3, keptD, boxR, D.one, D.pub1, D.cells, splice, cutOwn]
                refine ⟨k + 1, ⟨by omega, hk1, M', E2, A3, hP8, hMs, ?_⟩, by omega⟩
                refine hAs.other (e := e) (fun e' h => ⟨(hoth e' h).1, by rw [hoth3 e' h, (hoth e' h).2], hoth2 e' h⟩) ⟨fun h => ?_, fun _ => ⟨?_, ?_⟩⟩
                · rw [hre] at h; cases h
                · rw [hcf]; exact hC3
                · rw [hA0]; simp
end Go.Proofs.YthchlpikcpidaaaDoor.Vs
