/- The engine 'Dm', part 12: literals, rows, slices that grow. -/
import Derived.Test.YthchlpikcpidaaaDoorDmSim
namespace Go.Proofs.YthchlpikcpidaaaDoor.Vs
open Go.RowKit
set_option linter.unusedVariables false
set_option linter.unusedSimpArgs false
theorem cells_cases (x : D) : x.cells = none ∨ (∃ a, x.cells = some [a]) ∨ ∃ ys, x.cells = some ys ∧ ys.length ≠ 1 := by
  cases h : x.cells with
  | none => exact .inl rfl
  | some ys =>
    by_cases hl : ys.length = 1
    · obtain ⟨a, rfl⟩ := List.length_eq_one_iff.1 hl
      exact .inr (.inl ⟨a, rfl⟩)
    · exact .inr (.inr ⟨ys, rfl, hl⟩)
def lit1 (x : D) : Option (D × Eff) := match x.cells with
  | some [a] => some (.sl .full 1 [a], .keep)
  | _ => none
def lit2 (x y : D) : Option (D × Eff) := match x.cells, y.cells with
  | some [a], some [b] => some (.sl .full 2 [a, b], .keep)
  | _, _ => none
def lit3 (x y z : D) : Option (D × Eff) := match x.cells, y.cells, z.cells with
  | some [a], some [b], some [c] => some (.sl .full 3 [a, b, c], .keep)
  | _, _, _ => none
theorem not_one {ys : List D} (hl : ys.length ≠ 1) {α : Type} (f : D → Option α) : (match (some ys : Option (List D)) with | some [a] => f a | _ => none) = none := by
  match ys, hl with
  | [], _ => rfl
  | [a], hl => exact absurd rfl hl
  | a :: b :: l, _ => rfl
theorem litZero_one {i : TInfo} {z0 : D} (hz : i.zeros = [z0]) (n : Nat) : litZero i n = List.replicate n z0 := by
  apply List.ext_getElem
  · simp [litZero]
  · intro k h1 h2
    simp [litZero, hz, Nat.mod_one]
section
variable {Z : Sys} {t e : TypeId} {it ie : TInfo} {z0 x y z : D} {nx : Nat}
theorem aLit_one {len : Nat} {parts : List (Nat × D)} (ht : Z.T t = some it) (hd : it.d = .slice e) (he : Z.T e = some ie) (h1 : ie.size = 1) (hz : ie.zeros = [z0]) (ho : z0.one = true) (hl : len ≤ 16777216) :
    aLit Z t len parts = (fillD (plainPlace 1) (List.replicate len z0) parts).map fun cs => (e, cs) := by
  unfold aLit
  simp only [ht, hd, he, h1, Nat.mul_one, litZero_one hz]
  rw [if_pos ⟨⟨hl, by unfold big; omega⟩, by simp [hz, ho], by simp [hz], by decide⟩]
theorem build1 (ht : Z.T t = some it) (he : Z.T e = some ie) (hd : it.d = .slice e) (h1 : ie.size = 1) (hz : ie.zeros = [z0]) (ho : z0.one = true := by rfl) :
    buildSliceR Z 0 t 1 [(0, x)] nx = lit1 x := by
  unfold buildSliceR lit1
  rw [aLit_one ht hd he h1 hz ho (by decide)]
  rcases cells_cases x with hx | ⟨a, hx⟩ | ⟨ys, hx, hl⟩
  · simp [fillD, plainPlace, hx]
  · simp [fillD, plainPlace, hx, fillAt, List.replicate]
  · simp only [fillD, plainPlace, hx, hl, ne_eq, not_false_eq_true, true_or, if_true, Option.map_none]
    exact (not_one hl _).symm
theorem build2 (ht : Z.T t = some it) (he : Z.T e = some ie) (hd : it.d = .slice e) (h1 : ie.size = 1) (hz : ie.zeros = [z0]) (ho : z0.one = true := by rfl) :
    buildSliceR Z 0 t 2 [(0, x), (1, y)] nx = lit2 x y := by
  unfold buildSliceR lit2
  rw [aLit_one ht hd he h1 hz ho (by decide)]
  rcases cells_cases x with hx | ⟨a, hx⟩ | ⟨ys, hx, hl⟩
  · simp [fillD, plainPlace, hx]
  · rcases cells_cases y with hy | ⟨b, hy⟩ | ⟨zs, hy, hl⟩
    · simp [fillD, plainPlace, hx, hy, fillAt, List.replicate]
    · simp [fillD, plainPlace, hx, hy, fillAt, List.replicate]
    · simp only [fillD, plainPlace, hx, hy, hl, fillAt, List.replicate, ne_eq, not_false_eq_true, true_or, if_true, Option.map_none, List.length_cons, List.length_nil]
      match zs, hl with
      | [], _ => simp
      | [a], hl => exact absurd rfl hl
      | a :: b :: l, _ => simp
  · simp only [fillD, plainPlace, hx, hl, ne_eq, not_false_eq_true, true_or, if_true, Option.map_none]
    match ys, hl with
    | [], _ => rfl
    | [a], hl => exact absurd rfl hl
    | a :: b :: l, _ => rfl
theorem build3 (ht : Z.T t = some it) (he : Z.T e = some ie) (hd : it.d = .slice e) (h1 : ie.size = 1) (hz : ie.zeros = [z0]) (ho : z0.one = true := by rfl) :
    buildSliceR Z 0 t 3 [(0, x), (1, y), (2, z)] nx = lit3 x y z := by
  unfold buildSliceR lit3
  rw [aLit_one ht hd he h1 hz ho (by decide)]
  have bad : ∀ (ys : List D), ys.length ≠ 1 → ¬ (ys.length = 1 ∧ True) := fun ys h hh => h hh.1
  rcases cells_cases x with hx | ⟨a, hx⟩ | ⟨ys, hx, hl⟩
  · simp [fillD, plainPlace, hx]
  · rcases cells_cases y with hy | ⟨b, hy⟩ | ⟨zs, hy, hl⟩
    · simp [fillD, plainPlace, hx, hy, fillAt, List.replicate]
    · rcases cells_cases z with hz | ⟨c, hz⟩ | ⟨us, hz, hl⟩
      · simp [fillD, plainPlace, hx, hy, hz, fillAt, List.replicate]
      · simp [fillD, plainPlace, hx, hy, hz, fillAt, List.replicate]
      · match us, hl with
        | [], _ => simp [fillD, plainPlace, hx, hy, hz, fillAt, List.replicate]
        | [a], hl => exact absurd rfl hl
        | a :: b :: l, _ => simp [fillD, plainPlace, hx, hy, hz, fillAt, List.replicate]
    · match zs, hl with
      | [], _ => simp [fillD, plainPlace, hx, hy, fillAt, List.replicate]
      | [a], hl => exact absurd rfl hl
      | a :: b :: l, _ => simp [fillD, plainPlace, hx, hy, fillAt, List.replicate]
  · match ys, hl with
    | [], _ => simp [fillD, plainPlace, hx, List.replicate]
    | [a], hl => exact absurd rfl hl
    | a :: b :: l, _ => simp [fillD, plainPlace, hx, List.replicate]
theorem mk_one {k k' : IntKind} {n m : Int} (ht : Z.T t = some it) (he : Z.T e = some ie) (hd : it.d = .slice e) (h1 : ie.size = 1) (hz : ie.zeros = [z0]) (ho : z0.one = true := by rfl) :
    makeSliceR Z 0 t (.int k n) (.int k' m) nx = if 0 ≤ n ∧ n ≤ m ∧ (ie.bytes : Int) * m ≤ 281474976710656 ∧ m ≤ (big : Int) then some (.row nx 0 n.toNat (some m.toNat) 1, .new (.cells e (List.replicate m.toNat z0))) else none := by
  unfold makeSliceR
  simp only [ht, hd, he, h1, hz, List.all_cons, List.all_nil, ho, Bool.and_true, true_and, List.length_cons, List.length_nil, litZero_one hz, Nat.mul_one]
  simp
end
theorem Told.tup3 {σ τ : Heap} {a b c a' b' c' : D} (h1 : Told σ τ a a') (h2 : Told σ τ b b') (h3 : Told σ τ c c') : Told σ τ (.tup [a, b, c]) (.tup [a', b', c']) := .tup _ _ rfl fun i hi _ => match i, hi with
  | 0, _ => h1
  | 1, _ => h2
  | 2, _ => h3
theorem Bel.tup3 {N : Nat} {a b c : D} (h1 : Bel N a) (h2 : Bel N b) (h3 : Bel N c) : Bel N (.tup [a, b, c]) := .tup _ fun d hd => by
  simp only [List.mem_cons, List.not_mem_nil, or_false] at hd
  rcases hd with rfl | rfl | rfl <;> assumption
theorem Bel.no {N n : Nat} {cs : List D} (h : ∀ d ∈ cs, Bel N d) : Bel N (.sl .no n cs) := .sl _ _ _ (fun r z he => by cases he) h
theorem bel_strs {N : Nat} (w : List ByteArray) : ∀ d ∈ w.map D.str, Bel N d := fun d hd => by
  obtain ⟨x, _, rfl⟩ := List.mem_map.1 hd; exact .str x
/-- A slice that grows, over a heap: nil, a literal's, or one with a tip of its own behind that heap. -/
def Acc (e : TypeId) (z : Nat) (σ0 : Heap) (n : Nat) (cs : List D) (d : D) (σ : Heap) : Prop :=
  (d = .sl .nil n cs ∧ n = 0 ∧ cs = [] ∧ HLe σ0 σ) ∨ (d = .sl .full n cs ∧ HLe σ0 σ) ∨ ∃ r, σ0.next ≤ r ∧ d = .sl (.tip r z) n cs ∧ σ.get r = some (.tip e cs.length) ∧ HLe σ0 σ
theorem Acc.nil {e : TypeId} {z : Nat} {σ0 σ : Heap} (h : HLe σ0 σ) : Acc e z σ0 0 [] (.sl .nil 0 []) σ := .inl ⟨rfl, rfl, rfl, h⟩
theorem Acc.full {e : TypeId} {z n : Nat} {cs : List D} {σ0 σ : Heap} (h : HLe σ0 σ) : Acc e z σ0 n cs (.sl .full n cs) σ := .inr (.inl ⟨rfl, h⟩)
theorem Acc.le {e : TypeId} {z : Nat} {σ0 σ : Heap} {n : Nat} {cs : List D} {d : D} (h : Acc e z σ0 n cs d σ) : HLe σ0 σ := by
  rcases h with ⟨_, _, _, h⟩ | ⟨_, h⟩ | ⟨r, _, _, _, h⟩ <;> exact h
theorem Acc.is {e : TypeId} {z : Nat} {σ0 σ : Heap} {n : Nat} {cs : List D} {d : D} (h : Acc e z σ0 n cs d σ) : ∃ o, d = .sl o n cs := by
  rcases h with ⟨rfl, _⟩ | ⟨rfl, _⟩ | ⟨r, _, rfl, _⟩ <;> exact ⟨_, rfl⟩
theorem Acc.pub1 {e : TypeId} {z : Nat} {σ0 σ : Heap} {n : Nat} {cs : List D} {d : D} (h : Acc e z σ0 n cs d σ) : d.pub1 = .sl .no n cs := by
  obtain ⟨o, rfl⟩ := h.is; rfl
theorem Acc.told {e : TypeId} {z : Nat} {σ0 σ τ τ' : Heap} {n : Nat} {cs : List D} {d : D} (h : Acc e z σ0 n cs d σ) : Told τ τ' d (.sl .no n cs) := by
  obtain ⟨o, rfl⟩ := h.is; exact .pub1 _ _ _
/-- Over a heap that has grown behind. -/
theorem Acc.mono {e : TypeId} {z : Nat} {σ0 σ σ' : Heap} {n : Nat} {cs : List D} {d : D} (h : Acc e z σ0 n cs d σ) (hle : HLe σ σ') : Acc e z σ0 n cs d σ' := by
  rcases h with ⟨h1, h2, h3, h4⟩ | ⟨h1, h4⟩ | ⟨r, h1, h2, h3, h4⟩
  · exact .inl ⟨h1, h2, h3, h4.trans hle⟩
  · exact .inr (.inl ⟨h1, h4.trans hle⟩)
  · exact .inr (.inr ⟨r, h1, h2, hle.get _ _ h3, h4.trans hle⟩)
theorem HLe.new' {τ σ : Heap} (o : AO) (h : HLe τ σ) (hc : Closed τ) : HLe τ (σ.new o) := h.new o hc.lt
theorem HLe.self_new {σ : Heap} (o : AO) (hc : Closed σ) : HLe σ (σ.new o) := (HLe.refl σ).new o hc.lt
theorem HLe.set_out {τ σ : Heap} {r : Nat} (o : AO) (h : HLe τ σ) (hc : Closed τ) (hr : τ.next ≤ r) : HLe τ (σ.set r o) := h.set o (by
  cases hx : τ.get r with
  | none => rfl
  | some o => have := hc.lt r o hx; omega)

theorem Bel.mono {N M : Nat} (h : N ≤ M) {d : D} (hd : Bel N d) : Bel M d := by
  induction hd with
  | ptr r off hr => exact .ptr r off (Nat.lt_of_lt_of_le hr h)
  | «at» cs _ ih => exact .at cs ih
  | sl o n cs ho _ ih => exact .sl o n cs (fun r z he => Nat.lt_of_lt_of_le (ho r z he) h) ih
  | row r off n c z hr => exact .row r off n c z (Nat.lt_of_lt_of_le hr h)
  | map r hr => exact .map r (Nat.lt_of_lt_of_le hr h)
  | func f cs _ ih => exact .func f cs ih
  | bfunc f cs _ ih => exact .bfunc f cs ih
  | agg cs _ ih => exact .agg cs ih
  | tup cs _ ih => exact .tup cs ih
  | iface t d _ ih => exact .iface t d ih
  | _ => constructor
theorem AO.Bel.mono {N M : Nat} (h : N ≤ M) {o : AO} (ho : o.Bel N) : o.Bel M := by
  cases o with
  | cells e cs => exact fun d hd => (ho d hd).mono h
  | map es c => exact fun e he => ⟨(ho e he).1.mono h, (ho e he).2.mono h⟩
  | miter m a b c => exact fun q hq => Nat.lt_of_lt_of_le (ho q hq) h
  | _ => trivial
theorem Closed.new {σ : Heap} (h : Closed σ) {o : AO} (ho : o.Bel (σ.next + 1)) : Closed (σ.new o) := ⟨fun r x hr => by
  rw [Heap.new_get] at hr
  rw [Heap.next_new]
  split at hr
  · omega
  · have := h.lt r x hr; omega, fun r x hr => by
  rw [Heap.new_get] at hr
  split at hr
  · cases hr; exact ho
  · exact (h.ok r x hr).mono (Nat.le_succ _)⟩
theorem Closed.set {σ : Heap} (h : Closed σ) {r : Nat} (hr : r < σ.next) {o : AO} (ho : o.Bel σ.next) : Closed (σ.set r o) := ⟨fun q x hq => by
  rw [Heap.set_get] at hq
  rw [Heap.next_set]
  split at hq
  · omega
  · exact h.lt q x hq, fun q x hq => by
  rw [Heap.set_get] at hq
  split at hq
  · cases hq; exact ho
  · exact h.ok q x hq⟩
theorem Closed.none {σ : Heap} (h : Closed σ) {r : Nat} (hr : σ.next ≤ r) : σ.get r = Option.none := by
  cases hx : σ.get r with
  | none => rfl
  | some o => have := h.lt r o hx; omega
theorem HLe.set_both {τ σ : Heap} (h : HLe τ σ) (r : Nat) (o : AO) : HLe (τ.set r o) (σ.set r o) := ⟨h.next, fun q x hq => by
  rw [Heap.set_get] at hq ⊢
  split at hq
  · rename_i hr; rw [if_pos hr]; exact hq
  · rename_i hr; rw [if_neg hr]; exact h.get q x hq⟩
theorem Acc.set {e : TypeId} {z r n : Nat} {x o : AO} {σ0 σ : Heap} {cs : List D} {d : D} (h : Acc e z σ0 n cs d σ) (hc : Closed σ0) (hr : σ0.get r = some o) : σ.get r = some o ∧ Acc e z (σ0.set r x) n cs d (σ.set r x) := by
  refine ⟨h.le.get r o hr, ?_⟩
  rcases h with ⟨h1, h2, h3, h4⟩ | ⟨h1, h4⟩ | ⟨q, h1, h2, h3, h4⟩
  · exact .inl ⟨h1, h2, h3, h4.set_both r x⟩
  · exact .inr (.inl ⟨h1, h4.set_both r x⟩)
  · have hne : q ≠ r := fun e => by have := hc.lt r o hr; omega
    exact .inr (.inr ⟨q, h1, h2, by rw [Heap.set_ne _ _ hne]; exact h3, h4.set_both r x⟩)
theorem fedBy_sl {Z : Sys} {g : Nat → Option AO} {t2 e' : TypeId} {i2 : TInfo} {size m : Nat} {o : Own} {ys : List D} (h2 : Z.T t2 = some i2) (hd : i2.d = .slice e') (hl : ys.length = m * size) : fedBy Z g t2 size (.sl o m ys) = some (m, ys) := by
  simp [fedBy, h2, hd, hl]
theorem fedBy_len {Z : Sys} {g : Nat → Option AO} {t2 : TypeId} {size m : Nat} {y : D} {ys : List D} (h : fedBy Z g t2 size y = some (m, ys)) : ys.length = m * size := by
  unfold fedBy at h
  split at h
  · cases h
  · split at h
    · split at h
      · cases h; assumption
      · cases h
    · split at h
      · split at h
        · cases h; simp; omega
        · cases h
      · cases h
    · split at h
      · cases h; rename_i h1; simp [h1]
      · cases h
    · cases h
theorem out_none {τ : Heap} {r : Nat} (hc : ∀ r o, τ.get r = some o → r < τ.next) (hr : τ.next ≤ r) : τ.get r = none := by
  cases hx : τ.get r with
  | none => rfl
  | some o => have := hc r o hx; omega
theorem Acc.appendL {Z : Sys} {t t2 e : TypeId} {it ie : TInfo} {n m : Nat} {σ0 σ : Heap} {cs ys : List D} {d y : D} {K : D → Heap → Prop} {hK : Keep K} {z : Nat} (h : Acc e z σ0 n cs d σ) (hc : ∀ r o, σ0.get r = some o → r < σ0.next) (ht : Z.T t = some it) (hd : it.d = .slice e) (hie : Z.T e = some ie) (hsz : ie.size = z)
    (hz : ie.zero.cells.size = ie.size) (hz1 : ie.zeros.all D.one = true) (hpos : 0 < ie.size) (hcs : cs.length = n * ie.size) (hf : fedBy Z σ.get t2 ie.size y = some (m, ys)) (hb : (n + m) * ie.bytes ≤ 140737488355328) (hbig : n + m ≤ big)
    (k : ∀ d' σ', Acc e z σ0 (n + m) (cs ++ ys) d' σ' → K d' σ') : kR (appendR Z 0 σ.get σ.next #[t, t2] d y) σ K hK := by
  subst hsz
  have hlen := fedBy_len hf
  have hle := h.le
  have h0 : m = 0 → ys = [] := fun hm => List.eq_nil_of_length_eq_zero (by rw [hlen, hm]; simp)
  have core : ∀ o, d = .sl o n cs → (∀ d' e', (if m = 0 then some (D.sl o n cs, Eff.keep) else
      (match o with
      | .tip r z => (match σ.get r with
        | some (.tip e' k) => if e' = e ∧ k = cs.length ∧ z = ie.size then some (.sl (.tip σ.next z) (n + m) (cs ++ ys), .move r (.tip e (cs.length + ys.length))) else none
        | _ => none)
      | .no => none
      | _ => if (0 : Nat) = 1 then some (.row σ.next 0 (n + m) none ie.size, .new (.cells e (cs ++ ys))) else some (.sl (.tip σ.next ie.size) (n + m) (cs ++ ys), .new (.tip e (cs.length + ys.length))))) = some (d', e') → kR (some (d', e')) σ K hK) →
      (∃ p, (if m = 0 then some (D.sl o n cs, Eff.keep) else
      (match o with
      | .tip r z => (match σ.get r with
        | some (.tip e' k) => if e' = e ∧ k = cs.length ∧ z = ie.size then some (.sl (.tip σ.next z) (n + m) (cs ++ ys), .move r (.tip e (cs.length + ys.length))) else none
        | _ => none)
      | .no => none
      | _ => if (0 : Nat) = 1 then some (.row σ.next 0 (n + m) none ie.size, .new (.cells e (cs ++ ys))) else some (.sl (.tip σ.next ie.size) (n + m) (cs ++ ys), .new (.tip e (cs.length + ys.length))))) = some p) →
      kR (appendR Z 0 σ.get σ.next #[t, t2] d y) σ K hK := fun o ho hk ⟨p, hp⟩ => by
    subst ho
    have : appendR Z 0 σ.get σ.next #[t, t2] (.sl o n cs) y = some p := by
      unfold appendR
      simp only [ht, hd, hie, hf]
      rw [if_pos ⟨hpos, hz, hz1⟩, if_pos ⟨hcs, hb, hbig⟩]
      exact hp
    rw [this]
    obtain ⟨d', e'⟩ := p
    exact hk d' e' hp
  rcases h with ⟨rfl, rfl, rfl, _⟩ | ⟨rfl, _⟩ | ⟨r, hr, rfl, hg, _⟩
  · refine core .nil rfl (fun d' e' hp => ?_) ?_
    · split at hp
      · rename_i hm
        cases hp
        have hy := h0 hm
        subst hy; subst hm
        exact k _ _ (.inl ⟨rfl, rfl, rfl, hle⟩)
      · simp at hp
        obtain ⟨rfl, rfl⟩ := hp
        refine k _ _ (.inr (.inr ⟨σ.next, hle.next, by simp, ?_, hle.new _ hc⟩))
        simp [Heap.app, Heap.new]
    · split
      · exact ⟨_, rfl⟩
      · exact ⟨_, rfl⟩
  · refine core .full rfl (fun d' e' hp => ?_) ?_
    · split at hp
      · rename_i hm
        cases hp
        have hy := h0 hm
        subst hy; subst hm
        exact k _ _ (by simpa [Heap.app] using Acc.full (e := e) (z := ie.size) (n := n) (cs := cs) hle)
      · simp at hp
        obtain ⟨rfl, rfl⟩ := hp
        refine k _ _ (.inr (.inr ⟨σ.next, hle.next, rfl, ?_, hle.new _ hc⟩))
        simp [Heap.app, Heap.new]
    · split
      · exact ⟨_, rfl⟩
      · exact ⟨_, rfl⟩
  · refine core (.tip r ie.size) rfl (fun d' e' hp => ?_) ?_
    · split at hp
      · rename_i hm
        cases hp
        have hy := h0 hm
        subst hy; subst hm
        exact k _ _ (.inr (.inr ⟨r, hr, by simp, by simpa [Heap.app] using hg, hle⟩))
      · simp only [hg, true_and, if_true] at hp
        simp at hp
        obtain ⟨rfl, rfl⟩ := hp
        refine k _ _ (.inr (.inr ⟨σ.next, hle.next, rfl, ?_, ((hle.set_del (out_none hc hr)).new _ hc)⟩))
        simp [Heap.app, Heap.new, Heap.del]
    · split
      · exact ⟨_, rfl⟩
      · simp only [hg, true_and, if_true]
        exact ⟨_, rfl⟩
theorem Acc.append {Z : Sys} {t t2 e : TypeId} {it ie : TInfo} {n m : Nat} {σ0 σ : Heap} {cs ys : List D} {d y : D} {K : D → Heap → Prop} {hK : Keep K} {z : Nat} (h : Acc e z σ0 n cs d σ) (hc : Closed σ0) (ht : Z.T t = some it) (hd : it.d = .slice e) (hie : Z.T e = some ie) (hsz : ie.size = z)
    (hz : ie.zero.cells.size = ie.size) (hz1 : ie.zeros.all D.one = true) (hpos : 0 < ie.size) (hcs : cs.length = n * ie.size) (hf : fedBy Z σ.get t2 ie.size y = some (m, ys)) (hb : (n + m) * ie.bytes ≤ 140737488355328) (hbig : n + m ≤ big)
    (k : ∀ d' σ', Acc e z σ0 (n + m) (cs ++ ys) d' σ' → K d' σ') : kR (appendR Z 0 σ.get σ.next #[t, t2] d y) σ K hK :=
  Acc.appendL h hc.lt ht hd hie hsz hz hz1 hpos hcs hf hb hbig k
end Go.Proofs.YthchlpikcpidaaaDoor.Vs
