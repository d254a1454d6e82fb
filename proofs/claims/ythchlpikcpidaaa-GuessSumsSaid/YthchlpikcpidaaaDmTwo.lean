/- The engine 'Dm': two slices that grow in one heap, beside other things of the call's own. -/
import Derived.Test.YthchlpikcpidaaaDmLib2
namespace Go.Proofs.Ythchlpikcpidaaa.Vs
set_option linter.unusedVariables false
set_option linter.unusedSimpArgs false
def One (e : TypeId) (z n : Nat) (σ0 : Heap) (cs : List D) (d : D) (σ : Heap) : Prop :=
  (n = 0 ∧ cs = [] ∧ d = .sl .nil 0 []) ∨ ∃ r, d = .sl (.tip r z) n cs ∧ σ0.next ≤ r ∧ σ.get r = some (.tip e cs.length)
theorem One.told {e : TypeId} {z n : Nat} {σ0 σ τ τ' : Heap} {cs : List D} {d : D} (h : One e z n σ0 cs d σ) : Told τ τ' d (.sl .no n cs) := by
  rcases h with ⟨rfl, rfl, rfl⟩ | ⟨r, rfl, _⟩
  · exact .pub1 _ _ _
  · exact .pub1 _ _ _
theorem One.pub1 {e : TypeId} {z n : Nat} {σ0 σ : Heap} {cs : List D} {d : D} (h : One e z n σ0 cs d σ) : d.pub1 = .sl .no n cs := by
  rcases h with ⟨rfl, rfl, rfl⟩ | ⟨r, rfl, _⟩ <;> rfl
theorem One.is {e : TypeId} {z n : Nat} {σ0 σ : Heap} {cs : List D} {d : D} (h : One e z n σ0 cs d σ) : ∃ o, d = .sl o n cs := by
  rcases h with ⟨rfl, rfl, rfl⟩ | ⟨r, rfl, _⟩ <;> exact ⟨_, rfl⟩
theorem One.mono {e : TypeId} {z n : Nat} {σ0 σ σ' : Heap} {cs : List D} {d : D} (h : One e z n σ0 cs d σ) (hk : ∀ r o, d = .sl (.tip r z) n cs → σ.get r = some o → σ'.get r = some o) : One e z n σ0 cs d σ' := by
  rcases h with h | ⟨r, h1, h2, h3⟩
  · exact .inl h
  · exact .inr ⟨r, h1, h2, hk r _ h1 h3⟩
structure Two (σ0 : Heap) (e : TypeId) (z n : Nat) (cs : List D) (d : D) (e' : TypeId) (z' n' : Nat) (cs' : List D) (d' : D) (σ : Heap) : Prop where
  le : HLe σ0 σ
  lt : ∀ r o, σ.get r = some o → r < σ.next
  one : One e z n σ0 cs d σ
  two : One e' z' n' σ0 cs' d' σ
  ne : ∀ r r', d = .sl (.tip r z) n cs → d' = .sl (.tip r' z') n' cs' → r ≠ r'
section
variable {σ0 σ : Heap} {e e' : TypeId} {z z' n n' : Nat} {cs cs' : List D} {d d' : D}
theorem Two.start (hc : Closed σ0) : Two σ0 e z 0 [] (.sl .nil 0 []) e' z' 0 [] (.sl .nil 0 []) σ0 := ⟨HLe.refl _, hc.lt, .inl ⟨rfl, rfl, rfl⟩, .inl ⟨rfl, rfl, rfl⟩, fun r r' h => by cases h⟩
theorem Two.swap (h : Two σ0 e z n cs d e' z' n' cs' d' σ) : Two σ0 e' z' n' cs' d' e z n cs d σ := ⟨h.le, h.lt, h.two, h.one, fun r r' h1 h2 => (h.ne r' r h2 h1).symm⟩
theorem Two.new (h : Two σ0 e z n cs d e' z' n' cs' d' σ) (hc : Closed σ0) (o : AO) : Two σ0 e z n cs d e' z' n' cs' d' (σ.new o) := by
  have hk : ∀ r x, σ.get r = some x → (σ.new o).get r = some x := fun r x hr => by rw [Heap.new_ne (h := Nat.ne_of_lt (h.lt r x hr))]; exact hr
  refine ⟨h.le.new' _ hc, fun r x hr => ?_, h.one.mono fun r x _ hr => hk r x hr, h.two.mono fun r x _ hr => hk r x hr, h.ne⟩
  rw [Heap.new_get] at hr
  split at hr
  · rename_i e; rw [e]; exact Nat.lt_succ_self _
  · exact Nat.lt_succ_of_lt (h.lt r x hr)
theorem Two.append {Z : Sys} {t t2 : TypeId} {it ie : TInfo} {m : Nat} {ys : List D} {y : D} {K : D → Heap → Prop} {hK : Keep K} (h : Two σ0 e z n cs d e' z' n' cs' d' σ) (hc : Closed σ0) (ht : Z.T t = some it) (hd : it.d = .slice e) (hie : Z.T e = some ie) (hsz : ie.size = z)
    (hz : ie.zero.cells.size = ie.size) (hz1 : ie.zeros.all D.one = true) (hpos : 0 < ie.size) (hcs : cs.length = n * ie.size) (hf : fedBy Z σ.get t2 ie.size y = some (m, ys)) (hm : m ≠ 0) (hb : (n + m) * ie.bytes ≤ 140737488355328) (hbig : n + m ≤ big)
    (k : ∀ dd τ, Two σ0 e z (n + m) (cs ++ ys) dd e' z' n' cs' d' τ → (∀ q o, σ.get q = some o → (∀ e n, o ≠ .tip e n) → τ.get q = some o) → K dd τ) : kR (appendR Z 0 σ.get σ.next #[t, t2] d y) σ K hK := by
  subst hsz
  rcases h.one with ⟨rfl, rfl, rfl⟩ | ⟨r, rfl, hr0, hr⟩
  · refine app_nil ht hd hie hz hz1 hpos hf hm (by simpa using hb) (by simpa using hbig) ?_
    have hk : ∀ o r x, σ.get r = some x → (σ.new o).get r = some x := fun o r x hr => by rw [Heap.new_ne (h := Nat.ne_of_lt (h.lt r x hr))]; exact hr
    rw [← Nat.zero_add m, ← List.nil_append ys]
    refine k _ _ ⟨h.le.new' _ hc, fun r x hr => ?_, .inr ⟨σ.next, by rw [List.nil_append, Nat.zero_add], h.le.next, by rw [List.nil_append]; exact Heap.new_same _ _⟩, h.two.mono fun r x _ hr => hk _ r x hr, fun r r' h1 h2 => ?_⟩ (fun q o hq _ => by rw [List.nil_append]; exact hk _ q o hq)
    · rw [Heap.new_get] at hr
      split at hr
      · rename_i e; rw [e]; exact Nat.lt_succ_self _
      · exact Nat.lt_succ_of_lt (h.lt r x hr)
    · cases h1
      rcases h.two with ⟨_, _, rfl⟩ | ⟨q, rfl, _, hq⟩
      · cases h2
      · cases h2
        exact (Nat.ne_of_lt (h.lt _ _ hq)).symm
  · refine app_tip ht hd hie hz hz1 hpos hf hm hr hcs hb hbig ?_
    have hk : ∀ o q x, q ≠ r → σ.get q = some x → ((σ.del r).new o).get q = some x := fun o q x hq hx => by
      rw [Heap.new_get, if_neg (by rw [Heap.next_del]; exact Nat.ne_of_lt (h.lt q x hx)), Heap.del_get, if_neg hq]
      exact hx
    refine k _ _ ⟨(h.le.del_out hc hr0).new' _ hc, fun q x hx => ?_, .inr ⟨σ.next, rfl, h.le.next, ?_⟩, h.two.mono fun q x he hx => hk _ q x (fun e => h.ne r q rfl he e.symm) hx, fun q q' h1 h2 => ?_⟩ (fun q o hq hn => hk _ q o (fun e => by rw [e, hr] at hq; cases hq; exact hn _ _ rfl) hq)
    · rw [Heap.new_get] at hx
      split at hx
      · rename_i e; rw [e]; exact Nat.lt_succ_self _
      · rw [Heap.del_get] at hx
        split at hx
        · cases hx
        · exact Nat.lt_succ_of_lt (h.lt q x hx)
    · rw [List.length_append]; exact Heap.new_same _ _
    · cases h1
      rcases h.two with ⟨_, _, rfl⟩ | ⟨q2, rfl, _, hq⟩
      · cases h2
      · cases h2
        exact (Nat.ne_of_lt (h.lt _ _ hq)).symm
end
section
variable {σ0 σ : Heap} {e e' : TypeId} {z z' n n' : Nat} {cs cs' : List D} {d d' : D}
theorem Two.set (h : Two σ0 e z n cs d e' z' n' cs' d' σ) (hc : Closed σ0) {q : Nat} {e0 : TypeId} {c : List D} (hq : σ.get q = some (.cells e0 c)) (h0 : σ0.next ≤ q) (o : AO) : Two σ0 e z n cs d e' z' n' cs' d' (σ.set q o) := by
  have ne1 : ∀ {e n z0} {cs : List D} {d : D} {r : Nat}, One e z0 n σ0 cs d σ → d = .sl (.tip r z0) n cs → r ≠ q := fun {e n z0 cs d r} h1 hd he => by
    rcases h1 with ⟨_, _, g⟩ | ⟨r2, g, _, g2⟩
    · rw [hd] at g; cases g
    · rw [hd] at g; cases g
      rw [he, hq] at g2; cases g2
  refine ⟨h.le.set_out _ hc h0, fun r x hr => ?_, h.one.mono fun r x hd hr => by rw [Heap.set_ne _ _ (ne1 h.one hd)]; exact hr, h.two.mono fun r x hd hr => by rw [Heap.set_ne _ _ (ne1 h.two hd)]; exact hr, h.ne⟩
  rw [Heap.set_get] at hr
  split at hr
  · rename_i e1; rw [e1]; exact h.lt _ _ hq
  · exact h.lt r x hr
end
def OneR (e : TypeId) (z n : Nat) (σ0 : Heap) (cs : List D) (d : D) (σ : Heap) : Prop :=
  (n = 0 ∧ cs = [] ∧ d = .sl .nil 0 []) ∨ ∃ r js, d = .row r 0 n none z ∧ σ0.next ≤ r ∧ σ.get r = some (.cells e (cs ++ js)) ∧ n ≠ 0
theorem OneR.mono {e : TypeId} {z n : Nat} {σ0 σ σ' : Heap} {cs : List D} {d : D} (h : OneR e z n σ0 cs d σ) (hk : ∀ r e' c, σ.get r = some (.cells e' c) → σ'.get r = some (.cells e' c)) : OneR e z n σ0 cs d σ' := by
  rcases h with h | ⟨r, js, h1, h2, h3, h4⟩
  · exact .inl h
  · exact .inr ⟨r, js, h1, h2, hk r _ _ h3, h4⟩
structure RT (σ0 : Heap) (e : TypeId) (z n : Nat) (cs : List D) (d : D) (e' : TypeId) (z' n' : Nat) (cs' : List D) (d' : D) (σ : Heap) : Prop where
  le : HLe σ0 σ
  lt : ∀ r o, σ.get r = some o → r < σ.next
  one : OneR e z n σ0 cs d σ
  two : One e' z' n' σ0 cs' d' σ
section
variable {σ0 σ : Heap} {e e' : TypeId} {z z' n n' : Nat} {cs cs' : List D} {d d' : D}
theorem RT.start (hc : Closed σ0) : RT σ0 e z 0 [] (.sl .nil 0 []) e' z' 0 [] (.sl .nil 0 []) σ0 := ⟨HLe.refl _, hc.lt, .inl ⟨rfl, rfl, rfl⟩, .inl ⟨rfl, rfl, rfl⟩⟩
theorem new_lt {σ : Heap} (h : ∀ r o, σ.get r = some o → r < σ.next) (o : AO) : ∀ r x, (σ.new o).get r = some x → r < (σ.new o).next := fun r x hr => by
  rw [Heap.new_get] at hr
  split at hr
  · rename_i e; rw [e]; exact Nat.lt_succ_self _
  · exact Nat.lt_succ_of_lt (h r x hr)
theorem new_keep {σ : Heap} (h : ∀ r o, σ.get r = some o → r < σ.next) (o : AO) : ∀ r x, σ.get r = some x → (σ.new o).get r = some x := fun r x hr => by rw [Heap.new_ne (h := Nat.ne_of_lt (h r x hr))]; exact hr
theorem RT.new (h : RT σ0 e z n cs d e' z' n' cs' d' σ) (hc : Closed σ0) (o : AO) : RT σ0 e z n cs d e' z' n' cs' d' (σ.new o) :=
  ⟨h.le.new' _ hc, new_lt h.lt o, h.one.mono fun r _ _ hr => new_keep h.lt o r _ hr, h.two.mono fun r x _ hr => new_keep h.lt o r x hr⟩
end
end Go.Proofs.Ythchlpikcpidaaa.Vs
