/- Rests of words: what can be reached, and the two searches, without the program. -/
import Derived.Test.YtldlcejlfaogbaaGreatDoorFnN
namespace Go.Proofs.YtldlcejlfaogbaaGreatDoor.Vs
set_option linter.unusedVariables false
set_option linter.unusedSimpArgs false
/-- A rest that is ahead when two unlike rows of words make one word of n symbols. -/
inductive Rch (l : List Wd) : Wd → Nat → Prop
  | init (i k : Nat) (hi : i < l.length) (hk : k < l.length) (hne : i ≠ k) (hb : begW l[k] l[i] = true) : Rch l (l[k].drop l[i].length) l[k].length
  | ext (r : Wd) (n k : Nat) (hr : Rch l r n) (h0 : r ≠ []) (hk : k < l.length) (hb : begW l[k] r = true) : Rch l (l[k].drop r.length) (n + (l[k].length - r.length))
  | cut (r : Wd) (n k : Nat) (hr : Rch l r n) (h0 : r ≠ []) (hk : k < l.length) (hb : begW r l[k] = true) : Rch l (r.drop l[k].length) n

theorem begW_iff {w x : Wd} : begW w x = true ↔ ∃ y, w = x ++ y := by
  rw [begW_take, Bool.and_eq_true, decide_eq_true_eq, eqW_iff]
  constructor
  · rintro ⟨h1, h2⟩
    exact ⟨w.drop x.length, by rw [show x ++ w.drop x.length = w.take x.length ++ w.drop x.length by rw [h2]]; simp⟩
  · rintro ⟨y, rfl⟩
    simp
theorem begW_drop {w x : Wd} (h : begW w x = true) : w = x ++ w.drop x.length := by
  obtain ⟨y, rfl⟩ := begW_iff.1 h
  simp

/-- All rests of words of a list. -/
def rests (l : List Wd) : List Wd := l.flatMap fun w => (List.range (w.length + 1)).map (w.drop ·)
theorem mem_rests {l : List Wd} {w : Wd} (hw : w ∈ l) (j : Nat) : w.drop j ∈ rests l := by
  refine List.mem_flatMap.2 ⟨w, hw, List.mem_map.2 ?_⟩
  by_cases hj : j < w.length + 1
  · exact ⟨j, List.mem_range.2 hj, rfl⟩
  · exact ⟨w.length, List.mem_range.2 (by omega), by rw [List.drop_of_length_le (Nat.le_refl _), List.drop_of_length_le (by omega)]⟩
theorem drop_rests {l : List Wd} {r : Wd} (h : r ∈ rests l) (j : Nat) : r.drop j ∈ rests l := by
  obtain ⟨w, hw, h⟩ := List.mem_flatMap.1 h
  obtain ⟨i, _, rfl⟩ := List.mem_map.1 h
  rw [List.drop_drop]
  exact mem_rests hw _
theorem Rch.rest {l : List Wd} {r : Wd} {n : Nat} (h : Rch l r n) : r ∈ rests l := by
  induction h with
  | init i k hi hk hne hb => exact mem_rests (List.getElem_mem hk) _
  | ext r n k hr h0 hk hb ih => exact mem_rests (List.getElem_mem hk) _
  | cut r n k hr h0 hk hb ih => exact drop_rests ih _
theorem rests_len {l : List Wd} (h : ∀ w ∈ l, w.length ≤ 8) : (rests l).length ≤ 9 * l.length := by
  induction l with
  | nil => exact Nat.le_refl _
  | cons w l ih =>
    have h1 := ih fun w hw => h w (List.mem_cons_of_mem _ hw)
    have h2 := h w (List.mem_cons_self ..)
    have : rests (w :: l) = (List.range (w.length + 1)).map (w.drop ·) ++ rests l := rfl
    rw [this, List.length_append, List.length_map, List.length_range, List.length_cons]
    omega
theorem Rch.pos {l : List Wd} (hl : ∀ w ∈ l, w ≠ []) {r : Wd} {n : Nat} (h : Rch l r n) : 0 < n := by
  induction h with
  | init i k hi hk hne hb => exact List.length_pos_iff.2 (hl _ (List.getElem_mem hk))
  | ext r n k hr h0 hk hb ih => omega
  | cut r n k hr h0 hk hb ih => exact ih

theorem nodup_len {α : Type} [DecidableEq α] : ∀ {a b : List α}, a.Nodup → (∀ x ∈ a, x ∈ b) → a.length ≤ b.length
  | [], b, _, _ => Nat.zero_le _
  | x :: a, b, hn, hs => by
    have hx := hs x (List.mem_cons_self ..)
    have hn' := List.nodup_cons.1 hn
    have := nodup_len (b := b.erase x) hn'.2 fun y hy => by
      have hne : y ≠ x := fun e => hn'.1 (e ▸ hy)
      exact (List.mem_erase_of_ne hne).2 (hs y (List.mem_cons_of_mem _ hy))
    rw [List.length_erase_of_mem hx] at this
    have := List.length_pos_of_mem hx
    simp only [List.length_cons]
    omega
instance : DecidableEq ByteArray := fun a b => decidable_of_iff (a.data = b.data) ⟨fun h => by cases a; cases b; cases h; rfl, fun h => h ▸ rfl⟩

abbrev Bl := List (Wd × Nat)
def getB : Bl → Wd → Option Nat
  | [], _ => none
  | (x, m) :: B, r => if eqW x r then some m else getB B r
def putB : Bl → Wd → Nat → Bool × Bl
  | [], r, n => (true, [(r, n)])
  | (x, m) :: B, r, n => if eqW x r then (if m ≤ n then (false, (x, m) :: B) else (true, (x, n) :: B)) else ((putB B r n).1, (x, m) :: (putB B r n).2)
def Cov (B : Bl) (r : Wd) (n : Nat) : Prop := ∃ m, getB B r = some m ∧ m ≤ n
theorem putB_get : ∀ (B : Bl) (r : Wd) (n : Nat) (r' : Wd), getB (putB B r n).2 r' = if eqW r r' then some (match getB B r with | some m => if m ≤ n then m else n | none => n) else getB B r'
  | [], r, n, r' => by simp [putB, getB]
  | (x, m) :: B, r, n, r' => by
    have ih := putB_get B r n r'
    simp only [putB]
    cases hx : eqW x r
    · simp only [Bool.false_eq_true, if_false, getB, hx]
      rw [ih]
      cases h1 : eqW r r'
      · simp only [Bool.false_eq_true, if_false]
      · have hrr := eqW_iff.1 h1
        subst hrr
        simp only [if_true, hx, Bool.false_eq_true, if_false]
    · have hxr := eqW_iff.1 hx
      subst hxr
      simp only [if_true, getB, hx]
      by_cases hm : m ≤ n
      · simp only [hm, if_true, getB]
        split <;> rfl
      · simp only [hm, if_false, getB]
        split <;> rfl
theorem putB_false : ∀ {B : Bl} {r : Wd} {n : Nat}, (putB B r n).1 = false → (putB B r n).2 = B
  | [], r, n, h => by simp [putB] at h
  | (x, m) :: B, r, n, h => by
    simp only [putB] at h ⊢
    split
    · rename_i hx
      simp only [hx, if_true] at h
      split
      · rfl
      · rename_i hm; simp [hm] at h
    · rename_i hx
      simp only [hx, Bool.false_eq_true, if_false] at h
      rw [putB_false h]
theorem eqW_refl (a : Wd) : eqW a a = true := eqW_iff.2 rfl
theorem putB_cov (B : Bl) (r : Wd) (n : Nat) : Cov (putB B r n).2 r n := by
  unfold Cov
  rw [putB_get, eqW_refl, if_pos rfl]
  refine ⟨_, rfl, ?_⟩
  split
  · split <;> omega
  · exact Nat.le_refl _
theorem putB_mono {B : Bl} {r r' : Wd} {n n' : Nat} (h : Cov B r' n') : Cov (putB B r n).2 r' n' := by
  obtain ⟨m, h1, h2⟩ := h
  unfold Cov
  rw [putB_get]
  split
  · rename_i hx
    have := eqW_iff.1 hx
    subst this
    rw [h1]
    refine ⟨_, rfl, ?_⟩
    simp only
    split <;> omega
  · exact ⟨m, h1, h2⟩
theorem putB_mem : ∀ {B : Bl} {r : Wd} {n : Nat} {p : Wd × Nat}, p ∈ (putB B r n).2 → p ∈ B ∨ p = (r, n)
  | [], r, n, p, h => by simp [putB] at h; exact .inr h
  | (x, m) :: B, r, n, p, h => by
    simp only [putB] at h
    split at h
    · rename_i hx
      have := eqW_iff.1 hx
      subst this
      split at h
      · exact .inl h
      · rcases List.mem_cons.1 h with rfl | h
        · exact .inr rfl
        · exact .inl (List.mem_cons_of_mem _ h)
    · rcases List.mem_cons.1 h with rfl | h
      · exact .inl (List.mem_cons_self ..)
      · rcases putB_mem h with h | h
        · exact .inl (List.mem_cons_of_mem _ h)
        · exact .inr h
theorem putB_len : ∀ (B : Bl) (r : Wd) (n : Nat), (putB B r n).2.length = if (getB B r).isSome then B.length else B.length + 1
  | [], r, n => rfl
  | (x, m) :: B, r, n => by
    simp only [putB, getB]
    split
    · split <;> simp
    · simp only [List.length_cons, putB_len B r n]
      split <;> rfl
theorem putB_keys : ∀ (B : Bl) (r : Wd) (n : Nat), (putB B r n).2.map (·.1) = if (getB B r).isSome then B.map (·.1) else B.map (·.1) ++ [r]
  | [], r, n => rfl
  | (x, m) :: B, r, n => by
    simp only [putB, getB]
    split
    · split <;> simp
    · simp only [List.map_cons, putB_keys B r n]
      split <;> rfl
theorem getB_none : ∀ {B : Bl} {r : Wd}, getB B r = none → r ∉ B.map (·.1)
  | [], r, _ => by simp
  | (x, m) :: B, r, h => by
    simp only [getB] at h
    split at h
    · cases h
    · rename_i hx
      simp only [List.map_cons, List.mem_cons, not_or]
      exact ⟨fun e => hx (eqW_iff.2 e.symm), getB_none h⟩
theorem getB_mem : ∀ {B : Bl} {r : Wd} {m : Nat}, getB B r = some m → (r, m) ∈ B
  | [], r, m, h => by cases h
  | (x, m') :: B, r, m, h => by
    simp only [getB] at h
    split at h
    · rename_i hx
      cases h
      have := eqW_iff.1 hx
      subst this
      exact List.mem_cons_self ..
    · exact List.mem_cons_of_mem _ (getB_mem h)
theorem getB_at : ∀ {B : Bl} (hn : (B.map (·.1)).Nodup) {i : Nat} (hi : i < B.length), getB B B[i].1 = some B[i].2
  | [], _, i, hi => by cases hi
  | (x, m) :: B, hn, 0, hi => by simp [getB, eqW_refl]
  | (x, m) :: B, hn, i + 1, hi => by
    have hi' : i < B.length := by simpa using hi
    have hn' := List.nodup_cons.1 (by simpa using hn : (x :: B.map (·.1)).Nodup)
    simp only [List.getElem_cons_succ, getB]
    split
    · rename_i hx
      have := eqW_iff.1 hx
      exact absurd (List.mem_map.2 ⟨B[i], List.getElem_mem hi', this.symm⟩) hn'.1
    · exact getB_at hn'.2 hi'

/-- What is so all the while. -/
structure InvB (l : List Wd) (B : Bl) : Prop where
  sound : ∀ p ∈ B, Rch l p.1 p.2
  bound : ∀ p ∈ B, p.2 ≤ 8 * B.length
  nodup : (B.map (·.1)).Nodup
theorem InvB.nil (l : List Wd) : InvB l [] := ⟨fun p h => absurd h (by simp), fun p h => absurd h (by simp), List.nodup_nil⟩
theorem InvB.len {l : List Wd} {B : Bl} (h : InvB l B) : B.length ≤ (rests l).length := by
  have := nodup_len h.nodup (b := rests l) fun x hx => by
    obtain ⟨p, hp, rfl⟩ := List.mem_map.1 hx
    exact (h.sound p hp).rest
  simpa using this
theorem InvB.put {l : List Wd} {B : Bl} {r : Wd} {n : Nat} (h : InvB l B) (hr : Rch l r n) (hn : n ≤ 8 * (B.length + 1)) : InvB l (putB B r n).2 := by
  refine ⟨fun p hp => ?_, fun p hp => ?_, ?_⟩
  · rcases putB_mem hp with hp | rfl
    · exact h.sound p hp
    · exact hr
  · rw [putB_len]
    cases hg : getB B r with
    | none =>
      simp only [Option.isSome_none, Bool.false_eq_true, if_false]
      rcases putB_mem hp with hp | rfl
      · have := h.bound p hp; omega
      · exact hn
    | some m =>
      simp only [Option.isSome_some, if_true]
      by_cases hp' : p ∈ B
      · exact h.bound p hp'
      · rcases putB_mem hp with hp2 | rfl
        · exact absurd hp2 hp'
        · have hm := h.bound _ (getB_mem hg)
          have hnd : ((putB B r n).2.map (·.1)).Nodup := by rw [putB_keys, hg]; exact h.nodup
          obtain ⟨i, hi, hpi⟩ := List.getElem_of_mem hp
          have h1 := getB_at hnd hi
          rw [hpi, putB_get, eqW_refl, if_pos rfl, hg] at h1
          have := Option.some.inj h1
          simp only at this hm ⊢
          split at this <;> omega
  · rw [putB_keys]
    cases hg : getB B r with
    | none =>
      simp only [Option.isSome_none, Bool.false_eq_true, if_false]
      rw [List.nodup_append]
      refine ⟨h.nodup, by simp, fun a ha b hb => ?_⟩
      rw [List.mem_singleton] at hb
      subst hb
      exact fun e => getB_none hg (e ▸ ha)
    | some m => simpa using h.nodup

/-- How much is left to be done. -/
def leftB (S : List Wd) (N : Nat) (B : Bl) : Nat := (S.map fun s => match getB B s with | some m => m | none => N).sum
theorem sum_le {α : Type} {f g : α → Nat} : ∀ {S : List α}, (∀ s ∈ S, f s ≤ g s) → (S.map f).sum ≤ (S.map g).sum
  | [], _ => Nat.le_refl _
  | x :: S, h => by
    have h1 := h x (List.mem_cons_self ..)
    have h2 := sum_le (S := S) fun s hs => h s (List.mem_cons_of_mem _ hs)
    simp only [List.map_cons, List.sum_cons]
    omega
theorem sum_lt {α : Type} {f g : α → Nat} : ∀ {S : List α} {x : α}, x ∈ S → (∀ s ∈ S, f s ≤ g s) → f x < g x → (S.map f).sum < (S.map g).sum
  | y :: S, x, hx, h, hl => by
    have h1 := h y (List.mem_cons_self ..)
    have h2 := sum_le (S := S) fun s hs => h s (List.mem_cons_of_mem _ hs)
    simp only [List.map_cons, List.sum_cons]
    rcases List.mem_cons.1 hx with rfl | hx
    · omega
    · have := sum_lt hx (fun s hs => h s (List.mem_cons_of_mem _ hs)) hl
      omega
theorem leftB_put {l : List Wd} {B : Bl} {r : Wd} {n N : Nat} (hr : r ∈ rests l) (hn : n < N) (h : (putB B r n).1 = true) : leftB (rests l) N (putB B r n).2 < leftB (rests l) N B := by
  have key : ∀ B : Bl, (putB B r n).1 = true → ∀ m, getB B r = some m → n < m := by
    intro B
    induction B with
    | nil => intro _ m hm; cases hm
    | cons p B ih =>
      obtain ⟨x, m'⟩ := p
      intro h m hm
      simp only [putB, getB] at h hm
      split at hm
      · rename_i hx
        cases hm
        simp only [hx, if_true] at h
        split at h
        · cases h
        · omega
      · rename_i hx
        simp only [hx, Bool.false_eq_true, if_false] at h
        exact ih h m hm
  refine sum_lt hr (fun s hs => ?_) ?_
  · rw [putB_get]
    by_cases hx : eqW r s = true
    · rw [if_pos hx]
      have := eqW_iff.1 hx
      subst this
      cases hg : getB B r with
      | none => simp only; omega
      | some m => simp only; split <;> omega
    · rw [if_neg hx]; exact Nat.le_refl _
  · rw [putB_get, eqW_refl, if_pos rfl]
    cases hg : getB B r with
    | none => simp only; omega
    | some m => have := key B h m hg; simp only; rw [if_neg (by omega)]; exact this
/-- All that begins is there. -/
def IniB (l : List Wd) (B : Bl) : Prop := ∀ i k (hi : i < l.length) (hk : k < l.length), i ≠ k → begW l[k] l[i] = true → Cov B (l[k].drop l[i].length) l[k].length
/-- What follows on a rest by a word is there. -/
def FolB (l : List Wd) (B : Bl) (r : Wd) (n k : Nat) : Prop := r ≠ [] → ∀ (hk : k < l.length), (begW l[k] r = true → Cov B (l[k].drop r.length) (n + (l[k].length - r.length))) ∧ (begW r l[k] = true → Cov B (r.drop l[k].length) n)
theorem FolB.mono {l : List Wd} {B : Bl} {r r' : Wd} {n n' k : Nat} (h : FolB l B r n k) : FolB l (putB B r' n').2 r n k := fun h0 hk => ⟨fun hb => putB_mono ((h h0 hk).1 hb), fun hb => putB_mono ((h h0 hk).2 hb)⟩
theorem FolB.more {l : List Wd} {B : Bl} {r : Wd} {n m k : Nat} (h : FolB l B r n k) (hm : n ≤ m) : FolB l B r m k := fun h0 hk =>
  ⟨fun hb => by obtain ⟨x, h1, h2⟩ := (h h0 hk).1 hb; exact ⟨x, h1, by omega⟩, fun hb => by obtain ⟨x, h1, h2⟩ := (h h0 hk).2 hb; exact ⟨x, h1, by omega⟩⟩
/-- At the end each rest that can be reached is there with its least. -/
theorem fix_cov {l : List Wd} {B : Bl} (hi : IniB l B) (hf : ∀ p ∈ B, ∀ k, FolB l B p.1 p.2 k) {r : Wd} {n : Nat} (h : Rch l r n) : Cov B r n := by
  induction h with
  | init i k hi' hk hne hb => exact hi i k hi' hk hne hb
  | ext r n k hr h0 hk hb ih =>
    obtain ⟨m, h1, h2⟩ := ih
    exact ((hf _ (getB_mem h1) k).more h2 h0 hk).1 hb
  | cut r n k hr h0 hk hb ih =>
    obtain ⟨m, h1, h2⟩ := ih
    exact ((hf _ (getB_mem h1) k).more h2 h0 hk).2 hb
/-- What the reference's shortest word is. -/
def SpecS (l : List Wd) (x : Int) : Prop :=
  if l.any noneIn then x = 0 else (∃ n : Nat, x = n ∧ Rch l [] n ∧ ∀ m, Rch l [] m → n ≤ m) ∨ (x = -1 ∧ ∀ m, ¬ Rch l [] m)

def joinW (l : List Wd) (ns : List Int) : Wd := ns.flatMap fun n => (l[n.toNat]?).getD []
theorem joinW_append (l : List Wd) (a b : List Int) : joinW l (a ++ b) = joinW l a ++ joinW l b := by simp [joinW]
theorem joinW_one {l : List Wd} {k : Nat} (hk : k < l.length) : joinW l [(k : Int)] = l[k] := by simp [joinW, hk]
def okNs (l : List Wd) (ns : List Int) : Prop := ∀ n ∈ ns, 0 ≤ n ∧ n < l.length
theorem joinW_ge {l : List Wd} (h : ∀ w ∈ l, w ≠ []) : ∀ ns : List Int, okNs l ns → ns.length ≤ (joinW l ns).length
  | [], _ => Nat.le_refl _
  | n :: ns, hn => by
    have ih := joinW_ge h ns fun m hm => hn m (List.mem_cons_of_mem _ hm)
    have hn' := hn n (List.mem_cons_self ..)
    have : joinW l (n :: ns) = (l[n.toNat]?).getD [] ++ joinW l ns := rfl
    rw [this, List.length_append, List.length_cons]
    have hlt : n.toNat < l.length := by omega
    rw [List.getElem?_eq_getElem hlt]
    have := List.length_pos_iff.2 (h _ (List.getElem_mem hlt))
    simp only [Option.getD_some]
    omega

structure Race where
  more : Wd
  long : Nat
  behind : List Int
  ahead : List Int
  ob : Own
  oa : Own
/-- What each race is. -/
structure RaceOK (l : List Wd) (e : Race) : Prop where
  rch : Rch l e.more e.long
  nb : okNs l e.behind
  na : okNs l e.ahead
  join : joinW l e.ahead = joinW l e.behind ++ e.more
  len : e.long = (joinW l e.ahead).length
  apart : ∃ i k b a, e.behind = i :: b ∧ e.ahead = k :: a ∧ i ≠ k
theorem RaceOK.small {l : List Wd} (hl : ∀ w ∈ l, w ≠ []) {e : Race} (h : RaceOK l e) : e.behind.length ≤ e.long ∧ e.ahead.length ≤ e.long := by
  have h1 := joinW_ge hl _ h.nb
  have h2 := joinW_ge hl _ h.na
  have h3 := congrArg List.length h.join
  rw [List.length_append] at h3
  have := h.len
  omega
theorem RaceOK.unlike {l : List Wd} {e : Race} (h : RaceOK l e) : e.behind ≠ e.ahead := by
  obtain ⟨i, k, b, a, h1, h2, h3⟩ := h.apart
  rw [h1, h2]
  intro he
  exact h3 (List.cons.inj he).1
theorem RaceOK.init {l : List Wd} {i k : Nat} (hi : i < l.length) (hk : k < l.length) (hne : i ≠ k) (hb : begW l[k] l[i] = true) (o1 o2 : Own) : RaceOK l ⟨l[k].drop l[i].length, l[k].length, [(i:Int)], [(k:Int)], o1, o2⟩ := by
  refine ⟨.init i k hi hk hne hb, ?_, ?_, ?_, ?_, ⟨i, k, [], [], rfl, rfl, by omega⟩⟩
  · intro n hn; rw [List.mem_singleton] at hn; omega
  · intro n hn; rw [List.mem_singleton] at hn; omega
  · simp only [joinW_one hi, joinW_one hk]; exact begW_drop hb
  · simp only [joinW_one hk]
theorem okNs_add {l : List Wd} {ns : List Int} (h : okNs l ns) {k : Nat} (hk : k < l.length) : okNs l (ns ++ [(k:Int)]) := fun n hn => by
  rcases List.mem_append.1 hn with hn | hn
  · exact h n hn
  · rw [List.mem_singleton] at hn; omega
theorem RaceOK.cut {l : List Wd} {e : Race} (h : RaceOK l e) (h0 : e.more ≠ []) {k : Nat} (hk : k < l.length) (hb : begW e.more l[k] = true) (o : Own) : RaceOK l ⟨e.more.drop l[k].length, e.long, e.behind ++ [(k:Int)], e.ahead, o, e.oa⟩ := by
  refine ⟨.cut _ _ k h.rch h0 hk hb, okNs_add h.nb hk, h.na, ?_, h.len, ?_⟩
  · simp only [joinW_append, joinW_one hk, List.append_assoc]
    rw [← begW_drop hb]; exact h.join
  · obtain ⟨i, k', b, a, h1, h2, h3⟩ := h.apart
    exact ⟨i, k', b ++ [(k:Int)], a, by simp only [h1, List.cons_append], h2, h3⟩
theorem RaceOK.ext {l : List Wd} {e : Race} (h : RaceOK l e) (h0 : e.more ≠ []) {k : Nat} (hk : k < l.length) (hb : begW l[k] e.more = true) (o : Own) : RaceOK l ⟨l[k].drop e.more.length, e.long + (l[k].length - e.more.length), e.ahead, e.behind ++ [(k:Int)], e.oa, o⟩ := by
  have hd := begW_drop hb
  have hlen := congrArg List.length hd
  rw [List.length_append, List.length_drop] at hlen
  refine ⟨.ext _ _ k h.rch h0 hk hb, h.na, okNs_add h.nb hk, ?_, ?_, ?_⟩
  · simp only [joinW_append, joinW_one hk]
    rw [h.join, List.append_assoc, ← hd]
  · simp only [joinW_append, joinW_one hk, List.length_append]
    have h1 := congrArg List.length h.join
    rw [List.length_append] at h1
    have := h.len
    omega
  · obtain ⟨i, k', b, a, h1, h2, h3⟩ := h.apart
    exact ⟨k', i, a, b ++ [(k:Int)], h2, by simp only [h1, List.cons_append], fun e => h3 e.symm⟩

def CovR (todo : List Race) (dn : Bl) (r : Wd) (n : Nat) : Prop := (∃ e ∈ todo, e.more = r ∧ e.long ≤ n) ∨ ∃ m, (r, m) ∈ dn ∧ m ≤ n
structure InvR (l : List Wd) (todo : List Race) (dn : Bl) : Prop where
  ok : ∀ e ∈ todo, RaceOK l e
  bound : ∀ e ∈ todo, e.long ≤ 8 * (dn.length + 1)
  ini : ∀ i k (hi : i < l.length) (hk : k < l.length), i ≠ k → begW l[k] l[i] = true → CovR todo dn (l[k].drop l[i].length) l[k].length
  fol : ∀ p ∈ dn, ∀ k (hk : k < l.length), (begW l[k] p.1 = true → CovR todo dn (l[k].drop p.1.length) (p.2 + (l[k].length - p.1.length))) ∧ (begW p.1 l[k] = true → CovR todo dn (p.1.drop l[k].length) p.2)
  non : ∀ p ∈ dn, p.1 ≠ [] ∧ p.1 ∈ rests l
  nodup : (dn.map (·.1)).Nodup
  low : ∀ p ∈ dn, ∀ e ∈ todo, p.2 ≤ e.long
theorem InvR.cov {l : List Wd} {todo : List Race} {dn : Bl} (h : InvR l todo dn) {r : Wd} {n : Nat} (hr : Rch l r n) : (∃ e ∈ todo, e.long ≤ n) ∨ ∃ m, (r, m) ∈ dn ∧ m ≤ n := by
  have out : ∀ r n, CovR todo dn r n → ∀ n', n ≤ n' → (∃ e ∈ todo, e.long ≤ n') ∨ ∃ m, (r, m) ∈ dn ∧ m ≤ n' := fun r n hc n' hn => by
    rcases hc with ⟨e, h1, h2, h3⟩ | ⟨m, h1, h2⟩
    · exact .inl ⟨e, h1, by omega⟩
    · exact .inr ⟨m, h1, by omega⟩
  induction hr with
  | init i k hi hk hne hb => exact out _ _ (h.ini i k hi hk hne hb) _ (Nat.le_refl _)
  | ext r n k hr h0 hk hb ih =>
    rcases ih with ⟨e, h1, h2⟩ | ⟨m, h1, h2⟩
    · exact .inl ⟨e, h1, by omega⟩
    · exact out _ _ ((h.fol _ h1 k hk).1 hb) _ (by simp only; omega)
  | cut r n k hr h0 hk hb ih =>
    rcases ih with ⟨e, h1, h2⟩ | ⟨m, h1, h2⟩
    · exact .inl ⟨e, h1, h2⟩
    · exact out _ _ ((h.fol _ h1 k hk).2 hb) _ h2
theorem InvR.none {l : List Wd} {dn : Bl} (h : InvR l [] dn) (m : Nat) : ¬ Rch l [] m := fun hr => by
  rcases h.cov hr with ⟨e, h1, _⟩ | ⟨n, h1, _⟩
  · cases h1
  · exact (h.non _ h1).1 rfl
theorem InvR.least {l : List Wd} {todo : List Race} {dn : Bl} (h : InvR l todo dn) {e : Race} (hm : ∀ e' ∈ todo, e.long ≤ e'.long) {m : Nat} (hr : Rch l [] m) : e.long ≤ m := by
  rcases h.cov hr with ⟨e', h1, h2⟩ | ⟨n, h1, _⟩
  · have := hm e' h1; omega
  · exact absurd rfl (h.non _ h1).1
theorem InvR.dnlen {l : List Wd} {todo : List Race} {dn : Bl} (h : InvR l todo dn) : dn.length ≤ (rests l).length := by
  have := nodup_len h.nodup (b := rests l) fun x hx => by
    obtain ⟨p, hp, rfl⟩ := List.mem_map.1 hx
    exact (h.non p hp).2
  simpa using this
/-- One that is taken out, and whose rest was done. -/
theorem InvR.skip {l : List Wd} {todo todo' : List Race} {dn : Bl} {e : Race} (h : InvR l todo dn) (hmem : ∀ x, x ∈ todo ↔ x = e ∨ x ∈ todo') (hd : e.more ∈ dn.map (·.1)) : InvR l todo' dn := by
  have sub : ∀ x ∈ todo', x ∈ todo := fun x hx => (hmem x).2 (.inr hx)
  have cov : ∀ r n, CovR todo dn r n → CovR todo' dn r n := fun r n hc => by
    rcases hc with ⟨x, h1, h2, h3⟩ | hc
    · rcases (hmem x).1 h1 with rfl | h1
      · obtain ⟨p, hp, hpm⟩ := List.mem_map.1 hd
        have := h.low p hp x ((hmem x).2 (.inl rfl))
        exact .inr ⟨p.2, by rw [← h2, ← hpm]; exact hp, by omega⟩
      · exact .inl ⟨x, h1, h2, h3⟩
    · exact .inr hc
  exact ⟨fun e he => h.ok e (sub e he), fun e he => h.bound e (sub e he), fun i k hi hk hne hb => cov _ _ (h.ini i k hi hk hne hb), fun p hp k hk => ⟨fun hb => cov _ _ ((h.fol p hp k hk).1 hb), fun hb => cov _ _ ((h.fol p hp k hk).2 hb)⟩, h.non, h.nodup, fun p hp e he => h.low p hp e (sub e he)⟩
/-- One that is taken out, with the shortest word, and what follows on it by the first words. -/
structure MidR (l : List Wd) (todo : List Race) (dn : Bl) (e : Race) (j : Nat) : Prop where
  ok : ∀ x ∈ todo, RaceOK l x
  bound : ∀ x ∈ todo, x.long ≤ 8 * (dn.length + 2)
  eb : e.long ≤ 8 * (dn.length + 1)
  ini : ∀ i k (hi : i < l.length) (hk : k < l.length), i ≠ k → begW l[k] l[i] = true → CovR todo ((e.more, e.long) :: dn) (l[k].drop l[i].length) l[k].length
  fol : ∀ p ∈ dn, ∀ k (hk : k < l.length), (begW l[k] p.1 = true → CovR todo ((e.more, e.long) :: dn) (l[k].drop p.1.length) (p.2 + (l[k].length - p.1.length))) ∧ (begW p.1 l[k] = true → CovR todo ((e.more, e.long) :: dn) (p.1.drop l[k].length) p.2)
  fole : ∀ k, k < j → ∀ (hk : k < l.length), (begW l[k] e.more = true → CovR todo ((e.more, e.long) :: dn) (l[k].drop e.more.length) (e.long + (l[k].length - e.more.length))) ∧ (begW e.more l[k] = true → CovR todo ((e.more, e.long) :: dn) (e.more.drop l[k].length) e.long)
  non : ∀ p ∈ dn, p.1 ≠ [] ∧ p.1 ∈ rests l
  nodup : (dn.map (·.1)).Nodup
  low : ∀ p ∈ dn, ∀ x ∈ todo, p.2 ≤ x.long
  lowe : ∀ x ∈ todo, e.long ≤ x.long
  lowp : ∀ p ∈ dn, p.2 ≤ e.long
  oke : RaceOK l e
  new : e.more ≠ [] ∧ e.more ∉ dn.map (·.1)
theorem InvR.take {l : List Wd} {todo todo' : List Race} {dn : Bl} {e : Race} (h : InvR l todo dn) (hmem : ∀ x, x ∈ todo ↔ x = e ∨ x ∈ todo') (hm : ∀ x ∈ todo, e.long ≤ x.long) (h0 : e.more ≠ []) (hd : e.more ∉ dn.map (·.1)) : MidR l todo' dn e 0 := by
  have sub : ∀ x ∈ todo', x ∈ todo := fun x hx => (hmem x).2 (.inr hx)
  have he : e ∈ todo := (hmem e).2 (.inl rfl)
  have cov : ∀ r n, CovR todo dn r n → CovR todo' ((e.more, e.long) :: dn) r n := fun r n hc => by
    rcases hc with ⟨x, h1, h2, h3⟩ | ⟨m, h1, h2⟩
    · rcases (hmem x).1 h1 with rfl | h1
      · exact .inr ⟨x.long, by rw [← h2]; exact List.mem_cons_self .., h3⟩
      · exact .inl ⟨x, h1, h2, h3⟩
    · exact .inr ⟨m, List.mem_cons_of_mem _ h1, h2⟩
  exact ⟨fun e he => h.ok e (sub e he), fun e he => by have := h.bound e (sub e he); omega, h.bound e he, fun i k hi hk hne hb => cov _ _ (h.ini i k hi hk hne hb), fun p hp k hk => ⟨fun hb => cov _ _ ((h.fol p hp k hk).1 hb), fun hb => cov _ _ ((h.fol p hp k hk).2 hb)⟩, fun k hk => absurd hk (Nat.not_lt_zero _), h.non, h.nodup, fun p hp e he => h.low p hp e (sub e he), fun x hx => hm x (sub x hx), fun p hp => h.low p hp e he, h.ok e he, ⟨h0, hd⟩⟩
theorem CovR.add {todo todo' : List Race} {dn : Bl} {r : Wd} {n : Nat} (h : CovR todo dn r n) : CovR (todo ++ todo') dn r n := by
  rcases h with ⟨x, h1, h2, h3⟩ | h
  · exact .inl ⟨x, List.mem_append_left _ h1, h2, h3⟩
  · exact .inr h
/-- What follows by one word more: x, if there is one. -/
theorem MidR.add {l : List Wd} {todo : List Race} {dn : Bl} {e : Race} {j : Nat} (h : MidR l todo dn e j) (hj : j < l.length) (xs : List Race) (hx : ∀ x ∈ xs, RaceOK l x ∧ e.long ≤ x.long ∧ x.long ≤ e.long + 8)
    (h1 : begW e.more l[j] = true → ∃ x ∈ xs, x.more = e.more.drop l[j].length ∧ x.long = e.long) (h2 : begW e.more l[j] = false → begW l[j] e.more = true → ∃ x ∈ xs, x.more = l[j].drop e.more.length ∧ x.long = e.long + (l[j].length - e.more.length)) : MidR l (todo ++ xs) dn e (j + 1) := by
  have mem : ∀ x, x ∈ todo ++ xs → x ∈ todo ∨ x ∈ xs := fun x => List.mem_append.1
  refine ⟨fun x hx' => ?_, fun x hx' => ?_, h.eb, fun i k hi hk hne hb => (h.ini i k hi hk hne hb).add, fun p hp k hk => ⟨fun hb => ((h.fol p hp k hk).1 hb).add, fun hb => ((h.fol p hp k hk).2 hb).add⟩, fun k hkj hk => ?_, h.non, h.nodup, fun p hp x hx' => ?_, fun x hx' => ?_, h.lowp, h.oke, h.new⟩
  · rcases mem x hx' with hx' | hx'
    · exact h.ok x hx'
    · exact (hx x hx').1
  · rcases mem x hx' with hx' | hx'
    · exact h.bound x hx'
    · have := (hx x hx').2.2
      have := h.eb
      omega
  · rcases Nat.lt_succ_iff_lt_or_eq.1 hkj with hkj | rfl
    · exact ⟨fun hb => ((h.fole k hkj hk).1 hb).add, fun hb => ((h.fole k hkj hk).2 hb).add⟩
    · have two : begW e.more l[k] = true → CovR (todo ++ xs) ((e.more, e.long) :: dn) (e.more.drop l[k].length) e.long := fun hb => by
        obtain ⟨x, hx1, hx2, hx3⟩ := h1 hb
        exact .inl ⟨x, List.mem_append_right _ hx1, hx2, by omega⟩
      refine ⟨fun hb => ?_, two⟩
      cases hb' : begW e.more l[k] with
      | true =>
        have hd1 := congrArg List.length (begW_drop hb)
        have hd2 := congrArg List.length (begW_drop hb')
        simp only [List.length_append, List.length_drop] at hd1 hd2
        have hlen : l[k].length = e.more.length := by omega
        have c := two hb'
        rw [List.drop_of_length_le (by omega)] at c ⊢
        rw [hlen, Nat.sub_self, Nat.add_zero]
        exact c
      | false =>
        obtain ⟨x, hx1, hx2, hx3⟩ := h2 hb' hb
        exact .inl ⟨x, List.mem_append_right _ hx1, hx2, by omega⟩
  · rcases mem x hx' with hx' | hx'
    · exact h.low p hp x hx'
    · have := (hx x hx').2.1
      have := h.lowp p hp
      omega
  · rcases mem x hx' with hx' | hx'
    · exact h.lowe x hx'
    · exact (hx x hx').2.1
theorem MidR.done {l : List Wd} {todo : List Race} {dn : Bl} {e : Race} (h : MidR l todo dn e l.length) : InvR l todo ((e.more, e.long) :: dn) := by
  refine ⟨h.ok, h.bound, h.ini, fun p hp k hk => ?_, fun p hp => ?_, ?_, fun p hp x hx => ?_⟩
  · rcases List.mem_cons.1 hp with rfl | hp
    · exact h.fole k hk hk
    · exact h.fol p hp k hk
  · rcases List.mem_cons.1 hp with rfl | hp
    · exact ⟨h.new.1, h.oke.rch.rest⟩
    · exact h.non p hp
  · exact List.nodup_cons.2 ⟨h.new.2, h.nodup⟩
  · rcases List.mem_cons.1 hp with rfl | hp
    · exact h.lowe x hx
    · exact h.low p hp x hx
/-- The first races. -/
structure IniR (l : List Wd) (todo : List Race) (i k : Nat) : Prop where
  ok : ∀ e ∈ todo, RaceOK l e
  bound : ∀ e ∈ todo, e.long ≤ 8
  all : ∀ i' k' (hi : i' < l.length) (hk : k' < l.length), (i' < i ∨ (i' = i ∧ k' < k)) → i' ≠ k' → begW l[k'] l[i'] = true → ∃ e ∈ todo, e.more = l[k'].drop l[i'].length ∧ e.long ≤ l[k'].length
theorem IniR.nil (l : List Wd) : IniR l [] 0 0 := ⟨fun e h => absurd h (by simp), fun e h => absurd h (by simp), fun i k hi hk h => by omega⟩
theorem IniR.line {l : List Wd} {todo : List Race} {i : Nat} (h : IniR l todo i l.length) : IniR l todo (i + 1) 0 := ⟨h.ok, h.bound, fun i' k' hi hk hp => h.all i' k' hi hk (by omega)⟩
def wants (l : List Wd) (i k : Nat) (a b : Wd) : Bool := decide (i ≠ k) && (begW b a && (decide (a.length < b.length) || decide (i < k)))
theorem IniR.add {l : List Wd} {todo : List Race} {i k : Nat} (h : IniR l todo i k) (h8 : ∀ w ∈ l, w.length ≤ 8) (hi : i < l.length) (hk : k < l.length) (hw : wants l i k l[i] l[k] = true) (o1 o2 : Own) :
    IniR l (todo ++ [⟨l[k].drop l[i].length, l[k].length, [(i:Int)], [(k:Int)], o1, o2⟩]) i (k + 1) := by
  simp only [wants, Bool.and_eq_true, decide_eq_true_eq] at hw
  obtain ⟨w1, w2, w3⟩ := hw
  refine ⟨fun e he => ?_, fun e he => ?_, fun i' k' hi' hk' hp hne hb => ?_⟩
  · rcases List.mem_append.1 he with he | he
    · exact h.ok e he
    · rw [List.mem_singleton] at he; subst he; exact .init hi hk w1 w2 _ _
  · rcases List.mem_append.1 he with he | he
    · exact h.bound e he
    · rw [List.mem_singleton] at he; subst he; exact h8 _ (List.getElem_mem hk)
  · by_cases hlast : i' = i ∧ k' = k
    · obtain ⟨rfl, rfl⟩ := hlast
      exact ⟨_, List.mem_append_right _ (List.mem_singleton.2 rfl), rfl, Nat.le_refl _⟩
    · obtain ⟨e, h1, h2⟩ := h.all i' k' hi' hk' (by omega) hne hb
      exact ⟨e, List.mem_append_left _ h1, h2⟩
theorem IniR.next {l : List Wd} {todo : List Race} {i k : Nat} (h : IniR l todo i k) (hi : i < l.length) (hk : k < l.length) (hw : wants l i k l[i] l[k] = false) : IniR l todo i (k + 1) := by
  refine ⟨h.ok, h.bound, fun i' k' hi' hk' hp hne hb => ?_⟩
  by_cases hlast : i' = i ∧ k' = k
  · obtain ⟨rfl, rfl⟩ := hlast
    simp only [wants, hne, hb, ne_eq, not_false_eq_true, decide_true, Bool.true_and, Bool.or_eq_false_iff, decide_eq_false_iff_not] at hw
    have hd := begW_drop hb
    have hl := congrArg List.length hd
    rw [List.length_append, List.length_drop] at hl
    have hlen : l[i'].length = l[k'].length := by omega
    have heq : l[k'] = l[i'] := by
      rw [List.drop_of_length_le (by omega), List.append_nil] at hd
      exact hd
    obtain ⟨e, h1, h2, h3⟩ := h.all k' i' hk' hi' (by omega) (by omega) (by rw [heq]; exact begW_iff.2 ⟨[], by simp⟩)
    refine ⟨e, h1, ?_, by omega⟩
    rw [h2, List.drop_of_length_le (by omega), List.drop_of_length_le (by omega)]
  · exact h.all i' k' hi' hk' (by omega) hne hb
theorem IniR.inv {l : List Wd} {todo : List Race} {k : Nat} (h : IniR l todo l.length k) : InvR l todo [] :=
  ⟨h.ok, fun e he => by have := h.bound e he; simpa using this, fun i k hi hk hne hb => .inl (h.all i k hi hk (.inl hi) hne hb), fun p hp => absurd hp (by simp), fun p hp => absurd hp (by simp), List.nodup_nil, fun p hp => absurd hp (by simp)⟩
/-- How much is left to be done. -/
def leftR (l : List Wd) (todo : List Race) (dn : Bl) : Nat := todo.length + 25 * ((rests l).length - dn.length)
end Go.Proofs.YtldlcejlfaogbaaGreatDoor.Vs
