/- The engine 'Dm', part 10: code carried out by a function, for closed runs. -/
import Derived.Test.YthchlpikcpidaaaDoorDmFn
namespace Go.Proofs.YthchlpikcpidaaaDoor.Vs
open Go.RowKit
set_option linter.unusedVariables false
set_option linter.unusedSimpArgs false
/-- A call comes to one value and leaves the heap as it was. -/
def Fn (Z : Sys) (f : FuncId) (ds : List D) (x : D) : Prop := ∀ σ, PCall Z f ds σ (fun d τ => d = x ∧ τ = σ)

structure FnI where
  L : LCode
  rs : List ResultVar
  k : Nat
  N : Nat
structure Tab (Z : Sys) where
  fn : FuncId → Option FnI
  ok : ∀ f i, fn f = some i → FnOK Z.P f i.L i.rs i.k
  lib : FuncId → List D → Option D
  libok : ∀ f ds d, lib f ds = some d → Fn Z f ds d

structure HL where
  n : Nat
  l : List (Option AO)
  low : Nat
def HL.get (h : HL) (r : Nat) : Option AO := if r < h.n then (h.l[h.n - 1 - r]?).getD none else none
def HL.abs (h : HL) : Heap := ⟨h.n, h.get⟩
def HL.new (h : HL) (o : AO) : HL := ⟨h.n + 1, some o :: h.l, h.low⟩
def HL.at (h : HL) (r : Nat) (o : Option AO) : Option HL := match h.get r with
  | some _ => some ⟨h.n, h.l.set (h.n - 1 - r) o, if r < h.low then r else h.low⟩
  | none => none
def HL.app (h : HL) : Eff → Option HL
  | .keep => some h
  | .new o => some (h.new o)
  | .put r o => h.at r (some o)
  | .move r o => (h.at r none).map (·.new o)
  | .kill r => h.at r none

theorem HL.get_new (h : HL) (o : AO) (r : Nat) : (h.new o).get r = if r = h.n then some o else h.get r := by
  unfold HL.get HL.new
  simp only
  by_cases h1 : r = h.n
  · subst h1; simp
  · rw [if_neg h1]
    by_cases h2 : r < h.n
    · rw [if_pos (by omega), if_pos h2]
      have : h.n + 1 - 1 - r = (h.n - 1 - r) + 1 := by omega
      rw [this, List.getElem?_cons_succ]
    · rw [if_neg (by omega), if_neg h2]
theorem HL.at_some {h h' : HL} {r : Nat} {o : Option AO} (hh : h.at r o = some h') : ∃ x, h.get r = some x ∧ h' = ⟨h.n, h.l.set (h.n - 1 - r) o, if r < h.low then r else h.low⟩ := by
  unfold HL.at at hh
  split at hh
  · rename_i x hx; cases hh; exact ⟨x, hx, rfl⟩
  · cases hh
theorem HL.get_at {h h' : HL} {r : Nat} {o : Option AO} (hh : h.at r o = some h') (q : Nat) : h'.get q = if q = r then o else h.get q := by
  obtain ⟨x, hx, rfl⟩ := HL.at_some hh
  have hr : r < h.n := by
    unfold HL.get at hx
    split at hx
    · assumption
    · cases hx
  have hl : h.n - 1 - r < h.l.length := by
    unfold HL.get at hx
    rw [if_pos hr] at hx
    cases hg : h.l[h.n - 1 - r]? with
    | none => rw [hg] at hx; cases hx
    | some y => exact (List.getElem?_eq_some_iff.1 hg).1
  unfold HL.get
  simp only
  by_cases hq : q < h.n
  · rw [if_pos hq, if_pos hq, List.getElem?_set]
    by_cases hqr : q = r
    · subst hqr; rw [if_pos rfl, if_pos hl, if_pos rfl]; rfl
    · rw [if_neg (by omega), if_neg hqr]
  · rw [if_neg hq, if_neg hq, if_neg (by omega)]
theorem HL.abs_new (h : HL) (o : AO) : (h.new o).abs = h.abs.new o := Heap.ext rfl fun i => h.get_new o i
theorem HL.abs_app {h h' : HL} {e : Eff} (hh : h.app e = some h') : h'.abs = h.abs.app e := by
  cases e with
  | keep => cases hh; rfl
  | new o => cases hh; exact h.abs_new o
  | put r o =>
    have hg := HL.get_at hh
    obtain ⟨x, hx, rfl⟩ := HL.at_some hh
    exact Heap.ext rfl hg
  | kill r =>
    have hg := HL.get_at hh
    obtain ⟨x, hx, rfl⟩ := HL.at_some hh
    exact Heap.ext rfl hg
  | move r o =>
    simp only [HL.app] at hh
    cases hk : h.at r none with
    | none => rw [hk] at hh; cases hh
    | some h1 =>
      rw [hk] at hh
      cases hh
      have hg := HL.get_at hk
      obtain ⟨x, hx, rfl⟩ := HL.at_some hk
      rw [HL.abs_new]
      show Heap.new _ o = (h.abs.del r).new o
      congr 1
      exact Heap.ext rfl hg

/-- What stays. -/
structure HL.Keeps (h h' : HL) : Prop where
  low : h'.low ≤ h.low
  n : h.n ≤ h'.n
  get : ∀ r, r < h'.low → r < h.n → h'.get r = h.get r
theorem HL.Keeps.refl (h : HL) : h.Keeps h := ⟨Nat.le_refl _, Nat.le_refl _, fun _ _ _ => rfl⟩
theorem HL.Keeps.trans {a b c : HL} (h : a.Keeps b) (k : b.Keeps c) : a.Keeps c :=
  ⟨Nat.le_trans k.low h.low, Nat.le_trans h.n k.n, fun r h1 h2 => (k.get r h1 (Nat.lt_of_lt_of_le h2 h.n)).trans (h.get r (Nat.lt_of_lt_of_le h1 k.low) h2)⟩
theorem HL.keeps_new (h : HL) (o : AO) : h.Keeps (h.new o) := ⟨Nat.le_refl _, Nat.le_succ _, fun r _ h2 => by rw [HL.get_new, if_neg (by omega)]⟩
theorem HL.keeps_at {h h' : HL} {r : Nat} {o : Option AO} (hh : h.at r o = some h') : h.Keeps h' := by
  have hg := HL.get_at hh
  obtain ⟨x, hx, rfl⟩ := HL.at_some hh
  refine ⟨?_, Nat.le_refl _, fun q h1 h2 => ?_⟩
  · simp only; split <;> omega
  · rw [hg, if_neg]
    simp only at h1
    split at h1 <;> omega
theorem HL.keeps_app {h h' : HL} {e : Eff} (hh : h.app e = some h') : h.Keeps h' := by
  cases e with
  | keep => cases hh; exact .refl h
  | new o => cases hh; exact h.keeps_new o
  | put r o => exact HL.keeps_at hh
  | kill r => exact HL.keeps_at hh
  | move r o =>
    simp only [HL.app] at hh
    cases hk : h.at r none with
    | none => rw [hk] at hh; cases hh
    | some h1 => rw [hk] at hh; cases hh; exact (HL.keeps_at hk).trans (h1.keeps_new o)

def belB : Nat → Nat → D → Bool
  | 0, _, _ => false
  | k + 1, N, d => match d with
    | .ptr r _ => decide (r < N)
    | .map r => decide (r < N)
    | .row r _ _ _ _ => decide (r < N)
    | .sl (.tip r _) _ cs => decide (r < N) && cs.all (belB k N)
    | .sl _ _ cs => cs.all (belB k N)
    | .at cs => cs.all (belB k N)
    | .agg cs => cs.all (belB k N)
    | .tup cs => cs.all (belB k N)
    | .func _ cs => cs.all (belB k N)
    | .bfunc _ cs => cs.all (belB k N)
    | .iface _ d => belB k N d
    | .meth _ _ => true
    | _ => true
theorem belB_ok : ∀ (k N : Nat) (d : D), belB k N d = true → Bel N d
  | 0, _, _, h => by simp [belB] at h
  | k + 1, N, d, h => by
    have all : ∀ cs : List D, cs.all (belB k N) = true → ∀ d ∈ cs, Bel N d := fun cs h d hd => belB_ok k N d (List.all_eq_true.1 h d hd)
    cases d with
    | ptr r o => simp [belB] at h; exact .ptr r o h
    | map r => simp [belB] at h; exact .map r h
    | row r o n c z => simp [belB] at h; exact .row r o n c z h
    | sl o n cs =>
      cases o with
      | tip r z => simp only [belB, Bool.and_eq_true, decide_eq_true_eq] at h; exact .sl _ _ _ (fun r' z' he => by cases he; exact h.1) (all cs h.2)
      | _ => simp only [belB] at h; exact .sl _ _ _ (fun r' z' he => by cases he) (all cs h)
    | «at» cs => exact .at cs (all cs h)
    | agg cs => exact .agg cs (all cs h)
    | tup cs => exact .tup cs (all cs h)
    | func f cs => exact .func f cs (all cs h)
    | bfunc f cs => exact .bfunc f cs (all cs h)
    | iface t d => exact .iface t d (belB_ok k N d h)
    | _ => constructor

def envL (l : List D) : Env := fun t => l.getD t .junk
def setL (l : List D) (t : Option Nat) (d : D) : Option (List D) := match t with
  | none => some l
  | some t => if t < l.length then some (l.set t d) else none
theorem setL_ok {l l' : List D} {t : Option Nat} {d : D} (h : setL l t d = some l') : envL l' = updO (envL l) t d := by
  unfold setL at h
  split at h
  · cases h; rfl
  · rename_i t
    split at h
    · rename_i ht
      cases h
      funext i
      simp only [envL, updO, upd, List.getD, List.getElem?_set]
      by_cases hi : i = t
      · subst hi; simp [ht]
      · rw [if_neg (Ne.symm hi), if_neg hi]
    · cases h

abbrev CallF := FuncId → List D → HL → Option (D × Option HL)

section
variable {Z : Sys} (T : Tab Z)
/-- An operation; no heap: it is as it was. -/
def denOp1 (call : CallF) (op : Op) (ann : Nat) (l : List D) (h : HL) : Option (D × Option HL) :=
  match op with
  | .call ⟨.value f, args, _⟩ => (match ev (envL l) f with
    | .func g caps => call g (args.toList.map (ev (envL l)) ++ caps) h
    | .bfunc g fs => call g (fs ++ args.toList.map (ev (envL l))) h
    | _ => none)
  | .call ⟨.invoke r m, args, _⟩ => (match ev (envL l) r with
    | .iface t d => (match Z.M t m with
      | some g => call g (d :: args.toList.map (ev (envL l))) h
      | none => none)
    | _ => none)
  | op => (match exec Z op ann (envL l) h.get h.n with
    | some (d, .keep) => some (d, none)
    | some (d, e) => (h.app e).map fun h' => (d, some h')
    | none => none)
def denOp (call : CallF) (o : LOp) (l : List D) (h : HL) : Option (List D × HL) :=
  match o.guard with
  | none => (match denOp1 (Z := Z) call o.op o.ann l h with
    | some (d, h') => (setL l o.dst d).map (·, h'.getD h)
    | none => none)
  | some (t, b) => (match gate (envL l t) b with
    | some true => (match denOp1 (Z := Z) call o.op o.ann l h with
      | some (d, h') => (setL l o.dst d).map (·, h'.getD h)
      | none => none)
    | some false => (setL l o.dst (.tup [])).map (·, h)
    | none => none)
def denOps (call : CallF) : List LOp → List D → HL → Option (List D × HL)
  | [], l, h => some (l, h)
  | o :: os, l, h => match denOp (Z := Z) call o l h with
    | some (l', h') => denOps call os l' h'
    | none => none
def denStill (call : CallF) : List LOp → List D → HL → Option (List D)
  | [], l, h => some l
  | o :: os, l, h =>
    match (match o.guard with
    | none => (match denOp1 (Z := Z) call o.op 0 l h with
      | some (d, none) => setL l o.dst d
      | _ => none)
    | some (t, b) => (match gate (envL l t) b with
      | some true => (match denOp1 (Z := Z) call o.op 0 l h with
        | some (d, none) => setL l o.dst d
        | _ => none)
      | some false => setL l o.dst (.tup [])
      | none => none)) with
    | some l' => denStill call os l' h
    | none => none

def denPlan (call : CallF) : List LOp → List D → HL → Option (List D × HL)
  | [], l, h => some (l, h)
  | o :: os, l, h => if keepKind o.op then (match kres Z o (envL l) h.abs with
      | some d => (match setL l o.dst d with
        | some l' => denPlan call os l' h
        | none => none)
      | none => none)
    else (match denOp (Z := Z) call o l h with
    | some (l', h') => denPlan call os l' h'
    | none => none)

def denCall (go : LCode → List D → HL → Option (Ex × List D × HL)) : CallF := fun f ds h =>
  match T.lib f ds with
  | some d => some (d, none)
  | none =>
    match T.fn f with
    | none => none
    | some i =>
      if ds.length = i.k then
        match go i.L (ds ++ List.replicate (i.N - ds.length) .junk) ⟨h.n, h.l, h.n⟩ with
        | some (.exit _, _, _) => none
        | some (_, l', h') => (match ares Z i.rs (envL l') h'.get with
          | some d => if decide (h'.low = h.n) && belB 50 h.n d then some (d, none) else some (d, some ⟨h'.n, h'.l, if h'.low < h.low then h'.low else h.low⟩)
          | none => none)
        | none => none
      else none

def den : Nat → LCode → List D → HL → Option (Ex × List D × HL)
  | 0, _, _, _ => none
  | n + 1, c, l, h => match c with
    | .skip => some (.normal, l, h)
    | .ops os => (match denOps (Z := Z) (denCall T (den n)) os l h with
      | some (l', h') => some (.normal, l', h')
      | none => none)
    | .draw os s ts pl => if pl.isEmpty = false ∧ os.all annOK = true then (match denPlan (Z := Z) (denCall T (den n)) (pl.filterMap (os[·]?)) l h with
        | some (l', h') => some (.normal, l', h')
        | none => none)
      else (match ts with
      | [] => if s then (match denStill (Z := Z) (denCall T (den n)) os l h with
          | some l' => some (.normal, l', h)
          | none => none) else none
      | k :: _ => (match denStill (Z := Z) (denCall T (den n)) (os.take k) l h with
        | some l' => (match denOps (Z := Z) (denCall T (den n)) (os.drop k) l' h with
          | some (l', h') => some (.normal, l', h')
          | none => none)
        | none => none))
    | .seq a b => (match den n a l h with
      | some (.normal, l', h') => den n b l' h'
      | r => r)
    | .cond c a b => (match ev (envL l) c with
      | .bool true => den n a l h
      | .bool false => den n b l h
      | _ => none)
    | .block id a => (match den n a l h with
      | some (.exit id', l', h') => if id' = id then some (.normal, l', h') else some (.exit id', l', h')
      | r => r)
    | .loop a => (match den n a l h with
      | some (.normal, l', h') => den n (.loop a) l' h'
      | r => r)
    | .exit id => some (.exit id, l, h)
    | .ret => some (.ret, l, h)
    | .bad => none

def CallKeeps (call : CallF) : Prop := ∀ f ds h d h', call f ds h = some (d, some h') → h.Keeps h'
theorem denOp1_keeps {call : CallF} (hc : CallKeeps call) {op : Op} {ann : Nat} {l : List D} {h h' : HL} {d : D} (hh : denOp1 (Z := Z) call op ann l h = some (d, some h')) : h.Keeps h' := by
  unfold denOp1 at hh
  split at hh
  · split at hh
    · exact hc _ _ _ _ _ hh
    · exact hc _ _ _ _ _ hh
    · cases hh
  · split at hh
    · split at hh
      · exact hc _ _ _ _ _ hh
      · cases hh
    · cases hh
  · split at hh
    · cases hh
    · rename_i d1 e hek he
      cases ha : h.app e with
      | none => rw [ha] at hh; cases hh
      | some h1 => rw [ha] at hh; simp at hh; rw [← hh.2]; exact HL.keeps_app ha
    · cases hh
theorem denOp_keeps {call : CallF} (hc : CallKeeps call) {o : LOp} {l l' : List D} {h h' : HL} (hh : denOp (Z := Z) call o l h = some (l', h')) : h.Keeps h' := by
  have key : ∀ {x : Option (D × Option HL)}, x = denOp1 (Z := Z) call o.op o.ann l h → (match x with | some (d, h') => (setL l o.dst d).map (·, h'.getD h) | none => none) = some (l', h') → h.Keeps h' := fun {x} hx hy => by
    split at hy
    · rename_i d h1
      cases hs : setL l o.dst d with
      | none => rw [hs] at hy; cases hy
      | some l1 =>
        rw [hs] at hy
        simp at hy
        rw [← hy.2]
        cases h1 with
        | none => exact .refl h
        | some h1 => exact denOp1_keeps hc hx.symm
    · cases hy
  unfold denOp at hh
  split at hh
  · exact key rfl hh
  · split at hh
    · exact key rfl hh
    · rename_i t b _ _ _
      cases hs : setL l o.dst (.tup []) with
      | none => rw [hs] at hh; cases hh
      | some l1 => rw [hs] at hh; simp at hh; rw [← hh.2]; exact .refl h
    · cases hh
theorem denOps_keeps {call : CallF} (hc : CallKeeps call) : ∀ (os : List LOp) {l l' : List D} {h h' : HL}, denOps (Z := Z) call os l h = some (l', h') → h.Keeps h'
  | [], l, l', h, h', hh => by simp [denOps] at hh; rw [← hh.2]; exact .refl h
  | o :: os, l, l', h, h', hh => by
    simp only [denOps] at hh
    split at hh
    · rename_i l1 h1 ho
      exact (denOp_keeps hc ho).trans (denOps_keeps hc os hh)
    · cases hh
theorem denPlan_keeps {call : CallF} (hc : CallKeeps call) : ∀ (os : List LOp) {l l' : List D} {h h' : HL}, denPlan (Z := Z) call os l h = some (l', h') → h.Keeps h'
  | [], l, l', h, h', hh => by simp [denPlan] at hh; rw [← hh.2]; exact .refl h
  | o :: os, l, l', h, h', hh => by
    simp only [denPlan] at hh
    split at hh
    · split at hh
      · split at hh
        · exact denPlan_keeps hc os hh
        · cases hh
      · cases hh
    · split at hh
      · rename_i l1 h1 ho
        exact (denOp_keeps hc ho).trans (denPlan_keeps hc os hh)
      · cases hh
theorem denCall_keeps {go : LCode → List D → HL → Option (Ex × List D × HL)} (hg : ∀ c l h e l' h', go c l h = some (e, l', h') → h.Keeps h') : CallKeeps (denCall T go) := by
  intro f ds h d h' hh
  unfold denCall at hh
  split at hh
  · cases hh
  · split at hh
    · cases hh
    · rename_i i hi
      split at hh
      · split at hh
        · cases hh
        · rename_i e l1 h1 _ hgo
          have hk := hg _ _ _ _ _ _ hgo
          split at hh
          · split at hh
            · cases hh
            · cases hh
              refine ⟨by simp only; split <;> omega, hk.n, fun r h2 h3 => hk.get r ?_ h3⟩
              simp only at h2
              split at h2 <;> omega
          · cases hh
        · cases hh
      · cases hh
theorem den_keeps : ∀ (n : Nat) (c : LCode) (l : List D) (h : HL) (e : Ex) (l' : List D) (h' : HL), den T n c l h = some (e, l', h') → h.Keeps h'
  | 0, _, _, _, _, _, _, hh => by simp [den] at hh
  | n + 1, c, l, h, e, l', h', hh => by
    have ih := den_keeps n
    have hc := denCall_keeps T ih
    cases c with
    | skip => simp [den] at hh; rw [← hh.2.2]; exact .refl h
    | ops os =>
      simp only [den] at hh
      split at hh
      · rename_i l1 h1 ho; cases hh; exact denOps_keeps hc os ho
      · cases hh
    | draw os s ts pl =>
      simp only [den] at hh
      split at hh
      · split at hh
        · rename_i ho; cases hh; exact denPlan_keeps hc _ ho
        · cases hh
      split at hh
      · split at hh
        · split at hh
          · cases hh; exact .refl _
          · cases hh
        · cases hh
      · split at hh
        · split at hh
          · rename_i ho; cases hh; exact denOps_keeps hc _ ho
          · cases hh
        · cases hh
    | seq a b =>
      simp only [den] at hh
      split at hh
      · rename_i l1 h1 ha; exact (ih _ _ _ _ _ _ ha).trans (ih _ _ _ _ _ _ hh)
      · exact ih _ _ _ _ _ _ hh
    | cond x a b =>
      simp only [den] at hh
      split at hh
      · exact ih _ _ _ _ _ _ hh
      · exact ih _ _ _ _ _ _ hh
      · cases hh
    | block id a =>
      simp only [den] at hh
      split at hh
      · rename_i id' l1 h1 ha
        split at hh
        · cases hh; exact ih _ _ _ _ _ _ ha
        · cases hh; exact ih _ _ _ _ _ _ ha
      · exact ih _ _ _ _ _ _ hh
    | loop a =>
      simp only [den] at hh
      split at hh
      · rename_i l1 h1 ha; exact (ih _ _ _ _ _ _ ha).trans (ih _ _ _ _ _ _ hh)
      · exact ih _ _ _ _ _ _ hh
    | exit id => simp [den] at hh; rw [← hh.2.2]; exact .refl h
    | ret => simp [den] at hh; rw [← hh.2.2]; exact .refl h
    | bad => simp [den] at hh

def CallOK (Z : Sys) (call : CallF) : Prop := ∀ f ds h d h', call f ds h = some (d, h') → PCall Z f ds h.abs (fun d' τ => d' = d ∧ τ = (h'.getD h).abs)
theorem denOp1_ok {call : CallF} (hc : CallOK Z call) {op : Op} {ann : Nat} {l : List D} {h : HL} {h' : Option HL} {d : D} (hh : denOp1 (Z := Z) call op ann l h = some (d, h')) :
    aExec Z op ann (envL l) h.abs (fun d' τ => d' = d ∧ τ = (h'.getD h).abs) := by
  unfold denOp1 at hh
  unfold aExec
  split at hh
  · split at hh
    · rename_i g caps hg
      simp only [hg]
      exact hc _ _ _ _ _ hh
    · rename_i g fs hg
      simp only [hg]
      exact hc _ _ _ _ _ hh
    · cases hh
  · split at hh
    · rename_i t d0 hg
      split at hh
      · rename_i g hM
        simp only [hg, hM]
        exact hc _ _ _ _ _ hh
      · cases hh
    · cases hh
  · rename_i hne hne2
    have hfin : ∀ d1 e, exec Z op ann (envL l) h.get h.n = some (d1, e) → d1 = d ∧ (h'.getD h).abs = h.abs.app e → (match exec Z op ann (envL l) h.abs.get h.abs.next with | some (d, e) => lenOK op (envL l) → d = d1 ∧ h.abs.app e = (h'.getD h).abs | none => False) := fun d1 e he h2 => by
      show (match exec Z op ann (envL l) h.get h.n with | some (d, e) => lenOK op (envL l) → d = d1 ∧ h.abs.app e = (h'.getD h).abs | none => False)
      rw [he]
      exact fun _ => ⟨rfl, h2.2.symm⟩
    split at hh
    · rename_i d1 he
      cases hh
      have := hfin _ _ he ⟨rfl, rfl⟩
      cases op <;> first
        | exact this
        | (rename_i c; obtain ⟨callee, args, ats⟩ := c; cases callee <;> first | exact this | exact absurd rfl (hne _ _ _) | exact absurd rfl (hne2 _ _ _ _))
        | (rename_i x b; cases b <;> first | exact this | exact absurd he (by unfold exec; simp [exec0]))
    · rename_i d1 e hek he
      cases ha : h.app e with
      | none => rw [ha] at hh; cases hh
      | some h1 =>
        rw [ha] at hh
        simp at hh
        obtain ⟨rfl, rfl⟩ := hh
        have := hfin _ _ he ⟨rfl, HL.abs_app ha⟩
        cases op <;> first
          | exact this
          | (rename_i c; obtain ⟨callee, args, ats⟩ := c; cases callee <;> first | exact this | exact absurd rfl (hne _ _ _) | exact absurd rfl (hne2 _ _ _ _))
          | (rename_i x b; cases b <;> first | exact this | exact absurd he (by unfold exec; simp [exec0]))
    · cases hh

theorem denOp_ok {call : CallF} (hc : CallOK Z call) {o : LOp} {l l' : List D} {h h' : HL} (hh : denOp (Z := Z) call o l h = some (l', h')) {K : Env → Heap → Prop} (hK : K (envL l') h'.abs) : aOp Z o (envL l) h.abs K := by
  have key : ∀ {x : Option (D × Option HL)}, x = denOp1 (Z := Z) call o.op o.ann l h → (match x with | some (d, h') => (setL l o.dst d).map (·, h'.getD h) | none => none) = some (l', h') → aExec Z o.op o.ann (envL l) h.abs fun d σ' => K (updO (envL l) o.dst d) σ' := fun {x} hx hy => by
    split at hy
    · rename_i d h1
      cases hs : setL l o.dst d with
      | none => rw [hs] at hy; cases hy
      | some l1 =>
        rw [hs] at hy
        simp at hy
        obtain ⟨rfl, rfl⟩ := hy
        refine aExec_mono (fun d' τ hd => ?_) (denOp1_ok hc hx.symm)
        obtain ⟨rfl, rfl⟩ := hd
        rw [← setL_ok hs]; exact hK
    · cases hy
  unfold denOp at hh
  unfold aOp
  split at hh
  · rename_i hg; simp only [hg]; exact key rfl hh
  · rename_i t b hg
    simp only [hg]
    split at hh
    · rename_i hgt; simp only [hgt]; exact key rfl hh
    · rename_i hgt
      simp only [hgt]
      cases hs : setL l o.dst (.tup []) with
      | none => rw [hs] at hh; cases hh
      | some l1 =>
        rw [hs] at hh
        simp at hh
        obtain ⟨rfl, rfl⟩ := hh
        rw [← setL_ok hs]; exact hK
    · cases hh
theorem denOps_ok {call : CallF} (hc : CallOK Z call) : ∀ (os : List LOp) {l l' : List D} {h h' : HL}, denOps (Z := Z) call os l h = some (l', h') → ∀ {K : Env → Heap → Prop}, K (envL l') h'.abs → aOps Z os K (envL l) h.abs
  | [], l, l', h, h', hh, K, hK => by simp [denOps] at hh; obtain ⟨rfl, rfl⟩ := hh; exact hK
  | o :: os, l, l', h, h', hh, K, hK => by
    simp only [denOps] at hh
    split at hh
    · rename_i l1 h1 ho
      exact denOp_ok hc ho (denOps_ok hc os hh hK)
    · cases hh
theorem denStill_ok {call : CallF} (hc : CallOK Z call) : ∀ (os : List LOp) {l l' : List D} {h : HL}, denStill (Z := Z) call os l h = some l' → ∀ {K : Env → Prop}, K (envL l') → aStills Z h.abs os K (envL l)
  | [], l, l', h, hh, K, hK => by simp [denStill] at hh; subst hh; exact hK
  | o :: os, l, l', h, hh, K, hK => by
    simp only [denStill] at hh
    split at hh
    · rename_i l1 ho
      have rest := denStill_ok hc os hh hK
      have key : ∀ {x : Option (D × Option HL)}, x = denOp1 (Z := Z) call o.op 0 l h → (match x with | some (d, none) => setL l o.dst d | _ => none) = some l1 → ∃ d, aExec Z o.op 0 (envL l) h.abs (fun d' σ' => d' = d ∧ σ' = h.abs) ∧ aStills Z h.abs os K (updO (envL l) o.dst d) := fun {x} hx hy => by
        split at hy
        · rename_i d
          exact ⟨d, denOp1_ok hc hx.symm, by rw [← setL_ok hy]; exact rest⟩
        · cases hy
      simp only [aStills, aStill]
      split at ho
      · rename_i hg; simp only [hg]; exact key rfl ho
      · rename_i t b hg
        simp only [hg]
        split at ho
        · rename_i hgt; simp only [hgt]; exact key rfl ho
        · rename_i hgt; simp only [hgt]; rw [← setL_ok ho]; exact rest
        · cases ho
    · cases hh

theorem denPlan_ok {call : CallF} (hc : CallOK Z call) : ∀ (os : List LOp) {l l' : List D} {h h' : HL}, denPlan (Z := Z) call os l h = some (l', h') → ∀ {K : Env → Heap → Prop}, K (envL l') h'.abs → aPlan Z os K (envL l) h.abs
  | [], l, l', h, h', hh, K, hK => by simp [denPlan] at hh; obtain ⟨rfl, rfl⟩ := hh; exact hK
  | o :: os, l, l', h, h', hh, K, hK => by
    simp only [denPlan] at hh
    simp only [aPlan]
    split at hh
    · rename_i hk
      rw [if_pos hk]
      split at hh
      · rename_i d hd
        split at hh
        · rename_i l1 hs
          simp only [hd]
          rw [← setL_ok hs]
          exact denPlan_ok hc os hh hK
        · cases hh
      · cases hh
    · rename_i hk
      rw [if_neg hk]
      split at hh
      · rename_i l1 h1 ho
        exact denOp_ok hc ho (denPlan_ok hc os hh hK)
      · cases hh

theorem envOf_pad (ds : List D) (n : Nat) : envL (ds ++ List.replicate n .junk) = envOf ds := by
  funext t
  simp only [envL, envOf, List.getD]
  by_cases h : t < ds.length
  · rw [List.getElem?_append_left h]
  · rw [List.getElem?_append_right (by omega), List.getElem?_eq_none (l := ds) (by omega)]
    by_cases h2 : t - ds.length < n
    · simp [h2]
    · rw [List.getElem?_eq_none (by simp; omega)]

theorem denCall_ok {go : LCode → List D → HL → Option (Ex × List D × HL)} (hk : ∀ c l h e l' h', go c l h = some (e, l', h') → h.Keeps h')
    (hg : ∀ c l h e l' h', go c l h = some (e, l', h') → ∀ Q : Ex → Env → Heap → Prop, Q e (envL l') h'.abs → pwp Z c Q (envL l) h.abs) : CallOK Z (denCall T go) := by
  intro f ds h d h' hh
  unfold denCall at hh
  split at hh
  · rename_i d1 hl
    cases hh
    exact T.libok f ds d hl h.abs
  · split at hh
    · cases hh
    · rename_i i hi
      split at hh
      · rename_i hlen
        split at hh
        · cases hh
        · rename_i e l1 h1 hne hgo
          split at hh
          · rename_i d1 hd1
            have hF := T.ok f i hi
            rw [← hlen] at hF
            have hke := hk _ _ _ _ _ _ hgo
            refine pcall_of hF fun hcl _ => ?_
            have hp := hg _ _ _ _ _ _ hgo (retQ Z i.rs h.abs (fun d' τ => d' = d ∧ τ = (h'.getD h).abs)) (by
              have hret : ∃ d2, ares Z i.rs (envL l1) h1.abs.get = some d2 ∧ Ret h.abs (fun d' τ => d' = d ∧ τ = (h'.getD h).abs) d2 h1.abs := by
                refine ⟨d1, hd1, ?_⟩
                split at hh
                · rename_i hc
                  cases hh
                  simp only [Bool.and_eq_true, decide_eq_true_eq] at hc
                  refine Ret.told h.abs d (Nat.le_refl _) ⟨hke.n, fun r o hr => ?_⟩ hcl (.refl d) (belB_ok _ _ _ hc.2) ⟨rfl, rfl⟩
                  have hrn : r < h.n := hcl.lt r o hr
                  have := hke.get r (by rw [hc.1]; exact hrn) hrn
                  show h1.get r = some o
                  rw [this]; exact hr
                · cases hh
                  exact Ret.now hke.n ⟨rfl, rfl⟩
              cases e with
              | normal => exact hret
              | ret => exact hret
              | exit id => exact (hne id rfl).elim)
            rw [envOf_pad] at hp
            exact hp
          · cases hh
        · cases hh
      · cases hh

theorem den_ok : ∀ (n : Nat) (c : LCode) (l : List D) (h : HL) (e : Ex) (l' : List D) (h' : HL), den T n c l h = some (e, l', h') → ∀ Q : Ex → Env → Heap → Prop, Q e (envL l') h'.abs → pwp Z c Q (envL l) h.abs
  | 0, _, _, _, _, _, _, hh, _, _ => by simp [den] at hh
  | n + 1, c, l, h, e, l', h', hh, Q, hQ => by
    have ih := den_ok n
    have hc := denCall_ok T (den_keeps T n) ih
    cases c with
    | skip => simp [den] at hh; obtain ⟨rfl, rfl, rfl⟩ := hh; exact hQ
    | ops os =>
      simp only [den] at hh
      split at hh
      · rename_i l1 h1 ho; cases hh; exact denOps_ok hc os ho hQ
      · cases hh
    | draw os s ts pl =>
      simp only [den] at hh
      split at hh
      · rename_i hpl
        split at hh
        · rename_i l1 h1 ho; cases hh; exact .inl ⟨hpl.1, denPlan_ok hc _ ho hQ, hpl.2⟩
        · cases hh
      refine .inr ?_
      split at hh
      · split at hh
        · rename_i hs
          split at hh
          · rename_i l1 ho; cases hh; exact .inl ⟨hs, denStill_ok hc os ho hQ⟩
          · cases hh
        · cases hh
      · rename_i k ts'
        split at hh
        · rename_i l1 ho
          split at hh
          · rename_i l2 h2 ho2; cases hh; exact .inr (.inl ⟨k, by simp, denStill_ok hc _ ho (denOps_ok hc _ ho2 hQ)⟩)
          · cases hh
        · cases hh
    | seq a b =>
      simp only [den] at hh
      split at hh
      · rename_i l1 h1 ha
        exact ih _ _ _ _ _ _ ha (Ex.then (pwp Z b Q) Q) (ih _ _ _ _ _ _ hh Q hQ)
      · rename_i hne
        refine ih _ _ _ _ _ _ hh (Ex.then (pwp Z b Q) Q) ?_
        cases e with
        | normal => exact absurd hh (hne l' h')
        | exit id => exact hQ
        | ret => exact hQ
    | cond x a b =>
      simp only [den] at hh
      split at hh
      · rename_i hx; exact ⟨true, hx, by rw [if_pos rfl]; exact ih _ _ _ _ _ _ hh Q hQ⟩
      · rename_i hx; exact ⟨false, hx, by rw [if_neg (by simp)]; exact ih _ _ _ _ _ _ hh Q hQ⟩
      · cases hh
    | block id a =>
      simp only [den] at hh
      split at hh
      · rename_i id' l1 h1 ha
        refine ih _ _ _ _ _ _ ha (Ex.inBlock id Q) ?_
        simp only [Ex.inBlock]
        split at hh
        · rename_i hid; cases hh; rw [if_pos hid]; exact hQ
        · rename_i hid; cases hh; rw [if_neg hid]; exact hQ
      · rename_i hne
        refine ih _ _ _ _ _ _ hh (Ex.inBlock id Q) ?_
        cases e with
        | normal => exact hQ
        | exit id' => exact absurd hh (hne id' l' h')
        | ret => exact hQ
    | loop a =>
      simp only [den] at hh
      intro X hX
      split at hh
      · rename_i l1 h1 ha
        exact hX _ _ (ih _ _ _ _ _ _ ha (Ex.then X Q) (ih _ _ _ _ _ _ hh Q hQ X hX))
      · rename_i hne
        refine hX _ _ (ih _ _ _ _ _ _ hh (Ex.then X Q) ?_)
        cases e with
        | normal => exact absurd hh (hne l' h')
        | exit id => exact hQ
        | ret => exact hQ
    | exit id => simp [den] at hh; obtain ⟨rfl, rfl, rfl⟩ := hh; exact hQ
    | ret => simp [den] at hh; obtain ⟨rfl, rfl, rfl⟩ := hh; exact hQ
    | bad => simp [den] at hh
end
/-- A closed run, whatever the heap: its numbers begin where the heap's end. -/
def run {Z : Sys} (T : Tab Z) (n : Nat) (f : FuncId) (ds : List D) : Option D :=
  match denCall T (den T n) f ds ⟨0, [], 0⟩ with
  | some (d, none) => some d
  | _ => none
def D.plain : D → Bool
  | .int _ _ | .bool _ | .str _ | .nilptr | .nilmap | .nilfunc | .nilif => true
  | .tup [] => true
  | _ => false
theorem V.plain {w w' : World} {L L' : Lk} {v : Value} {d : D} (hd : d.plain = true) (h : V w L v d) : V w' L' v d := by
  cases h <;> first | (simp [D.plain] at hd; done) | (constructor; done) | (constructor; assumption; done) | skip
  rename_i vs cs hl hv
  cases cs with
  | nil => exact .tup vs [] hl fun i hi => absurd hi (by simp)
  | cons c cs => simp [D.plain] at hd
/-- What is done with an empty heap is done with any. -/
theorem fn_of_nil {Z : Sys} {f : FuncId} {ds : List D} {x : D} (hx : x.plain = true) (hb : ∀ d ∈ ds, Bel 0 d) (h : PCall Z f ds Heap.nil (fun d τ => d = x ∧ τ = Heap.nil)) : Fn Z f ds x := fun σ =>
  ⟨h.1, fun w s vs hs hv hW => by
    have hle : HLe Heap.nil s.σ := ⟨Nat.zero_le _, fun r o hr => by cases hr⟩
    have hc : Closed Heap.nil := ⟨fun r o hr => (by cases hr), fun r o hr => (by cases hr)⟩
    refine (h.2 w ⟨Heap.nil, s.ρ⟩ vs rfl ⟨hv.1, fun i hi => (hv.2 i hi).less hle (hb _ (List.getElem_mem hi))⟩ (hW.less hle hc)).mono fun e w' ⟨v, d, s', h1, h2, h3, h4, h5, h6⟩ => ?_
    subst h5
    have hblk : ∀ b, b < w.heap.size → w'.heap[b]? = w.heap[b]? := fun b hb => h4.blk b hb (fun r o hr => by cases hr)
    have hE : Ext w s w' s := ⟨h4.os, h4.tape, h4.output, h4.size, Nat.le_refl _, fun _ _ => rfl, fun b hb _ => hblk b hb, fun _ _ h => h, fun r e x hr o v ho hc =>
      ⟨(cell_of_heap (hblk _ (hW.blk hr)) o).trans hc, ((Ext.refl hW).tip r e x hr o v ho hc).2⟩⟩
    exact ⟨v, d, s, h1, h2.plain hx, hW.step hE (fun r o hr => .inl ⟨hr, hblk _ (hW.blk hr)⟩) hW.inj, hE, rfl, hs⟩⟩
theorem run_ok {Z : Sys} {T : Tab Z} {n : Nat} {f : FuncId} {ds : List D} {d : D} (hd : d.plain = true) (hb : ds.all (belB 50 0) = true) (h : run T n f ds = some d) : Fn Z f ds d := by
  refine fn_of_nil hd (fun x hx => belB_ok _ _ _ (List.all_eq_true.1 hb x hx)) ?_
  unfold run at h
  split at h
  · rename_i d1 hd1
    cases h
    have h0 : (⟨0, [], 0⟩ : HL).abs = Heap.nil := Heap.ext rfl fun i => rfl
    have := denCall_ok T (den_keeps T n) (den_ok T n) f ds _ _ _ hd1
    rw [h0] at this
    exact this.mono fun d' τ ⟨h1, h2⟩ => ⟨h1, h2.trans h0⟩
  · cases h
end Go.Proofs.YthchlpikcpidaaaDoor.Vs
namespace Go.Proofs.YthchlpikcpidaaaDoor.Vs
/-- Each of a list, as a conjunction. -/
def Alls {α : Type} (p : α → Prop) : List α → Prop
  | [] => True
  | a :: l => p a ∧ Alls p l
theorem Alls.mem {α : Type} {p : α → Prop} : ∀ {l : List α}, Alls p l → ∀ a ∈ l, p a
  | [], _, a, h => by cases h
  | b :: l, h, a, ha => by
    rcases List.mem_cons.1 ha with rfl | ha
    · exact h.1
    · exact Alls.mem h.2 a ha
def look {α : Type} : List (Nat × α) → Nat → Option α
  | [], _ => none
  | (k, a) :: l, n => bif Nat.beq k n then some a else look l n
theorem look_mem {α : Type} : ∀ {l : List (Nat × α)} {n : Nat} {a : α}, look l n = some a → (n, a) ∈ l
  | [], _, _, h => by simp [look] at h
  | (k, b) :: l, n, a, h => by
    simp only [look] at h
    cases hk : Nat.beq k n with
    | true =>
      rw [hk] at h
      simp at h
      have := Nat.eq_of_beq_eq_true hk
      subst this; subst h
      simp
    | false =>
      rw [hk] at h
      exact List.mem_cons_of_mem _ (look_mem h)
theorem TI.out {P : Program} {t : TypeId} {i : TInfo} (h : TI P t = some i) :
    P.underlying t = some i.d ∧ ∃ inf, P.info? t = some inf ∧ inf.size = i.size ∧ inf.bytes = i.bytes ∧ inf.zero = some i.zero ∧ (i.eqg = false → P.eqGuardType P.depth t = false) ∧ (i.stood = false → P.stoodInHeld t = false) := by
  unfold TI at h
  split at h
  · rename_i d inf hd hi
    split at h
    · rename_i z hz
      cases h
      exact ⟨hd, inf, hi, rfl, rfl, hz, id, id⟩
    · cases h
  · cases h
def sysOf (P : Program) (l : List (Nat × TInfo)) (h : Alls (fun p : Nat × TInfo => TI P p.1 = some p.2) l) : Sys := { P := P, T := look l, ok := fun _ _ ht => TI.out (h.mem _ (look_mem ht)), M := fun _ _ => none, mok := fun _ _ _ hm => nomatch hm }
def tabOf (Z : Sys) (l : List (Nat × FnI)) (h : Alls (fun p : Nat × FnI => FnOK Z.P p.1 p.2.L p.2.rs p.2.k) l) (lib : FuncId → List D → Option D) (hl : ∀ f ds d, lib f ds = some d → Fn Z f ds d) : Tab Z := ⟨look l, fun _ _ hi => h.mem _ (look_mem hi), lib, hl⟩
end Go.Proofs.YthchlpikcpidaaaDoor.Vs
