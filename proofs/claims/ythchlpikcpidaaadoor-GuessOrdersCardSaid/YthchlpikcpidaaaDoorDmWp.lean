/- The engine 'Dm', part 8: code, loops, regions in whatever order, functions. -/
import Derived.Test.YthchlpikcpidaaaDoorDmCode
import Derived.StillTail
import Derived.Scope
import Derived.LoopN
namespace Go.Proofs.YthchlpikcpidaaaDoor.Vs
open Go.RowKit
set_option linter.unusedVariables false
set_option linter.unusedSimpArgs false
structure LOp where
  dst : Option Nat
  op : Op
  guard : Option (Nat × Bool)
  ann : Nat := 0

inductive LCode where
  | skip
  | ops (l : List LOp)
  | draw (l : List LOp) (still : Bool) (tails : List Nat) (plan : List Nat)
  | seq (a b : LCode)
  | cond (c : Operand) (a b : LCode)
  | block (id : Nat) (a : LCode)
  | loop (a : LCode)
  | exit (id : Nat)
  | ret
  | bad

inductive Ex where
  | normal | exit (id : Nat) | ret

/-- Whether a guarded operation runs: by the guard's bool; not if the guard's own operation did not run. -/
def gate : D → Bool → Option Bool
  | .bool c, b => some (c == b)
  | .tup [], _ => some false
  | _, _ => none

/-- One operation: its value goes to its slot. -/
def aOp (Z : Sys) (o : LOp) (env : Env) (σ : Heap) (K : Env → Heap → Prop) : Prop :=
  match o.guard with
  | none => aExec Z o.op o.ann env σ fun d σ' => K (updO env o.dst d) σ'
  | some (t, b) =>
    match gate (env t) b with
    | some true => aExec Z o.op o.ann env σ fun d σ' => K (updO env o.dst d) σ'
    | some false => K (updO env o.dst (.tup [])) σ
    | none => False

def aOps (Z : Sys) : List LOp → (Env → Heap → Prop) → Env → Heap → Prop
  | [], K, env, σ => K env σ
  | o :: l, K, env, σ => aOp Z o env σ (aOps Z l K)

/-- An operation that owns nothing new and turns nothing. -/
def aStill (Z : Sys) (σ : Heap) (o : LOp) (K : Env → Prop) (env : Env) : Prop :=
  match o.guard with
  | none => ∃ d, aExec Z o.op 0 env σ (fun d' σ' => d' = d ∧ σ' = σ) ∧ K (updO env o.dst d)
  | some (t, b) =>
    match gate (env t) b with
    | some true => ∃ d, aExec Z o.op 0 env σ (fun d' σ' => d' = d ∧ σ' = σ) ∧ K (updO env o.dst d)
    | some false => K (updO env o.dst (.tup []))
    | none => False

def aStills (Z : Sys) (σ : Heap) : List LOp → (Env → Prop) → Env → Prop
  | [], K, env => K env
  | o :: l, K, env => aStill Z σ o (aStills Z σ l K) env

/-- Operations that do not look at the heap; and such as do not write it. -/
def hfKind : Op → Bool
  | .move _ | .assign _ | .pick _ _ _ | .binOp _ _ _ _ _ | .unOp _ _ _ | .convert _ _ _ | .makeInterface _ _ | .makeFunc _ _ _ | .fieldAddr _ _ _ | .field _ _ _ | .indexAddr _ _ _ | .index _ _ _ | .extract _ _ | .build _ _ | .nilCheck _ | .typeAssert _ _ _ _ => true
  | _ => false
def keepKind (op : Op) : Bool := hfKind op || (match op with
  | .load _ _ | .lookup _ _ _ _ | .slice _ _ _ _ _ => true
  | .call c => (match c.callee with | .builtin .len => true | _ => false)
  | _ => false)
def annOK (o : LOp) : Bool := !(keepKind o.op && o.ann == 4)
def kres1 (Z : Sys) (o : LOp) (env : Env) (σ : Heap) : Option D := if o.ann = 4 then none else match exec0 Z o.op o.ann env σ.get σ.next with
  | some (d, .keep) => some d
  | _ => none
def kres (Z : Sys) (o : LOp) (env : Env) (σ : Heap) : Option D :=
  match o.guard with
  | none => kres1 Z o env σ
  | some (t, b) => (match gate (env t) b with
    | some true => kres1 Z o env σ
    | some false => some (.tup [])
    | none => none)
/-- Operations one behind the other, in a region whose order is open. -/
def aPlan (Z : Sys) : List LOp → (Env → Heap → Prop) → Env → Heap → Prop
  | [], K, env, σ => K env σ
  | o :: l, K, env, σ => if keepKind o.op then (match kres Z o env σ with
      | some d => aPlan Z l K (updO env o.dst d) σ
      | none => False)
    else aOp Z o env σ (aPlan Z l K)
def planCheck (md : Region.Mode) (ops : Array Oper) : List Nat → Array Bool → Bool
  | [], listed => (Region.ready md ops listed).isEmpty
  | i :: is, listed => (match ops[i]? with
    | none => false
    | some o => (Region.ready md ops listed == [i]) || ((Region.ready md ops listed).contains i && Region.free md ops listed i && keepKind o.op && (hfKind o.op || (List.range ops.size).all fun j => j == i || listed.getD j true || (match ops[j]? with
      | some oj => oj.after.any (fun e => Region.binds md e && e.on == i) || keepKind oj.op
      | none => true)))) && planCheck md ops is (listed.setIfInBounds i true)
def planOf (ops : Array Oper) : List Nat :=
  let S := (List.range ops.size).foldl (fun S i => match ops[i]? with
    | some o => if hfKind o.op && o.after.all (fun e => !Region.binds .any e || S.contains e.on) then S ++ [i] else S
    | none => S) []
  let l := S ++ (List.range ops.size).filter fun i => !S.contains i
  if planCheck .any ops l (Array.replicate ops.size false) && l.length == ops.size then l else []

def Ex.then (next : Env → Heap → Prop) (Q : Ex → Env → Heap → Prop) : Ex → Env → Heap → Prop
  | .normal, env, σ => next env σ
  | e, env, σ => Q e env σ
def Ex.inBlock (id : Nat) (Q : Ex → Env → Heap → Prop) : Ex → Env → Heap → Prop
  | .exit id', env, σ => if id' = id then Q .normal env σ else Q (.exit id') env σ
  | e, env, σ => Q e env σ

/-- An operation comes to a value and a heap. -/
def aOne (Z : Sys) (σ τ : Heap) (o : LOp) (d : D) (env : Env) : Prop :=
  match o.guard with
  | none => aExec Z o.op 0 env σ (fun d' σ' => d' = d ∧ σ' = τ)
  | some (t, b) =>
    match gate (env t) b with
    | some true => aExec Z o.op 0 env σ (fun d' σ' => d' = d ∧ σ' = τ)
    | some false => d = .tup [] ∧ τ = σ
    | none => False
/-- One acts; the others look, ahead of it and behind it. -/
def aBoth (Z : Sys) (σ σ1 : Heap) (act : Bool) (o : LOp) (d : D) (env : Env) : Prop := if act = true then aOne Z σ σ1 o d env else aOne Z σ σ o d env ∧ aOne Z σ1 σ1 o d env
def aActs (Z : Sys) (σ σ1 : Heap) (k : Nat) : Nat → List LOp → (Env → Prop) → Env → Prop
  | _, [], K, env => K env
  | i, o :: l, K, env => ∃ d, aBoth Z σ σ1 (i == k) o d env ∧ aActs Z σ σ1 k (i + 1) l K (updO env o.dst d)

def pwp (Z : Sys) : LCode → (Ex → Env → Heap → Prop) → Env → Heap → Prop
  | .skip, Q, env, σ => Q .normal env σ
  | .ops l, Q, env, σ => aOps Z l (Q .normal) env σ
  | .draw l s ts pl, Q, env, σ => (pl.isEmpty = false ∧ aPlan Z (pl.filterMap (l[·]?)) (Q .normal) env σ ∧ l.all annOK = true) ∨ (s = true ∧ aStills Z σ l (fun env' => Q .normal env' σ) env) ∨ (∃ n, n ∈ ts ∧ aStills Z σ (l.take n) (fun env' => aOps Z (l.drop n) (Q .normal) env' σ) env) ∨ ∃ n k σ1, n ∈ ts ∧ k < n ∧ aActs Z σ σ1 k 0 (l.take n) (fun env' => aOps Z (l.drop n) (Q .normal) env' σ1) env
  | .seq a b, Q, env, σ => pwp Z a (Ex.then (pwp Z b Q) Q) env σ
  | .cond c a b, Q, env, σ => ∃ t, ev env c = .bool t ∧ (if t = true then pwp Z a Q env σ else pwp Z b Q env σ)
  | .block id a, Q, env, σ => pwp Z a (Ex.inBlock id Q) env σ
  | .loop a, Q, env, σ => ∀ X : Env → Heap → Prop, (∀ env' σ', pwp Z a (Ex.then X Q) env' σ' → X env' σ') → X env σ
  | .exit id, Q, env, σ => Q (.exit id) env σ
  | .ret, Q, env, σ => Q .ret env σ
  | .bad, _, _, _ => False

def stripOp (ops : Array Oper) (o : Oper) : LOp :=
  { dst := o.dst, op := o.op, guard := match o.guard with
    | none => none
    | some (j, b) => some ((((ops[j]?).bind (·.dst)).getD 1000000), b) }
def guardsOK (ops : Array Oper) (N : Nat) : Bool := ops.all fun o => match o.guard with
  | none => true
  | some (j, _) => ((ops[j]?).bind (·.dst)).isSome
def LOp.bare (o : LOp) : LOp := { o with ann := 0 }
def LCode.bare : LCode → LCode
  | .ops l => .ops (l.map LOp.bare)
  | .seq a b => .seq a.bare b.bare
  | .cond c a b => .cond c a.bare b.bare
  | .block id a => .block id a.bare
  | .loop a => .loop a.bare
  | .draw l s ts pl => .draw (l.map LOp.bare) s ts pl
  | c => c
def dstsOK (N : Nat) (ops : Array Oper) : Bool := ops.all fun o => match o.dst with
  | none => true
  | some d => decide (d < N)

def strip : Code → LCode
  | .skip => .skip
  | .region _ ops false => .ops (ops.toList.map (stripOp ops))
  | .region _ ops true => .draw (ops.toList.map (stripOp ops)) (Region.lexB .any ops) ((List.range ops.size).filter (Region.lexTailB .any ops)) (planOf ops)
  | .seq a b => .seq (strip a) (strip b)
  | .cond c a b => .cond c (strip a) (strip b)
  | .block id a => .block id (strip a)
  | .loop a => .loop (strip a)
  | .exit id => .exit id
  | .ret => .ret
  | .label _ => .skip
  | .scope a => strip a
  | _ => .bad
def codeOK (N : Nat) : Code → Bool
  | .region _ ops _ => dstsOK N ops && guardsOK ops N
  | .seq a b => codeOK N a && codeOK N b
  | .cond _ a b => codeOK N a && codeOK N b
  | .block _ a => codeOK N a
  | .loop a => codeOK N a
  | .scope a => codeOK N a
  | _ => true

def Cpl (N : Nat) (w0 : World) (s0 : GH) (env : Env) (σ : Heap) (a : Act) (w : World) : Prop := ∃ s : GH, s.σ = σ ∧ Slots N env s a w ∧ W s w ∧ Ext w0 s0 w s

def OutQ (N : Nat) (w0 : World) (s0 : GH) (Q : Ex → Env → Heap → Prop) : Exit → Act → World → Prop
  | .normal, a, w => ∃ env σ, Q .normal env σ ∧ Cpl N w0 s0 env σ a w
  | .exit id, a, w => ∃ env σ, Q (.exit id) env σ ∧ Cpl N w0 s0 env σ a w
  | .ret, a, w => ∃ env σ, Q .ret env σ ∧ Cpl N w0 s0 env σ a w
  | _, _, _ => False

theorem wanted_ok {N : Nat} {env : Env} {s : GH} {a : Act} {w : World} {ops : Array Oper} {o : Oper} (hS : Slots N env s a w) (hg : match o.guard with | none => True | some (j, _) => ((ops[j]?).bind (·.dst)).isSome = true) :
    (match (stripOp ops o).guard with | none => Region.wanted o (yielded ops a.tmps) = true | some (t, b) => ∀ c, gate (env t) b = some c → Region.wanted o (yielded ops a.tmps) = c) := by
  unfold stripOp Region.wanted
  cases hgd : o.guard with
  | none => simp
  | some p =>
    obtain ⟨j, b⟩ := p
    simp only [hgd] at hg ⊢
    intro c hc
    obtain ⟨t, ht⟩ := Option.isSome_iff_exists.1 hg
    have hcc := hS.2.2 t
    simp only [ht, Option.getD_some] at hc
    unfold gate at hc
    split at hc
    · rename_i c' hc'
      cases hc
      rw [hc'] at hcc
      have : a.tmps[t]? = some (.bool c') := by
        rw [Array.getD_eq_getD_getElem?] at hcc
        cases hx : a.tmps[t]? with
        | none => rw [hx] at hcc; simp [undef] at hcc; cases hcc
        | some v => rw [hx] at hcc; simp at hcc; cases hcc; rfl
      simp [yielded, ht, this]
    · rename_i hc'
      cases hc
      rw [hc'] at hcc
      have : a.tmps[t]? = none ∨ ∃ vs, a.tmps[t]? = some (.tuple vs) := by
        rw [Array.getD_eq_getD_getElem?] at hcc
        cases hx : a.tmps[t]? with
        | none => exact .inl rfl
        | some v => rw [hx] at hcc; simp at hcc; cases hcc; exact .inr ⟨_, rfl⟩
      rcases this with h | ⟨vs, h⟩ <;> simp [yielded, ht, h]
    · cases hc

/-- One operation, met by the program's. -/
theorem op_ok {Z : Sys} {N : Nat} {w0 : World} {s0 : GH} {ops : Array Oper} {o : Oper} {L : LOp} {env : Env} {σ : Heap} {a : Act} {w : World} {K : Env → Heap → Prop} {next : Act → World → Prop} {Q : Exit → Act → World → Prop}
    (hL : L.bare = stripOp ops o) (hg : match o.guard with | none => True | some (j, _) => ((ops[j]?).bind (·.dst)).isSome = true) (hd : ∀ t, o.dst = some t → t < N) (hC : Cpl N w0 s0 env σ a w) (h : aOp Z L env σ K)
    (hn : ∀ a' w' env' σ', K env' σ' → Cpl N w0 s0 env' σ' a' w' → next a' w') :
    if Region.wanted o (yielded ops a.tmps) then o.wp Z.P a w next Q else next (a.put o.dst undef) w := by
  obtain ⟨s, rfl, hS, hW, hE⟩ := hC
  have hwant := wanted_ok (ops := ops) (o := o) hS hg
  have e1 : L.dst = o.dst := by have := congrArg LOp.dst hL; exact this
  have e2 : L.op = o.op := by have := congrArg LOp.op hL; exact this
  have e3 : L.guard = (stripOp ops o).guard := by have := congrArg LOp.guard hL; exact this
  have run : aExec Z L.op L.ann env s.σ (fun d σ' => K (updO env L.dst d) σ') → o.wp Z.P a w next Q := fun hx => by
    rw [e2] at hx
    exact aExec_ok hS hW hx fun v d s' w' h1 h2 h3 h4 => hn _ _ _ _ h4 ⟨s', rfl, by rw [e1]; exact hS.put h3 o.dst hd h1, h2, hE.trans h3⟩
  unfold aOp at h
  rw [e3] at h
  cases hgd : (stripOp ops o).guard with
  | none =>
    rw [hgd] at h hwant
    simp only at h hwant
    rw [if_pos hwant]
    exact run h
  | some p =>
    obtain ⟨t, b⟩ := p
    rw [hgd] at h hwant
    simp only at h hwant
    split at h
    · rename_i hc
      rw [if_pos (hwant _ hc)]
      exact run h
    · rename_i hc
      rw [if_neg (by rw [hwant _ hc]; simp)]
      exact hn _ _ _ _ h ⟨s, rfl, by rw [e1]; exact hS.put (Ext.refl hW) o.dst hd (.tup #[] [] rfl (fun i hi => absurd hi (by simp))), hW, hE⟩
    · exact h.elim

theorem ops_ok {Z : Sys} {N : Nat} {w0 : World} {s0 : GH} {ops : Array Oper} {QC : Exit → Act → World → Prop} {K : Env → Heap → Prop} (hQ : ∀ a w env σ, K env σ → Cpl N w0 s0 env σ a w → QC .normal a w) :
    ∀ (l : List Oper) (L : List LOp) (env : Env) (σ : Heap) (a : Act) (w : World), L.map LOp.bare = l.map (stripOp ops) → (∀ o ∈ l, (match o.guard with | none => True | some (j, _) => ((ops[j]?).bind (·.dst)).isSome = true) ∧ ∀ t, o.dst = some t → t < N) →
      Cpl N w0 s0 env σ a w → aOps Z L K env σ → wpList Z.P ops QC l a w
  | [], L, env, σ, a, w, hL, _, hC, h => by
    have : L = [] := by simpa using hL
    subst this
    exact hQ _ _ _ _ h hC
  | o :: l, [], _, _, _, _, hL, _, _, _ => by simp at hL
  | o :: l, L :: Ls, env, σ, a, w, hL, ho, hC, h => by
    simp only [List.map_cons, List.cons.injEq] at hL
    have h0 := ho o (by simp)
    have := op_ok (Q := QC) hL.1 h0.1 h0.2 hC h (next := wpList Z.P ops QC l) fun a' w' env' σ' hk hc => ops_ok hQ l Ls env' σ' a' w' hL.2 (fun o' ho' => ho o' (by simp [ho'])) hc hk
    simp only [wpList]
    split
    · rename_i hw; rw [if_pos hw] at this; exact .inl this
    · rename_i hw; rw [if_neg hw] at this; exact this

section
variable {Z : Sys} {σ : Heap} {ops : Array Oper} {md : Region.Mode}
def AY (Z : Sys) (σ : Heap) (o : LOp) (d : D) (env : Env) : Prop :=
  match o.guard with
  | none => aExec Z o.op 0 env σ (fun d' σ' => d' = d ∧ σ' = σ)
  | some (t, b) =>
    match gate (env t) b with
    | some true => aExec Z o.op 0 env σ (fun d' σ' => d' = d ∧ σ' = σ)
    | some false => d = .tup []
    | none => False

theorem aStill_iff {o : LOp} {K : Env → Prop} {env : Env} : aStill Z σ o K env ↔ ∃ d, AY Z σ o d env ∧ K (updO env o.dst d) := by
  unfold aStill AY
  split
  · rfl
  · split
    · rfl
    · constructor
      · intro h; exact ⟨_, rfl, h⟩
      · rintro ⟨d, rfl, h⟩; exact h
    · simp

def aSt (Z : Sys) (σ : Heap) (ops : Array Oper) (i : Nat) (K : Env → Prop) (env : Env) : Prop :=
  match ops[i]? with
  | none => K env
  | some o => aStill Z σ (stripOp ops o) K env

theorem aStill_mono {o : LOp} {K K' : Env → Prop} {env : Env} (hk : ∀ e, K e → K' e) (h : aStill Z σ o K env) : aStill Z σ o K' env := by
  rw [aStill_iff] at h ⊢
  obtain ⟨d, h1, h2⟩ := h
  exact ⟨d, h1, hk _ h2⟩
theorem aSt_mono {i : Nat} {K K' : Env → Prop} {env : Env} (hk : ∀ e, K e → K' e) (h : aSt Z σ ops i K env) : aSt Z σ ops i K' env := by
  unfold aSt at h ⊢
  split
  · exact hk _ (by simpa [*] using h)
  · rename_i o ho; simp only [ho] at h; exact aStill_mono hk h

theorem updO_ne {env : Env} {x : Option Nat} {d : D} {t : Nat} (h : x ≠ some t) : updO env x d t = env t := by
  cases x with
  | none => rfl
  | some s => simp only [updO, upd]; rw [if_neg (fun e => h (by rw [e]))]
theorem ev_updO {env : Env} {x : Option Nat} {d : D} {y : Operand} (h : ∀ s, x = some s → y ≠ .tmp s) : ev (updO env x d) y = ev env y := by
  cases y with
  | tmp t => exact updO_ne (fun e => h t e rfl)
  | _ => rfl
theorem updO_comm (env : Env) {x y : Option Nat} (d e : D) (h : ∀ s, x = some s → y ≠ some s) : updO (updO env x d) y e = updO (updO env y e) x d := by
  cases x with
  | none => rfl
  | some s => cases y with
    | none => rfl
    | some t =>
      have hne : s ≠ t := fun he => h s rfl (he ▸ rfl)
      funext i
      simp only [updO, upd]
      split <;> split <;> simp_all

theorem AY_of_same {o : LOp} {d : D} {env env' : Env} (h : AY Z σ o d env) (h1 : ∀ x ∈ o.op.operands, ev env x = ev env' x) (h2 : ∀ t b, o.guard = some (t, b) → env t = env' t) : AY Z σ o d env' := by
  unfold AY at h ⊢
  cases hg : o.guard with
  | none => rw [hg] at h; exact aExec_congr h1 h
  | some p =>
    obtain ⟨t, b⟩ := p
    rw [hg] at h
    simp only at h ⊢
    rw [← h2 t b hg]
    split
    · rename_i hc; simp only [hc] at h; exact aExec_congr h1 h
    · rename_i hc; simp only [hc] at h; exact h
    · rename_i hc; simp only [hc] at h

theorem AY_put {oi oj : Oper} {d e : D} {env : Env} (hj : ∀ t, oj.dst = some t → t ∉ oi.looksAt ops) (hg : match oi.guard with | none => True | some (j, _) => ((ops[j]?).bind (·.dst)).isSome = true) :
    AY Z σ (stripOp ops oi) d env ↔ AY Z σ (stripOp ops oi) d (updO env oj.dst e) := by
  have h1 : ∀ x ∈ (stripOp ops oi).op.operands, ev env x = ev (updO env oj.dst e) x := fun x hx => by
    refine (ev_updO fun s hs hxs => ?_).symm
    refine hj s hs ?_
    simp only [Oper.looksAt, List.mem_append, List.mem_filterMap]
    left
    exact ⟨x, by simpa [stripOp] using hx, by rw [hxs]⟩
  have h2 : ∀ t b, (stripOp ops oi).guard = some (t, b) → env t = updO env oj.dst e t := fun t b ht => by
    refine (updO_ne fun hs => ?_).symm
    refine hj t hs ?_
    simp only [Oper.looksAt, List.mem_append]
    right
    simp only [stripOp] at ht
    cases hgd : oi.guard with
    | none => rw [hgd] at ht; cases ht
    | some p =>
      obtain ⟨j, b'⟩ := p
      rw [hgd] at ht
      simp only [hgd] at hg
      obtain ⟨q, hq⟩ := Option.isSome_iff_exists.1 hg
      simp [hq] at ht ⊢
      exact ht.1.symm
  exact ⟨fun h => AY_of_same h h1 h2, fun h => AY_of_same h (fun x hx => (h1 x hx).symm) (fun t b ht => (h2 t b ht).symm)⟩

def gOK (ops : Array Oper) : Prop := ∀ (i : Nat) (o : Oper), ops[i]? = some o → match o.guard with | none => True | some (j, _) => ((ops[j]?).bind (·.dst)).isSome = true

theorem aSt_put {i j : Nat} {oi oj : Oper} {d : D} (hG : gOK ops) (hi : ops[i]? = some oi) (hj : ops[j]? = some oj) (hap : oi.apart ops oj = true) {K : Env → Prop} {env : Env}
    (hy : AY Z σ (stripOp ops oi) d env) (h : aSt Z σ ops j K (updO env oi.dst d)) :
    aSt Z σ ops j (fun env' => AY Z σ (stripOp ops oi) d env' ∧ K (updO env' oi.dst d)) env := by
  obtain ⟨h1, h2, h3⟩ := Oper.apart_spec hap
  unfold aSt at h ⊢
  simp only [hj] at h ⊢
  rw [aStill_iff] at h ⊢
  obtain ⟨e, h4, h5⟩ := h
  refine ⟨e, (AY_put h1 (hG j oj hj)).2 h4, (AY_put h3 (hG i oi hi)).1 hy, ?_⟩
  have : (stripOp ops oj).dst = oj.dst := rfl
  rw [this] at h5 ⊢
  rw [← updO_comm env d e h2]
  exact h5

def aAny (Z : Sys) (σ : Heap) (md : Region.Mode) (ops : Array Oper) (Q : Env → Prop) : Nat → Array Bool → Env → Prop
  | 0, listed, env => Region.ready md ops listed = [] ∧ Q env
  | fuel + 1, listed, env => (Region.ready md ops listed = [] → Q env) ∧ ∀ i ∈ Region.ready md ops listed, aSt Z σ ops i (aAny Z σ md ops Q fuel (listed.setIfInBounds i true)) env

theorem AY.st {i : Nat} {o : Oper} {d : D} {env : Env} (hi : ops[i]? = some o) (hy : AY Z σ (stripOp ops o) d env) {K : Env → Prop} (h : K (updO env o.dst d)) : aSt Z σ ops i K env := by
  unfold aSt
  simp only [hi]
  rw [aStill_iff]
  exact ⟨d, hy, h⟩

theorem not_listed {j i : Nat} {oj : Oper} {listed : Array Bool} (hr : i ∈ Region.ready md ops listed) (hoj : ops[j]? = some oj) (hall : ∀ e ∈ oj.after, Region.binds md e = true → listed.getD e.on false = true) :
    ∀ e ∈ oj.after, Region.binds md e = true → e.on ≠ i := fun e he hb heq => by
  have h1 := hall e he hb
  rw [heq, getD_both (mem_ready.1 hr).1] at h1
  cases h1

theorem aAny_first {Q : Env → Prop} {i : Nat} {oi : Oper} {d : D} (hG : gOK ops) (hi : ops[i]? = some oi) : ∀ (fuel : Nat) (listed : Array Bool) (env : Env),
    (∀ j oj, ops[j]? = some oj → j ≠ i → listed.getD j true = false → (∀ e ∈ oj.after, Region.binds md e = true → e.on ≠ i) → oi.apart ops oj = true) →
    i ∈ Region.ready md ops listed → AY Z σ (stripOp ops oi) d env →
    aAny Z σ md ops Q fuel (listed.setIfInBounds i true) (updO env oi.dst d) → aAny Z σ md ops Q (fuel + 1) listed env := by
  intro fuel
  induction fuel with
  | zero =>
    intro listed env _ hr hy H
    refine ⟨fun h => (by rw [h] at hr; cases hr), fun j hj => ?_⟩
    by_cases hji : j = i
    · subst hji; exact hy.st hi H
    · have := ready_mono hj hji
      rw [H.1] at this
      cases this
  | succ fuel ih =>
    intro listed env hfree hr hy H
    refine ⟨fun h => (by rw [h] at hr; cases hr), fun j hj => ?_⟩
    by_cases hji : j = i
    · subst hji; exact hy.st hi H
    · have h1 := H.2 j (ready_mono hj hji)
      obtain ⟨hjun, oj, hoj, hall⟩ := mem_ready.1 hj
      have hnot := not_listed hr hoj hall
      have h2 := aSt_put hG hi hoj (hfree j oj hoj hji hjun hnot) hy h1
      have hfree' : ∀ k ok, ops[k]? = some ok → k ≠ i → (listed.setIfInBounds j true).getD k true = false →
          (∀ e ∈ ok.after, Region.binds md e = true → e.on ≠ i) → oi.apart ops ok = true := fun k ok hk hki hun hno => by
        refine hfree k ok hk hki ?_ hno
        by_cases hjk : j = k
        · subst hjk; exact hjun
        · rw [getD_set_ne true hjk] at hun; exact hun
      refine aSt_mono (fun env' h3 => ih (listed.setIfInBounds j true) env' hfree' (ready_mono hr (Ne.symm hji)) h3.1 ?_) h2
      rw [Array.setIfInBounds_comm _ _ hji]
      exact h3.2

theorem aAny_lex {Q : Env → Prop} (hG : gOK ops) : ∀ (l : List Oper) (k : Nat) (listed : Array Bool) (env : Env), (∀ j, l[j]? = ops[k + j]?) →
    Region.lexFrom md ops l.length k listed = true → aStills Z σ (l.map (stripOp ops)) Q env → aAny Z σ md ops Q l.length listed env
  | [], _, _, _, _, hB, h => ⟨by simpa [Region.lexFrom] using hB, h⟩
  | o :: l, k, listed, env, hl, hB, h => by
    have h0 : ops[k]? = some o := by simpa using (hl 0).symm
    simp only [List.length_cons, Region.lexFrom, Bool.and_eq_true] at hB
    obtain ⟨⟨hr, hf⟩, hB'⟩ := hB
    simp only [List.map_cons, aStills] at h
    rw [aStill_iff] at h
    obtain ⟨d, hy, hK⟩ := h
    exact aAny_first hG h0 l.length listed env (Region.free_spec h0 hf) (by simpa using hr) hy
      (aAny_lex hG l (k + 1) _ _ (fun j => by have := hl (j + 1); simpa [Nat.add_assoc, Nat.add_comm 1 j] using this) hB' hK)
end
/-- A still operation, met by the program's. -/
theorem st_ok {Z : Sys} {N : Nat} {w0 : World} {s0 : GH} {ops : Array Oper} {i : Nat} {env : Env} {σ : Heap} {a : Act} {w : World} {K : Env → Prop} {next : Act → World → Prop} {Q : Exit → Act → World → Prop} (hG : gOK ops)
    (hD : ∀ (i : Nat) (o : Oper), ops[i]? = some o → ∀ t, o.dst = some t → t < N) (hC : Cpl N w0 s0 env σ a w) (h : aSt Z σ ops i K env)
    (hn : ∀ a' w' env', K env' → Cpl N w0 s0 env' σ a' w' → next a' w') : wpOp Z.P ops Q i next a w := by
  unfold aSt at h
  unfold wpOp
  split
  · rename_i ho; simp only [ho] at h; exact hn _ _ _ h hC
  · rename_i o ho
    simp only [ho] at h
    have hop : aOp Z (stripOp ops o) env σ (fun env' σ' => σ' = σ ∧ K env') := by
      rw [aStill_iff] at h
      obtain ⟨d, hy, hK⟩ := h
      unfold AY at hy
      cases hgd : (stripOp ops o).guard with
      | none =>
        rw [hgd] at hy
        simp only at hy
        simp only [aOp, hgd]
        exact aExec_mono (fun d' τ hd => by obtain ⟨rfl, rfl⟩ := hd; exact ⟨rfl, hK⟩) hy
      | some p =>
        obtain ⟨t, b⟩ := p
        rw [hgd] at hy
        simp only at hy
        cases hc : gate (env t) b with
        | none => rw [hc] at hy; exact hy.elim
        | some c =>
          rw [hc] at hy
          simp only [aOp, hgd, hc]
          cases c with
          | true => exact aExec_mono (fun d' τ hd => by obtain ⟨rfl, rfl⟩ := hd; exact ⟨rfl, hK⟩) hy
          | false => simp only at hy; subst hy; exact ⟨trivial, hK⟩
    have := op_ok (next := next) (Q := Q) (L := stripOp ops o) rfl (hG i o ho) (hD i o ho) hC hop fun a' w' env' σ' hk hc => by
      obtain ⟨rfl, hk⟩ := hk
      exact hn _ _ _ hk hc
    split
    · rename_i hw; rw [if_pos hw] at this; exact .inl this
    · rename_i hw; rw [if_neg hw] at this; exact this

theorem any_ok {Z : Sys} {N : Nat} {w0 : World} {s0 : GH} {ops : Array Oper} {md : Region.Mode} {σ : Heap} {QA : Env → Prop} {Q : Exit → Act → World → Prop} (hG : gOK ops) (hD : ∀ (i : Nat) (o : Oper), ops[i]? = some o → ∀ t, o.dst = some t → t < N)
    (hQ : ∀ a w env, QA env → Cpl N w0 s0 env σ a w → Q .normal a w) : ∀ (fuel : Nat) (listed : Array Bool) (env : Env) (a : Act) (w : World), aAny Z σ md ops QA fuel listed env → Cpl N w0 s0 env σ a w → wpAny Z.P md ops Q fuel listed a w
  | 0, _, _, _, _, h, hC => ⟨h.1, hQ _ _ _ h.2 hC⟩
  | fuel + 1, _, _, _, _, h, hC => ⟨fun h0 => hQ _ _ _ (h.1 h0) hC, fun i hi => st_ok hG hD hC (h.2 i hi) fun a' w' env' hk hc => any_ok hG hD hQ fuel _ env' a' w' hk hc⟩

theorem Cpl.drawn {N : Nat} {w0 : World} {s0 : GH} {env : Env} {σ : Heap} {a : Act} {w : World} (h : Cpl N w0 s0 env σ a w) (n : Nat) : Cpl N w0 s0 env σ a { w with drawn := n } := by
  obtain ⟨s, h1, h2, h3, h4⟩ := h
  exact ⟨s, h1, h2.ext (Ext.drawn h3 n), h3.drawn n, h4.trans (Ext.drawn h3 n)⟩

theorem aStill_bare {Z : Sys} {σ : Heap} {o o' : LOp} (h : o.bare = o') {K : Env → Prop} {env : Env} : aStill Z σ o K env = aStill Z σ o' K env := by
  subst h; rfl
theorem aStills_bare {Z : Sys} {σ : Heap} : ∀ (L : List LOp) (L' : List LOp) (K : Env → Prop) (env : Env), L.map LOp.bare = L' → (aStills Z σ L K env ↔ aStills Z σ L' K env)
  | [], _, K, env, h => by subst h; exact Iff.rfl
  | o :: L, [], K, env, h => by simp at h
  | o :: L, o' :: L', K, env, h => by
    simp only [List.map_cons, List.cons.injEq] at h
    simp only [aStills]
    rw [aStill_bare h.1]
    constructor
    · exact fun hx => aStill_mono (fun e he => (aStills_bare L L' K e h.2).1 he) hx
    · exact fun hx => aStill_mono (fun e he => (aStills_bare L L' K e h.2).2 he) hx

theorem draw_still {Z : Sys} {N : Nat} {w0 : World} {s0 : GH} {ops : Array Oper} {σ : Heap} {QA : Env → Prop} {Q : Exit → Act → World → Prop} {id : Nat} {env : Env} {a : Act} {w : World} (hm : Z.P.follows .mixedOrders = true) (hB : Region.lexB .any ops = true) (hG : gOK ops)
    (hD : ∀ (i : Nat) (o : Oper), ops[i]? = some o → ∀ t, o.dst = some t → t < N) (hQ : ∀ a w env, QA env → Cpl N w0 s0 env σ a w → Q .normal a w) (hC : Cpl N w0 s0 env σ a w) (h : aStills Z σ (ops.toList.map (stripOp ops)) QA env) :
    (Code.region id ops true).wp Z.P Q a w := by
  simp only [Region.lexB, Bool.and_eq_true] at hB
  refine wp_region_any hm ?_
  have := aAny_lex (md := .any) hG ops.toList 0 (Array.replicate ops.size false) env (by simp) (by simpa using hB.2) h
  exact any_ok hG hD hQ _ _ env a _ (by simpa using this) (hC.drawn _)

section
variable {Z : Sys} {σ : Heap} {ops : Array Oper} {md : Region.Mode}
def aAnyL (Z : Sys) (σ : Heap) (md : Region.Mode) (ops : Array Oper) (n : Nat) (L : Array Bool → Env → Prop) : Nat → Array Bool → Env → Prop
  | 0, listed, env => L listed env
  | f + 1, listed, env => Region.ready md ops listed ≠ [] ∧ ∀ i ∈ Region.ready md ops listed, i < n ∧ aSt Z σ ops i (aAnyL Z σ md ops n L f (listed.setIfInBounds i true)) env

theorem aAnyL_first {n i : Nat} {oi : Oper} {d : D} {L : Array Bool → Env → Prop} (hG : gOK ops) (hi : ops[i]? = some oi)
    (hs : Region.sinkB md ops n = true) (hc : Region.chainB md ops n = true) (hn : n < ops.size) (hin : i < n)
    (hdone : ∀ listed env, L listed env → ∀ j ∈ Region.ready md ops listed, n ≤ j) :
    ∀ (f : Nat) (listed : Array Bool) (env : Env), HeadInv md ops n listed →
      (∀ j oj, ops[j]? = some oj → j ≠ i → listed.getD j true = false → (∀ e ∈ oj.after, Region.binds md e = true → e.on ≠ i) → oi.apart ops oj = true) →
      i ∈ Region.ready md ops listed → AY Z σ (stripOp ops oi) d env →
      aAnyL Z σ md ops n L f (listed.setIfInBounds i true) (updO env oi.dst d) → aAnyL Z σ md ops n L (f + 1) listed env := by
  intro f
  induction f with
  | zero =>
    intro listed env inv _ hr hy H
    have hun := (mem_ready.1 hr).1
    refine ⟨fun h => (by rw [h] at hr; cases hr), fun j hj => ?_⟩
    have hjn : j < n := by
      rcases Nat.lt_or_ge j n with h | h
      · exact h
      · exact absurd hj (tail_waits hs hc hn inv _ i rfl hin hun j h)
    refine ⟨hjn, ?_⟩
    by_cases hji : j = i
    · subst hji; exact hy.st hi H
    · have := hdone _ _ H j (ready_mono hj hji)
      omega
  | succ f ih =>
    intro listed env inv hfree hr hy H
    have hun := (mem_ready.1 hr).1
    refine ⟨fun h => (by rw [h] at hr; cases hr), fun j hj => ?_⟩
    have hjn : j < n := by
      rcases Nat.lt_or_ge j n with h | h
      · exact h
      · exact absurd hj (tail_waits hs hc hn inv _ i rfl hin hun j h)
    refine ⟨hjn, ?_⟩
    by_cases hji : j = i
    · subst hji; exact hy.st hi H
    · have h1 := (H.2 j (ready_mono hj hji)).2
      obtain ⟨hjun, oj, hoj, hall⟩ := mem_ready.1 hj
      have hnot := not_listed hr hoj hall
      have h2 := aSt_put hG hi hoj (hfree j oj hoj hji hjun hnot) hy h1
      have hfree' : ∀ k ok, ops[k]? = some ok → k ≠ i → (listed.setIfInBounds j true).getD k true = false →
          (∀ e ∈ ok.after, Region.binds md e = true → e.on ≠ i) → oi.apart ops ok = true := fun k ok hk hki hun hno => by
        refine hfree k ok hk hki ?_ hno
        by_cases hjk : j = k
        · subst hjk; exact hjun
        · rw [getD_set_ne true hjk] at hun; exact hun
      refine aSt_mono (fun env' h3 => ih (listed.setIfInBounds j true) env' (inv.set hj hjn) hfree' (ready_mono hr (Ne.symm hji)) h3.1 ?_) h2
      rw [Array.setIfInBounds_comm _ _ hji]
      exact h3.2

theorem aAnyL_lex {n g : Nat} {Lq : Env → Prop} (hG : gOK ops) (hs : Region.sinkB md ops n = true) (hc : Region.chainB md ops n = true) (hn : n < ops.size) :
    ∀ (l : List Oper) (k : Nat) (listed : Array Bool) (env : Env), (∀ j, j < l.length → l[j]? = ops[k + j]?) → k + l.length = n → HeadInv md ops n listed →
    Region.lexHead md ops g l.length k listed = true → aStills Z σ (l.map (stripOp ops)) Lq env →
    aAnyL Z σ md ops n (fun listed' env' => Region.seqB md ops g n listed' = true ∧ Lq env') l.length listed env
  | [], k, listed, env, _, hk, _, hB, h => by
    have : k = n := by simpa using hk
    subst this
    exact ⟨by simpa [Region.lexHead] using hB, h⟩
  | o :: l, k, listed, env, hl, hk, inv, hB, h => by
    have h0 : ops[k]? = some o := by simpa using (hl 0 (by simp)).symm
    simp only [List.length_cons, Region.lexHead, Bool.and_eq_true] at hB
    obtain ⟨⟨hr, hf⟩, hB'⟩ := hB
    have hkn : k < n := by simp only [List.length_cons] at hk; omega
    have hr' : k ∈ Region.ready md ops listed := by simpa using hr
    simp only [List.map_cons, aStills] at h
    rw [aStill_iff] at h
    obtain ⟨d, hy, hK⟩ := h
    exact aAnyL_first hG h0 hs hc hn hkn (fun listed' env' hL => seqB_ready hL.1) l.length listed env inv (Region.free_spec h0 hf) hr' hy
      (aAnyL_lex hG hs hc hn l (k + 1) _ _ (fun j hj => by have := hl (j + 1) (by simp; omega); simpa [Nat.add_assoc, Nat.add_comm 1 j] using this) (by simp only [List.length_cons] at hk; omega) (inv.set hr' hkn) hB' hK)
end
theorem anyL_ok {Z : Sys} {N : Nat} {w0 : World} {s0 : GH} {ops : Array Oper} {md : Region.Mode} {σ : Heap} {n g : Nat} {L : Array Bool → Env → Prop} {Q : Exit → Act → World → Prop} (hG : gOK ops) (hD : ∀ (i : Nat) (o : Oper), ops[i]? = some o → ∀ t, o.dst = some t → t < N)
    (hL : ∀ listed a w env, L listed env → Cpl N w0 s0 env σ a w → wpAny Z.P md ops Q g listed a w) : ∀ (f : Nat) (listed : Array Bool) (env : Env) (a : Act) (w : World), aAnyL Z σ md ops n L f listed env → Cpl N w0 s0 env σ a w → wpAny Z.P md ops Q (f + g) listed a w
  | 0, _, _, _, _, h, hC => by rw [Nat.zero_add]; exact hL _ _ _ _ h hC
  | f + 1, _, _, _, _, h, hC => by
    rw [show f + 1 + g = (f + g) + 1 by omega]
    exact ⟨fun h0 => absurd h0 h.1, fun i hi => st_ok hG hD hC (h.2 i hi).2 fun a' w' env' hk hc => anyL_ok hG hD hL f _ env' a' w' hk hc⟩

theorem draw_tail {Z : Sys} {N : Nat} {w0 : World} {s0 : GH} {l : List Oper} {σ : Heap} {K : Env → Heap → Prop} {Q : Exit → Act → World → Prop} {id : Nat} {env : Env} {a : Act} {w : World} (n : Nat) (hm : Z.P.follows .mixedOrders = true) (hB : Region.lexTailB .any l.toArray n = true) (hG : gOK l.toArray)
    (hD : ∀ (i : Nat) (o : Oper), l.toArray[i]? = some o → ∀ t, o.dst = some t → t < N) (hQ : ∀ a w env σ, K env σ → Cpl N w0 s0 env σ a w → Q .normal a w) (hC : Cpl N w0 s0 env σ a w)
    (T : List LOp) (hT : T.map LOp.bare = (l.drop n).map (stripOp l.toArray)) (h : aStills Z σ ((l.take n).map (stripOp l.toArray)) (fun env' => aOps Z T K env' σ) env) :
    (Code.region id l.toArray true).wp Z.P Q a w := by
  simp only [Region.lexTailB, Bool.and_eq_true, decide_eq_true_eq] at hB
  obtain ⟨⟨⟨⟨hsel, hn⟩, hs⟩, hc⟩, hlex⟩ := hB
  have hn' : n < l.length := by simpa using hn
  have htl : (l.take n).length = n := by simp; omega
  have hdl : (l.drop n).length = l.toArray.size - n := by simp
  have inv0 : HeadInv .any l.toArray n (Array.replicate l.toArray.size false) :=
    ⟨by simp, fun j oj _ hl => (by rw [getD_replicate_false] at hl; cases hl), fun t _ ht => getD_in (by simpa using ht) (getD_replicate_false _ _)⟩
  have H := aAnyL_lex (Z := Z) (σ := σ) (md := .any) (g := l.toArray.size - n) hG hs hc hn (l.take n) 0 _ env (fun j hj => by
    have hj' : j < n := by rw [htl] at hj; exact hj
    simp [hj']) (by simpa using htl) inv0 (by rw [htl]; exact hlex) h
  refine wp_region_any hm ?_
  have := anyL_ok (Q := Q) (g := l.toArray.size - n) hG hD (fun listed a' w' env' hL hC' => by
    have hw := ops_ok (ops := l.toArray) (QC := Q) hQ (l.drop n) T env' σ a' w' hT (fun o ho => by
      obtain ⟨i, hi⟩ := List.mem_iff_getElem?.1 (List.mem_of_mem_drop ho)
      exact ⟨hG i o (by simpa using hi), hD i o (by simpa using hi)⟩) hC' hL.2
    have := wpAny_of_seq (md := .any) (Q' := Q) (l.drop n) n listed a' w' (fun j => by simp [List.getElem?_drop]) (by rw [hdl]; exact hL.1) hw
    rwa [hdl] at this) _ _ _ a { w with drawn := w.drawn + 1 } H (hC.drawn (w.drawn + 1))
  rw [htl, show n + (l.toArray.size - n) = l.toArray.size by omega] at this
  exact this

section
variable {Z : Sys} {σ σ1 : Heap} {k : Nat} {ops : Array Oper} {md : Region.Mode}
theorem aOne_of_same {τ : Heap} {o : LOp} {d : D} {env env' : Env} (h : aOne Z σ τ o d env) (h1 : ∀ x ∈ o.op.operands, ev env x = ev env' x) (h2 : ∀ t b, o.guard = some (t, b) → env t = env' t) : aOne Z σ τ o d env' := by
  unfold aOne at h ⊢
  cases hg : o.guard with
  | none => rw [hg] at h; exact aExec_congr h1 h
  | some p =>
    obtain ⟨t, b⟩ := p
    rw [hg] at h
    simp only at h ⊢
    rw [← h2 t b hg]
    split
    · rename_i hc; simp only [hc] at h; exact aExec_congr h1 h
    · rename_i hc; simp only [hc] at h; exact h
    · rename_i hc; simp only [hc] at h
theorem aBoth_of_same {act : Bool} {o : LOp} {d : D} {env env' : Env} (h : aBoth Z σ σ1 act o d env) (h1 : ∀ x ∈ o.op.operands, ev env x = ev env' x) (h2 : ∀ t b, o.guard = some (t, b) → env t = env' t) : aBoth Z σ σ1 act o d env' := by
  unfold aBoth at h ⊢
  split at h
  · rename_i ha; rw [if_pos ha]; exact aOne_of_same h h1 h2
  · rename_i ha; rw [if_neg ha]; exact ⟨aOne_of_same h.1 h1 h2, aOne_of_same h.2 h1 h2⟩
theorem aBoth_put {act : Bool} {oi oj : Oper} {d e : D} {env : Env} (hj : ∀ t, oj.dst = some t → t ∉ oi.looksAt ops) (hg : match oi.guard with | none => True | some (j, _) => ((ops[j]?).bind (·.dst)).isSome = true) :
    aBoth Z σ σ1 act (stripOp ops oi) d env ↔ aBoth Z σ σ1 act (stripOp ops oi) d (updO env oj.dst e) := by
  have h1 : ∀ x ∈ (stripOp ops oi).op.operands, ev env x = ev (updO env oj.dst e) x := fun x hx => by
    refine (ev_updO fun s hs hxs => ?_).symm
    refine hj s hs ?_
    simp only [Oper.looksAt, List.mem_append, List.mem_filterMap]
    left
    exact ⟨x, by simpa [stripOp] using hx, by rw [hxs]⟩
  have h2 : ∀ t b, (stripOp ops oi).guard = some (t, b) → env t = updO env oj.dst e t := fun t b ht => by
    refine (updO_ne fun hs => ?_).symm
    refine hj t hs ?_
    simp only [Oper.looksAt, List.mem_append]
    right
    simp only [stripOp] at ht
    cases hgd : oi.guard with
    | none => rw [hgd] at ht; cases ht
    | some p =>
      obtain ⟨j, b'⟩ := p
      rw [hgd] at ht
      simp only [hgd] at hg
      obtain ⟨q, hq⟩ := Option.isSome_iff_exists.1 hg
      simp [hq] at ht ⊢
      exact ht.1.symm
  exact ⟨fun h => aBoth_of_same h h1 h2, fun h => aBoth_of_same h (fun x hx => (h1 x hx).symm) (fun t b ht => (h2 t b ht).symm)⟩

def aSg (Z : Sys) (σ σ1 : Heap) (k : Nat) (ops : Array Oper) (i : Nat) (K : Env → Prop) (env : Env) : Prop :=
  match ops[i]? with
  | none => K env
  | some o => ∃ d, aBoth Z σ σ1 (i == k) (stripOp ops o) d env ∧ K (updO env o.dst d)
theorem aSg_mono {i : Nat} {K K' : Env → Prop} {env : Env} (hk : ∀ e, K e → K' e) (h : aSg Z σ σ1 k ops i K env) : aSg Z σ σ1 k ops i K' env := by
  unfold aSg at h ⊢
  split
  · rename_i ho; simp only [ho] at h; exact hk _ h
  · rename_i o ho; simp only [ho] at h; obtain ⟨d, h1, h2⟩ := h; exact ⟨d, h1, hk _ h2⟩
theorem aSg_put {i j : Nat} {oi oj : Oper} {d : D} (hG : gOK ops) (hi : ops[i]? = some oi) (hj : ops[j]? = some oj) (hap : oi.apart ops oj = true) {K : Env → Prop} {env : Env}
    (hy : aBoth Z σ σ1 (i == k) (stripOp ops oi) d env) (h : aSg Z σ σ1 k ops j K (updO env oi.dst d)) :
    aSg Z σ σ1 k ops j (fun env' => aBoth Z σ σ1 (i == k) (stripOp ops oi) d env' ∧ K (updO env' oi.dst d)) env := by
  obtain ⟨h1, h2, h3⟩ := Oper.apart_spec hap
  unfold aSg at h ⊢
  simp only [hj] at h ⊢
  obtain ⟨e, h4, h5⟩ := h
  refine ⟨e, (aBoth_put h1 (hG j oj hj)).2 h4, (aBoth_put h3 (hG i oi hi)).1 hy, ?_⟩
  rw [← updO_comm env d e h2]
  exact h5
theorem aSg_st {i : Nat} {o : Oper} {d : D} {env : Env} (hi : ops[i]? = some o) (hy : aBoth Z σ σ1 (i == k) (stripOp ops o) d env) {K : Env → Prop} (h : K (updO env o.dst d)) : aSg Z σ σ1 k ops i K env := by
  unfold aSg
  simp only [hi]
  exact ⟨d, hy, h⟩

def aGo (Z : Sys) (σ σ1 : Heap) (k : Nat) (md : Region.Mode) (ops : Array Oper) (n : Nat) (L : Array Bool → Env → Prop) : Nat → Array Bool → Env → Prop
  | 0, listed, env => L listed env
  | f + 1, listed, env => Region.ready md ops listed ≠ [] ∧ ∀ i ∈ Region.ready md ops listed, i < n ∧ aSg Z σ σ1 k ops i (aGo Z σ σ1 k md ops n L f (listed.setIfInBounds i true)) env

theorem aGo_first {n i : Nat} {oi : Oper} {d : D} {L : Array Bool → Env → Prop} (hG : gOK ops) (hi : ops[i]? = some oi)
    (hs : Region.sinkB md ops n = true) (hc : Region.chainB md ops n = true) (hn : n < ops.size) (hin : i < n)
    (hdone : ∀ listed env, L listed env → ∀ j ∈ Region.ready md ops listed, n ≤ j) :
    ∀ (f : Nat) (listed : Array Bool) (env : Env), HeadInv md ops n listed →
      (∀ j oj, ops[j]? = some oj → j ≠ i → listed.getD j true = false → (∀ e ∈ oj.after, Region.binds md e = true → e.on ≠ i) → oi.apart ops oj = true) →
      i ∈ Region.ready md ops listed → aBoth Z σ σ1 (i == k) (stripOp ops oi) d env →
      aGo Z σ σ1 k md ops n L f (listed.setIfInBounds i true) (updO env oi.dst d) → aGo Z σ σ1 k md ops n L (f + 1) listed env := by
  intro f
  induction f with
  | zero =>
    intro listed env inv _ hr hy H
    have hun := (mem_ready.1 hr).1
    refine ⟨fun h => (by rw [h] at hr; cases hr), fun j hj => ?_⟩
    have hjn : j < n := by
      rcases Nat.lt_or_ge j n with h | h
      · exact h
      · exact absurd hj (tail_waits hs hc hn inv _ i rfl hin hun j h)
    refine ⟨hjn, ?_⟩
    by_cases hji : j = i
    · subst hji; exact aSg_st hi hy H
    · have := hdone _ _ H j (ready_mono hj hji)
      omega
  | succ f ih =>
    intro listed env inv hfree hr hy H
    have hun := (mem_ready.1 hr).1
    refine ⟨fun h => (by rw [h] at hr; cases hr), fun j hj => ?_⟩
    have hjn : j < n := by
      rcases Nat.lt_or_ge j n with h | h
      · exact h
      · exact absurd hj (tail_waits hs hc hn inv _ i rfl hin hun j h)
    refine ⟨hjn, ?_⟩
    by_cases hji : j = i
    · subst hji; exact aSg_st hi hy H
    · have h1 := (H.2 j (ready_mono hj hji)).2
      obtain ⟨hjun, oj, hoj, hall⟩ := mem_ready.1 hj
      have hnot := not_listed hr hoj hall
      have h2 := aSg_put hG hi hoj (hfree j oj hoj hji hjun hnot) hy h1
      have hfree' : ∀ k ok, ops[k]? = some ok → k ≠ i → (listed.setIfInBounds j true).getD k true = false →
          (∀ e ∈ ok.after, Region.binds md e = true → e.on ≠ i) → oi.apart ops ok = true := fun k ok hk hki hun hno => by
        refine hfree k ok hk hki ?_ hno
        by_cases hjk : j = k
        · subst hjk; exact hjun
        · rw [getD_set_ne true hjk] at hun; exact hun
      refine aSg_mono (fun env' h3 => ih (listed.setIfInBounds j true) env' (inv.set hj hjn) hfree' (ready_mono hr (Ne.symm hji)) h3.1 ?_) h2
      rw [Array.setIfInBounds_comm _ _ hji]
      exact h3.2

theorem set_true {l : Array Bool} (i : Nat) : (l.setIfInBounds i true).getD i true = true := by
  by_cases h : i < l.size
  · simp [Array.getD, h]
  · simp [Array.getD, h]
theorem aGo_lex {n g : Nat} {Lq : Env → Prop} (hG : gOK ops) (hs : Region.sinkB md ops n = true) (hc : Region.chainB md ops n = true) (hn : n < ops.size) (hkn : k < n) :
    ∀ (l : List Oper) (m : Nat) (listed : Array Bool) (env : Env), (∀ j, j < l.length → l[j]? = ops[m + j]?) → m + l.length = n → HeadInv md ops n listed → (∀ i, i < m → listed.getD i true = true) →
    Region.lexHead md ops g l.length m listed = true → aActs Z σ σ1 k m (l.map (stripOp ops)) Lq env →
    aGo Z σ σ1 k md ops n (fun listed' env' => (Region.seqB md ops g n listed' = true ∧ listed'.getD k true = true) ∧ Lq env') l.length listed env
  | [], m, listed, env, _, hk, _, hd, hB, h => by
    have : m = n := by simpa using hk
    subst this
    exact ⟨⟨by simpa [Region.lexHead] using hB, hd k hkn⟩, h⟩
  | o :: l, m, listed, env, hl, hk, inv, hd, hB, h => by
    have h0 : ops[m]? = some o := by simpa using (hl 0 (by simp)).symm
    simp only [List.length_cons, Region.lexHead, Bool.and_eq_true] at hB
    obtain ⟨⟨hr, hf⟩, hB'⟩ := hB
    have hkn' : m < n := by simp only [List.length_cons] at hk; omega
    have hr' : m ∈ Region.ready md ops listed := by simpa using hr
    simp only [List.map_cons, aActs] at h
    obtain ⟨d, hy, hK⟩ := h
    exact aGo_first hG h0 hs hc hn hkn' (fun listed' env' hL => seqB_ready hL.1.1) l.length listed env inv (Region.free_spec h0 hf) hr' hy
      (aGo_lex hG hs hc hn hkn l (m + 1) _ _ (fun j hj => by have := hl (j + 1) (by simp; omega); simpa [Nat.add_assoc, Nat.add_comm 1 j] using this) (by simp only [List.length_cons] at hk; omega) (inv.set hr' hkn')
        (fun i hi => by
          by_cases hmi : m = i
          · subst hmi; exact set_true _
          · rw [getD_set_ne true hmi]; exact hd i (by omega)) hB' hK)
end
theorem sg_ok {Z : Sys} {N : Nat} {w0 : World} {s0 : GH} {ops : Array Oper} {i : Nat} {o : Oper} {env : Env} {σ τ : Heap} {d : D} {a : Act} {w : World} {K : Env → Prop} {next : Act → World → Prop} {Q : Exit → Act → World → Prop} (hG : gOK ops)
    (hD : ∀ (i : Nat) (o : Oper), ops[i]? = some o → ∀ t, o.dst = some t → t < N) (hC : Cpl N w0 s0 env σ a w) (ho : ops[i]? = some o) (hy : aOne Z σ τ (stripOp ops o) d env) (hK : K (updO env o.dst d))
    (hn : ∀ a' w' env', K env' → Cpl N w0 s0 env' τ a' w' → next a' w') : wpOp Z.P ops Q i next a w := by
  unfold wpOp
  rw [ho]
  simp only
  have hdst : (stripOp ops o).dst = o.dst := rfl
  have hop : ∃ K2 : Env → Heap → Prop, aOp Z (stripOp ops o) env σ K2 ∧ ∀ e s, K2 e s → s = τ ∧ K e := by
    refine ⟨fun e s => s = τ ∧ K e, ?_, fun _ _ h => h⟩
    unfold aOne at hy
    cases hgd : (stripOp ops o).guard with
    | none =>
      rw [hgd] at hy
      simp only at hy
      simp only [aOp, hgd]
      exact aExec_mono (fun d' τ' hd => by obtain ⟨rfl, rfl⟩ := hd; exact ⟨rfl, hK⟩) hy
    | some p =>
      obtain ⟨t, b⟩ := p
      rw [hgd] at hy
      simp only at hy
      cases hc : gate (env t) b with
      | none => rw [hc] at hy; exact hy.elim
      | some c =>
        rw [hc] at hy
        simp only [aOp, hgd, hc]
        cases c with
        | true => exact aExec_mono (fun d' τ' hd => by obtain ⟨rfl, rfl⟩ := hd; exact ⟨rfl, hK⟩) hy
        | false => simp only at hy; obtain ⟨rfl, rfl⟩ := hy; exact ⟨rfl, hK⟩
  obtain ⟨K2, h1, h2⟩ := hop
  have := op_ok (next := next) (Q := Q) (L := stripOp ops o) rfl (hG i o ho) (hD i o ho) hC h1 fun a' w' env' σ' hk hc => by
    obtain ⟨rfl, hk⟩ := h2 _ _ hk
    exact hn _ _ _ hk hc
  split
  · rename_i hw; rw [if_pos hw] at this; exact .inl this
  · rename_i hw; rw [if_neg hw] at this; exact this

theorem anyG_ok {Z : Sys} {N : Nat} {w0 : World} {s0 : GH} {ops : Array Oper} {md : Region.Mode} {σ σ1 : Heap} {k n g : Nat} {L : Array Bool → Env → Prop} {Q : Exit → Act → World → Prop} (hG : gOK ops) (hD : ∀ (i : Nat) (o : Oper), ops[i]? = some o → ∀ t, o.dst = some t → t < N)
    (hL : ∀ listed a w env, L listed env → Cpl N w0 s0 env (if listed.getD k true = true then σ1 else σ) a w → wpAny Z.P md ops Q g listed a w) : ∀ (f : Nat) (listed : Array Bool) (env : Env) (a : Act) (w : World), aGo Z σ σ1 k md ops n L f listed env → Cpl N w0 s0 env (if listed.getD k true = true then σ1 else σ) a w → wpAny Z.P md ops Q (f + g) listed a w
  | 0, _, _, _, _, h, hC => by rw [Nat.zero_add]; exact hL _ _ _ _ h hC
  | f + 1, listed, env, a, w, h, hC => by
    rw [show f + 1 + g = (f + g) + 1 by omega]
    refine ⟨fun h0 => absurd h0 h.1, fun i hi => ?_⟩
    have h2 := (h.2 i hi).2
    obtain ⟨hun, o, ho, _⟩ := mem_ready.1 hi
    unfold aSg at h2
    simp only [ho] at h2
    obtain ⟨d, hy, hK⟩ := h2
    unfold aBoth at hy
    by_cases hik : i = k
    · subst hik
      rw [beq_self_eq_true, if_pos rfl] at hy
      rw [hun, if_neg (by simp)] at hC
      exact sg_ok hG hD hC ho hy hK fun a' w' env' hk hc => anyG_ok hG hD hL f _ env' a' w' hk (by rw [set_true, if_pos rfl]; exact hc)
    · have hne : ¬ (i == k) = true := by simpa using hik
      rw [if_neg hne] at hy
      have hy' : aOne Z (if listed.getD k true = true then σ1 else σ) (if listed.getD k true = true then σ1 else σ) (stripOp ops o) d env := by
        split
        · exact hy.2
        · exact hy.1
      exact sg_ok hG hD hC ho hy' hK fun a' w' env' hk hc => anyG_ok hG hD hL f _ env' a' w' hk (by rw [getD_set_ne true hik]; exact hc)

theorem aActs_bare {Z : Sys} {σ σ1 : Heap} {k : Nat} : ∀ (L : List LOp) (L' : List LOp) (m : Nat) (K : Env → Prop) (env : Env), L.map LOp.bare = L' → aActs Z σ σ1 k m L K env → aActs Z σ σ1 k m L' K env
  | [], _, m, K, env, h, hx => by subst h; exact hx
  | o :: L, [], m, K, env, h, hx => by simp at h
  | o :: L, o' :: L', m, K, env, h, hx => by
    simp only [List.map_cons, List.cons.injEq] at h
    obtain ⟨rfl, h2⟩ := h
    obtain ⟨d, h3, h4⟩ := hx
    exact ⟨d, h3, aActs_bare L L' _ K _ h2 h4⟩
theorem draw_act {Z : Sys} {N : Nat} {w0 : World} {s0 : GH} {l : List Oper} {σ σ1 : Heap} {K : Env → Heap → Prop} {Q : Exit → Act → World → Prop} {id : Nat} {env : Env} {a : Act} {w : World} (n k : Nat) (hkn : k < n) (hm : Z.P.follows .mixedOrders = true) (hB : Region.lexTailB .any l.toArray n = true) (hG : gOK l.toArray)
    (hD : ∀ (i : Nat) (o : Oper), l.toArray[i]? = some o → ∀ t, o.dst = some t → t < N) (hQ : ∀ a w env σ, K env σ → Cpl N w0 s0 env σ a w → Q .normal a w) (hC : Cpl N w0 s0 env σ a w)
    (T : List LOp) (hT : T.map LOp.bare = (l.drop n).map (stripOp l.toArray)) (h : aActs Z σ σ1 k 0 ((l.take n).map (stripOp l.toArray)) (fun env' => aOps Z T K env' σ1) env) :
    (Code.region id l.toArray true).wp Z.P Q a w := by
  simp only [Region.lexTailB, Bool.and_eq_true, decide_eq_true_eq] at hB
  obtain ⟨⟨⟨⟨hsel, hn⟩, hs⟩, hc⟩, hlex⟩ := hB
  have hn' : n < l.length := by simpa using hn
  have htl : (l.take n).length = n := by simp; omega
  have hdl : (l.drop n).length = l.toArray.size - n := by simp
  have inv0 : HeadInv .any l.toArray n (Array.replicate l.toArray.size false) :=
    ⟨by simp, fun j oj _ hl => (by rw [getD_replicate_false] at hl; cases hl), fun t _ ht => getD_in (by simpa using ht) (getD_replicate_false _ _)⟩
  have hk0 : (Array.replicate l.toArray.size false).getD k true = false := getD_in (by simp; omega) (getD_replicate_false _ _)
  have H := aGo_lex (Z := Z) (σ := σ) (σ1 := σ1) (k := k) (md := .any) (g := l.toArray.size - n) hG hs hc hn hkn (l.take n) 0 _ env (fun j hj => by
    have hj' : j < n := by rw [htl] at hj; exact hj
    simp [hj']) (by simpa using htl) inv0 (fun i hi => absurd hi (Nat.not_lt_zero _)) (by rw [htl]; exact hlex) h
  refine wp_region_any hm ?_
  have := anyG_ok (Q := Q) (g := l.toArray.size - n) hG hD (fun listed a' w' env' hL hC' => by
    rw [hL.1.2, if_pos rfl] at hC'
    have hw := ops_ok (ops := l.toArray) (QC := Q) hQ (l.drop n) T env' σ1 a' w' hT (fun o ho => by
      obtain ⟨i, hi⟩ := List.mem_iff_getElem?.1 (List.mem_of_mem_drop ho)
      exact ⟨hG i o (by simpa using hi), hD i o (by simpa using hi)⟩) hC' hL.2
    have := wpAny_of_seq (md := .any) (Q' := Q) (l.drop n) n listed a' w' (fun j => by simp [List.getElem?_drop]) (by rw [hdl]; exact hL.1.1) hw
    rwa [hdl] at this) _ _ _ a { w with drawn := w.drawn + 1 } H (by rw [hk0, if_neg (by simp)]; exact hC.drawn (w.drawn + 1))
  rw [htl, show n + (l.toArray.size - n) = l.toArray.size by omega] at this
  exact this

theorem hf_indep {Z : Sys} {op : Op} (h : hfKind op = true) (ann : Nat) (env : Env) (g g' : Nat → Option AO) (nx nx' : Nat) : exec0 Z op ann env g nx = exec0 Z op ann env g' nx' := by
  cases op <;> first | rfl | (simp [hfKind] at h; done) | (rename_i fn _ _; cases fn <;> rfl)
theorem kres_indep {Z : Sys} {o : LOp} (h : hfKind o.op = true) (env : Env) (σ σ' : Heap) : kres Z o env σ = kres Z o env σ' := by
  unfold kres kres1
  rw [hf_indep h o.ann env σ.get σ'.get σ.next σ'.next]
theorem kres_congr {Z : Sys} {o : LOp} {env env' : Env} {σ : Heap} (h1 : ∀ x ∈ o.op.operands, ev env x = ev env' x) (h2 : ∀ t b, o.guard = some (t, b) → env t = env' t) : kres Z o env σ = kres Z o env' σ := by
  have h3 : kres1 Z o env σ = kres1 Z o env' σ := by unfold kres1; rw [exec0_congr h1]
  unfold kres
  cases hg : o.guard with
  | none => simp only [h3]
  | some p => obtain ⟨t, b⟩ := p; simp only [h2 t b hg, h3]
theorem keep_eff {Z : Sys} {op : Op} (h : keepKind op = true) {ann : Nat} {env : Env} {g : Nat → Option AO} {nx : Nat} {d : D} {e : Eff} (hx : exec0 Z op ann env g nx = some (d, e)) : e = .keep := by
  unfold keepKind at h
  cases op <;> simp only [hfKind, Bool.true_or, Bool.false_or, Bool.false_eq_true] at h <;> simp only [exec0] at hx
  case move => cases hx; rfl
  case assign => cases hx; rfl
  case pick => split at hx <;> cases hx; rfl
  case build => cases hb : aBuilt Z _ _ with
    | none => rw [hb] at hx; cases hx
    | some cs => rw [hb] at hx; cases hx; rfl
  case nilCheck =>
    split at hx <;> first
      | (cases hx; rfl)
      | (split at hx <;> first | (cases hx; rfl) | cases hx)
      | cases hx
  case makeFunc fn first caps => cases fn with
    | func f => simp only at hx; split at hx <;> first | (cases hx; rfl) | (split at hx <;> cases hx; rfl)
    | method m =>
      simp only at hx
      split at hx
      · split at hx
        · cases hx; rfl
        · cases hx
      · cases hx
    | _ => cases hx
  case slice => split at hx
                · cases hx
                · exact (map_keep hx).2
  case call c =>
    obtain ⟨callee, args, ats⟩ := c
    cases callee with
    | builtin b => cases b <;> simp at h
                   simp only [builtinR] at hx
                   split at hx <;> first | exact (map_keep hx).2 | cases hx | skip
                   all_goals (rename_i h1 _; cases h1)
    | _ => simp at h
  all_goals exact (map_keep hx).2
theorem keep_exec {Z : Sys} {op : Op} (h : keepKind op = true) {ann : Nat} (ha : ann ≠ 4) {env : Env} {σ : Heap} {K : D → Heap → Prop} : aExec Z op ann env σ K ↔ match exec0 Z op ann env σ.get σ.next with | some (d, e) => lenOK op env → K d (σ.app e) | none => False := by
  have he : exec Z op ann env σ.get σ.next = exec0 Z op ann env σ.get σ.next := by unfold exec; rw [if_neg ha]
  rw [← he]
  cases op <;> first | exact Iff.rfl | (simp [keepKind, hfKind] at h; done) | (rename_i c; obtain ⟨callee, args, ats⟩ := c; cases callee <;> first | exact Iff.rfl | (simp [keepKind, hfKind] at h; done))
theorem kres1_aExec {Z : Sys} {o : LOp} (h : keepKind o.op = true) {env : Env} {σ : Heap} {d : D} (hk : kres1 Z o env σ = some d) {K : D → Heap → Prop} (hK : K d σ) : aExec Z o.op o.ann env σ K := by
  unfold kres1 at hk
  split at hk
  · cases hk
  · rename_i ha
    rw [keep_exec h ha]
    split at hk
    · rename_i he; cases hk; rw [he]; exact fun _ => hK
    · cases hk
theorem kres_aOp {Z : Sys} {o : LOp} (h : keepKind o.op = true) {env : Env} {σ : Heap} {d : D} (hk : kres Z o env σ = some d) {K : Env → Heap → Prop} (hK : K (updO env o.dst d) σ) : aOp Z o env σ K := by
  unfold kres at hk
  unfold aOp
  cases hg : o.guard with
  | none => rw [hg] at hk; exact kres1_aExec h hk hK
  | some p =>
    obtain ⟨t, b⟩ := p
    rw [hg] at hk
    simp only at hk ⊢
    cases hgt : gate (env t) b with
    | none => rw [hgt] at hk; cases hk
    | some c =>
      rw [hgt] at hk
      cases c with
      | true => exact kres1_aExec h hk hK
      | false => simp only at hk; cases hk; exact hK
theorem aExec_more {Z : Sys} {op : Op} {ann : Nat} {env : Env} {σ : Heap} {K : D → Heap → Prop} (hn : keepKind op = true → ann ≠ 4) (h : aExec Z op ann env σ K) : aExec Z op ann env σ (fun d τ => (keepKind op = true → τ = σ) ∧ K d τ) := by
  by_cases hk : keepKind op = true
  · rw [keep_exec hk (hn hk)] at h ⊢
    split at h
    · rename_i d e he
      have := keep_eff hk he
      subst this
      exact fun hl => ⟨fun _ => rfl, h hl⟩
    · exact h.elim
  · exact aExec_mono (fun d τ hx => ⟨fun h => absurd h hk, hx⟩) h

section
variable {Z : Sys} {ops : Array Oper} {md : Region.Mode} {L : List LOp}
def gAny (Z : Sys) (md : Region.Mode) (ops : Array Oper) (L : List LOp) (Q : Env → Heap → Prop) : Nat → Array Bool → Env → Heap → Prop
  | 0, listed, env, σ => Region.ready md ops listed = [] ∧ Q env σ
  | f + 1, listed, env, σ => (Region.ready md ops listed = [] → Q env σ) ∧ ∀ i ∈ Region.ready md ops listed, ∀ o, L[i]? = some o → aOp Z o env σ (gAny Z md ops L Q f (listed.setIfInBounds i true))

theorem bare_parts {o : LOp} {p : Oper} (h : o.bare = stripOp ops p) : o.dst = p.dst ∧ o.op = p.op ∧ o.guard = (stripOp ops p).guard :=
  ⟨(congrArg LOp.dst h : _), (congrArg LOp.op h : _), by have := congrArg LOp.guard h; exact this⟩

theorem aOp_put {i j : Nat} {oi oj : Oper} {Li Lj : LOp} {d : D} (hG : gOK ops) (hi : ops[i]? = some oi) (hj : ops[j]? = some oj) (hLi : Li.bare = stripOp ops oi) (hLj : Lj.bare = stripOp ops oj) (hap : oi.apart ops oj = true) (ha : annOK Lj = true) {env : Env} {σ : Heap} {K : Env → Heap → Prop}
    (h : aOp Z Lj (updO env Li.dst d) σ K) : aOp Z Lj env σ (fun e τ => (∃ dj, e = updO env Lj.dst dj) ∧ (keepKind Lj.op = true → τ = σ) ∧ K (updO e Li.dst d) τ) := by
  obtain ⟨h1, h2, h3⟩ := Oper.apart_spec hap
  obtain ⟨a1, a2, a3⟩ := bare_parts hLi
  obtain ⟨b1, b2, b3⟩ := bare_parts hLj
  have hn : keepKind Lj.op = true → Lj.ann ≠ 4 := fun hk he => by simp [annOK, hk, he] at ha
  have q1 : ∀ x ∈ Lj.op.operands, ev (updO env Li.dst d) x = ev env x := fun x hx => by
    refine ev_updO fun s hs hxs => ?_
    rw [a1] at hs
    refine h1 s hs ?_
    simp only [Oper.looksAt, List.mem_append, List.mem_filterMap]
    left
    exact ⟨x, by rw [b2] at hx; simpa using hx, by rw [hxs]⟩
  have q2 : ∀ t b, Lj.guard = some (t, b) → updO env Li.dst d t = env t := fun t b ht => by
    refine updO_ne fun hs => ?_
    rw [a1] at hs
    refine h1 t hs ?_
    simp only [Oper.looksAt, List.mem_append]
    right
    rw [b3] at ht
    simp only [stripOp] at ht
    have hg := hG j oj hj
    cases hgd : oj.guard with
    | none => rw [hgd] at ht; cases ht
    | some p =>
      obtain ⟨k, b'⟩ := p
      rw [hgd] at ht
      simp only [hgd] at hg
      obtain ⟨q, hq⟩ := Option.isSome_iff_exists.1 hg
      simp [hq] at ht ⊢
      exact ht.1.symm
  have hcomm : ∀ dj, updO (updO env Li.dst d) Lj.dst dj = updO (updO env Lj.dst dj) Li.dst d := fun dj => updO_comm env d dj fun s hs => by rw [a1] at hs; rw [b1]; exact h2 s hs
  have run : aExec Z Lj.op Lj.ann (updO env Li.dst d) σ (fun dj τ => K (updO (updO env Li.dst d) Lj.dst dj) τ) → aExec Z Lj.op Lj.ann env σ (fun dj τ => (∃ dj', updO env Lj.dst dj = updO env Lj.dst dj') ∧ (keepKind Lj.op = true → τ = σ) ∧ K (updO (updO env Lj.dst dj) Li.dst d) τ) := fun hx =>
    aExec_mono (fun dj τ ⟨g1, g2⟩ => ⟨⟨dj, rfl⟩, g1, by rw [← hcomm]; exact g2⟩) (aExec_more hn (aExec_congr q1 hx))
  unfold aOp at h ⊢
  cases hg : Lj.guard with
  | none => rw [hg] at h; exact run h
  | some p =>
    obtain ⟨t, b⟩ := p
    rw [hg] at h
    simp only at h ⊢
    rw [q2 t b hg] at h
    cases hgt : gate (env t) b with
    | none => rw [hgt] at h; exact h.elim
    | some c =>
      rw [hgt] at h
      cases c with
      | true => exact run h
      | false =>
        have hfin := h
        simp only [hcomm] at hfin
        first | exact ⟨⟨_, rfl⟩, fun _ => rfl, hfin⟩ | exact ⟨⟨_, rfl⟩, hfin⟩ | exact ⟨⟨_, rfl⟩, fun _ => trivial, hfin⟩

theorem aOp_mono {o : LOp} {env : Env} {σ : Heap} {K K' : Env → Heap → Prop} (hk : ∀ e τ, K e τ → K' e τ) (h : aOp Z o env σ K) : aOp Z o env σ K' := by
  unfold aOp at h ⊢
  split
  · rename_i hg; simp only [hg] at h; exact aExec_mono (fun d τ hx => hk _ _ hx) h
  · rename_i t b hg
    simp only [hg] at h
    split
    · rename_i hgt; simp only [hgt] at h; exact aExec_mono (fun d τ hx => hk _ _ hx) h
    · rename_i hgt; simp only [hgt] at h; exact hk _ _ h
    · rename_i hgt; simp only [hgt] at h

theorem gAny_first {Q : Env → Heap → Prop} {i : Nat} {oi : Oper} {Li : LOp} {d : D} (hG : gOK ops) (hLs : ∀ (j : Nat) (o : Oper) (Lj : LOp), ops[j]? = some o → L[j]? = some Lj → Lj.bare = stripOp ops o) (hLl : L.length = ops.size) (hA : L.all annOK = true) (hi : ops[i]? = some oi) (hLi : L[i]? = some Li) (hk : keepKind Li.op = true) :
    ∀ (fuel : Nat) (listed : Array Bool) (env : Env) (σ : Heap),
    (∀ j oj, ops[j]? = some oj → j ≠ i → listed.getD j true = false → (∀ e ∈ oj.after, Region.binds md e = true → e.on ≠ i) → oi.apart ops oj = true ∧ (hfKind Li.op = true ∨ keepKind oj.op = true)) →
    i ∈ Region.ready md ops listed → kres Z Li env σ = some d → gAny Z md ops L Q fuel (listed.setIfInBounds i true) (updO env Li.dst d) σ → gAny Z md ops L Q (fuel + 1) listed env σ := by
  have hbi := hLs i oi Li hi hLi
  intro fuel
  induction fuel with
  | zero =>
    intro listed env σ _ hr hy H
    refine ⟨fun h => (by rw [h] at hr; cases hr), fun j hj Lj hLj => ?_⟩
    by_cases hji : j = i
    · subst hji; rw [hLi] at hLj; cases hLj; exact kres_aOp hk hy H
    · have := ready_mono hj hji
      rw [H.1] at this
      cases this
  | succ fuel ih =>
    intro listed env σ hfree hr hy H
    refine ⟨fun h => (by rw [h] at hr; cases hr), fun j hj Lj hLj => ?_⟩
    by_cases hji : j = i
    · subst hji; rw [hLi] at hLj; cases hLj; exact kres_aOp hk hy H
    · have h1 := H.2 j (ready_mono hj hji) Lj hLj
      obtain ⟨hjun, oj, hoj, hall⟩ := mem_ready.1 hj
      have hnot := not_listed hr hoj hall
      obtain ⟨hap, hkk⟩ := hfree j oj hoj hji hjun hnot
      have hbj := hLs j oj Lj hoj hLj
      have h2 := aOp_put hG hi hoj hbi hbj hap (List.all_eq_true.1 hA Lj (List.mem_of_getElem? hLj)) h1
      have hfree' : ∀ k ok, ops[k]? = some ok → k ≠ i → (listed.setIfInBounds j true).getD k true = false →
          (∀ e ∈ ok.after, Region.binds md e = true → e.on ≠ i) → oi.apart ops ok = true ∧ (hfKind Li.op = true ∨ keepKind ok.op = true) := fun k ok hk' hki hun hno => by
        refine hfree k ok hk' hki ?_ hno
        by_cases hjk : j = k
        · subst hjk; exact hjun
        · rw [getD_set_ne true hjk] at hun; exact hun
      refine aOp_mono (fun e τ ⟨⟨dj, hdj⟩, g2, g3⟩ => ?_) h2
      refine ih (listed.setIfInBounds j true) e τ hfree' (ready_mono hr (Ne.symm hji)) ?_ ?_
      · obtain ⟨p1, p2, p3⟩ := Oper.apart_spec hap
        obtain ⟨a1, a2, a3⟩ := bare_parts hbi
        obtain ⟨b1, b2, b3⟩ := bare_parts hbj
        have hcg : kres Z Li e τ = kres Z Li env τ := by
          subst hdj
          refine kres_congr (fun x hx => ev_updO fun s hs hxs => ?_) (fun t b ht => updO_ne fun hs => ?_)
          · rw [b1] at hs
            refine p3 s hs ?_
            simp only [Oper.looksAt, List.mem_append, List.mem_filterMap]
            left
            exact ⟨x, by rw [a2] at hx; simpa using hx, by rw [hxs]⟩
          · rw [b1] at hs
            refine p3 t hs ?_
            simp only [Oper.looksAt, List.mem_append]
            right
            rw [a3] at ht
            simp only [stripOp] at ht
            have hg := hG i oi hi
            cases hgd : oi.guard with
            | none => rw [hgd] at ht; cases ht
            | some p =>
              obtain ⟨k, b'⟩ := p
              rw [hgd] at ht
              simp only [hgd] at hg
              obtain ⟨q, hq⟩ := Option.isSome_iff_exists.1 hg
              simp [hq] at ht ⊢
              exact ht.1.symm
        rw [hcg]
        rcases hkk with hh | hh
        · rw [kres_indep hh env τ σ]; exact hy
        · have : τ = σ := g2 (by rw [b2]; exact hh)
          subst this; exact hy
      · rw [Array.setIfInBounds_comm _ _ hji]
        exact g3

theorem gAny_plan {Q : Env → Heap → Prop} (hG : gOK ops) (hLs : ∀ (j : Nat) (o : Oper) (Lj : LOp), ops[j]? = some o → L[j]? = some Lj → Lj.bare = stripOp ops o) (hLl : L.length = ops.size) (hA : L.all annOK = true) : ∀ (pl : List Nat) (listed : Array Bool) (env : Env) (σ : Heap),
    planCheck md ops pl listed = true → aPlan Z (pl.filterMap (L[·]?)) Q env σ → gAny Z md ops L Q pl.length listed env σ
  | [], listed, env, σ, hB, h => ⟨by simpa [planCheck] using hB, h⟩
  | i :: pl, listed, env, σ, hB, h => by
    simp only [planCheck] at hB
    cases hoi : ops[i]? with
    | none => simp only [hoi] at hB; cases hB
    | some oi =>
    have hil : i < L.length := by rw [hLl]; exact (Array.getElem?_eq_some_iff.1 hoi).1
    have hLi : L[i]? = some L[i] := List.getElem?_eq_getElem hil
    have hbi := hLs i oi _ hoi hLi
    obtain ⟨a1, a2, a3⟩ := bare_parts hbi
    simp only [hoi, Bool.and_eq_true, Bool.or_eq_true] at hB
    obtain ⟨hB1, hB2⟩ := hB
    have hfm : (i :: pl).filterMap (L[·]?) = L[i] :: pl.filterMap (L[·]?) := by rw [List.filterMap_cons, hLi]
    rw [hfm] at h
    have ih := gAny_plan (Q := Q) hG hLs hLl hA pl (listed.setIfInBounds i true)
    rcases hB1 with hB1 | hB1
    · have hr : Region.ready md ops listed = [i] := by simpa using hB1
      refine ⟨fun h0 => (by rw [hr] at h0; cases h0), fun j hj Lj hLj => ?_⟩
      rw [hr] at hj
      have : j = i := by simpa using hj
      subst this
      rw [hLi] at hLj
      cases hLj
      simp only [aPlan] at h
      split at h
      · rename_i hk
        split at h
        · rename_i d hd; exact kres_aOp hk hd (ih _ _ hB2 h)
        · exact h.elim
      · exact aOp_mono (fun e τ hx => ih e τ hB2 hx) h
    · obtain ⟨⟨⟨hr, hf⟩, hk⟩, hk2⟩ := hB1
      have hk' : keepKind L[i].op = true := by rw [a2]; exact hk
      simp only [aPlan, hk', if_true] at h
      split at h
      · rename_i d hd
        refine gAny_first hG hLs hLl hA hoi hLi hk' pl.length listed env σ (fun j oj hoj hne hun hno => ⟨Region.free_spec hoi hf j oj hoj hne hun hno, ?_⟩) (by simpa using hr) hd (ih _ _ hB2 h)
        rcases hk2 with hh | hh
        · left; rw [a2]; exact hh
        · right
          simp only [List.all_eq_true, List.mem_range] at hh
          have := hh j (Array.getElem?_eq_some_iff.1 hoj).1
          simp only [hoj, Bool.or_eq_true, beq_iff_eq, hne, false_or, hun, Bool.false_eq_true] at this
          rcases this with this | this
          · obtain ⟨e, he, hb⟩ := Array.any_eq_true'.1 this
            simp only [Bool.and_eq_true, beq_iff_eq] at hb
            exact absurd hb.2 (hno e he hb.1)
          · exact this
      · exact h.elim

theorem gAny_ok {N : Nat} {w0 : World} {s0 : GH} {QA : Env → Heap → Prop} {Q : Exit → Act → World → Prop} (hG : gOK ops) (hD : ∀ (i : Nat) (o : Oper), ops[i]? = some o → ∀ t, o.dst = some t → t < N) (hLs : ∀ (j : Nat) (o : Oper) (Lj : LOp), ops[j]? = some o → L[j]? = some Lj → Lj.bare = stripOp ops o) (hLl : L.length = ops.size)
    (hQ : ∀ a w env σ, QA env σ → Cpl N w0 s0 env σ a w → Q .normal a w) : ∀ (fuel : Nat) (listed : Array Bool) (env : Env) (σ : Heap) (a : Act) (w : World), gAny Z md ops L QA fuel listed env σ → Cpl N w0 s0 env σ a w → wpAny Z.P md ops Q fuel listed a w
  | 0, _, _, _, _, _, h, hC => ⟨h.1, hQ _ _ _ _ h.2 hC⟩
  | fuel + 1, listed, env, σ, a, w, h, hC => ⟨fun h0 => hQ _ _ _ _ (h.1 h0) hC, fun i hi => by
    obtain ⟨hjun, o, ho, hall⟩ := mem_ready.1 hi
    have hil : i < L.length := by rw [hLl]; exact (Array.getElem?_eq_some_iff.1 ho).1
    have hLi : L[i]? = some L[i] := List.getElem?_eq_getElem hil
    have := op_ok (Q := Q) (next := wpAny Z.P md ops Q fuel (listed.setIfInBounds i true)) (hLs i o _ ho hLi) (hG i o ho) (hD i o ho) hC (h.2 i hi _ hLi) fun a' w' env' σ' hk hc => gAny_ok hG hD hLs hLl hQ fuel _ env' σ' a' w' hk hc
    unfold wpOp
    rw [ho]
    simp only
    split
    · rename_i hw; rw [if_pos hw] at this; exact .inl this
    · rename_i hw; rw [if_neg hw] at this; exact this⟩
end
theorem draw_plan {Z : Sys} {N : Nat} {w0 : World} {s0 : GH} {ops : Array Oper} {L : List LOp} {QA : Env → Heap → Prop} {Q : Exit → Act → World → Prop} {id : Nat} {env : Env} {σ : Heap} {a : Act} {w : World} (hm : Z.P.follows .mixedOrders = true) (hL : L.map LOp.bare = ops.toList.map (stripOp ops)) (hG : gOK ops)
    (hD : ∀ (i : Nat) (o : Oper), ops[i]? = some o → ∀ t, o.dst = some t → t < N) (hQ : ∀ a w env σ, QA env σ → Cpl N w0 s0 env σ a w → Q .normal a w) (hC : Cpl N w0 s0 env σ a w) (hne : (planOf ops).isEmpty = false) (hA : L.all annOK = true) (h : aPlan Z ((planOf ops).filterMap (L[·]?)) QA env σ) :
    (Code.region id ops true).wp Z.P Q a w := by
  have hLl : L.length = ops.size := by have := congrArg List.length hL; simpa using this
  have hLs : ∀ (j : Nat) (o : Oper) (Lj : LOp), ops[j]? = some o → L[j]? = some Lj → Lj.bare = stripOp ops o := fun j o Lj ho hLj => by
    have := congrArg (fun l => l[j]?) hL
    simp only [List.getElem?_map, hLj, Option.map_some, Array.getElem?_toList, ho] at this
    exact Option.some.inj this
  have hchk : planCheck .any ops (planOf ops) (Array.replicate ops.size false) = true ∧ (planOf ops).length = ops.size := by
    unfold planOf at hne ⊢
    simp only at hne ⊢
    split at hne
    · rename_i hc
      rw [if_pos hc]
      have hc' := (Bool.and_eq_true _ _).mp hc
      exact ⟨hc'.1, beq_iff_eq.1 hc'.2⟩
    · simp at hne
  refine wp_region_any hm ?_
  have := gAny_plan (Z := Z) (md := .any) (Q := QA) hG hLs hLl hA _ _ env σ hchk.1 h
  rw [hchk.2] at this
  exact gAny_ok hG hD hLs hLl hQ _ _ env σ a _ this (hC.drawn _)

theorem guards_of {ops : Array Oper} {N : Nat} (h : guardsOK ops N = true) : gOK ops := fun i o ho => by
  have := Array.all_eq_true_iff_forall_mem.1 h o (Array.mem_of_getElem? ho)
  split
  · trivial
  · rename_i j b hg; simpa [hg] using this
theorem dsts_of {ops : Array Oper} {N : Nat} (h : dstsOK N ops = true) : ∀ (i : Nat) (o : Oper), ops[i]? = some o → ∀ t, o.dst = some t → t < N := fun i o ho t ht => by
  have := Array.all_eq_true_iff_forall_mem.1 h o (Array.mem_of_getElem? ho)
  simpa [ht] using this

/-- Inside a loop, before a round. -/
def LoopAt (P : Program) (c : Code) (Q : Exit → Act → World → Prop) (a : Act) (w : World) : Prop :=
  ∀ b k cs, ∃ e a' w', Q e a' w' ∧ Arrives P (lone (b.at a (.code c :: .inLoop c :: k)) cs w) b k cs e a' w'
theorem LoopAt.wp {P : Program} {Q : Exit → Act → World → Prop} {a : Act} {w : World} {c : Code} (h : LoopAt P c Q a w) : (Code.loop c).wp P Q a w := by
  intro b k cs
  obtain ⟨e, a', w', hq, harr⟩ := h b k cs
  exact ⟨e, a', w', hq, .of_steps (.one step_loop) harr⟩
theorem LoopAt.round {P : Program} {Q : Exit → Act → World → Prop} {a : Act} {w : World} {c : Code} (h : c.wp P (Exit.then (LoopAt P c Q) Q) a w) : LoopAt P c Q a w := by
  intro b k cs
  obtain ⟨e, a₁, w₁, hq, harr⟩ := h b (.inLoop c :: k) cs
  cases e with
  | normal =>
    obtain ⟨e₂, a₂, w₂, hq₂, harr₂⟩ := hq b k cs
    exact ⟨e₂, a₂, w₂, hq₂, .of_steps (Steps.trans harr (.one step_inLoop)) harr₂⟩
  | exit id => exact ⟨_, a₁, w₁, hq, .pass (x := .inLoop c) rfl (fun _ _ => .inl (by simp)) harr⟩
  | goto l => exact ⟨_, a₁, w₁, hq, .pass (x := .inLoop c) rfl (fun _ _ => .inl (by simp)) harr⟩
  | ret => exact ⟨_, a₁, w₁, hq, .pass (x := .inLoop c) rfl (fun _ _ => .inl (by simp)) harr⟩
  | panic ch => exact ⟨_, a₁, w₁, hq, .pass (x := .inLoop c) rfl (fun _ _ => .inl (by simp)) harr⟩
  | outgrown => exact ⟨_, a₁, w₁, hq, .pass (x := .inLoop c) rfl (fun _ _ => .inl (by simp)) harr⟩

theorem pwp_ok {Z : Sys} {N : Nat} {w0 : World} {s0 : GH} (hm : Z.P.follows .mixedOrders = true) : ∀ (c : Code) (L : LCode) (Q : Ex → Env → Heap → Prop) (QC : Exit → Act → World → Prop) (env : Env) (σ : Heap) (a : Act) (w : World),
    L.bare = strip c → codeOK N c = true → (∀ e a w, OutQ N w0 s0 Q e a w → QC e a w) → Cpl N w0 s0 env σ a w → pwp Z L Q env σ → c.wp Z.P QC a w
  | .skip, L, Q, QC, env, σ, a, w, hL, hk, hQ, hC, h => by
    cases L <;> simp [LCode.bare, strip] at hL
    exact wp_skip (hQ .normal a w ⟨env, σ, h, hC⟩)
  | .ret, L, Q, QC, env, σ, a, w, hL, hk, hQ, hC, h => by
    cases L <;> simp [LCode.bare, strip] at hL
    exact wp_ret (hQ .ret a w ⟨env, σ, h, hC⟩)
  | .exit id, L, Q, QC, env, σ, a, w, hL, hk, hQ, hC, h => by
    cases L <;> simp [LCode.bare, strip] at hL
    subst hL
    exact wp_exit (hQ (.exit _) a w ⟨env, σ, h, hC⟩)
  | .region id ops false, L, Q, QC, env, σ, a, w, hL, hk, hQ, hC, h => by
    cases L <;> simp [LCode.bare, strip] at hL
    simp only [codeOK, Bool.and_eq_true] at hk
    refine wp_region_list (ops_ok (K := Q .normal) (fun a' w' env' σ' hq hc => hQ .normal a' w' ⟨env', σ', hq, hc⟩) ops.toList _ env σ a w hL (fun o ho => ?_) hC h)
    obtain ⟨i, hi⟩ := List.mem_iff_getElem?.1 ho
    exact ⟨guards_of hk.2 i o (by simpa using hi), dsts_of hk.1 i o (by simpa using hi)⟩
  | .region id ops true, L, Q, QC, env, σ, a, w, hL, hk, hQ, hC, h => by
    cases L <;> simp [LCode.bare, strip] at hL
    rename_i l s ts pl
    obtain ⟨hl, rfl, rfl, rfl⟩ := hL
    simp only [codeOK, Bool.and_eq_true] at hk
    rcases h with ⟨hne, h, hA⟩ | ⟨hs, h⟩ | ⟨n, hn, h⟩ | ⟨n, k, σ1, hn, hkn, h⟩
    · exact draw_plan hm hl (guards_of hk.2) (dsts_of hk.1) (fun a' w' env' σ' hq hc => hQ .normal a' w' ⟨env', σ', hq, hc⟩) hC hne hA h
    · rw [aStills_bare _ _ _ _ hl] at h
      exact draw_still hm hs (guards_of hk.2) (dsts_of hk.1) (fun a' w' env' hq hc => hQ .normal a' w' ⟨env', σ, hq, hc⟩) hC h
    · obtain ⟨ops⟩ := ops
      simp only [List.mem_filter] at hn
      have h1 : (l.take n).map LOp.bare = (ops.take n).map (stripOp ops.toArray) := by rw [List.map_take, hl, List.map_take]
      have h2 : (l.drop n).map LOp.bare = (ops.drop n).map (stripOp ops.toArray) := by rw [List.map_drop, hl, List.map_drop]
      rw [aStills_bare _ _ _ _ h1] at h
      exact draw_tail n hm hn.2 (guards_of hk.2) (dsts_of hk.1) (fun a' w' env' σ' hq hc => hQ .normal a' w' ⟨env', σ', hq, hc⟩) hC _ h2 h
    · obtain ⟨ops⟩ := ops
      simp only [List.mem_filter] at hn
      have h1 : (l.take n).map LOp.bare = (ops.take n).map (stripOp ops.toArray) := by rw [List.map_take, hl, List.map_take]
      have h2 : (l.drop n).map LOp.bare = (ops.drop n).map (stripOp ops.toArray) := by rw [List.map_drop, hl, List.map_drop]
      exact draw_act n k hkn hm hn.2 (guards_of hk.2) (dsts_of hk.1) (fun a' w' env' σ' hq hc => hQ .normal a' w' ⟨env', σ', hq, hc⟩) hC _ h2 (aActs_bare _ _ _ _ _ h1 h)
  | .seq x y, L, Q, QC, env, σ, a, w, hL, hk, hQ, hC, h => by
    cases L <;> simp [LCode.bare, strip] at hL
    simp only [codeOK, Bool.and_eq_true] at hk
    refine wp_seq (pwp_ok hm x _ _ _ env σ a w hL.1 hk.1 (fun e a' w' ho => ?_) hC h)
    cases e with
    | normal => obtain ⟨env', σ', hq, hc⟩ := ho; exact pwp_ok hm y _ _ _ env' σ' a' w' hL.2 hk.2 hQ hc hq
    | exit id => exact hQ (.exit id) a' w' ho
    | ret => exact hQ .ret a' w' ho
    | _ => exact ho.elim
  | .cond c x y, L, Q, QC, env, σ, a, w, hL, hk, hQ, hC, h => by
    cases L <;> simp [LCode.bare, strip] at hL
    obtain ⟨hLc, hL1, hL2⟩ := hL
    simp only [codeOK, Bool.and_eq_true] at hk
    obtain ⟨t, ht, h⟩ := h
    rw [hLc] at ht
    obtain ⟨s, hsσ, hS, hrest⟩ := id hC
    have hc := hS.ev c
    rw [ht] at hc
    generalize hcv : a.eval c = cv at hc
    cases hc
    refine wp_cond_split hcv (fun h1 => ?_) (fun h1 => ?_)
    · rw [if_pos h1] at h; exact pwp_ok hm x _ _ _ env σ a w hL1 hk.1 hQ hC h
    · rw [if_neg (by rw [h1]; simp)] at h; exact pwp_ok hm y _ _ _ env σ a w hL2 hk.2 hQ hC h
  | .block id x, L, Q, QC, env, σ, a, w, hL, hk, hQ, hC, h => by
    cases L <;> simp [LCode.bare, strip] at hL
    obtain ⟨rfl, hL⟩ := hL
    simp only [codeOK] at hk
    refine wp_block (pwp_ok hm x _ _ _ env σ a w hL hk (fun e a' w' ho => ?_) hC h)
    cases e with
    | normal => exact hQ .normal a' w' ho
    | exit id' =>
      obtain ⟨env', σ', hq, hc⟩ := ho
      simp only [Ex.inBlock] at hq
      simp only [Exit.inBlock]
      split
      · rename_i he; rw [if_pos he] at hq; exact hQ .normal a' w' ⟨env', σ', hq, hc⟩
      · rename_i he; rw [if_neg he] at hq; exact hQ (.exit id') a' w' ⟨env', σ', hq, hc⟩
    | ret => exact hQ .ret a' w' ho
    | _ => exact ho.elim
  | .loop x, L, Q, QC, env, σ, a, w, hL, hk, hQ, hC, h => by
    cases L <;> simp [LCode.bare, strip] at hL
    simp only [codeOK] at hk
    refine LoopAt.wp (h (fun e s => ∀ a w, Cpl N w0 s0 e s a w → LoopAt Z.P x QC a w) (fun e1 s1 hX a1 w1 hC1 => ?_) a w hC)
    refine LoopAt.round (pwp_ok hm x _ _ _ e1 s1 a1 w1 hL hk (fun e a'' w'' ho => ?_) hC1 hX)
    cases e with
    | normal =>
      obtain ⟨e3, s3, hI3, hC3⟩ := ho
      exact hI3 a'' w'' hC3
    | exit id => exact hQ (.exit id) a'' w'' ho
    | ret => exact hQ .ret a'' w'' ho
    | _ => exact ho.elim
  | .rangeFunc .., L, _, _, _, _, _, _, hL, _, _, _, h => by
    cases L <;> simp [LCode.bare, strip] at hL
    exact h.elim
  | .scope x, L, Q, QC, env, σ, a, w, hL, hk, hQ, hC, h => by
    simp only [strip] at hL
    simp only [codeOK] at hk
    refine wp_scope_straight (pwp_ok hm x L Q _ env σ a w hL hk (fun e a' w' ho => ?_) hC h)
    cases e with
    | normal => exact hQ .normal a' w' ho
    | exit id => exact hQ (.exit id) a' w' ho
    | ret => exact hQ .ret a' w' ho
    | _ => exact ho.elim
  | .label .., L, _, _, env, σ, a, w, hL, _, hQ, hC, h => by
    cases L <;> simp [LCode.bare, strip] at hL
    exact wp_label (hQ .normal a w ⟨env, σ, h, hC⟩)
  | .goto .., L, _, _, _, _, _, _, hL, _, _, _, h => by
    cases L <;> simp [LCode.bare, strip] at hL
    exact h.elim
  | .refuse .., L, _, _, _, _, _, _, hL, _, _, _, h => by
    cases L <;> simp [LCode.bare, strip] at hL
    exact h.elim
end Go.Proofs.YthchlpikcpidaaaDoor.Vs
