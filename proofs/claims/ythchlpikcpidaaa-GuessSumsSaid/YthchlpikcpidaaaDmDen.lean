/- The engine 'Dm', part 10: code carried out by a function, for closed runs. -/
import Derived.Test.YthchlpikcpidaaaDmFn
namespace Go.Proofs.Ythchlpikcpidaaa.Vs
open Go.RowKit
set_option linter.unusedVariables false
set_option linter.unusedSimpArgs false
/-- A call comes to one value and leaves the heap as it was. -/
def Fn (Z : Sys) (f : FuncId) (ds : List D) (x : D) : Prop := ∀ σ, PCall Z f ds σ (fun d τ => d = x ∧ τ = σ)

structure FnI where
  L : LCode
  rs : List ResultVar
  k : Nat
  N : Nat
structure Tab (Z : Sys) where
  fn : FuncId → Option FnI
  ok : ∀ f i, fn f = some i → FnOK Z.P f i.L i.rs i.k
  lib : FuncId → List D → Option D
  libok : ∀ f ds d, lib f ds = some d → Fn Z f ds d

structure HL where
  n : Nat
  l : List (Option AO)
  low : Nat
def HL.get (h : HL) (r : Nat) : Option AO := if r < h.n then (h.l[h.n - 1 - r]?).getD none else none
def HL.abs (h : HL) : Heap := ⟨h.n, h.get⟩
def HL.new (h : HL) (o : AO) : HL := ⟨h.n + 1, some o :: h.l, h.low⟩
def HL.at (h : HL) (r : Nat) (o : Option AO) : Option HL := match h.get r with
  | some _ => some ⟨h.n, h.l.set (h.n - 1 - r) o, if r < h.low then r else h.low⟩
  | none => none
def HL.app (h : HL) : Eff → Option HL
  | .keep => some h
  | .new o => some (h.new o)
  | .put r o => h.at r (some o)
  | .move r o => (h.at r none).map (·.new o)
  | .kill r => h.at r none

/-- What stays. -/
structure HL.Keeps (h h' : HL) : Prop where
  low : h'.low ≤ h.low
  n : h.n ≤ h'.n
  get : ∀ r, r < h'.low → r < h.n → h'.get r = h.get r
theorem HL.Keeps.refl (h : HL) : h.Keeps h := ⟨Nat.le_refl _, Nat.le_refl _, fun _ _ _ => rfl⟩
theorem HL.Keeps.trans {a b c : HL} (h : a.Keeps b) (k : b.Keeps c) : a.Keeps c :=
  ⟨Nat.le_trans k.low h.low, Nat.le_trans h.n k.n, fun r h1 h2 => (k.get r h1 (Nat.lt_of_lt_of_le h2 h.n)).trans (h.get r (Nat.lt_of_lt_of_le h1 k.low) h2)⟩
def belB : Nat → Nat → D → Bool
  | 0, _, _ => false
  | k + 1, N, d => match d with
    | .ptr r _ => decide (r < N)
    | .map r => decide (r < N)
    | .row r _ _ _ _ => decide (r < N)
    | .sl (.tip r _) _ cs => decide (r < N) && cs.all (belB k N)
    | .sl _ _ cs => cs.all (belB k N)
    | .at cs => cs.all (belB k N)
    | .agg cs => cs.all (belB k N)
    | .tup cs => cs.all (belB k N)
    | .func _ cs => cs.all (belB k N)
    | .bfunc _ cs => cs.all (belB k N)
    | .iface _ d => belB k N d
    | .meth _ _ => true
    | _ => true
def envL (l : List D) : Env := fun t => l.getD t .junk
def setL (l : List D) (t : Option Nat) (d : D) : Option (List D) := match t with
  | none => some l
  | some t => if t < l.length then some (l.set t d) else none
abbrev CallF := FuncId → List D → HL → Option (D × Option HL)

section
variable {Z : Sys} (T : Tab Z)
/-- An operation; no heap: it is as it was. -/
def denOp1 (call : CallF) (op : Op) (ann : Nat) (l : List D) (h : HL) : Option (D × Option HL) :=
  match op with
  | .call ⟨.value f, args, _⟩ => (match ev (envL l) f with
    | .func g caps => call g (args.toList.map (ev (envL l)) ++ caps) h
    | .bfunc g fs => call g (fs ++ args.toList.map (ev (envL l))) h
    | _ => none)
  | .call ⟨.invoke r m, args, _⟩ => (match ev (envL l) r with
    | .iface t d => (match Z.M t m with
      | some g => call g (d :: args.toList.map (ev (envL l))) h
      | none => none)
    | _ => none)
  | op => (match exec Z op ann (envL l) h.get h.n with
    | some (d, .keep) => some (d, none)
    | some (d, e) => (h.app e).map fun h' => (d, some h')
    | none => none)
def denOp (call : CallF) (o : LOp) (l : List D) (h : HL) : Option (List D × HL) :=
  match o.guard with
  | none => (match denOp1 (Z := Z) call o.op o.ann l h with
    | some (d, h') => (setL l o.dst d).map (·, h'.getD h)
    | none => none)
  | some (t, b) => (match gate (envL l t) b with
    | some true => (match denOp1 (Z := Z) call o.op o.ann l h with
      | some (d, h') => (setL l o.dst d).map (·, h'.getD h)
      | none => none)
    | some false => (setL l o.dst (.tup [])).map (·, h)
    | none => none)
def denOps (call : CallF) : List LOp → List D → HL → Option (List D × HL)
  | [], l, h => some (l, h)
  | o :: os, l, h => match denOp (Z := Z) call o l h with
    | some (l', h') => denOps call os l' h'
    | none => none
def denStill (call : CallF) : List LOp → List D → HL → Option (List D)
  | [], l, h => some l
  | o :: os, l, h =>
    match (match o.guard with
    | none => (match denOp1 (Z := Z) call o.op 0 l h with
      | some (d, none) => setL l o.dst d
      | _ => none)
    | some (t, b) => (match gate (envL l t) b with
      | some true => (match denOp1 (Z := Z) call o.op 0 l h with
        | some (d, none) => setL l o.dst d
        | _ => none)
      | some false => setL l o.dst (.tup [])
      | none => none)) with
    | some l' => denStill call os l' h
    | none => none

def denPlan (call : CallF) : List LOp → List D → HL → Option (List D × HL)
  | [], l, h => some (l, h)
  | o :: os, l, h => if keepKind o.op then (match kres Z o (envL l) h.abs with
      | some d => (match setL l o.dst d with
        | some l' => denPlan call os l' h
        | none => none)
      | none => none)
    else (match denOp (Z := Z) call o l h with
    | some (l', h') => denPlan call os l' h'
    | none => none)

def denCall (go : LCode → List D → HL → Option (Ex × List D × HL)) : CallF := fun f ds h =>
  match T.lib f ds with
  | some d => some (d, none)
  | none =>
    match T.fn f with
    | none => none
    | some i =>
      if ds.length = i.k then
        match go i.L (ds ++ List.replicate (i.N - ds.length) .junk) ⟨h.n, h.l, h.n⟩ with
        | some (.exit _, _, _) => none
        | some (_, l', h') => (match ares Z i.rs (envL l') h'.get with
          | some d => if decide (h'.low = h.n) && belB 50 h.n d then some (d, none) else some (d, some ⟨h'.n, h'.l, if h'.low < h.low then h'.low else h.low⟩)
          | none => none)
        | none => none
      else none

def den : Nat → LCode → List D → HL → Option (Ex × List D × HL)
  | 0, _, _, _ => none
  | n + 1, c, l, h => match c with
    | .skip => some (.normal, l, h)
    | .ops os => (match denOps (Z := Z) (denCall T (den n)) os l h with
      | some (l', h') => some (.normal, l', h')
      | none => none)
    | .draw os s ts pl => if pl.isEmpty = false ∧ os.all annOK = true then (match denPlan (Z := Z) (denCall T (den n)) (pl.filterMap (os[·]?)) l h with
        | some (l', h') => some (.normal, l', h')
        | none => none)
      else (match ts with
      | [] => if s then (match denStill (Z := Z) (denCall T (den n)) os l h with
          | some l' => some (.normal, l', h)
          | none => none) else none
      | k :: _ => (match denStill (Z := Z) (denCall T (den n)) (os.take k) l h with
        | some l' => (match denOps (Z := Z) (denCall T (den n)) (os.drop k) l' h with
          | some (l', h') => some (.normal, l', h')
          | none => none)
        | none => none))
    | .seq a b => (match den n a l h with
      | some (.normal, l', h') => den n b l' h'
      | r => r)
    | .cond c a b => (match ev (envL l) c with
      | .bool true => den n a l h
      | .bool false => den n b l h
      | _ => none)
    | .block id a => (match den n a l h with
      | some (.exit id', l', h') => if id' = id then some (.normal, l', h') else some (.exit id', l', h')
      | r => r)
    | .loop a => (match den n a l h with
      | some (.normal, l', h') => den n (.loop a) l' h'
      | r => r)
    | .exit id => some (.exit id, l, h)
    | .ret => some (.ret, l, h)
    | .bad => none

end
/-- A closed run, whatever the heap: its numbers begin where the heap's end. -/
def run {Z : Sys} (T : Tab Z) (n : Nat) (f : FuncId) (ds : List D) : Option D :=
  match denCall T (den T n) f ds ⟨0, [], 0⟩ with
  | some (d, none) => some d
  | _ => none
end Go.Proofs.Ythchlpikcpidaaa.Vs
namespace Go.Proofs.Ythchlpikcpidaaa.Vs
/-- Each of a list, as a conjunction. -/
def Alls {α : Type} (p : α → Prop) : List α → Prop
  | [] => True
  | a :: l => p a ∧ Alls p l
theorem Alls.mem {α : Type} {p : α → Prop} : ∀ {l : List α}, Alls p l → ∀ a ∈ l, p a
  | [], _, a, h => by cases h
  | b :: l, h, a, ha => by
    rcases List.mem_cons.1 ha with rfl | ha
    · exact h.1
    · exact Alls.mem h.2 a ha
def look {α : Type} : List (Nat × α) → Nat → Option α
  | [], _ => none
  | (k, a) :: l, n => bif Nat.beq k n then some a else look l n
theorem look_mem {α : Type} : ∀ {l : List (Nat × α)} {n : Nat} {a : α}, look l n = some a → (n, a) ∈ l
  | [], _, _, h => by simp [look] at h
  | (k, b) :: l, n, a, h => by
    simp only [look] at h
    cases hk : Nat.beq k n with
    | true =>
      rw [hk] at h
      simp at h
      have := Nat.eq_of_beq_eq_true hk
      subst this; subst h
      simp
    | false =>
      rw [hk] at h
      exact List.mem_cons_of_mem _ (look_mem h)
theorem TI.out {P : Program} {t : TypeId} {i : TInfo} (h : TI P t = some i) :
    P.underlying t = some i.d ∧ ∃ inf, P.info? t = some inf ∧ inf.size = i.size ∧ inf.bytes = i.bytes ∧ inf.zero = some i.zero ∧ (i.eqg = false → P.eqGuardType P.depth t = false) ∧ (i.stood = false → P.stoodInHeld t = false) := by
  unfold TI at h
  split at h
  · rename_i d inf hd hi
    split at h
    · rename_i z hz
      cases h
      exact ⟨hd, inf, hi, rfl, rfl, hz, id, id⟩
    · cases h
  · cases h
def sysOf (P : Program) (l : List (Nat × TInfo)) (h : Alls (fun p : Nat × TInfo => TI P p.1 = some p.2) l) : Sys := { P := P, T := look l, ok := fun _ _ ht => TI.out (h.mem _ (look_mem ht)), M := fun _ _ => none, mok := fun _ _ _ hm => nomatch hm }
end Go.Proofs.Ythchlpikcpidaaa.Vs
