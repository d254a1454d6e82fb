/- The engine 'Dm', part 7: an operation, whatever it is; calls. -/
import Derived.Test.YthchlpikcpidaaaDoorDmIter
namespace Go.Proofs.YthchlpikcpidaaaDoor.Vs
open Go.RowKit
set_option linter.unusedVariables false
set_option linter.unusedSimpArgs false
abbrev Env := Nat → D
def upd (env : Env) (t : Nat) (d : D) : Env := fun i => if i = t then d else env i
def updO (env : Env) (t : Option Nat) (d : D) : Env := match t with
  | some t => upd env t d
  | none => env

def ev (env : Env) : Operand → D
  | .tmp t => env t
  | .const v => ofV v
  | .func f => .func f []
  | .global _ => .junk

def VL (w : World) (s : GH) (vs : Array Value) (ds : List D) : Prop := vs.size = ds.length ∧ ∀ i (h : i < ds.length), V w (Lim s) (vs.getD i undef) ds[i]

/-- What a call comes to, over pure values. -/
def PCall (Z : Sys) (f : FuncId) (ds : List D) (σ : Heap) (K : D → Heap → Prop) : Prop :=
  (∃ fn, Z.P.funcs[f]? = some fn ∧ fn.body.isNone = false ∧ (fn.name == "runtime.NumGoroutine") = false) ∧
  ∀ w s vs, s.σ = σ → VL w s vs ds → W s w → Calls Z.P f vs w fun e w' => ∃ v d s', e = .returned v ∧ V w' (Lim s') v d ∧ W s' w' ∧ Ext w s w' s' ∧ K d s'.σ

theorem PCall.mono {Z : Sys} {f : FuncId} {ds : List D} {σ : Heap} {K K' : D → Heap → Prop} (h : PCall Z f ds σ K) (hk : ∀ d τ, K d τ → K' d τ) : PCall Z f ds σ K' :=
  ⟨h.1, fun w s vs hs hv hW => (h.2 w s vs hs hv hW).mono fun e w' ⟨v, d, s', h1, h2, h3, h4, h5⟩ => ⟨v, d, s', h1, h2, h3, h4, hk _ _ h5⟩⟩

def imax (a b : Int) : Int := if a < b then b else a
def builtinR (Z : Sys) (b : Builtin) (ts : Array TypeId) (ann : Nat) (xs : List D) (g : Nat → Option AO) (nx : Nat) : Option (D × Eff) :=
  match b, xs with
  | .len, [x] => (lenD Z g ts x).map (·, .keep)
  | .cap, [x] => (capD Z ts x).map (·, .keep)
  | .append, [x, y] => if ann = 3 then appendP Z g nx ts x y else if ann = 5 then appendZ Z nx ts x y else appendR Z ann g nx ts x y
  | .copy, [x, y] => copyR Z g ts x y
  | .clear, [x] => (clearR Z g ts x).map (.tup [], ·)
  | .delete, [x, y] => (deleteE Z g ts x y).map (.tup [], ·)
  | .min, [.int k a, .int k' b] => some (.int k (if b < a then b else a), .keep)
  | .max, [.int k a, .int k' b] => some (.int k (if a < b then b else a), .keep)
  | .max, [.int k a, .int _ b, .int _ c, .int _ d] => some (.int k (imax (imax (imax a b) c) d), .keep)
  | _, _ => none

/-- An operation that is no call of a function. -/
def exec0 (Z : Sys) (op : Op) (ann : Nat) (env : Env) (g : Nat → Option AO) (nx : Nat) : Option (D × Eff) :=
  match op with
  | .move x => some (ev env x, .keep)
  | .assign x => some (ev env x, .keep)
  | .pick c a b => (match ev env c with
    | .bool t => some (if t then ev env a else ev env b, .keep)
    | _ => none)
  | .alloc e => (allocR Z e).map (.ptr nx 0, ·)
  | .box e x => (boxR e (ev env x)).map (.ptr nx 0, ·)
  | .build t ps => (aBuilt Z t (ps.toList.map fun p => (p.1, ev env p.2))).map (.agg ·, .keep)
  | .buildSlice t len ps => buildSliceR Z ann t len (ps.toList.map fun p => (p.1, ev env p.2)) nx
  | .load t x => (loadD Z g t (ev env x)).map (·, .keep)
  | .store t x y => (storeE Z g t (ev env x) (ev env y)).map (.junk, ·)
  | .nilCheck x => (match ev env x with
    | .ptr r o => some (.ptr r o, .keep)
    | .at cs => some (.at cs, .keep)
    | .func f cs => some (.func f cs, .keep)
    | .meth m t => if (Z.M t m).isSome then some (.meth m t, .keep) else none
    | _ => none)
  | .binOp op t x y _ => (binD Z op t (ev env x) (ev env y)).map (·, .keep)
  | .unOp op _ x => (unD op (ev env x)).map (·, .keep)
  | .convert s d x => (convD Z s d (ev env x)).map (·, .keep)
  | .makeInterface t x => (ifaceD Z t (ev env x)).map (·, .keep)
  | .makeFunc (.func f) first caps => if first.size = 0 then some (.func f (caps.toList.map (ev env)), .keep) else if caps.size = 0 then some (.bfunc f (first.toList.map (ev env)), .keep) else none
  | .makeFunc (.method m) first _ => (match first.toList with
    | [x] => (match ev env x with
      | .iface t _ => some (.meth m t, .keep)
      | _ => none)
    | _ => none)
  | .makeMap t none => some (.map nx, .new (.map [] 0))
  | .makeSlice t l c => makeSliceR Z ann t (ev env l) (ev env c) nx
  | .slice t x lo hi mx => if mx.isSome && hi.isNone then none else (sliceD Z g t (ev env x) (lo.map (ev env)) (hi.map (ev env)) (mx.map (ev env))).map (·, .keep)
  | .fieldAddr s x f => (fieldAddrD Z s f (ev env x)).map (·, .keep)
  | .field s x f => (fieldD Z s f (ev env x)).map (·, .keep)
  | .indexAddr t x i => (indexAddrD Z t (ev env x) (ev env i)).map (·, .keep)
  | .index t x i => (indexD Z t (ev env x) (ev env i)).map (·, .keep)
  | .lookup t m k ok => (lookupD Z g t (ev env m) (ev env k) ok).map (·, .keep)
  | .mapUpdate t m k x => (mapUpdateE Z g t (ev env m) (ev env k) (ev env x)).map (.junk, ·)
  | .insert t m k x => (mapUpdateE Z g t (ev env m) (ev env k) (ev env x)).map (.junk, ·)
  | .mapEntry t m k => mapEntryR Z g t (ev env m) (ev env k)
  | .entryStore t m st x => (entryStoreE g (ev env m) (ev env st) (ev env x)).map (.junk, ·)
  | .range t x => (rangeR Z g t (ev env x)).map (.ptr nx 0, ·)
  | .entry x => (entryD g (ev env x)).map (·, .keep)
  | .extract x i => (extractD (ev env x) i).map (·, .keep)
  | .typeAssert x _ t ok => (assertD Z t (ev env x) ok).map (·, .keep)
  | .call c => (match c.callee with
    | .builtin b => builtinR Z b c.argTypes ann (c.args.toList.map (ev env)) g nx
    | _ => none)
  | _ => none

/-- A row becomes a slice that nobody writes. -/
def freezeR (g : Nat → Option AO) (d : D) : Option (D × Eff) :=
  match d with
  | .row r off n _ z => (match g r with
    | some (.cells _ cs) => if off + n * z ≤ cs.length then some (.sl .no n ((cs.drop off).take (n * z)), .kill r) else none
    | _ => none)
  | d => some (d, .keep)
def exec (Z : Sys) (op : Op) (ann : Nat) (env : Env) (g : Nat → Option AO) (nx : Nat) : Option (D × Eff) :=
  if ann = 4 then (match exec0 Z op 0 env g nx with
    | some (d, .keep) => freezeR g d
    | _ => none)
  else exec0 Z op ann env g nx

/-- What is known of a length. -/
def lenOK (op : Op) (env : Env) : Prop := match op with
  | .call c => (match c.callee with
    | .builtin .len => (match c.args.toList with
      | [x] => lenB (ev env x)
      | _ => True)
    | _ => True)
  | _ => True

def aExec (Z : Sys) (op : Op) (ann : Nat) (env : Env) (σ : Heap) (K : D → Heap → Prop) : Prop :=
  match op with
  | .call ⟨.value f, args, _⟩ => (match ev env f with
    | .func g caps => PCall Z g (args.toList.map (ev env) ++ caps) σ K
    | .bfunc g fs => PCall Z g (fs ++ args.toList.map (ev env)) σ K
    | _ => False)
  | .call ⟨.invoke r m, args, _⟩ => (match ev env r with
    | .iface t d => (match Z.M t m with
      | some g => PCall Z g (d :: args.toList.map (ev env)) σ K
      | none => False)
    | _ => False)
  | .next x false => nextK (ev env x) σ K
  | op => (match exec Z op ann env σ.get σ.next with
    | some (d, e) => lenOK op env → K d (σ.app e)
    | none => False)

/-- A frame's slots stand for pure values. -/
def Slots (N : Nat) (env : Env) (s : GH) (a : Act) (w : World) : Prop :=
  a.defers = [] ∧ a.tmps.size = N ∧ ∀ t, V w (Lim s) (a.tmps.getD t undef) (env t)

theorem Slots.ev {N : Nat} {env : Env} {s : GH} {a : Act} {w : World} (h : Slots N env s a w) (x : Operand) : V w (Lim s) (a.eval x) (ev env x) := by
  cases x with
  | tmp t => exact h.2.2 t
  | const v => exact V_ofV w _ v
  | func f => exact .func f #[] [] rfl (fun i hi => absurd hi (by simp))
  | global g => exact .junk _

theorem Slots.put {N : Nat} {env : Env} {s s' : GH} {a : Act} {w w' : World} (h : Slots N env s a w) (he : Ext w s w' s') (dst : Option Nat) (hd : ∀ t, dst = some t → t < N) {v : Value} {d : D} (hv : V w' (Lim s') v d) :
    Slots N (updO env dst d) s' (a.put dst v) w' := by
  obtain ⟨h1, h2, h3⟩ := h
  cases dst with
  | none => exact ⟨h1, h2, fun t => (h3 t).ext he⟩
  | some t =>
    have ht := hd t rfl
    refine ⟨h1, by simp [Act.put, h2], fun i => ?_⟩
    simp only [updO, upd, Act.put]
    by_cases hi : i = t
    · subst hi
      simp only [if_pos]
      have : i < a.tmps.size := by omega
      simpa [Array.getD_eq_getD_getElem?, this] using hv
    · rw [if_neg hi]
      have := (h3 i).ext he
      simpa [Array.getD_eq_getD_getElem?, Array.getElem?_setIfInBounds_ne (Ne.symm hi)] using this

theorem Slots.ext {N : Nat} {env : Env} {s s' : GH} {a : Act} {w w' : World} (h : Slots N env s a w) (he : Ext w s w' s') : Slots N env s' a w' :=
  ⟨h.1, h.2.1, fun t => (h.2.2 t).ext he⟩

theorem VO_map {N : Nat} {env : Env} {s : GH} {a : Act} {w : World} (h : Slots N env s a w) (x : Option Operand) : VO w (Lim s) (x.map a.eval) (x.map (ev env)) := by
  cases x with
  | none => trivial
  | some x => exact h.ev x

theorem parts_ok {N : Nat} {env : Env} {s : GH} {a : Act} {w : World} (h : Slots N env s a w) (ps : List (Nat × Operand)) :
    ∀ i (hi : i < (ps.map fun p => (p.1, ev env p.2)).length), ((ps.map fun p => (p.1, a.eval p.2)).getD i (0, undef)).1 = (ps.map fun p => (p.1, ev env p.2))[i].1 ∧ V w (Lim s) ((ps.map fun p => (p.1, a.eval p.2)).getD i (0, undef)).2 (ps.map fun p => (p.1, ev env p.2))[i].2 := by
  intro i hi
  have hi' : i < ps.length := by simpa using hi
  simp only [List.getElem_map, List.getD, List.getElem?_map, List.getElem?_eq_getElem hi', Option.map_some, Option.getD_some]
  exact ⟨trivial, h.ev _⟩

theorem args_ok {N : Nat} {env : Env} {s : GH} {a : Act} {w : World} (h : Slots N env s a w) (xs : Array Operand) {vs : Array Value} {cs : List D} (hc : VL w s vs cs) : VL w s (xs.map a.eval ++ vs) (xs.toList.map (ev env) ++ cs) := by
  refine ⟨by simp [hc.1], fun i hi => ?_⟩
  rw [Array.getD_eq_getD_getElem?]
  by_cases hlt : i < xs.size
  · rw [Array.getElem?_append_left (by simpa using hlt), List.getElem_append_left (by simpa using hlt)]
    simp [hlt]
    exact h.ev _
  · have hge : xs.size ≤ i := by omega
    rw [Array.getElem?_append_right (by simpa using hge), List.getElem_append_right (by simpa using hge)]
    have := hc.2 (i - xs.size) (by simp at hi; omega)
    rw [Array.getD_eq_getD_getElem?] at this
    simpa using this

theorem VL.cons1 {w : World} {s : GH} {v : Value} {d : D} {vs : Array Value} {cs : List D} (hv : V w (Lim s) v d) (h : VL w s vs cs) : VL w s (#[v] ++ vs) (d :: cs) := by
  refine ⟨by simp [h.1]; omega, fun i hi => ?_⟩
  rw [Array.getD_eq_getD_getElem?]
  cases i with
  | zero => rw [Array.getElem?_append_left (by simp)]; exact hv
  | succ i =>
    have := h.2 i (by simpa using hi)
    rw [Array.getD_eq_getD_getElem?] at this
    rw [Array.getElem?_append_right (by simp)]
    simpa using this

theorem VL.app {w : World} {s : GH} {vs us : Array Value} {cs ds : List D} (h : VL w s vs cs) (k : VL w s us ds) : VL w s (vs ++ us) (cs ++ ds) := by
  refine ⟨by simp [h.1, k.1], fun i hi => ?_⟩
  rw [Array.getD_eq_getD_getElem?]
  by_cases hlt : i < cs.length
  · have := h.2 i hlt
    rw [Array.getD_eq_getD_getElem?] at this
    rw [Array.getElem?_append_left (by rw [h.1]; exact hlt), List.getElem_append_left hlt]
    exact this
  · have := k.2 (i - cs.length) (by simp at hi; omega)
    rw [Array.getD_eq_getD_getElem?] at this
    rw [Array.getElem?_append_right (by rw [h.1]; omega), List.getElem_append_right (by omega), h.1]
    exact this
theorem map_keep {o : Option D} {d : D} {e : Eff} (h : o.map (·, Eff.keep) = some (d, e)) : o = some d ∧ e = .keep := by
  cases o with
  | none => cases h
  | some x => simp at h; exact ⟨by rw [h.1], h.2.symm⟩
theorem map_eff {o : Option Eff} {d0 d : D} {e : Eff} (h : o.map (d0, ·) = some (d, e)) : o = some e ∧ d0 = d := by
  cases o with
  | none => cases h
  | some x => simp at h; exact ⟨by rw [h.2], h.1⟩

/-- Carried out, the operation gives a value that stands for what is told, and the heap goes on as told. -/
def Out (Z : Sys) (o : Oper) (a : Act) (w : World) (s : GH) (d : D) (e : Eff) : Prop :=
  ∀ (next : Act → World → Prop) (Q : Exit → Act → World → Prop), (∀ v w' s', s'.σ = s.σ.app e → V w' (Lim s') v d → W s' w' → Ext w s w' s' → next (a.put o.dst v) w') → o.wp Z.P a w next Q

theorem builtin_ok {Z : Sys} {o : Oper} {b : Builtin} {args : Array Operand} {ats : Array TypeId} {ann N : Nat} {env : Env} {s : GH} {a : Act} {w : World} {d : D} {e : Eff} (hS : Slots N env s a w) (hW : W s w) (ho : o.op = .call ⟨.builtin b, args, ats⟩)
    (h : builtinR Z b ats ann (args.toList.map (ev env)) s.σ.get s.σ.next = some (d, e)) : Out Z o a w s d e := by
  intro next Q hn
  obtain ⟨dst, op, type, pos, after, guard⟩ := o
  simp only at ho hn
  subst ho
  have hfin : ∀ m : Sem Value, (∀ cs, builtin b ats type cs (args.map a.eval) = (do pure (.value (← m)))) → EOK Z.P m w s d e → Oper.wp Z.P { dst, op := .call { callee := .builtin b, args, argTypes := ats }, type, pos, after, guard } a w next Q := fun m hs ⟨v, w', s', hr, h1, h2, h3, h4⟩ => by
    unfold Oper.wp
    have : execOp a.eval { dst, op := .call { callee := .builtin b, args, argTypes := ats }, type, pos, after, guard } = (do pure (.value (← m))) := by simp only [execOp, resolve, invoke, pure_bind]; exact hs _
    rw [this]
    simp [hr, Oper.upon]
    exact hn v w' s' h1 h2 h3 h4
  have m1 : ∀ y, (#[y]).map a.eval = #[a.eval y] := fun y => by simp
  have m2 : ∀ y y', (#[y, y']).map a.eval = #[a.eval y, a.eval y'] := fun y y' => by simp
  have one : ∀ x, args.toList.map (ev env) = [x] → ∃ y, args = #[y] ∧ x = ev env y := fun x hx => by
    obtain ⟨l⟩ := args
    match l, hx with
    | [y], hx => exact ⟨y, rfl, by simpa using hx.symm⟩
  have two : ∀ x x', args.toList.map (ev env) = [x, x'] → ∃ y y', args = #[y, y'] ∧ x = ev env y ∧ x' = ev env y' := fun x x' hx => by
    obtain ⟨l⟩ := args
    match l, hx with
    | [y, y'], hx => simp at hx; exact ⟨y, y', rfl, hx.1.symm, hx.2.symm⟩
  have m4 : ∀ y y' y2 y3, (#[y, y', y2, y3]).map a.eval = #[a.eval y, a.eval y', a.eval y2, a.eval y3] := fun y y' y2 y3 => by simp
  have four : ∀ x x' x2 x3, args.toList.map (ev env) = [x, x', x2, x3] → ∃ y y' y2 y3, args = #[y, y', y2, y3] ∧ x = ev env y ∧ x' = ev env y' ∧ x2 = ev env y2 ∧ x3 = ev env y3 := fun x x' x2 x3 hx => by
    obtain ⟨l⟩ := args
    match l, hx with
    | [y, y', y2, y3], hx => simp at hx; exact ⟨y, y', y2, y3, rfl, hx.1.symm, hx.2.1.symm, hx.2.2.1.symm, hx.2.2.2.symm⟩
  unfold builtinR at h
  split at h
  · rename_i x hx
    obtain ⟨y, rfl, rfl⟩ := one _ hx
    obtain ⟨hq, rfl⟩ := map_keep h
    obtain ⟨v, hr, hv⟩ := lenD_ok (ty := type) hW (hS.ev y) hq
    exact hfin _ (fun cs => by rw [m1]; rfl) (EOK.pure hW hr hv)
  · rename_i x hx
    obtain ⟨y, rfl, rfl⟩ := one _ hx
    obtain ⟨hq, rfl⟩ := map_keep h
    obtain ⟨v, hr, hv⟩ := capD_ok (ty := type) (hS.ev y) hq
    exact hfin _ (fun cs => by rw [m1]; rfl) (EOK.pure hW hr hv)
  · rename_i x x' hx
    obtain ⟨y, y', rfl, rfl, rfl⟩ := two _ _ hx
    split at h
    · exact hfin _ (fun cs => by rw [m2]; rfl) (appendP_ok (ty := type) hW (hS.ev y) (hS.ev y') h)
    · split at h
      · exact hfin _ (fun cs => by rw [m2]; rfl) (appendZ_ok (ty := type) hW (hS.ev y) (hS.ev y') h)
      · exact hfin _ (fun cs => by rw [m2]; rfl) (appendR_ok (ty := type) hW (hS.ev y) (hS.ev y') h)
  · rename_i x x' hx
    obtain ⟨y, y', rfl, rfl, rfl⟩ := two _ _ hx
    exact hfin _ (fun cs => by rw [m2]; rfl) (copyR_ok (ty := type) hW (hS.ev y) (hS.ev y') h)
  · rename_i x hx
    obtain ⟨y, rfl, rfl⟩ := one _ hx
    obtain ⟨hq, rfl⟩ := map_eff h
    exact hfin _ (fun cs => by rw [m1]; rfl) (clearR_ok (ty := type) hW (hS.ev y) hq)
  · rename_i x x' hx
    obtain ⟨y, y', rfl, rfl, rfl⟩ := two _ _ hx
    obtain ⟨hq, rfl⟩ := map_eff h
    exact hfin _ (fun cs => by rw [m2]; rfl) (deleteE_ok (ty := type) hW (hS.ev y) (hS.ev y') hq)
  · rename_i k p k' q hx
    obtain ⟨y, y', rfl, e1, e2⟩ := two _ _ hx
    cases h
    have h1 := hS.ev y
    have h2 := hS.ev y'
    rw [← e1] at h1
    rw [← e2] at h2
    generalize hv1 : a.eval y = v1 at h1
    generalize hv2 : a.eval y' = v2 at h2
    cases h1; cases h2
    exact hfin (Builtin.min_ ats type #[.int k p, .int k' q]) (fun cs => by rw [m2, hv1, hv2]; rfl) (EOK.pure hW (v := .int k (if q < p then q else p)) (by simp [Builtin.min_, Builtin.min2]) (.int _ _))
  · rename_i k p k' q hx
    obtain ⟨y, y', rfl, e1, e2⟩ := two _ _ hx
    cases h
    have h1 := hS.ev y
    have h2 := hS.ev y'
    rw [← e1] at h1
    rw [← e2] at h2
    generalize hv1 : a.eval y = v1 at h1
    generalize hv2 : a.eval y' = v2 at h2
    cases h1; cases h2
    exact hfin (Builtin.max_ ats type #[.int k p, .int k' q]) (fun cs => by rw [m2, hv1, hv2]; rfl) (EOK.pure hW (v := .int k (if p < q then q else p)) (by simp [Builtin.max_, Builtin.max2]) (.int _ _))
  · rename_i k p k1 q k2 r k3 t hx
    obtain ⟨y, y', y2, y3, rfl, e1, e2, e3, e4⟩ := four _ _ _ _ hx
    cases h
    have h1 := hS.ev y
    have h2 := hS.ev y'
    have h3 := hS.ev y2
    have h4 := hS.ev y3
    rw [← e1] at h1
    rw [← e2] at h2
    rw [← e3] at h3
    rw [← e4] at h4
    generalize hv1 : a.eval y = v1 at h1
    generalize hv2 : a.eval y' = v2 at h2
    generalize hv3 : a.eval y2 = v3 at h3
    generalize hv4 : a.eval y3 = v4 at h4
    cases h1; cases h2; cases h3; cases h4
    exact hfin (Builtin.max_ ats type #[.int k p, .int k1 q, .int k2 r, .int k3 t]) (fun cs => by rw [m4, hv1, hv2, hv3, hv4]; rfl) (EOK.pure hW (v := .int k (imax (imax (imax p q) r) t)) (by simp [Builtin.max_, Builtin.max2]; rfl) (.int _ _))
  · cases h

theorem exec0_ok {Z : Sys} {o : Oper} {ann N : Nat} {env : Env} {s : GH} {a : Act} {w : World} {d : D} {e : Eff} (hS : Slots N env s a w) (hW : W s w)
    (h : exec0 Z o.op ann env s.σ.get s.σ.next = some (d, e)) : Out Z o a w s d e := by
  by_cases hcb : ∃ b args ats, o.op = .call ⟨.builtin b, args, ats⟩
  · obtain ⟨b, args, ats, ho⟩ := hcb
    rw [ho] at h
    exact builtin_ok hS hW ho h
  intro next Q hn
  have fin : ∀ m : Sem Value, (execOp a.eval o = do pure (.value (← m))) → EOK Z.P m w s d e → o.wp Z.P a w next Q := fun m hs ⟨v, w', s', hr, h1, h2, h3, h4⟩ => by
    unfold Oper.wp
    rw [hs]
    simp [hr, Oper.upon]
    exact hn v w' s' h1 h2 h3 h4
  have finP : ∀ m : Sem Value, (execOp a.eval o = do pure (.value (← m))) → (∃ v, m.run Z.P w = .ok v w ∧ V w (Lim s) v d) ∧ e = .keep → o.wp Z.P a w next Q := fun m hs ⟨⟨v, hr, hv⟩, he⟩ => by
    subst he; exact fin m hs (EOK.pure hW hr hv)
  have finU : ∀ m : Sem Unit, (execOp a.eval o = do m; pure .skip) → UOK Z.P m w s e ∧ .junk = d → o.wp Z.P a w next Q := fun m hs ⟨⟨w', s', hr, h1, h3, h4⟩, hd⟩ => by
    subst hd
    unfold Oper.wp
    rw [hs]
    simp [hr, Oper.upon]
    exact hn undef w' s' h1 (.junk _) h3 h4
  have fin1 : ∀ v, (execOp a.eval o = pure (.value v)) → V w (Lim s) v d → e = .keep → o.wp Z.P a w next Q := fun v hs hv he => by
    subst he
    unfold Oper.wp
    rw [hs]
    simp [Oper.upon]
    exact hn v w s rfl hv hW (Ext.refl hW)
  obtain ⟨dst, op, type, pos, after, guard⟩ := o
  simp only at h hn fin fin1 finP finU hcb
  cases op <;> simp only [exec0] at h
  case move x => cases h; exact fin1 _ (by simp [execOp]) (hS.ev x) rfl
  case assign x => cases h; exact fin1 _ (by simp [execOp]) (hS.ev x) rfl
  case pick c x y =>
    split at h
    · rename_i t ht
      cases h
      have hc := hS.ev c
      rw [ht] at hc
      generalize hcv : a.eval c = cv at hc
      cases hc
      refine fin1 (if t then a.eval x else a.eval y) (by simp [execOp, hcv, asBool]) ?_ rfl
      cases t
      · exact hS.ev y
      · exact hS.ev x
    · cases h
  case alloc t => obtain ⟨hq, rfl⟩ := map_eff h; exact fin _ (by simp [execOp]) (allocR_ok hW hq)
  case box t x => obtain ⟨hq, rfl⟩ := map_eff h; exact fin _ (by simp [execOp]) (boxR_ok hW (hS.ev x) hq)
  case build t ps =>
    cases hb : aBuilt Z t (ps.toList.map fun p => (p.1, ev env p.2)) with
    | none => rw [hb] at h; cases h
    | some cs =>
      rw [hb] at h
      cases h
      refine finP _ (by simp only [execOp]) (?_ : (∃ v, (Instr.build t (ps.map fun (i, x) => (i, a.eval x))).run Z.P w = .ok v w ∧ V w (Lim s) v (.agg cs)) ∧ _)
      have := aBuilt_ok (ps := ps.toList.map fun p => (p.1, a.eval p.2)) (by simp) (parts_ok hS ps.toList) hb
      have e1 : (ps.toList.map fun p => (p.1, a.eval p.2)).toArray = ps.map fun (i, x) => (i, a.eval x) := by apply Array.ext'; simp
      rw [e1] at this
      exact ⟨this, rfl⟩
  case buildSlice t len ps =>
    refine fin _ (by simp only [execOp]) (?_ : EOK Z.P (Instr.buildSlice t len (ps.map fun (i, x) => (i, a.eval x))) w s d e)
    have := buildSliceR_ok (ps := ps.toList.map fun p => (p.1, a.eval p.2)) hW (by simp) (parts_ok hS ps.toList) h
    have e1 : (ps.toList.map fun p => (p.1, a.eval p.2)).toArray = ps.map fun (i, x) => (i, a.eval x) := by apply Array.ext'; simp
    rwa [e1] at this
  case load t x => obtain ⟨h, he⟩ := map_keep h; exact finP _ (by simp [execOp]) ⟨loadD_ok hW (hS.ev x) h, he⟩
  case store t x y => obtain ⟨h, he⟩ := map_eff h; exact finU _ (by simp [execOp]) ⟨storeE_ok hW (hS.ev x) (hS.ev y) h, he⟩
  case nilCheck x =>
    have hx := hS.ev x
    split at h
    · rename_i r off he
      cases h
      rw [he] at hx
      generalize hcv : a.eval x = cv at hx
      cases hx with
      | ptr _ _ hlt => exact fin1 _ (by simp [execOp, hcv]) (.ptr _ _ hlt) rfl
    · rename_i cs he
      cases h
      rw [he] at hx
      generalize hcv : a.eval x = cv at hx
      cases hx with
      | «at» ad _ us h1 hc hv => exact fin1 _ (by simp [execOp, hcv]) (.at ad cs us h1 hc hv) rfl
    · rename_i f cs he
      cases h
      rw [he] at hx
      generalize hcv : a.eval x = cv at hx
      cases hx with
      | func _ vs _ hl hv => exact fin1 _ (by simp [execOp, hcv]) (.func f vs cs hl hv) rfl
    · rename_i m t he
      split at h
      · rename_i hM
        cases h
        rw [he] at hx
        generalize hcv : a.eval x = cv at hx
        obtain ⟨g, hg⟩ := Option.isSome_iff_exists.1 hM
        cases hx with
        | meth _ _ v vs =>
          have hnil := (Z.mok t m g hg v w).2
          have hr : ∀ dst type pos after guard, (execOp a.eval { dst, op := .nilCheck x, type, pos, after, guard }).run Z.P w = .ok (.value (.func (.method m) #[.iface t v] vs)) w := fun _ _ _ _ _ => by
            simp [execOp, hcv, hnil]
          unfold Oper.wp
          rw [hr]
          simp only [Oper.upon]
          exact hn _ w s rfl (.meth m t v vs) hW (Ext.refl hW)
      · cases h
    · cases h
  case binOp bop t x y yt => obtain ⟨h, he⟩ := map_keep h; exact finP _ (by simp only [execOp]) ⟨binD_ok (ox := x) (oy := y) (hS.ev x) (hS.ev y) h, he⟩
  case unOp uop t x => obtain ⟨h, he⟩ := map_keep h; exact finP _ (by simp only [execOp]) ⟨unD_ok (hS.ev x) h, he⟩
  case convert t1 t2 x => obtain ⟨h1, he⟩ := map_keep h; subst he; exact fin (convert t1 t2 (a.eval x)) (by simp [execOp]) (convD_ok hW (hS.ev x) h1)
  case makeInterface t x => obtain ⟨h, he⟩ := map_keep h; exact finP _ (by simp [execOp]) ⟨ifaceD_ok (hS.ev x) h, he⟩
  case makeFunc fn first caps =>
    cases fn with
    | func f =>
      simp only at h
      split at h
      · rename_i h0
        cases h
        have : first = #[] := Array.eq_empty_of_size_eq_zero h0
        subst this
        refine fin1 (.func (.func f) #[] (caps.map a.eval)) (by simp [execOp, Instr.makeFunc]) (.func f _ _ (by simp) fun i hi => ?_) rfl
        have hi' : i < caps.size := by simpa using hi
        simp [Array.getD_eq_getD_getElem?, hi']
        exact hS.ev _
      · split at h
        · rename_i h0
          cases h
          have : caps = #[] := Array.eq_empty_of_size_eq_zero h0
          subst this
          refine fin1 (.func (.func f) (first.map a.eval) #[]) (by simp [execOp, Instr.makeFunc]) (.bfunc f _ _ (by simp) fun i hi => ?_) rfl
          have hi' : i < first.size := by simpa using hi
          simp [Array.getD_eq_getD_getElem?, hi']
          exact hS.ev _
        · cases h
    | method m =>
      simp only at h
      split at h
      · rename_i y hy
        split at h
        · rename_i t d0 hyd
          cases h
          have he : first = #[y] := by apply Array.ext'; rw [hy]
          subst he
          have hyv := hS.ev y
          rw [hyd] at hyv
          generalize hcv : a.eval y = cv at hyv
          cases hyv with
          | iface _ v _ _ => exact fin1 (.func (.method m) #[.iface t v] (caps.map a.eval)) (by simp [execOp, Instr.makeFunc, hcv]) (.meth m t v _) rfl
        · cases h
      · cases h
    | _ => cases h
  case makeMap t r =>
    cases r with
    | none => cases h; exact fin _ (by simp [execOp]; rfl) (makeMap_ok hW _ rfl)
    | some r => cases h
  case makeSlice t l c => exact fin _ (by simp [execOp]) (makeSliceR_ok hW (hS.ev l) (hS.ev c) h)
  case slice t x lo hi mx =>
    split at h
    · cases h
    · rename_i hmh
      obtain ⟨h, he⟩ := map_keep h
      refine finP _ (by simp [execOp]) ⟨sliceD_ok hW (hS.ev x) (VO_map hS lo) (VO_map hS hi) (VO_map hS mx) ?_ h, he⟩
      cases mx <;> cases hi <;> simp at hmh ⊢
  case fieldAddr t x f => obtain ⟨h, he⟩ := map_keep h; exact finP _ (by simp [execOp]) ⟨fieldAddrD_ok (hS.ev x) h, he⟩
  case field t x f => obtain ⟨h, he⟩ := map_keep h; exact finP _ (by simp [execOp]) ⟨fieldD_ok (hS.ev x) h, he⟩
  case indexAddr t x i => obtain ⟨h, he⟩ := map_keep h; exact finP _ (by simp [execOp]) ⟨indexAddrD_ok (hS.ev x) (hS.ev i) h, he⟩
  case index t x i => obtain ⟨h, he⟩ := map_keep h; exact finP _ (by simp [execOp]) ⟨indexD_ok (hS.ev x) (hS.ev i) h, he⟩
  case lookup t m k ok => obtain ⟨h, he⟩ := map_keep h; exact finP _ (by simp [execOp]) ⟨lookupD_ok hW (hS.ev m) (hS.ev k) h, he⟩
  case mapUpdate t m k x => obtain ⟨h, he⟩ := map_eff h; exact finU _ (by simp [execOp]) ⟨mapUpdateE_ok hW (hS.ev m) (hS.ev k) (hS.ev x) h, he⟩
  case insert t m k x => obtain ⟨h, he⟩ := map_eff h; exact finU _ (by simp [execOp]) ⟨mapUpdateE_ok hW (hS.ev m) (hS.ev k) (hS.ev x) h, he⟩
  case mapEntry t m k => exact fin _ (by simp [execOp]) (mapEntryR_ok hW (hS.ev m) (hS.ev k) h)
  case entryStore t m st x => obtain ⟨h, he⟩ := map_eff h; exact finU _ (by simp [execOp]) ⟨entryStoreE_ok (t := t) hW (hS.ev m) (hS.ev st) (hS.ev x) h, he⟩
  case range t x => obtain ⟨h, he⟩ := map_eff h; exact fin _ (by simp [execOp]) (he ▸ rangeR_ok hW (hS.ev x) h)
  case entry x => obtain ⟨h, he⟩ := map_keep h; exact finP _ (by simp [execOp]) ⟨entry_ok hW (hS.ev x) h, he⟩
  case extract x i => obtain ⟨h, he⟩ := map_keep h; exact finP _ (by simp [execOp]) ⟨extractD_ok (hS.ev x) h, he⟩
  case typeAssert x xt t ok => obtain ⟨h, he⟩ := map_keep h; exact finP (Instr.typeAssert (a.eval x) xt t ok) (by simp [execOp]) ⟨assertD_ok (hS.ev x) h, he⟩
  case call c =>
    obtain ⟨callee, args, ats⟩ := c
    cases callee with
    | builtin b => exact absurd ⟨b, args, ats, rfl⟩ hcb
    | value f => cases h
    | invoke r m => cases h
  all_goals cases h

theorem freeze_ok {w : World} {s : GH} (hW : W s w) {v : Value} {d0 d : D} {e : Eff} (hv : V w (Lim s) v d0) (h : freezeR s.σ.get d0 = some (d, e)) :
    ∃ s', s'.σ = s.σ.app e ∧ V w (Lim s') v d ∧ W s' w ∧ Ext w s w s' := by
  unfold freezeR at h
  split at h
  · rename_i r off n c z
    split at h
    · rename_i e' cs hr
      split at h
      · rename_i hfit
        cases h
        have hle : HLe (s.σ.del r) s.σ := HLe.del s.σ r
        have hE : Ext w s w (s.del r) := (Ext.refl hW).less hle (Nat.le_refl _)
        have hW' : W (s.del r) w := hW.less hle ⟨fun q o hq => hW.lt q o (hle.get q o hq), fun q o hq => hW.closed.ok q o (hle.get q o hq)⟩
        refine ⟨s.del r, rfl, ?_, hW', hE⟩
        cases hv with
        | row _ _ _ _ _ a c' hlt hn hb hf ha =>
        rw [Lim_ρ] at ha
        have hc' : 0 < n * z → 0 < c' := fun hp => by
          have : 0 < n := Nat.pos_of_mul_pos_right hp
          omega
        obtain ⟨us, h1, h2, h3⟩ := row_cells (n := n) (c' := c') hW hr ha hfit hc'
        have hfree : Free (s.del r) (s.ρ r).blk := fun q x hq he => by
          simp only [GH.del, Heap.del_get] at hq
          split at hq
          · cases hq
          · rename_i hqr; exact hW.inj' hr hq hqr he
        refine .sl .no n c' (some a) _ us hn hb (fun hA => by cases hA) h1 (fun i hi => ?_) (fun i hi => (h3 i hi).ext hE)
        obtain ⟨a', ha', hc⟩ := h2 i hi
        refine ⟨a', ha', hc, ?_⟩
        have hlen : ((cs.drop off).take (n * z)).length = n * z := by simp; omega
        have haa := ha (hc' (by omega))
        cases ha'
        have hb' : a.block = (s.ρ r).blk := by rw [haa]
        rw [hb']
        exact hfree.ok _
      · cases h
    · cases h
  · cases h
    exact ⟨s, rfl, hv, hW, Ext.refl hW⟩

theorem exec_ok {Z : Sys} {o : Oper} {ann N : Nat} {env : Env} {s : GH} {a : Act} {w : World} {d : D} {e : Eff} (hS : Slots N env s a w) (hW : W s w)
    (h : exec Z o.op ann env s.σ.get s.σ.next = some (d, e)) : Out Z o a w s d e := by
  unfold exec at h
  split at h
  · split at h
    · rename_i d0 h0
      intro next Q hn
      refine exec0_ok hS hW h0 next Q fun v w' s' h1 h2 h3 h4 => ?_
      have hσ : s'.σ = s.σ := h1
      obtain ⟨s2, q1, q2, q3, q4⟩ := freeze_ok h3 h2 (by rw [hσ]; exact h)
      exact hn v w' s2 (by rw [q1, hσ]) q2 q3 (h4.trans q4)
    · cases h
  · exact exec0_ok hS hW h

theorem lenOK_ok {N : Nat} {env : Env} {s : GH} {a : Act} {w : World} (hS : Slots N env s a w) (op : Op) : lenOK op env := by
  unfold lenOK
  split
  · split
    · split
      · exact (hS.ev _).lenB
      · trivial
    · trivial
  · trivial

theorem aExec_ok {Z : Sys} {o : Oper} {ann N : Nat} {env : Env} {s : GH} {a : Act} {w : World} {K : D → Heap → Prop} {next : Act → World → Prop} {Q : Exit → Act → World → Prop} (hS : Slots N env s a w) (hW : W s w)
    (h : aExec Z o.op ann env s.σ K) (hn : ∀ v d s' w', V w' (Lim s') v d → W s' w' → Ext w s w' s' → K d s'.σ → next (a.put o.dst v) w') : o.wp Z.P a w next Q := by
  unfold aExec at h
  split at h
  · rename_i f args ats hop
    obtain ⟨dst, op, type, pos, after, guard⟩ := o
    simp only at hop hn
    subst hop
    have hf := hS.ev f
    split at h
    · rename_i g caps hg
      rw [hg] at hf
      generalize hfv : a.eval f = fv at hf
      cases hf with
      | func _ vs _ hl hv =>
        obtain ⟨⟨fn, hfn, hb, hname⟩, hc⟩ := h
        have hargs := args_ok hS args (vs := vs) (cs := caps) ⟨hl, hv⟩
        have hrun : (execOp a.eval { dst, op := .call { callee := .value f, args, argTypes := ats }, type, pos, after, guard }).run Z.P w = .ok (.enter g (args.map a.eval ++ vs)) w := by
          have hname' : fn.name ≠ "runtime.NumGoroutine" := by simpa using hname
          have hb' : fn.body ≠ none := fun hn0 => by rw [hn0] at hb; cases hb
          simp [execOp, resolve, Deferred.ofValue, hfv, invoke, callFunc, hfn, hname', hb']
        unfold Oper.wp
        rw [hrun]
        simp only [Oper.upon]
        refine (hc w s _ rfl hargs hW).mono fun e w' ⟨v, d, s', he, h1, h2, h3, h4⟩ => ?_
        subst he
        exact hn v d s' w' h1 h2 h3 h4
    · rename_i g fs hg
      rw [hg] at hf
      generalize hfv : a.eval f = fv at hf
      cases hf with
      | bfunc _ vs _ hl hv =>
        obtain ⟨⟨fn, hfn, hb, hname⟩, hc⟩ := h
        have hargs0 := args_ok hS args (vs := #[]) (cs := []) ⟨rfl, fun i hi => absurd hi (by simp)⟩
        simp only [Array.append_empty, List.append_nil] at hargs0
        have hargs : VL w s (vs ++ args.map a.eval) (fs ++ args.toList.map (ev env)) := VL.app ⟨hl, hv⟩ hargs0
        have hrun : (execOp a.eval { dst, op := .call { callee := .value f, args, argTypes := ats }, type, pos, after, guard }).run Z.P w = .ok (.enter g (vs ++ args.map a.eval)) w := by
          have hname' : fn.name ≠ "runtime.NumGoroutine" := by simpa using hname
          have hb' : fn.body ≠ none := fun hn0 => by rw [hn0] at hb; cases hb
          simp [execOp, resolve, Deferred.ofValue, hfv, invoke, callFunc, hfn, hname', hb']
        unfold Oper.wp
        rw [hrun]
        simp only [Oper.upon]
        refine (hc w s _ rfl hargs hW).mono fun e w' ⟨v, d, s', he, h1, h2, h3, h4⟩ => ?_
        subst he
        exact hn v d s' w' h1 h2 h3 h4
    · exact h.elim
  · rename_i r m args ats hop
    obtain ⟨dst, op, type, pos, after, guard⟩ := o
    simp only at hop hn
    subst hop
    have hf := hS.ev r
    split at h
    · rename_i t d0 hg
      rw [hg] at hf
      generalize hfv : a.eval r = fv at hf
      cases hf with
      | iface _ v0 _ hv0 =>
        split at h
        · rename_i g hM
          obtain ⟨⟨fn, hfn, hb, hname⟩, hc⟩ := h
          have hargs0 := args_ok hS args (vs := #[]) (cs := []) ⟨rfl, fun i hi => absurd hi (by simp)⟩
          have hargs : VL w s (#[v0] ++ args.map a.eval) (d0 :: args.toList.map (ev env)) := by
            simp only [Array.append_empty, List.append_nil] at hargs0
            exact VL.cons1 hv0 hargs0
          have hrun : (execOp a.eval { dst, op := .call { callee := .invoke r m, args, argTypes := ats }, type, pos, after, guard }).run Z.P w = .ok (.enter g (#[v0] ++ args.map a.eval)) w := by
            have hname' : fn.name ≠ "runtime.NumGoroutine" := by simpa using hname
            have hb' : fn.body ≠ none := fun hn0 => by rw [hn0] at hb; cases hb
            have hext : (#[Value.iface t v0] ++ args.map a.eval).extract 1 (#[Value.iface t v0] ++ args.map a.eval).size = args.map a.eval := by
              apply Array.ext'
              simp
              exact List.take_of_length_le (by simp)
            have hme := (Z.mok t m g hM v0 w).1
            simp only [execOp, resolve, hfv, invoke, callMethod, pure_bind, Array.getElem?_append_left, hext, List.size_toArray, List.length_cons, List.length_nil, Nat.zero_add, Nat.lt_add_one]
            simp [hext, hme, callFunc, hfn, hname', hb']
          unfold Oper.wp
          rw [hrun]
          simp only [Oper.upon]
          refine (hc w s _ rfl hargs hW).mono fun e w' ⟨v, d, s', he, h1, h2, h3, h4⟩ => ?_
          subst he
          exact hn v d s' w' h1 h2 h3 h4
        · exact h.elim
    · exact h.elim
  · rename_i x hop
    obtain ⟨dst, op, type, pos, after, guard⟩ := o
    simp only at hop hn
    subst hop
    obtain ⟨v, w', s', d, hr, h1, h2, h3, h4⟩ := next_ok (Z := Z) (ty := type) hW (hS.ev x) h
    unfold Oper.wp
    simp only [execOp, Sem.run_bind, hr, Result.andThen_ok, Sem.run_pure, Oper.upon]
    exact hn v d s' w' h1 h2 h3 h4
  · split at h
    · rename_i d e he
      exact exec_ok hS hW he next Q fun v w' s' h1 h2 h3 h4 => hn v d s' w' h2 h3 h4 (by rw [h1]; exact h (lenOK_ok hS _))
    · exact h.elim

theorem aExec_mono {Z : Sys} {op : Op} {ann : Nat} {env : Env} {σ : Heap} {K K' : D → Heap → Prop} (hk : ∀ d τ, K d τ → K' d τ) (h : aExec Z op ann env σ K) : aExec Z op ann env σ K' := by
  unfold aExec at h ⊢
  split at h
  · split at h
    · exact h.mono hk
    · exact h.mono hk
    · exact h.elim
  · split at h
    · split at h
      · exact h.mono hk
      · exact h.elim
    · exact h.elim
  · exact nextK_mono hk h
  · split at h
    · exact fun hl => hk _ _ (h hl)
    · exact h.elim

/-- What is asked of the operands alone. -/
theorem exec0_congr {Z : Sys} {op : Op} {ann : Nat} {env env' : Env} {g : Nat → Option AO} {nx : Nat} (h : ∀ x ∈ op.operands, ev env x = ev env' x) : exec0 Z op ann env g nx = exec0 Z op ann env' g nx := by
  have pairs : ∀ ps : Array (Nat × Operand), (∀ x ∈ (ps.toList.map (·.2)).toArray, ev env x = ev env' x) → (ps.toList.map fun p => (p.1, ev env p.2)) = (ps.toList.map fun p => (p.1, ev env' p.2)) := fun ps hp => by
    apply List.map_congr_left
    intro p hm
    have := hp p.2 (by simp only [List.mem_toArray, List.mem_map]; exact ⟨p, hm, rfl⟩)
    simp only [this]
  cases op <;> simp only [Op.operands] at h <;> simp only [exec0]
  case move x => rw [h x (by simp)]
  case assign x => rw [h x (by simp)]
  case pick c a b => rw [h c (by simp), h a (by simp), h b (by simp)]
  case box e x => rw [h x (by simp)]
  case build t ps => rw [pairs ps h]
  case buildSlice t len ps => rw [pairs ps h]
  case load t x => rw [h x (by simp)]
  case store t x y => rw [h x (by simp), h y (by simp)]
  case nilCheck x => rw [h x (by simp)]
  case binOp bop t x y yt => rw [h x (by simp), h y (by simp)]
  case unOp uop t x => rw [h x (by simp)]
  case convert s d x => rw [h x (by simp)]
  case makeInterface t x => rw [h x (by simp)]
  case makeFunc fn first caps =>
    have : caps.toList.map (ev env) = caps.toList.map (ev env') := List.map_congr_left fun x hm => h x (by simp [Array.mem_toList_iff.1 hm])
    cases fn with
    | func f =>
      have h1 : first.toList.map (ev env) = first.toList.map (ev env') := List.map_congr_left fun x hm => h x (by simp [Array.mem_toList_iff.1 hm])
      simp only [exec0]; rw [this, h1]
    | method m =>
      simp only
      split
      · rename_i y hy
        rw [h y (by
          have : y ∈ first.toList := by rw [hy]; exact List.mem_cons_self ..
          simp [Array.mem_toList_iff.1 this])]
      · rfl
    | _ => rfl
  case makeMap t r => cases r <;> rfl
  case makeSlice t l c => rw [h l (by simp), h c (by simp)]
  case slice t x lo hi mx =>
    have e0 := h x (by simp)
    have e1 : lo.map (ev env) = lo.map (ev env') := by cases lo with
      | none => rfl
      | some y => simp; exact h y (by simp)
    have e2 : hi.map (ev env) = hi.map (ev env') := by cases hi with
      | none => rfl
      | some y => simp; exact h y (by simp)
    have e3 : mx.map (ev env) = mx.map (ev env') := by cases mx with
      | none => rfl
      | some y => simp; exact h y (by simp)
    rw [e0, e1, e2, e3]
  case fieldAddr s x f => rw [h x (by simp)]
  case field s x f => rw [h x (by simp)]
  case indexAddr t x i => rw [h x (by simp), h i (by simp)]
  case index t x i => rw [h x (by simp), h i (by simp)]
  case lookup t m k ok => rw [h m (by simp), h k (by simp)]
  case mapUpdate t m k x => rw [h m (by simp), h k (by simp), h x (by simp)]
  case insert t m k x => rw [h m (by simp), h k (by simp), h x (by simp)]
  case mapEntry t m k => rw [h m (by simp), h k (by simp)]
  case entryStore t m st x => rw [h m (by simp), h st (by simp), h x (by simp)]
  case range t x => rw [h x (by simp)]
  case entry x => rw [h x (by simp)]
  case extract x i => rw [h x (by simp)]
  case typeAssert x xt t ok => rw [h x (by simp)]
  case call c =>
    obtain ⟨callee, args, ats⟩ := c
    have ha : args.toList.map (ev env) = args.toList.map (ev env') := List.map_congr_left fun x hm => h x (by simp [Call.operands, Array.mem_toList_iff.1 hm])
    cases callee with
    | builtin b => rw [ha]
    | value f => rfl
    | invoke r m => rfl

theorem lenOK_congr {op : Op} {env env' : Env} (h : ∀ x ∈ op.operands, ev env x = ev env' x) (hl : lenOK op env') : lenOK op env := by
  cases op with
  | call c =>
    obtain ⟨callee, args, ats⟩ := c
    cases callee with
    | builtin b =>
      cases b with
      | len =>
        obtain ⟨l⟩ := args
        cases l with
        | nil => trivial
        | cons x l =>
          cases l with
          | nil =>
            have hx := h x (by simp [Op.operands, Call.operands])
            simp only [lenOK] at hl ⊢
            rw [hx]; exact hl
          | cons y l => trivial
      | _ => trivial
    | _ => trivial
  | _ => trivial

theorem aExec_congr {Z : Sys} {op : Op} {ann : Nat} {env env' : Env} {σ : Heap} {K : D → Heap → Prop} (h : ∀ x ∈ op.operands, ev env x = ev env' x) (hx : aExec Z op ann env σ K) : aExec Z op ann env' σ K := by
  unfold aExec at hx ⊢
  split at hx
  · rename_i f args ats
    have ha : args.toList.map (ev env) = args.toList.map (ev env') := List.map_congr_left fun x hm => h x (by simp [Op.operands, Call.operands, Array.mem_toList_iff.1 hm])
    have hf := h f (by simp [Op.operands, Call.operands])
    rw [← ha, ← hf]; exact hx
  · rename_i r m args ats
    have ha : args.toList.map (ev env) = args.toList.map (ev env') := List.map_congr_left fun x hm => h x (by simp [Op.operands, Call.operands, Array.mem_toList_iff.1 hm])
    have hf := h r (by simp [Op.operands, Call.operands])
    rw [← ha, ← hf]; exact hx
  · rename_i x
    rw [← h x (by simp [Op.operands])]; exact hx
  · rename_i hne
    have he : exec Z op ann env' σ.get σ.next = exec Z op ann env σ.get σ.next := by
      unfold exec
      rw [exec0_congr h, exec0_congr h]
    rw [he]
    split at hx
    · exact fun hl => hx (lenOK_congr h hl)
    · exact hx.elim
end Go.Proofs.YthchlpikcpidaaaDoor.Vs
