/- The engine 'Dm', part 11: the equations by which code is carried out over pure values. -/
import Derived.Test.YthchlpikcpidaaaDoorDmDen
namespace Go.Proofs.YthchlpikcpidaaaDoor.Vs
open Go.RowKit
set_option linter.unusedVariables false
set_option linter.unusedSimpArgs false
/-- A word that keeps simp out of what comes later. -/
inductive Keep {α : Type} (a : α) : Type where
  | mk
def kVal (d : D) (σ : Heap) (K : D → Heap → Prop) (_ : Keep K) : Prop := K d σ
def kD (r : Option D) (σ : Heap) (K : D → Heap → Prop) (_ : Keep K) : Prop := match r with | some d => K d σ | none => False
def kR (r : Option (D × Eff)) (σ : Heap) (K : D → Heap → Prop) (_ : Keep K) : Prop := match r with | some (d, e) => K d (σ.app e) | none => False
def kE (r : Option Eff) (d : D) (σ : Heap) (K : D → Heap → Prop) (_ : Keep K) : Prop := match r with | some e => K d (σ.app e) | none => False
def kLen (r : Option D) (x : D) (σ : Heap) (K : D → Heap → Prop) (_ : Keep K) : Prop := match r with | some d => lenB x → K d σ | none => False
def kCall (Z : Sys) (f : FuncId) (ds : List D) (σ : Heap) (K : D → Heap → Prop) (_ : Keep K) : Prop := PCall Z f ds σ K
def kLoop (Z : Sys) (a : LCode) (Q : Ex → Env → Heap → Prop) (env : Env) (σ : Heap) (_ : Keep (a, Q, env, σ)) : Prop := pwp Z (.loop a) Q env σ
def kDraw (Z : Sys) (l : List LOp) (s : Bool) (ts pl : List Nat) (Q : Ex → Env → Heap → Prop) (env : Env) (σ : Heap) (_ : Keep (l, s, ts, pl, Q, env, σ)) : Prop := pwp Z (.draw l s ts pl) Q env σ
def kNext (x : D) (σ : Heap) (K : D → Heap → Prop) (_ : Keep K) : Prop := nextK x σ K
theorem PCall.use {Z : Sys} {f : FuncId} {ds : List D} {σ : Heap} {K K' : D → Heap → Prop} {h : Keep K'} (c : PCall Z f ds σ K) (hk : ∀ d τ, K d τ → K' d τ) : kCall Z f ds σ K' h := c.mono hk

section
variable {Z : Sys} {Q : Ex → Env → Heap → Prop} {env : Env} {σ : Heap} {K : D → Heap → Prop}
theorem kVal_go {d : D} {h : Keep K} : kVal d σ K h = K d σ := (rfl)
theorem kD_some {d : D} {h : Keep K} : kD (some d) σ K h = K d σ := (rfl)
theorem kD_none {h : Keep K} : kD none σ K h = False := (rfl)
theorem kD_ite {c : Prop} [Decidable c] {d : D} {h : Keep K} : kD (if c then some d else none) σ K h = (c ∧ kVal d σ K ⟨⟩) := by by_cases hc : c <;> simp [hc, kD, kVal]
theorem kR_some {d : D} {e : Eff} {h : Keep K} : kR (some (d, e)) σ K h = K d (σ.app e) := (rfl)
theorem kR_none {h : Keep K} : kR none σ K h = False := (rfl)
theorem kR_ite {c : Prop} [Decidable c] {d : D} {e : Eff} {h : Keep K} : kR (if c then some (d, e) else none) σ K h = (c ∧ kVal d (σ.app e) K ⟨⟩) := by by_cases hc : c <;> simp [hc, kR, kVal]
theorem kE_some {d : D} {e : Eff} {h : Keep K} : kE (some e) d σ K h = K d (σ.app e) := (rfl)
theorem kE_none {d : D} {h : Keep K} : kE none d σ K h = False := (rfl)
theorem kE_ite {c : Prop} [Decidable c] {d : D} {e : Eff} {h : Keep K} : kE (if c then some e else none) d σ K h = (c ∧ kVal d (σ.app e) K ⟨⟩) := by by_cases hc : c <;> simp [hc, kE, kVal]
theorem kLen_sl {o : Own} {n : Nat} {cs : List D} {d : D} {h : Keep K} : kLen (some d) (.sl o n cs) σ K h = (n ≤ big → kVal d σ K ⟨⟩) := (rfl)
theorem kLen_row {r o n : Nat} {c : Option Nat} {z : Nat} {d : D} {h : Keep K} : kLen (some d) (.row r o n c z) σ K h = (n ≤ big → kVal d σ K ⟨⟩) := (rfl)
theorem kLen_str {s : ByteArray} {d : D} {h : Keep K} : kLen (some d) (.str s) σ K h = (s.size ≤ big → kVal d σ K ⟨⟩) := (rfl)
theorem kLen_nilmap {d : D} {h : Keep K} : kLen (some d) .nilmap σ K h = kVal d σ K ⟨⟩ := by simp [kLen, lenB, kVal]
theorem kLen_map {r : Nat} {d : D} {h : Keep K} : kLen (some d) (.map r) σ K h = kVal d σ K ⟨⟩ := by simp [kLen, lenB, kVal]
theorem app_keep : σ.app .keep = σ := (rfl)
theorem app_new {o : AO} : σ.app (.new o) = σ.new o := (rfl)
theorem app_put {r : Nat} {o : AO} : σ.app (.put r o) = σ.set r o := (rfl)
theorem app_move {r : Nat} {o : AO} : σ.app (.move r o) = (σ.del r).new o := (rfl)
theorem app_kill {r : Nat} : σ.app (.kill r) = σ.del r := (rfl)

theorem pwp_skip : pwp Z .skip Q env σ = Q .normal env σ := (rfl)
theorem pwp_ops {l : List LOp} : pwp Z (.ops l) Q env σ = aOps Z l (Q .normal) env σ := (rfl)
theorem pwp_seq {a b : LCode} : pwp Z (.seq a b) Q env σ = pwp Z a (Ex.then (pwp Z b Q) Q) env σ := (rfl)
theorem pwp_block {id : Nat} {a : LCode} : pwp Z (.block id a) Q env σ = pwp Z a (Ex.inBlock id Q) env σ := (rfl)
theorem pwp_exit {id : Nat} : pwp Z (.exit id) Q env σ = Q (.exit id) env σ := (rfl)
theorem pwp_ret : pwp Z .ret Q env σ = Q .ret env σ := (rfl)
theorem pwp_kloop {a : LCode} : pwp Z (.loop a) Q env σ = kLoop Z a Q env σ ⟨⟩ := (rfl)
theorem pwp_kdraw {l : List LOp} {s : Bool} {ts pl : List Nat} : pwp Z (.draw l s ts pl) Q env σ = kDraw Z l s ts pl Q env σ ⟨⟩ := (rfl)
theorem then_normal {k : Env → Heap → Prop} : Ex.then k Q .normal = k := (rfl)
theorem then_exit {k : Env → Heap → Prop} {id : Nat} : Ex.then k Q (.exit id) env σ = Q (.exit id) env σ := (rfl)
theorem then_ret {k : Env → Heap → Prop} : Ex.then k Q .ret env σ = Q .ret env σ := (rfl)
theorem inBlock_normal {id : Nat} : Ex.inBlock id Q .normal = Q .normal := (rfl)
theorem inBlock_exit {id id' : Nat} : Ex.inBlock id Q (.exit id') env σ = if id' = id then Q .normal env σ else Q (.exit id') env σ := (rfl)
theorem inBlock_ret {id : Nat} : Ex.inBlock id Q .ret env σ = Q .ret env σ := (rfl)
theorem retQ_ret {rs : List ResultVar} {σ0 : Heap} : retQ Z rs σ0 K .ret env σ = ∃ d, ares Z rs env σ.get = some d ∧ Ret σ0 K d σ := (rfl)
theorem retQ_normal {rs : List ResultVar} {σ0 : Heap} : retQ Z rs σ0 K .normal env σ = ∃ d, ares Z rs env σ.get = some d ∧ Ret σ0 K d σ := (rfl)
theorem retQ_exit {rs : List ResultVar} {σ0 : Heap} {id : Nat} : retQ Z rs σ0 K (.exit id) env σ = False := (rfl)

theorem aOps_nil {k : Env → Heap → Prop} : aOps Z [] k env σ = k env σ := (rfl)
theorem aOps_cons {o : LOp} {l : List LOp} {k : Env → Heap → Prop} : aOps Z (o :: l) k env σ = aOp Z o env σ (aOps Z l k) := (rfl)
theorem aOp_plain_some {dst : Nat} {op : Op} {ann : Nat} {k : Env → Heap → Prop} : aOp Z ⟨some dst, op, none, ann⟩ env σ k = aExec Z op ann env σ fun d σ' => k (upd env dst d) σ' := (rfl)
theorem aOp_plain_none {op : Op} {ann : Nat} {k : Env → Heap → Prop} : aOp Z ⟨none, op, none, ann⟩ env σ k = aExec Z op ann env σ fun d σ' => k env σ' := (rfl)
theorem aOp_guard_some {dst : Nat} {op : Op} {ann t : Nat} {b : Bool} {k : Env → Heap → Prop} : aOp Z ⟨some dst, op, some (t, b), ann⟩ env σ k =
    (match gate (env t) b with
    | some true => aExec Z op ann env σ fun d σ' => k (upd env dst d) σ'
    | some false => k (upd env dst (.tup [])) σ
    | none => False) := (rfl)
theorem aOp_guard_none {op : Op} {ann t : Nat} {b : Bool} {k : Env → Heap → Prop} : aOp Z ⟨none, op, some (t, b), ann⟩ env σ k =
    (match gate (env t) b with
    | some true => aExec Z op ann env σ fun d σ' => k env σ'
    | some false => k env σ
    | none => False) := (rfl)

theorem aExec_move {x : Operand} : aExec Z (.move x) 0 env σ K = kVal (ev env x) σ K ⟨⟩ := by simp [aExec, exec, exec0, kVal, lenOK, Heap.app]
theorem aExec_assign {x : Operand} : aExec Z (.assign x) 0 env σ K = kVal (ev env x) σ K ⟨⟩ := by simp [aExec, exec, exec0, kVal, lenOK, Heap.app]
theorem aExec_pick {c a b : Operand} : aExec Z (.pick c a b) 0 env σ K = (match ev env c with
    | .bool t => kVal (if t then ev env a else ev env b) σ K ⟨⟩
    | _ => False) := by simp only [aExec, exec, exec0]; cases ev env c <;> simp [kVal, lenOK, Heap.app]
theorem aExec_alloc {e : TypeId} : aExec Z (.alloc e) 0 env σ K = kE (allocR Z e) (.ptr σ.next 0) σ K ⟨⟩ := by simp only [aExec, exec, exec0]; cases allocR Z e <;> simp [kE, lenOK]
theorem aExec_range {t : TypeId} {x : Operand} : aExec Z (.range t x) 0 env σ K = kE (rangeR Z σ.get t (ev env x)) (.ptr σ.next 0) σ K ⟨⟩ := by simp only [aExec, exec, exec0]; cases rangeR Z σ.get t (ev env x) <;> simp [kE, lenOK]
theorem aExec_next {x : Operand} {ann : Nat} : aExec Z (.next x false) ann env σ K = kNext (ev env x) σ K ⟨⟩ := (rfl)
theorem aExec_entry {x : Operand} : aExec Z (.entry x) 0 env σ K = kD (entryD σ.get (ev env x)) σ K ⟨⟩ := by simp only [aExec, exec, exec0]; cases entryD σ.get (ev env x) <;> simp [kD, lenOK, Heap.app]
theorem aExec_box {e : TypeId} {x : Operand} : aExec Z (.box e x) 0 env σ K = kE (boxR e (ev env x)) (.ptr σ.next 0) σ K ⟨⟩ := by simp only [aExec, exec, exec0]; cases boxR e (ev env x) <;> simp [kE, lenOK]
theorem aExec_build {t : TypeId} {ps : List (Nat × Operand)} : aExec Z (.build t ps.toArray) 0 env σ K = kD ((aBuilt Z t (ps.map fun p => (p.1, ev env p.2))).map .agg) σ K ⟨⟩ := by simp only [aExec, exec, exec0]; cases aBuilt Z t (ps.map fun p => (p.1, ev env p.2)) <;> simp [kD, lenOK, Heap.app, *]
theorem aExec_buildSlice {t : TypeId} {len : Nat} {ps : List (Nat × Operand)} : aExec Z (.buildSlice t len ps.toArray) 0 env σ K = kR (buildSliceR Z 0 t len (ps.map fun p => (p.1, ev env p.2)) σ.next) σ K ⟨⟩ := by simp only [aExec, exec, exec0]; cases buildSliceR Z 0 t len (ps.map fun p => (p.1, ev env p.2)) σ.next <;> simp [kR, lenOK, *]
theorem aExec_buildSlice1 {t : TypeId} {len : Nat} {ps : List (Nat × Operand)} : aExec Z (.buildSlice t len ps.toArray) 1 env σ K = kR (buildSliceR Z 1 t len (ps.map fun p => (p.1, ev env p.2)) σ.next) σ K ⟨⟩ := by simp only [aExec, exec, exec0]; cases buildSliceR Z 1 t len (ps.map fun p => (p.1, ev env p.2)) σ.next <;> simp [kR, lenOK, *]
theorem aExec_load {t : TypeId} {x : Operand} : aExec Z (.load t x) 0 env σ K = kD (loadD Z σ.get t (ev env x)) σ K ⟨⟩ := by simp only [aExec, exec, exec0]; cases loadD Z σ.get t (ev env x) <;> simp [kD, lenOK, Heap.app]
theorem aExec_store {t : TypeId} {x y : Operand} : aExec Z (.store t x y) 0 env σ K = kE (storeE Z σ.get t (ev env x) (ev env y)) .junk σ K ⟨⟩ := by simp only [aExec, exec, exec0]; cases storeE Z σ.get t (ev env x) (ev env y) <;> simp [kE, lenOK]
def methD (Z : Sys) (m : String) (t : TypeId) : Option D := if (Z.M t m).isSome then some (.meth m t) else none
theorem aExec_nilCheck {x : Operand} : aExec Z (.nilCheck x) 0 env σ K = (match ev env x with
    | .ptr r o => kVal (.ptr r o) σ K ⟨⟩
    | .at cs => kVal (.at cs) σ K ⟨⟩
    | .func f cs => kVal (.func f cs) σ K ⟨⟩
    | .meth m t => kD (methD Z m t) σ K ⟨⟩
    | _ => False) := by
  simp only [aExec, exec, exec0]
  cases ev env x with
  | meth m t => simp only [methD]; cases (Z.M t m).isSome <;> simp [kD, lenOK, Heap.app]
  | _ => simp [kVal, lenOK, Heap.app]
theorem aExec_binOp {op : BinOp} {t t' : TypeId} {x y : Operand} : aExec Z (.binOp op t x y t') 0 env σ K = kD (binD Z op t (ev env x) (ev env y)) σ K ⟨⟩ := by simp only [aExec, exec, exec0]; cases binD Z op t (ev env x) (ev env y) <;> simp [kD, lenOK, Heap.app]
theorem aExec_unOp {op : UnOp} {t : TypeId} {x : Operand} : aExec Z (.unOp op t x) 0 env σ K = kD (unD op (ev env x)) σ K ⟨⟩ := by simp only [aExec, exec, exec0]; cases unD op (ev env x) <;> simp [kD, lenOK, Heap.app]
theorem aExec_convert {s d : TypeId} {x : Operand} : aExec Z (.convert s d x) 0 env σ K = kD (convD Z s d (ev env x)) σ K ⟨⟩ := by simp only [aExec, exec, exec0]; cases convD Z s d (ev env x) <;> simp [kD, lenOK, Heap.app]
theorem aExec_makeInterface {t : TypeId} {x : Operand} : aExec Z (.makeInterface t x) 0 env σ K = kD (ifaceD Z t (ev env x)) σ K ⟨⟩ := by simp only [aExec, exec, exec0]; cases ifaceD Z t (ev env x) <;> simp [kD, lenOK, Heap.app]
theorem aExec_makeFunc {f : FuncId} {caps : List Operand} : aExec Z (.makeFunc (.func f) #[] caps.toArray) 0 env σ K = kVal (.func f (caps.map (ev env))) σ K ⟨⟩ := by simp [aExec, exec, exec0, kVal, lenOK, Heap.app]
theorem aExec_makeBound {f : FuncId} {y : Operand} : aExec Z (.makeFunc (.func f) #[y] [].toArray) 0 env σ K = kVal (.bfunc f [ev env y]) σ K ⟨⟩ := by simp [aExec, exec, exec0, kVal, lenOK, Heap.app]
theorem aExec_makeMeth {m : String} {y : Operand} {caps : List Operand} : aExec Z (.makeFunc (.method m) #[y] caps.toArray) 0 env σ K = (match ev env y with
    | .iface t _ => kVal (.meth m t) σ K ⟨⟩
    | _ => False) := by simp only [aExec, exec, exec0]; cases ev env y <;> simp [kVal, lenOK, Heap.app]
theorem aExec_makeMap {t : TypeId} : aExec Z (.makeMap t none) 0 env σ K = kVal (.map σ.next) (σ.new (.map [] 0)) K ⟨⟩ := by simp [aExec, exec, exec0, kVal, lenOK, Heap.app]
theorem aExec_makeSlice {t : TypeId} {l c : Operand} : aExec Z (.makeSlice t l c) 0 env σ K = kR (makeSliceR Z 0 t (ev env l) (ev env c) σ.next) σ K ⟨⟩ := by simp only [aExec, exec, exec0]; cases makeSliceR Z 0 t (ev env l) (ev env c) σ.next <;> simp [kR, lenOK, *]
theorem aExec_slice {t : TypeId} {x : Operand} {lo hi : Option Operand} : aExec Z (.slice t x lo hi none) 0 env σ K = kD (sliceD Z σ.get t (ev env x) (lo.map (ev env)) (hi.map (ev env)) none) σ K ⟨⟩ := by simp only [aExec, exec, exec0]; simp; cases sliceD Z σ.get t (ev env x) (lo.map (ev env)) (hi.map (ev env)) none <;> simp [kD, lenOK, Heap.app]
theorem aExec_slice3 {t : TypeId} {x h m : Operand} {lo : Option Operand} : aExec Z (.slice t x lo (some h) (some m)) 0 env σ K = kD (sliceD Z σ.get t (ev env x) (lo.map (ev env)) (some (ev env h)) (some (ev env m))) σ K ⟨⟩ := by simp only [aExec, exec, exec0]; simp; cases sliceD Z σ.get t (ev env x) (lo.map (ev env)) (some (ev env h)) (some (ev env m)) <;> simp [kD, lenOK, Heap.app]
theorem aExec_fieldAddr {s : TypeId} {x : Operand} {f : Nat} : aExec Z (.fieldAddr s x f) 0 env σ K = kD (fieldAddrD Z s f (ev env x)) σ K ⟨⟩ := by simp only [aExec, exec, exec0]; cases fieldAddrD Z s f (ev env x) <;> simp [kD, lenOK, Heap.app]
theorem aExec_field {s : TypeId} {x : Operand} {f : Nat} : aExec Z (.field s x f) 0 env σ K = kD (fieldD Z s f (ev env x)) σ K ⟨⟩ := by simp only [aExec, exec, exec0]; cases fieldD Z s f (ev env x) <;> simp [kD, lenOK, Heap.app]
theorem aExec_indexAddr {t : TypeId} {x i : Operand} : aExec Z (.indexAddr t x i) 0 env σ K = kD (indexAddrD Z t (ev env x) (ev env i)) σ K ⟨⟩ := by simp only [aExec, exec, exec0]; cases indexAddrD Z t (ev env x) (ev env i) <;> simp [kD, lenOK, Heap.app]
theorem aExec_index {t : TypeId} {x i : Operand} : aExec Z (.index t x i) 0 env σ K = kD (indexD Z t (ev env x) (ev env i)) σ K ⟨⟩ := by simp only [aExec, exec, exec0]; cases indexD Z t (ev env x) (ev env i) <;> simp [kD, lenOK, Heap.app]
theorem aExec_lookup {t : TypeId} {m k : Operand} {ok : Bool} : aExec Z (.lookup t m k ok) 0 env σ K = kD (lookupD Z σ.get t (ev env m) (ev env k) ok) σ K ⟨⟩ := by simp only [aExec, exec, exec0]; cases lookupD Z σ.get t (ev env m) (ev env k) ok <;> simp [kD, lenOK, Heap.app]
theorem aExec_mapUpdate {t : TypeId} {m k x : Operand} : aExec Z (.mapUpdate t m k x) 0 env σ K = kE (mapUpdateE Z σ.get t (ev env m) (ev env k) (ev env x)) .junk σ K ⟨⟩ := by simp only [aExec, exec, exec0]; cases mapUpdateE Z σ.get t (ev env m) (ev env k) (ev env x) <;> simp [kE, lenOK]
theorem aExec_insert {t : TypeId} {m k x : Operand} : aExec Z (.insert t m k x) 0 env σ K = kE (mapUpdateE Z σ.get t (ev env m) (ev env k) (ev env x)) .junk σ K ⟨⟩ := by simp only [aExec, exec, exec0]; cases mapUpdateE Z σ.get t (ev env m) (ev env k) (ev env x) <;> simp [kE, lenOK]
theorem aExec_mapEntry {t : TypeId} {m k : Operand} : aExec Z (.mapEntry t m k) 0 env σ K = kR (mapEntryR Z σ.get t (ev env m) (ev env k)) σ K ⟨⟩ := by simp only [aExec, exec, exec0]; cases mapEntryR Z σ.get t (ev env m) (ev env k) <;> simp [kR, lenOK, *]
theorem aExec_entryStore {t : TypeId} {m k x : Operand} : aExec Z (.entryStore t m k x) 0 env σ K = kE (entryStoreE σ.get (ev env m) (ev env k) (ev env x)) .junk σ K ⟨⟩ := by simp only [aExec, exec, exec0]; cases entryStoreE σ.get (ev env m) (ev env k) (ev env x) <;> simp [kE, lenOK]
theorem aExec_extract {x : Operand} {i : Nat} : aExec Z (.extract x i) 0 env σ K = kD (extractD (ev env x) i) σ K ⟨⟩ := by simp only [aExec, exec, exec0]; cases extractD (ev env x) i <;> simp [kD, lenOK, Heap.app]
theorem aExec_len {x : Operand} {ts : Array TypeId} : aExec Z (.call ⟨.builtin .len, [x].toArray, ts⟩) 0 env σ K = kLen (lenD Z σ.get ts (ev env x)) (ev env x) σ K ⟨⟩ := by simp only [aExec, exec, exec0, builtinR]; simp; cases lenD Z σ.get ts (ev env x) <;> simp [kLen, lenOK, Heap.app]
theorem aExec_cap {x : Operand} {ts : Array TypeId} : aExec Z (.call ⟨.builtin .cap, [x].toArray, ts⟩) 0 env σ K = kD (capD Z ts (ev env x)) σ K ⟨⟩ := by simp only [aExec, exec, exec0, builtinR]; simp; cases capD Z ts (ev env x) <;> simp [kD, lenOK, Heap.app]
theorem aExec_append {x y : Operand} {ts : Array TypeId} : aExec Z (.call ⟨.builtin .append, [x, y].toArray, ts⟩) 0 env σ K = kR (appendR Z 0 σ.get σ.next ts (ev env x) (ev env y)) σ K ⟨⟩ := by simp only [aExec, exec, exec0, builtinR]; simp; cases appendR Z 0 σ.get σ.next ts (ev env x) (ev env y) <;> simp [kR, lenOK, *]
theorem aExec_append1 {x y : Operand} {ts : Array TypeId} : aExec Z (.call ⟨.builtin .append, [x, y].toArray, ts⟩) 1 env σ K = kR (appendR Z 1 σ.get σ.next ts (ev env x) (ev env y)) σ K ⟨⟩ := by simp only [aExec, exec, exec0, builtinR]; simp; cases appendR Z 1 σ.get σ.next ts (ev env x) (ev env y) <;> simp [kR, lenOK, *]
theorem aExec_append3 {x y : Operand} {ts : Array TypeId} : aExec Z (.call ⟨.builtin .append, [x, y].toArray, ts⟩) 3 env σ K = kR (appendP Z σ.get σ.next ts (ev env x) (ev env y)) σ K ⟨⟩ := by simp only [aExec, exec, exec0, builtinR]; simp; cases appendP Z σ.get σ.next ts (ev env x) (ev env y) <;> simp [kR, lenOK, *]
theorem aExec_append5 {x y : Operand} {ts : Array TypeId} : aExec Z (.call ⟨.builtin .append, [x, y].toArray, ts⟩) 5 env σ K = kR (appendZ Z σ.next ts (ev env x) (ev env y)) σ K ⟨⟩ := by simp only [aExec, exec, exec0, builtinR]; simp; cases appendZ Z σ.next ts (ev env x) (ev env y) <;> simp [kR, lenOK, *]
theorem aExec_copy {x y : Operand} {ts : Array TypeId} : aExec Z (.call ⟨.builtin .copy, [x, y].toArray, ts⟩) 0 env σ K = kR (copyR Z σ.get ts (ev env x) (ev env y)) σ K ⟨⟩ := by simp only [aExec, exec, exec0, builtinR]; simp; cases copyR Z σ.get ts (ev env x) (ev env y) <;> simp [kR, lenOK, *]
theorem aExec_clear {x : Operand} {ts : Array TypeId} : aExec Z (.call ⟨.builtin .clear, [x].toArray, ts⟩) 0 env σ K = kE (clearR Z σ.get ts (ev env x)) (.tup []) σ K ⟨⟩ := by simp only [aExec, exec, exec0, builtinR]; simp; cases clearR Z σ.get ts (ev env x) <;> simp [kE, lenOK]
theorem aExec_delete {x y : Operand} {ts : Array TypeId} : aExec Z (.call ⟨.builtin .delete, [x, y].toArray, ts⟩) 0 env σ K = kE (deleteE Z σ.get ts (ev env x) (ev env y)) (.tup []) σ K ⟨⟩ := by simp only [aExec, exec, exec0, builtinR]; simp; cases deleteE Z σ.get ts (ev env x) (ev env y) <;> simp [kE, lenOK]
def minD (x y : D) : Option D := match x, y with | .int k a, .int _ b => some (.int k (if b < a then b else a)) | _, _ => none
def maxD (x y : D) : Option D := match x, y with | .int k a, .int _ b => some (.int k (if a < b then b else a)) | _, _ => none
theorem minD_int {k k' : IntKind} {a b : Int} : minD (.int k a) (.int k' b) = some (.int k (if b < a then b else a)) := (rfl)
theorem maxD_int {k k' : IntKind} {a b : Int} : maxD (.int k a) (.int k' b) = some (.int k (if a < b then b else a)) := (rfl)
theorem aExec_min {x y : Operand} {ts : Array TypeId} : aExec Z (.call ⟨.builtin .min, [x, y].toArray, ts⟩) 0 env σ K = kD (minD (ev env x) (ev env y)) σ K ⟨⟩ := by simp only [aExec, exec, exec0, builtinR]; simp; cases ev env x <;> cases ev env y <;> simp [kD, minD, lenOK, Heap.app]
def maxD4 (x y z u : D) : Option D := match x, y, z, u with | .int k a, .int _ b, .int _ c, .int _ d => some (.int k (imax (imax (imax a b) c) d)) | _, _, _, _ => none
theorem maxD4_int {k k' k2 k3 : IntKind} {a b c d : Int} : maxD4 (.int k a) (.int k' b) (.int k2 c) (.int k3 d) = some (.int k (imax (imax (imax a b) c) d)) := (rfl)
theorem builtinR_max4 {x y z u : D} {ts : Array TypeId} {n : Nat} {g : Nat → Option AO} {nx : Nat} : builtinR Z .max ts n [x, y, z, u] g nx = (maxD4 x y z u).map (·, .keep) := by
  unfold builtinR maxD4
  split <;> simp_all
  split <;> simp_all
  rename_i h
  exact h _ _ _ _ _ _ _ _ rfl rfl rfl rfl rfl rfl rfl rfl
theorem aExec_max4 {x y z u : Operand} {ts : Array TypeId} : aExec Z (.call ⟨.builtin .max, [x, y, z, u].toArray, ts⟩) 0 env σ K = kD (maxD4 (ev env x) (ev env y) (ev env z) (ev env u)) σ K ⟨⟩ := by
  have : exec Z (.call ⟨.builtin .max, [x, y, z, u].toArray, ts⟩) 0 env σ.get σ.next = (maxD4 (ev env x) (ev env y) (ev env z) (ev env u)).map (·, .keep) := builtinR_max4
  simp only [aExec, this]
  cases maxD4 (ev env x) (ev env y) (ev env z) (ev env u) <;> simp [kD, lenOK, Heap.app]
theorem aExec_max {x y : Operand} {ts : Array TypeId} : aExec Z (.call ⟨.builtin .max, [x, y].toArray, ts⟩) 0 env σ K = kD (maxD (ev env x) (ev env y)) σ K ⟨⟩ := by simp only [aExec, exec, exec0, builtinR]; simp; cases ev env x <;> cases ev env y <;> simp [kD, maxD, lenOK, Heap.app]
theorem aExec_value {f : Operand} {xs : List Operand} {ts : Array TypeId} {ann : Nat} : aExec Z (.call ⟨.value f, xs.toArray, ts⟩) ann env σ K = (match ev env f with
    | .func g caps => kCall Z g (xs.map (ev env) ++ caps) σ K ⟨⟩
    | .bfunc g fs => kCall Z g (fs ++ xs.map (ev env)) σ K ⟨⟩
    | _ => False) := (rfl)
theorem aExec_fn {g : FuncId} {xs : List Operand} {ts : Array TypeId} {ann : Nat} : aExec Z (.call ⟨.value (.func g), xs.toArray, ts⟩) ann env σ K = kCall Z g (xs.map (ev env)) σ K ⟨⟩ := by
  show PCall Z g (xs.map (ev env) ++ []) σ K = _
  rw [List.append_nil]
  rfl

/-- A method of a value whose type is known. -/
def kMeth (Z : Sys) (t : TypeId) (m : String) (d : D) (ds : List D) (σ : Heap) (K : D → Heap → Prop) (_ : Keep K) : Prop := match Z.M t m with
  | some g => PCall Z g (d :: ds) σ K
  | none => False
theorem aExec_invoke {r : Operand} {m : String} {xs : List Operand} {ts : Array TypeId} {ann : Nat} : aExec Z (.call ⟨.invoke r m, xs.toArray, ts⟩) ann env σ K = (match ev env r with
    | .iface t d => kMeth Z t m d (xs.map (ev env)) σ K ⟨⟩
    | _ => False) := (rfl)
theorem aExec_typeAssert {x : Operand} {xt t : TypeId} {ok : Bool} : aExec Z (.typeAssert x xt t ok) 0 env σ K = kD (assertD Z t (ev env x) ok) σ K ⟨⟩ := by simp only [aExec, exec, exec0]; cases assertD Z t (ev env x) ok <;> simp [kD, lenOK, Heap.app]
theorem ev_tmp {t : Nat} : ev env (.tmp t) = env t := (rfl)
theorem ev_const {v : Value} : ev env (.const v) = ofV v := (rfl)
theorem ev_func {f : FuncId} : ev env (.func f) = .func f [] := (rfl)
theorem ofV_int {k : IntKind} {n : Int} : ofV (.int k n) = .int k n := (rfl)
theorem ofV_bool {b : Bool} : ofV (.bool b) = .bool b := (rfl)
theorem ofV_nilslice : ofV (.slice none 0 0) = .sl .nil 0 [] := (rfl)
theorem ofV_nilptr : ofV (.pointer none) = .nilptr := (rfl)
theorem ofV_nilmap : ofV (.map none) = .nilmap := (rfl)
theorem ofV_nilfunc : ofV .nilFunc = .nilfunc := (rfl)
theorem ofV_nilif : ofV .nilIface = .nilif := (rfl)
theorem updO_some {t : Nat} {d : D} : updO env (some t) d = upd env t d := (rfl)
theorem updO_none {d : D} : updO env none d = env := (rfl)
theorem upd_apply {t i : Nat} {d : D} : upd env t d i = if i = t then d else env i := (rfl)
variable {g : Nat → Option AO}
theorem ares_one {t : Nat} : ares Z [.tmp t] env g = some (env t) := (rfl)
theorem ares_two {t u : Nat} : ares Z [.tmp t, .tmp u] env g = some (.tup [env t, env u]) := (rfl)
theorem ares_three {t u v : Nat} : ares Z [.tmp t, .tmp u, .tmp v] env g = some (.tup [env t, env u, env v]) := (rfl)
theorem ares_none : ares Z [] env g = some (.tup []) := (rfl)
end
theorem wrap64_in {n : Int} (h1 : -9223372036854775808 ≤ n) (h2 : n ≤ 9223372036854775807) : IntKind.i64.wrap n = n := by
  rw [IntKind.wrap_i64]; omega
theorem wrap64_succ {k : Nat} (h : k < big) : IntKind.i64.wrap ((k : Int) + 1) = ((k + 1 : Nat) : Int) := by
  rw [wrap64_in] <;> simp [big] at * <;> omega

theorem gate_tt : gate (.bool true) true = some true := (rfl)
theorem gate_tf : gate (.bool true) false = some false := (rfl)
theorem gate_ft : gate (.bool false) true = some false := (rfl)
theorem gate_ff : gate (.bool false) false = some true := (rfl)
theorem gate_un {b : Bool} : gate (.tup []) b = some false := (rfl)
theorem envOf_apply {ds : List D} {t : Nat} : envOf ds t = ds.getD t .junk := (rfl)
theorem bound_none {n : Nat} : bound none n = some (n : Int) := (rfl)
theorem bound_int {n : Nat} {k : IntKind} {i : Int} : bound (some (.int k i)) n = some i := (rfl)
theorem binD_int {Z : Sys} {op : BinOp} {t : TypeId} {k : IntKind} {a b : Int} : binD Z op t (.int k a) (.int k b) = intBin op k a b := by simp [binD]
theorem binD_str {Z : Sys} {op : BinOp} {t : TypeId} {a b : ByteArray} : binD Z op t (.str a) (.str b) = strBin op a b := (rfl)
theorem pwp_cond_tmp {Z : Sys} {Q : Ex → Env → Heap → Prop} {env : Env} {σ : Heap} {c : Nat} {a b : LCode} : pwp Z (.cond (.tmp c) a b) Q env σ = (match env c with | .bool t => (if t = true then pwp Z a Q env σ else pwp Z b Q env σ) | _ => False) := by
  have : pwp Z (.cond (.tmp c) a b) Q env σ = ∃ t', env c = .bool t' ∧ (if t' = true then pwp Z a Q env σ else pwp Z b Q env σ) := (rfl)
  rw [this]
  cases env c <;> simp

theorem aOpsM {Z : Sys} : ∀ (l : List LOp) {k k' : Env → Heap → Prop} (hk : ∀ e s, k e s → k' e s) {env : Env} {σ : Heap}, aOps Z l k env σ → aOps Z l k' env σ
  | [], _, _, hk, _, _, h => hk _ _ h
  | o :: l, _, _, hk, _, _, h => aOp_mono (fun _ _ => aOpsM l hk) h
theorem aStillsM {Z : Sys} {σ : Heap} : ∀ (l : List LOp) {k k' : Env → Prop} (hk : ∀ e, k e → k' e) {env : Env}, aStills Z σ l k env → aStills Z σ l k' env
  | [], _, _, hk, _, h => hk _ h
  | o :: l, _, _, hk, _, h => aStill_mono (fun _ => aStillsM l hk) h
theorem aPlanM {Z : Sys} : ∀ (l : List LOp) {k k' : Env → Heap → Prop} (hk : ∀ e s, k e s → k' e s) {env : Env} {σ : Heap}, aPlan Z l k env σ → aPlan Z l k' env σ
  | [], _, _, hk, _, _, h => hk _ _ h
  | o :: l, _, _, hk, env, σ, h => by
    simp only [aPlan] at h ⊢
    split
    · rename_i hq
      rw [if_pos hq] at h
      split at h
      · rename_i d hd; first | exact aPlanM l hk h | (simp only [hd]; exact aPlanM l hk h) | (rw [hd]; exact aPlanM l hk h)
      · exact h.elim
    · rename_i hq
      rw [if_neg hq] at h
      exact aOp_mono (fun _ _ => aPlanM l hk) h
theorem aActsM {Z : Sys} {σ σ1 : Heap} {k : Nat} : ∀ (l : List LOp) (m : Nat) {K K' : Env → Prop} (hk : ∀ e, K e → K' e) {env : Env}, aActs Z σ σ1 k m l K env → aActs Z σ σ1 k m l K' env
  | [], _, _, _, hk, _, h => hk _ h
  | o :: l, _, _, _, hk, _, h => by obtain ⟨d, h1, h2⟩ := h; exact ⟨d, h1, aActsM l _ hk h2⟩
theorem pwp_mono {Z : Sys} : ∀ (c : LCode) {Q Q' : Ex → Env → Heap → Prop} (hq : ∀ x e s, Q x e s → Q' x e s) {env : Env} {σ : Heap}, pwp Z c Q env σ → pwp Z c Q' env σ
  | .skip, _, _, hq, _, _, h => hq _ _ _ h
  | .ops l, _, _, hq, _, _, h => aOpsM l (fun e s => hq _ e s) h
  | .draw l s ts pl, _, _, hq, _, _, h => by
    rcases h with ⟨h1, h2, h3⟩ | ⟨h1, h2⟩ | ⟨n, h1, h2⟩ | ⟨n, k, σ1, h1, h2, h3⟩
    · exact .inl ⟨h1, aPlanM _ (fun e s => hq _ e s) h2, h3⟩
    · exact .inr (.inl ⟨h1, aStillsM l (fun e => hq _ e _) h2⟩)
    · exact .inr (.inr (.inl ⟨n, h1, aStillsM _ (fun e => aOpsM _ (fun e s => hq _ e s)) h2⟩))
    · exact .inr (.inr (.inr ⟨n, k, σ1, h1, h2, aActsM _ _ (fun e => aOpsM _ (fun e s => hq _ e s)) h3⟩))
  | .seq a b, _, _, hq, _, _, h => pwp_mono a (fun x e s hx => by
      cases x with
      | normal => exact pwp_mono b hq hx
      | exit id => exact hq _ _ _ hx
      | ret => exact hq _ _ _ hx) h
  | .cond c a b, _, _, hq, _, _, h => by
    obtain ⟨t, h1, h2⟩ := h
    refine ⟨t, h1, ?_⟩
    split at h2
    · rename_i ht; rw [if_pos ht]; exact pwp_mono a hq h2
    · rename_i ht; rw [if_neg ht]; exact pwp_mono b hq h2
  | .block id a, _, _, hq, _, _, h => pwp_mono a (fun x e s hx => by
      cases x with
      | normal => exact hq _ _ _ hx
      | ret => exact hq _ _ _ hx
      | exit i =>
        simp only [Ex.inBlock] at hx ⊢
        split at hx
        · rename_i hi; rw [if_pos hi]; exact hq _ _ _ hx
        · rename_i hi; rw [if_neg hi]; exact hq _ _ _ hx) h
  | .loop a, _, _, hq, _, _, h => fun X hX => h X fun env' σ' hb => hX env' σ' (pwp_mono a (fun x e s hx => by
      cases x with
      | normal => exact hx
      | exit id => exact hq _ _ _ hx
      | ret => exact hq _ _ _ hx) hb)
  | .exit id, _, _, hq, _, _, h => hq _ _ _ h
  | .ret, _, _, hq, _, _, h => hq _ _ _ h
  | .bad, _, _, _, _, _, h => h
/-- A loop, by what holds at each round's head and a number that goes down. -/
theorem pwp_loopG {α : Type} {Z : Sys} {Q : Ex → Env → Heap → Prop} {env : Env} {σ : Heap} {a : LCode} (I : α → Env → Heap → Prop) (μ : α → Nat) (x0 : α) (h0 : I x0 env σ)
    (h : ∀ x env' σ', I x env' σ' → pwp Z a (Ex.then (fun e s => ∃ y, I y e s ∧ μ y < μ x) Q) env' σ') {k : Keep (a, Q, env, σ)} : kLoop Z a Q env σ k := by
  intro X hX
  have key : ∀ n x e s, μ x < n → I x e s → X e s := by
    intro n
    induction n with
    | zero => intro x e s hn _; exact absurd hn (Nat.not_lt_zero _)
    | succ n ih =>
      intro x e s hn hI
      refine hX e s (pwp_mono a (fun q e' s' hq => ?_) (h x e s hI))
      cases q with
      | normal =>
        obtain ⟨y, hy, hlt⟩ := hq
        exact ih y e' s' (by omega) hy
      | exit id => exact hq
      | ret => exact hq
  exact key (μ x0 + 1) x0 env σ (Nat.lt_succ_self _) h0
theorem Fn.use {Z : Sys} {f : FuncId} {ds : List D} {x : D} {σ : Heap} {K : D → Heap → Prop} {h : Keep K} (c : Fn Z f ds x) (hk : K x σ) : kCall Z f ds σ K h :=
  PCall.use (c σ) (fun d τ ⟨h1, h2⟩ => by rw [h1, h2]; exact hk)
/-- Arguments of which less is told. -/
def D.pub1 : D → D
  | .sl _ n cs => .sl .no n cs
  | d => d
theorem Told.pub1 (σ τ : Heap) (d : D) : Told σ τ d d.pub1 := by
  cases d with
  | sl o n cs => exact .sl o .no n cs cs (.inl rfl) rfl fun i h1 h2 => .refl _
  | _ => exact .refl _
theorem Bel.pub1 {N : Nat} {d : D} (h : Bel N d) : Bel N d.pub1 := by
  cases h with
  | sl o n cs ho h => exact .sl .no n cs (fun r z he => by cases he) h
  | _ => first | (constructor; done) | (constructor; assumption)
theorem PCall.pub {Z : Sys} {f : FuncId} {ds : List D} {σ : Heap} {K : D → Heap → Prop} (h : PCall Z f (ds.map D.pub1) σ K) : PCall Z f ds σ K :=
  h.args (by simp) fun i h1 h2 => by simp only [List.getElem_map]; exact ⟨.pub1 _ _ _, Bel.pub1⟩
theorem PCall.useP {Z : Sys} {f : FuncId} {ds ds' : List D} {σ : Heap} {K K' : D → Heap → Prop} {h : Keep K'} (c : PCall Z f ds' σ K) (he : ds.map D.pub1 = ds') (hk : ∀ d τ, K d τ → K' d τ) : kCall Z f ds σ K' h :=
  PCall.pub (by rw [he]; exact c.mono hk)
theorem Fn.useP {Z : Sys} {f : FuncId} {ds ds' : List D} {x : D} {σ : Heap} {K : D → Heap → Prop} {h : Keep K} (c : Fn Z f ds' x) (he : ds.map D.pub1 = ds') (hk : K x σ) : kCall Z f ds σ K h :=
  PCall.useP (c σ) he (fun d τ ⟨h1, h2⟩ => by rw [h1, h2]; exact hk)
theorem fn_of {Z : Sys} {f : FuncId} {L : LCode} {rs : List ResultVar} {ds : List D} {x : D} (hF : FnOK Z.P f L rs ds.length) (h : ∀ σ, Closed σ → (∀ d ∈ ds, Bel σ.next d) → pwp Z L (retQ Z rs σ (fun d τ => d = x ∧ τ = σ)) (envOf ds) σ) : Fn Z f ds x := fun σ => pcall_of hF (h σ)
theorem Ret.is {σ : Heap} {d x : D} (h : d = x) : Ret σ (fun d τ => d = x ∧ τ = σ) d σ := Ret.now (Nat.le_refl _) ⟨h, rfl⟩
/-- The heap is again what it was, and the value is told as x. -/
theorem Ret.less {σ τ : Heap} {d x : D} (hle : HLe σ τ) (hc : Closed σ) (ht : Told τ σ d x) (hb : Bel σ.next x) : Ret σ (fun d τ => d = x ∧ τ = σ) d τ := Ret.told σ x (Nat.le_refl _) hle hc ht hb ⟨rfl, rfl⟩

def kSCall (Z : Sys) (g : FuncId) (ds : List D) (σ : Heap) (k : D → Prop) (_ : Keep k) : Prop := ∃ x, PCall Z g ds σ (fun d τ => d = x ∧ τ = σ) ∧ k x
def sExec (Z : Sys) (op : Op) (env : Env) (σ : Heap) (k : D → Prop) : Prop :=
  match op with
  | .call ⟨.value f, args, _⟩ => (match ev env f with
    | .func g caps => kSCall Z g (args.toList.map (ev env) ++ caps) σ k ⟨⟩
    | .bfunc g fs => kSCall Z g (fs ++ args.toList.map (ev env)) σ k ⟨⟩
    | _ => False)
  | .call ⟨.invoke r m, args, _⟩ => (match ev env r with
    | .iface t d => (match Z.M t m with
      | some g => kSCall Z g (d :: args.toList.map (ev env)) σ k ⟨⟩
      | none => False)
    | _ => False)
  | op => (match exec0 Z op 0 env σ.get σ.next with
    | some (d, .keep) => k d
    | _ => False)
theorem sExec_ok {Z : Sys} {op : Op} {env : Env} {σ : Heap} {k : D → Prop} (h : sExec Z op env σ k) : ∃ d, aExec Z op 0 env σ (fun d' σ' => d' = d ∧ σ' = σ) ∧ k d := by
  unfold sExec at h
  split at h
  · split at h
    · rename_i g caps hg
      obtain ⟨x, h1, h2⟩ := h
      exact ⟨x, by simp only [aExec, hg]; exact h1, h2⟩
    · rename_i g fs hg
      obtain ⟨x, h1, h2⟩ := h
      exact ⟨x, by simp only [aExec, hg]; exact h1, h2⟩
    · exact h.elim
  · split at h
    · rename_i t d0 hg
      split at h
      · rename_i g hM
        obtain ⟨x, h1, h2⟩ := h
        exact ⟨x, by simp only [aExec, hg, hM]; exact h1, h2⟩
      · exact h.elim
    · exact h.elim
  · rename_i hne hne2
    split at h
    · rename_i d he
      refine ⟨d, ?_, h⟩
      have hx : exec Z op 0 env σ.get σ.next = some (d, .keep) := by unfold exec; rw [if_neg (by decide)]; exact he
      have hfin : (match exec Z op 0 env σ.get σ.next with | some (d', e) => lenOK op env → d' = d ∧ σ.app e = σ | none => False) := by rw [hx]; exact fun _ => ⟨rfl, rfl⟩
      cases op <;> first
        | exact hfin
        | (rename_i c; obtain ⟨callee, args, ats⟩ := c; cases callee <;> first | exact hfin | exact absurd rfl (hne _ _ _) | exact absurd rfl (hne2 _ _ _ _))
        | (rename_i x b; cases b <;> first | exact hfin | exact absurd he (by simp [exec0]))
    · exact h.elim
def sOp (Z : Sys) (σ : Heap) (o : LOp) (k : Env → Prop) (env : Env) : Prop :=
  match o.guard with
  | none => sExec Z o.op env σ fun d => k (updO env o.dst d)
  | some (t, b) =>
    match gate (env t) b with
    | some true => sExec Z o.op env σ fun d => k (updO env o.dst d)
    | some false => k (updO env o.dst (.tup []))
    | none => False
def sOps (Z : Sys) (σ : Heap) : List LOp → (Env → Prop) → Env → Prop
  | [], k, env => k env
  | o :: l, k, env => sOp Z σ o (sOps Z σ l k) env
theorem sOp_ok {Z : Sys} {σ : Heap} {o : LOp} {k : Env → Prop} {env : Env} (h : sOp Z σ o k env) : aStill Z σ o k env := by
  unfold sOp at h
  unfold aStill
  split at h
  · rename_i hg; simp only [hg]; exact sExec_ok h
  · rename_i t b hg
    split at h
    · rename_i hgt; simp only [hg, hgt]; exact sExec_ok h
    · rename_i hgt; simp only [hg, hgt]; exact h
    · exact h.elim
theorem sOps_ok {Z : Sys} {σ : Heap} : ∀ (l : List LOp) {k : Env → Prop} {env : Env}, sOps Z σ l k env → aStills Z σ l k env
  | [], _, _, h => h
  | o :: l, _, _, h => aStill_mono (fun _ => sOps_ok l) (sOp_ok h)
theorem draw_s {Z : Sys} {l : List LOp} {ts pl : List Nat} {Q : Ex → Env → Heap → Prop} {env : Env} {σ : Heap} {h : Keep (l, true, ts, pl, Q, env, σ)} (hs : sOps Z σ l (fun e => Q .normal e σ) env) : kDraw Z l true ts pl Q env σ h :=
  .inr (.inl ⟨rfl, sOps_ok l hs⟩)
theorem draw_t {Z : Sys} {l : List LOp} {s : Bool} {ts pl : List Nat} {Q : Ex → Env → Heap → Prop} {env : Env} {σ : Heap} {h : Keep (l, s, ts, pl, Q, env, σ)} (n : Nat) (hn : n ∈ ts) (hs : sOps Z σ (l.take n) (fun e => aOps Z (l.drop n) (Q .normal) e σ) env) : kDraw Z l s ts pl Q env σ h :=
  .inr (.inr (.inl ⟨n, hn, sOps_ok _ hs⟩))
/-- One operation makes an object or writes, the others look: they see the same ahead of it and behind it. -/
def actOp (Z : Sys) (σ σ1 : Heap) (o : LOp) (K : Env → Prop) (env : Env) : Prop := o.guard = none ∧ ∃ d e, exec0 Z o.op 0 env σ.get σ.next = some (d, e) ∧ σ.app e = σ1 ∧ K (updO env o.dst d)
def actOps (Z : Sys) (σ σ1 : Heap) (k : Nat) : Nat → List LOp → (Env → Prop) → Env → Prop
  | _, [], K, env => K env
  | i, o :: l, K, env => if i = k then actOp Z σ σ1 o (actOps Z σ σ1 k (i + 1) l K) env
    else if hfKind o.op = true then sOp Z σ o (actOps Z σ σ1 k (i + 1) l K) env
    else sOp Z σ o (fun e1 => sOp Z σ1 o (fun e2 => e2 = e1 ∧ actOps Z σ σ1 k (i + 1) l K e1) env) env
theorem one_of_still {Z : Sys} {σ : Heap} {o : LOp} {K : Env → Prop} {env : Env} (h : aStill Z σ o K env) : ∃ d, aOne Z σ σ o d env ∧ K (updO env o.dst d) := by
  rw [aStill_iff] at h
  obtain ⟨d, h1, h2⟩ := h
  refine ⟨d, ?_, h2⟩
  unfold AY at h1
  unfold aOne
  cases hg : o.guard with
  | none => rw [hg] at h1; exact h1
  | some p =>
    obtain ⟨t, b⟩ := p
    rw [hg] at h1
    simp only at h1 ⊢
    cases hc : gate (env t) b with
    | none => rw [hc] at h1; exact h1.elim
    | some c =>
      rw [hc] at h1
      cases c with
      | true => exact h1
      | false => exact ⟨h1, trivial⟩
theorem one_hf {Z : Sys} {σ σ1 : Heap} {o : LOp} {d : D} {env : Env} (hf : hfKind o.op = true) (h : aOne Z σ σ o d env) : aOne Z σ1 σ1 o d env := by
  have key : aExec Z o.op 0 env σ (fun d' σ' => d' = d ∧ σ' = σ) → aExec Z o.op 0 env σ1 (fun d' σ' => d' = d ∧ σ' = σ1) := fun hx => by
    have hk : keepKind o.op = true := by unfold keepKind; rw [hf]; rfl
    rw [keep_exec hk (by decide)] at hx ⊢
    rw [hf_indep hf 0 env σ1.get σ.get σ1.next σ.next]
    split at hx
    · rename_i d' e he
      have := keep_eff hk he
      subst this
      exact fun hl => ⟨(hx hl).1, rfl⟩
    · exact hx.elim
  unfold aOne at h ⊢
  cases hg : o.guard with
  | none => rw [hg] at h; exact key h
  | some p =>
    obtain ⟨t, b⟩ := p
    rw [hg] at h
    simp only at h ⊢
    cases hc : gate (env t) b with
    | none => rw [hc] at h; exact h.elim
    | some c =>
      rw [hc] at h
      cases c with
      | true => exact key h
      | false => simp only at h ⊢; first | exact ⟨h.1, trivial⟩ | exact ⟨h.1, rfl⟩ | exact h
theorem updO_inj {env : Env} {t : Option Nat} {a b : D} (h : updO env t a = updO env t b) : t = none ∨ a = b := by
  cases t with
  | none => exact .inl rfl
  | some t =>
    right
    have := congrFun h t
    simpa [updO, upd] using this
theorem actOps_ok {Z : Sys} {σ σ1 : Heap} {k : Nat} : ∀ (l : List LOp) (i : Nat) {K : Env → Prop} {env : Env}, (l.all fun o => hfKind o.op || o.dst.isSome) = true → actOps Z σ σ1 k i l K env → aActs Z σ σ1 k i l K env
  | [], _, _, _, _, h => h
  | o :: l, i, K, env, hd, h => by
    simp only [List.all_cons, Bool.and_eq_true] at hd
    simp only [actOps] at h
    simp only [aActs, aBoth]
    split at h
    · rename_i hik
      subst hik
      obtain ⟨hg, d, e, h1, h2, h3⟩ := h
      refine ⟨d, ?_, actOps_ok l _ hd.2 h3⟩
      rw [beq_self_eq_true, if_pos rfl]
      unfold aOne
      rw [hg]
      simp only
      have hx : exec Z o.op 0 env σ.get σ.next = some (d, e) := by unfold exec; rw [if_neg (by decide)]; exact h1
      have hfin : (match exec Z o.op 0 env σ.get σ.next with | some (d', e') => lenOK o.op env → d' = d ∧ σ.app e' = σ1 | none => False) := by rw [hx]; exact fun _ => ⟨rfl, h2⟩
      generalize o.op = op at h1 hx hfin
      cases op <;> first
        | exact hfin
        | (simp [exec0] at h1; done)
        | (rename_i c; obtain ⟨callee, args, ats⟩ := c; cases callee <;> first | exact hfin | (simp [exec0] at h1; done))
        | (rename_i x b; cases b <;> first | exact hfin | (simp [exec0] at h1; done))
    · rename_i hik
      have hne : (i == k) = false := by simpa using hik
      simp only [hne, Bool.false_eq_true, if_false]
      split at h
      · rename_i hf
        obtain ⟨d, h1, h2⟩ := one_of_still (sOp_ok h)
        exact ⟨d, ⟨h1, one_hf hf h1⟩, actOps_ok l _ hd.2 h2⟩
      · rename_i hf
        obtain ⟨d, h1, h2⟩ := one_of_still (sOp_ok h)
        obtain ⟨d', h3, h4, h5⟩ := one_of_still (sOp_ok h2)
        rcases updO_inj h4 with h0 | rfl
        · have := hd.1; rw [h0] at this; simp [hf] at this
        · exact ⟨d', ⟨h1, h3⟩, actOps_ok l _ hd.2 h5⟩
theorem draw_a {Z : Sys} {l : List LOp} {s : Bool} {ts pl : List Nat} {Q : Ex → Env → Heap → Prop} {env : Env} {σ : Heap} {h : Keep (l, s, ts, pl, Q, env, σ)} (n k : Nat) (σ1 : Heap) (hn : n ∈ ts) (hk : k < n) (hd : ((l.take n).all fun o => hfKind o.op || o.dst.isSome) = true) (hs : actOps Z σ σ1 k 0 (l.take n) (fun e => aOps Z (l.drop n) (Q .normal) e σ1) env) : kDraw Z l s ts pl Q env σ h :=
  .inr (.inr (.inr ⟨n, k, σ1, hn, hk, actOps_ok _ _ hd hs⟩))
/-- By a plan: what only looks, and what does. -/
def pOps (Z : Sys) : List LOp → (Env → Heap → Prop) → Env → Heap → Prop
  | [], K, env, σ => K env σ
  | o :: l, K, env, σ => if keepKind o.op then sOp Z σ o (fun e => pOps Z l K e σ) env else aOp Z o env σ (pOps Z l K)
theorem Fn.useS {Z : Sys} {f : FuncId} {ds : List D} {x : D} {σ : Heap} {k : D → Prop} {h : Keep k} (c : Fn Z f ds x) (hk : k x) : kSCall Z f ds σ k h := ⟨x, c σ, hk⟩
section
variable {Z : Sys} {env : Env} {σ : Heap} {k : D → Prop} {k' : Env → Prop}
def kS (r : Option D) (k : D → Prop) (_ : Keep k) : Prop := match r with | some d => k d | none => False
theorem kS_some {d : D} {h : Keep k} : kS (some d) k h = k d := (rfl)
theorem kS_none {h : Keep k} : kS none k h = False := (rfl)
def kSv (d : D) (k : D → Prop) (_ : Keep k) : Prop := k d
theorem kSv_go {d : D} {h : Keep k} : kSv d k h = k d := (rfl)
theorem kS_ite {c : Prop} [Decidable c] {d : D} {h : Keep k} : kS (if c then some d else none) k h = (c ∧ kSv d k ⟨⟩) := by by_cases hc : c <;> simp [hc, kS, kSv]
theorem sOps_nil : sOps Z σ [] k' env = k' env := (rfl)
theorem sOps_cons {o : LOp} {l : List LOp} : sOps Z σ (o :: l) k' env = sOp Z σ o (sOps Z σ l k') env := (rfl)
theorem sOp_plain_some {dst : Nat} {op : Op} {ann : Nat} : sOp Z σ ⟨some dst, op, none, ann⟩ k' env = sExec Z op env σ fun d => k' (upd env dst d) := (rfl)
theorem sOp_guard_some {dst : Nat} {op : Op} {ann t : Nat} {b : Bool} : sOp Z σ ⟨some dst, op, some (t, b), ann⟩ k' env =
    (match gate (env t) b with
    | some true => sExec Z op env σ fun d => k' (upd env dst d)
    | some false => k' (upd env dst (.tup []))
    | none => False) := (rfl)
variable {K : Env → Heap → Prop}
theorem pOps_nil : pOps Z [] K env σ = K env σ := (rfl)
theorem sExec_move {x : Operand} : sExec Z (.move x) env σ k = kSv (ev env x) k ⟨⟩ := (rfl)
theorem sExec_assign {x : Operand} : sExec Z (.assign x) env σ k = kSv (ev env x) k ⟨⟩ := (rfl)
theorem sExec_pick {c a b : Operand} : sExec Z (.pick c a b) env σ k = (match ev env c with | .bool t => kSv (if t then ev env a else ev env b) k ⟨⟩ | _ => False) := by simp only [sExec, exec0]; cases ev env c <;> rfl
theorem sExec_load {t : TypeId} {x : Operand} : sExec Z (.load t x) env σ k = kS (loadD Z σ.get t (ev env x)) k ⟨⟩ := by simp only [sExec, exec0]; cases loadD Z σ.get t (ev env x) <;> rfl
theorem sExec_nilCheck {x : Operand} : sExec Z (.nilCheck x) env σ k = (match ev env x with
    | .ptr r o => kSv (.ptr r o) k ⟨⟩
    | .at cs => kSv (.at cs) k ⟨⟩
    | .func f cs => kSv (.func f cs) k ⟨⟩
    | .meth m t => kS (methD Z m t) k ⟨⟩
    | _ => False) := by
  simp only [sExec, exec0]
  cases ev env x with
  | meth m t => simp only [methD]; cases (Z.M t m).isSome <;> rfl
  | _ => rfl
theorem sExec_binOp {op : BinOp} {t t' : TypeId} {x y : Operand} : sExec Z (.binOp op t x y t') env σ k = kS (binD Z op t (ev env x) (ev env y)) k ⟨⟩ := by simp only [sExec, exec0]; cases binD Z op t (ev env x) (ev env y) <;> rfl
theorem sExec_unOp {op : UnOp} {t : TypeId} {x : Operand} : sExec Z (.unOp op t x) env σ k = kS (unD op (ev env x)) k ⟨⟩ := by simp only [sExec, exec0]; cases unD op (ev env x) <;> rfl
theorem sExec_convert {s t : TypeId} {x : Operand} : sExec Z (.convert s t x) env σ k = kS (convD Z s t (ev env x)) k ⟨⟩ := by simp only [sExec, exec0]; cases convD Z s t (ev env x) <;> rfl
theorem sExec_makeInterface {t : TypeId} {x : Operand} : sExec Z (.makeInterface t x) env σ k = kS (ifaceD Z t (ev env x)) k ⟨⟩ := by simp only [sExec, exec0]; cases ifaceD Z t (ev env x) <;> rfl
theorem sExec_slice {t : TypeId} {x : Operand} {lo hi : Option Operand} : sExec Z (.slice t x lo hi none) env σ k = kS (sliceD Z σ.get t (ev env x) (lo.map (ev env)) (hi.map (ev env)) none) k ⟨⟩ := by simp only [sExec, exec0]; simp; cases sliceD Z σ.get t (ev env x) (lo.map (ev env)) (hi.map (ev env)) none <;> rfl
theorem sExec_fieldAddr {t : TypeId} {x : Operand} {f : Nat} : sExec Z (.fieldAddr t x f) env σ k = kS (fieldAddrD Z t f (ev env x)) k ⟨⟩ := by simp only [sExec, exec0]; cases fieldAddrD Z t f (ev env x) <;> rfl
theorem sExec_field {t : TypeId} {x : Operand} {f : Nat} : sExec Z (.field t x f) env σ k = kS (fieldD Z t f (ev env x)) k ⟨⟩ := by simp only [sExec, exec0]; cases fieldD Z t f (ev env x) <;> rfl
theorem sExec_indexAddr {t : TypeId} {x i : Operand} : sExec Z (.indexAddr t x i) env σ k = kS (indexAddrD Z t (ev env x) (ev env i)) k ⟨⟩ := by simp only [sExec, exec0]; cases indexAddrD Z t (ev env x) (ev env i) <;> rfl
theorem sExec_index {t : TypeId} {x i : Operand} : sExec Z (.index t x i) env σ k = kS (indexD Z t (ev env x) (ev env i)) k ⟨⟩ := by simp only [sExec, exec0]; cases indexD Z t (ev env x) (ev env i) <;> rfl
theorem sExec_lookup {t : TypeId} {m x : Operand} {ok : Bool} : sExec Z (.lookup t m x ok) env σ k = kS (lookupD Z σ.get t (ev env m) (ev env x) ok) k ⟨⟩ := by simp only [sExec, exec0]; cases lookupD Z σ.get t (ev env m) (ev env x) ok <;> rfl
theorem sExec_extract {x : Operand} {i : Nat} : sExec Z (.extract x i) env σ k = kS (extractD (ev env x) i) k ⟨⟩ := by simp only [sExec, exec0]; cases extractD (ev env x) i <;> rfl
theorem sExec_build {t : TypeId} {ps : List (Nat × Operand)} : sExec Z (.build t ps.toArray) env σ k = kS ((aBuilt Z t (ps.map fun p => (p.1, ev env p.2))).map .agg) k ⟨⟩ := by simp only [sExec, exec0]; cases aBuilt Z t (ps.map fun p => (p.1, ev env p.2)) <;> rfl
def keptD (r : Option (D × Eff)) : Option D := match r with | some (d, .keep) => some d | _ => none
theorem sExec_buildSlice {t : TypeId} {len : Nat} {ps : List (Nat × Operand)} : sExec Z (.buildSlice t len ps.toArray) env σ k = kS (keptD (buildSliceR Z 0 t len (ps.map fun p => (p.1, ev env p.2)) σ.next)) k ⟨⟩ := by
  simp only [sExec, exec0]
  cases buildSliceR Z 0 t len (ps.map fun p => (p.1, ev env p.2)) σ.next with
  | none => rfl
  | some p => obtain ⟨d, e⟩ := p; cases e <;> rfl
theorem sExec_makeFunc {f : FuncId} {caps : List Operand} : sExec Z (.makeFunc (.func f) #[] caps.toArray) env σ k = kSv (.func f (caps.map (ev env))) k ⟨⟩ := (rfl)
theorem sExec_makeBound {f : FuncId} {y : Operand} : sExec Z (.makeFunc (.func f) #[y] [].toArray) env σ k = kSv (.bfunc f [ev env y]) k ⟨⟩ := (rfl)
theorem sExec_makeMeth {m : String} {y : Operand} {caps : List Operand} : sExec Z (.makeFunc (.method m) #[y] caps.toArray) env σ k = (match ev env y with
    | .iface t _ => kSv (.meth m t) k ⟨⟩
    | _ => False) := by simp only [sExec, exec0]; cases ev env y <;> rfl
theorem sExec_len {x : Operand} {ts : Array TypeId} : sExec Z (.call ⟨.builtin .len, [x].toArray, ts⟩) env σ k = kS (lenD Z σ.get ts (ev env x)) k ⟨⟩ := by simp only [sExec, exec0, builtinR]; simp; cases lenD Z σ.get ts (ev env x) <;> rfl
theorem sExec_min {x y : Operand} {ts : Array TypeId} : sExec Z (.call ⟨.builtin .min, [x, y].toArray, ts⟩) env σ k = kS (minD (ev env x) (ev env y)) k ⟨⟩ := by simp only [sExec, exec0, builtinR]; simp; cases ev env x <;> cases ev env y <;> rfl
theorem sExec_max {x y : Operand} {ts : Array TypeId} : sExec Z (.call ⟨.builtin .max, [x, y].toArray, ts⟩) env σ k = kS (maxD (ev env x) (ev env y)) k ⟨⟩ := by simp only [sExec, exec0, builtinR]; simp; cases ev env x <;> cases ev env y <;> rfl
theorem sExec_max4 {x y z u : Operand} {ts : Array TypeId} : sExec Z (.call ⟨.builtin .max, [x, y, z, u].toArray, ts⟩) env σ k = kS (maxD4 (ev env x) (ev env y) (ev env z) (ev env u)) k ⟨⟩ := by
  have : exec0 Z (.call ⟨.builtin .max, [x, y, z, u].toArray, ts⟩) 0 env σ.get σ.next = (maxD4 (ev env x) (ev env y) (ev env z) (ev env u)).map (·, .keep) := builtinR_max4
  simp only [sExec, this]
  cases maxD4 (ev env x) (ev env y) (ev env z) (ev env u) <;> rfl
theorem sExec_fn {g : FuncId} {xs : List Operand} {ts : Array TypeId} : sExec Z (.call ⟨.value (.func g), xs.toArray, ts⟩) env σ k = kSCall Z g (xs.map (ev env)) σ k ⟨⟩ := by
  show kSCall Z g (xs.map (ev env) ++ []) σ k ⟨⟩ = _
  rw [List.append_nil]
theorem sExec_typeAssert {x : Operand} {xt t : TypeId} {ok : Bool} : sExec Z (.typeAssert x xt t ok) env σ k = kS (assertD Z t (ev env x) ok) k ⟨⟩ := by simp only [sExec, exec0]; cases assertD Z t (ev env x) ok <;> rfl
def kSMeth (Z : Sys) (t : TypeId) (m : String) (d : D) (ds : List D) (σ : Heap) (k : D → Prop) (_ : Keep k) : Prop := match Z.M t m with
  | some g => kSCall Z g (d :: ds) σ k ⟨⟩
  | none => False
theorem sExec_invoke {r : Operand} {m : String} {xs : List Operand} {ts : Array TypeId} : sExec Z (.call ⟨.invoke r m, xs.toArray, ts⟩) env σ k = (match ev env r with
    | .iface t d => kSMeth Z t m d (xs.map (ev env)) σ k ⟨⟩
    | _ => False) := (rfl)
theorem sExec_value {f : Operand} {xs : List Operand} {ts : Array TypeId} : sExec Z (.call ⟨.value f, xs.toArray, ts⟩) env σ k = (match ev env f with
    | .func g caps => kSCall Z g (xs.map (ev env) ++ caps) σ k ⟨⟩
    | .bfunc g fs => kSCall Z g (fs ++ xs.map (ev env)) σ k ⟨⟩
    | _ => False) := (rfl)
end
section
variable {Z : Sys} {σ σ1 : Heap} {k i : Nat} {env : Env} {K : Env → Prop} {o : LOp} {l : List LOp}
theorem actOps_nil : actOps Z σ σ1 k i [] K env = K env := (rfl)
theorem actOps_act (h : i = k) : actOps Z σ σ1 k i (o :: l) K env = actOp Z σ σ1 o (actOps Z σ σ1 k (i + 1) l K) env := by simp only [actOps, if_pos h]
theorem actOps_hf {dst : Option Nat} {op : Op} {g : Option (Nat × Bool)} {a : Nat} (h : i ≠ k) (hf : hfKind op = true) : actOps Z σ σ1 k i (⟨dst, op, g, a⟩ :: l) K env = sOp Z σ ⟨dst, op, g, a⟩ (actOps Z σ σ1 k (i + 1) l K) env := by simp only [actOps, if_neg h, if_pos hf]
theorem actOps_two {dst : Option Nat} {op : Op} {g : Option (Nat × Bool)} {a : Nat} (h : i ≠ k) (hf : hfKind op = false) : actOps Z σ σ1 k i (⟨dst, op, g, a⟩ :: l) K env = sOp Z σ ⟨dst, op, g, a⟩ (fun e1 => sOp Z σ1 ⟨dst, op, g, a⟩ (fun e2 => e2 = e1 ∧ actOps Z σ σ1 k (i + 1) l K e1) env) env := by simp only [actOps, if_neg h, hf, Bool.false_eq_true, if_false]
theorem hfB : (∀ x, hfKind (.move x) = true) ∧
  (∀ x, hfKind (.assign x) = true) ∧
  (∀ a b c, hfKind (.pick a b c) = true) ∧
  (∀ o a b c d, hfKind (.binOp o a b c d) = true) ∧
  (∀ o a b, hfKind (.unOp o a b) = true) ∧
  (∀ a b c, hfKind (.convert a b c) = true) ∧
  (∀ a b, hfKind (.makeInterface a b) = true) ∧
  (∀ a b c, hfKind (.makeFunc a b c) = true) ∧
  (∀ a b c, hfKind (.fieldAddr a b c) = true) ∧
  (∀ a b c, hfKind (.field a b c) = true) ∧
  (∀ a b c, hfKind (.indexAddr a b c) = true) ∧
  (∀ a b c, hfKind (.index a b c) = true) ∧
  (∀ a b, hfKind (.extract a b) = true) ∧
  (∀ a b, hfKind (.build a b) = true) ∧
  (∀ a, hfKind (.nilCheck a) = true) ∧
  (∀ a b, hfKind (.load a b) = false) ∧
  (∀ a b c, hfKind (.store a b c) = false) ∧
  (∀ a, hfKind (.call a) = false) ∧
  (∀ a b c d, hfKind (.lookup a b c d) = false) ∧
  (∀ a b c d e, hfKind (.slice a b c d e) = false) ∧
  (∀ a b c, hfKind (.mapEntry a b c) = false) ∧
  (∀ a b c d, hfKind (.mapUpdate a b c d) = false) ∧
  (∀ a b, hfKind (.box a b) = false) ∧
  (∀ a, hfKind (.alloc a) = false) ∧
  (∀ a b c d, hfKind (.typeAssert a b c d) = true) :=
  ⟨fun _ => (rfl), fun _ => (rfl), fun _ _ _ => (rfl), fun _ _ _ _ _ => (rfl), fun _ _ _ => (rfl), fun _ _ _ => (rfl), fun _ _ => (rfl), fun _ _ _ => (rfl), fun _ _ _ => (rfl), fun _ _ _ => (rfl), fun _ _ _ => (rfl), fun _ _ _ => (rfl), fun _ _ => (rfl), fun _ _ => (rfl), fun _ => (rfl), fun _ _ => (rfl), fun _ _ _ => (rfl), fun _ => (rfl), fun _ _ _ _ => (rfl), fun _ _ _ _ _ => (rfl), fun _ _ _ => (rfl), fun _ _ _ _ => (rfl), fun _ _ => (rfl), fun _ => (rfl), fun _ _ _ _ => (rfl)⟩
def kAct (r : Option (D × Eff)) (σ σ1 : Heap) (k : D → Prop) (_ : Keep k) : Prop := match r with | some (d, e) => σ.app e = σ1 ∧ k d | none => False
theorem kAct_some {d : D} {e : Eff} {k : D → Prop} {h : Keep k} : kAct (some (d, e)) σ σ1 k h = (σ.app e = σ1 ∧ k d) := (rfl)
theorem actOp_k {dst ann : Nat} {op : Op} : actOp Z σ σ1 ⟨some dst, op, none, ann⟩ K env = kAct (exec0 Z op 0 env σ.get σ.next) σ σ1 (fun d => K (upd env dst d)) ⟨⟩ := by
  unfold actOp kAct
  simp only [true_and]
  cases exec0 Z op 0 env σ.get σ.next with
  | none => simp
  | some p =>
    obtain ⟨d, e⟩ := p
    simp only [updO, Option.some.injEq, Prod.mk.injEq]
    exact propext ⟨fun ⟨a, b, ⟨h1, h2⟩, h3⟩ => by subst h1 h2; exact h3, fun h => ⟨_, _, ⟨rfl, rfl⟩, h⟩⟩
theorem actOp_alloc {dst ann : Nat} {e : TypeId} : actOp Z σ σ1 ⟨some dst, .alloc e, none, ann⟩ K env = kAct ((allocR Z e).map (.ptr σ.next 0, ·)) σ σ1 (fun d => K (upd env dst d)) ⟨⟩ := by rw [actOp_k]; rfl
theorem actOp_box {dst ann : Nat} {e : TypeId} {x : Operand} : actOp Z σ σ1 ⟨some dst, .box e x, none, ann⟩ K env = kAct ((boxR e (ev env x)).map (.ptr σ.next 0, ·)) σ σ1 (fun d => K (upd env dst d)) ⟨⟩ := by rw [actOp_k]; rfl
theorem actOp_makeMap {dst ann : Nat} {t : TypeId} : actOp Z σ σ1 ⟨some dst, .makeMap t none, none, ann⟩ K env = kAct (some (.map σ.next, .new (.map [] 0))) σ σ1 (fun d => K (upd env dst d)) ⟨⟩ := by rw [actOp_k]; rfl
theorem actOp_mapEntry {dst ann : Nat} {t : TypeId} {m x : Operand} : actOp Z σ σ1 ⟨some dst, .mapEntry t m x, none, ann⟩ K env = kAct (mapEntryR Z σ.get t (ev env m) (ev env x)) σ σ1 (fun d => K (upd env dst d)) ⟨⟩ := by rw [actOp_k]; rfl
end
end Go.Proofs.YthchlpikcpidaaaDoor.Vs
