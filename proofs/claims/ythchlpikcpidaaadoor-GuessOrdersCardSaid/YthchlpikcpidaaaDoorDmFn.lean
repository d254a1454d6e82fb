/- The engine 'Dm', part 9: functions. -/
import Derived.Test.YthchlpikcpidaaaDoorDmWp
namespace Go.Proofs.YthchlpikcpidaaaDoor.Vs
open Go.RowKit
set_option linter.unusedVariables false
set_option linter.unusedSimpArgs false
def rv (Z : Sys) (env : Env) (g : Nat → Option AO) : ResultVar → Option D
  | .tmp t => some (env t)
  | .cell a t =>
    match Z.T t, env a with
    | some i, .ptr r off => (match g r with
      | some (.cells _ cs) => pack i (cs.drop off)
      | _ => none)
    | _, _ => none

def rvs (Z : Sys) (env : Env) (g : Nat → Option AO) : List ResultVar → Option (List D)
  | [] => some []
  | x :: xs => match rv Z env g x, rvs Z env g xs with
    | some d, some ds => some (d :: ds)
    | _, _ => none

def ares (Z : Sys) (rs : List ResultVar) (env : Env) (g : Nat → Option AO) : Option D :=
  match rvs Z env g rs with
  | some [d] => some d
  | some ds => some (.tup ds)
  | none => none

theorem rv_ok {Z : Sys} {N : Nat} {env : Env} {s : GH} {a : Act} {w : World} (hS : Slots N env s a w) (hW : W s w) {x : ResultVar} {d : D} (h : rv Z env s.σ.get x = some d) (f : ResultVar → Sem Value)
    (f1 : ∀ t, f (.tmp t) = pure (a.tmps.getD t undef)) (f2 : ∀ b t, f (.cell b t) = (do loadVar t (← asAddr (a.tmps.getD b undef)))) : ∃ v, (f x).run Z.P w = .ok v w ∧ V w (Lim s) v d := by
  cases x with
  | tmp t => simp only [rv] at h; cases h; exact ⟨_, by rw [f1]; rfl, hS.2.2 t⟩
  | cell b t =>
    simp only [rv] at h
    split at h
    · rename_i i r off hi hb
      split at h
      · rename_i e cs hr
        have hv := hS.2.2 b
        rw [hb] at hv
        generalize hbv : a.tmps.getD b undef = bv at hv
        cases hv with
        | ptr _ _ hlt =>
        rw [Lim_ρ] at hbv
        obtain ⟨us, h1, hc, hvv⟩ := ptr_cells (off := off) (hW.obj r _ hr)
        obtain ⟨v, hrun, hV⟩ := run_loadVar (w := w) hi h1 hc hvv h
        exact ⟨v, by rw [f2, hbv]; simp [asAddr, hrun], hV⟩
      · cases h
    · cases h

theorem rvs_ok {Z : Sys} {N : Nat} {env : Env} {s : GH} {a : Act} {w : World} (hS : Slots N env s a w) (hW : W s w) (f : ResultVar → Sem Value)
    (f1 : ∀ t, f (.tmp t) = pure (a.tmps.getD t undef)) (f2 : ∀ b t, f (.cell b t) = (do loadVar t (← asAddr (a.tmps.getD b undef)))) : ∀ (xs : List ResultVar) (ds : List D), rvs Z env s.σ.get xs = some ds →
    ∃ vs : List Value, (xs.mapM f).run Z.P w = .ok vs w ∧ vs.length = ds.length ∧ ∀ i (h : i < ds.length), V w (Lim s) (vs.getD i undef) ds[i]
  | [], ds, h => by simp [rvs] at h; subst h; exact ⟨[], by simp, rfl, fun i hi => absurd hi (by simp)⟩
  | x :: xs, ds, h => by
    simp only [rvs] at h
    split at h
    · rename_i d ds' hd hds
      cases h
      obtain ⟨v, h1, h2⟩ := rv_ok hS hW hd f f1 f2
      obtain ⟨vs, h3, h4, h5⟩ := rvs_ok hS hW f f1 f2 xs ds' hds
      refine ⟨v :: vs, ?_, by simp [h4], fun i hi => ?_⟩
      · rw [List.mapM_cons, Sem.run_bind, h1]
        simp only [Result.andThen_ok, Sem.run_bind, h3, Sem.run_pure]
      · cases i with
        | zero => exact h2
        | succ i => simpa [List.getD] using h5 i (by simpa using hi)
    · cases h

theorem ares_ok {Z : Sys} {N : Nat} {env : Env} {s : GH} {a : Act} {w : World} (hS : Slots N env s a w) (hW : W s w) {fn : Func} {d : D} (h : ares Z fn.results.toList env s.σ.get = some d) :
    ∃ v, (results fn a.tmps).run Z.P w = .ok v w ∧ V w (Lim s) v d := by
  unfold ares at h
  have key : ∀ ds, rvs Z env s.σ.get fn.results.toList = some ds → ∃ vs : List Value, (results fn a.tmps).run Z.P w = .ok (if h : vs.toArray.size = 1 then vs.toArray[0] else .tuple vs.toArray) w ∧ vs.length = ds.length ∧ ∀ i (h : i < ds.length), V w (Lim s) (vs.getD i undef) ds[i] := fun ds hds => by
    obtain ⟨vs, h1, h2, h3⟩ := rvs_ok hS hW (fun x => match x with | .tmp t => pure (a.tmps.getD t undef) | .cell b t => do loadVar t (← asAddr (a.tmps.getD b undef))) (fun _ => rfl) (fun _ _ => rfl) _ _ hds
    refine ⟨vs, ?_, h2, h3⟩
    unfold results
    rw [Array.mapM_eq_mapM_toList]
    simp only [bind_map_left, Sem.run_bind]
    refine (congrArg (fun r : Result (List Value) => r.andThen _) h1).trans ?_
    rfl
  split at h
  · rename_i d' hd
    cases h
    obtain ⟨vs, h1, h2, h3⟩ := key _ hd
    match vs, h2 with
    | [v], _ => exact ⟨v, by simpa using h1, by simpa using h3 0 (by simp)⟩
  · rename_i ds hne hds
    cases h
    obtain ⟨vs, h1, h2, h3⟩ := key _ hds
    have hl : ¬ (vs.toArray.size = 1) := fun hl => by
      have : ds.length = 1 := by rw [← h2]; simpa using hl
      match ds, this with
      | [d], _ => exact hne d rfl
    rw [dif_neg hl] at h1
    exact ⟨_, h1, .tup _ _ (by simpa using h2) (fun i hi => by simpa [List.getD, Array.getD_eq_getD_getElem?] using h3 i hi)⟩
  · cases h

/-- What a value is told as, if of the objects of σ those of τ alone are told. -/
inductive Told (σ τ : Heap) : D → D → Prop
  | refl (d : D) : Told σ τ d d
  | junk (d : D) : Told σ τ d .junk
  | sl (o o' : Own) (n : Nat) (cs cs' : List D) (ho : o' = .no ∨ o' = o) (hl : cs.length = cs'.length) (h : ∀ i (h1 : i < cs.length) (h2 : i < cs'.length), Told σ τ cs[i] cs'[i]) : Told σ τ (.sl o n cs) (.sl o' n cs')
  | row (r off n : Nat) (c : Option Nat) (z : Nat) (e : TypeId) (cs cs' : List D) (hr : σ.get r = some (.cells e cs)) (ht : τ.get r = none) (hf : off + n * z ≤ cs.length) (hl : cs'.length = n * z)
      (h : ∀ i (h1 : i < n * z) (h2 : i < cs'.length), Told σ τ (cs[off + i]'(by omega)) cs'[i]) : Told σ τ (.row r off n c z) (.sl .no n cs')
  | agg (cs cs' : List D) (hl : cs.length = cs'.length) (h : ∀ i (h1 : i < cs.length) (h2 : i < cs'.length), Told σ τ cs[i] cs'[i]) : Told σ τ (.agg cs) (.agg cs')
  | tup (cs cs' : List D) (hl : cs.length = cs'.length) (h : ∀ i (h1 : i < cs.length) (h2 : i < cs'.length), Told σ τ cs[i] cs'[i]) : Told σ τ (.tup cs) (.tup cs')
  | iface (t : TypeId) (d d' : D) (h : Told σ τ d d') : Told σ τ (.iface t d) (.iface t d')

theorem Told.ok {τ : Heap} {s : GH} {w : World} (hW : W s w) (hle : HLe τ s.σ) {d d' : D} (h : Told s.σ τ d d') : ∀ {v : Value}, V w (Lim s) v d → Bel τ.next d' → V w (Lim ⟨τ, s.ρ⟩) v d' := by
  induction h with
  | refl d => exact fun hv hb => hv.less hle hb
  | junk d => exact fun hv hb => .junk _
  | sl o o' n cs cs' ho hl h ih =>
    intro v hv hb
    cases hb with
    | sl _ _ _ hb1 hb2 =>
    cases hv with
    | sl _ _ c A _ us hn hbg hok h1 hc hvv =>
    refine .sl o' n c A cs' us hn hbg ?_ (fun i hi => h1 i (by omega)) (fun i hi => ?_) (fun i hi => ih i (by omega) hi (hvv i (by omega)) (hb2 _ (List.getElem_mem hi)))
    · rcases ho with rfl | rfl
      · cases o with
        | nil => exact fun _ => hok.2.1
        | no => exact hok
        | full => intro hA; rw [hA] at hok; exact absurd hok.1 (by simp)
        | tip r z => intro hA; rw [hok.1] at hA; cases hA
      · cases o' with
        | tip r z => exact ⟨hok.1, hok.2.1, hb1 r z rfl⟩
        | _ => exact hok
    · obtain ⟨a, ha, hc1, hc2⟩ := hc i (by omega)
      exact ⟨a, ha, hc1, Lim_less hle hc2⟩
  | row r off n c z e cs cs' hr ht hf hl h ih =>
    intro v hv hb
    cases hb with
    | sl _ _ _ hb1 hb2 =>
    cases hv with
    | row _ _ _ _ _ a c' hlt hn hbg hcap ha =>
    rw [Lim_ρ] at ha
    have hc' : 0 < n * z → 0 < c' := fun hp => by
      have : 0 < n := Nat.pos_of_mul_pos_right hp
      omega
    obtain ⟨us, h1, h2, h3⟩ := row_cells (n := n) (c' := c') hW hr ha hf hc'
    have hlen : ((cs.drop off).take (n * z)).length = n * z := by simp; omega
    have hfree : Free ⟨τ, s.ρ⟩ (s.ρ r).blk := fun q x hq he => by
      have hqr : q ≠ r := fun h => by subst h; simp only [ht] at hq; cases hq
      exact hW.inj' hr (hle.get q x hq) hqr he
    refine .sl .no n c' (some a) cs' us hn hbg (fun hA => by cases hA) (fun i hi => h1 i (by omega)) (fun i hi => ?_) (fun i hi => ?_)
    · obtain ⟨a', ha', hc⟩ := h2 i (by omega)
      refine ⟨a', ha', hc, ?_⟩
      have haa := ha (hc' (by omega))
      cases ha'
      have hb' : a.block = (s.ρ r).blk := by rw [haa]
      rw [hb']
      exact hfree.ok _
    · have := h3 i (by omega)
      simp only [List.getElem_take, List.getElem_drop] at this
      exact ih i (by omega) hi this (hb2 _ (List.getElem_mem hi))
  | agg cs cs' hl h ih =>
    intro v hv hb
    cases hb with
    | agg _ hb =>
    cases hv with
    | agg vs _ hl' h1 hv => exact .agg vs cs' (by omega) h1 (fun i hi => ih i (by omega) hi (hv i (by omega)) (hb _ (List.getElem_mem hi)))
  | tup cs cs' hl h ih =>
    intro v hv hb
    cases hb with
    | tup _ hb =>
    cases hv with
    | tup vs _ hl' hv => exact .tup vs cs' (by omega) (fun i hi => ih i (by omega) hi (hv i (by omega)) (hb _ (List.getElem_mem hi)))
  | iface t d d' h ih =>
    intro v hv hb
    cases hb with
    | iface _ _ hb =>
    cases hv with
    | iface _ u _ hv => exact .iface t u d' (ih hv hb)

/-- The same world, told with fewer objects, or a value told with less. -/
def Conv (σ : Heap) (d : D) (σ' : Heap) (d' : D) : Prop := ∀ w s v, s.σ = σ → V w (Lim s) v d → W s w → ∃ s', s'.σ = σ' ∧ V w (Lim s') v d' ∧ W s' w ∧ ∀ w0 s0, Ext w0 s0 w s → s0.σ.next ≤ σ'.next → Ext w0 s0 w s'
theorem Conv.refl (σ : Heap) (d : D) : Conv σ d σ d := fun w s v hs h hW => ⟨s, hs, h, hW, fun _ _ h _ => h⟩
theorem Conv.told {σ τ : Heap} {d d' : D} (hle : HLe τ σ) (hc : Closed τ) (h : Told σ τ d d') (hb : Bel τ.next d') : Conv σ d τ d' := fun w s v hs hv hW => by
  subst hs
  exact ⟨⟨τ, s.ρ⟩, rfl, h.ok hW hle hv hb, hW.less hle hc, fun w0 s0 h0 hn => h0.less hle hn⟩

def Ret (σ0 : Heap) (K : D → Heap → Prop) (d : D) (σ : Heap) : Prop := ∃ σ' d', Conv σ d σ' d' ∧ σ0.next ≤ σ'.next ∧ K d' σ'
theorem Ret.now {σ0 : Heap} {K : D → Heap → Prop} {d : D} {σ : Heap} (hn : σ0.next ≤ σ.next) (h : K d σ) : Ret σ0 K d σ := ⟨σ, d, Conv.refl σ d, hn, h⟩
theorem Ret.told {σ0 : Heap} {K : D → Heap → Prop} {d : D} {σ : Heap} (τ : Heap) (d' : D) (hn : σ0.next ≤ τ.next) (hle : HLe τ σ) (hc : Closed τ) (ht : Told σ τ d d') (hb : Bel τ.next d') (h : K d' τ) : Ret σ0 K d σ := ⟨τ, d', Conv.told hle hc ht hb, hn, h⟩

def retQ (Z : Sys) (rs : List ResultVar) (σ0 : Heap) (K : D → Heap → Prop) : Ex → Env → Heap → Prop
  | .exit _, _, _ => False
  | _, env, σ => ∃ d, ares Z rs env σ.get = some d ∧ Ret σ0 K d σ

def envOf (ds : List D) : Env := fun t => ds.getD t .junk

/-- What is asked of the program's own text of a function. -/
structure FnOK (P : Program) (f : FuncId) (L : LCode) (rs : List ResultVar) (k : Nat) : Prop where
  ok : ∃ fn c, P.funcs[f]? = some fn ∧ fn.body = some c ∧ L.bare = strip c ∧ codeOK fn.ntmps c = true ∧ fn.results.toList = rs ∧ (fn.name == "runtime.NumGoroutine") = false ∧ k ≤ fn.ntmps ∧ P.follows .mixedOrders = true

theorem pcall_of {Z : Sys} {f : FuncId} {L : LCode} {rs : List ResultVar} {ds : List D} {σ : Heap} {K : D → Heap → Prop} (hF : FnOK Z.P f L rs ds.length) (h : Closed σ → (∀ d ∈ ds, Bel σ.next d) → pwp Z L (retQ Z rs σ K) (envOf ds) σ) : PCall Z f ds σ K := by
  obtain ⟨fn, c, hf, hb, hL, hk, hr, hn, hlen, hm⟩ := hF.ok
  refine ⟨⟨fn, hf, by rw [hb]; rfl, hn⟩, fun w s vs hs hv hW => ?_⟩
  subst hs
  have h := h hW.closed (bel_all fun i hi => (hv.2 i hi).bel)
  refine calls_of_wp hf hb ?_
  have hsz : vs.size = ds.length := hv.1
  have hC : Cpl fn.ntmps w s (envOf ds) s.σ { tmps := vs ++ Array.replicate (fn.ntmps - vs.size) undef, defers := [] } w := by
    refine ⟨s, rfl, ⟨rfl, by simp; omega, fun t => ?_⟩, hW, Ext.refl hW⟩
    simp only [envOf]
    by_cases ht : t < ds.length
    · have := hv.2 t ht
      rw [Array.getD_eq_getD_getElem?, Array.getElem?_append_left (by omega), ← Array.getD_eq_getD_getElem?]
      simpa [List.getD, ht] using this
    · simp only [List.getD, List.getElem?_eq_none (Nat.le_of_not_lt ht)]
      exact .junk _
  have fin : ∀ a w' env σ', Cpl fn.ntmps w s env σ' a w' → (∃ d, ares Z rs env σ'.get = some d ∧ Ret s.σ K d σ') →
      a.defers = [] ∧ ∃ v, (results fn a.tmps).run Z.P w' = .ok v w' ∧ ∃ u d t, Ending.returned v = .returned u ∧ V w' (Lim t) u d ∧ W t w' ∧ Ext w s w' t ∧ K d t.σ := fun a w' env σ' hc ⟨d, hd, σ2, d2, hconv, hnx, hK⟩ => by
    obtain ⟨s1, rfl, hS, hW1, hE1⟩ := hc
    obtain ⟨v, hrun, hV⟩ := ares_ok hS hW1 (fn := fn) (by rw [hr]; exact hd)
    obtain ⟨s2, h1, h2, h3, h4⟩ := hconv w' s1 v rfl hV hW1
    exact ⟨hS.1, v, hrun, v, d2, s2, rfl, h2, h3, h4 w s hE1 hnx, by rw [h1]; exact hK⟩
  refine pwp_ok hm c L (retQ Z rs s.σ K) _ (envOf ds) s.σ _ w hL hk (fun e a w' ho => ?_) hC h
  cases e with
  | normal => obtain ⟨env, σ', hq, hc⟩ := ho; exact fin a w' env σ' hc hq
  | ret => obtain ⟨env, σ', hq, hc⟩ := ho; exact fin a w' env σ' hc hq
  | exit id => obtain ⟨env, σ', hq, hc⟩ := ho; exact hq.elim
  | _ => exact ho.elim

/-- A call with arguments of which less is told. -/
theorem PCall.args {Z : Sys} {f : FuncId} {ds ds' : List D} {σ : Heap} {K : D → Heap → Prop} (h : PCall Z f ds' σ K) (hl : ds.length = ds'.length) (ht : ∀ i (h1 : i < ds.length) (h2 : i < ds'.length), Told σ σ ds[i] ds'[i] ∧ (Bel σ.next ds[i] → Bel σ.next ds'[i])) : PCall Z f ds σ K :=
  ⟨h.1, fun w s vs hs hv hW => h.2 w s vs hs ⟨by rw [hv.1, hl], fun i hi => by
    subst hs
    have h1 := hv.2 i (by omega)
    obtain ⟨h2, h3⟩ := ht i (by omega) hi
    have := h2.ok hW (HLe.refl _) h1 (h3 h1.bel)
    exact this⟩ hW⟩
end Go.Proofs.YthchlpikcpidaaaDoor.Vs
