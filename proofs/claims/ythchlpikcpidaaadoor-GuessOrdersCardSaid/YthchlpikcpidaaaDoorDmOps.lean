/- The engine 'Dm', part 2: what an operation does to pure values, and that the program's operation does just that. -/
import Derived.Test.YthchlpikcpidaaaDoorDmBase
namespace Go.Proofs.YthchlpikcpidaaaDoor.Vs
open Go.RowKit
set_option linter.unusedVariables false
set_option linter.unusedSimpArgs false
def TInfo.isAgg (i : TInfo) : Bool := match i.d with | .struct _ | .array _ _ => true | _ => false

theorem Sys.isAgg (Z : Sys) {t : TypeId} {i : TInfo} (h : Z.T t = some i) (w : World) : (Go.isAgg t).run Z.P w = .ok i.isAgg w := by
  have := run_underlying (Z.out h).1 w
  cases hd : i.d <;> simp [Go.isAgg, this, hd, TInfo.isAgg]

def D.one : D → Bool
  | .junk | .agg _ | .tup _ => false
  | _ => true

theorem V.one {w : World} {L : Lk} {v : Value} {d : D} (h : V w L v d) (hd : d.one = true) : v.oneCell' = true ∧ v.cells = #[v] := by
  cases h <;> first | exact ⟨rfl, rfl⟩ | simp [D.one] at hd

/-- A value's cells. -/
def D.cells : D → Option (List D)
  | .agg cs => some cs
  | d => if d.one then some [d] else none

/-- An array's cells stand for a list of pure ones. -/
def Vs (w : World) (L : Lk) (vs : Array Value) (cs : List D) : Prop :=
  vs.size = cs.length ∧ (∀ v ∈ vs.toList, v.oneCell' = true) ∧ ∀ i (h : i < cs.length), V w L (vs.getD i undef) cs[i]

theorem V.cells {w : World} {L : Lk} {v : Value} {d : D} {cs : List D} (h : V w L v d) (hd : d.cells = some cs) : Vs w L v.cells cs := by
  by_cases h1 : d.one = true
  · obtain ⟨h2, h3⟩ := h.one h1
    have : cs = [d] := by cases d <;> simp_all [D.cells, D.one]
    subst this
    rw [h3]
    refine ⟨rfl, by simpa using h2, fun i hi => ?_⟩
    have : i = 0 := by simpa using hi
    subst this
    simpa using h
  · cases h with
    | agg vs cs' hl ho hv => simp [D.cells] at hd; subst hd; exact ⟨hl, ho, hv⟩
    | _ => simp_all [D.cells, D.one]

def pack (i : TInfo) (cs : List D) : Option D :=
  if i.isAgg then (if i.size ≤ cs.length then some (.agg (cs.take i.size)) else none) else cs.head?

theorem add_zero (a : Addr) : a.add 0 = a := by simp [Addr.add]

theorem add_add (a : Addr) (i j : Nat) : (a.add i).add j = a.add (i + j) := by
  unfold Addr.add
  by_cases hi : i = 0
  · subst hi; simp
  · by_cases hj : j = 0
    · subst hj; simp [hi]
    · simp [hi, hj, Nat.add_assoc]

theorem add_block' (a : Addr) (i : Nat) : (a.add i).block = a.block := by unfold Addr.add; split <;> rfl

/-- Reading at an address behind which the cells stand for pure ones. -/
theorem run_loadVar {Z : Sys} {w : World} {L : Lk} {t : TypeId} {i : TInfo} (ht : Z.T t = some i) {a : Addr} {cs : List D} {us : Nat → Value}
    (h1 : ∀ i, i < cs.length → (us i).oneCell' = true) (hc : ∀ i, i < cs.length → w.cell? (a.add i) = some (us i)) (hv : ∀ i (h : i < cs.length), V w L (us i) cs[i])
    {d : D} (hp : pack i cs = some d) : ∃ v, (loadVar t a).run Z.P w = .ok v w ∧ V w L v d := by
  obtain ⟨hu, inf, hi, hs, hb, hz⟩ := Z.out ht
  have hag := Z.isAgg ht w
  unfold pack at hp
  split at hp
  · rename_i hA
    split at hp
    · rename_i hle
      cases hp
      refine ⟨.agg ((List.range i.size).map us).toArray, ?_, ?_⟩
      · have hl := run_loadCells_list (P := Z.P) w a ((List.range i.size).map us) (fun j v hj => by
          have hjl : j < i.size := by
            have := (List.getElem?_eq_some_iff.1 hj).1; simpa using this
          have : v = us j := by simp [hjl] at hj; exact hj.symm
          rw [this]; exact hc j (by omega))
        simp only [List.length_map, List.length_range] at hl
        simp [loadVar, hag, hA, sizeOf, typeInfo, hi, hs, hl]
      · refine .agg _ _ (by simp; omega) ?_ (fun j hj => ?_)
        · intro v hv'
          simp only [List.mem_map, List.mem_range] at hv'
          obtain ⟨j, hj, rfl⟩ := hv'
          exact h1 j (by omega)
        · have hj' : j < i.size := by simp at hj; omega
          have hjl : j < cs.length := by omega
          have := hv j hjl
          simpa [Array.getD, hj', List.getElem_take] using this
    · cases hp
  · rename_i hA
    cases cs with
    | nil => simp at hp
    | cons c cs =>
      simp at hp
      subst hp
      have h0 := hc 0 (by simp)
      rw [add_zero] at h0
      refine ⟨us 0, ?_, hv 0 (by simp)⟩
      simp [loadVar, hag, hA, h0]

/-- A value, and what is done. -/
def EOK (P : Program) (m : Sem Value) (w : World) (s : GH) (d : D) (e : Eff) : Prop :=
  ∃ v w' s', m.run P w = .ok v w' ∧ s'.σ = s.σ.app e ∧ V w' (Lim s') v d ∧ W s' w' ∧ Ext w s w' s'
theorem EOK.pure {P : Program} {m : Sem Value} {w : World} {s : GH} {v : Value} {d : D} (hW : W s w) (hr : m.run P w = .ok v w) (hv : V w (Lim s) v d) : EOK P m w s d .keep :=
  ⟨v, w, s, hr, rfl, hv, hW, Ext.refl hW⟩
def UOK (P : Program) (m : Sem Unit) (w : World) (s : GH) (e : Eff) : Prop :=
  ∃ w' s', m.run P w = .ok () w' ∧ s'.σ = s.σ.app e ∧ W s' w' ∧ Ext w s w' s'

theorem ptr_cells {w : World} {s : GH} {r off : Nat} {e : TypeId} {cs : List D} (h : ObjOK w s r (.cells e cs)) :
    ∃ us : Nat → Value, (∀ i, i < (cs.drop off).length → (us i).oneCell' = true) ∧ (∀ i, i < (cs.drop off).length → w.cell? ((⟨(s.ρ r).blk, (s.ρ r).base + off, none⟩ : Addr).add i) = some (us i)) ∧
      ∀ i (h : i < (cs.drop off).length), V w (Lim s) (us i) (cs.drop off)[i] := by
  obtain ⟨arr, h1, h2, h3, h4, h5⟩ := h
  refine ⟨fun i => arr.getD ((s.ρ r).base + (off + i)) undef, fun i hi => ?_, fun i hi => ?_, fun i hi => ?_⟩
  · exact h4 (off + i) (by simp at hi; omega)
  · have hlt : (s.ρ r).base + (off + i) < arr.size := by simp at hi; omega
    rw [addr_add, Nat.add_assoc]
    simp [World.cell?, h1, hlt, Array.getD]
  · have hlt : off + i < cs.length := by simp at hi; omega
    have := h5 (off + i) hlt
    simpa using this

def loadD (Z : Sys) (g : Nat → Option AO) (t : TypeId) (x : D) : Option D :=
  match Z.T t with
  | none => none
  | some i =>
    match x with
    | .at cs => pack i cs
    | .ptr r off => (match g r with
      | some (.cells _ cs) => pack i (cs.drop off)
      | _ => none)
    | _ => none

theorem loadD_ok {Z : Sys} {t : TypeId} {x d : D} {s : GH} {w : World} {u : Value} (hW : W s w) (hx : V w (Lim s) u x) (h : loadD Z s.σ.get t x = some d) :
    ∃ v, (Instr.loadAt t u).run Z.P w = .ok v w ∧ V w (Lim s) v d := by
  unfold loadD at h
  split at h
  · cases h
  · rename_i i hi
    split at h
    · rename_i cs
      cases hx with
      | «at» a cs us h1 hc hv =>
        obtain ⟨v, hr, hV⟩ := run_loadVar (w := w) hi h1 (fun j hj => (hc j hj).1) hv h
        exact ⟨v, by simp [Instr.loadAt, Instr.sureAddr, hr], hV⟩
    · rename_i r off
      split at h
      · rename_i e cs hr
        cases hx with
        | ptr _ _ hlt =>
          obtain ⟨us, h1, hc, hv⟩ := ptr_cells (off := off) (hW.obj r _ hr)
          obtain ⟨v, hr, hV⟩ := run_loadVar (w := w) hi h1 hc hv h
          exact ⟨v, by rw [Lim_ρ]; simp [Instr.loadAt, Instr.sureAddr, hr], hV⟩
      · cases h
    · cases h

def splice (cs : List D) (off : Nat) (ys : List D) : List D := cs.take off ++ ys ++ cs.drop (off + ys.length)

theorem setRow_other (w : World) (g : Nat) (cs : Array Value) (b : Nat) (h : b ≠ g) : (w.setRow g cs).heap[b]? = w.heap[b]? := by
  simp only [World.setRow, Array.getElem?_modify]
  rw [if_neg (by omega)]

theorem setRow_same (w : World) (g : Nat) (cs old : Array Value) (e : TypeId) (fr : Nat × Nat) (h : w.heap[g]? = some (.cells old e fr)) : (w.setRow g cs).heap[g]? = some (.cells cs e fr) := by
  simp [World.setRow, Array.getElem?_modify, h]

theorem getD_splice {α : Type} (arr : List α) (off : Nat) (ys : List α) (d : α) (h : off + ys.length ≤ arr.length) (i : Nat) :
    (arr.take off ++ ys ++ arr.drop (off + ys.length)).getD i d = if i < off then arr.getD i d else if i < off + ys.length then ys.getD (i - off) d else arr.getD i d := by
  have hl : (arr.take off).length = off := by simp; omega
  by_cases h1 : i < off
  · rw [if_pos h1, List.getD, List.getD, List.append_assoc, List.getElem?_append_left (by omega)]
    simp [h1]
  · rw [if_neg h1]
    by_cases h2 : i < off + ys.length
    · rw [if_pos h2, List.getD, List.getD, List.append_assoc, List.getElem?_append_right (by omega), List.getElem?_append_left (by omega), hl]
    · rw [if_neg h2, List.getD, List.getD, List.getElem?_append_right (by simp; omega)]
      congr 1
      rw [List.getElem?_drop]
      congr 1
      simp
      omega

theorem splice_length (cs : List D) (off : Nat) (ys : List D) (h : off + ys.length ≤ cs.length) : (splice cs off ys).length = cs.length := by
  simp [splice]; omega

theorem getD_toArray (l : List Value) (i : Nat) : l.toArray.getD i undef = l.getD i undef := by simp [List.getD]

theorem put_heap {w w' : World} {s : GH} {r : Nat} {o o' : AO} (hW : W s w) (hr : s.σ.get r = some o) (hsz : w'.heap.size = w.heap.size) (hos : w'.os = w.os) (htp : w'.tape = w.tape) (hout : w'.output = w.output)
    (hoth : ∀ b, b ≠ (s.ρ r).blk → w'.heap[b]? = w.heap[b]?) (hno : ∀ e n, o ≠ .tip e n) : Ext w s w' (s.put r o') := by
  refine ⟨hos, htp, hout, by rw [hsz]; exact Nat.le_refl _, Nat.le_refl _, fun _ _ => rfl, fun b hb hn => hoth b (fun e => hn r o hr e.symm), fun b hb hn q x hq => ?_, fun q e x hs p v hp hc => ?_⟩
  · simp only [GH.put, Heap.set_get] at hq
    split at hq
    · rename_i h; subst h; exact hn q o hr
    · exact hn q x hq
  · have hqr : q ≠ r := fun h => by subst h; rw [hr] at hs; cases hs; exact hno _ _ rfl
    have hb := hW.inj' hr hs hqr
    refine ⟨(cell_of_heap (hoth _ hb) p).trans hc, fun q' y hq' hb' => ?_⟩
    simp only [GH.put, Heap.set_get] at hq' hb'
    split at hq'
    · rename_i h; subst h; exact absurd hb'.symm hb
    · have := hW.inj q' q y _ hq' hs hb'
      subst this
      rw [hs] at hq'; cases hq'; exact hp
theorem put_W {w w' : World} {s : GH} {r : Nat} {o o' : AO} (hW : W s w) (hr : s.σ.get r = some o) (hE : Ext w s w' (s.put r o')) (hoth : ∀ b, b ≠ (s.ρ r).blk → w'.heap[b]? = w.heap[b]?) (hx : ObjOK w' (s.put r o') r o') : W (s.put r o') w' := by
  refine hW.step hE (fun q x hq => ?_) (fun q1 q2 x y h1 h2 hb => ?_)
  · simp only [GH.put, Heap.set_get] at hq
    split at hq
    · rename_i h; subst h; cases hq; exact .inr ⟨hW.lt _ _ hr, hx⟩
    · rename_i h; exact .inl ⟨hq, hoth _ (hW.inj' hr hq h)⟩
  · have dom : ∀ q x, (s.put r o').σ.get q = some x → ∃ y, s.σ.get q = some y := fun q x hq => by
      simp only [GH.put, Heap.set_get] at hq
      split at hq
      · rename_i h; subst h; exact ⟨_, hr⟩
      · exact ⟨_, hq⟩
    obtain ⟨x', hx'⟩ := dom q1 x h1
    obtain ⟨y', hy'⟩ := dom q2 y h2
    exact hW.inj q1 q2 x' y' hx' hy' hb

theorem set_cells {w : World} {s : GH} {r off : Nat} {e : TypeId} {cs ys : List D} {arr : Array Value} {news : Array Value} (hW : W s w) (hr : s.σ.get r = some (.cells e cs))
    (ha : w.heap[(s.ρ r).blk]? = some (.cells arr e (0, 0))) (hn : Vs w (Lim s) news ys) (hl : off + ys.length ≤ cs.length) :
    let w' := w.setRow (s.ρ r).blk (arr.toList.take ((s.ρ r).base + off) ++ news.toList ++ arr.toList.drop ((s.ρ r).base + off + news.toList.length)).toArray
    Ext w s w' (s.put r (.cells e (splice cs off ys))) ∧ W (s.put r (.cells e (splice cs off ys))) w' := by
  intro w'
  have hobj := hW.obj r _ hr
  obtain ⟨arr', h1, h2, h3, h4, h5⟩ := hobj
  rw [ha] at h1
  cases h1
  have hE : Ext w s w' (s.put r (.cells e (splice cs off ys))) := put_heap hW hr (by simp [w', World.setRow]) rfl rfl rfl (fun b hb => setRow_other w _ _ b hb) (fun _ _ h => by cases h)
  refine ⟨hE, put_W hW hr hE (fun b hb => setRow_other w _ _ b hb) ?_⟩
  have hlen := hn.1
  refine ⟨_, setRow_same w _ _ arr e (0, 0) ha, ?_, ?_, ?_, fun i hi => ?_⟩
  · rw [splice_length _ _ _ hl]; exact h2
  · show (s.ρ r).base + (s.ρ r).cap ≤ _
    simp; omega
  · intro i hi
    rw [splice_length _ _ _ hl] at hi
    show ((((arr.toList.take ((s.ρ r).base + off) ++ news.toList ++ arr.toList.drop ((s.ρ r).base + off + news.toList.length)).toArray).getD ((s.ρ r).base + i) undef)).oneCell' = true
    have e1 := getD_splice arr.toList ((s.ρ r).base + off) news.toList undef (by simp; omega) ((s.ρ r).base + i)
    rw [getD_toArray]
    by_cases c1 : i < off
    · rw [e1, if_pos (by omega)]
      simpa [List.getD] using h4 i hi
    · by_cases c2 : i < off + ys.length
      · rw [e1, if_neg (by omega), if_pos (by simp; omega)]
        have hlt : (s.ρ r).base + i - ((s.ρ r).base + off) < news.toList.length := by simp; omega
        rw [List.getD, List.getElem?_eq_getElem hlt]
        exact hn.2.1 _ (List.getElem_mem hlt)
      · rw [e1, if_neg (by omega), if_neg (by simp; omega)]
        simpa [List.getD] using h4 i hi
  · rw [splice_length _ _ _ hl] at hi
    show V w' _ (((arr.toList.take ((s.ρ r).base + off) ++ news.toList ++ arr.toList.drop ((s.ρ r).base + off + news.toList.length)).toArray).getD ((s.ρ r).base + i) undef) _
    have e1 := getD_splice arr.toList ((s.ρ r).base + off) news.toList undef (by simp; omega) ((s.ρ r).base + i)
    have e2 := getD_splice cs off ys .junk hl i
    have e3 : (splice cs off ys)[i]'(by rw [splice_length _ _ _ hl]; exact hi) = (splice cs off ys).getD i .junk := by
      simp [List.getD, List.getElem?_eq_getElem (show i < (splice cs off ys).length by rw [splice_length _ _ _ hl]; exact hi)]
    rw [e3, getD_toArray]
    have e5 : (splice cs off ys).getD i .junk = (cs.take off ++ ys ++ cs.drop (off + ys.length)).getD i .junk := rfl
    by_cases c1 : i < off
    · rw [e1, if_pos (by omega), e5, e2, if_pos c1]
      have := (h5 i hi).ext hE
      simpa [List.getD, List.getElem?_eq_getElem hi] using this
    · by_cases c2 : i < off + ys.length
      · rw [e1, if_neg (by omega), if_pos (by simp; omega), e5, e2, if_neg c1, if_pos c2]
        have := (hn.2.2 (i - off) (by omega)).ext hE
        have e6 : (s.ρ r).base + i - ((s.ρ r).base + off) = i - off := by omega
        rw [e6]
        simpa [List.getD, List.getElem?_eq_getElem (show i - off < ys.length by omega)] using this
      · rw [e1, if_neg (by omega), if_neg (by simp; omega), e5, e2, if_neg c1, if_neg c2]
        have := (h5 i hi).ext hE
        simpa [List.getD, List.getElem?_eq_getElem hi] using this

def storeE (Z : Sys) (g : Nat → Option AO) (t : TypeId) (x y : D) : Option Eff :=
  match Z.T t, x, y.cells with
  | some i, .ptr r off, some ys => (match g r with
    | some (.cells e cs) => if ys.length = i.size ∧ off + ys.length ≤ cs.length then some (.put r (.cells e (splice cs off ys))) else none
    | _ => none)
  | _, _, _ => none

theorem storeE_ok {Z : Sys} {t : TypeId} {x y : D} {s : GH} {e : Eff} {w : World} {u v : Value} (hW : W s w) (hx : V w (Lim s) u x) (hy : V w (Lim s) v y) (h : storeE Z s.σ.get t x y = some e) :
    UOK Z.P (Instr.storeAt t u v) w s e := by
  unfold storeE at h
  split at h
  · rename_i i r off ys hi hys
    split at h
    · rename_i e cs hr
      split at h
      · rename_i hc
        obtain ⟨hsz, hfit⟩ := hc
        cases h
        cases hx with
        | ptr _ _ hlt =>
        have hn := hy.cells hys
        obtain ⟨hu, inf, hinf, hs, hb, hz⟩ := Z.out hi
        obtain ⟨arr, ha, h2, h3, h4, h5⟩ := hW.obj r _ hr
        have hst := run_storeCells_at Z.P (s.ρ r).blk ((s.ρ r).base + off) e v.cells.toList 0 arr w ha (by have := hn.1; simp; omega) (fun q hq => hn.2.1 q hq)
        obtain ⟨hE, hW'⟩ := set_cells (off := off) hW hr ha hn hfit
        refine ⟨_, _, ?_, ?_, hW', hE⟩
        · have hlen : v.cells.size = inf.size := by rw [hn.1, hsz, hs]
          simp only [Nat.add_zero] at hst
          rw [Lim_ρ]
          simp [Instr.storeAt, Instr.sureAddr, storeVar, sizeOf, typeInfo, hinf, hlen, hst]
        · rfl
      · cases h
    · cases h
  · cases h

theorem Vs.ext {w w' : World} {s s' : GH} (he : Ext w s w' s') {vs : Array Value} {cs : List D} (h : Vs w (Lim s) vs cs) : Vs w' (Lim s') vs cs :=
  ⟨h.1, h.2.1, fun i hi => (h.2.2 i hi).ext he⟩

theorem new_obj {w : World} {s : GH} (hW : W s w) (b : Obj) (o : AO) (l : Loc) (hl : l.blk = w.heap.size) (hx : Ext w s (w.alloc b) (s.push o l) → ObjOK (w.alloc b) (s.push o l) s.σ.next o) :
    W (s.push o l) (w.alloc b) ∧ Ext w s (w.alloc b) (s.push o l) := by
  have hE : Ext w s (w.alloc b) (s.push o l) := Ext.own hW o l (by omega) rfl rfl (fun _ _ h => h) rfl rfl rfl (by simp) (fun k hk => alloc_heap w b k hk)
  exact ⟨hW.own o l (by omega) rfl rfl (fun _ _ h => h) hE (fun k hk => alloc_heap w b k hk) (hx hE), hE⟩

theorem new_cells {w : World} {s : GH} (hW : W s w) (e : TypeId) {vs : Array Value} {cs : List D} (hv : Vs w (Lim s) vs cs) :
    W (s.push (.cells e cs) ⟨w.heap.size, 0, vs.size⟩) (w.alloc (.cells vs e)) ∧ Ext w s (w.alloc (.cells vs e)) (s.push (.cells e cs) ⟨w.heap.size, 0, vs.size⟩) := by
  refine new_obj hW _ _ _ rfl fun hE => ⟨vs, ?_, ?_, ?_, by rw [push_ρ_new]; exact one_of_all hv.2.1 (by have := hv.1; simp only; omega), fun i hi => ?_⟩
  · rw [push_ρ_new]; exact alloc_new w _
  · rw [push_ρ_new, ← hv.1]; exact Nat.le_refl _
  · rw [push_ρ_new]; simp
  · rw [push_ρ_new]; simp only [Nat.zero_add]; exact (hv.2.2 i hi).ext hE
theorem new_ptr {w' : World} {s : GH} {o : AO} {l : Loc} (h0 : l.base = 0) : V w' (Lim (s.push o l)) (.pointer (some ⟨l.blk, 0, none⟩)) (.ptr s.σ.next 0) := by
  have := V.ptr (w := w') (L := Lim (s.push o l)) s.σ.next 0 (by rw [Lim_N]; simp [GH.push, Heap.new])
  rw [Lim_ρ, push_ρ_new] at this
  simpa [h0] using this
theorem new_row {w' : World} {s : GH} {o : AO} {l : Loc} {n c' z : Nat} {c : Option Nat} (hn : n ≤ c') (hb : c' ≤ big) (hf : CapOK 0 c z c' l.cap) (h0 : l.base = 0) : V w' (Lim (s.push o l)) (.slice (some ⟨l.blk, 0, none⟩) n c') (.row s.σ.next 0 n c z) := by
  refine .row _ 0 n c z _ c' (by rw [Lim_N]; simp [GH.push, Heap.new]) hn hb ?_ fun _ => ?_
  · rw [Lim_ρ, push_ρ_new]; exact hf
  · rw [Lim_ρ, push_ρ_new, h0]

theorem Vs_ofV (w : World) (L : Lk) (z : Array Value) (h : (z.toList.map ofV).all D.one = true) : Vs w L z (z.toList.map ofV) := by
  refine ⟨by simp, fun v hv => ?_, fun i hi => ?_⟩
  · have := List.all_eq_true.1 h (ofV v) (List.mem_map.2 ⟨v, hv, rfl⟩)
    exact ((V_ofV w L v).one this).1
  · have hi' : i < z.size := by simpa using hi
    have := V_ofV w L z[i]
    simpa [Array.getD, hi'] using this

def TInfo.zeros (i : TInfo) : List D := i.zero.cells.toList.map ofV

def allocR (Z : Sys) (e : TypeId) : Option (Eff) :=
  match Z.T e with
  | none => none
  | some i => if i.zeros.all D.one = true then some (.new (.cells e i.zeros)) else none

theorem allocR_ok {Z : Sys} {e : TypeId} {s : GH} {w : World} {f : Eff} (hW : W s w) (h : allocR Z e = some f) : EOK Z.P (Instr.alloc e true (.tuple #[])) w s (.ptr s.σ.next 0) f := by
  unfold allocR at h
  split at h
  · cases h
  · rename_i i hi
    split at h
    · rename_i h1
      cases h
      obtain ⟨hu, inf, hinf, hs, hb, hz⟩ := Z.out hi
      obtain ⟨hW', hE⟩ := new_cells hW e (Vs_ofV w (Lim s) i.zero.cells h1)
      refine ⟨_, _, _, ?_, rfl, new_ptr rfl, hW', hE⟩
      simp [Instr.alloc, zeroValue, typeInfo, hinf, hz, newVar, newRow]
    · cases h

def boxR (e : TypeId) (x : D) : Option Eff := x.cells.map fun cs => .new (.cells e cs)

theorem boxR_ok {P : Program} {e : TypeId} {x : D} {s : GH} {f : Eff} {w : World} {u : Value} (hW : W s w) (hx : V w (Lim s) u x) (h : boxR e x = some f) : EOK P (Instr.box e u) w s (.ptr s.σ.next 0) f := by
  unfold boxR at h
  cases hc : x.cells with
  | none => rw [hc] at h; cases h
  | some cs =>
    rw [hc] at h
    cases h
    obtain ⟨hW', hE⟩ := new_cells hW e (hx.cells hc)
    refine ⟨_, _, _, ?_, rfl, new_ptr rfl, hW', hE⟩
    simp [Instr.box, newVar, newRow]

theorem Vs.set {w : World} {L : Lk} {vs : Array Value} {cs : List D} (h : Vs w L vs cs) {k : Nat} {v : Value} {d : D} (h1 : v.oneCell' = true) (hv : V w L v d) :
    Vs w L (vs.setIfInBounds k v) (cs.set k d) := by
  refine ⟨by simp [h.1], fun u hu => ?_, fun i hi => ?_⟩
  · rw [Array.mem_toList_iff] at hu
    obtain ⟨j, hj, rfl⟩ := Array.mem_iff_getElem.1 hu
    rw [Array.getElem_setIfInBounds]
    split
    · exact h1
    · exact h.2.1 _ (by rw [Array.mem_toList_iff]; exact Array.getElem_mem (by simpa using hj))
  · have hi' : i < cs.length := by simpa using hi
    have hiv : i < vs.size := by rw [h.1]; exact hi'
    by_cases hk : k = i
    · subst hk
      simpa [Array.getD, hiv] using hv
    · have := h.2.2 i hi'
      simpa [Array.getD, hiv, Array.getElem_setIfInBounds, hk, List.getElem_set] using this

def fillAt (cs : List D) (off : Nat) (ys : List D) : List D := ys.zipIdx.foldl (fun cs p => cs.set (off + p.2) p.1) cs

theorem fill_fold {w : World} {L : Lk} (off : Nat) : ∀ (vs : List Value) (ys : List D) (k : Nat) (arr : Array Value) (cs : List D), vs.length = ys.length →
    (∀ v ∈ vs, v.oneCell' = true) → (∀ i (h : i < ys.length), V w L (vs.getD i undef) ys[i]) → Vs w L arr cs →
    Vs w L ((vs.zipIdx k).foldl (fun cs p => cs.setIfInBounds (off + p.2) p.1) arr) ((ys.zipIdx k).foldl (fun cs p => cs.set (off + p.2) p.1) cs)
  | [], [], k, arr, cs, _, _, _, h => by simpa using h
  | [], _ :: _, _, _, _, hl, _, _, _ => by simp at hl
  | _ :: _, [], _, _, _, hl, _, _, _ => by simp at hl
  | v :: vs, y :: ys, k, arr, cs, hl, h1, hv, h => by
    simp only [List.zipIdx_cons, List.foldl_cons]
    refine fill_fold off vs ys (k + 1) _ _ (by simpa using hl) (fun u hu => h1 u (by simp [hu])) (fun i hi => ?_) ?_
    · have := hv (i + 1) (by simp; omega)
      simpa [List.getD] using this
    · have := hv 0 (by simp)
      exact h.set (h1 v (by simp)) (by simpa [List.getD] using this)

theorem Vs.fillAt {w : World} {L : Lk} {arr vs : Array Value} {cs ys : List D} (h : Vs w L arr cs) (hy : Vs w L vs ys) (off : Nat) :
    Vs w L (vs.zipIdx.foldl (fun cs (c, j) => cs.setIfInBounds (off + j) c) arr) (fillAt cs off ys) := by
  have := fill_fold off vs.toList ys 0 arr cs (by rw [← hy.1]; simp) hy.2.1 (fun i hi => by simpa [List.getD, Array.getD_eq_getD_getElem?] using hy.2.2 i hi) h
  rw [← Array.foldl_toList, Array.toList_zipIdx]
  exact this

theorem fillAt_length (cs : List D) (off : Nat) (ys : List D) : (fillAt cs off ys).length = cs.length := by
  unfold fillAt
  generalize ys.zipIdx = l
  induction l generalizing cs with
  | nil => rfl
  | cons p l ih => simp only [List.foldl_cons]; rw [ih]; simp

def fillD (place : Nat → Option (Nat × Nat)) (cs : List D) : List (Nat × D) → Option (List D)
  | [] => some cs
  | (i, d) :: rest =>
    match place i, d.cells with
    | some (off, size), some ys => if ys.length ≠ size || off + ys.length > cs.length then none else fillD place (fillAt cs off ys) rest
    | _, _ => none

theorem fillD_ok {w : World} {L : Lk} (place : Nat → Option (Nat × Nat)) : ∀ (ps : List (Nat × Value)) (qs : List (Nat × D)) (arr : Array Value) (cs zs : List D), ps.length = qs.length →
    (∀ i (h : i < qs.length), (ps.getD i (0, undef)).1 = qs[i].1 ∧ V w L (ps.getD i (0, undef)).2 qs[i].2) → Vs w L arr cs → fillD place cs qs = some zs →
    ∃ arr', Instr.fill place arr ps = some arr' ∧ Vs w L arr' zs
  | [], [], arr, cs, zs, _, _, h, hf => by simp [fillD] at hf; subst hf; exact ⟨arr, rfl, h⟩
  | [], _ :: _, _, _, _, hl, _, _, _ => by simp at hl
  | _ :: _, [], _, _, _, hl, _, _, _ => by simp at hl
  | (pi, pv) :: ps, (qi, qd) :: qs, arr, cs, zs, hl, hv, h, hf => by
    have h0 := hv 0 (by simp)
    simp [List.getD] at h0
    obtain ⟨rfl, hV⟩ := h0
    simp only [fillD] at hf
    split at hf
    · rename_i off size ys hp hys
      split at hf
      · cases hf
      · rename_i hc
        have hcs := hV.cells hys
        simp at hc
        obtain ⟨arr', h1, h2⟩ := fillD_ok place ps qs _ _ zs (by simpa using hl) (fun i hi => by
          have := hv (i + 1) (by simp; omega)
          simpa [List.getD] using this) (h.fillAt hcs off) hf
        refine ⟨arr', ?_, h2⟩
        simp only [Instr.fill, hp]
        rw [if_neg (by simp [hcs.1, h.1]; omega)]
        exact h1
    · cases hf

def aPlaces (Z : Sys) (fs : Array Field) : Option (List (Nat × Nat)) := fs.toList.mapM (fun f => (Z.T f.type).map fun i => (f.offset, i.size))

theorem aPlaces_ok {Z : Sys} : ∀ (fs : List Field) (ps : List (Nat × Nat)), fs.mapM (fun f => (Z.T f.type).map fun i => (f.offset, i.size)) = some ps →
    fs.mapM (fun f => (Z.P.info? f.type).map fun i => (f.offset, i.size)) = some ps
  | [], ps, h => by simpa using h
  | f :: fs, ps, h => by
    simp only [List.mapM_cons] at h ⊢
    cases hi : Z.T f.type with
    | none => simp [hi] at h
    | some i =>
      obtain ⟨hu, inf, hinf, hs, hb, hz⟩ := Z.out hi
      cases hm : fs.mapM (fun f => (Z.T f.type).map fun i => (f.offset, i.size)) with
      | none => simp [hi, hm] at h
      | some qs =>
        simp [hi, hm] at h
        subst h
        simp [hinf, aPlaces_ok fs qs hm, hs]

def aBuilt (Z : Sys) (t : TypeId) (parts : List (Nat × D)) : Option (List D) :=
  match Z.T t with
  | none => none
  | some it =>
    if it.zeros.all D.one = true then
      match it.d with
      | .array _ e => (match Z.T e with
        | some ie => fillD (fun i => some (i * ie.size, ie.size)) it.zeros parts
        | none => none)
      | .struct fs => (match aPlaces Z fs with
        | some places => fillD (places.toArray[·]?) it.zeros parts
        | none => none)
      | _ => none
    else none

theorem aBuilt_ok {Z : Sys} {t : TypeId} {ps : List (Nat × Value)} {qs : List (Nat × D)} {s : GH} {w : World} {cs : List D} (hl : ps.length = qs.length)
    (hv : ∀ i (h : i < qs.length), (ps.getD i (0, undef)).1 = qs[i].1 ∧ V w (Lim s) (ps.getD i (0, undef)).2 qs[i].2) (hcs : aBuilt Z t qs = some cs) :
    ∃ v, (Instr.build t ps.toArray).run Z.P w = .ok v w ∧ V w (Lim s) v (.agg cs) := by
  unfold aBuilt at hcs
  split at hcs
  · cases hcs
  · rename_i it hit
    obtain ⟨hu, inf, hinf, hs, hb, hz⟩ := Z.out hit
    split at hcs
    · rename_i hone
      have hzv := Vs_ofV w (Lim s) it.zero.cells hone
      split at hcs
      · rename_i n e hd
        split at hcs
        · rename_i ie hie
          obtain ⟨hu', inf', hinf', hs', hb', hz'⟩ := Z.out hie
          obtain ⟨arr, h1, h2⟩ := fillD_ok _ ps qs _ _ cs hl hv hzv hcs
          refine ⟨_, run_build (P := Z.P) w t ps.toArray arr ?_, .agg _ _ h2.1 h2.2.1 h2.2.2⟩
          simp [Program.built, hinf, hu, hd, hz, hinf', hs', h1]
        · cases hcs
      · rename_i fs hd
        split at hcs
        · rename_i places hpl
          obtain ⟨arr, h1, h2⟩ := fillD_ok _ ps qs _ _ cs hl hv hzv hcs
          refine ⟨_, run_build (P := Z.P) w t ps.toArray arr ?_, .agg _ _ h2.1 h2.2.1 h2.2.2⟩
          have := aPlaces_ok _ _ hpl
          simp [Program.built, hinf, hu, hd, hz, this]
          simpa using h1
        · cases hcs
      · cases hcs
    · cases hcs

def litZero (i : TInfo) (n : Nat) : List D := (List.range n).map fun j => i.zeros.getD (j % i.zeros.length) .junk

def plainPlace (size i : Nat) : Option (Nat × Nat) := some (i * size, size)

def aLit (Z : Sys) (t : TypeId) (len : Nat) (parts : List (Nat × D)) : Option (TypeId × List D) :=
  match Z.T t with
  | some it => (match it.d with
    | .slice e => (match Z.T e with
      | some ie => if (len * ie.size ≤ 16777216 ∧ len ≤ big) ∧ ie.zeros.all D.one = true ∧ ie.zeros.length = ie.size ∧ 0 < ie.size then (fillD (plainPlace ie.size) (litZero ie (len * ie.size)) parts).map fun cs => (e, cs) else none
      | none => none)
    | _ => none)
  | none => none

/-- A block's cells, read as a slice. -/
theorem V_new {w : World} {L : Lk} {b b0 : Nat} {e : TypeId} {vs : Array Value} {cs : List D} {fr : Nat × Nat} (o : Own) (n c : Nat) (hn : n ≤ c) (hb : c ≤ big) (ho : OwnOK L o (some ⟨b, b0, none⟩) n c)
    (hh : w.heap[b]? = some (.cells vs e fr)) (hl : b0 + cs.length ≤ vs.size) (h1 : ∀ i, i < cs.length → (vs.getD (b0 + i) undef).oneCell' = true) (hv : ∀ i (h : i < cs.length), V w L (vs.getD (b0 + i) undef) cs[i]) (hL : ∀ i, i < cs.length → L.ok b (b0 + i)) :
    V w L (.slice (some ⟨b, b0, none⟩) n c) (.sl o n cs) := by
  refine .sl o n c _ cs (fun i => vs.getD (b0 + i) undef) hn hb ho h1 (fun i hi => ⟨_, rfl, ?_, ?_⟩) hv
  · have hi' : b0 + i < vs.size := by omega
    rw [addr_add]
    simp [World.cell?, hh, hi', Array.getD]
  · rw [addr_add]; exact hL i hi

def buildSliceR (Z : Sys) (ann : Nat) (t : TypeId) (len : Nat) (parts : List (Nat × D)) (nx : Nat) : Option (D × Eff) :=
  match aLit Z t len parts with
  | none => none
  | some (e, cs) => if ann = 1 then some (.row nx 0 len (some len) ((Z.T e).map (·.size) |>.getD 0), .new (.cells e cs)) else some (.sl .full len cs, .keep)

theorem litZero_ok (w : World) (L : Lk) (i : TInfo) (n : Nat) (h1 : i.zeros.all D.one = true) (hl : i.zeros.length = i.size) (hs : 0 < i.size) :
    Vs w L ((Array.range n).map (fun j => i.zero.cells[j % i.zero.cells.size]!)) (litZero i n) := by
  have hz := Vs_ofV w L i.zero.cells h1
  have hsz : i.zero.cells.size = i.size := by rw [← hl]; simp [TInfo.zeros]
  refine ⟨by simp [litZero], fun v hv => ?_, fun j hj => ?_⟩
  · simp only [Array.toList_map, List.mem_map, Array.mem_toList_iff] at hv
    obtain ⟨j, hj, rfl⟩ := hv
    have hlt : j % i.zero.cells.size < i.zero.cells.size := Nat.mod_lt _ (by omega)
    rw [getElem!_pos i.zero.cells _ hlt]
    exact hz.2.1 _ (by rw [Array.mem_toList_iff]; exact Array.getElem_mem _)
  · have hj' : j < n := by simpa [litZero] using hj
    have hlt : j % i.zero.cells.size < i.zero.cells.size := Nat.mod_lt _ (by omega)
    have := hz.2.2 (j % i.zero.cells.size) (by simpa using hlt)
    have e1 : (litZero i n)[j] = (i.zero.cells.toList.map ofV)[j % i.zero.cells.size]'(by simpa using hlt) := by
      simp only [litZero, List.getElem_map, List.getElem_range, TInfo.zeros]
      simp only [List.length_map, Array.length_toList]
      rw [List.getD, List.getElem?_eq_getElem (by simpa using hlt)]
      simp
    rw [e1]
    have e2 : ((Array.range n).map (fun j => i.zero.cells[j % i.zero.cells.size]!)).getD j undef = i.zero.cells.getD (j % i.zero.cells.size) undef := by
      simp [Array.getD, hj', hlt, getElem!_pos]
    rw [e2]
    exact this

theorem buildSliceR_ok {Z : Sys} {ann : Nat} {t : TypeId} {len : Nat} {ps : List (Nat × Value)} {qs : List (Nat × D)} {s : GH} {d : D} {f : Eff} {w : World} (hW : W s w) (hl : ps.length = qs.length)
    (hv : ∀ i (h : i < qs.length), (ps.getD i (0, undef)).1 = qs[i].1 ∧ V w (Lim s) (ps.getD i (0, undef)).2 qs[i].2) (h : buildSliceR Z ann t len qs s.σ.next = some (d, f)) :
    EOK Z.P (Instr.buildSlice t len ps.toArray) w s d f := by
  unfold buildSliceR at h
  split at h
  · cases h
  · rename_i e cs hcs
    unfold aLit at hcs
    split at hcs
    · rename_i it hit
      split at hcs
      · rename_i e' hd
        split at hcs
        · rename_i ie hie
          split at hcs
          · rename_i hc
            obtain ⟨⟨c1, hbig⟩, c2, c3, c4⟩ := hc
            cases hf : fillD (plainPlace ie.size) (litZero ie (len * ie.size)) qs with
            | none => rw [hf] at hcs; cases hcs
            | some zs =>
              rw [hf] at hcs
              simp at hcs
              obtain ⟨rfl, rfl⟩ := hcs
              obtain ⟨hu, inf, hinf, hs, hb, hz⟩ := Z.out hit
              obtain ⟨hu', inf', hinf', hs', hb', hz'⟩ := Z.out hie
              obtain ⟨arr, h1, h2⟩ := fillD_ok (w := w) (L := Lim s) (plainPlace ie.size) ps qs _ _ zs hl hv (litZero_ok w (Lim s) ie (len * ie.size) c2 c3 c4) hf
              have hsz : ie.zero.cells.size = ie.size := by rw [← c3]; simp [TInfo.zeros]
              have hrun : (Instr.buildSlice t len ps.toArray).run Z.P w = .ok (.slice (some ⟨w.heap.size, 0, none⟩) len len) (w.alloc (.cells arr e')) := by
                have hn : ¬ (16777216 < len * ie.size) := by omega
                have hf' : Instr.fill (fun i => some (i * ie.size, ie.size)) ((Array.range (len * ie.size)).map (fun j => ie.zero.cells[j % ie.zero.cells.size]!)) ps = some arr := h1
                by_cases h0 : len * ie.size = 0
                · rw [h0] at hf'
                  have h00 : (Array.range 0).map (fun j => ie.zero.cells[j % ie.zero.cells.size]!) = #[] := by simp
                  rw [h00] at hf'
                  have h01 : Array.map (fun _ : Nat => (default : Value)) (Array.range 0) = #[] := by simp
                  simp [Instr.buildSlice, run_underlying hu, hd, sizeOf, typeInfo, hinf', hs', h0, newRow]
                  rw [h01, hf']
                  simp
                · simp [Instr.buildSlice, run_underlying hu, hd, sizeOf, typeInfo, hinf', hs', h0, hn, zeroValue, hz', newRow]
                  rw [hf']
                  simp
              have hal : ∀ (ws : List (Nat × D)) (as bs : List D), fillD (plainPlace ie.size) as ws = some bs → bs.length = as.length := by
                intro ws
                induction ws with
                | nil => intro as bs h; simp [fillD] at h; rw [h]
                | cons p ws ih =>
                  obtain ⟨p1, p2⟩ := p
                  intro as bs h
                  simp only [fillD] at h
                  split at h
                  · split at h
                    · cases h
                    · rw [ih _ _ h, fillAt_length]
                  · cases h
              have hzl : zs.length = len * ie.size := by rw [hal _ _ _ hf]; simp [litZero]
              have hal2 : arr.size = len * ie.size := by rw [h2.1, hzl]
              split at h
              · cases h
                obtain ⟨hW', hE⟩ := new_cells hW e' h2
                refine ⟨_, _, _, hrun, rfl, ?_, hW', hE⟩
                simp only [hie, Option.map_some, Option.getD_some]
                exact new_row (Nat.le_refl _) hbig ⟨rfl, by simp [hal2]⟩ rfl
              · cases h
                have hEa := Ext.alloc hW (.cells arr e')
                refine ⟨_, _, s, hrun, rfl, ?_, hW.alloc _, hEa⟩
                have h3 := h2.ext hEa
                have hfree : Free s w.heap.size := fun r x hr he => by have := hW.blk hr; omega
                refine V_new .full len len (Nat.le_refl _) hbig ⟨rfl, rfl⟩ (alloc_new w _) (by rw [h3.1]; simp) (fun i hi => ?_) (fun i hi => ?_) (fun i hi => hfree.ok _)
                · have hi' : 0 + i < arr.size := by rw [h3.1]; omega
                  simp only [Array.getD, hi', dif_pos]
                  exact h3.2.1 _ (by rw [Array.mem_toList_iff]; exact Array.getElem_mem _)
                · simp only [Nat.zero_add]; exact h3.2.2 i hi
          · cases hcs
        · cases hcs
      · cases hcs
    · cases hcs
end Go.Proofs.YthchlpikcpidaaaDoor.Vs
