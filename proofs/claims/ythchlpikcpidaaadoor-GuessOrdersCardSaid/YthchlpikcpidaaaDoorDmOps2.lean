/- The engine 'Dm', part 3: places, indices, cuts, numbers, texts. -/
import Derived.Test.YthchlpikcpidaaaDoorDmOps
namespace Go.Proofs.YthchlpikcpidaaaDoor.Vs
open Go.RowKit
set_option linter.unusedVariables false
set_option linter.unusedSimpArgs false
theorem V.at_drop {w : World} {L : Lk} {a : Addr} {cs : List D} (h : V w L (.pointer (some a)) (.at cs)) (k : Nat) : V w L (.pointer (some (a.add k))) (.at (cs.drop k)) := by
  cases h with
  | «at» _ _ us h1 hc hv =>
    refine .at _ _ (fun i => us (k + i)) (fun i hi => h1 _ (by simp at hi; omega)) (fun i hi => ?_) (fun i hi => ?_)
    · have := hc (k + i) (by simp at hi; omega)
      rw [add_add]
      exact ⟨this.1, by rw [add_block']; exact this.2⟩
    · have := hv (k + i) (by simp at hi; omega)
      simpa using this

def fieldOf (Z : Sys) (s : TypeId) (f : Nat) : Option (Nat × TypeId) :=
  match Z.T s with
  | some i => (match i.d with
    | .struct fs => (match fs[f]? with
      | some g => (match Z.T g.type with
        | some j => if j.size = 0 then none else some (g.offset, g.type)
        | none => none)
      | none => none)
    | _ => none)
  | none => none

def fieldAddrD (Z : Sys) (t : TypeId) (f : Nat) (x : D) : Option D :=
  match fieldOf Z t f with
  | none => none
  | some (off, _) =>
    match x with
    | .at cs => some (.at (cs.drop off))
    | .ptr r o => some (.ptr r (o + off))
    | _ => none

theorem V.ptr_add {w : World} {L : Lk} {r o k : Nat} (h : r < L.N) : V w L (.pointer (some ((⟨(L.ρ r).blk, (L.ρ r).base + o, none⟩ : Addr).add k))) (.ptr r (o + k)) := by
  rw [addr_add, Nat.add_assoc]; exact .ptr r (o + k) h

theorem fieldOf_some {Z : Sys} {t : TypeId} {f : Nat} {p : Nat × TypeId} (hf : fieldOf Z t f = some p) : ∃ fs g i, Z.P.underlying t = some (.struct fs) ∧ fs[f]? = some g ∧ p = (g.offset, g.type) ∧ Z.T g.type = some i ∧ i.size ≠ 0 := by
  unfold fieldOf at hf
  split at hf
  · rename_i i hi
    split at hf
    · rename_i fs hd
      split at hf
      · rename_i g hg
        split at hf
        · rename_i j hj
          split at hf
          · cases hf
          · rename_i hj0
            cases hf
            exact ⟨fs, g, j, hd ▸ (Z.out hi).1, hg, rfl, hj, hj0⟩
        · cases hf
      · cases hf
    · cases hf
  · cases hf

theorem fieldAddrD_ok {Z : Sys} {t : TypeId} {f : Nat} {x d : D} {L : Lk} {w : World} {u : Value} (hx : V w L u x) (h : fieldAddrD Z t f x = some d) :
    ∃ v, (Instr.fieldAt t u f).run Z.P w = .ok v w ∧ V w L v d := by
  unfold fieldAddrD at h
  split at h
  · cases h
  · rename_i off ft hf
    obtain ⟨fs, g, j, hu, hg, he, hj, hj0⟩ := fieldOf_some hf
    cases he
    obtain ⟨hu', inf', hinf', hs', hb', hz'⟩ := Z.out hj
    have hrun : ∀ a : Addr, (Instr.fieldAt t (.pointer (some a)) f).run Z.P w = .ok (.pointer (some (a.add g.offset))) w := fun a => by
      simp [Instr.fieldAt, run_underlying hu, hg, Instr.sureAddr, fieldPlace, sizeOf, typeInfo, hinf', hs', hj0]
    split at h
    · rename_i cs
      cases h
      cases hx with
      | «at» a _ us h1 hc hv => exact ⟨_, hrun a, V.at_drop (.at a cs us h1 hc hv) g.offset⟩
    · rename_i r o
      cases h
      cases hx with
      | ptr _ _ hlt => exact ⟨_, hrun _, V.ptr_add hlt⟩
    · cases h

def partD (i : TInfo) (cs : List D) (off : Nat) : Option D :=
  if i.isAgg then (if off + i.size ≤ cs.length then some (.agg ((cs.drop off).take i.size)) else none) else cs[off]?

theorem part_ok {Z : Sys} {w : World} {L : Lk} {t : TypeId} {i : TInfo} (ht : Z.T t = some i) {vs : Array Value} {cs : List D} (h : Vs w L vs cs) {off : Nat} {d : D} (hp : partD i cs off = some d) :
    ∃ v, (part t vs off).run Z.P w = .ok v w ∧ V w L v d := by
  obtain ⟨hu, inf, hi, hs, hb, hz⟩ := Z.out ht
  have hag := Z.isAgg ht w
  unfold partD at hp
  split at hp
  · rename_i hA
    split at hp
    · rename_i hle
      cases hp
      refine ⟨.agg (vs.extract off (off + i.size)), by simp [part, hag, hA, sizeOf, typeInfo, hi, hs], .agg _ _ ?_ ?_ (fun j hj => ?_)⟩
      · have := h.1; simp; omega
      · intro v hv
        rw [Array.mem_toList_iff] at hv
        obtain ⟨j, hj, rfl⟩ := Array.mem_iff_getElem.1 hv
        rw [Array.getElem_extract]
        exact h.2.1 _ (by rw [Array.mem_toList_iff]; exact Array.getElem_mem _)
      · have hj' : off + j < cs.length := by simp at hj; omega
        have hjs : j < i.size := by simp at hj; omega
        have hjv : off + j < vs.size := by rw [h.1]; exact hj'
        have := h.2.2 (off + j) hj'
        have e1 : (vs.extract off (off + i.size)).getD j undef = vs.getD (off + j) undef := by
          have : j < (vs.extract off (off + i.size)).size := by simp; omega
          simp only [Array.getD, this, hjv, dif_pos]
          simp
        rw [e1]
        simpa using this
    · cases hp
  · rename_i hA
    have hlt : off < cs.length := (List.getElem?_eq_some_iff.1 hp).1
    have hv := h.2.2 off hlt
    have hlv : off < vs.size := by rw [h.1]; exact hlt
    have : cs[off] = d := (List.getElem?_eq_some_iff.1 hp).2
    subst this
    refine ⟨vs.getD off undef, ?_, hv⟩
    simp [part, hag, hA, hlv, Array.getD]

def fieldD (Z : Sys) (t : TypeId) (f : Nat) (x : D) : Option D :=
  match fieldOf Z t f, x with
  | some (off, ft), .agg cs => (match Z.T ft with
    | some i => partD i cs off
    | none => none)
  | _, _ => none

theorem fieldD_ok {Z : Sys} {t : TypeId} {f : Nat} {x d : D} {L : Lk} {w : World} {u : Value} (hx : V w L u x) (h : fieldD Z t f x = some d) :
    ∃ v, (Instr.field t u f).run Z.P w = .ok v w ∧ V w L v d := by
  unfold fieldD at h
  split at h
  · rename_i off ft cs hf
    obtain ⟨fs, g, j, hu, hg, he, hj, hj0⟩ := fieldOf_some hf
    cases he
    rw [hj] at h
    cases hx with
    | agg vs _ hl h1 hv =>
      obtain ⟨v, hr, hV⟩ := part_ok hj (show Vs w L vs cs from ⟨hl, h1, hv⟩) h
      exact ⟨v, by simp [Instr.field, run_underlying hu, hg, asAgg, hr], hV⟩
  · cases h

def indexAddrD (Z : Sys) (t : TypeId) (x j : D) : Option D :=
  match j, Z.T t with
  | .int k i, some it =>
    (match it.d, x with
    | .slice e, .sl o n cs => (match Z.T e with
      | some ie => if (0 ≤ i ∧ i < n) ∧ 0 < cs.length then some (.at (cs.drop (i.toNat * ie.size))) else none
      | none => none)
    | .slice e, .row r off n _ z => (match Z.T e with
      | some ie => if 0 ≤ i ∧ i < n then some (.ptr r (off + i.toNat * ie.size)) else none
      | none => none)
    | .array n e, .ptr r off => (match Z.T e with
      | some ie => if 0 ≤ i ∧ i < n then some (.ptr r (off + i.toNat * ie.size)) else none
      | none => none)
    | .array n e, .at cs => (match Z.T e with
      | some ie => if 0 ≤ i ∧ i < n then some (.at (cs.drop (i.toNat * ie.size))) else none
      | none => none)
    | _, _ => none)
  | _, _ => none

theorem run_indexSlice {P : Program} {w : World} {t e : TypeId} {a : Addr} {len cap : Nat} {k : IntKind} {i : Int} {sz : Nat} (h : P.underlying t = some (.slice e)) (hs : ∃ inf, P.info? e = some inf ∧ inf.size = sz) (h0 : 0 ≤ i ∧ i < len) :
    (Instr.indexAt t (.slice (some a) len cap) (.int k i)).run P w = .ok (.pointer (some (a.add (i.toNat * sz)))) w := by
  obtain ⟨inf, hi, rfl⟩ := hs
  simp [Instr.indexAt, asIntOf, run_underlying h, sizeOf, typeInfo, hi, h0]

theorem run_indexArray {P : Program} {w : World} {t e : TypeId} {a : Addr} {n : Nat} {k : IntKind} {i : Int} {sz : Nat} (h : P.underlying t = some (.array n e)) (hs : ∃ inf, P.info? e = some inf ∧ inf.size = sz) (h0 : 0 ≤ i ∧ i < n) :
    (Instr.indexAt t (.pointer (some a)) (.int k i)).run P w = .ok (.pointer (some (a.add (i.toNat * sz)))) w := by
  obtain ⟨inf, hi, rfl⟩ := hs
  simp [Instr.indexAt, asIntOf, run_underlying h, sizeOf, typeInfo, hi, h0, Instr.sureAddr]

theorem V.sl_at {w : World} {L : Lk} {o : Own} {n c : Nat} {A : Option Addr} {cs : List D} (h : V w L (.slice A n c) (.sl o n cs)) (h0 : 0 < cs.length) : ∃ a, A = some a ∧ V w L (.pointer (some a)) (.at cs) := by
  cases h with
  | sl _ _ _ _ _ us hn hb ho h1 hc hv =>
    obtain ⟨a, ha, _⟩ := hc 0 h0
    refine ⟨a, ha, .at a cs us h1 (fun i hi => ?_) hv⟩
    obtain ⟨a', ha', h2, h3⟩ := hc i hi
    rw [ha] at ha'
    cases ha'
    exact ⟨h2, h3⟩

theorem indexAddrD_ok {Z : Sys} {t : TypeId} {x j d : D} {L : Lk} {w : World} {u v : Value} (hx : V w L u x) (hj : V w L v j) (h : indexAddrD Z t x j = some d) :
    ∃ y, (Instr.indexAt t u v).run Z.P w = .ok y w ∧ V w L y d := by
  unfold indexAddrD at h
  split at h
  · rename_i k i it hit
    cases hj
    obtain ⟨hu, inf, hinf, hs, hb, hz⟩ := Z.out hit
    split at h
    · rename_i e o n cs hd
      split at h
      · rename_i ie hie
        obtain ⟨hu', inf', hinf', hs', hb', hz'⟩ := Z.out hie
        split at h
        · rename_i hc0
          obtain ⟨h0, hp⟩ := hc0
          cases h
          cases hx with
          | sl _ _ c A _ us hn hb ho h1 hc hv =>
            obtain ⟨a, rfl, hat⟩ := V.sl_at (.sl o n c A cs us hn hb ho h1 hc hv) hp
            exact ⟨_, run_indexSlice (hd ▸ hu) ⟨inf', hinf', hs'⟩ h0, hat.at_drop _⟩
        · cases h
      · cases h
    · rename_i e r off n c0 z hd
      split at h
      · rename_i ie hie
        obtain ⟨hu', inf', hinf', hs', hb', hz'⟩ := Z.out hie
        split at h
        · rename_i h0
          cases h
          cases hx with
          | row _ _ _ _ _ a c' hlt hn hb hf ha =>
            obtain rfl := ha (by omega)
            exact ⟨_, run_indexSlice (hd ▸ hu) ⟨inf', hinf', hs'⟩ h0, V.ptr_add hlt⟩
        · cases h
      · cases h
    · rename_i n e r off hd
      split at h
      · rename_i ie hie
        obtain ⟨hu', inf', hinf', hs', hb', hz'⟩ := Z.out hie
        split at h
        · rename_i h0
          cases h
          cases hx with
          | ptr _ _ hlt => exact ⟨_, run_indexArray (hd ▸ hu) ⟨inf', hinf', hs'⟩ h0, V.ptr_add hlt⟩
        · cases h
      · cases h
    · rename_i n e cs hd
      split at h
      · rename_i ie hie
        obtain ⟨hu', inf', hinf', hs', hb', hz'⟩ := Z.out hie
        split at h
        · rename_i h0
          cases h
          cases hx with
          | «at» a _ us h1 hc hv => exact ⟨_, run_indexArray (hd ▸ hu) ⟨inf', hinf', hs'⟩ h0, V.at_drop (.at a cs us h1 hc hv) _⟩
        · cases h
      · cases h
    · cases h
  · cases h

def byteAt (s : ByteArray) (i : Nat) : Int := ((s.data.toList.getD i 0).toNat : Int)

def indexD (Z : Sys) (t : TypeId) (x j : D) : Option D :=
  match j, Z.T t with
  | .int k i, some it =>
    (match it.d, x with
    | .string, .str s => if 0 ≤ i ∧ i < s.size then some (.int .u8 (byteAt s i.toNat)) else none
    | .array n e, .agg cs => (match Z.T e with
      | some ie => if 0 ≤ i ∧ i < n then partD ie cs (i.toNat * ie.size) else none
      | none => none)
    | _, _ => none)
  | _, _ => none

theorem indexD_ok {Z : Sys} {t : TypeId} {x j d : D} {L : Lk} {w : World} {u v : Value} (hx : V w L u x) (hj : V w L v j) (h : indexD Z t x j = some d) :
    ∃ y, (Instr.index t u v).run Z.P w = .ok y w ∧ V w L y d := by
  unfold indexD at h
  split at h
  · rename_i k i it hit
    cases hj
    obtain ⟨hu, inf, hinf, hs, hb, hz⟩ := Z.out hit
    split at h
    · rename_i s hd
      split at h
      · rename_i h0
        cases h
        cases hx
        refine ⟨_, ?_, .int _ _⟩
        have hlt : i.toNat < s.size := by omega
        have hb : s[i.toNat]? = some s[i.toNat] := getElem?_pos s i.toNat hlt
        have he : byteAt s i.toNat = (s[i.toNat].toNat : Int) := by
          have hl : i.toNat < s.data.toList.length := by simpa using hlt
          simp only [byteAt, List.getD, List.getElem?_eq_getElem hl]
          rfl
        rw [he]
        simp [Instr.index, asIntOf, run_underlying hu, hd, h0.1, hb]
      · cases h
    · rename_i n e cs hd
      split at h
      · rename_i ie hie
        split at h
        · rename_i h0
          obtain ⟨hu', inf', hinf', hs', hb', hz'⟩ := Z.out hie
          cases hx with
          | agg vs _ hl h1 hv =>
            obtain ⟨v, hr, hV⟩ := part_ok hie (show Vs w L vs cs from ⟨hl, h1, hv⟩) h
            exact ⟨v, by simp [Instr.index, asIntOf, run_underlying hu, hd, h0.1, h0.2, sizeOf, typeInfo, hinf', hs', hr], hV⟩
        · cases h
      · cases h
    · cases h
  · cases h

def bound (x : Option D) (dflt : Nat) : Option Int :=
  match x with
  | none => some dflt
  | some (.int _ i) => some i
  | some _ => none

theorem run_bound {P : Program} {w : World} {L : Lk} {x : Option Value} {d : Option D} {dflt : Nat} {i : Int} (hx : match x, d with | none, none => True | some v, some e => V w L v e | _, _ => False) (hb : bound d dflt = some i) :
    (x = none ∧ i = dflt) ∨ ∃ k, x = some (.int k i) := by
  cases d with
  | none => cases x with
    | none => simp [bound] at hb; exact .inl ⟨rfl, hb.symm⟩
    | some v => exact hx.elim
  | some e => cases x with
    | none => exact hx.elim
    | some v =>
      unfold bound at hb
      split at hb
      · rename_i h; cases h
      · rename_i k i' h
        cases h
        cases hb
        cases hx
        exact .inr ⟨k, rfl⟩
      · cases hb

def VO (w : World) (L : Lk) (x : Option Value) (d : Option D) : Prop := match x, d with | none, none => True | some v, some e => V w L v e | _, _ => False

theorem run_sliceBounds {P : Program} {w : World} {L : Lk} (b : Bool) (len cap : Nat) {lo hi : Option Value} {dl dh : Option D} {l h : Int} (hl : VO w L lo dl) (hh : VO w L hi dh) (bl : bound dl 0 = some l) (bh : bound dh len = some h)
    (h0 : 0 ≤ l) (h1 : l ≤ h) (h2 : h ≤ len) (h3 : len ≤ cap) : (Instr.sliceBounds b len cap lo hi none).run P w = .ok (l.toNat, h.toNat, cap) w := by
  rcases run_bound (P := P) hl bl with ⟨rfl, rfl⟩ | ⟨k, rfl⟩ <;> rcases run_bound (P := P) hh bh with ⟨rfl, rfl⟩ | ⟨k', rfl⟩
  · simp [Instr.sliceBounds]
  · have e1 : 0 ≤ h ∧ h ≤ (cap : Int) := by omega
    cases b <;> simp [Instr.sliceBounds, Instr.sliceBound, asIntOf, e1]
  · have e1 : 0 ≤ l ∧ l ≤ (len : Int) := by omega
    simp [Instr.sliceBounds, Instr.sliceBound, asIntOf, e1]
  · have e1 : 0 ≤ h ∧ h ≤ (cap : Int) := by omega
    have e2 : 0 ≤ l ∧ l ≤ max h 0 := by omega
    cases b <;> simp [Instr.sliceBounds, Instr.sliceBound, asIntOf, e1, e2]

/-- May a row be cut at h? -/
def rowFits (g : Nat → Option AO) (r off : Nat) (c : Option Nat) (z h : Nat) : Bool := match c with
  | some k => decide (h ≤ k)
  | none => (match g r with | some (.cells _ cs) => decide (off + h * z ≤ cs.length ∧ 0 < z) | _ => false)

/-- What is known of a part of a slice: a part of nil is nil. -/
def cutOwn : Own → Own
  | .nil => .nil
  | _ => .no
def sliceD (Z : Sys) (g : Nat → Option AO) (t : TypeId) (x : D) (lo hi mx : Option D) : Option D :=
  match Z.T t with
  | some it =>
    (match it.d, x, mx with
    | .string, .str s, none => (match bound lo 0, bound hi s.size with
      | some l, some h => if 0 ≤ l ∧ l ≤ h ∧ h ≤ s.size then some (.str (s.extract l.toNat h.toNat)) else none
      | _, _ => none)
    | .slice e, .sl o n cs, none => (match bound lo 0, bound hi n, Z.T e with
      | some l, some h, some ie => if 0 ≤ l ∧ l ≤ h ∧ h ≤ n ∧ cs.length = n * ie.size then some (.sl (cutOwn o) (h.toNat - l.toNat) ((cs.drop (l.toNat * ie.size)).take ((h.toNat - l.toNat) * ie.size))) else none
      | _, _, _ => none)
    | .slice e, .sl o n cs, some (.int _ m) => (match bound lo 0, bound hi n, Z.T e with
      | some l, some h, some ie => if 0 ≤ l ∧ l ≤ h ∧ h ≤ n ∧ m = h ∧ cs.length = n * ie.size ∧ l < m then some (.sl .full (h.toNat - l.toNat) ((cs.drop (l.toNat * ie.size)).take ((h.toNat - l.toNat) * ie.size))) else none
      | _, _, _ => none)
    | .slice e, .row r off n c z, mx => (match bound lo 0, bound hi n, mx with
      | some l, some h, none => if 0 ≤ l ∧ l ≤ h ∧ (h ≤ n ∨ rowFits g r off c z h.toNat = true) ∧ (Z.T e).map (·.size) = some z then some (.row r (off + l.toNat * z) (h.toNat - l.toNat) (c.map (· - l.toNat)) z) else none
      | some l, some h, some (.int _ m) => if 0 ≤ l ∧ l ≤ h ∧ h ≤ m ∧ (m ≤ n ∨ rowFits g r off c z m.toNat = true) ∧ (Z.T e).map (·.size) = some z then some (.row r (off + l.toNat * z) (h.toNat - l.toNat) (some (m.toNat - l.toNat)) z) else none
      | _, _, _ => none)
    | _, _, _ => none)
  | _ => none

theorem rowFits_ok {w : World} {s : GH} (hW : W s w) {r off n h : Nat} {c : Option Nat} {z c' : Nat} (hf : CapOK off c z c' (s.ρ r).cap) (hn : n ≤ c') (hh : h ≤ n ∨ rowFits s.σ.get r off c z h = true) : h ≤ c' := by
  rcases hh with hh | hh
  · omega
  · unfold rowFits at hh
    cases c with
    | some k => simp at hh; rw [hf.1]; exact hh
    | none =>
      simp only at hh
      split at hh
      · rename_i e cs hr
        obtain ⟨arr, h1, h2, _⟩ := hW.obj r _ hr
        simp only [decide_eq_true_eq] at hh
        simp only [CapOK] at hf
        have : h * z ≤ c' * z := by omega
        exact Nat.le_of_mul_le_mul_right this hh.2
      · cases hh
theorem run_sliceBoundsR {P : Program} {w : World} {L : Lk} (len cap : Nat) {lo hi : Option Value} {dl dh : Option D} {l h : Int} (hl : VO w L lo dl) (hh : VO w L hi dh) (bl : bound dl 0 = some l) (bh : bound dh len = some h)
    (h0 : 0 ≤ l) (h1 : l ≤ h) (h2 : h ≤ cap) (h3 : len ≤ cap) : (Instr.sliceBounds true len cap lo hi none).run P w = .ok (l.toNat, h.toNat, cap) w := by
  rcases run_bound (P := P) hl bl with ⟨rfl, rfl⟩ | ⟨k, rfl⟩ <;> rcases run_bound (P := P) hh bh with ⟨rfl, rfl⟩ | ⟨k', rfl⟩
  · simp [Instr.sliceBounds]
  · have e1 : 0 ≤ h ∧ h ≤ (cap : Int) := by omega
    simp [Instr.sliceBounds, Instr.sliceBound, asIntOf, e1]
  · have e1 : 0 ≤ l ∧ l ≤ (len : Int) := by omega
    simp [Instr.sliceBounds, Instr.sliceBound, asIntOf, e1]
  · have e1 : 0 ≤ h ∧ h ≤ (cap : Int) := by omega
    have e2 : 0 ≤ l ∧ l ≤ max h 0 := by omega
    simp [Instr.sliceBounds, Instr.sliceBound, asIntOf, e1, e2]

theorem run_sliceBounds3 {P : Program} {w : World} {L : Lk} (len cap : Nat) {lo hi : Option Value} {dl dh : Option D} {l h m : Int} {k : IntKind} (hl : VO w L lo dl) (hh : VO w L hi dh) (bl : bound dl 0 = some l) (bh : bound dh len = some h)
    (h0 : 0 ≤ l) (h1 : l ≤ h) (h2 : h ≤ m) (h3 : m ≤ cap) (h4 : len ≤ cap) (hne : hi ≠ none) : (Instr.sliceBounds true len cap lo hi (some (.int k m))).run P w = .ok (l.toNat, h.toNat, m.toNat) w := by
  rcases run_bound (P := P) hl bl with ⟨rfl, rfl⟩ | ⟨k1, rfl⟩ <;> rcases run_bound (P := P) hh bh with ⟨rfl, rfl⟩ | ⟨k', rfl⟩
  · exact absurd rfl hne
  · have e1 : 0 ≤ h ∧ h ≤ max m 0 := by omega
    have e2 : 0 ≤ m ∧ m ≤ (cap : Int) := by omega
    simp [Instr.sliceBounds, Instr.sliceBound, asIntOf, e1, e2]
  · exact absurd rfl hne
  · have e1 : 0 ≤ h ∧ h ≤ max m 0 := by omega
    have e2 : 0 ≤ l ∧ l ≤ max h 0 := by omega
    have e3 : 0 ≤ m ∧ m ≤ (cap : Int) := by omega
    simp [Instr.sliceBounds, Instr.sliceBound, asIntOf, e1, e2, e3]

theorem cut_sl {w : World} {L : Lk} {o : Own} {n c : Nat} {A : Option Addr} {cs : List D} (hx : V w L (.slice A n c) (.sl o n cs)) {l h sz c1 : Nat} (hlh : l ≤ h) (hhn : h ≤ n) (hlen : cs.length = n * sz) (hc1 : h - l ≤ c1) (hc2 : c1 ≤ c - l) :
    V w L (.slice (if c = l then A else A.map (·.add (l * sz))) (h - l) c1) (.sl .no (h - l) ((cs.drop (l * sz)).take ((h - l) * sz))) := by
  cases hx with
  | sl _ _ _ _ _ us hn hb ho g1 hc hv =>
    have hmul : l * sz + (h - l) * sz ≤ cs.length := by
      rw [hlen, ← Nat.add_mul]; exact Nat.mul_le_mul_right _ (by omega)
    have hcl : ((cs.drop (l * sz)).take ((h - l) * sz)).length = (h - l) * sz := by simp; omega
    refine .sl .no _ _ _ _ (fun i => us (l * sz + i)) hc1 (by omega) ?_ (fun i hi => g1 _ (by rw [hcl] at hi; omega)) (fun i hi => ?_) (fun i hi => ?_)
    · intro hA
      have : A = none := by
        split at hA
        · exact hA
        · cases A with
          | none => rfl
          | some a => simp at hA
      have hn0 : n = 0 := by
        subst this
        cases o with
        | nil => exact ho.2.1
        | no => exact ho rfl
        | full => exact absurd ho.1 (by simp)
        | tip r z => exact absurd ho.1 (by simp)
      omega
    · rw [hcl] at hi
      obtain ⟨a, rfl, h4, h5⟩ := hc (l * sz + i) (by omega)
      have hpos : 0 < h - l := by
        rcases Nat.eq_zero_or_pos (h - l) with h6 | h6
        · rw [h6] at hi; simp at hi
        · exact h6
      refine ⟨a.add (l * sz), ?_, ?_, ?_⟩
      · rw [if_neg (by omega)]; rfl
      · rw [add_add]; exact h4
      · rw [add_add, add_block']; exact h5
    · rw [hcl] at hi
      have := hv (l * sz + i) (by omega)
      simpa using this

theorem sliceD_ok {Z : Sys} {t : TypeId} {x d : D} {lo hi mx : Option D} {s : GH} {w : World} {u : Value} {vl vh vm : Option Value} (hW : W s w) (hx : V w (Lim s) u x)
    (hl : VO w (Lim s) vl lo) (hh : VO w (Lim s) vh hi) (hm : VO w (Lim s) vm mx) (hsh : mx ≠ none → hi ≠ none) (h : sliceD Z s.σ.get t x lo hi mx = some d) : ∃ y, (Instr.sliceAt t u vl vh vm).run Z.P w = .ok y w ∧ V w (Lim s) y d := by
  unfold sliceD at h
  split at h
  · rename_i it hit
    obtain ⟨hu, inf, hinf, hs, hb, hz⟩ := Z.out hit
    split at h
    · rename_i s hd
      obtain rfl : vm = none := by
        cases vm with
        | none => rfl
        | some v => exact hm.elim
      split at h
      · rename_i l hh' bl bh
        split at h
        · rename_i hc
          obtain ⟨h0, h1, h2⟩ := hc
          cases h
          cases hx with
          | str _ hsz =>
            have hrb := run_sliceBounds (P := Z.P) false s.size s.size hl hh bl bh h0 h1 h2 (Nat.le_refl _)
            refine ⟨_, ?_, .str _ ?_⟩
            · simp [Instr.sliceAt, Instr.slice, run_underlying hu, hd, hrb]
            · have : (s.extract l.toNat hh'.toNat).size ≤ s.size := by rw [ByteArray.size_extract]; omega
              omega
        · cases h
      · cases h
    · rename_i e o n cs hd
      obtain rfl : vm = none := by
        cases vm with
        | none => rfl
        | some v => exact hm.elim
      split at h
      · rename_i l hh' ie bl bh hie
        obtain ⟨hu', inf', hinf', hs', hb', hz'⟩ := Z.out hie
        split at h
        · rename_i hc0
          obtain ⟨h0, h1, h2, hlen⟩ := hc0
          cases h
          cases hx with
          | sl _ _ c A _ us hn hb ho g1 hc hv =>
            have hrb := run_sliceBounds (P := Z.P) true n c hl hh bl bh h0 h1 h2 hn
            refine ⟨.slice (if c = l.toNat then A else A.map (·.add (l.toNat * ie.size))) (hh'.toNat - l.toNat) (c - l.toNat), ?_, ?_⟩
            · simp [Instr.sliceAt, Instr.slice, run_underlying hu, hd, hrb, sizeOf, typeInfo, hinf', hs']
            · have hcut := cut_sl (.sl o n c A cs us hn hb ho g1 hc hv) (l := l.toNat) (h := hh'.toNat) (by omega) (by omega) hlen (by omega) (Nat.le_refl _)
              cases o with
              | nil =>
                obtain ⟨hA, hn0, hc0⟩ := ho
                subst hA; subst hn0; subst hc0
                have hl0 : l.toNat = 0 := by omega
                have hh0 : hh'.toNat = 0 := by omega
                rw [hl0, hh0] at hcut ⊢
                simp only [if_true, Nat.sub_self] at hcut ⊢
                cases hcut with
                | sl _ _ _ _ _ us' a1 a2 a3 a4 a5 a6 => exact .sl .nil _ _ _ _ us' a1 a2 ⟨rfl, rfl, rfl⟩ a4 a5 a6
              | no => exact hcut
              | full => exact hcut
              | tip r z => exact hcut
        · cases h
      · cases h
    · rename_i e o n cs k m hd
      obtain ⟨vm, rfl⟩ : ∃ v, vm = some v := by
        cases vm with
        | none => exact hm.elim
        | some v => exact ⟨v, rfl⟩
      simp only [VO] at hm
      cases hm
      split at h
      · rename_i l hh' ie bl bh hie
        obtain ⟨hu', inf', hinf', hs', hb', hz'⟩ := Z.out hie
        split at h
        · rename_i hc0
          obtain ⟨h0, h1, h2, rfl, hlen, hlm⟩ := hc0
          cases h
          have hne : vh ≠ none := fun he => by
            subst he
            cases hi with
            | none => exact hsh (by simp) rfl
            | some v => exact hh.elim
          cases hx with
          | sl _ _ c A _ us hn hb ho g1 hc hv =>
            have hrb := run_sliceBounds3 (P := Z.P) (k := k) n c hl hh bl bh h0 h1 (Int.le_refl _) (by omega) hn hne
            have hcut := cut_sl (.sl o n c A cs us hn hb ho g1 hc hv) (l := l.toNat) (h := m.toNat) (by omega) (by omega) hlen (Nat.le_refl _) (by omega)
            have hcl : ¬ (c = l.toNat) := by omega
            have hml : ¬ (m.toNat = l.toNat) := by omega
            rw [if_neg hcl] at hcut
            refine ⟨.slice (A.map (·.add (l.toNat * ie.size))) (m.toNat - l.toNat) (m.toNat - l.toNat), ?_, ?_⟩
            rotate_left
            generalize A.map (·.add (l.toNat * ie.size)) = B at hcut ⊢
            rotate_left
            · simp [Instr.sliceAt, Instr.slice, run_underlying hu, hd, hrb, sizeOf, typeInfo, hinf', hs', hml]
            · cases hcut with
              | sl _ _ _ _ _ us' hn' hb2 ho' g1' hc' hv' =>
                refine .sl .full _ _ _ _ us' hn' hb2 ⟨?_, rfl⟩ g1' hc' hv'
                cases B with
                | none => have := ho' rfl; omega
                | some a => rfl
        · cases h
      · cases h
    · rename_i e r off n c z hd
      cases hx with
      | row _ _ _ _ _ a c' hlt hn hb hf ha =>
      rw [Lim_ρ] at hf ha
      split at h
      · rename_i l hh' bl bh
        obtain rfl : vm = none := by
          cases vm with
          | none => rfl
          | some v => exact hm.elim
        split at h
        · rename_i hc0
          obtain ⟨h0, h1, h2, h3⟩ := hc0
          cases h
          cases hie : Z.T e with
          | none => rw [hie] at h3; cases h3
          | some ie =>
          rw [hie] at h3
          simp only [Option.map_some, Option.some.injEq] at h3
          subst h3
          obtain ⟨hu', inf', hinf', hs', hb', hz'⟩ := Z.out hie
          have hhc : hh'.toNat ≤ c' := rowFits_ok hW hf hn (h2.imp (fun h => by omega) id)
          have hrb := run_sliceBoundsR (P := Z.P) n c' hl hh bl bh h0 h1 (by omega) hn
          refine ⟨.slice (some (if c' = l.toNat then a else a.add (l.toNat * ie.size))) (hh'.toNat - l.toNat) (c' - l.toNat), ?_, ?_⟩
          · simp [Instr.sliceAt, Instr.slice, run_underlying hu, hd, hrb, sizeOf, typeInfo, hinf', hs']
            split <;> rfl
          · refine .row _ _ _ _ _ _ _ hlt (by omega) (by omega) ?_ fun hp => ?_
            · rw [Lim_ρ]
              cases c with
              | none => simp only [CapOK, Option.map_none] at hf ⊢; rw [← hf, Nat.add_assoc, ← Nat.add_mul]; congr 2; omega
              | some k =>
                obtain ⟨hk, hf⟩ := hf
                refine ⟨by rw [hk], ?_⟩
                rw [Nat.add_assoc, ← Nat.add_mul]
                refine Nat.le_trans ?_ hf
                have : l.toNat + (k - l.toNat) = k := by omega
                rw [this]; exact Nat.le_refl _
            · rw [if_neg (by omega), ha (by omega), addr_add, Nat.add_assoc]; rfl
        · cases h
      · rename_i l hh' k m bl bh
        obtain ⟨vm, rfl⟩ : ∃ v, vm = some v := by
          cases vm with
          | none => exact hm.elim
          | some v => exact ⟨v, rfl⟩
        simp only [VO] at hm
        cases hm
        split at h
        · rename_i hc0
          obtain ⟨h0, h1, h2, h4, h3⟩ := hc0
          cases h
          cases hie : Z.T e with
          | none => rw [hie] at h3; cases h3
          | some ie =>
          rw [hie] at h3
          simp only [Option.map_some, Option.some.injEq] at h3
          subst h3
          obtain ⟨hu', inf', hinf', hs', hb', hz'⟩ := Z.out hie
          have hne : vh ≠ none := fun he => by
            subst he
            cases hi with
            | none => exact hsh (by simp) rfl
            | some v => exact hh.elim
          have hhc : m.toNat ≤ c' := rowFits_ok hW hf hn (h4.imp (fun h => by omega) id)
          have hrb := run_sliceBounds3 (P := Z.P) (k := k) n c' hl hh bl bh h0 h1 h2 (by omega) hn hne
          refine ⟨.slice (some (if m.toNat = l.toNat then a else a.add (l.toNat * ie.size))) (hh'.toNat - l.toNat) (m.toNat - l.toNat), ?_, ?_⟩
          · simp [Instr.sliceAt, Instr.slice, run_underlying hu, hd, hrb, sizeOf, typeInfo, hinf', hs']
            split <;> rfl
          · refine .row _ _ _ _ _ _ _ hlt (by omega) (by omega) ⟨rfl, ?_⟩ fun hp => ?_
            · rw [Lim_ρ, Nat.add_assoc, ← Nat.add_mul]
              have e1 : l.toNat + (m.toNat - l.toNat) = m.toNat := by omega
              rw [e1]
              cases c with
              | none => simp only [CapOK] at hf; rw [← hf]; exact Nat.add_le_add_left (Nat.mul_le_mul_right _ hhc) _
              | some k => obtain ⟨hk, hf⟩ := hf; subst hk; exact Nat.le_trans (Nat.add_le_add_left (Nat.mul_le_mul_right _ hhc) _) hf
            · rw [if_neg (by omega), ha (by omega), addr_add, Nat.add_assoc]; rfl
        · cases h
      · cases h
    · cases h
  · cases h

def lenD (Z : Sys) (g : Nat → Option AO) (ts : Array TypeId) (x : D) : Option D :=
  match ts[0]? with
  | none => none
  | some t =>
    match Z.T t with
    | none => none
    | some it =>
      match it.d, x with
      | .string, .str s => some (.int .i64 s.size)
      | .slice _, .sl _ n _ => some (.int .i64 n)
      | .slice _, .row _ _ n _ _ => some (.int .i64 n)
      | .map _ _, .nilmap => some (.int .i64 0)
      | .map _ _, .map r => (match g r with
        | some (.map es _) => some (.int .i64 es.length)
        | _ => none)
      | .array n _, _ => some (.int .i64 n)
      | _, _ => none

/-- A length is not too great. -/
def lenB (x : D) : Prop := match x with
  | .str s => s.size ≤ big
  | .sl _ n _ => n ≤ big
  | .row _ _ n _ _ => n ≤ big
  | _ => True
theorem V.lenB {w : World} {L : Lk} {u : Value} {x : D} (h : V w L u x) : lenB x := by
  cases h with
  | str _ h => exact h
  | sl _ _ c _ _ _ hn hb => exact Nat.le_trans hn hb
  | row _ _ _ _ _ _ c' _ hn hb => exact Nat.le_trans hn hb
  | _ => trivial

theorem lenD_ok {Z : Sys} {ts : Array TypeId} {ty : TypeId} {x d : D} {s : GH} {w : World} {u : Value} (hW : W s w) (hx : V w (Lim s) u x) (h : lenD Z s.σ.get ts x = some d) :
    ∃ y, (Builtin.len_ ts ty #[u]).run Z.P w = .ok y w ∧ V w (Lim s) y d := by
  unfold lenD at h
  split at h
  · cases h
  · rename_i t ht
    split at h
    · cases h
    · rename_i it hit
      obtain ⟨hu, inf, hinf, hs, hb, hz⟩ := Z.out hit
      split at h
      · rename_i s hd
        cases h
        cases hx with
        | str _ hsz => exact ⟨_, by simp [Builtin.len_, ht, run_underlying hu, hd, goInt], .int _ _⟩
      · rename_i hd
        cases h
        cases hx with
        | sl _ _ c _ _ _ hn hb => exact ⟨_, by simp [Builtin.len_, ht, run_underlying hu, hd, goInt], .int _ _⟩
      · rename_i hd
        cases h
        cases hx with
        | row _ _ _ _ _ _ c' _ hn hb => exact ⟨_, by simp [Builtin.len_, ht, run_underlying hu, hd, goInt], .int _ _⟩
      · rename_i hd
        cases h
        cases hx
        exact ⟨_, by simp [Builtin.len_, ht, run_underlying hu, hd, goInt], .int _ _⟩
      · rename_i r hd
        split at h
        · rename_i es clk hr
          cases h
          cases hx with
          | map _ hlt =>
          obtain ⟨en, h1, h2⟩ := hW.obj r _ hr
          have hl : (en.size : Int) = (es.length : Int) := by rw [← h2.1]; simp
          refine ⟨.int .i64 en.size, ?_, by rw [hl]; exact .int _ _⟩
          rw [Lim_ρ]
          simp [Builtin.len_, ht, run_underlying hu, hd, goInt, getObj, Sem.run, h1]
        · cases h
      · rename_i n e hd
        cases h
        exact ⟨_, by simp [Builtin.len_, ht, run_underlying hu, hd, goInt], .int _ _⟩
      · cases h

/-- A capacity, where it is known. -/
def capD (Z : Sys) (ts : Array TypeId) (x : D) : Option D :=
  match ts[0]? with
  | none => none
  | some t =>
    match Z.T t with
    | none => none
    | some it =>
      match it.d, x with
      | .slice _, .sl .nil _ _ => some (.int .i64 0)
      | .slice _, .sl .full n _ => some (.int .i64 n)
      | .slice _, .row _ _ _ (some k) _ => some (.int .i64 k)
      | _, _ => none
theorem capD_ok {Z : Sys} {ts : Array TypeId} {ty : TypeId} {x d : D} {s : GH} {w : World} {u : Value} (hx : V w (Lim s) u x) (h : capD Z ts x = some d) :
    ∃ y, (Builtin.cap_ ts ty #[u]).run Z.P w = .ok y w ∧ V w (Lim s) y d := by
  unfold capD at h
  split at h
  · cases h
  · rename_i t ht
    split at h
    · cases h
    · rename_i it hit
      obtain ⟨hu, inf, hinf, hs, hb, hz⟩ := Z.out hit
      split at h
      · rename_i hd
        cases h
        cases hx with
        | sl _ _ c A _ _ hn hb ho => exact ⟨_, by simp [Builtin.cap_, ht, run_underlying hu, hd, goInt]; rfl, by rw [ho.2.2]; exact .int _ _⟩
      · rename_i hd
        cases h
        cases hx with
        | sl _ _ c A _ _ hn hb ho => exact ⟨_, by simp [Builtin.cap_, ht, run_underlying hu, hd, goInt]; rfl, by rw [ho.2]; exact .int _ _⟩
      · rename_i hd
        cases h
        cases hx with
        | row _ _ _ _ _ _ c' _ hn hb hf => exact ⟨_, by simp [Builtin.cap_, ht, run_underlying hu, hd, goInt]; rfl, by rw [hf.1]; exact .int _ _⟩
      · cases h
end Go.Proofs.YthchlpikcpidaaaDoor.Vs
