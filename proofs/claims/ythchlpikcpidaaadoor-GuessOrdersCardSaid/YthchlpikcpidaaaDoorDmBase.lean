/- The engine 'Dm', part 1: pure values, how a world's values stand for them, owned objects with numbers of their own, and how a world may go on. -/
import Derived.WalkKit
import Derived.WalkLawsBesides
import Derived.WalkSpells
namespace Go.Proofs.YthchlpikcpidaaaDoor.Vs
open Go.RowKit
set_option linter.unusedVariables false
set_option linter.unusedSimpArgs false
/-- How a slice is held: nil; unknown; its capacity is its length; its block's free rest is the call's own. -/
inductive Own where
  | nil | no | full | tip (r z : Nat)
  deriving DecidableEq

/-- Pure values. A slice is its elements' cells; 'ptr', 'row', 'map' name owned objects by numbers. -/
inductive D where
  | junk
  | int (k : IntKind) (n : Int)
  | bool (b : Bool)
  | str (s : ByteArray)
  | nilptr
  | ptr (r off : Nat)
  | at (cs : List D)
  | sl (o : Own) (n : Nat) (cs : List D)
  | row (r off n : Nat) (c : Option Nat) (z : Nat)
  | nilmap
  | map (r : Nat)
  | nilfunc
  | func (f : FuncId) (caps : List D)
  | bfunc (f : FuncId) (firsts : List D)
  | agg (cs : List D)
  | tup (ds : List D)
  | nilif
  | iface (t : TypeId) (d : D)
  | meth (m : String) (t : TypeId)

def big : Nat := 9223372036854775807

/-- Where an owned object lies: its block, its first cell, how many cells it may take. -/
structure Loc where
  blk : Nat
  base : Nat
  cap : Nat
structure Lk where
  ok : Nat → Nat → Prop
  ρ : Nat → Loc
  N : Nat

def OwnOK (L : Lk) : Own → Option Addr → Nat → Nat → Prop
  | .nil, A, n, c => A = none ∧ n = 0 ∧ c = 0
  | .no, A, n, _ => A = none → n = 0
  | .full, A, n, c => A.isSome = true ∧ c = n
  | .tip r z, A, _, c => A = some ⟨(L.ρ r).blk, (L.ρ r).base, none⟩ ∧ c * z = (L.ρ r).cap ∧ r < L.N

/-- A row's capacity: told, or to the end of its object. -/
def CapOK (off : Nat) (c : Option Nat) (z c' cap : Nat) : Prop := match c with
  | some k => c' = k ∧ off + k * z ≤ cap
  | none => off + c' * z = cap

/-- A world's value stands for a pure one; 'L.ok b o': cell o of block b stays as it is. -/
inductive V (w : World) (L : Lk) : Value → D → Prop
  | junk (v : Value) : V w L v .junk
  | int (k : IntKind) (n : Int) : V w L (.int k n) (.int k n)
  | bool (b : Bool) : V w L (.bool b) (.bool b)
  | str (s : ByteArray) (h : s.size ≤ big) : V w L (.string s) (.str s)
  | nilptr : V w L (.pointer none) .nilptr
  | ptr (r off : Nat) (h : r < L.N) : V w L (.pointer (some ⟨(L.ρ r).blk, (L.ρ r).base + off, none⟩)) (.ptr r off)
  | at (a : Addr) (cs : List D) (us : Nat → Value) (h1 : ∀ i, i < cs.length → (us i).oneCell' = true)
      (hc : ∀ i, i < cs.length → w.cell? (a.add i) = some (us i) ∧ L.ok a.block (a.add i).off)
      (hv : ∀ i (h : i < cs.length), V w L (us i) cs[i]) : V w L (.pointer (some a)) (.at cs)
  | sl (o : Own) (n c : Nat) (A : Option Addr) (cs : List D) (us : Nat → Value) (hn : n ≤ c) (hb : c ≤ big) (ho : OwnOK L o A n c)
      (h1 : ∀ i, i < cs.length → (us i).oneCell' = true)
      (hc : ∀ i, i < cs.length → ∃ a, A = some a ∧ w.cell? (a.add i) = some (us i) ∧ L.ok a.block (a.add i).off)
      (hv : ∀ i (h : i < cs.length), V w L (us i) cs[i]) : V w L (.slice A n c) (.sl o n cs)
  | row (r off n : Nat) (c : Option Nat) (z : Nat) (a : Addr) (c' : Nat) (h : r < L.N) (hn : n ≤ c') (hb : c' ≤ big)
      (hf : CapOK off c z c' (L.ρ r).cap) (ha : 0 < c' → a = ⟨(L.ρ r).blk, (L.ρ r).base + off, none⟩) : V w L (.slice (some a) n c') (.row r off n c z)
  | nilmap : V w L (.map none) .nilmap
  | map (r : Nat) (h : r < L.N) : V w L (.map (some (L.ρ r).blk)) (.map r)
  | nilfunc : V w L .nilFunc .nilfunc
  | func (f : FuncId) (vs : Array Value) (cs : List D) (hl : vs.size = cs.length)
      (hv : ∀ i (h : i < cs.length), V w L (vs.getD i undef) cs[i]) : V w L (.func (.func f) #[] vs) (.func f cs)
  | bfunc (f : FuncId) (vs : Array Value) (cs : List D) (hl : vs.size = cs.length)
      (hv : ∀ i (h : i < cs.length), V w L (vs.getD i undef) cs[i]) : V w L (.func (.func f) vs #[]) (.bfunc f cs)
  | agg (vs : Array Value) (cs : List D) (hl : vs.size = cs.length) (h1 : ∀ v ∈ vs.toList, v.oneCell' = true)
      (hv : ∀ i (h : i < cs.length), V w L (vs.getD i undef) cs[i]) : V w L (.agg vs) (.agg cs)
  | tup (vs : Array Value) (cs : List D) (hl : vs.size = cs.length)
      (hv : ∀ i (h : i < cs.length), V w L (vs.getD i undef) cs[i]) : V w L (.tuple vs) (.tup cs)
  | nilif : V w L .nilIface .nilif
  | iface (t : TypeId) (v : Value) (d : D) (h : V w L v d) : V w L (.iface t v) (.iface t d)
  | meth (m : String) (t : TypeId) (v : Value) (vs : Array Value) : V w L (.func (.method m) #[.iface t v] vs) (.meth m t)

/-- An entry of a map: when it came, its key, its value. -/
structure ME where
  born : Nat
  key : D
  val : D
/-- Owned objects. -/
inductive AO where
  | cells (e : TypeId) (cs : List D)
  | tip (e : TypeId) (x : Nat)
  | map (es : List ME) (clk : Nat)
  | siter (s : ByteArray) (pos : Nat)
  | miter (m : Option Nat) (since : Nat) (seen : List Nat) (last : Nat)

structure Heap where
  next : Nat
  get : Nat → Option AO
def Heap.set (σ : Heap) (r : Nat) (o : AO) : Heap := ⟨σ.next, fun i => if i = r then some o else σ.get i⟩
def Heap.del (σ : Heap) (r : Nat) : Heap := ⟨σ.next, fun i => if i = r then none else σ.get i⟩
def Heap.new (σ : Heap) (o : AO) : Heap := ⟨σ.next + 1, fun i => if i = σ.next then some o else σ.get i⟩
def Heap.nil : Heap := ⟨0, fun _ => none⟩

inductive Eff where
  | keep | new (o : AO) | put (r : Nat) (o : AO) | move (r : Nat) (o : AO) | kill (r : Nat)
def Heap.app (σ : Heap) : Eff → Heap
  | .keep => σ
  | .new o => σ.new o
  | .put r o => σ.set r o
  | .move r o => (σ.del r).new o
  | .kill r => σ.del r

section
variable (σ : Heap)
theorem Heap.ext {σ τ : Heap} (h1 : σ.next = τ.next) (h2 : ∀ i, σ.get i = τ.get i) : σ = τ := by
  cases σ; cases τ; simp only at h1 h2; subst h1; congr; funext i; exact h2 i
theorem Heap.next_set (r : Nat) (o : AO) : (σ.set r o).next = σ.next := (rfl)
theorem Heap.next_del (r : Nat) : (σ.del r).next = σ.next := (rfl)
theorem Heap.next_new (o : AO) : (σ.new o).next = σ.next + 1 := (rfl)
theorem Heap.set_same (r : Nat) (o : AO) : (σ.set r o).get r = some o := by simp [Heap.set]
theorem Heap.set_ne {r i : Nat} (o : AO) (h : i ≠ r) : (σ.set r o).get i = σ.get i := by simp [Heap.set, h]
theorem Heap.del_same (r : Nat) : (σ.del r).get r = none := by simp [Heap.del]
theorem Heap.del_ne {r i : Nat} (h : i ≠ r) : (σ.del r).get i = σ.get i := by simp [Heap.del, h]
theorem Heap.new_same (o : AO) : (σ.new o).get σ.next = some o := by simp [Heap.new]
theorem Heap.new_ne {i : Nat} (o : AO) (h : i ≠ σ.next) : (σ.new o).get i = σ.get i := by simp [Heap.new, h]
theorem Heap.set_get (r : Nat) (o : AO) (i : Nat) : (σ.set r o).get i = if i = r then some o else σ.get i := (rfl)
theorem Heap.del_get (r : Nat) (i : Nat) : (σ.del r).get i = if i = r then none else σ.get i := (rfl)
theorem Heap.new_get (o : AO) (i : Nat) : (σ.new o).get i = if i = σ.next then some o else σ.get i := (rfl)
theorem Heap.set_set (r : Nat) (o o' : AO) : (σ.set r o).set r o' = σ.set r o' := by
  refine Heap.ext rfl fun i => ?_; simp only [Heap.set]; split <;> rfl
theorem Heap.new_set (o o' : AO) : (σ.new o).set σ.next o' = σ.new o' := by
  refine Heap.ext rfl fun i => ?_; simp only [Heap.set, Heap.new]; split <;> rfl
end
/-- An abstract heap with where its objects lie. -/
structure GH where
  σ : Heap
  ρ : Nat → Loc
def GH.push (s : GH) (o : AO) (l : Loc) : GH := ⟨s.σ.new o, fun i => if i = s.σ.next then l else s.ρ i⟩
def GH.put (s : GH) (r : Nat) (o : AO) : GH := ⟨s.σ.set r o, s.ρ⟩
def GH.del (s : GH) (r : Nat) : GH := ⟨s.σ.del r, s.ρ⟩

def Lim (s : GH) : Lk := ⟨fun b o => ∀ r x, s.σ.get r = some x → (s.ρ r).blk = b → (match x with
    | .tip _ n => o < (s.ρ r).base + n
    | _ => False), s.ρ, s.σ.next⟩
theorem Lim_N (s : GH) : (Lim s).N = s.σ.next := rfl
theorem Lim_ρ (s : GH) : (Lim s).ρ = s.ρ := rfl
def Free (s : GH) (b : Nat) : Prop := ∀ r x, s.σ.get r = some x → (s.ρ r).blk ≠ b
/-- Tables that lie where they were laid, which nobody owns: block, and what its cells are. -/
def tabs : List (Nat × (Array Value → Prop)) := []
def TabIn (w : World) : Prop := ∀ x ∈ tabs, ∃ cs e t, w.heap[x.1]? = some (.cells cs e t) ∧ x.2 cs
def TabW (s : GH) (w : World) : Prop := ∀ x ∈ tabs, (∃ cs e t, w.heap[x.1]? = some (.cells cs e t) ∧ x.2 cs) ∧ Free s x.1
theorem Free.ok {s : GH} {b : Nat} (h : Free s b) (o : Nat) : (Lim s).ok b o := fun r x hr hb => absurd hb (h r x hr)

/-- Entries of a map, in the order in which they came. -/
def EntsOK (w : World) (L : Lk) (ents : List MapEntry) (es : List ME) : Prop :=
  ents.length = es.length ∧ ∀ i (h : i < es.length), (ents.getD i default).born = es[i].born ∧ V w L (ents.getD i default).key es[i].key ∧ V w L (ents.getD i default).val es[i].val

theorem one_of_all {arr : Array Value} (h : ∀ v ∈ arr.toList, v.oneCell' = true) {b n : Nat} (hf : b + n ≤ arr.size) : ∀ i, i < n → (arr.getD (b + i) undef).oneCell' = true := fun i hi => by
  have hlt : b + i < arr.size := by omega
  refine h _ ?_
  simp [Array.getD, hlt]
def ObjOK (w : World) (s : GH) (r : Nat) : AO → Prop
  | .cells e cs => ∃ arr : Array Value, w.heap[(s.ρ r).blk]? = some (.cells arr e (0, 0)) ∧ cs.length ≤ (s.ρ r).cap ∧ (s.ρ r).base + (s.ρ r).cap ≤ arr.size ∧ (∀ i, i < cs.length → (arr.getD ((s.ρ r).base + i) undef).oneCell' = true) ∧
      ∀ i (h : i < cs.length), V w (Lim s) (arr.getD ((s.ρ r).base + i) undef) cs[i]
  | .tip e x => ∃ arr : Array Value, w.heap[(s.ρ r).blk]? = some (.cells arr e (0, 0)) ∧ x ≤ (s.ρ r).cap ∧ (s.ρ r).base + (s.ρ r).cap ≤ arr.size
  | .map es clk => ∃ ents : Array MapEntry, w.heap[(s.ρ r).blk]? = some (.map ents clk) ∧ EntsOK w (Lim s) ents.toList es
  | .siter t pos => w.heap[(s.ρ r).blk]? = some (.stringIter t pos) ∧ (s.ρ r).base = 0 ∧ t.size ≤ big
  | .miter m since seen last => w.heap[(s.ρ r).blk]? = some (.mapIter (m.map fun q => (s.ρ q).blk) since seen.toArray last) ∧ (s.ρ r).base = 0 ∧ ∀ q, m = some q → q < s.σ.next

structure W (s : GH) (w : World) : Prop where
  lt : ∀ r o, s.σ.get r = some o → r < s.σ.next
  obj : ∀ r o, s.σ.get r = some o → ObjOK w s r o
  inj : ∀ r q o p, s.σ.get r = some o → s.σ.get q = some p → (s.ρ r).blk = (s.ρ q).blk → r = q
  tab : TabW s w

theorem W.blk {s : GH} {w : World} (h : W s w) {r : Nat} {o : AO} (hr : s.σ.get r = some o) : (s.ρ r).blk < w.heap.size := by
  have := h.obj r o hr
  cases o with
  | cells e cs => obtain ⟨arr, h1, _⟩ := this; exact (Array.getElem?_eq_some_iff.1 h1).1
  | tip e x => obtain ⟨arr, h1, _⟩ := this; exact (Array.getElem?_eq_some_iff.1 h1).1
  | map es clk => obtain ⟨e, h1, _⟩ := this; exact (Array.getElem?_eq_some_iff.1 h1).1
  | siter t p => exact (Array.getElem?_eq_some_iff.1 this.1).1
  | miter m a b c => exact (Array.getElem?_eq_some_iff.1 this.1).1
/-- How a world goes on: what nobody owns stays, and what a tip has behind it stays. -/
structure Ext (w : World) (s : GH) (w' : World) (s' : GH) : Prop where
  os : w'.os = w.os
  tape : w'.tape = w.tape
  output : w'.output = w.output
  size : w.heap.size ≤ w'.heap.size
  next : s.σ.next ≤ s'.σ.next
  ren : ∀ r, r < s.σ.next → s'.ρ r = s.ρ r
  blk : ∀ b, b < w.heap.size → Free s b → w'.heap[b]? = w.heap[b]?
  free : ∀ b, b < w.heap.size → Free s b → Free s' b
  tip : ∀ r e x, s.σ.get r = some (.tip e x) → ∀ o v, o < (s.ρ r).base + x → w.cell? ⟨(s.ρ r).blk, o, none⟩ = some v → w'.cell? ⟨(s.ρ r).blk, o, none⟩ = some v ∧ (Lim s').ok (s.ρ r).blk o

theorem cell_lt {w : World} {a : Addr} {v : Value} (h : w.cell? a = some v) : a.block < w.heap.size := World.block_lt_of_cell? w a h
theorem cell_spot {w : World} {a : Addr} {v : Value} (h : w.cell? a = some v) : a.spot = none := by
  unfold World.cell? at h
  split at h
  · split at h
    · cases h
    · rename_i hs; simpa using hs
  · cases h
theorem cell_eta {w : World} {a : Addr} {v : Value} (h : w.cell? a = some v) : a = ⟨a.block, a.off, none⟩ := by
  have := cell_spot h
  cases a; simp_all
theorem cell_of_heap {w w' : World} {b : Nat} (h : w'.heap[b]? = w.heap[b]?) (o : Nat) : w'.cell? ⟨b, o, none⟩ = w.cell? ⟨b, o, none⟩ := by
  unfold World.cell?; rw [h]
theorem addr_add (b o i : Nat) : (⟨b, o, none⟩ : Addr).add i = ⟨b, o + i, none⟩ := by unfold Addr.add; split <;> simp_all

theorem W.inj' {s : GH} {w : World} (h : W s w) {r q : Nat} {o p : AO} (hr : s.σ.get r = some o) (hq : s.σ.get q = some p) (hne : q ≠ r) : (s.ρ q).blk ≠ (s.ρ r).blk :=
  fun e => hne (h.inj q r p o hq hr e)
theorem Ext.refl {w : World} {s : GH} (hW : W s w) : Ext w s w s :=
  ⟨rfl, rfl, rfl, Nat.le_refl _, Nat.le_refl _, fun _ _ => rfl, fun _ _ _ => rfl, fun _ _ h => h, fun r e x h o v ho hc => ⟨hc, fun q y hq hb => by
    have := hW.inj q r y _ hq h hb
    subst this
    rw [h] at hq; cases hq; exact ho⟩⟩

theorem Ext.keep {w w' : World} {s s' : GH} (h : Ext w s w' s') {b o : Nat} {v : Value} (hl : (Lim s).ok b o) (hc : w.cell? ⟨b, o, none⟩ = some v) :
    w'.cell? ⟨b, o, none⟩ = some v ∧ (Lim s').ok b o := by
  have hlt : b < w.heap.size := cell_lt hc
  by_cases hf : Free s b
  · exact ⟨(cell_of_heap (h.blk b hlt hf) o).trans hc, (h.free b hlt hf).ok o⟩
  · simp only [Free, Classical.not_forall, Classical.not_not] at hf
    obtain ⟨r, x, hr, hb⟩ := hf
    have := hl r x hr hb
    cases x with
    | tip e n =>
      subst hb
      exact h.tip r e n hr o v this hc
    | _ => exact this.elim

theorem Ext.keepA {w w' : World} {s s' : GH} (h : Ext w s w' s') {a : Addr} {v : Value} (hl : (Lim s).ok a.block a.off) (hc : w.cell? a = some v) :
    w'.cell? a = some v ∧ (Lim s').ok a.block a.off := by
  have he := cell_eta hc
  rw [he] at hc ⊢
  exact h.keep hl hc

theorem Ext.trans {w w1 w2 : World} {s s1 s2 : GH} (h : Ext w s w1 s1) (k : Ext w1 s1 w2 s2) : Ext w s w2 s2 := by
  refine ⟨k.os.trans h.os, k.tape.trans h.tape, k.output.trans h.output, Nat.le_trans h.size k.size, Nat.le_trans h.next k.next, fun r hr => ?_, fun b hb hn => ?_, fun b hb hn => ?_, fun r e x hs o v ho hc => ?_⟩
  · exact (k.ren r (Nat.lt_of_lt_of_le hr h.next)).trans (h.ren r hr)
  · exact (k.blk b (by have := h.size; omega) (h.free b hb hn)).trans (h.blk b hb hn)
  · exact k.free b (by have := h.size; omega) (h.free b hb hn)
  · obtain ⟨h1, h2⟩ := h.tip r e x hs o v ho hc
    exact k.keep h2 h1

theorem addr_block (a : Addr) (i : Nat) : (a.add i).block = a.block := by unfold Addr.add; split <;> rfl

/-- What a value stands for, seen from elsewhere. -/
structure Lk.Goes (w : World) (L : Lk) (w' : World) (L' : Lk) : Prop where
  cell : ∀ a v, w.cell? a = some v → L.ok a.block a.off → w'.cell? a = some v ∧ L'.ok a.block a.off
  ren : ∀ r, r < L.N → L'.ρ r = L.ρ r
  le : L.N ≤ L'.N

theorem V.mono {w w' : World} {L L' : Lk} (hw : Lk.Goes w L w' L') {v : Value} {d : D} (h : V w L v d) : V w' L' v d := by
  induction h with
  | junk v => exact .junk v
  | int k n => exact .int k n
  | bool b => exact .bool b
  | str s h => exact .str s h
  | nilptr => exact .nilptr
  | ptr r off h => rw [← hw.ren r h]; exact .ptr r off (Nat.lt_of_lt_of_le h hw.le)
  | «at» a cs us h1 hc hv ih =>
    refine .at a cs us h1 (fun i hi => ?_) ih
    have := hw.cell _ _ (hc i hi).1 (by rw [addr_block]; exact (hc i hi).2)
    rw [addr_block] at this
    exact this
  | sl o n c A cs us hn hb ho h1 hc hv ih =>
    refine .sl o n c A cs us hn hb ?_ h1 (fun i hi => ?_) ih
    · cases o with
      | tip r z => obtain ⟨h2, h3, h4⟩ := ho; simp only [OwnOK]; rw [hw.ren r h4]; exact ⟨h2, h3, Nat.lt_of_lt_of_le h4 hw.le⟩
      | _ => exact ho
    · obtain ⟨a, ha, hc1, hc2⟩ := hc i hi
      have := hw.cell _ _ hc1 (by rw [addr_block]; exact hc2)
      rw [addr_block] at this
      exact ⟨a, ha, this.1, this.2⟩
  | row r off n c z a c' h hn hb hf ha => rw [← hw.ren r h] at hf ha; exact .row r off n c z a c' (Nat.lt_of_lt_of_le h hw.le) hn hb hf ha
  | nilmap => exact .nilmap
  | map r h => rw [← hw.ren r h]; exact .map r (Nat.lt_of_lt_of_le h hw.le)
  | nilfunc => exact .nilfunc
  | func f vs cs hl hv ih => exact .func f vs cs hl ih
  | bfunc f vs cs hl hv ih => exact .bfunc f vs cs hl ih
  | agg vs cs hl h1 hv ih => exact .agg vs cs hl h1 ih
  | tup vs cs hl hv ih => exact .tup vs cs hl ih
  | nilif => exact .nilif
  | iface t v d h ih => exact .iface t v d ih
  | meth m t v vs => exact .meth m t v vs

theorem Ext.goes {w w' : World} {s s' : GH} (he : Ext w s w' s') : Lk.Goes w (Lim s) w' (Lim s') := ⟨fun a v hc hl => he.keepA hl hc, he.ren, he.next⟩
theorem V.ext {w w' : World} {s s' : GH} (he : Ext w s w' s') {v : Value} {d : D} (h : V w (Lim s) v d) : V w' (Lim s') v d := h.mono he.goes
theorem EntsOK.ext {w w' : World} {s s' : GH} (he : Ext w s w' s') {en : List MapEntry} {es : List ME} (h : EntsOK w (Lim s) en es) : EntsOK w' (Lim s') en es :=
  ⟨h.1, fun i hi => ⟨(h.2 i hi).1, (h.2 i hi).2.1.ext he, (h.2 i hi).2.2.ext he⟩⟩

/-- What is owned besides what is dealt with stays as it was. -/
theorem ObjOK.ext {w w' : World} {s s' : GH} (he : Ext w s w' s') {r : Nat} (hr : r < s.σ.next) (hb : w'.heap[(s.ρ r).blk]? = w.heap[(s.ρ r).blk]?) {o : AO} (h : ObjOK w s r o) : ObjOK w' s' r o := by
  have hρ := he.ren r hr
  cases o with
  | cells e cs => obtain ⟨arr, h1, h2, h3, h4, h5⟩ := h; exact ⟨arr, by rw [hρ]; exact hb.trans h1, by rw [hρ]; exact h2, by rw [hρ]; exact h3, fun i hi => by rw [hρ]; exact h4 i hi, fun i hi => by rw [hρ]; exact (h5 i hi).ext he⟩
  | tip e x => obtain ⟨arr, h1, h2, h3⟩ := h; exact ⟨arr, by rw [hρ]; exact hb.trans h1, by rw [hρ]; exact h2, by rw [hρ]; exact h3⟩
  | map es clk => obtain ⟨en, h1, h2⟩ := h; exact ⟨en, by rw [hρ]; exact hb.trans h1, h2.ext he⟩
  | siter t p => obtain ⟨h1, h2, h3⟩ := h; exact ⟨by rw [hρ]; exact hb.trans h1, by rw [hρ]; exact h2, h3⟩
  | miter m a b c =>
    obtain ⟨h1, h2, h3⟩ := h
    have e : (m.map fun q => (s'.ρ q).blk) = m.map fun q => (s.ρ q).blk := by
      cases m with
      | none => rfl
      | some q => simp only [Option.map_some]; rw [he.ren q (h3 q rfl)]
    exact ⟨by rw [hρ, e]; exact hb.trans h1, by rw [hρ]; exact h2, fun q hq => Nat.lt_of_lt_of_le (h3 q hq) he.next⟩

theorem W.step {w w' : World} {s s' : GH} (h : W s w) (he : Ext w s w' s') (hs : ∀ r o, s'.σ.get r = some o → (s.σ.get r = some o ∧ w'.heap[(s.ρ r).blk]? = w.heap[(s.ρ r).blk]?) ∨ (r < s'.σ.next ∧ ObjOK w' s' r o))
    (hi : ∀ r q o p, s'.σ.get r = some o → s'.σ.get q = some p → (s'.ρ r).blk = (s'.ρ q).blk → r = q) : W s' w' := by
  refine ⟨fun r o hr => ?_, fun r o hr => ?_, hi, fun x hx => by
    obtain ⟨⟨cs, e, t, h1, h3⟩, h2⟩ := h.tab x hx
    have hlt := (Array.getElem?_eq_some_iff.1 h1).1
    exact ⟨⟨cs, e, t, (he.blk _ hlt h2).trans h1, h3⟩, he.free _ hlt h2⟩⟩
  · rcases hs r o hr with ⟨h1, h2⟩ | h1
    · exact Nat.lt_of_lt_of_le (h.lt r o h1) he.next
    · exact h1.1
  · rcases hs r o hr with ⟨h1, h2⟩ | h1
    · exact (h.obj r o h1).ext he (h.lt r o h1) h2
    · exact h1.2

/-- A draw. -/
theorem Ext.drawn {w : World} {s : GH} (hW : W s w) (n : Nat) : Ext w s { w with drawn := n } s :=
  ⟨rfl, rfl, rfl, Nat.le_refl _, Nat.le_refl _, fun _ _ => rfl, fun _ _ _ => rfl, fun _ _ h => h, fun r e x h o v ho hc => ⟨hc, ((Ext.refl hW).tip r e x h o v ho hc).2⟩⟩
theorem W.drawn {w : World} {s : GH} (h : W s w) (n : Nat) : W s { w with drawn := n } := h.step (Ext.drawn h n) (fun _ _ hr => .inl ⟨hr, rfl⟩) h.inj

/-- A new block that is not owned. -/
theorem alloc_heap (w : World) (o : Obj) (k : Nat) (h : k < w.heap.size) : (w.alloc o).heap[k]? = w.heap[k]? := Below.heap_alloc w o k h
theorem alloc_new (w : World) (o : Obj) : (w.alloc o).heap[w.heap.size]? = some o := heap_alloc_new w o
theorem Ext.alloc {w : World} {s : GH} (hW : W s w) (o : Obj) : Ext w s (w.alloc o) s :=
  ⟨rfl, rfl, rfl, by simp, Nat.le_refl _, fun _ _ => rfl, fun b hb _ => alloc_heap w o b hb, fun _ _ h => h, fun r e x h p v hp hc =>
    ⟨(cell_of_heap (alloc_heap w o _ (hW.blk h)) p).trans hc, ((Ext.refl hW).tip r e x h p v hp hc).2⟩⟩
theorem W.alloc {w : World} {s : GH} (h : W s w) (o : Obj) : W s (w.alloc o) :=
  h.step (Ext.alloc h o) (fun r _ hr => .inl ⟨hr, alloc_heap w o _ (h.blk hr)⟩) h.inj

theorem Ext.of_below {w w' : World} {s : GH} (hW : W s w) (h : Below w.heap.size w w') : Ext w s w' s :=
  ⟨h.os, h.tape, h.output, h.size, Nat.le_refl _, fun _ _ => rfl, fun b hb _ => h.block b hb, fun _ _ hn => hn, fun r e x hr o v ho hc =>
    ⟨(cell_of_heap (h.block _ (hW.blk hr)) o).trans hc, ((Ext.refl hW).tip r e x hr o v ho hc).2⟩⟩
theorem W.of_below {w w' : World} {s : GH} (hW : W s w) (h : Below w.heap.size w w') : W s w' :=
  hW.step (Ext.of_below hW h) (fun q o hq => .inl ⟨hq, h.block _ (hW.blk hq)⟩) hW.inj

theorem push_get (s : GH) (o : AO) (l : Loc) (i : Nat) : (s.push o l).σ.get i = if i = s.σ.next then some o else s.σ.get i := rfl
theorem push_ρ (s : GH) (o : AO) (l : Loc) (i : Nat) : (s.push o l).ρ i = if i = s.σ.next then l else s.ρ i := rfl
theorem push_ρ_new (s : GH) (o : AO) (l : Loc) : (s.push o l).ρ s.σ.next = l := by simp [GH.push]
theorem push_ρ_old (s : GH) (o : AO) (l : Loc) {i : Nat} (h : i ≠ s.σ.next) : (s.push o l).ρ i = s.ρ i := by simp [GH.push, h]
/-- A new object in a new block; 's0' is what was there less what has gone over to the new one. -/
theorem Ext.own {w w' : World} {s s0 : GH} (hW : W s w) (o : AO) (l : Loc) (hl : w.heap.size ≤ l.blk) (hσ : s0.σ.next = s.σ.next) (hρ : s0.ρ = s.ρ) (h0 : ∀ r x, s0.σ.get r = some x → s.σ.get r = some x)
    (hos : w'.os = w.os) (htp : w'.tape = w.tape) (hout : w'.output = w.output) (hsz : w.heap.size ≤ w'.heap.size) (hh : ∀ b, b < w.heap.size → w'.heap[b]? = w.heap[b]?) : Ext w s w' (s0.push o l) := by
  have hne : ∀ r x, s0.σ.get r = some x → r ≠ s0.σ.next := fun r x hr he => by
    have := hW.lt r x (h0 r x hr)
    rw [he, hσ] at this
    exact Nat.lt_irrefl _ this
  refine ⟨hos, htp, hout, hsz, by simp [GH.push, Heap.new, hσ], fun r hr => ?_, fun b hb _ => hh b hb, fun b hb hn r x hr => ?_, fun r e x hs p v hp hc => ?_⟩
  · rw [push_ρ_old _ _ _ (by rw [hσ]; omega), hρ]
  · rw [push_get] at hr
    split at hr
    · rename_i he
      subst he
      rw [push_ρ_new]
      exact fun he => by omega
    · rename_i he
      rw [push_ρ_old _ _ _ he, hρ]
      exact hn r x (h0 r x hr)
  · have hblt := hW.blk hs
    refine ⟨(cell_of_heap (hh _ hblt) p).trans hc, fun q y hq hb => ?_⟩
    rw [push_get] at hq
    split at hq
    · rename_i he
      subst he
      rw [push_ρ_new] at hb
      omega
    · rename_i he
      rw [push_ρ_old _ _ _ he, hρ] at hb ⊢
      have := hW.inj q r y _ (h0 q y hq) hs hb
      subst this
      have := h0 _ _ hq
      rw [hs] at this
      cases this
      exact hp

theorem W.own {w w' : World} {s s0 : GH} (hW : W s w) (o : AO) (l : Loc) (hl : w.heap.size ≤ l.blk) (hσ : s0.σ.next = s.σ.next) (hρ : s0.ρ = s.ρ) (h0 : ∀ r x, s0.σ.get r = some x → s.σ.get r = some x)
    (hE : Ext w s w' (s0.push o l)) (hh : ∀ b, b < w.heap.size → w'.heap[b]? = w.heap[b]?) (hx : ObjOK w' (s0.push o l) s0.σ.next o) : W (s0.push o l) w' := by
  refine hW.step hE (fun r y hr => ?_) (fun r q y z hr hq hb => ?_)
  · rw [push_get] at hr
    split at hr
    · rename_i he
      subst he
      cases hr
      exact .inr ⟨by simp [GH.push, Heap.new], hx⟩
    · exact .inl ⟨h0 r y hr, hh _ (hW.blk (h0 r y hr))⟩
  · rw [push_get] at hr hq
    rw [push_ρ, push_ρ, hρ] at hb
    split at hr <;> split at hq
    · rename_i h1 h2; rw [h1, h2]
    · rename_i h1 h2
      rw [if_pos h1, if_neg h2] at hb
      have := hW.blk (h0 q z hq)
      omega
    · rename_i h1 h2
      rw [if_neg h1, if_pos h2] at hb
      have := hW.blk (h0 r y hr)
      omega
    · rename_i h1 h2
      rw [if_neg h1, if_neg h2] at hb
      exact hW.inj r q y z (h0 r y hr) (h0 q z hq) hb

/-- Fewer objects: the same world. -/
structure HLe (τ σ : Heap) : Prop where
  next : τ.next ≤ σ.next
  get : ∀ r o, τ.get r = some o → σ.get r = some o
theorem HLe.refl (σ : Heap) : HLe σ σ := ⟨Nat.le_refl _, fun _ _ h => h⟩
theorem HLe.trans {a b c : Heap} (h : HLe a b) (k : HLe b c) : HLe a c := ⟨Nat.le_trans h.next k.next, fun r o hr => k.get r o (h.get r o hr)⟩
theorem HLe.new {τ σ : Heap} (o : AO) (h : HLe τ σ) (hτ : ∀ r x, τ.get r = some x → r < τ.next) : HLe τ (σ.new o) :=
  ⟨Nat.le_succ_of_le h.next, fun r x hr => by
    have := hτ r x hr
    have := h.next
    rw [Heap.new_ne _ _ (by omega)]; exact h.get r x hr⟩
theorem HLe.del (σ : Heap) (r : Nat) : HLe (σ.del r) σ := ⟨Nat.le_refl _, fun i x hi => by
  by_cases hir : i = r
  · subst hir; rw [Heap.del_same] at hi; cases hi
  · rw [Heap.del_ne _ hir] at hi; exact hi⟩
theorem HLe.set {τ σ : Heap} {r : Nat} (o : AO) (h : HLe τ σ) (hr : τ.get r = none) : HLe τ (σ.set r o) := ⟨h.next, fun i x hi => by
  by_cases hir : i = r
  · subst hir; rw [hr] at hi; cases hi
  · rw [Heap.set_ne _ _ hir]; exact h.get i x hi⟩
theorem HLe.set_del {τ σ : Heap} {r : Nat} (h : HLe τ σ) (hr : τ.get r = none) : HLe τ (σ.del r) := ⟨h.next, fun i x hi => by
  by_cases hir : i = r
  · subst hir; rw [hr] at hi; cases hi
  · rw [Heap.del_ne _ hir]; exact h.get i x hi⟩
/-- The same world with fewer objects. -/
theorem Lim_less {τ : Heap} {s : GH} (h : HLe τ s.σ) {b o : Nat} (hl : (Lim s).ok b o) : (Lim ⟨τ, s.ρ⟩).ok b o := fun r x hr hb => hl r x (h.get r x hr) hb

/-- Values whose objects are all among the first ones. -/
inductive Bel (N : Nat) : D → Prop
  | junk : Bel N .junk
  | int (k : IntKind) (n : Int) : Bel N (.int k n)
  | bool (b : Bool) : Bel N (.bool b)
  | str (s : ByteArray) : Bel N (.str s)
  | nilptr : Bel N .nilptr
  | ptr (r off : Nat) (h : r < N) : Bel N (.ptr r off)
  | at (cs : List D) (h : ∀ d, d ∈ cs → Bel N d) : Bel N (.at cs)
  | sl (o : Own) (n : Nat) (cs : List D) (ho : ∀ r z, o = .tip r z → r < N) (h : ∀ d, d ∈ cs → Bel N d) : Bel N (.sl o n cs)
  | row (r off n : Nat) (c : Option Nat) (z : Nat) (h : r < N) : Bel N (.row r off n c z)
  | nilmap : Bel N .nilmap
  | map (r : Nat) (h : r < N) : Bel N (.map r)
  | nilfunc : Bel N .nilfunc
  | func (f : FuncId) (cs : List D) (h : ∀ d, d ∈ cs → Bel N d) : Bel N (.func f cs)
  | bfunc (f : FuncId) (cs : List D) (h : ∀ d, d ∈ cs → Bel N d) : Bel N (.bfunc f cs)
  | agg (cs : List D) (h : ∀ d, d ∈ cs → Bel N d) : Bel N (.agg cs)
  | tup (cs : List D) (h : ∀ d, d ∈ cs → Bel N d) : Bel N (.tup cs)
  | nilif : Bel N .nilif
  | iface (t : TypeId) (d : D) (h : Bel N d) : Bel N (.iface t d)
  | meth (m : String) (t : TypeId) : Bel N (.meth m t)

theorem V.less {w : World} {τ : Heap} {s : GH} (h : HLe τ s.σ) {v : Value} {d : D} (hv : V w (Lim s) v d) (hd : Bel τ.next d) : V w (Lim ⟨τ, s.ρ⟩) v d := by
  induction hv with
  | junk v => exact .junk v
  | int k n => exact .int k n
  | bool b => exact .bool b
  | str s h => exact .str s h
  | nilptr => exact .nilptr
  | ptr r off h => cases hd with
    | ptr _ _ hd => exact .ptr (L := Lim ⟨τ, s.ρ⟩) r off hd
  | «at» a cs us h1 hc hv ih => cases hd with
    | «at» _ hd => exact .at a cs us h1 (fun i hi => ⟨(hc i hi).1, Lim_less h (hc i hi).2⟩) (fun i hi => ih i hi (hd _ (List.getElem_mem hi)))
  | sl o n c A cs us hn hb ho h1 hc hv ih => cases hd with
    | sl _ _ _ hd1 hd =>
    refine .sl o n c A cs us hn hb ?_ h1 (fun i hi => ?_) (fun i hi => ih i hi (hd _ (List.getElem_mem hi)))
    · cases o with
      | tip r z => exact ⟨ho.1, ho.2.1, hd1 r z rfl⟩
      | _ => exact ho
    · obtain ⟨a, ha, hc1, hc2⟩ := hc i hi
      exact ⟨a, ha, hc1, Lim_less h hc2⟩
  | row r off n c z a c' h hn hb hf ha => cases hd with
    | row _ _ _ _ _ hd => exact .row (L := Lim ⟨τ, s.ρ⟩) r off n c z a c' hd hn hb hf ha
  | nilmap => exact .nilmap
  | map r h => cases hd with
    | map _ hd => exact .map (L := Lim ⟨τ, s.ρ⟩) r hd
  | nilfunc => exact .nilfunc
  | func f vs cs hl hv ih => cases hd with
    | func _ _ hd => exact .func f vs cs hl (fun i hi => ih i hi (hd _ (List.getElem_mem hi)))
  | bfunc f vs cs hl hv ih => cases hd with
    | bfunc _ _ hd => exact .bfunc f vs cs hl (fun i hi => ih i hi (hd _ (List.getElem_mem hi)))
  | agg vs cs hl h1 hv ih => cases hd with
    | agg _ hd => exact .agg vs cs hl h1 (fun i hi => ih i hi (hd _ (List.getElem_mem hi)))
  | tup vs cs hl hv ih => cases hd with
    | tup _ hd => exact .tup vs cs hl (fun i hi => ih i hi (hd _ (List.getElem_mem hi)))
  | nilif => exact .nilif
  | iface t v d h ih => cases hd with
    | iface _ _ hd => exact .iface t v d (ih hd)
  | meth m t v vs => exact .meth m t v vs

def AO.Bel (N : Nat) : AO → Prop
  | .cells _ cs => ∀ d ∈ cs, Go.Proofs.YthchlpikcpidaaaDoor.Vs.Bel N d
  | .map es _ => ∀ e ∈ es, Go.Proofs.YthchlpikcpidaaaDoor.Vs.Bel N e.key ∧ Go.Proofs.YthchlpikcpidaaaDoor.Vs.Bel N e.val
  | .miter m _ _ _ => ∀ q, m = some q → q < N
  | _ => True
structure Closed (τ : Heap) : Prop where
  lt : ∀ r o, τ.get r = some o → r < τ.next
  ok : ∀ r o, τ.get r = some o → o.Bel τ.next
theorem bel_all {N : Nat} {cs : List D} (h : ∀ i (h : i < cs.length), Bel N cs[i]) : ∀ d ∈ cs, Bel N d := fun d hd => by
  obtain ⟨i, hi, rfl⟩ := List.getElem_of_mem hd; exact h i hi
theorem V.bel {w : World} {L : Lk} {v : Value} {d : D} (h : V w L v d) : Bel L.N d := by
  induction h with
  | ptr r off h => exact .ptr r off h
  | «at» a cs us h1 hc hv ih => exact .at cs (bel_all ih)
  | sl o n c A cs us hn hb ho h1 hc hv ih =>
    refine .sl o n cs (fun r z he => ?_) (bel_all ih)
    subst he
    exact ho.2.2
  | row r off n c z a c' h => exact .row r off n c z h
  | map r h => exact .map r h
  | func f vs cs hl hv ih => exact .func f cs (bel_all ih)
  | bfunc f vs cs hl hv ih => exact .bfunc f cs (bel_all ih)
  | agg vs cs hl h1 hv ih => exact .agg cs (bel_all ih)
  | tup vs cs hl hv ih => exact .tup cs (bel_all ih)
  | iface t v d h ih => exact .iface t d ih
  | _ => constructor
theorem W.closed {s : GH} {w : World} (h : W s w) : Closed s.σ := ⟨h.lt, fun r o hr => by
  have := h.obj r o hr
  cases o with
  | cells e cs => obtain ⟨arr, _, _, _, _, h5⟩ := this; exact bel_all fun i hi => (h5 i hi).bel
  | map es clk =>
    obtain ⟨en, _, h2⟩ := this
    intro e he
    obtain ⟨i, hi, rfl⟩ := List.getElem_of_mem he
    exact ⟨(h2.2 i hi).2.1.bel, (h2.2 i hi).2.2.bel⟩
  | miter m a b c => exact this.2.2
  | _ => trivial⟩
theorem W.less {w : World} {τ : Heap} {s : GH} (h : HLe τ s.σ) (hc : Closed τ) (hW : W s w) : W ⟨τ, s.ρ⟩ w := by
  refine ⟨hc.lt, fun r o hr => ?_, fun r q o p hr hq hb => hW.inj r q o p (h.get r o hr) (h.get q p hq) hb, fun x hx => ⟨(hW.tab x hx).1, fun r y hr => (hW.tab x hx).2 r y (h.get r y hr)⟩⟩
  have := hW.obj r o (h.get r o hr)
  have hok := hc.ok r o hr
  cases o with
  | cells e cs => obtain ⟨arr, h1, h2, h3, h4, h5⟩ := this; exact ⟨arr, h1, h2, h3, h4, fun i hi => (h5 i hi).less h (hok _ (List.getElem_mem hi))⟩
  | tip e x => exact this
  | map es clk =>
    obtain ⟨en, h1, h2⟩ := this
    exact ⟨en, h1, ⟨h2.1, fun i hi => ⟨(h2.2 i hi).1, (h2.2 i hi).2.1.less h (hok _ (List.getElem_mem hi)).1, (h2.2 i hi).2.2.less h (hok _ (List.getElem_mem hi)).2⟩⟩⟩
  | siter t p => exact this
  | miter m a b c => exact ⟨this.1, this.2.1, hok⟩
theorem Ext.less {w0 w : World} {s0 s : GH} (h0 : Ext w0 s0 w s) {τ : Heap} (h : HLe τ s.σ) (hn : s0.σ.next ≤ τ.next) : Ext w0 s0 w ⟨τ, s.ρ⟩ :=
  ⟨h0.os, h0.tape, h0.output, h0.size, hn, h0.ren, h0.blk, fun b hb hf r x hr => h0.free b hb hf r x (h.get r x hr), fun r e x hs o v ho hc =>
    ⟨(h0.tip r e x hs o v ho hc).1, Lim_less h (h0.tip r e x hs o v ho hc).2⟩⟩

/-- What pure value a closed world's value stands for. -/
def ofV : Value → D
  | .int k n => .int k n
  | .bool b => .bool b
  | .string s => if s.size ≤ big then .str s else .junk
  | .pointer none => .nilptr
  | .slice none 0 0 => .sl .nil 0 []
  | .map none => .nilmap
  | .nilFunc => .nilfunc
  | .nilIface => .nilif
  | _ => .junk
theorem V_ofV (w : World) (L : Lk) (v : Value) : V w L v (ofV v) := by
  unfold ofV
  split
  · exact .int _ _
  · exact .bool _
  · split
    · exact .str _ ‹_›
    · exact .junk _
  · exact .nilptr
  · exact .sl .nil 0 0 none [] (fun _ => undef) (Nat.le_refl _) (by simp [big]) ⟨rfl, rfl, rfl⟩ (fun i hi => absurd hi (by simp)) (fun i hi => absurd hi (by simp)) (fun i hi => absurd hi (by simp))
  · exact .nilmap
  · exact .nilfunc
  · exact .nilif
  · exact .junk _

/-- What the program's types are, as a table. -/
structure TInfo where
  d : TypeDesc
  size : Nat
  bytes : Nat
  zero : Value
  eqg : Bool := false
  stood : Bool := false

def TI (P : Program) (t : TypeId) : Option TInfo :=
  match P.underlying t, P.info? t with
  | some d, some i => match i.zero with
    | some z => some ⟨d, i.size, i.bytes, z, P.eqGuardType P.depth t, P.stoodInHeld t⟩
    | none => none
  | _, _ => none

/-- A type's method: what the machine finds. -/
def MethOK (P : Program) (t : TypeId) (m : String) (f : FuncId) : Prop := ∀ (v : Value) (w : World), (method (P.types.size + Made.depth) t v m).run P w = .ok (f, v) w ∧ (nilAhead (P.types.size + Made.depth) t v m).run P w = .ok (some false) w
/-- A program with its table of types, and of methods. -/
structure Sys where
  P : Program
  T : TypeId → Option TInfo
  ok : ∀ t i, T t = some i → P.underlying t = some i.d ∧ ∃ inf, P.info? t = some inf ∧ inf.size = i.size ∧ inf.bytes = i.bytes ∧ inf.zero = some i.zero ∧
    (i.eqg = false → P.eqGuardType P.depth t = false) ∧ (i.stood = false → P.stoodInHeld t = false)
  M : TypeId → String → Option FuncId
  mok : ∀ t m f, M t m = some f → MethOK P t m f
theorem Sys.out (Z : Sys) {t : TypeId} {i : TInfo} (h : Z.T t = some i) :
    Z.P.underlying t = some i.d ∧ ∃ inf, Z.P.info? t = some inf ∧ inf.size = i.size ∧ inf.bytes = i.bytes ∧ inf.zero = some i.zero :=
  ⟨(Z.ok t i h).1, let ⟨inf, h1, h2, h3, h4, _⟩ := (Z.ok t i h).2; ⟨inf, h1, h2, h3, h4⟩⟩
end Go.Proofs.YthchlpikcpidaaaDoor.Vs
