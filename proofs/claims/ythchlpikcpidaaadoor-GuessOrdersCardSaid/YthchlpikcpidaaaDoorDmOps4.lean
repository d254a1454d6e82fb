/- The engine 'Dm', part 5: arithmetic, comparisons. -/
import Derived.Test.YthchlpikcpidaaaDoorDmOps3
namespace Go.Proofs.YthchlpikcpidaaaDoor.Vs
open Go.RowKit
set_option linter.unusedVariables false
set_option linter.unusedSimpArgs false
def eqS (d : TypeDesc) (x y : D) : Option Bool :=
  match d, x, y with
  | .int _, .int k a, .int k' b => if k = k' then some (a == b) else none
  | .string, .str a, .str b => some (a == b)
  | .bool, .bool a, .bool b => some (a == b)
  | _, _, _ => none

theorem eqS_ok {P : Program} {w w' : World} {L : Lk} {t : TypeId} {td : TypeDesc} {a b : Value} {x y : D} {r : Bool} (d : Nat) (hu : P.underlying t = some td) (ha : V w L a x) (hb : V w L b y) (h : eqS td x y = some r) :
    (Op.equalIn (d + 1) t a b).run P w' = .ok r w' := by
  unfold eqS at h
  split at h
  · rename_i kt k n k' n'
    split at h
    · rename_i hk
      subst hk
      cases h
      cases ha; cases hb
      exact run_equalIn_int w' d t k kt n n' hu
    · cases h
  · rename_i s s'
    cases h
    cases ha; cases hb
    rw [run_equalIn_string w' d t s s' hu, beq_toListBytes]
  · cases h
    cases ha; cases hb
    exact run_equalIn_bool' w' d t _ _ hu
  · cases h

def fieldEq (Z : Sys) (xs ys : List D) (f : Field) : Option Bool :=
  match Z.T f.type, xs[f.offset]?, ys[f.offset]? with
  | some i, some a, some b => if i.isAgg then none else eqS i.d a b
  | _, _, _ => none

def eqFs (Z : Sys) (xs ys : List D) : List Field → Option Bool
  | [] => some true
  | f :: fs => if f.name = "_" then none else
    match fieldEq Z xs ys f with
    | some true => eqFs Z xs ys fs
    | some false => some false
    | none => none

theorem eqFs_ok {Z : Sys} {w w' : World} {L : Lk} (d : Nat) {vx vy : Array Value} {xs ys : List D} (hx : Vs w L vx xs) (hy : Vs w L vy ys) : ∀ (fs : List Field) (r : Bool), eqFs Z xs ys fs = some r →
    (Op.eqFields (d + 1) vx vy fs).run Z.P w' = .ok r w'
  | [], r, h => by simp [eqFs] at h; subst h; simp [Op.eqFields]
  | f :: fs, r, h => by
    simp only [eqFs] at h
    split at h
    · cases h
    · rename_i hn
      have step : ∀ q, fieldEq Z xs ys f = some q → ∃ a b, (part f.type vx f.offset).run Z.P w' = .ok a w' ∧ (part f.type vy f.offset).run Z.P w' = .ok b w' ∧ (Op.equalIn (d + 1) f.type a b).run Z.P w' = .ok q w' := fun q hq => by
        unfold fieldEq at hq
        split at hq
        · rename_i i a b hi ha hb
          split at hq
          · cases hq
          · rename_i hag
            have hag' := Z.isAgg hi w'
            have hla := (List.getElem?_eq_some_iff.1 ha)
            have hlb := (List.getElem?_eq_some_iff.1 hb)
            obtain ⟨la, rfl⟩ := hla
            obtain ⟨lb, rfl⟩ := hlb
            have hva := hx.2.2 _ la
            have hvb := hy.2.2 _ lb
            have la' : f.offset < vx.size := by rw [hx.1]; exact la
            have lb' : f.offset < vy.size := by rw [hy.1]; exact lb
            refine ⟨_, _, ?_, ?_, eqS_ok d (Z.out hi).1 hva hvb hq⟩
            · simp [part, hag', hag, la', Array.getD]
            · simp [part, hag', hag, lb', Array.getD]
        · cases hq
      split at h
      · rename_i hq
        obtain ⟨a, b, h1, h2, h3⟩ := step true hq
        have := eqFs_ok (w' := w') d hx hy fs r h
        simp [Op.eqFields, hn, h1, h2, h3, this]
      · rename_i hq
        cases h
        obtain ⟨a, b, h1, h2, h3⟩ := step false hq
        simp [Op.eqFields, hn, h1, h2, h3]
      · cases h

def nilOf (o : Own) (n : Nat) : Option Bool :=
  match o with
  | .nil => some true
  | .no => if 0 < n then some false else none
  | _ => some false

/-- Equality at a type: numbers, texts, bools, structs of these, and against nil. -/
def eqT (Z : Sys) (t : TypeId) (x y : D) : Option Bool :=
  match Z.T t with
  | none => none
  | some i =>
    match i.d, x, y with
    | .struct fs, .agg xs, .agg ys => if i.stood = false then eqFs Z xs ys fs.toList else none
    | .slice _, .sl o n _, .sl .nil _ _ => nilOf o n
    | .slice _, .row _ _ _ _ _, .sl .nil _ _ => some false
    | .map _ _, .nilmap, .nilmap => some true
    | .map _ _, .map _, .nilmap => some false
    | .pointer _, .nilptr, .nilptr => some true
    | .pointer _, .ptr _ _, .nilptr => some false
    | .pointer _, .at _, .nilptr => some false
    | .func _ _ _, .nilfunc, .nilfunc => some true
    | .func _ _ _, .func _ _, .nilfunc => some false
    | .interface _, .iface _ _, .nilif => some false
    | d, x, y => eqS d x y

theorem sl_isNone {w : World} {L : Lk} {o : Own} {n : Nat} {cs : List D} {v : Value} (h : V w L v (.sl o n cs)) : ∃ A c, v = .slice A n c ∧ (nilOf o n = some A.isNone ∨ nilOf o n = none) := by
  cases h with
  | sl _ _ c A _ us hn hb ho h1 hc hv =>
    refine ⟨A, c, rfl, ?_⟩
    cases o with
    | nil => left; obtain ⟨rfl, _⟩ := ho; rfl
    | no =>
      rcases Nat.eq_zero_or_pos n with h0 | h0
      · right; simp [nilOf, h0]
      · left
        cases A with
        | none => have := ho rfl; omega
        | some a => simp [nilOf, h0]
    | full => left; cases A with
      | none => exact absurd ho.1 (by simp)
      | some a => rfl
    | tip r z => left; obtain ⟨rfl, _⟩ := ho; rfl

theorem eqn_ptr {P : Program} (w : World) (d : Nat) {t e : TypeId} (hu : P.underlying t = some (.pointer e)) (a : Option Addr) : (Op.equalIn (d + 1) t (.pointer a) (.pointer none)).run P w = .ok a.isNone w := by
  cases a <;> simp [Op.equalIn, run_underlying hu]

theorem eqn_func0 {P : Program} (w : World) (d : Nat) {t : TypeId} {p r : Array TypeId} {v : Bool} (hu : P.underlying t = some (.func p r v)) : (Op.equalIn (d + 1) t .nilFunc .nilFunc).run P w = .ok true w := by
  simp [Op.equalIn, run_underlying hu]

theorem eqn_func1 {P : Program} (w : World) (d : Nat) {t : TypeId} {p r : Array TypeId} {v : Bool} (hu : P.underlying t = some (.func p r v)) (f : Fn) (a b : Array Value) : (Op.equalIn (d + 1) t (.func f a b) .nilFunc).run P w = .ok false w := by
  simp [Op.equalIn, run_underlying hu]

theorem eqn_if {P : Program} (w : World) (d : Nat) {t : TypeId} {ms : Array (String × TypeId)} (hu : P.underlying t = some (.interface ms)) (u : TypeId) (v : Value) : (Op.equalIn (d + 1) t (.iface u v) .nilIface).run P w = .ok false w := by
  simp [Op.equalIn, run_underlying hu]

theorem eqT_ok {Z : Sys} {w w' : World} {L : Lk} {t : TypeId} {a b : Value} {x y : D} {r : Bool} (ha : V w L a x) (hb : V w L b y) (h : eqT Z t x y = some r) :
    (Op.equal t a b).run Z.P w' = .ok r w' := by
  show (Op.equalIn (9998 + 1 + 1) t a b).run Z.P w' = _
  unfold eqT at h
  split at h
  · cases h
  · rename_i i hi
    obtain ⟨hu, inf, hinf, hs, hbt, hz⟩ := Z.out hi
    obtain ⟨_, _, _, _, _, _, _, hstood⟩ := Z.ok t i hi
    split at h
    · rename_i fs xs ys hd
      split at h
      · rename_i hst
        cases ha with
        | agg vx _ hl1 h11 hv1 =>
          cases hb with
          | agg vy _ hl2 h12 hv2 =>
            have hf : Z.P.fieldsOf t = fs := by simp [Program.fieldsOf, hu, hd]
            rw [run_equalIn_struct w' (9998 + 1) t vx vy (by rw [hf, hu, hd]) (hstood hst), hf]
            exact eqFs_ok 9998 ⟨hl1, h11, hv1⟩ ⟨hl2, h12, hv2⟩ fs.toList r h
      · cases h
    · rename_i e o n cs n2 cs2 hd
      obtain ⟨A, c, rfl, hA⟩ := sl_isNone ha
      cases hb with
      | sl _ _ c2 A2 _ us hn hb2 ho h1 hc hv =>
        obtain ⟨rfl, rfl, rfl⟩ := ho
        have hr : r = A.isNone := by
          rcases hA with hA | hA
          · rw [h] at hA; exact Option.some.inj hA
          · rw [h] at hA; cases hA
        subst hr
        exact run_equalIn_slice_nil w' 9999 t e A n c (hd ▸ hu)
    · rename_i e q off0 n c0 z0 n2 cs2 hd
      cases ha
      cases hb with
      | sl _ _ c2 A2 _ us hn hb2 ho h1 hc hv =>
        obtain ⟨rfl, rfl, rfl⟩ := ho
        cases h
        exact run_equalIn_slice_nil w' 9999 t e _ _ _ (hd ▸ hu)
    · rename_i hd; cases ha; cases hb; cases h; exact run_equalIn_map_nil w' 9999 t _ _ _ (hd ▸ hu)
    · rename_i hd; cases ha; cases hb; cases h; exact run_equalIn_map_nil w' 9999 t _ _ _ (hd ▸ hu)
    · rename_i hd; cases ha; cases hb; cases h; exact eqn_ptr w' 9999 (hd ▸ hu) none
    · rename_i hd; cases ha; cases hb; cases h; exact eqn_ptr w' 9999 (hd ▸ hu) (some _)
    · rename_i hd; cases ha; cases hb; cases h; exact eqn_ptr w' 9999 (hd ▸ hu) (some _)
    · rename_i hd; cases ha; cases hb; cases h; exact eqn_func0 w' 9999 (hd ▸ hu)
    · rename_i hd; cases ha; cases hb; cases h; exact eqn_func1 w' 9999 (hd ▸ hu) _ _ _
    · rename_i hd; cases ha; cases hb; cases h; exact eqn_if w' 9999 (hd ▸ hu) _ _
    · exact eqS_ok (9998 + 1) hu ha hb h

def intBin (op : BinOp) (k : IntKind) (a b : Int) : Option D :=
  match op with
  | .add => some (.int k (k.wrap (a + b)))
  | .sub => some (.int k (k.wrap (a - b)))
  | .mul => some (.int k (k.wrap (a * b)))
  | .quo => if b = 0 then none else some (.int k (k.wrap (a.tdiv b)))
  | .rem => if b = 0 then none else some (.int k (a.tmod b))
  | .eql => some (.bool (a == b))
  | .neq => some (.bool (a != b))
  | .lss => some (.bool (decide (a < b)))
  | .leq => some (.bool (decide (a ≤ b)))
  | .gtr => some (.bool (decide (a > b)))
  | .geq => some (.bool (decide (a ≥ b)))
  | .and => some (.int k (k.wrap (BitVec.ofInt k.bits a &&& BitVec.ofInt k.bits b).toNat))
  | .or => some (.int k (k.wrap (BitVec.ofInt k.bits a ||| BitVec.ofInt k.bits b).toNat))
  | .xor => some (.int k (k.wrap (BitVec.ofInt k.bits a ^^^ BitVec.ofInt k.bits b).toNat))
  | .shr => if b < 0 then none else some (.int k (a.fdiv (2 ^ (min b.toNat k.bits))))
  | .shl => if b < 0 then none else some (.int k (k.wrap (a * 2 ^ (min b.toNat k.bits))))
  | _ => none

/-- The order of texts, by their bytes. -/
def strLt (a b : ByteArray) : Bool := Op.bytesLess a.data.toList b.data.toList

def strBin (op : BinOp) (a b : ByteArray) : Option D :=
  match op with
  | .add => if a.size + b.size ≤ big then some (.str (a ++ b)) else none
  | .eql => some (.bool (a == b))
  | .neq => some (.bool (!(a == b)))
  | .lss => some (.bool (strLt a b))
  | .leq => some (.bool (strLt a b || a == b))
  | .gtr => some (.bool (!(strLt a b || a == b)))
  | .geq => some (.bool (!(strLt a b)))
  | _ => none

def isNum : D → Bool
  | .int _ _ | .str _ => true
  | _ => false

theorem eqT_bin {Z : Sys} {w w' : World} {L : Lk} {t : TypeId} {a b : Value} {x y : D} {r : Bool} (ha : V w L a x) (hb : V w L b y) (hx : isNum x = false) (h : eqT Z t x y = some r) :
    (binOp .eql t a b).run Z.P w' = .ok (.bool r) w' ∧ (binOp .neq t a b).run Z.P w' = .ok (.bool (!r)) w' ∧ a ≠ .nilIface := by
  have he := eqT_ok (w' := w') ha hb h
  unfold eqT at h
  split at h
  · cases h
  · rename_i i hi
    split at h
    case h_12 =>
      unfold eqS at h
      split at h
      · simp [isNum] at hx
      · simp [isNum] at hx
      · cases ha; cases hb; exact ⟨by simp only [binOp]; simp [he], by simp only [binOp]; simp [he], by simp⟩
      · cases h
    all_goals (cases ha; cases hb; exact ⟨by simp only [binOp]; simp [he], by simp only [binOp]; simp [he], by simp⟩)

def binD (Z : Sys) (op : BinOp) (t : TypeId) (x y : D) : Option D :=
  match x, y with
  | .int k a, .int k' b => if k = k' then intBin op k a b else none
  | .str a, .str b => strBin op a b
  | x, y =>
    match Z.T t with
    | none => none
    | some i =>
    if isNum x = false ∧ i.eqg = false then
      match op with
      | .eql => (eqT Z t x y).map .bool
      | .neq => (eqT Z t x y).map fun b => .bool (!b)
      | _ => none
    else none

theorem eqGuard_ok {P : Program} {w : World} (op : BinOp) (t : TypeId) (x y : Operand) (a b : Value) (h : a ≠ .nilIface ∧ (P.eqGuardType P.depth t = false ∨ (∀ v, a ≠ .agg v))) : (eqGuard op t x y a b).run P w = .ok () w := by
  obtain ⟨h1, h2⟩ := h
  cases op
  case eql =>
    cases a
    case nilIface => exact absurd rfl h1
    case agg cs =>
      have h3 : P.eqGuardType P.depth t = false := h2.resolve_right (fun hf => hf _ rfl)
      cases b <;> first | rfl | simp [eqGuard, h3]
    all_goals rfl
  case neq =>
    cases a
    case nilIface => exact absurd rfl h1
    case agg cs =>
      have h3 : P.eqGuardType P.depth t = false := h2.resolve_right (fun hf => hf _ rfl)
      cases b <;> first | rfl | simp [eqGuard, h3]
    all_goals rfl
  all_goals rfl

theorem binD_ok {Z : Sys} {op : BinOp} {t : TypeId} {x y d : D} {L : Lk} {w : World} {u v : Value} {ox oy : Operand} (hx : V w L u x) (hy : V w L v y) (h : binD Z op t x y = some d) :
    ∃ r, (do eqGuard op t ox oy u v; binOp op t u v : Sem Value).run Z.P w = .ok r w ∧ V w L r d := by
  unfold binD at h
  split at h
  · rename_i k a k' b
    split at h
    · rename_i hk
      subst hk
      cases hx; cases hy
      have hg := eqGuard_ok (P := Z.P) (w := w) op t ox oy (.int k a) (.int k b) (by simp)
      unfold intBin at h
      cases op <;> simp at h
      case quo => obtain ⟨h0, rfl⟩ := h; exact ⟨.int k _, by simp [hg, binOp, Op.intDiv, h0], .int _ _⟩
      case rem => obtain ⟨h0, rfl⟩ := h; exact ⟨.int k _, by simp [hg, binOp, Op.intDiv, h0], .int _ _⟩
      case shr | shl => obtain ⟨h0, rfl⟩ := h; exact ⟨.int k _, by simp [hg, binOp, Op.shift, Int.not_lt.2 h0], .int _ _⟩
      case add | sub | mul => subst h; exact ⟨.int k _, by simp [hg, binOp, Op.intArith], .int _ _⟩
      case and | or | xor => subst h; exact ⟨.int k _, by simp [hg, binOp, Op.intBits], .int _ _⟩
      all_goals (subst h; exact ⟨.bool _, by simp [hg, binOp, Op.intCmp], .bool _⟩)
    · cases h
  · rename_i a b
    cases hx with
    | str _ ha => cases hy with
      | str _ hb =>
        have hg := eqGuard_ok (P := Z.P) (w := w) op t ox oy (.string a) (.string b) (by simp)
        unfold strBin at h
        have e1 := beq_toListBytes a b
        cases op <;> simp at h
        case add =>
          obtain ⟨h0, rfl⟩ := h
          have h0' : ¬ (9223372036854775807 < (a.size : Int) + (b.size : Int)) := by unfold big at h0; omega
          exact ⟨.string (a ++ b), by simp [hg, binOp, Op.stringOp, h0'], .str _ (by rw [ByteArray.size_append]; exact h0)⟩
        all_goals subst h
        all_goals refine ⟨.bool _, ?_, .bool _⟩
        all_goals simp [hg, binOp, Op.stringOp, strLt, ByteArray.toList_eq, e1]
  · split at h
    · cases h
    · rename_i i hi
      obtain ⟨_, _, _, _, _, _, heqg, _⟩ := Z.ok t i hi
      split at h
      · rename_i hc
        split at h
        · cases he : eqT Z t x y with
          | none => simp [he] at h
          | some b =>
            simp [he] at h
            subst h
            obtain ⟨h1, h2, h3⟩ := eqT_bin (w' := w) hx hy hc.1 he
            have hg := eqGuard_ok (P := Z.P) (w := w) .eql t ox oy u v ⟨h3, .inl (heqg hc.2)⟩
            exact ⟨.bool b, by simp [hg, h1], .bool _⟩
        · cases he : eqT Z t x y with
          | none => simp [he] at h
          | some b =>
            simp [he] at h
            subst h
            obtain ⟨h1, h2, h3⟩ := eqT_bin (w' := w) hx hy hc.1 he
            have hg := eqGuard_ok (P := Z.P) (w := w) .neq t ox oy u v ⟨h3, .inl (heqg hc.2)⟩
            exact ⟨.bool (!b), by simp [hg, h2], .bool _⟩
        · cases h
      · cases h
end Go.Proofs.YthchlpikcpidaaaDoor.Vs
