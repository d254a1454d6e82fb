/- Races: copied, taken out. -/
import Derived.Test.YtldlcejlfaogbaaDoorFnO
namespace Go.Proofs.YtldlcejlfaogbaaDoor.Vs
set_option linter.unusedVariables false
set_option linter.unusedSimpArgs false
set_option maxRecDepth 20000

theorem encSS_cut {w : Wd} {n : Nat} (h : n ≤ w.length) : D.sl .no (w.length - n) (((w.map D.str).drop n).take (w.length - n)) = encSS (w.drop n) := encSS_drop w n h

theorem bs42_0 {nx : Nat} : buildSliceR Zs 0 56 0 [] nx = some (.sl .full 0 [], .keep) := by rfl
theorem nilOf_pos {o : Own} {n : Nat} (ho : o ≠ .nil) (hn : 0 < n) : nilOf o n = some false := by
  cases o with
  | nil => exact absurd rfl ho
  | no => simp [nilOf, hn]
  | full => rfl
  | tip r z => rfl
theorem clone_c (ns : List Int) (o : Own) (ho : o ≠ .nil) (h0 : ns ≠ []) (hb : ns.length ≤ 100000) (σ : Heap) : PCall Zs 72 [.sl o ns.length (ns.map (.int .i64))] σ (fun d τ => Closed σ ∧ Acc 3 1 σ ns.length (ns.map (.int .i64)) d τ) := by
  have hp : 0 < ns.length := List.length_pos_iff.2 h0
  refine pcall_of (Z := Zs) ok72 fun hcl hbl => ?_
  simp -dsimp only [L72, nilOf_pos ho hp, bs42_0, ↓preB, postB, genB, ↓reduceIte, Nat.reduceEqDiff, Int.reduceToNat, Int.reduceLE, Int.reduceLT, Nat.reduceAdd, Nat.reduceLeDiff, intBin, strBin, unD, extractD, lit1, lit2, lit3, keptD, boxR, D.one, D.pub1, D.cells, splice, cutOwn]
  refine (Acc.full (e := 3) (z := 1) (n := 0) (cs := []) (HLe.refl σ)).append (m := ns.length) (ys := ns.map (.int .i64)) hcl tz56 rfl tz3 rfl rfl rfl (by decide) (by simp) (fedBy_sl tz56 rfl (by simp)) (by simp only []; omega) (by simp only [big]; omega) fun d' s' hA => ?_
  simp -dsimp only [↓preB, postB, genB, ↓reduceIte, Nat.reduceEqDiff, Int.reduceToNat, Int.reduceLE, Int.reduceLT, Nat.reduceAdd, Nat.reduceLeDiff, intBin, strBin, unD, extractD, lit1, lit2, lit3, keptD, boxR, D.one, D.pub1, D.cells, splice, cutOwn]
  refine Ret.now hA.le.next ⟨hcl, ?_⟩
  simpa using hA

def cellsR : List Race → List D
  | [] => []
  | e :: l => encSS e.more :: .int .i64 (e.long : Int) :: .sl e.ob e.behind.length (e.behind.map (.int .i64)) :: .sl e.oa e.ahead.length (e.ahead.map (.int .i64)) :: cellsR l
theorem cellsR_len : ∀ l : List Race, (cellsR l).length = l.length * 4
  | [] => rfl
  | e :: l => by simp only [cellsR, List.length_cons, cellsR_len l]; omega
theorem cellsR_append : ∀ a b : List Race, cellsR (a ++ b) = cellsR a ++ cellsR b
  | [], b => rfl
  | e :: a, b => by simp only [List.cons_append, cellsR, cellsR_append a b]
theorem cellsR_drop : ∀ (t : List Race) (k : Nat), (cellsR t).drop (k * 4) = cellsR (t.drop k)
  | [], k => by simp [cellsR]
  | e :: t, 0 => by simp
  | e :: t, k + 1 => by
    rw [show (k + 1) * 4 = k * 4 + 4 by omega]
    simp only [cellsR, List.drop_succ_cons]
    exact cellsR_drop t k
theorem cellsR_take : ∀ (t : List Race) (k : Nat), (cellsR t).take (k * 4) = cellsR (t.take k)
  | [], k => by simp [cellsR]
  | e :: t, 0 => by simp [cellsR]
  | e :: t, k + 1 => by
    rw [show (k + 1) * 4 = k * 4 + 4 by omega]
    simp only [cellsR, List.take_succ_cons]
    rw [cellsR_take t k]
theorem cellsR_at {t : List Race} {k : Nat} (h : k < t.length) (js : List D) : (cellsR t ++ js).drop (k * 4) = encSS t[k].more :: .int .i64 (t[k].long : Int) :: .sl t[k].ob t[k].behind.length (t[k].behind.map (.int .i64)) :: .sl t[k].oa t[k].ahead.length (t[k].ahead.map (.int .i64)) :: (cellsR (t.drop (k + 1)) ++ js) := by
  have hk : k * 4 ≤ (cellsR t).length := by rw [cellsR_len]; omega
  rw [List.drop_append_of_le_length hk, cellsR_drop, List.drop_eq_getElem_cons h]
  rfl

section
variable {g : Nat → Option AO} {r off n a b m : Nat} {k k' k'' : IntKind}
theorem srow3 (h1 : a ≤ b) (h2 : b ≤ m) (h3 : m ≤ n) : sliceD Zs g 96 (.row r off n none 4) (some (.int k a)) (some (.int k' b)) (some (.int k'' m)) = some (.row r (off + a * 4) (b - a) (some (m - a)) 4) := by
  unfold sliceD
  simp only [tz96, tz98, bound, Option.map_some, Int.toNat_natCast]
  rw [if_pos ⟨by omega, by omega, by omega, .inl (by omega), trivial⟩]
theorem srowHi (h : a ≤ n) : sliceD Zs g 96 (.row r off n none 4) none (some (.int k a)) none = some (.row r off a none 4) := by
  unfold sliceD
  simp only [tz96, tz98, bound, Option.map_some, Option.map_none, Int.toNat_natCast]
  rw [if_pos ⟨by omega, by omega, .inl (by omega), trivial⟩]
  simp
theorem srowLo (h : a ≤ n) : sliceD Zs g 96 (.row r off n none 4) (some (.int k a)) none none = some (.row r (off + a * 4) (n - a) none 4) := by
  unfold sliceD
  simp only [tz96, tz98, bound, Option.map_some, Option.map_none, Int.toNat_natCast]
  rw [if_pos ⟨by omega, by omega, .inl (by omega), trivial⟩]
theorem srow2 {e : TypeId} {cs : List D} (h1 : a ≤ b) (hg : g r = some (.cells e cs)) (hb : off + b * 4 ≤ cs.length) : sliceD Zs g 96 (.row r off n none 4) (some (.int k a)) (some (.int k' b)) none = some (.row r (off + a * 4) (b - a) none 4) := by
  unfold sliceD
  simp only [tz96, tz98, bound, Option.map_some, Option.map_none, Int.toNat_natCast]
  rw [if_pos ⟨by omega, by omega, .inr (by simp only [rowFits, hg]; exact decide_eq_true ⟨by omega, by decide⟩), trivial⟩]
theorem clear74 : ∃ zs : List D, zs.length = 4 ∧ ∀ {e : TypeId} {cs : List D} {c : Option Nat}, g r = some (.cells e cs) → off + 1 * 4 ≤ cs.length → clearR Zs g #[96] (.row r off 1 c 4) = some (.put r (.cells e (splice cs off zs))) := by
  obtain ⟨ie, hie, h1, h2, h3⟩ : ∃ ie, Zs.T 98 = some ie ∧ ie.size = 4 ∧ ie.zeros.all D.one = true ∧ ie.zeros.length = ie.size := ⟨_, tz98, rfl, rfl, rfl⟩
  refine ⟨litZero ie (1 * 4), by simp [litZero], fun hg hl => ?_⟩
  unfold clearR
  simp only [tz96, hie, hg, List.getElem?_toArray, List.getElem?_cons_zero, Option.map_some]
  rw [if_pos ⟨h1, by decide, hl, h2, h3⟩]
theorem fedRow {e : TypeId} {cs : List D} {c : Option Nat} (hg : g r = some (.cells e cs)) (hl : off + n * 4 ≤ cs.length) : fedBy Zs g 96 4 (.row r off n c 4) = some (n, (cs.drop off).take (n * 4)) := by
  simp [fedBy, tz96, hg, hl]
end
theorem app_row0 {Z : Sys} {t t2 e : TypeId} {it ie : TInfo} {n : Nat} {σ : Heap} {cs ys : List D} {y : D} {K : D → Heap → Prop} {hK : Keep K} {ann r : Nat} (ht : Z.T t = some it) (hd : it.d = .slice e) (hie : Z.T e = some ie) (hz : ie.zero.cells.size = ie.size) (hz1 : ie.zeros.all D.one = true) (hpos : 0 < ie.size) (hf : fedBy Z σ.get t2 ie.size y = some (0, ys)) (hr : σ.get r = some (.cells e cs)) (hcs : n * ie.size ≤ cs.length) (hb : n * ie.bytes ≤ 140737488355328) (hbig : n ≤ big)
    (k : K (.row r 0 n none ie.size) σ) : kR (appendR Z ann σ.get σ.next #[t, t2] (.row r 0 n none ie.size) y) σ K hK := by
  have : appendR Z ann σ.get σ.next #[t, t2] (.row r 0 n none ie.size) y = some (.row r 0 n none ie.size, .keep) := by
    unfold appendR
    simp only [ht, hd, hie, hf]
    rw [if_pos ⟨hpos, hz, hz1⟩]
    simp only [hr]
    rw [if_pos ⟨trivial, trivial, by omega, by simpa using hb, by simpa using hbig⟩, if_pos trivial]
  rw [this]; exact k

theorem Heap.set_self {σ : Heap} {q : Nat} {o : AO} (h : σ.get q = some o) : σ.set q o = σ := by
  cases σ with
  | mk n g =>
    simp only [Heap.set, Heap.mk.injEq, true_and]
    funext i
    split
    · rename_i hi; rw [hi]; exact h.symm
    · rfl
theorem cellsR_erase {t : List Race} {k : Nat} (hk : k < t.length) : cellsR (t.eraseIdx k) = cellsR (t.take k) ++ cellsR (t.drop (k + 1)) := by
  rw [List.eraseIdx_eq_take_drop_succ, cellsR_append]
theorem del_app {todo : List Race} {q k : Nat} {js : List D} {σ : Heap} {K : D → Heap → Prop} {hK : Keep K} (hk : k < todo.length) (hb : todo.length ≤ 100000) (hq : σ.get q = some (.cells 98 (cellsR todo ++ js)))
    (kk : ∀ rest : List D, 4 ≤ rest.length → K (.row q 0 (todo.length - 1) none 4) (σ.set q (.cells 98 (cellsR (todo.eraseIdx k) ++ rest)))) : kR (appendR Zs 0 σ.get σ.next #[96, 96] (.row q 0 k none 4) (.row q ((k + 1) * 4) (todo.length - (k + 1)) none 4)) σ K hK := by
  have hlen : (cellsR todo ++ js).length = todo.length * 4 + js.length := by rw [List.length_append, cellsR_len]
  have hf := fedRow (g := σ.get) (r := q) (off := (k + 1) * 4) (n := todo.length - (k + 1)) (c := none) hq (by omega)
  have e1 : ((cellsR todo ++ js).drop ((k + 1) * 4)).take ((todo.length - (k + 1)) * 4) = cellsR (todo.drop (k + 1)) := by
    rw [List.drop_append_of_le_length (by rw [cellsR_len]; omega), cellsR_drop, List.take_append_of_le_length (by rw [cellsR_len, List.length_drop]; exact Nat.le_refl _), List.take_of_length_le (by rw [cellsR_len, List.length_drop]; exact Nat.le_refl _)]
  have e2 : (cellsR todo ++ js).take (k * 4) = cellsR (todo.take k) := by
    rw [List.take_append_of_le_length (by rw [cellsR_len]; omega), cellsR_take]
  rw [e1] at hf
  by_cases hm : todo.length - (k + 1) = 0
  · rw [hm] at hf ⊢
    refine app_row0 tz96 rfl tz98 rfl rfl (by decide) hf hq (by rw [hlen]; simp only []; omega) (by simp only []; omega) (by simp only [big]; omega) ?_
    have hkn : k = todo.length - 1 := by omega
    have hd : todo.drop (k + 1) = [] := List.drop_of_length_le (by omega)
    have hc : cellsR todo ++ js = cellsR (todo.eraseIdx k) ++ (cellsR todo ++ js).drop (k * 4) := by
      rw [cellsR_erase hk, hd, cellsR, List.append_nil, ← e2, List.take_append_drop]
    have := kk ((cellsR todo ++ js).drop (k * 4)) (by rw [List.length_drop, hlen]; omega)
    rw [← hc, Heap.set_self hq, ← hkn] at this
    exact this
  · refine app_row tz96 rfl tz98 rfl rfl (by decide) hf hm hq (by rw [hlen]; simp only []; omega) (by simp only []; omega) (by simp only [big]; omega) (fun _ => ?_) (fun h => absurd (by rw [hlen]; simp only []; omega) h)
    have hc : splice (cellsR todo ++ js) (k * 4) (cellsR (todo.drop (k + 1))) = cellsR (todo.eraseIdx k) ++ (cellsR todo ++ js).drop (k * 4 + (cellsR (todo.drop (k + 1))).length) := by
      rw [splice, e2, cellsR_erase hk]
    have := kk ((cellsR todo ++ js).drop (k * 4 + (cellsR (todo.drop (k + 1))).length)) (by rw [List.length_drop, hlen, cellsR_len, List.length_drop]; omega)
    rw [← hc, show todo.length - 1 = k + (todo.length - (k + 1)) by omega] at this
    exact this

theorem delete_c (todo : List Race) (q k : Nat) (js : List D) (hk : k < todo.length) (hb : todo.length ≤ 100000) (σ : Heap) (hq : σ.get q = some (.cells 98 (cellsR todo ++ js))) :
    PCall Zs 71 [.row q 0 todo.length none 4, .int .i64 k, .int .i64 ((k + 1 : Nat) : Int)] σ (fun d τ => ∃ js', d = .row q 0 (todo.length - 1) none 4 ∧ τ = σ.set q (.cells 98 (cellsR (todo.eraseIdx k) ++ js'))) := by
  have hlen : (cellsR todo ++ js).length = todo.length * 4 + js.length := by rw [List.length_append, cellsR_len]
  have e1 : ((k : Int) == ((k + 1 : Nat) : Int)) = false := by rw [beq_eq_false_iff_ne]; omega
  have f3 : ∀ (g : Nat → Option AO), sliceD Zs g 96 (.row q 0 todo.length none 4) (some (.int .i64 k)) (some (.int .i64 ((k + 1 : Nat) : Int))) (some (.int .i64 todo.length)) = some (.row q (0 + k * 4) (k + 1 - k) (some (todo.length - k)) 4) := fun g => srow3 (by omega) (by omega) (by omega)
  refine pcall_of (Z := Zs) ok71 fun hcl hbl => ?_
  simp -dsimp only [L71, hq, e1, f3, srowHi (Nat.le_of_lt hk), srowLo (show k + 1 ≤ todo.length from hk), ↓preB, postB, genB, ↓reduceIte, Nat.reduceEqDiff, Int.reduceToNat, Int.reduceLE, Int.reduceLT, Nat.reduceAdd, Nat.reduceLeDiff, intBin, strBin, unD, extractD, lit1, lit2, lit3, keptD, boxR, D.one, D.pub1, D.cells, splice, cutOwn]
  intro _ _
  refine draw_t 6 (by decide) ?_
  simp -dsimp only [hq, e1, srowHi (Nat.le_of_lt hk), srowLo (show k + 1 ≤ todo.length from hk), ↓preB, postB, genB, ↓reduceIte, Nat.reduceEqDiff, Int.reduceToNat, Int.reduceLE, Int.reduceLT, Nat.reduceAdd, Nat.reduceLeDiff, intBin, strBin, unD, extractD, lit1, lit2, lit3, keptD, boxR, D.one, D.pub1, D.cells, splice, cutOwn]
  refine del_app hk hb hq fun rest hr => ?_
  generalize hs : σ.set q _ = s1
  have g1 : s1.get q = some (.cells 98 (cellsR (todo.eraseIdx k) ++ rest)) := by rw [← hs, Heap.set_same]
  have hle : (cellsR (todo.eraseIdx k)).length = (todo.length - 1) * 4 := by rw [cellsR_len, List.length_eraseIdx, if_pos hk]
  have f4 : sliceD Zs s1.get 96 (.row q 0 (todo.length - 1) none 4) (some (.int .i64 ((todo.length - 1 : Nat) : Int))) (some (.int .i64 todo.length)) none = some (.row q ((todo.length - 1) * 4) (todo.length - (todo.length - 1)) none 4) := by rw [srow2 (by omega) g1 (by rw [List.length_append, hle]; omega), Nat.zero_add]
  rw [show todo.length - (todo.length - 1) = 1 by omega] at f4
  obtain ⟨zs, z1, z2⟩ := clear74 (g := s1.get) (r := q) (off := (todo.length - 1) * 4)
  simp -dsimp only [g1, f4, ↓preB, postB, genB, ↓reduceIte, Nat.reduceEqDiff, Int.reduceToNat, Int.reduceLE, Int.reduceLT, Nat.reduceAdd, Nat.reduceLeDiff, intBin, strBin, unD, extractD, lit1, lit2, lit3, keptD, boxR, D.one, D.pub1, D.cells, splice, cutOwn]
  intro _
  rw [z2 g1 (by rw [List.length_append, hle]; omega)]
  simp -dsimp only [↓preB, postB, upd_apply, Nat.reduceEqDiff, ↓reduceIte, retQ_ret, exists_eq_left', Option.some.injEq]
  have hsp : splice (cellsR (todo.eraseIdx k) ++ rest) ((todo.length - 1) * 4) zs = cellsR (todo.eraseIdx k) ++ (zs ++ (cellsR (todo.eraseIdx k) ++ rest).drop ((todo.length - 1) * 4 + zs.length)) := by
    rw [splice, ← hle, List.take_left, List.append_assoc]
  rw [hsp]
  refine Ret.now (by rw [Heap.next_set, ← hs, Heap.next_set]; exact Nat.le_refl _) ⟨zs ++ (cellsR (todo.eraseIdx k) ++ rest).drop ((todo.length - 1) * 4 + zs.length), rfl, by rw [← hs, Heap.set_set]⟩
end Go.Proofs.YtldlcejlfaogbaaDoor.Vs
