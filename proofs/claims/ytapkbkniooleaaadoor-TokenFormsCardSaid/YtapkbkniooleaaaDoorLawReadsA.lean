/- numbers of YtldlcejlfaogbaaDoor -/
import Derived.Lib.Split
import Derived.Test.YtapkbkniooleaaaDoorOrdW
import Derived.Test.YtapkbkniooleaaaDoorFnI
import Derived.Test.YtapkbkniooleaaaDoorFnD1
namespace Go.Proofs.YtapkbkniooleaaaDoor.Vs
set_option linter.unusedVariables false
set_option linter.unusedSimpArgs false
set_option maxRecDepth 20000
def toB (l : List UInt8) : ByteArray := ⟨l.toArray⟩
theorem toB_list (l : List UInt8) : (toB l).data.toList = l := by simp [toB]
theorem toB_of (s : ByteArray) : toB s.data.toList = s := by cases s; simp [toB]
theorem toB_size (l : List UInt8) : (toB l).size = l.length := by simp [toB, ByteArray.size]
theorem toB_inj {a b : List UInt8} (h : toB a = toB b) : a = b := by
  have := congrArg (fun s : ByteArray => s.data.toList) h
  simpa [toB] using this
theorem toB_extract (l : List UInt8) (a b : Nat) : (toB l).extract a b = toB ((l.take b).drop a) := by
  refine ba_ext' ?_
  rw [toB_list, ByteArray.data_extract, Array.toList_extract, toB_list, List.drop_take]
theorem toB_at {l r : List UInt8} {c : UInt8} {k : Nat} (h : l.drop k = c :: r) : byteAt (toB l) k = (c.toNat : Int) := by
  have : l[k]? = some c := by
    have := congrArg (·[0]?) h
    simpa using this
  unfold byteAt
  rw [List.getD_eq_getElem?_getD, toB_list, this]
  rfl
theorem toB_beq (a b : List UInt8) : (toB a == toB b) = decide (a = b) := by
  cases h : (toB a == toB b) with
  | true => exact (decide_eq_true (toB_inj (ba_eq h))).symm
  | false =>
    symm
    refine decide_eq_false fun e => ?_
    rw [e, ba_refl] at h
    cases h

def headL (b : UInt8) (l : List UInt8) : List UInt8 := l.takeWhile (· != b)
def tailL (b : UInt8) (l : List UInt8) : List UInt8 := (l.dropWhile (· != b)).drop 1
def cutL (b : UInt8) : List UInt8 → List (List UInt8)
  | [] => [[]]
  | c :: r => if c = b then [] :: cutL b r else (match cutL b r with | h :: t => (c :: h) :: t | [] => [[c]])
theorem headL_ne {b c : UInt8} (h : c ≠ b) (r : List UInt8) : headL b (c :: r) = c :: headL b r := by
  have : (c != b) = true := by simpa using h
  simp [headL, this]
theorem tailL_ne {b c : UInt8} (h : c ≠ b) (r : List UInt8) : tailL b (c :: r) = tailL b r := by
  have : (c != b) = true := by simpa using h
  simp [tailL, this]
theorem headL_eq (b : UInt8) (r : List UInt8) : headL b (b :: r) = [] := by simp [headL]
theorem tailL_eq (b : UInt8) (r : List UInt8) : tailL b (b :: r) = r := by simp [tailL]
theorem cutL_head (b : UInt8) : ∀ l, cutL b l = headL b l :: (if b ∈ l then cutL b (tailL b l) else [])
  | [] => by simp [cutL, headL]
  | c :: r => by
    by_cases h : c = b
    · subst h
      rw [cutL, if_pos rfl, headL_eq, tailL_eq, if_pos (by simp)]
    · rw [cutL, if_neg h, cutL_head b r, headL_ne h, tailL_ne h]
      have : (b ∈ c :: r) ↔ b ∈ r := ⟨fun hm => (List.mem_cons.1 hm).resolve_left fun e => h e.symm, List.mem_cons_of_mem _⟩
      simp only [this]
theorem headL_len (b : UInt8) (l : List UInt8) : (headL b l).length ≤ l.length := List.Sublist.length_le (List.takeWhile_sublist _)
theorem tailL_len (b : UInt8) : ∀ l : List UInt8, (tailL b l).length ≤ l.length - 1
  | [] => by simp [tailL]
  | c :: r => by
    by_cases h : c = b
    · subst h; rw [tailL_eq]; simp
    · rw [tailL_ne h]
      have := tailL_len b r
      simp only [List.length_cons]
      omega
theorem headL_not (b : UInt8) : ∀ {l : List UInt8}, b ∉ l → headL b l = l ∧ tailL b l = []
  | [], _ => ⟨rfl, rfl⟩
  | c :: r, h => by
    have hc : c ≠ b := fun e => h (by rw [e]; simp)
    obtain ⟨h1, h2⟩ := headL_not b (l := r) fun hm => h (List.mem_cons_of_mem _ hm)
    rw [headL_ne hc, tailL_ne hc, h1, h2]
    exact ⟨rfl, rfl⟩
theorem headL_in (b : UInt8) : ∀ {l : List UInt8}, b ∈ l → l = headL b l ++ b :: tailL b l
  | [], h => by cases h
  | c :: r, h => by
    by_cases hc : c = b
    · subst hc; rw [headL_eq, tailL_eq]; rfl
    · rw [headL_ne hc, tailL_ne hc, List.cons_append, ← headL_in b (l := r) (by
        rcases List.mem_cons.1 h with h | h
        · exact absurd h.symm hc
        · exact h)]
theorem headL_out (b : UInt8) (l : List UInt8) : b ∉ headL b l := by
  induction l with
  | nil => simp [headL]
  | cons c r ih =>
    by_cases hc : c = b
    · subst hc; rw [headL_eq]; simp
    · rw [headL_ne hc]
      intro hm
      rcases List.mem_cons.1 hm with h | h
      · exact hc h.symm
      · exact ih h
theorem index_in (b : UInt8) : ∀ {l : List UInt8}, b ∈ l → Lib.indexByte l b = ((headL b l).length : Int)
  | [], h => by cases h
  | c :: r, h => by
    by_cases hc : c = b
    · subst hc; rw [headL_eq]; simp [Lib.indexByte]
    · have hr : b ∈ r := by
        rcases List.mem_cons.1 h with h | h
        · exact absurd h.symm hc
        · exact h
      have hb : (c == b) = false := by simpa using hc
      rw [headL_ne hc, Lib.indexByte, hb, index_in b hr, if_neg (by simp), if_neg (by simp), List.length_cons]
      omega
theorem index_out (b : UInt8) : ∀ {l : List UInt8}, b ∉ l → Lib.indexByte l b = -1
  | [], _ => rfl
  | c :: r, h => by
    have hb : (c == b) = false := by
      simp only [List.mem_cons, not_or] at h
      simpa using fun e => h.1 e.symm
    rw [Lib.indexByte, hb, index_out b (l := r) fun hm => h (List.mem_cons_of_mem _ hm)]
    rfl
theorem drop_over (b : UInt8) (y : List UInt8) : ∀ x : List UInt8, (x ++ b :: y).drop (x.length + 1) = y
  | [] => rfl
  | c :: x => by simp [drop_over b y x]
/-- What the library's cutting at one byte comes to. -/
theorem splitK_cut (b : UInt8) : ∀ (n : Nat) (l : List UInt8), l.length ≤ n → Lib.splitK [b] 0 (l.count b) l = cutL b l
  | n, l, hn => by
    rw [cutL_head]
    by_cases h : b ∈ l
    · have hl := headL_in b h
      have hc : l.count b = (tailL b l).count b + 1 := by
        have h0 : (headL b l).count b = 0 := List.count_eq_zero.2 (headL_out b l)
        have := congrArg (List.count b) hl
        rw [List.count_append, h0, List.count_cons_self] at this
        omega
      have hi : Lib.index l [b] = ((headL b l).length : Int) := by rw [Lib.index_one, index_in b h]
      rw [hc, Lib.splitK, hi, if_neg (by simp), if_pos h]
      have e1 : l.take (headL b l).length = headL b l := by
        have h2 := congrArg (List.take (headL b l).length) hl
        rw [List.take_left] at h2
        exact h2
      have e2 : l.drop ((headL b l).length + 1) = tailL b l := by
        have h2 := congrArg (List.drop ((headL b l).length + 1)) hl
        rw [drop_over] at h2
        exact h2
      simp only [Int.toNat_natCast, Nat.add_zero, List.length_singleton]
      rw [e1, e2]
      match n, hn with
      | 0, hn => exact absurd (List.eq_nil_of_length_eq_zero (Nat.le_zero.1 hn)) (by intro e; rw [e] at h; cases h)
      | n + 1, hn =>
        have := tailL_len b l
        rw [splitK_cut b n (tailL b l) (by omega)]
    · have hc : l.count b = 0 := List.count_eq_zero.2 h
      rw [hc, if_neg h, (headL_not b h).1]
      rfl
end Go.Proofs.YtapkbkniooleaaaDoor.Vs
