/- numbers of YtldlcejlfaogbaaDoor -/
import Derived.Lib.Split
import Derived.Test.YtldlcejlfaogbaaGreatDoorMgB
import Derived.Test.YtldlcejlfaogbaaGreatDoorMgA
namespace Go.Proofs.YtldlcejlfaogbaaGreatDoor.Vs
set_option linter.unusedVariables false
set_option linter.unusedSimpArgs false
set_option maxRecDepth 20000
def toB (l : List UInt8) : ByteArray := ⟨l.toArray⟩
theorem toB_list (l : List UInt8) : (toB l).data.toList = l := by simp [toB]
theorem toB_of (s : ByteArray) : toB s.data.toList = s := by cases s; simp [toB]
theorem toB_size (l : List UInt8) : (toB l).size = l.length := by simp [toB, ByteArray.size]
theorem toB_inj {a b : List UInt8} (h : toB a = toB b) : a = b := by
  have := congrArg (fun s : ByteArray => s.data.toList) h
  simpa [toB] using this
theorem toB_extract (l : List UInt8) (a b : Nat) : (toB l).extract a b = toB ((l.take b).drop a) := by
  refine ba_ext' ?_
  rw [toB_list, ByteArray.data_extract, Array.toList_extract, toB_list, List.drop_take]
theorem toB_at {l r : List UInt8} {c : UInt8} {k : Nat} (h : l.drop k = c :: r) : byteAt (toB l) k = (c.toNat : Int) := by
  have : l[k]? = some c := by
    have := congrArg (·[0]?) h
    simpa using this
  unfold byteAt
  rw [List.getD_eq_getElem?_getD, toB_list, this]
  rfl
theorem toB_beq (a b : List UInt8) : (toB a == toB b) = decide (a = b) := by
  cases h : (toB a == toB b) with
  | true => exact (decide_eq_true (toB_inj (ba_eq h))).symm
  | false =>
    symm
    refine decide_eq_false fun e => ?_
    rw [e, ba_refl] at h
    cases h

def headL (b : UInt8) (l : List UInt8) : List UInt8 := l.takeWhile (· != b)
def tailL (b : UInt8) (l : List UInt8) : List UInt8 := (l.dropWhile (· != b)).drop 1
def cutL (b : UInt8) : List UInt8 → List (List UInt8)
  | [] => [[]]
  | c :: r => if c = b then [] :: cutL b r else (match cutL b r with | h :: t => (c :: h) :: t | [] => [[c]])
theorem headL_ne {b c : UInt8} (h : c ≠ b) (r : List UInt8) : headL b (c :: r) = c :: headL b r := by
  have : (c != b) = true := by simpa using h
  simp [headL, this]
theorem tailL_ne {b c : UInt8} (h : c ≠ b) (r : List UInt8) : tailL b (c :: r) = tailL b r := by
  have : (c != b) = true := by simpa using h
  simp [tailL, this]
theorem headL_eq (b : UInt8) (r : List UInt8) : headL b (b :: r) = [] := by simp [headL]
theorem tailL_eq (b : UInt8) (r : List UInt8) : tailL b (b :: r) = r := by simp [tailL]
theorem cutL_ne (b : UInt8) : ∀ l, cutL b l ≠ []
  | [] => by simp [cutL]
  | c :: r => by
    rw [cutL]
    split
    · simp
    · split <;> simp
theorem cutL_head (b : UInt8) : ∀ l, cutL b l = headL b l :: (if b ∈ l then cutL b (tailL b l) else [])
  | [] => by simp [cutL, headL]
  | c :: r => by
    by_cases h : c = b
    · subst h
      rw [cutL, if_pos rfl, headL_eq, tailL_eq, if_pos (by simp)]
    · rw [cutL, if_neg h, cutL_head b r, headL_ne h, tailL_ne h]
      have : (b ∈ c :: r) ↔ b ∈ r := ⟨fun hm => (List.mem_cons.1 hm).resolve_left fun e => h e.symm, List.mem_cons_of_mem _⟩
      simp only [this]
theorem headL_len (b : UInt8) (l : List UInt8) : (headL b l).length ≤ l.length := List.Sublist.length_le (List.takeWhile_sublist _)
theorem tailL_len (b : UInt8) : ∀ l : List UInt8, (tailL b l).length ≤ l.length - 1
  | [] => by simp [tailL]
  | c :: r => by
    by_cases h : c = b
    · subst h; rw [tailL_eq]; simp
    · rw [tailL_ne h]
      have := tailL_len b r
      simp only [List.length_cons]
      omega
theorem headL_not (b : UInt8) : ∀ {l : List UInt8}, b ∉ l → headL b l = l ∧ tailL b l = []
  | [], _ => ⟨rfl, rfl⟩
  | c :: r, h => by
    have hc : c ≠ b := fun e => h (by rw [e]; simp)
    obtain ⟨h1, h2⟩ := headL_not b (l := r) fun hm => h (List.mem_cons_of_mem _ hm)
    rw [headL_ne hc, tailL_ne hc, h1, h2]
    exact ⟨rfl, rfl⟩
theorem headL_in (b : UInt8) : ∀ {l : List UInt8}, b ∈ l → l = headL b l ++ b :: tailL b l
  | [], h => by cases h
  | c :: r, h => by
    by_cases hc : c = b
    · subst hc; rw [headL_eq, tailL_eq]; rfl
    · rw [headL_ne hc, tailL_ne hc, List.cons_append, ← headL_in b (l := r) (by
        rcases List.mem_cons.1 h with h | h
        · exact absurd h.symm hc
        · exact h)]
theorem headL_out (b : UInt8) (l : List UInt8) : b ∉ headL b l := by
  induction l with
  | nil => simp [headL]
  | cons c r ih =>
    by_cases hc : c = b
    · subst hc; rw [headL_eq]; simp
    · rw [headL_ne hc]
      intro hm
      rcases List.mem_cons.1 hm with h | h
      · exact hc h.symm
      · exact ih h
theorem index_in (b : UInt8) : ∀ {l : List UInt8}, b ∈ l → Lib.indexByte l b = ((headL b l).length : Int)
  | [], h => by cases h
  | c :: r, h => by
    by_cases hc : c = b
    · subst hc; rw [headL_eq]; simp [Lib.indexByte]
    · have hr : b ∈ r := by
        rcases List.mem_cons.1 h with h | h
        · exact absurd h.symm hc
        · exact h
      have hb : (c == b) = false := by simpa using hc
      rw [headL_ne hc, Lib.indexByte, hb, index_in b hr, if_neg (by simp), if_neg (by simp), List.length_cons]
      omega
theorem index_out (b : UInt8) : ∀ {l : List UInt8}, b ∉ l → Lib.indexByte l b = -1
  | [], _ => rfl
  | c :: r, h => by
    have hb : (c == b) = false := by
      simp only [List.mem_cons, not_or] at h
      simpa using fun e => h.1 e.symm
    rw [Lib.indexByte, hb, index_out b (l := r) fun hm => h (List.mem_cons_of_mem _ hm)]
    rfl
theorem drop_over (b : UInt8) (y : List UInt8) : ∀ x : List UInt8, (x ++ b :: y).drop (x.length + 1) = y
  | [] => rfl
  | c :: x => by simp [drop_over b y x]
/-- What the library's cutting at one byte comes to. -/
theorem splitK_cut (b : UInt8) : ∀ (n : Nat) (l : List UInt8), l.length ≤ n → Lib.splitK [b] 0 (l.count b) l = cutL b l
  | n, l, hn => by
    rw [cutL_head]
    by_cases h : b ∈ l
    · have hl := headL_in b h
      have hc : l.count b = (tailL b l).count b + 1 := by
        have h0 : (headL b l).count b = 0 := List.count_eq_zero.2 (headL_out b l)
        have := congrArg (List.count b) hl
        rw [List.count_append, h0, List.count_cons_self] at this
        omega
      have hi : Lib.index l [b] = ((headL b l).length : Int) := by rw [Lib.index_one, index_in b h]
      rw [hc, Lib.splitK, hi, if_neg (by simp), if_pos h]
      have e1 : l.take (headL b l).length = headL b l := by
        have h2 := congrArg (List.take (headL b l).length) hl
        rw [List.take_left] at h2
        exact h2
      have e2 : l.drop ((headL b l).length + 1) = tailL b l := by
        have h2 := congrArg (List.drop ((headL b l).length + 1)) hl
        rw [drop_over] at h2
        exact h2
      simp only [Int.toNat_natCast, Nat.add_zero, List.length_singleton]
      rw [e1, e2]
      match n, hn with
      | 0, hn => exact absurd (List.eq_nil_of_length_eq_zero (Nat.le_zero.1 hn)) (by intro e; rw [e] at h; cases h)
      | n + 1, hn =>
        have := tailL_len b l
        rw [splitK_cut b n (tailL b l) (by omega)]
    · have hc : l.count b = 0 := List.count_eq_zero.2 h
      rw [hc, if_neg h, (headL_not b h).1]
      rfl
def dropE (L : List (List UInt8)) : List (List UInt8) := if L.getLast? = some [] then L.dropLast else L
def linesL (b : UInt8) (l : List UInt8) : List (List UInt8) := dropE (cutL b l)
theorem dropE_cons (x : List UInt8) {L : List (List UInt8)} (h : L ≠ []) : dropE (x :: L) = x :: dropE L := by
  obtain ⟨y, L', rfl⟩ := List.exists_cons_of_ne_nil h
  unfold dropE
  rw [List.getLast?_cons_cons]
  split
  · rw [List.dropLast_cons_cons]
  · rfl
theorem linesL_nil (b : UInt8) : linesL b [] = [] := by simp [linesL, cutL, dropE]
theorem linesL_cons (b : UInt8) {l : List UInt8} (h : l ≠ []) : linesL b l = headL b l :: linesL b (tailL b l) := by
  unfold linesL
  rw [cutL_head b l]
  by_cases hb : b ∈ l
  · rw [if_pos hb, dropE_cons _ (cutL_ne _ _)]
  · rw [if_neg hb, (headL_not b hb).1, (headL_not b hb).2]
    unfold dropE
    rw [if_neg (by simpa using h)]
    simp [cutL]

def rdF : List UInt8 → Option Wd
  | [] => some []
  | c :: r => if c = 60 then (if 62 ∈ r ∧ 2 ≤ (headL 62 r).length ∧ symOK (toB (headL 62 r)) = true then (rdF (tailL 62 r)).map (toB (headL 62 r) :: ·) else none)
    else if badI c.toNat = true then none else (rdF r).map (toB [c] :: ·)
termination_by l => l.length
decreasing_by
  · have := tailL_len 62 r
    simp only [List.length_cons]
    omega
  · simp
def brk : ByteArray := ⟨#[91, 93]⟩
def rdW (s : ByteArray) : Wd × Bool := if (s == brk) = true then ([], true) else if (s == ⟨#[]⟩) = true then ([], false) else match rdF s.data.toList with
  | some w => (w, true)
  | none => ([], false)
theorem rdF_len : ∀ (n : Nat) (l : List UInt8) {w : Wd}, l.length ≤ n → rdF l = some w → w.length ≤ l.length
  | n, [], w, _, h => by rw [rdF] at h; cases h; simp
  | n, c :: r, w, hn, h => by
    match n, hn with
    | n + 1, hn =>
      simp only [List.length_cons] at hn
      rw [rdF] at h
      have ht := tailL_len 62 r
      split at h
      · split at h
        · obtain ⟨x, hx, rfl⟩ := Option.map_eq_some_iff.1 h
          have := rdF_len n (tailL 62 r) (by omega) hx
          simp only [List.length_cons]
          omega
        · cases h
      · split at h
        · cases h
        · obtain ⟨x, hx, rfl⟩ := Option.map_eq_some_iff.1 h
          have := rdF_len n r (by omega) hx
          simp only [List.length_cons]
          omega
theorem rdW_len (s : ByteArray) : (rdW s).1.length ≤ s.size := by
  unfold rdW
  split
  · simp
  · split
    · simp
    · split
      · rename_i w h
        have := rdF_len _ _ (Nat.le_refl _) h
        simpa using this
      · simp
def hasF (t : List Sh) (w : Wd) : Bool := t.any fun r => eqW r.From w
/-- A line's row, and whether it is too great. -/
def rowL (done : List Sh) (line : List UInt8) : Option (Sh × Bool) :=
  match cutL 32 line with
  | [a, m, c] => if m = [61] ∧ (rdW (toB a)).2 = true ∧ (rdW (toB c)).2 = true ∧ hasF done (rdW (toB a)).1 = false then
      some (⟨(rdW (toB a)).1, (rdW (toB c)).1⟩, decide (400 < max a.length c.length) || decide (60 < max (rdW (toB a)).1.length (rdW (toB c)).1.length)) else none
  | _ => none
def goR : List (List UInt8) → Nat → List Sh → Bool → Except Nat (List Sh × Bool)
  | [], i, done, g => .ok (done, g)
  | x :: L, i, done, g => match rowL done x with
    | none => .error i
    | some (r, g') => goR L (i + 1) (done ++ [r]) (g || g')
def insAt (l : List Sh) (x : Sh) : Nat → Nat
  | 0 => 0
  | n + 1 => match l[n]? with
    | some y => if 0 < ordW y.From x.From then insAt l x n else n + 1
    | none => n + 1
def insT (l : List Sh) (x : Sh) : List Sh := l.take (insAt l x l.length) ++ x :: l.drop (insAt l x l.length)
def srtT (t : List Sh) : List Sh := t.foldl insT []
abbrev sortedP (t : List Sh) : Prop := t.Pairwise fun a b => ltW b.From a.From = false
theorem insAt_le (l : List Sh) (x : Sh) : ∀ n, insAt l x n ≤ n
  | 0 => Nat.le_refl _
  | n + 1 => by
    rw [insAt]
    split
    · split
      · exact Nat.le_succ_of_le (insAt_le l x n)
      · exact Nat.le_refl _
    · exact Nat.le_refl _
theorem ord_flip (a b : Wd) : (0 < ordW a b) ↔ ltW b a = true := by
  induction a generalizing b with
  | nil => cases b <;> simp [ordW, ltW]
  | cons x a ih =>
    cases b with
    | nil => simp [ordW, ltW]
    | cons y b =>
      rw [ltW_cons, ordW]
      cases h1 : strLt x y with
      | true =>
        have h2 := strLt_asymm h1
        have h3 : (y == x) = false := by
          cases h : (y == x) with
          | false => rfl
          | true => rw [ba_eq h, strLt_irrefl] at h1; cases h1
        simp [h2, h3]
      | false =>
        cases h2 : (x == y) with
        | true =>
          have e := ba_eq h2
          subst e
          simp [strLt_irrefl, ba_refl, ih]
        | false =>
          have h3 : strLt y x = true := by
            rcases strLt_tri x y with h | h | h
            · rw [h1] at h; cases h
            · rw [h, ba_refl] at h2; cases h2
            · exact h
          simp [h3]
theorem insAt_spec (l : List Sh) (x : Sh) : ∀ n, n ≤ l.length → (∀ j (hj : j < l.length), j < n → insAt l x n ≤ j → ltW x.From l[j].From = true) ∧ (∀ (h : insAt l x n ≠ 0) (h2 : insAt l x n - 1 < l.length), ltW x.From (l[insAt l x n - 1]).From = false)
  | 0, _ => ⟨fun j hj h => absurd h (Nat.not_lt_zero _), fun h => absurd rfl h⟩
  | n + 1, hn => by
    have hx : l[n]? = some l[n] := List.getElem?_eq_getElem (by omega)
    rw [insAt, hx]
    simp only
    by_cases hc : 0 < ordW l[n].From x.From
    · simp only [hc, if_true]
      obtain ⟨h1, h2⟩ := insAt_spec l x n (by omega)
      refine ⟨fun j hj hjn hle => ?_, h2⟩
      rcases Nat.lt_succ_iff_lt_or_eq.1 hjn with h | rfl
      · exact h1 j hj h hle
      · exact (ord_flip _ _).1 hc
    · simp only [hc, if_false]
      refine ⟨fun j hj hjn hle => absurd hle (by omega), fun _ h2 => ?_⟩
      have : ¬ (ltW x.From l[n].From = true) := fun h => hc ((ord_flip _ _).2 h)
      simpa using this
theorem not_lt_trans {a b c : Wd} (h1 : ltW b a = false) (h2 : ltW c b = false) : ltW c a = false := by
  cases h : ltW c a with
  | false => rfl
  | true =>
    rcases ltW_tri a b with g | g | g
    · rw [ltW_trans h g] at h2; cases h2
    · rw [← g, h] at h2; cases h2
    · rw [g] at h1; cases h1
theorem not_lt_of {a b : Wd} (h : ltW a b = true) : ltW b a = false := by
  cases g : ltW b a with
  | false => rfl
  | true => have := ltW_trans h g; rw [ltW_irrefl] at this; cases this
theorem insT_perm (l : List Sh) (x : Sh) : (insT l x).Perm (x :: l) := by
  unfold insT
  have h := List.take_append_drop (insAt l x l.length) l
  refine List.perm_middle.trans ?_
  rw [h]
theorem insT_sorted {l : List Sh} (x : Sh) (h : sortedP l) : sortedP (insT l x) := by
  obtain ⟨h1, h2⟩ := insAt_spec l x l.length (Nat.le_refl _)
  have hle := insAt_le l x l.length
  unfold insT
  generalize insAt l x l.length = a at *
  have hg := List.pairwise_iff_getElem.1 h
  have h2' : ∀ i (hi : i < l.length), i < a → ltW x.From l[i].From = false := fun i hi hia => by
    have h3 := h2 (by omega) (by omega)
    by_cases he : i = a - 1
    · subst he; exact h3
    · exact not_lt_trans (hg i (a - 1) hi (by omega) (by omega)) h3
  refine List.pairwise_append.2 ⟨h.sublist (List.take_sublist _ _), List.pairwise_cons.2 ⟨fun y hy => ?_, h.sublist (List.drop_sublist _ _)⟩, fun y hy z hz => ?_⟩
  · obtain ⟨j, hj, rfl⟩ := List.getElem_of_mem hy
    rw [List.getElem_drop]
    rw [List.length_drop] at hj
    exact not_lt_of (h1 (a + j) (by omega) (by omega) (by omega))
  · obtain ⟨i, hi, rfl⟩ := List.getElem_of_mem hy
    rw [List.length_take] at hi
    rw [List.getElem_take]
    rcases List.mem_cons.1 hz with rfl | hz
    · exact h2' i (by omega) (by omega)
    · obtain ⟨j, hj, rfl⟩ := List.getElem_of_mem hz
      rw [List.length_drop] at hj
      rw [List.getElem_drop]
      exact hg i (a + j) (by omega) (by omega) (by omega)
theorem srt_both : ∀ (t l : List Sh), sortedP l → sortedP (t.foldl insT l) ∧ (t.foldl insT l).Perm (t ++ l)
  | [], l, h => ⟨h, .refl _⟩
  | x :: t, l, h => by
    obtain ⟨h1, h2⟩ := srt_both t (insT l x) (insT_sorted x h)
    refine ⟨h1, h2.trans ?_⟩
    refine (List.Perm.append_left t (insT_perm l x)).trans ?_
    exact List.perm_middle
theorem srtT_sorted (t : List Sh) : sortedP (srtT t) := (srt_both t [] List.Pairwise.nil).1
theorem srtT_perm (t : List Sh) : (srtT t).Perm t := by
  have := (srt_both t [] List.Pairwise.nil).2
  rwa [List.append_nil] at this
def apartF (t : List Sh) : Prop := ∀ x ∈ t, ∀ y ∈ t, x.From = y.From → x = y
theorem sorted_unique : ∀ {a b : List Sh}, a.Perm b → sortedP a → sortedP b → apartF a → a = b
  | [], b, hp, _, _, _ => (List.Perm.nil_eq hp)
  | x :: a, [], hp, _, _, _ => by have := hp.length_eq; simp at this
  | x :: a, y :: b, hp, ha, hb, hi => by
    have hxb : x ∈ y :: b := hp.mem_iff.1 (by simp)
    have hya : y ∈ x :: a := hp.mem_iff.2 (by simp)
    have e : x = y := by
      rcases List.mem_cons.1 hxb with h | h
      · exact h
      · rcases List.mem_cons.1 hya with g | g
        · exact g.symm
        · have h1 := (List.pairwise_cons.1 hb).1 x h
          have h2 := (List.pairwise_cons.1 ha).1 y g
          refine hi x (by simp) y hya ?_
          rcases ltW_tri x.From y.From with k | k | k
          · rw [k] at h1; cases h1
          · exact k
          · rw [k] at h2; cases h2
    subst e
    rw [sorted_unique (List.Perm.cons_inv hp) (List.pairwise_cons.1 ha).2 (List.pairwise_cons.1 hb).2 fun u hu v hv => hi u (List.mem_cons_of_mem _ hu) v (List.mem_cons_of_mem _ hv)]
theorem rowL_some {done : List Sh} {x : List UInt8} {r : Sh} {g : Bool} (h : rowL done x = some (r, g)) : hasF done r.From = false ∧ r.From.length ≤ x.length ∧ r.To.length ≤ x.length := by
  unfold rowL at h
  split at h
  · rename_i a m c hc
    split at h
    · rename_i hh
      cases h
      have hle : ∀ y ∈ cutL 32 x, y.length ≤ x.length := by
        have : ∀ (n : Nat) (l : List UInt8), l.length ≤ n → ∀ y ∈ cutL 32 l, y.length ≤ l.length := by
          intro n
          induction n with
          | zero =>
            intro l hl y hy
            have : l = [] := List.eq_nil_of_length_eq_zero (by omega)
            subst this
            simp [cutL] at hy
            subst hy; simp
          | succ n ih =>
            intro l hl y hy
            rw [cutL_head] at hy
            rcases List.mem_cons.1 hy with rfl | hy
            · exact headL_len _ _
            · split at hy
              · have := tailL_len 32 l
                have := ih (tailL 32 l) (by omega) y hy
                omega
              · cases hy
        exact this _ x (Nat.le_refl _)
      have h1 := rdW_len (toB a)
      have h2 := rdW_len (toB c)
      rw [toB_size] at h1 h2
      have h3 := hle a (by rw [hc]; simp)
      have h4 := hle c (by rw [hc]; simp)
      exact ⟨hh.2.2.2, by show (rdW (toB a)).1.length ≤ _; omega, by show (rdW (toB c)).1.length ≤ _; omega⟩
    · cases h
  · cases h
theorem goR_apart : ∀ (L : List (List UInt8)) (i : Nat) (done : List Sh) (g : Bool) {t : List Sh} {g' : Bool}, apartF done → goR L i done g = .ok (t, g') → apartF t
  | [], i, done, g, t, g', h, e => by rw [goR] at e; cases e; exact h
  | x :: L, i, done, g, t, g', h, e => by
    rw [goR] at e
    split at e
    · cases e
    · rename_i r g2 hr
      obtain ⟨h1, _⟩ := rowL_some hr
      refine goR_apart L _ _ _ ?_ e
      have h3 : ∀ u ∈ done, u.From ≠ r.From := fun u hu he => by
        have := List.any_eq_false.1 h1 u hu
        rw [he] at this
        exact this (eqW_iff.2 rfl)
      intro u hu v hv he
      rcases List.mem_append.1 hu with k1 | k1 <;> rcases List.mem_append.1 hv with k2 | k2
      · exact h u k1 v k2 he
      · rw [List.mem_singleton.1 k2] at he; exact absurd he (h3 u k1)
      · rw [List.mem_singleton.1 k1] at he; exact absurd he.symm (h3 v k2)
      · rw [List.mem_singleton.1 k1, List.mem_singleton.1 k2]
/-- What a text is read as: the table, the line, the error. -/
def readR (s : ByteArray) : List Sh × Int × Int :=
  if 6000 < s.size then ([], 0, 3) else match goR (linesL 10 s.data.toList) 0 [] false with
    | .error i => ([], i, 2)
    | .ok (t, true) => ([], 0, 3)
    | .ok (t, false) => if badT (srtT t) = 0 then (srtT t, 0, 0) else ([], 0, badT (srtT t))
end Go.Proofs.YtldlcejlfaogbaaGreatDoor.Vs
