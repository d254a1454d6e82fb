import Derived.Test.YthchlpikcpidaaaDoorGuA1
/- numbers of Ythchlpikcpidaaa -/
namespace Go.Proofs.YthchlpikcpidaaaDoor.Vs
set_option linter.unusedVariables false
set_option linter.unusedSimpArgs false
set_option maxRecDepth 20000
def Fine (L : List Smp) : Prop := (∀ x ∈ L, 1 ≤ x.many) ∧ tot L ≤ 1000
theorem hit_all {e : Wd} {t : ByteArray} {x : Smp} (_ : hit e t x = true) : hit [] noB x = true := by
  have h0 : (noB == noB) = true := ba_refl _
  simp [hit, isEnd_nil, h0]
theorem Fine.le {L : List Smp} (h : Fine L) (e : Wd) (t : ByteArray) : 0 ≤ cnt L e t ∧ cnt L e t ≤ 1000 :=
  ⟨cnt_nonneg _ _ h.1, Int.le_trans (cnt_le h.1 fun x _ hx => hit_all hx) h.2⟩
theorem Fine.take {L : List Smp} (h : Fine L) (k : Nat) : Fine (L.take k) := by
  refine ⟨fun x hx => h.1 x (List.mem_of_mem_take hx), ?_⟩
  have h1 := cnt_append (L.take k) (L.drop k) [] noB
  rw [List.take_append_drop] at h1
  have h2 : 0 ≤ cnt (L.drop k) [] noB := cnt_nonneg _ _ fun x hx => h.1 x (List.mem_of_mem_drop hx)
  have := h.2
  unfold tot at *
  omega
theorem take_snoc {α : Type} {L : List α} {k : Nat} (h : k < L.length) : L.take (k + 1) = L.take k ++ [L[k]] := by
  rw [List.take_add_one, List.getElem?_eq_getElem h]; rfl

def suf (w : Wd) (i : Nat) : Wd := w.drop (w.length - i)
def chF (a b : Wd → Int) (w : Wd) : Nat → Nat → Int → Int → Int × Int
  | 0, _, n, d => (n, d)
  | k + 1, i, n, d => if b (suf w i) = 0 then (n, d) else chF a b w k (i + 1) (a (suf w i) * d + n) (d * (b (suf w i) + 1))
def bnd : Nat → Int
  | 0 => 1
  | i + 1 => bnd i * 1001
theorem bnd_le {i : Nat} (h : i ≤ 5) : bnd i ≤ 1005010010005001 := by
  have : i = 0 ∨ i = 1 ∨ i = 2 ∨ i = 3 ∨ i = 4 ∨ i = 5 := by omega
  rcases this with rfl | rfl | rfl | rfl | rfl | rfl <;> decide
theorem chstep {n d a b : Int} {i : Nat} (h0 : 0 ≤ n) (h1 : n ≤ d) (h2 : d ≤ bnd i) (ha : 0 ≤ a) (hab : a ≤ b) (hb : b ≤ 1000) : 0 ≤ a * d ∧ 0 ≤ a * d + n ∧ a * d + n ≤ d * (b + 1) ∧ d * (b + 1) ≤ bnd (i + 1) := by
  have hd : 0 ≤ d := Int.le_trans h0 h1
  have q1 : 0 ≤ a * d := Int.mul_nonneg ha hd
  have q2 : a * d ≤ b * d := Int.mul_le_mul_of_nonneg_right hab hd
  have q3 : d * (b + 1) = b * d + d := by rw [Int.mul_add, Int.mul_one, Int.mul_comm]
  have q4 : d * (b + 1) ≤ d * 1001 := Int.mul_le_mul_of_nonneg_left (by omega) hd
  have q5 : d * 1001 ≤ bnd i * 1001 := Int.mul_le_mul_of_nonneg_right h2 (by decide)
  refine ⟨q1, by omega, by omega, ?_⟩
  show _ ≤ bnd i * 1001
  omega
/-- A chance, not in least terms. -/
def chV (a b : Wd → Int) (w : Wd) : Int × Int := chF a b w (min w.length 4) 1 (a []) (b [])
theorem chF_bound {a b : Wd → Int} {w : Wd} (hab : ∀ e, 0 ≤ a e ∧ a e ≤ b e ∧ b e ≤ 1000) : ∀ (k i : Nat) (n d : Int), i + k ≤ 5 → 0 ≤ n → n ≤ d → d ≤ bnd i → 0 ≤ (chF a b w k i n d).1 ∧ (chF a b w k i n d).1 ≤ (chF a b w k i n d).2 ∧ (chF a b w k i n d).2 ≤ 1005010010005001 ∧ (0 < d → 0 < (chF a b w k i n d).2)
  | 0, i, n, d, hi, h0, h1, h2 => ⟨h0, h1, Int.le_trans h2 (bnd_le (by omega)), id⟩
  | k + 1, i, n, d, hi, h0, h1, h2 => by
    simp only [chF]
    split
    · exact ⟨h0, h1, Int.le_trans h2 (bnd_le (by omega)), id⟩
    · obtain ⟨x1, x2, x3⟩ := hab (suf w i)
      obtain ⟨_, q1, q2, q3⟩ := chstep h0 h1 h2 x1 x2 x3
      obtain ⟨r1, r2, r3, r4⟩ := chF_bound hab k (i + 1) _ _ (by omega) q1 q2 q3
      refine ⟨r1, r2, r3, fun hd => r4 ?_⟩
      exact Int.mul_pos hd (by omega)
theorem wsub {a b : Nat} (h : b ≤ a) (ha : a ≤ big) : IntKind.i64.wrap ((a : Int) - (b : Int)) = ((a - b : Nat) : Int) := by
  simp only [big] at ha
  rw [wrap64_in (by omega) (by omega)]; omega
theorem suf_len {w : Wd} {i : Nat} (h : i ≤ w.length) : (suf w i).length = i := by rw [suf, List.length_drop]; omega

def gcdI (a b : Int) : Int := (Nat.gcd a.toNat b.toNat : Nat)
theorem gcd_step {a b : Int} (ha : 0 ≤ a) (hb : 0 < b) : gcdI b (a.tmod b) = gcdI a b ∧ 0 ≤ a.tmod b ∧ a.tmod b < b := by
  obtain ⟨m, rfl⟩ := Int.eq_ofNat_of_zero_le ha
  obtain ⟨n, rfl⟩ := Int.eq_ofNat_of_zero_le (Int.le_of_lt hb)
  have e : (m : Int).tmod (n : Int) = ((m % n : Nat) : Int) := by rw [Int.ofNat_tmod]
  refine ⟨?_, by rw [e]; omega, ?_⟩
  · rw [e]
    simp only [gcdI, Int.toNat_natCast]
    rw [Nat.gcd_comm m n, Nat.gcd_rec n m, Nat.gcd_comm]
  · rw [e]
    have := Nat.mod_lt m (show 0 < n by omega)
    omega
theorem gcd_zero {a : Int} (ha : 0 ≤ a) : gcdI a 0 = a := by
  obtain ⟨m, rfl⟩ := Int.eq_ofNat_of_zero_le ha
  simp [gcdI]
theorem gcd_pos {a b : Int} (hb : 0 < b) : 0 < gcdI a b := by
  have : 0 < Nat.gcd a.toNat b.toNat := Nat.gcd_pos_of_pos_right _ (by omega)
  unfold gcdI
  omega
def leastV (n d : Int) : Int × Int := (n.tdiv (gcdI n d), d.tdiv (gcdI n d))
theorem tdiv_in {n g : Int} (h0 : 0 ≤ n) (h1 : n ≤ 1005010010005001) (hg : 0 < g) : IntKind.i64.wrap (n.tdiv g) = n.tdiv g := by
  have h2 : 0 ≤ n.tdiv g := Int.tdiv_nonneg h0 (by omega)
  have h3 : n.tdiv g ≤ n := Int.tdiv_le_self _ h0
  exact wrap64_in (by omega) (by omega)
end Go.Proofs.YthchlpikcpidaaaDoor.Vs

/- numbers of Ythchlpikcpidaaa -/
namespace Go.Proofs.YthchlpikcpidaaaDoor.Vs
set_option linter.unusedVariables false
set_option linter.unusedSimpArgs false
set_option maxRecDepth 20000
/-- The reference's guesser, made over a heap. -/
def RGo (σ0 : Heap) (L : List Smp) (q : Nat) (σ : Heap) : Prop := HLe σ0 σ ∧ σ0.get q = none ∧ q < σ.next ∧ ∃ d, σ.get q = some (.cells 60 [d]) ∧ ((L = [] ∧ d = .sl .nil 0 []) ∨ (L ≠ [] ∧ ∃ r js, r ≠ q ∧ σ0.get r = none ∧ d = .row r 0 L.length none 3 ∧ σ.get r = some (.cells 25 (cellsS L ++ js))))
theorem RGo.at {σ0 σ : Heap} {L : List Smp} {q : Nat} (h : RGo σ0 L q σ) : RGat L q σ := by
  obtain ⟨_, _, _, d, hq, hd⟩ := h
  refine ⟨d, hq, ?_⟩
  rcases hd with h | ⟨h1, r, js, h2, _, h3, h4⟩
  · exact .inl h
  · exact .inr ⟨h1, r, js, h2, h3, h4⟩
theorem RGo.less {σ0 σ σ' : Heap} {L : List Smp} {q : Nat} (h : RGo σ0 L q σ) (hle : HLe σ σ') : RGo σ0 L q σ' := by
  obtain ⟨h1, h2, h3, d, hq, hd⟩ := h
  refine ⟨h1.trans hle, h2, Nat.lt_of_lt_of_le h3 hle.next, d, hle.get _ _ hq, ?_⟩
  rcases hd with h | ⟨h1, r, js, h2, h2', h3, h4⟩
  · exact .inl h
  · exact .inr ⟨h1, r, js, h2, h2', h3, hle.get _ _ h4⟩
section
variable {g : Nat → Option AO} {r n a : Nat} {k : IntKind}
end
theorem tot_take {l : List Smp} {k : Nat} (h : k < l.length) : tot (l.take (k + 1)) = tot (l.take k) + l[k].many := by
  rw [take_snoc h, tot, cnt_append, cnt_one, one_all]; rfl

end Go.Proofs.YthchlpikcpidaaaDoor.Vs
