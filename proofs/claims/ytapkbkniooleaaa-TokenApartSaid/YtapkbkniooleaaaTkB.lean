/- numbers of Ytapkbkniooleaaa -/
import Derived.Sort.Grow
import Derived.WalkKit
import Derived.Deep.LoopGhost
import Derived.Lib.ConvBytes
import Derived.Laws.IdiomStrings
import Derived.Test.YtapkbkniooleaaaTkA1
import Derived.Test.YtapkbkniooleaaaBridge
namespace Go.Proofs.Ytapkbkniooleaaa.Vs
open Go.RowKit Go.Sort
set_option linter.unusedVariables false
set_option linter.unusedSimpArgs false
set_option maxRecDepth 100000
def isBigN (n : Nat) : Bool := decide (65 ≤ n) && decide (n ≤ 90)
theorem isBig_raw (n : Nat) (w : World) : Calls Try.prog 53 #[.int .u8 n] w fun e w' => e = .returned (.bool (isBigN n)) ∧ w' = w := by
  unfold isBigN
  by_cases h : (65 : Int) ≤ (n : Int)
  · have h' : 65 ≤ n := by omega
    by_cases k : (n : Int) ≤ 90
    · have k' : n ≤ 90 := by omega
      go_enter Try.func53, Try.ntmps53
      go_wp2
      go_ret
      exact ⟨by simp [h', k'], rfl⟩
    · have k' : ¬ n ≤ 90 := by omega
      go_enter Try.func53, Try.ntmps53
      go_wp2
      go_ret
      exact ⟨by simp [h', k'], rfl⟩
  · have h' : ¬ 65 ≤ n := by omega
    go_enter Try.func53, Try.ntmps53
    go_wp2
    go_ret
    exact ⟨by simp [h'], rfl⟩
def lowN (n : Nat) : Nat := if isBigN n = true then n + 32 else n
theorem freshBytes_frozen (w : World) (e : TypeId) (s : ByteArray) (j : Nat) (h : j < s.size) : (Lib.bytesWorld w e s).frozen? ⟨w.heap.size, j, none⟩ = false := by
  have hsz : s.size ≤ (Lib.bytesCells w e s).size := by
    have h1 := Lib.bytesWorld_cell w e s
    simp [Lib.bytesCells]
  have := Lib.bytesWorld_at_new w e s
  simp only [World.frozen?, this]
  have hj : ¬ (Lib.bytesCells w e s).size ≤ j := by omega
  simp [hj]
/-- Half turned: what is ahead of k is in small letters; no cell is frozen. -/
structure LowIs (B n k : Nat) (l : List UInt8) (W : World) : Prop where
  cell : ∀ j, j < n → W.cell? ⟨B, j, none⟩ = some (.int .u8 (if j < k then lowN (l.getD j 0).toNat else (l.getD j 0).toNat : Nat))
  free : ∀ j, j < n → W.frozen? ⟨B, j, none⟩ = false
theorem LowIs.step {B n k : Nat} {l : List UInt8} {W : World} (h : LowIs B n k l W) (hk : k < n) (hb : isBigN (l.getD k 0).toNat = false) : LowIs B n (k + 1) l W := by
  refine ⟨fun j hj => ?_, h.free⟩
  rw [h.cell j hj]
  by_cases e : j = k
  · subst e
    rw [if_neg (Nat.lt_irrefl j), if_pos (Nat.lt_succ_self j), lowN, hb]
    rfl
  · by_cases e2 : j < k
    · rw [if_pos e2, if_pos (by omega)]
    · rw [if_neg e2, if_neg (by omega)]
theorem LowIs.set {B n k : Nat} {l : List UInt8} {W : World} (h : LowIs B n k l W) (hk : k < n) (hb : isBigN (l.getD k 0).toNat = true) : LowIs B n (k + 1) l (W.setCell ⟨B, k, none⟩ (.int .u8 ((l.getD k 0).toNat + 32 : Int))) := by
  refine ⟨fun j hj => ?_, fun j hj => by rw [World.frozen?_setCell]; exact h.free j hj⟩
  by_cases e : j = k
  · subst e
    rw [if_pos (Nat.lt_succ_self j), lowN, hb, if_pos rfl, World.cell?_setCell_same _ _ _ (h.cell j hj)]
    simp
  · rw [World.cell?_setCell_other _ _ _ _ (by simp [e]), h.cell j hj]
    by_cases e2 : j < k
    · rw [if_pos e2, if_pos (by omega)]
    · rw [if_neg e2, if_neg (by omega)]
theorem lowB_size (s : ByteArray) : (lowB s).size = s.size := Array.size_map ..
theorem lowN_byte (b : UInt8) : lowN b.toNat = (if 65 ≤ b ∧ b ≤ 90 then b + 32 else b).toNat := by
  have h8 := UInt8.toNat_lt b
  unfold lowN isBigN
  by_cases h : 65 ≤ b ∧ b ≤ 90
  · have h1 : 65 ≤ b.toNat := UInt8.le_iff_toNat_le.1 h.1
    have h2 : b.toNat ≤ 90 := UInt8.le_iff_toNat_le.1 h.2
    rw [if_pos h, UInt8.toNat_add]
    simp [h1, h2]
    omega
  · rw [if_neg h, if_neg]
    intro hh
    simp only [Bool.and_eq_true, decide_eq_true_eq] at hh
    exact h ⟨UInt8.le_iff_toNat_le.2 hh.1, UInt8.le_iff_toNat_le.2 hh.2⟩
theorem LowIs.back {B n : Nat} {s : ByteArray} {W : World} (h : LowIs B n n s.data.toList W) (hn : s.size = n) (c : Nat) (src dst e : TypeId) (P : Program) (hs : P.underlying src = some (.slice e)) (he : P.underlying e = some (.int .u8)) (hd : P.underlying dst = some .string) :
    (convert src dst (.slice (some ⟨B, 0, none⟩) n c)).run P W = .ok (.string (lowB s)) W := by
  have hlen : (lowB s).data.toList.length = n := by rw [← hn]; exact lowB_size s
  have := run_convert_bytes_back (P := P) W src dst e ⟨B, 0, none⟩ c (lowB s).data.toList hs he hd (fun j hj => by
    have hj' : j < n := by omega
    rw [addr_add, Nat.zero_add, h.cell j hj', if_pos hj', lowN_byte]
    have hjs : j < s.data.toList.length := by rw [show s.data.toList.length = s.size from rfl, hn]; exact hj'
    have e : (lowB s).data.toList = s.data.toList.map fun b => if 65 ≤ b ∧ b ≤ 90 then b + 32 else b := by simp only [lowB, Array.toList_map]
    simp only [e, List.getElem_map, List.getD_eq_getElem?_getD, List.getElem?_eq_getElem hjs, Option.getD_some])
  rw [hlen] at this
  rw [this]
set_option maxHeartbeats 4000000 in
theorem lower_raw (s : ByteArray) (w : World) (hs : s.size ≤ 9223372036854775807) : Calls Try.prog 35 #[.string s] w fun e w' => e = .returned (.string (lowB s)) ∧ Below w.heap.size w w' := by
  have hc := fun n W => isBig_raw n W
  obtain ⟨r, hr⟩ : ∃ r, r = lowB s := ⟨_, rfl⟩
  rw [← hr]
  have hB0 : Below w.heap.size w (Lib.bytesWorld w 5 s) := bytes_below w 5 s
  have hC0 : ∀ j, j < s.size → (Lib.bytesWorld w 5 s).cell? ⟨w.heap.size, j, none⟩ = some (.int .u8 (s.data.toList.getD j 0).toNat) := fun j hj => Lib.bytesWorld_cell w 5 s j hj
  have hF0 : ∀ j, j < s.size → (Lib.bytesWorld w 5 s).frozen? ⟨w.heap.size, j, none⟩ = false := fun j hj => freshBytes_frozen w 5 s j hj
  go_enter Try.func35, Try.ntmps35
  go_wp2
  rw [Lib.run_convert_string_bytes w 9 67 5 s (u := .string) Try.underlying9 Try.underlying67 Try.underlying5]
  simp only [Result.andThen]
  rw [Oper.upon_value]
  obtain ⟨W1, hW1⟩ : ∃ W1, W1 = Lib.bytesWorld w 5 s := ⟨_, rfl⟩
  rw [← hW1] at hB0 hC0 hF0 ⊢
  clear hW1
  have hI : LowIs w.heap.size s.size 0 s.data.toList W1 := ⟨fun j hj => by rw [hC0 j hj, if_neg (Nat.not_lt_zero j)], hF0⟩
  clear hC0 hF0
  have hsz : s.data.toList.length = s.size := rfl
  have hback := fun W c (h : LowIs w.heap.size s.size s.size s.data.toList W) => h.back rfl c 67 9 5 Try.prog Try.underlying67 Try.underlying5 Try.underlying9
  generalize hn : s.size = n at *
  generalize hl : s.data.toList = l at *
  rw [← hr] at hback
  clear hr
  go_wp2
  go_loopg [10] n (fun g s10 wr => ∃ k : Nat, k ≤ n ∧ n - k ≤ g ∧ s10 = .int .i64 k ∧ Below w.heap.size w wr ∧ LowIs w.heap.size n k l wr)
  case atStart => exact ⟨0, Nat.zero_le _, by omega, rfl, hB0, hI⟩
  case round =>
    obtain ⟨k, hk, hg, rfl, hB, hL⟩ := hrel
    by_cases hlt : k < n
    · have hCk := hL.cell k hlt
      have hFk := hL.free k hlt
      rw [if_neg (Nat.lt_irrefl k)] at hCk
      have hst := hL.step hlt
      have hse := hL.set hlt
      have hx8 : (l.getD k 0).toNat < 256 := UInt8.toNat_lt _
      generalize (l.getD k 0).toNat = x at *
      cases hbig : isBigN x
      · go_wp2_with (go_at_call 53; refine (hc _ _).mono ?_; rintro e w' ⟨rfl, rfl⟩)
        go_roundg (n - (k + 1))
        case measure => omega
        case rel => exact ⟨k + 1, by omega, by omega, by go_num, hB, hst hbig⟩
      · have hx90 : x + 32 < 256 := by
          simp only [isBigN, Bool.and_eq_true, decide_eq_true_eq] at hbig
          omega
        go_wp2_with (go_at_call 53; refine (hc _ _).mono ?_; rintro e w' ⟨rfl, rfl⟩)
        go_roundg (n - (k + 1))
        case measure => omega
        case rel => exact ⟨k + 1, by omega, by omega, by go_num, hB.setCell (p := ⟨w.heap.size, k, none⟩) (Nat.le_refl _) _, hse hbig⟩
    · have hkn : k = n := by omega
      subst hkn
      have hb := fun c => hback _ c hL
      go_wp2
      go_ret
      exact ⟨rfl, hB⟩
theorem str_arg {w : World} {s : GH} {vs : Array Value} {x : ByteArray} (hv : VL w s vs [.str x]) : vs = #[.string x] ∧ x.size ≤ big := by
  obtain ⟨v0, rfl⟩ : ∃ a, vs = #[a] := by
    obtain ⟨l⟩ := vs
    match l, hv.1 with
    | [a], _ => exact ⟨a, rfl⟩
  have e0 : V w (Lim s) v0 (.str x) := hv.2 0 (by simp)
  cases e0 with
  | str _ h => exact ⟨rfl, h⟩
theorem Lower_c (s : ByteArray) : Fn Zs 35 [.str s] (.str (lowB s)) := by
  obtain ⟨fn, cc, hf, hb, _, _, _, hn, _⟩ := ok35.ok
  refine fn_below (Z := Zs) ⟨fn, hf, by rw [hb]; rfl, hn⟩ fun W q vs hv hW => ?_
  obtain ⟨rfl, hs⟩ := str_arg hv
  exact ⟨_, fun w' => .str _ (by rw [lowB_size]; exact hs), lower_raw s W (by simpa [big] using hs)⟩
end Go.Proofs.Ytapkbkniooleaaa.Vs
