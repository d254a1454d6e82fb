import Derived.Shelf.Strings.Fields
import Derived.Test.YtapkbkniooleaaaDoorLawReadsA
import Derived.Test.YtapkbkniooleaaaDoorNewS
import Derived.Test.YtapkbkniooleaaaDoorTkA1
/- numbers of YtapkbkniooleaaaDoor -/
namespace Go.Proofs.YtapkbkniooleaaaDoor.Vs
open Go.Shelf Go.RowKit
set_option linter.unusedVariables false
set_option linter.unusedSimpArgs false
set_option maxRecDepth 100000
def Tryd.lays157_ren : Go.Shelf.Ren := ⟨fun | 157 => 69 | 229 => 84 | 199 => 85 | 261 => 92 | 311 => 104 | 312 => 105 | n => n, fun | 9 => 9 | 31 => 34 | 3 => 3 | 5 => 5 | 4 => 4 | 119 => 96 | 0 => 0 | 40 => 98 | 152 => 105 | 21 => 21 | 154 => 107 | 51 => 102 | 141 => 109 | 196 => 126 | 193 => 123 | 198 => 129 | 49 => 127 | 194 => 124 | 201 => 132 | 226 => 140 | 46 => 93 | 227 => 141 | n => n, fun | 0 => 1 | 6 => 2 | n => n⟩
theorem Tryd.lays157 : Go.Proofs.Lays.n157 Tryd.prog Tryd.lays157_ren := {
  mixed := by kernel_rfl
  f157 := Tryd.func69.trans (congrArg some (by kernel_rfl))
  f199 := Tryd.func85.trans (congrArg some (by kernel_rfl))
  f229 := Tryd.func84.trans (congrArg some (by kernel_rfl))
  f261 := Tryd.func92.trans (congrArg some (by kernel_rfl))
  f311 := Tryd.func104.trans (congrArg some (by kernel_rfl))
  f312 := Tryd.func105.trans (congrArg some (by kernel_rfl))
  t0 := Tryd.underlying0
  a0 := Tryd.isAgg0
  z0 := Tryd.sizeOf0
  v0 := Tryd.zeroValue0
  t3 := Tryd.underlying3
  a3 := Tryd.isAgg3
  z3 := Tryd.sizeOf3
  v3 := Tryd.zeroValue3
  t4 := Tryd.underlying4
  a4 := Tryd.isAgg4
  z4 := Tryd.sizeOf4
  v4 := Tryd.zeroValue4
  t5 := Tryd.underlying5
  a5 := Tryd.isAgg5
  z5 := Tryd.sizeOf5
  v5 := Tryd.zeroValue5
  t9 := Tryd.underlying9
  a9 := Tryd.isAgg9
  z9 := Tryd.sizeOf9
  v9 := Tryd.zeroValue9
  t21 := Tryd.underlying21
  a21 := Tryd.isAgg21
  z21 := Tryd.sizeOf21
  v21 := Tryd.zeroValue21
  t31 := Tryd.underlying34
  a31 := Tryd.isAgg34
  z31 := Tryd.sizeOf34
  v31 := Tryd.zeroValue34
  t40 := Tryd.underlying98
  a40 := Tryd.isAgg98
  z40 := Tryd.sizeOf98
  v40 := Tryd.zeroValue98
  t46 := Tryd.underlying93
  a46 := Tryd.isAgg93
  z46 := Tryd.sizeOf93
  v46 := Tryd.zeroValue93
  t49 := Tryd.underlying127
  a49 := Tryd.isAgg127
  z49 := Tryd.sizeOf127
  v49 := Tryd.zeroValue127
  t51 := Tryd.underlying102
  a51 := Tryd.isAgg102
  z51 := Tryd.sizeOf102
  v51 := Tryd.zeroValue102
  t119 := Tryd.underlying96
  a119 := Tryd.isAgg96
  z119 := Tryd.sizeOf96
  t141 := Tryd.underlying109
  a141 := Tryd.isAgg109
  z141 := Tryd.sizeOf109
  v141 := Tryd.zeroValue109
  t152 := Tryd.underlying105
  a152 := Tryd.isAgg105
  z152 := Tryd.sizeOf105
  v152 := Tryd.zeroValue105
  t154 := Tryd.underlying107
  a154 := Tryd.isAgg107
  z154 := Tryd.sizeOf107
  v154 := Tryd.zeroValue107
  t193 := Tryd.underlying123
  a193 := Tryd.isAgg123
  z193 := Tryd.sizeOf123
  v193 := Tryd.zeroValue123
  t194 := Tryd.underlying124
  a194 := Tryd.isAgg124
  z194 := Tryd.sizeOf124
  v194 := Tryd.zeroValue124
  t196 := Tryd.underlying126
  a196 := Tryd.isAgg126
  z196 := Tryd.sizeOf126
  v196 := Tryd.zeroValue126
  t198 := Tryd.underlying129
  a198 := Tryd.isAgg129
  z198 := Tryd.sizeOf129
  v198 := Tryd.zeroValue129
  t201 := Tryd.underlying132
  a201 := Tryd.isAgg132
  z201 := Tryd.sizeOf132
  v201 := Tryd.zeroValue132
  t226 := Tryd.underlying140
  a226 := Tryd.isAgg140
  z226 := Tryd.sizeOf140
  v226 := Tryd.zeroValue140
  t227 := Tryd.underlying141
  a227 := Tryd.isAgg141
  z227 := Tryd.sizeOf141
  v227 := Tryd.zeroValue141
  g0 := by kernel_rfl
  g6 := by kernel_rfl }
theorem tab_at {s : GH} {w : World} (hW : W s w) : Lib.TabIs Tryd.prog w "strings.asciiSpace" .u8 Lib.asciiSpaceTab := by
  obtain ⟨⟨cs, e, t, h, rfl⟩, _⟩ := hW.tab _ (List.mem_cons_self ..)
  unfold Lib.TabIs World.var?
  rw [show Tryd.prog.globalNamed "strings.asciiSpace" = some 1 by kernel_rfl]
  simp only [Option.bind_some]
  rw [h]
theorem Fields_c (s : ByteArray) (hs : s.size ≤ 100000) (ha : s.data.toList.all (fun b => decide (b.toNat < 128)) = true) (hl : (Lib.fields s.data.toList).length ≤ 100000) (hx : ((Lib.fields s.data.toList).all fun x => decide (x.length ≤ 100000)) = true) :
    Fn Zs 69 [.str s] (encSS ((Lib.fields s.data.toList).map toB)) := by
  refine fn_new (Z := Zs) ⟨Tryd.f69, Tryd.func69, by kernel_rfl, by kernel_rfl⟩ fun W s' vs hv hW => ?_
  obtain ⟨v0, rfl⟩ : ∃ a, vs = #[a] := by
    obtain ⟨l⟩ := vs
    match l, hv.1 with
    | [a], _ => exact ⟨a, rfl⟩
  have e0 : V W (Lim s') v0 (.str s) := hv.2 0 (by simp)
  cases e0
  refine (Any.strings_Fields Tryd.lays157 (by kernel_rfl) (by kernel_rfl) s W (by omega) (fun j b hb => of_decide_eq_true (List.all_eq_true.1 ha b (List.mem_of_getElem? hb))) (tab_at hW)).mono ?_
  rintro e w' ⟨rfl, rfl⟩
  have e1 : ((Lib.fields s.data.toList).map fun l => Value.string ⟨l.toArray⟩) = ((Lib.fields s.data.toList).map toB).map Value.string := by rw [List.map_map]; rfl
  refine ⟨_, rfl, ?_, (Below.refl _ _).alloc (Nat.le_refl _) _⟩
  rw [e1]
  have := V_new_strs hW (Tryd.lays157_ren.t 9) ((Lib.fields s.data.toList).map toB) (by rw [List.length_map]; simp only [big]; omega) (fun x hm => by
    obtain ⟨y, hy, rfl⟩ := List.mem_map.1 hm
    have := of_decide_eq_true (List.all_eq_true.1 hx y hy)
    rw [toB_size]
    simp only [big]
    omega)
  rwa [List.length_map] at this
def smallT : ByteArray := ⟨#[122, 101, 114, 111, 32, 111, 110, 101, 32, 116, 119, 111, 32, 116, 104, 114, 101, 101, 32, 102, 111, 117, 114, 32, 102, 105, 118, 101, 32, 115, 105, 120, 32, 115, 101, 118, 101, 110, 32, 101, 105, 103, 104, 116, 32, 110, 105, 110, 101, 32, 116, 101, 110, 32, 101, 108, 101, 118, 101, 110, 32, 116, 119, 101, 108, 118, 101, 32, 116, 104, 105, 114, 116, 101, 101, 110, 32, 102, 111, 117, 114, 116, 101, 101, 110, 32, 102, 105, 102, 116, 101, 101, 110, 32, 115, 105, 120, 116, 101, 101, 110, 32, 115, 101, 118, 101, 110, 116, 101, 101, 110, 32, 101, 105, 103, 104, 116, 101, 101, 110, 32, 110, 105, 110, 101, 116, 101, 101, 110]⟩
def tensT : ByteArray := ⟨#[116, 119, 101, 110, 116, 121, 32, 116, 104, 105, 114, 116, 121, 32, 102, 111, 114, 116, 121, 32, 102, 105, 102, 116, 121, 32, 115, 105, 120, 116, 121, 32, 115, 101, 118, 101, 110, 116, 121, 32, 101, 105, 103, 104, 116, 121, 32, 110, 105, 110, 101, 116, 121]⟩
def smallL : List ByteArray := (Lib.fields smallT.data.toList).map toB
def tensL : List ByteArray := (Lib.fields tensT.data.toList).map toB
theorem smallL_is : smallL = [⟨#[122, 101, 114, 111]⟩, ⟨#[111, 110, 101]⟩, ⟨#[116, 119, 111]⟩, ⟨#[116, 104, 114, 101, 101]⟩, ⟨#[102, 111, 117, 114]⟩, ⟨#[102, 105, 118, 101]⟩, ⟨#[115, 105, 120]⟩, ⟨#[115, 101, 118, 101, 110]⟩, ⟨#[101, 105, 103, 104, 116]⟩, ⟨#[110, 105, 110, 101]⟩, ⟨#[116, 101, 110]⟩, ⟨#[101, 108, 101, 118, 101, 110]⟩, ⟨#[116, 119, 101, 108, 118, 101]⟩, ⟨#[116, 104, 105, 114, 116, 101, 101, 110]⟩, ⟨#[102, 111, 117, 114, 116, 101, 101, 110]⟩, ⟨#[102, 105, 102, 116, 101, 101, 110]⟩, ⟨#[115, 105, 120, 116, 101, 101, 110]⟩, ⟨#[115, 101, 118, 101, 110, 116, 101, 101, 110]⟩, ⟨#[101, 105, 103, 104, 116, 101, 101, 110]⟩, ⟨#[110, 105, 110, 101, 116, 101, 101, 110]⟩] := by rfl
theorem tensL_is : tensL = [⟨#[116, 119, 101, 110, 116, 121]⟩, ⟨#[116, 104, 105, 114, 116, 121]⟩, ⟨#[102, 111, 114, 116, 121]⟩, ⟨#[102, 105, 102, 116, 121]⟩, ⟨#[115, 105, 120, 116, 121]⟩, ⟨#[115, 101, 118, 101, 110, 116, 121]⟩, ⟨#[101, 105, 103, 104, 116, 121]⟩, ⟨#[110, 105, 110, 101, 116, 121]⟩] := by rfl
def smallW (n : Nat) : ByteArray := smallL.getD n ⟨#[]⟩
def tensW (n : Nat) : ByteArray := tensL.getD n ⟨#[]⟩
theorem small_c (n : Nat) (h : n < 20) : Fn Zs 44 [.int .i64 (n : Nat)] (.str (smallW n)) := by
  have hF := Fields_c smallT (by decide) (by decide +kernel) (by decide +kernel) (by decide +kernel)
  change Fn Zs 69 [.str smallT] (encSS smallL) at hF
  have hlen : smallL.length = 20 := by rw [smallL_is]; rfl
  have hx : (smallL.map D.str)[n]? = some (.str (smallW n)) := by rw [List.getElem?_map, List.getElem?_eq_getElem (by omega), smallW, List.getD_eq_getElem?_getD, List.getElem?_eq_getElem (by omega)]; rfl
  have hn : (n : Int) < 20 := by omega
  unfold encSS at hF
  rw [hlen] at hF
  refine fn_of (Z := Zs) ok44 fun σ hcl hbl => ?_
  simp -dsimp only [L44, ↓preB, postB, genB, ↓reduceIte, Nat.reduceEqDiff, Int.reduceToNat, Int.reduceLE, Int.reduceLT, Nat.reduceAdd, Nat.reduceLeDiff, intBin, strBin, unD, extractD, lit1, lit2, lit3, keptD, boxR, D.one, D.pub1, D.cells, splice, cutOwn]
  refine Fn.use hF ?_
  have hL : 0 < (smallL.map D.str).length := by rw [List.length_map, hlen]; decide
  generalize smallL.map D.str = L at hx hL
  simp -dsimp only [hx, hn, h, gate, decide_true, decide_false, Bool.not_true, Bool.not_false, bTT, bTF, bFT, bFF, ↓preB, postB, genB, ↓reduceIte, Nat.reduceEqDiff, Int.reduceToNat, Int.reduceLE, Int.reduceLT, Nat.reduceAdd, Nat.reduceLeDiff, intBin, strBin, unD, extractD, lit1, lit2, lit3, keptD, boxR, D.one, D.pub1, D.cells, splice, cutOwn]
  exact ⟨hL, Ret.is rfl⟩
theorem tens_c (n : Nat) (h1 : 2 ≤ n) (h : n < 10) : Fn Zs 45 [.int .i64 (n : Nat)] (.str (tensW (n - 2))) := by
  have hF := Fields_c tensT (by decide) (by decide +kernel) (by decide +kernel) (by decide +kernel)
  change Fn Zs 69 [.str tensT] (encSS tensL) at hF
  have hlen : tensL.length = 8 := by rw [tensL_is]; rfl
  have hx : (tensL.map D.str)[n - 2]? = some (.str (tensW (n - 2))) := by rw [List.getElem?_map, List.getElem?_eq_getElem (by omega), tensW, List.getD_eq_getElem?_getD, List.getElem?_eq_getElem (by omega)]; rfl
  have hw : IntKind.i64.wrap ((n : Int) - 2) = ((n - 2 : Nat) : Int) := by rw [wrap64_in (by omega) (by omega)]; omega
  have hn : ((n - 2 : Nat) : Int) < 8 := by omega
  have hn' : n - 2 < 8 := by omega
  unfold encSS at hF
  rw [hlen] at hF
  refine fn_of (Z := Zs) ok45 fun σ hcl hbl => ?_
  simp -dsimp only [L45, ↓preB, postB, genB, ↓reduceIte, Nat.reduceEqDiff, Int.reduceToNat, Int.reduceLE, Int.reduceLT, Nat.reduceAdd, Nat.reduceLeDiff, intBin, strBin, unD, extractD, lit1, lit2, lit3, keptD, boxR, D.one, D.pub1, D.cells, splice, cutOwn]
  refine Fn.use hF ?_
  have hL : 0 < (tensL.map D.str).length := by rw [List.length_map, hlen]; decide
  generalize tensL.map D.str = L at hx hL
  simp -dsimp only [hx, hn, hn', hw, gate, decide_true, decide_false, Bool.not_true, Bool.not_false, bTT, bTF, bFT, bFF, ↓preB, postB, genB, ↓reduceIte, Nat.reduceEqDiff, Int.reduceToNat, Int.reduceLE, Int.reduceLT, Nat.reduceAdd, Nat.reduceLeDiff, intBin, strBin, unD, extractD, lit1, lit2, lit3, keptD, boxR, D.one, D.pub1, D.cells, splice, cutOwn]
  exact ⟨hL, Ret.is rfl⟩
end Go.Proofs.YtapkbkniooleaaaDoor.Vs

/- numbers of YtapkbkniooleaaaDoor -/
namespace Go.Proofs.YtapkbkniooleaaaDoor.Vs
set_option linter.unusedVariables false
set_option linter.unusedSimpArgs false
set_option maxRecDepth 100000
def twoW (n : Nat) : ByteArray := if n < 20 then smallW n else if n % 10 = 0 then tensW (n / 10 - 2) else tensW (n / 10 - 2) ++ ⟨#[45]⟩ ++ smallW (n % 10)
def behW (s : ByteArray) (t : ByteArray) (n : Nat) : ByteArray := if n = 0 then s else if n < 100 then s ++ ⟨#[32, 97, 110, 100, 32]⟩ ++ t else s ++ ⟨#[32]⟩ ++ t
def threeW (n : Nat) : ByteArray := if n < 100 then twoW n else behW (smallW (n / 100) ++ ⟨#[32, 104, 117, 110, 100, 114, 101, 100]⟩) (twoW (n % 100)) (n % 100)
def sixW (n : Nat) : ByteArray := if n < 1000 then threeW n else behW (threeW (n / 1000) ++ ⟨#[32, 116, 104, 111, 117, 115, 97, 110, 100]⟩) (threeW (n % 1000)) (n % 1000)
theorem smallW_size (n : Nat) : (smallW n).size ≤ 9 := by
  have h : smallL.all (fun x => decide (x.size ≤ 9)) = true := by rw [smallL_is]; rfl
  unfold smallW
  rw [List.getD_eq_getElem?_getD]
  cases e : smallL[n]? with
  | none => exact Nat.zero_le _
  | some x => exact of_decide_eq_true (List.all_eq_true.1 h x (List.mem_of_getElem? e))
theorem tensW_size (n : Nat) : (tensW n).size ≤ 7 := by
  have h : tensL.all (fun x => decide (x.size ≤ 7)) = true := by rw [tensL_is]; rfl
  unfold tensW
  rw [List.getD_eq_getElem?_getD]
  cases e : tensL[n]? with
  | none => exact Nat.zero_le _
  | some x => exact of_decide_eq_true (List.all_eq_true.1 h x (List.mem_of_getElem? e))
theorem twoW_size (n : Nat) : (twoW n).size ≤ 30 := by
  have h1 := smallW_size n
  have h2 := smallW_size (n % 10)
  have h3 := tensW_size (n / 10 - 2)
  unfold twoW
  split
  · omega
  · split
    · omega
    · rw [ByteArray.size_append, ByteArray.size_append, show (⟨#[45]⟩ : ByteArray).size = 1 from rfl]; omega
theorem behW_size (s t : ByteArray) (n : Nat) : (behW s t n).size ≤ s.size + 5 + t.size := by
  unfold behW
  split
  · omega
  · split
    · rw [ByteArray.size_append, ByteArray.size_append, show (⟨#[32, 97, 110, 100, 32]⟩ : ByteArray).size = 5 from rfl]; omega
    · rw [ByteArray.size_append, ByteArray.size_append, show (⟨#[32]⟩ : ByteArray).size = 1 from rfl]; omega
theorem threeW_size (n : Nat) : (threeW n).size ≤ 60 := by
  have h1 := smallW_size (n / 100)
  have h2 := twoW_size n
  have h3 := twoW_size (n % 100)
  unfold threeW
  split
  · omega
  · refine Nat.le_trans (behW_size _ _ _) ?_
    rw [ByteArray.size_append, show (⟨#[32, 104, 117, 110, 100, 114, 101, 100]⟩ : ByteArray).size = 8 from rfl]; omega
theorem rem_nat (n m : Nat) : (n : Int).tmod (m : Int) = ((n % m : Nat) : Int) := by rw [Int.ofNat_tmod]
theorem quo_nat (n m : Nat) : (n : Int).tdiv (m : Int) = ((n / m : Nat) : Int) := by rw [Int.ofNat_tdiv]
theorem nz10 : ((10 : Int) = 0) = False := by simp
theorem nz100 : ((100 : Int) = 0) = False := by simp
theorem nz1000 : ((1000 : Int) = 0) = False := by simp
theorem spelt_2 (n : Nat) (h : n < 100) : Fn Zs 29 [.int .i64 (n : Nat)] (.str (twoW n)) := by
  refine fn_of (Z := Zs) ok29 fun σ hcl hbl => ?_
  simp -dsimp only [L29, ↓preB, postB, genB, ↓reduceIte, Nat.reduceEqDiff, Int.reduceToNat, Int.reduceLE, Int.reduceLT, Nat.reduceAdd, Nat.reduceLeDiff, intBin, strBin, unD, extractD, lit1, lit2, lit3, keptD, boxR, D.one, D.pub1, D.cells, splice, cutOwn]
  have hw : twoW n = if n < 20 then smallW n else if n % 10 = 0 then tensW (n / 10 - 2) else tensW (n / 10 - 2) ++ ⟨#[45]⟩ ++ smallW (n % 10) := rfl
  by_cases c1 : n < 20
  · have k1 : (n : Int) < 20 := by omega
    rw [if_pos c1] at hw
    simp -dsimp only [k1, gate, decide_true, decide_false, Bool.not_true, Bool.not_false, bTT, bTF, bFT, bFF, ↓preB, postB, genB, ↓reduceIte, Nat.reduceEqDiff, Int.reduceToNat, Int.reduceLE, Int.reduceLT, Nat.reduceAdd, Nat.reduceLeDiff, intBin, strBin, unD, extractD, lit1, lit2, lit3, keptD, boxR, D.one, D.pub1, D.cells, splice, cutOwn]
    refine Fn.use (small_c n c1) ?_
    simp -dsimp only [↓preB, postB, genB, ↓reduceIte, Nat.reduceEqDiff, Int.reduceToNat, Int.reduceLE, Int.reduceLT, Nat.reduceAdd, Nat.reduceLeDiff, intBin, strBin, unD, extractD, lit1, lit2, lit3, keptD, boxR, D.one, D.pub1, D.cells, splice, cutOwn]
    exact Ret.is (by rw [hw])
  · have k1 : ¬ (n : Int) < 20 := by omega
    have k2 : (n : Int) < 100 := by omega
    rw [if_neg c1] at hw
    have q1 : (n : Int).tdiv 10 = ((n / 10 : Nat) : Int) := quo_nat n 10
    have r1 : (n : Int).tmod 10 = ((n % 10 : Nat) : Int) := rem_nat n 10
    have wq : IntKind.i64.wrap ((n / 10 : Nat) : Int) = ((n / 10 : Nat) : Int) := wrap64_in (by omega) (by omega)
    by_cases c2 : n % 10 = 0
    · rw [if_pos c2] at hw
      have k3 : (((n % 10 : Nat) : Int) == 0) = true := by rw [c2]; rfl
      simp -dsimp only [k1, k2, k3, r1, q1, wq, nz10, if_false, gate, decide_true, decide_false, Bool.not_true, Bool.not_false, bTT, bTF, bFT, bFF, ↓preB, postB, genB, ↓reduceIte, Nat.reduceEqDiff, Int.reduceToNat, Int.reduceLE, Int.reduceLT, Nat.reduceAdd, Nat.reduceLeDiff, intBin, strBin, unD, extractD, lit1, lit2, lit3, keptD, boxR, D.one, D.pub1, D.cells, splice, cutOwn]
      refine Fn.use (tens_c (n / 10) (by omega) (by omega)) ?_
      simp -dsimp only [gate, decide_true, decide_false, Bool.not_true, Bool.not_false, bTT, bTF, bFT, bFF, ↓preB, postB, genB, ↓reduceIte, Nat.reduceEqDiff, Int.reduceToNat, Int.reduceLE, Int.reduceLT, Nat.reduceAdd, Nat.reduceLeDiff, intBin, strBin, unD, extractD, lit1, lit2, lit3, keptD, boxR, D.one, D.pub1, D.cells, splice, cutOwn]
      exact Ret.is (by rw [hw])
    · rw [if_neg c2] at hw
      have k3 : (((n % 10 : Nat) : Int) == 0) = false := by simp only [beq_eq_false_iff_ne, ne_eq]; omega
      simp -dsimp only [k1, k2, k3, r1, q1, wq, nz10, if_false, gate, decide_true, decide_false, Bool.not_true, Bool.not_false, bTT, bTF, bFT, bFF, ↓preB, postB, genB, ↓reduceIte, Nat.reduceEqDiff, Int.reduceToNat, Int.reduceLE, Int.reduceLT, Nat.reduceAdd, Nat.reduceLeDiff, intBin, strBin, unD, extractD, lit1, lit2, lit3, keptD, boxR, D.one, D.pub1, D.cells, splice, cutOwn]
      have z1 := tensW_size (n / 10 - 2)
      have z2 := smallW_size (n % 10)
      have z3 : (⟨#[45]⟩ : ByteArray).size = 1 := rfl
      refine Fn.use (tens_c (n / 10) (by omega) (by omega)) ?_
      simp -dsimp only [r1, nz10, if_false, gate, decide_true, decide_false, Bool.not_true, Bool.not_false, bTT, bTF, bFT, bFF, ↓preB, postB, genB, ↓reduceIte, Nat.reduceEqDiff, Int.reduceToNat, Int.reduceLE, Int.reduceLT, Nat.reduceAdd, Nat.reduceLeDiff, intBin, strBin, unD, extractD, lit1, lit2, lit3, keptD, boxR, D.one, D.pub1, D.cells, splice, cutOwn]
      refine ⟨by simp only [z3, big]; omega, ?_⟩
      refine Fn.use (small_c (n % 10) (by omega)) ?_
      simp -dsimp only [gate, decide_true, decide_false, Bool.not_true, Bool.not_false, bTT, bTF, bFT, bFF, ↓preB, postB, genB, ↓reduceIte, Nat.reduceEqDiff, Int.reduceToNat, Int.reduceLE, Int.reduceLT, Nat.reduceAdd, Nat.reduceLeDiff, intBin, strBin, unD, extractD, lit1, lit2, lit3, keptD, boxR, D.one, D.pub1, D.cells, splice, cutOwn]
      refine ⟨by rw [ByteArray.size_append]; simp only [z3, big]; omega, ?_⟩
      exact Ret.is (by rw [hw])
/-- What is put behind, of rests that spelt tells already. -/
theorem behind_of (s : ByteArray) (n : Nat) (t : ByteArray) (hs : s.size ≤ 1000) (ht : t.size ≤ 1000) (h : Fn Zs 29 [.int .i64 (n : Nat)] (.str t)) : Fn Zs 46 [.str s, .int .i64 (n : Nat)] (.str (behW s t n)) := by
  refine fn_of (Z := Zs) ok46 fun σ hcl hbl => ?_
  simp -dsimp only [L46, ↓preB, postB, genB, ↓reduceIte, Nat.reduceEqDiff, Int.reduceToNat, Int.reduceLE, Int.reduceLT, Nat.reduceAdd, Nat.reduceLeDiff, intBin, strBin, unD, extractD, lit1, lit2, lit3, keptD, boxR, D.one, D.pub1, D.cells, splice, cutOwn]
  have hw : behW s t n = if n = 0 then s else if n < 100 then s ++ ⟨#[32, 97, 110, 100, 32]⟩ ++ t else s ++ ⟨#[32]⟩ ++ t := rfl
  have z5 : (⟨#[32, 97, 110, 100, 32]⟩ : ByteArray).size = 5 := rfl
  have z1 : (⟨#[32]⟩ : ByteArray).size = 1 := rfl
  by_cases c0 : n = 0
  · rw [if_pos c0] at hw
    have k0 : ((n : Int) == 0) = true := by rw [c0]; rfl
    simp -dsimp only [k0, gate, decide_true, decide_false, Bool.not_true, Bool.not_false, bTT, bTF, bFT, bFF, ↓preB, postB, genB, ↓reduceIte, Nat.reduceEqDiff, Int.reduceToNat, Int.reduceLE, Int.reduceLT, Nat.reduceAdd, Nat.reduceLeDiff, intBin, strBin, unD, extractD, lit1, lit2, lit3, keptD, boxR, D.one, D.pub1, D.cells, splice, cutOwn]
    exact Ret.is (by rw [hw])
  rw [if_neg c0] at hw
  have k0 : ((n : Int) == 0) = false := by simp only [beq_eq_false_iff_ne, ne_eq]; omega
  by_cases c1 : n < 100
  · rw [if_pos c1] at hw
    have k1 : (n : Int) < 100 := by omega
    simp -dsimp only [k0, k1, gate, decide_true, decide_false, Bool.not_true, Bool.not_false, bTT, bTF, bFT, bFF, ↓preB, postB, genB, ↓reduceIte, Nat.reduceEqDiff, Int.reduceToNat, Int.reduceLE, Int.reduceLT, Nat.reduceAdd, Nat.reduceLeDiff, intBin, strBin, unD, extractD, lit1, lit2, lit3, keptD, boxR, D.one, D.pub1, D.cells, splice, cutOwn]
    refine ⟨by simp only [z5, big]; omega, ?_⟩
    refine Fn.use h ?_
    simp -dsimp only [gate, decide_true, decide_false, Bool.not_true, Bool.not_false, bTT, bTF, bFT, bFF, ↓preB, postB, genB, ↓reduceIte, Nat.reduceEqDiff, Int.reduceToNat, Int.reduceLE, Int.reduceLT, Nat.reduceAdd, Nat.reduceLeDiff, intBin, strBin, unD, extractD, lit1, lit2, lit3, keptD, boxR, D.one, D.pub1, D.cells, splice, cutOwn]
    refine ⟨by rw [ByteArray.size_append]; simp only [z5, big]; omega, ?_⟩
    exact Ret.is (by rw [hw])
  · rw [if_neg c1] at hw
    have k1 : ¬ (n : Int) < 100 := by omega
    simp -dsimp only [k0, k1, gate, decide_true, decide_false, Bool.not_true, Bool.not_false, bTT, bTF, bFT, bFF, ↓preB, postB, genB, ↓reduceIte, Nat.reduceEqDiff, Int.reduceToNat, Int.reduceLE, Int.reduceLT, Nat.reduceAdd, Nat.reduceLeDiff, intBin, strBin, unD, extractD, lit1, lit2, lit3, keptD, boxR, D.one, D.pub1, D.cells, splice, cutOwn]
    refine ⟨by simp only [z1, big]; omega, ?_⟩
    refine Fn.use h ?_
    simp -dsimp only [gate, decide_true, decide_false, Bool.not_true, Bool.not_false, bTT, bTF, bFT, bFF, ↓preB, postB, genB, ↓reduceIte, Nat.reduceEqDiff, Int.reduceToNat, Int.reduceLE, Int.reduceLT, Nat.reduceAdd, Nat.reduceLeDiff, intBin, strBin, unD, extractD, lit1, lit2, lit3, keptD, boxR, D.one, D.pub1, D.cells, splice, cutOwn]
    refine ⟨by rw [ByteArray.size_append]; simp only [z1, big]; omega, ?_⟩
    exact Ret.is (by rw [hw])
theorem spelt_3 (n : Nat) (h : n < 1000) : Fn Zs 29 [.int .i64 (n : Nat)] (.str (threeW n)) := by
  by_cases c0 : n < 100
  · have := spelt_2 n c0
    unfold threeW
    rwa [if_pos c0]
  refine fn_of (Z := Zs) ok29 fun σ hcl hbl => ?_
  simp -dsimp only [L29, ↓preB, postB, genB, ↓reduceIte, Nat.reduceEqDiff, Int.reduceToNat, Int.reduceLE, Int.reduceLT, Nat.reduceAdd, Nat.reduceLeDiff, intBin, strBin, unD, extractD, lit1, lit2, lit3, keptD, boxR, D.one, D.pub1, D.cells, splice, cutOwn]
  have hw : threeW n = if n < 100 then twoW n else behW (smallW (n / 100) ++ ⟨#[32, 104, 117, 110, 100, 114, 101, 100]⟩) (twoW (n % 100)) (n % 100) := rfl
  rw [if_neg c0] at hw
  have k1 : ¬ (n : Int) < 20 := by omega
  have k2 : ¬ (n : Int) < 100 := by omega
  have k3 : (n : Int) < 1000 := by omega
  have q1 : (n : Int).tdiv 100 = ((n / 100 : Nat) : Int) := quo_nat n 100
  have r1 : (n : Int).tmod 100 = ((n % 100 : Nat) : Int) := rem_nat n 100
  have wq : IntKind.i64.wrap ((n / 100 : Nat) : Int) = ((n / 100 : Nat) : Int) := wrap64_in (by omega) (by omega)
  have z := smallW_size (n / 100)
  have zt := twoW_size (n % 100)
  have z8 : (⟨#[32, 104, 117, 110, 100, 114, 101, 100]⟩ : ByteArray).size = 8 := rfl
  simp -dsimp only [k1, k2, k3, r1, q1, wq, nz100, if_false, gate, decide_true, decide_false, Bool.not_true, Bool.not_false, bTT, bTF, bFT, bFF, ↓preB, postB, genB, ↓reduceIte, Nat.reduceEqDiff, Int.reduceToNat, Int.reduceLE, Int.reduceLT, Nat.reduceAdd, Nat.reduceLeDiff, intBin, strBin, unD, extractD, lit1, lit2, lit3, keptD, boxR, D.one, D.pub1, D.cells, splice, cutOwn]
  refine Fn.use (small_c (n / 100) (by omega)) ?_
  simp -dsimp only [r1, nz100, if_false, gate, decide_true, decide_false, Bool.not_true, Bool.not_false, bTT, bTF, bFT, bFF, ↓preB, postB, genB, ↓reduceIte, Nat.reduceEqDiff, Int.reduceToNat, Int.reduceLE, Int.reduceLT, Nat.reduceAdd, Nat.reduceLeDiff, intBin, strBin, unD, extractD, lit1, lit2, lit3, keptD, boxR, D.one, D.pub1, D.cells, splice, cutOwn]
  refine ⟨by simp only [z8, big]; omega, ?_⟩
  refine Fn.use (behind_of _ (n % 100) _ (by rw [ByteArray.size_append]; omega) (by omega) (spelt_2 (n % 100) (by omega))) ?_
  simp -dsimp only [gate, decide_true, decide_false, Bool.not_true, Bool.not_false, bTT, bTF, bFT, bFF, ↓preB, postB, genB, ↓reduceIte, Nat.reduceEqDiff, Int.reduceToNat, Int.reduceLE, Int.reduceLT, Nat.reduceAdd, Nat.reduceLeDiff, intBin, strBin, unD, extractD, lit1, lit2, lit3, keptD, boxR, D.one, D.pub1, D.cells, splice, cutOwn]
  exact Ret.is (by rw [hw])
theorem spelt_6 (n : Nat) (h : n < 1000000) : Fn Zs 29 [.int .i64 (n : Nat)] (.str (sixW n)) := by
  by_cases c0 : n < 1000
  · have := spelt_3 n c0
    unfold sixW
    rwa [if_pos c0]
  refine fn_of (Z := Zs) ok29 fun σ hcl hbl => ?_
  simp -dsimp only [L29, ↓preB, postB, genB, ↓reduceIte, Nat.reduceEqDiff, Int.reduceToNat, Int.reduceLE, Int.reduceLT, Nat.reduceAdd, Nat.reduceLeDiff, intBin, strBin, unD, extractD, lit1, lit2, lit3, keptD, boxR, D.one, D.pub1, D.cells, splice, cutOwn]
  have hw : sixW n = if n < 1000 then threeW n else behW (threeW (n / 1000) ++ ⟨#[32, 116, 104, 111, 117, 115, 97, 110, 100]⟩) (threeW (n % 1000)) (n % 1000) := rfl
  rw [if_neg c0] at hw
  have k1 : ¬ (n : Int) < 20 := by omega
  have k2 : ¬ (n : Int) < 100 := by omega
  have k3 : ¬ (n : Int) < 1000 := by omega
  have q1 : (n : Int).tdiv 1000 = ((n / 1000 : Nat) : Int) := quo_nat n 1000
  have r1 : (n : Int).tmod 1000 = ((n % 1000 : Nat) : Int) := rem_nat n 1000
  have wq : IntKind.i64.wrap ((n / 1000 : Nat) : Int) = ((n / 1000 : Nat) : Int) := wrap64_in (by omega) (by omega)
  have z := threeW_size (n / 1000)
  have zt := threeW_size (n % 1000)
  have z9 : (⟨#[32, 116, 104, 111, 117, 115, 97, 110, 100]⟩ : ByteArray).size = 9 := rfl
  simp -dsimp only [k1, k2, k3, r1, q1, wq, nz1000, if_false, gate, decide_true, decide_false, Bool.not_true, Bool.not_false, bTT, bTF, bFT, bFF, ↓preB, postB, genB, ↓reduceIte, Nat.reduceEqDiff, Int.reduceToNat, Int.reduceLE, Int.reduceLT, Nat.reduceAdd, Nat.reduceLeDiff, intBin, strBin, unD, extractD, lit1, lit2, lit3, keptD, boxR, D.one, D.pub1, D.cells, splice, cutOwn]
  refine Fn.use (spelt_3 (n / 1000) (by omega)) ?_
  simp -dsimp only [r1, nz1000, if_false, gate, decide_true, decide_false, Bool.not_true, Bool.not_false, bTT, bTF, bFT, bFF, ↓preB, postB, genB, ↓reduceIte, Nat.reduceEqDiff, Int.reduceToNat, Int.reduceLE, Int.reduceLT, Nat.reduceAdd, Nat.reduceLeDiff, intBin, strBin, unD, extractD, lit1, lit2, lit3, keptD, boxR, D.one, D.pub1, D.cells, splice, cutOwn]
  refine ⟨by simp only [z9, big]; omega, ?_⟩
  refine Fn.use (behind_of _ (n % 1000) _ (by rw [ByteArray.size_append]; omega) (by omega) (spelt_3 (n % 1000) (by omega))) ?_
  simp -dsimp only [gate, decide_true, decide_false, Bool.not_true, Bool.not_false, bTT, bTF, bFT, bFF, ↓preB, postB, genB, ↓reduceIte, Nat.reduceEqDiff, Int.reduceToNat, Int.reduceLE, Int.reduceLT, Nat.reduceAdd, Nat.reduceLeDiff, intBin, strBin, unD, extractD, lit1, lit2, lit3, keptD, boxR, D.one, D.pub1, D.cells, splice, cutOwn]
  exact Ret.is (by rw [hw])
end Go.Proofs.YtapkbkniooleaaaDoor.Vs

/- numbers of YtapkbkniooleaaaDoor -/
namespace Go.Proofs.YtapkbkniooleaaaDoor.Vs
set_option linter.unusedVariables false
set_option linter.unusedSimpArgs false
set_option maxRecDepth 100000
theorem ab69 : aBuilt Zs 69 [(0, .str ⟨#[122, 101, 114, 111]⟩), (1, .str ⟨#[111, 110, 101]⟩), (2, .str ⟨#[116, 119, 111]⟩), (3, .str ⟨#[116, 104, 114, 101, 101]⟩), (4, .str ⟨#[102, 111, 117, 114]⟩), (5, .str ⟨#[102, 105, 118, 101]⟩), (6, .str ⟨#[115, 105, 120]⟩), (7, .str ⟨#[115, 101, 118, 101, 110]⟩), (8, .str ⟨#[101, 105, 103, 104, 116]⟩), (9, .str ⟨#[110, 105, 110, 101]⟩), (10, .str ⟨#[116, 101, 110]⟩), (11, .str ⟨#[101, 108, 101, 118, 101, 110]⟩), (12, .str ⟨#[116, 119, 101, 108, 118, 101]⟩), (13, .str ⟨#[116, 104, 105, 114, 116, 101, 101, 110]⟩), (14, .str ⟨#[102, 111, 117, 114, 116, 101, 101, 110]⟩), (15, .str ⟨#[102, 105, 102, 116, 101, 101, 110]⟩), (16, .str ⟨#[115, 105, 120, 116, 101, 101, 110]⟩), (17, .str ⟨#[115, 101, 118, 101, 110, 116, 101, 101, 110]⟩), (18, .str ⟨#[101, 105, 103, 104, 116, 101, 101, 110]⟩), (19, .str ⟨#[110, 105, 110, 101, 116, 101, 101, 110]⟩)] = some [.str ⟨#[122, 101, 114, 111]⟩, .str ⟨#[111, 110, 101]⟩, .str ⟨#[116, 119, 111]⟩, .str ⟨#[116, 104, 114, 101, 101]⟩, .str ⟨#[102, 111, 117, 114]⟩, .str ⟨#[102, 105, 118, 101]⟩, .str ⟨#[115, 105, 120]⟩, .str ⟨#[115, 101, 118, 101, 110]⟩, .str ⟨#[101, 105, 103, 104, 116]⟩, .str ⟨#[110, 105, 110, 101]⟩, .str ⟨#[116, 101, 110]⟩, .str ⟨#[101, 108, 101, 118, 101, 110]⟩, .str ⟨#[116, 119, 101, 108, 118, 101]⟩, .str ⟨#[116, 104, 105, 114, 116, 101, 101, 110]⟩, .str ⟨#[102, 111, 117, 114, 116, 101, 101, 110]⟩, .str ⟨#[102, 105, 102, 116, 101, 101, 110]⟩, .str ⟨#[115, 105, 120, 116, 101, 101, 110]⟩, .str ⟨#[115, 101, 118, 101, 110, 116, 101, 101, 110]⟩, .str ⟨#[101, 105, 103, 104, 116, 101, 101, 110]⟩, .str ⟨#[110, 105, 110, 101, 116, 101, 101, 110]⟩] := by rfl
theorem ab71 : aBuilt Zs 71 [(0, .str ⟨#[]⟩), (1, .str ⟨#[]⟩), (2, .str ⟨#[116, 119, 101, 110, 116, 121]⟩), (3, .str ⟨#[116, 104, 105, 114, 116, 121]⟩), (4, .str ⟨#[102, 111, 114, 116, 121]⟩), (5, .str ⟨#[102, 105, 102, 116, 121]⟩), (6, .str ⟨#[115, 105, 120, 116, 121]⟩), (7, .str ⟨#[115, 101, 118, 101, 110, 116, 121]⟩), (8, .str ⟨#[101, 105, 103, 104, 116, 121]⟩), (9, .str ⟨#[110, 105, 110, 101, 116, 121]⟩)] = some [.str ⟨#[]⟩, .str ⟨#[]⟩, .str ⟨#[116, 119, 101, 110, 116, 121]⟩, .str ⟨#[116, 104, 105, 114, 116, 121]⟩, .str ⟨#[102, 111, 114, 116, 121]⟩, .str ⟨#[102, 105, 102, 116, 121]⟩, .str ⟨#[115, 105, 120, 116, 121]⟩, .str ⟨#[115, 101, 118, 101, 110, 116, 121]⟩, .str ⟨#[101, 105, 103, 104, 116, 121]⟩, .str ⟨#[110, 105, 110, 101, 116, 121]⟩] := by rfl
def tensR : List ByteArray := ⟨#[]⟩ :: ⟨#[]⟩ :: tensL
theorem bel_arr {N : Nat} (l : List ByteArray) : Bel N (.agg (l.map D.str)) := .agg _ fun d hd => by
  obtain ⟨x, _, rfl⟩ := List.mem_map.1 hd
  exact .str _
theorem ares_1 {Z : Sys} {t a r : Nat} {e : TypeId} {cs : List D} {d : D} {env : Env} {g : Nat → Option AO} {i : TInfo} (hT : Z.T t = some i) (ha : env a = .ptr r 0) (hg : g r = some (.cells e cs)) (hp : pack i cs = some d) : ares Z [.cell a t] env g = some d := by
  simp only [ares, rvs, rv, hT, ha, hg, List.drop_zero, hp]
theorem smallR_c : Fn Zs 47 [] (.agg (smallL.map D.str)) := by
  have e : smallL.map D.str = [D.str ⟨#[122, 101, 114, 111]⟩, D.str ⟨#[111, 110, 101]⟩, D.str ⟨#[116, 119, 111]⟩, D.str ⟨#[116, 104, 114, 101, 101]⟩, D.str ⟨#[102, 111, 117, 114]⟩, D.str ⟨#[102, 105, 118, 101]⟩, D.str ⟨#[115, 105, 120]⟩, D.str ⟨#[115, 101, 118, 101, 110]⟩, D.str ⟨#[101, 105, 103, 104, 116]⟩, D.str ⟨#[110, 105, 110, 101]⟩, D.str ⟨#[116, 101, 110]⟩, D.str ⟨#[101, 108, 101, 118, 101, 110]⟩, D.str ⟨#[116, 119, 101, 108, 118, 101]⟩, D.str ⟨#[116, 104, 105, 114, 116, 101, 101, 110]⟩, D.str ⟨#[102, 111, 117, 114, 116, 101, 101, 110]⟩, D.str ⟨#[102, 105, 102, 116, 101, 101, 110]⟩, D.str ⟨#[115, 105, 120, 116, 101, 101, 110]⟩, D.str ⟨#[115, 101, 118, 101, 110, 116, 101, 101, 110]⟩, D.str ⟨#[101, 105, 103, 104, 116, 101, 101, 110]⟩, D.str ⟨#[110, 105, 110, 101, 116, 101, 101, 110]⟩] := by rw [smallL_is]; rfl
  refine fn_of (Z := Zs) ok47 fun σ hcl hbl => ?_
  simp -dsimp only [L47, ↓preB, postB, genB, ↓reduceIte, Nat.reduceEqDiff, Int.reduceToNat, Int.reduceLE, Int.reduceLT, Nat.reduceAdd, Nat.reduceLeDiff, intBin, strBin, unD, extractD, lit1, lit2, lit3, keptD, boxR, D.one, D.pub1, D.cells, splice, cutOwn]
  simp -dsimp only [ab69, Option.map_some, ↓preB, postB, genB, ↓reduceIte, Nat.reduceEqDiff, Int.reduceToNat, Int.reduceLE, Int.reduceLT, Nat.reduceAdd, Nat.reduceLeDiff, intBin, strBin, unD, extractD, lit1, lit2, lit3, keptD, boxR, D.one, D.pub1, D.cells, splice, cutOwn]
  rw [← e]
  have hlen : (smallL.map D.str).length = 20 := by rw [e]; rfl
  refine ⟨_, ares_1 (r := σ.next) tz69 (by simp [upd_apply]) (Heap.new_same _ _) (by rw [pack]; rfl) , Ret.isH (HLe.self_new _ hcl) hcl ?_ (bel_arr _)⟩
  exact congrArg D.agg (List.take_of_length_le (Nat.le_of_eq hlen))
theorem tensR_c : Fn Zs 48 [] (.agg (tensR.map D.str)) := by
  have e : tensR.map D.str = [D.str ⟨#[]⟩, D.str ⟨#[]⟩, D.str ⟨#[116, 119, 101, 110, 116, 121]⟩, D.str ⟨#[116, 104, 105, 114, 116, 121]⟩, D.str ⟨#[102, 111, 114, 116, 121]⟩, D.str ⟨#[102, 105, 102, 116, 121]⟩, D.str ⟨#[115, 105, 120, 116, 121]⟩, D.str ⟨#[115, 101, 118, 101, 110, 116, 121]⟩, D.str ⟨#[101, 105, 103, 104, 116, 121]⟩, D.str ⟨#[110, 105, 110, 101, 116, 121]⟩] := by unfold tensR; rw [tensL_is]; rfl
  refine fn_of (Z := Zs) ok48 fun σ hcl hbl => ?_
  simp -dsimp only [L48, ↓preB, postB, genB, ↓reduceIte, Nat.reduceEqDiff, Int.reduceToNat, Int.reduceLE, Int.reduceLT, Nat.reduceAdd, Nat.reduceLeDiff, intBin, strBin, unD, extractD, lit1, lit2, lit3, keptD, boxR, D.one, D.pub1, D.cells, splice, cutOwn]
  simp -dsimp only [ab71, Option.map_some, ↓preB, postB, genB, ↓reduceIte, Nat.reduceEqDiff, Int.reduceToNat, Int.reduceLE, Int.reduceLT, Nat.reduceAdd, Nat.reduceLeDiff, intBin, strBin, unD, extractD, lit1, lit2, lit3, keptD, boxR, D.one, D.pub1, D.cells, splice, cutOwn]
  rw [← e]
  have hlen : (tensR.map D.str).length = 10 := by rw [e]; rfl
  refine ⟨_, ares_1 (r := σ.next) tz71 (by simp [upd_apply]) (Heap.new_same _ _) (by rw [pack]; rfl) , Ret.isH (HLe.self_new _ hcl) hcl ?_ (bel_arr _)⟩
  exact congrArg D.agg (List.take_of_length_le (Nat.le_of_eq hlen))
theorem small_at (n : Nat) (h : n < 20) : (smallL.map D.str)[n]? = some (.str (smallW n)) := by
  have hlen : smallL.length = 20 := by rw [smallL_is]; rfl
  rw [List.getElem?_map, List.getElem?_eq_getElem (by omega), smallW, List.getD_eq_getElem?_getD, List.getElem?_eq_getElem (by omega)]; rfl
theorem tens_at (n : Nat) (h2 : 2 ≤ n) (h : n < 10) : (tensR.map D.str)[n]? = some (.str (tensW (n - 2))) := by
  have hlen : tensL.length = 8 := by rw [tensL_is]; rfl
  obtain ⟨k, rfl⟩ : ∃ k, n = k + 2 := ⟨n - 2, by omega⟩
  rw [tensR, List.map_cons, List.map_cons, List.getElem?_cons_succ, List.getElem?_cons_succ, Nat.add_sub_cancel]
  rw [List.getElem?_map, List.getElem?_eq_getElem (by omega), tensW, List.getD_eq_getElem?_getD, List.getElem?_eq_getElem (by omega)]; rfl
theorem spell_2 (n : Nat) (h : n < 100) : Fn Zs 30 [.int .i64 (n : Nat)] (.str (twoW n)) := by
  have hS := smallR_c
  have hT := tensR_c
  have lS : (smallL.map D.str).length = 20 := by rw [List.length_map, smallL_is]; rfl
  have lT : (tensR.map D.str).length = 10 := by rw [List.length_map, tensR, tensL_is]; rfl
  have aS := small_at
  have aT := tens_at
  generalize smallL.map D.str = S at *
  generalize tensR.map D.str = T at *
  refine fn_of (Z := Zs) ok30 fun σ hcl hbl => ?_
  simp -dsimp only [L30, ↓preB, postB, genB, ↓reduceIte, Nat.reduceEqDiff, Int.reduceToNat, Int.reduceLE, Int.reduceLT, Nat.reduceAdd, Nat.reduceLeDiff, intBin, strBin, unD, extractD, lit1, lit2, lit3, keptD, boxR, D.one, D.pub1, D.cells, splice, cutOwn]
  have hw : twoW n = if n < 20 then smallW n else if n % 10 = 0 then tensW (n / 10 - 2) else tensW (n / 10 - 2) ++ ⟨#[45]⟩ ++ smallW (n % 10) := rfl
  by_cases c1 : n < 20
  · have k1 : (n : Int) < 20 := by omega
    have a1 := aS n c1
    rw [if_pos c1] at hw
    simp -dsimp only [k1, gate, decide_true, decide_false, Bool.not_true, Bool.not_false, bTT, bTF, bFT, bFF, ↓preB, postB, genB, ↓reduceIte, Nat.reduceEqDiff, Int.reduceToNat, Int.reduceLE, Int.reduceLT, Nat.reduceAdd, Nat.reduceLeDiff, intBin, strBin, unD, extractD, lit1, lit2, lit3, keptD, boxR, D.one, D.pub1, D.cells, splice, cutOwn]
    refine Fn.use hS ?_
    simp -dsimp only [k1, a1, lS, gate, decide_true, decide_false, Bool.not_true, Bool.not_false, bTT, bTF, bFT, bFF, ↓preB, postB, genB, ↓reduceIte, Nat.reduceEqDiff, Int.reduceToNat, Int.reduceLE, Int.reduceLT, Nat.reduceAdd, Nat.reduceLeDiff, intBin, strBin, unD, extractD, lit1, lit2, lit3, keptD, boxR, D.one, D.pub1, D.cells, splice, cutOwn]
    exact ⟨c1, Ret.is (by rw [hw])⟩
  · have k1 : ¬ (n : Int) < 20 := by omega
    have k2 : (n : Int) < 100 := by omega
    rw [if_neg c1] at hw
    have q1 : (n : Int).tdiv 10 = ((n / 10 : Nat) : Int) := quo_nat n 10
    have r1 : (n : Int).tmod 10 = ((n % 10 : Nat) : Int) := rem_nat n 10
    have wq : IntKind.i64.wrap ((n / 10 : Nat) : Int) = ((n / 10 : Nat) : Int) := wrap64_in (by omega) (by omega)
    have a2 := aT (n / 10) (by omega) (by omega)
    have b2 : ((n / 10 : Nat) : Int) < 10 := by omega
    by_cases c2 : n % 10 = 0
    · rw [if_pos c2] at hw
      have k3 : (((n % 10 : Nat) : Int) == 0) = true := by rw [c2]; rfl
      simp -dsimp only [k1, k2, k3, r1, q1, wq, nz10, if_false, gate, decide_true, decide_false, Bool.not_true, Bool.not_false, bTT, bTF, bFT, bFF, ↓preB, postB, genB, ↓reduceIte, Nat.reduceEqDiff, Int.reduceToNat, Int.reduceLE, Int.reduceLT, Nat.reduceAdd, Nat.reduceLeDiff, intBin, strBin, unD, extractD, lit1, lit2, lit3, keptD, boxR, D.one, D.pub1, D.cells, splice, cutOwn]
      refine Fn.use hT ?_
      simp -dsimp only [q1, wq, nz10, if_false, a2, b2, lT, gate, decide_true, decide_false, Bool.not_true, Bool.not_false, bTT, bTF, bFT, bFF, ↓preB, postB, genB, ↓reduceIte, Nat.reduceEqDiff, Int.reduceToNat, Int.reduceLE, Int.reduceLT, Nat.reduceAdd, Nat.reduceLeDiff, intBin, strBin, unD, extractD, lit1, lit2, lit3, keptD, boxR, D.one, D.pub1, D.cells, splice, cutOwn]
      exact ⟨by omega, Ret.is (by rw [hw])⟩
    · rw [if_neg c2] at hw
      have k3 : (((n % 10 : Nat) : Int) == 0) = false := by simp only [beq_eq_false_iff_ne, ne_eq]; omega
      have z1 := tensW_size (n / 10 - 2)
      have z2 := smallW_size (n % 10)
      have z3 : (⟨#[45]⟩ : ByteArray).size = 1 := rfl
      have a3 := aS (n % 10) (by omega)
      have b3 : ((n % 10 : Nat) : Int) < 20 := by omega
      simp -dsimp only [k1, k2, k3, r1, q1, wq, nz10, if_false, gate, decide_true, decide_false, Bool.not_true, Bool.not_false, bTT, bTF, bFT, bFF, ↓preB, postB, genB, ↓reduceIte, Nat.reduceEqDiff, Int.reduceToNat, Int.reduceLE, Int.reduceLT, Nat.reduceAdd, Nat.reduceLeDiff, intBin, strBin, unD, extractD, lit1, lit2, lit3, keptD, boxR, D.one, D.pub1, D.cells, splice, cutOwn]
      refine draw_s ?_
      simp -dsimp only [q1, r1, wq, nz10, if_false, a2, b2, lT, gate, decide_true, decide_false, Bool.not_true, Bool.not_false, bTT, bTF, bFT, bFF, ↓preB, postB, genB, ↓reduceIte, Nat.reduceEqDiff, Int.reduceToNat, Int.reduceLE, Int.reduceLT, Nat.reduceAdd, Nat.reduceLeDiff, intBin, strBin, unD, extractD, lit1, lit2, lit3, keptD, boxR, D.one, D.pub1, D.cells, splice, cutOwn]
      refine Fn.useS hT ?_
      simp -dsimp only [q1, r1, wq, nz10, if_false, a2, b2, a3, b3, lS, lT, gate, decide_true, decide_false, Bool.not_true, Bool.not_false, bTT, bTF, bFT, bFF, ↓preB, postB, genB, ↓reduceIte, Nat.reduceEqDiff, Int.reduceToNat, Int.reduceLE, Int.reduceLT, Nat.reduceAdd, Nat.reduceLeDiff, intBin, strBin, unD, extractD, lit1, lit2, lit3, keptD, boxR, D.one, D.pub1, D.cells, splice, cutOwn]
      refine ⟨by omega, by simp only [z3, big]; omega, ?_⟩
      refine Fn.useS hS ?_
      simp -dsimp only [q1, r1, wq, nz10, if_false, a2, b2, a3, b3, lS, lT, gate, decide_true, decide_false, Bool.not_true, Bool.not_false, bTT, bTF, bFT, bFF, ↓preB, postB, genB, ↓reduceIte, Nat.reduceEqDiff, Int.reduceToNat, Int.reduceLE, Int.reduceLT, Nat.reduceAdd, Nat.reduceLeDiff, intBin, strBin, unD, extractD, lit1, lit2, lit3, keptD, boxR, D.one, D.pub1, D.cells, splice, cutOwn]
      refine ⟨by omega, by rw [ByteArray.size_append]; simp only [z3, big]; omega, ?_⟩
      exact Ret.is (by rw [hw])
theorem ba_assoc (a b c : ByteArray) : a ++ b ++ c = a ++ (b ++ c) := ByteArray.append_assoc
theorem spell_3 (n : Nat) (h : n < 1000) : Fn Zs 30 [.int .i64 (n : Nat)] (.str (threeW n)) := by
  by_cases c0 : n < 100
  · have := spell_2 n c0
    unfold threeW
    rwa [if_pos c0]
  have hS := smallR_c
  have lS : (smallL.map D.str).length = 20 := by rw [List.length_map, smallL_is]; rfl
  have a1 := small_at (n / 100) (by omega)
  generalize smallL.map D.str = S at *
  refine fn_of (Z := Zs) ok30 fun σ hcl hbl => ?_
  simp -dsimp only [L30, ↓preB, postB, genB, ↓reduceIte, Nat.reduceEqDiff, Int.reduceToNat, Int.reduceLE, Int.reduceLT, Nat.reduceAdd, Nat.reduceLeDiff, intBin, strBin, unD, extractD, lit1, lit2, lit3, keptD, boxR, D.one, D.pub1, D.cells, splice, cutOwn]
  have hw : threeW n = if n < 100 then twoW n else behW (smallW (n / 100) ++ ⟨#[32, 104, 117, 110, 100, 114, 101, 100]⟩) (twoW (n % 100)) (n % 100) := rfl
  rw [if_neg c0, behW] at hw
  have k1 : ¬ (n : Int) < 20 := by omega
  have k2 : ¬ (n : Int) < 100 := by omega
  have k3 : (n : Int) < 1000 := by omega
  have q1 : (n : Int).tdiv 100 = ((n / 100 : Nat) : Int) := quo_nat n 100
  have r1 : (n : Int).tmod 100 = ((n % 100 : Nat) : Int) := rem_nat n 100
  have wq : IntKind.i64.wrap ((n / 100 : Nat) : Int) = ((n / 100 : Nat) : Int) := wrap64_in (by omega) (by omega)
  have b1 : ((n / 100 : Nat) : Int) < 20 := by omega
  have z := smallW_size (n / 100)
  have zt := twoW_size (n % 100)
  have z8 : (⟨#[32, 104, 117, 110, 100, 114, 101, 100]⟩ : ByteArray).size = 8 := rfl
  have z5 : (⟨#[32, 97, 110, 100, 32]⟩ : ByteArray).size = 5 := rfl
  simp -dsimp only [k1, k2, k3, r1, q1, wq, nz100, if_false, gate, decide_true, decide_false, Bool.not_true, Bool.not_false, bTT, bTF, bFT, bFF, ↓preB, postB, genB, ↓reduceIte, Nat.reduceEqDiff, Int.reduceToNat, Int.reduceLE, Int.reduceLT, Nat.reduceAdd, Nat.reduceLeDiff, intBin, strBin, unD, extractD, lit1, lit2, lit3, keptD, boxR, D.one, D.pub1, D.cells, splice, cutOwn]
  refine Fn.use hS ?_
  by_cases c1 : n % 100 = 0
  · have k4 : ¬ (0 : Int) < ((n % 100 : Nat) : Int) := by omega
    rw [if_pos c1] at hw
    simp -dsimp only [r1, q1, wq, nz100, if_false, a1, b1, lS, k4, gate, decide_true, decide_false, Bool.not_true, Bool.not_false, bTT, bTF, bFT, bFF, ↓preB, postB, genB, ↓reduceIte, Nat.reduceEqDiff, Int.reduceToNat, Int.reduceLE, Int.reduceLT, Nat.reduceAdd, Nat.reduceLeDiff, intBin, strBin, unD, extractD, lit1, lit2, lit3, keptD, boxR, D.one, D.pub1, D.cells, splice, cutOwn]
    refine ⟨by omega, by simp only [z8, big]; omega, ?_⟩
    exact Ret.is (by rw [hw])
  · have k4 : (0 : Int) < ((n % 100 : Nat) : Int) := by omega
    rw [if_neg c1, if_pos (by omega), ba_assoc] at hw
    simp -dsimp only [r1, q1, wq, nz100, if_false, a1, b1, lS, k4, gate, decide_true, decide_false, Bool.not_true, Bool.not_false, bTT, bTF, bFT, bFF, ↓preB, postB, genB, ↓reduceIte, Nat.reduceEqDiff, Int.reduceToNat, Int.reduceLE, Int.reduceLT, Nat.reduceAdd, Nat.reduceLeDiff, intBin, strBin, unD, extractD, lit1, lit2, lit3, keptD, boxR, D.one, D.pub1, D.cells, splice, cutOwn]
    refine ⟨by omega, by simp only [z8, big]; omega, ?_⟩
    refine Fn.use (spell_2 (n % 100) (by omega)) ?_
    simp -dsimp only [gate, decide_true, decide_false, Bool.not_true, Bool.not_false, bTT, bTF, bFT, bFF, ↓preB, postB, genB, ↓reduceIte, Nat.reduceEqDiff, Int.reduceToNat, Int.reduceLE, Int.reduceLT, Nat.reduceAdd, Nat.reduceLeDiff, intBin, strBin, unD, extractD, lit1, lit2, lit3, keptD, boxR, D.one, D.pub1, D.cells, splice, cutOwn]
    refine ⟨by simp only [z5, big]; omega, by rw [ByteArray.size_append, ByteArray.size_append]; simp only [z5, z8, big]; omega, ?_⟩
    exact Ret.is (by rw [hw])
theorem spell_6 (n : Nat) (h : n < 1000000) : Fn Zs 30 [.int .i64 (n : Nat)] (.str (sixW n)) := by
  by_cases c0 : n < 1000
  · have := spell_3 n c0
    unfold sixW
    rwa [if_pos c0]
  refine fn_of (Z := Zs) ok30 fun σ hcl hbl => ?_
  simp -dsimp only [L30, ↓preB, postB, genB, ↓reduceIte, Nat.reduceEqDiff, Int.reduceToNat, Int.reduceLE, Int.reduceLT, Nat.reduceAdd, Nat.reduceLeDiff, intBin, strBin, unD, extractD, lit1, lit2, lit3, keptD, boxR, D.one, D.pub1, D.cells, splice, cutOwn]
  have hw : sixW n = if n < 1000 then threeW n else behW (threeW (n / 1000) ++ ⟨#[32, 116, 104, 111, 117, 115, 97, 110, 100]⟩) (threeW (n % 1000)) (n % 1000) := rfl
  rw [if_neg c0, behW] at hw
  have k1 : ¬ (n : Int) < 20 := by omega
  have k2 : ¬ (n : Int) < 100 := by omega
  have k3 : ¬ (n : Int) < 1000 := by omega
  have q1 : (n : Int).tdiv 1000 = ((n / 1000 : Nat) : Int) := quo_nat n 1000
  have r1 : (n : Int).tmod 1000 = ((n % 1000 : Nat) : Int) := rem_nat n 1000
  have wq : IntKind.i64.wrap ((n / 1000 : Nat) : Int) = ((n / 1000 : Nat) : Int) := wrap64_in (by omega) (by omega)
  have z := threeW_size (n / 1000)
  have zt := threeW_size (n % 1000)
  have z9 : (⟨#[32, 116, 104, 111, 117, 115, 97, 110, 100]⟩ : ByteArray).size = 9 := rfl
  have z5 : (⟨#[32, 97, 110, 100, 32]⟩ : ByteArray).size = 5 := rfl
  have z1 : (⟨#[32]⟩ : ByteArray).size = 1 := rfl
  simp -dsimp only [k1, k2, k3, r1, q1, wq, nz1000, if_false, gate, decide_true, decide_false, Bool.not_true, Bool.not_false, bTT, bTF, bFT, bFF, ↓preB, postB, genB, ↓reduceIte, Nat.reduceEqDiff, Int.reduceToNat, Int.reduceLE, Int.reduceLT, Nat.reduceAdd, Nat.reduceLeDiff, intBin, strBin, unD, extractD, lit1, lit2, lit3, keptD, boxR, D.one, D.pub1, D.cells, splice, cutOwn]
  refine Fn.use (spell_3 (n / 1000) (by omega)) ?_
  by_cases c1 : n % 1000 = 0
  · have k4 : ¬ (100 : Int) ≤ ((n % 1000 : Nat) : Int) := by omega
    have k5 : ¬ (0 : Int) < ((n % 1000 : Nat) : Int) := by omega
    rw [if_pos c1] at hw
    simp -dsimp only [r1, nz1000, if_false, k4, k5, gate, decide_true, decide_false, Bool.not_true, Bool.not_false, bTT, bTF, bFT, bFF, ↓preB, postB, genB, ↓reduceIte, Nat.reduceEqDiff, Int.reduceToNat, Int.reduceLE, Int.reduceLT, Nat.reduceAdd, Nat.reduceLeDiff, intBin, strBin, unD, extractD, lit1, lit2, lit3, keptD, boxR, D.one, D.pub1, D.cells, splice, cutOwn]
    refine ⟨by simp only [z9, big]; omega, ?_⟩
    exact Ret.is (by rw [hw])
  have k5 : (0 : Int) < ((n % 1000 : Nat) : Int) := by omega
  rw [if_neg c1] at hw
  by_cases c2 : n % 1000 < 100
  · have k4 : ¬ (100 : Int) ≤ ((n % 1000 : Nat) : Int) := by omega
    rw [if_pos c2, ba_assoc] at hw
    simp -dsimp only [r1, nz1000, if_false, k4, k5, gate, decide_true, decide_false, Bool.not_true, Bool.not_false, bTT, bTF, bFT, bFF, ↓preB, postB, genB, ↓reduceIte, Nat.reduceEqDiff, Int.reduceToNat, Int.reduceLE, Int.reduceLT, Nat.reduceAdd, Nat.reduceLeDiff, intBin, strBin, unD, extractD, lit1, lit2, lit3, keptD, boxR, D.one, D.pub1, D.cells, splice, cutOwn]
    refine ⟨by simp only [z9, big]; omega, ?_⟩
    refine Fn.use (spell_3 (n % 1000) (by omega)) ?_
    simp -dsimp only [r1, nz1000, if_false, k4, k5, gate, decide_true, decide_false, Bool.not_true, Bool.not_false, bTT, bTF, bFT, bFF, ↓preB, postB, genB, ↓reduceIte, Nat.reduceEqDiff, Int.reduceToNat, Int.reduceLE, Int.reduceLT, Nat.reduceAdd, Nat.reduceLeDiff, intBin, strBin, unD, extractD, lit1, lit2, lit3, keptD, boxR, D.one, D.pub1, D.cells, splice, cutOwn]
    refine ⟨by simp only [z5, big]; omega, by rw [ByteArray.size_append, ByteArray.size_append]; simp only [z5, z9, big]; omega, ?_⟩
    exact Ret.is (by rw [hw])
  · have k4 : (100 : Int) ≤ ((n % 1000 : Nat) : Int) := by omega
    rw [if_neg c2, ba_assoc] at hw
    simp -dsimp only [r1, nz1000, if_false, k4, k5, gate, decide_true, decide_false, Bool.not_true, Bool.not_false, bTT, bTF, bFT, bFF, ↓preB, postB, genB, ↓reduceIte, Nat.reduceEqDiff, Int.reduceToNat, Int.reduceLE, Int.reduceLT, Nat.reduceAdd, Nat.reduceLeDiff, intBin, strBin, unD, extractD, lit1, lit2, lit3, keptD, boxR, D.one, D.pub1, D.cells, splice, cutOwn]
    refine ⟨by simp only [z9, big]; omega, ?_⟩
    refine Fn.use (spell_3 (n % 1000) (by omega)) ?_
    simp -dsimp only [r1, nz1000, if_false, k4, k5, gate, decide_true, decide_false, Bool.not_true, Bool.not_false, bTT, bTF, bFT, bFF, ↓preB, postB, genB, ↓reduceIte, Nat.reduceEqDiff, Int.reduceToNat, Int.reduceLE, Int.reduceLT, Nat.reduceAdd, Nat.reduceLeDiff, intBin, strBin, unD, extractD, lit1, lit2, lit3, keptD, boxR, D.one, D.pub1, D.cells, splice, cutOwn]
    refine ⟨by simp only [z1, big]; omega, by rw [ByteArray.size_append, ByteArray.size_append]; simp only [z1, z9, big]; omega, ?_⟩
    exact Ret.is (by rw [hw])
end Go.Proofs.YtapkbkniooleaaaDoor.Vs
