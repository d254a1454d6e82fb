/- Facts on the types of the seat's program, written by dgen.py. -/
import Derived.Test.YtapkbkniooleaaaGreatDmDen
import Derived.Test.YtapkbkniooleaaaGreatProg
import Derived.KernelRfl
namespace Go.Proofs.YtapkbkniooleaaaGreat.Vs
set_option linter.unusedVariables false
set_option maxRecDepth 100000
theorem ti3 : TI Tryz.prog 3 = some ⟨.int .i64, 1, 8, .int .i64 0, false, false⟩ := by kernel_rfl
theorem ti4 : TI Tryz.prog 4 = some ⟨.bool, 1, 1, .bool false, false, false⟩ := by kernel_rfl
theorem ti5 : TI Tryz.prog 5 = some ⟨.int .u8, 1, 1, .int .u8 0, false, false⟩ := by kernel_rfl
theorem ti9 : TI Tryz.prog 9 = some ⟨.string, 1, 16, .string ⟨#[]⟩, false, false⟩ := by kernel_rfl
theorem ti22 : TI Tryz.prog 22 = some ⟨.slice 9, 1, 24, .slice none 0 0, false, false⟩ := by kernel_rfl
theorem ti23 : TI Tryz.prog 23 = some ⟨.struct #[{ name := "Words", type := 22, offset := 0, embedded := false, tag := "", pkgPath := "", byteOffset := 0 }, { name := "Short", type := 22, offset := 1, embedded := false, tag := "", pkgPath := "", byteOffset := 24 }, { name := "Front", type := 22, offset := 2, embedded := false, tag := "", pkgPath := "", byteOffset := 48 }, { name := "Back", type := 22, offset := 3, embedded := false, tag := "", pkgPath := "", byteOffset := 72 }], 4, 96, .agg #[.slice none 0 0, .slice none 0 0, .slice none 0 0, .slice none 0 0], false, false⟩ := by kernel_rfl
theorem ti24 : TI Tryz.prog 24 = some ⟨.struct #[{ name := "Words", type := 22, offset := 0, embedded := false, tag := "", pkgPath := "", byteOffset := 0 }, { name := "Short", type := 22, offset := 1, embedded := false, tag := "", pkgPath := "", byteOffset := 24 }, { name := "Front", type := 22, offset := 2, embedded := false, tag := "", pkgPath := "", byteOffset := 48 }, { name := "Back", type := 22, offset := 3, embedded := false, tag := "", pkgPath := "", byteOffset := 72 }], 4, 96, .agg #[.slice none 0 0, .slice none 0 0, .slice none 0 0, .slice none 0 0], false, false⟩ := by kernel_rfl
theorem ti27 : TI Tryz.prog 27 = some ⟨.slice 3, 1, 24, .slice none 0 0, false, false⟩ := by kernel_rfl
theorem ti28 : TI Tryz.prog 28 = some ⟨.int .i64, 1, 8, .int .i64 0, false, false⟩ := by kernel_rfl
theorem ti31 : TI Tryz.prog 31 = some ⟨.slice 4, 1, 24, .slice none 0 0, false, false⟩ := by kernel_rfl
theorem ti38 : TI Tryz.prog 38 = some ⟨.array 4 22, 4, 96, .agg #[.slice none 0 0, .slice none 0 0, .slice none 0 0, .slice none 0 0], false, false⟩ := by kernel_rfl
theorem ti39 : TI Tryz.prog 39 = some ⟨.slice 43, 1, 24, .slice none 0 0, false, false⟩ := by kernel_rfl
theorem ti42 : TI Tryz.prog 42 = some ⟨.struct #[{ name := "From", type := 3, offset := 0, embedded := false, tag := "", pkgPath := "", byteOffset := 0 }, { name := "To", type := 3, offset := 1, embedded := false, tag := "", pkgPath := "", byteOffset := 8 }, { name := "Kind", type := 3, offset := 2, embedded := false, tag := "", pkgPath := "", byteOffset := 16 }, { name := "Text", type := 9, offset := 3, embedded := false, tag := "", pkgPath := "", byteOffset := 24 }], 4, 40, .agg #[.int .i64 0, .int .i64 0, .int .i64 0, .string ⟨#[]⟩], false, false⟩ := by kernel_rfl
theorem ti43 : TI Tryz.prog 43 = some ⟨.struct #[{ name := "From", type := 3, offset := 0, embedded := false, tag := "", pkgPath := "", byteOffset := 0 }, { name := "To", type := 3, offset := 1, embedded := false, tag := "", pkgPath := "", byteOffset := 8 }, { name := "Kind", type := 3, offset := 2, embedded := false, tag := "", pkgPath := "", byteOffset := 16 }, { name := "Text", type := 9, offset := 3, embedded := false, tag := "", pkgPath := "", byteOffset := 24 }], 4, 40, .agg #[.int .i64 0, .int .i64 0, .int .i64 0, .string ⟨#[]⟩], false, false⟩ := by kernel_rfl
theorem ti46 : TI Tryz.prog 46 = some ⟨.slice 5, 1, 24, .slice none 0 0, false, false⟩ := by kernel_rfl
theorem ti48 : TI Tryz.prog 48 = some ⟨.func #[5] #[4] false, 1, 8, .nilFunc, false, false⟩ := by kernel_rfl
theorem ti54 : TI Tryz.prog 54 = some ⟨.slice 9, 1, 24, .slice none 0 0, false, false⟩ := by kernel_rfl
theorem ti55 : TI Tryz.prog 55 = some ⟨.struct #[], 0, 0, .agg #[], false, false⟩ := by kernel_rfl
theorem ti56 : TI Tryz.prog 56 = some ⟨.struct #[], 0, 0, .agg #[], false, false⟩ := by kernel_rfl
theorem ti57 : TI Tryz.prog 57 = some ⟨.struct #[], 0, 0, .agg #[], false, false⟩ := by kernel_rfl
theorem ti58 : TI Tryz.prog 58 = some ⟨.struct #[], 0, 0, .agg #[], false, false⟩ := by kernel_rfl
theorem ti59 : TI Tryz.prog 59 = some ⟨.slice 61, 1, 24, .slice none 0 0, false, false⟩ := by kernel_rfl
theorem ti60 : TI Tryz.prog 60 = some ⟨.interface #[("ablaut/token.length", 51)], 1, 16, .nilIface, true, false⟩ := by kernel_rfl
theorem ti61 : TI Tryz.prog 61 = some ⟨.interface #[("ablaut/token.length", 51)], 1, 16, .nilIface, true, false⟩ := by kernel_rfl
theorem ti68 : TI Tryz.prog 68 = some ⟨.slice 22, 1, 24, .slice none 0 0, false, false⟩ := by kernel_rfl
theorem ti71 : TI Tryz.prog 71 = some ⟨.func #[9] #[4] false, 1, 8, .nilFunc, false, false⟩ := by kernel_rfl
theorem ti73 : TI Tryz.prog 73 = some ⟨.func #[71] #[] false, 1, 8, .nilFunc, false, false⟩ := by kernel_rfl
theorem ti74 : TI Tryz.prog 74 = some ⟨.func #[71] #[] false, 1, 8, .nilFunc, false, false⟩ := by kernel_rfl
theorem ti78 : TI Tryz.prog 78 = some ⟨.func #[9, 9] #[4] false, 1, 8, .nilFunc, false, false⟩ := by kernel_rfl
theorem ti94 : TI Tryz.prog 94 = some ⟨.int .u64, 1, 8, .int .u64 0, false, false⟩ := by kernel_rfl
theorem ti96 : TI Tryz.prog 96 = some ⟨.int .i64, 1, 8, .int .i64 0, false, false⟩ := by kernel_rfl
theorem ti104 : TI Tryz.prog 104 = some ⟨.int .u32, 1, 4, .int .u32 0, false, false⟩ := by kernel_rfl
theorem ti106 : TI Tryz.prog 106 = some ⟨.int .u64, 1, 8, .int .u64 0, false, false⟩ := by kernel_rfl
theorem ti109 : TI Tryz.prog 109 = some ⟨.int .u64, 1, 8, .int .u64 0, false, false⟩ := by kernel_rfl
theorem ti113 : TI Tryz.prog 113 = some ⟨.pointer 3, 1, 8, .pointer none, false, false⟩ := by kernel_rfl
def tyL : List (Nat × TInfo) := [(3, ⟨.int .i64, 1, 8, .int .i64 0, false, false⟩),
  (4, ⟨.bool, 1, 1, .bool false, false, false⟩),
  (5, ⟨.int .u8, 1, 1, .int .u8 0, false, false⟩),
  (9, ⟨.string, 1, 16, .string ⟨#[]⟩, false, false⟩),
  (22, ⟨.slice 9, 1, 24, .slice none 0 0, false, false⟩),
  (23, ⟨.struct #[{ name := "Words", type := 22, offset := 0, embedded := false, tag := "", pkgPath := "", byteOffset := 0 }, { name := "Short", type := 22, offset := 1, embedded := false, tag := "", pkgPath := "", byteOffset := 24 }, { name := "Front", type := 22, offset := 2, embedded := false, tag := "", pkgPath := "", byteOffset := 48 }, { name := "Back", type := 22, offset := 3, embedded := false, tag := "", pkgPath := "", byteOffset := 72 }], 4, 96, .agg #[.slice none 0 0, .slice none 0 0, .slice none 0 0, .slice none 0 0], false, false⟩),
  (24, ⟨.struct #[{ name := "Words", type := 22, offset := 0, embedded := false, tag := "", pkgPath := "", byteOffset := 0 }, { name := "Short", type := 22, offset := 1, embedded := false, tag := "", pkgPath := "", byteOffset := 24 }, { name := "Front", type := 22, offset := 2, embedded := false, tag := "", pkgPath := "", byteOffset := 48 }, { name := "Back", type := 22, offset := 3, embedded := false, tag := "", pkgPath := "", byteOffset := 72 }], 4, 96, .agg #[.slice none 0 0, .slice none 0 0, .slice none 0 0, .slice none 0 0], false, false⟩),
  (27, ⟨.slice 3, 1, 24, .slice none 0 0, false, false⟩),
  (28, ⟨.int .i64, 1, 8, .int .i64 0, false, false⟩),
  (31, ⟨.slice 4, 1, 24, .slice none 0 0, false, false⟩),
  (38, ⟨.array 4 22, 4, 96, .agg #[.slice none 0 0, .slice none 0 0, .slice none 0 0, .slice none 0 0], false, false⟩),
  (39, ⟨.slice 43, 1, 24, .slice none 0 0, false, false⟩),
  (42, ⟨.struct #[{ name := "From", type := 3, offset := 0, embedded := false, tag := "", pkgPath := "", byteOffset := 0 }, { name := "To", type := 3, offset := 1, embedded := false, tag := "", pkgPath := "", byteOffset := 8 }, { name := "Kind", type := 3, offset := 2, embedded := false, tag := "", pkgPath := "", byteOffset := 16 }, { name := "Text", type := 9, offset := 3, embedded := false, tag := "", pkgPath := "", byteOffset := 24 }], 4, 40, .agg #[.int .i64 0, .int .i64 0, .int .i64 0, .string ⟨#[]⟩], false, false⟩),
  (43, ⟨.struct #[{ name := "From", type := 3, offset := 0, embedded := false, tag := "", pkgPath := "", byteOffset := 0 }, { name := "To", type := 3, offset := 1, embedded := false, tag := "", pkgPath := "", byteOffset := 8 }, { name := "Kind", type := 3, offset := 2, embedded := false, tag := "", pkgPath := "", byteOffset := 16 }, { name := "Text", type := 9, offset := 3, embedded := false, tag := "", pkgPath := "", byteOffset := 24 }], 4, 40, .agg #[.int .i64 0, .int .i64 0, .int .i64 0, .string ⟨#[]⟩], false, false⟩),
  (46, ⟨.slice 5, 1, 24, .slice none 0 0, false, false⟩),
  (48, ⟨.func #[5] #[4] false, 1, 8, .nilFunc, false, false⟩),
  (54, ⟨.slice 9, 1, 24, .slice none 0 0, false, false⟩),
  (55, ⟨.struct #[], 0, 0, .agg #[], false, false⟩),
  (56, ⟨.struct #[], 0, 0, .agg #[], false, false⟩),
  (57, ⟨.struct #[], 0, 0, .agg #[], false, false⟩),
  (58, ⟨.struct #[], 0, 0, .agg #[], false, false⟩),
  (59, ⟨.slice 61, 1, 24, .slice none 0 0, false, false⟩),
  (60, ⟨.interface #[("ablaut/token.length", 51)], 1, 16, .nilIface, true, false⟩),
  (61, ⟨.interface #[("ablaut/token.length", 51)], 1, 16, .nilIface, true, false⟩),
  (68, ⟨.slice 22, 1, 24, .slice none 0 0, false, false⟩),
  (71, ⟨.func #[9] #[4] false, 1, 8, .nilFunc, false, false⟩),
  (73, ⟨.func #[71] #[] false, 1, 8, .nilFunc, false, false⟩),
  (74, ⟨.func #[71] #[] false, 1, 8, .nilFunc, false, false⟩),
  (78, ⟨.func #[9, 9] #[4] false, 1, 8, .nilFunc, false, false⟩),
  (94, ⟨.int .u64, 1, 8, .int .u64 0, false, false⟩),
  (96, ⟨.int .i64, 1, 8, .int .i64 0, false, false⟩),
  (104, ⟨.int .u32, 1, 4, .int .u32 0, false, false⟩),
  (106, ⟨.int .u64, 1, 8, .int .u64 0, false, false⟩),
  (109, ⟨.int .u64, 1, 8, .int .u64 0, false, false⟩),
  (113, ⟨.pointer 3, 1, 8, .pointer none, false, false⟩)]
theorem tyL_ok : Alls (fun p : Nat × TInfo => TI Tryz.prog p.1 = some p.2) tyL := ⟨ti3, ⟨ti4, ⟨ti5, ⟨ti9, ⟨ti22, ⟨ti23, ⟨ti24, ⟨ti27, ⟨ti28, ⟨ti31, ⟨ti38, ⟨ti39, ⟨ti42, ⟨ti43, ⟨ti46, ⟨ti48, ⟨ti54, ⟨ti55, ⟨ti56, ⟨ti57, ⟨ti58, ⟨ti59, ⟨ti60, ⟨ti61, ⟨ti68, ⟨ti71, ⟨ti73, ⟨ti74, ⟨ti78, ⟨ti94, ⟨ti96, ⟨ti104, ⟨ti106, ⟨ti109, ⟨ti113, trivial⟩⟩⟩⟩⟩⟩⟩⟩⟩⟩⟩⟩⟩⟩⟩⟩⟩⟩⟩⟩⟩⟩⟩⟩⟩⟩⟩⟩⟩⟩⟩⟩⟩⟩⟩
def meL : List (Nat × String × Nat) := [(54, "ablaut/token.length", 114), (56, "ablaut/token.length", 118), (57, "ablaut/token.length", 120), (58, "ablaut/token.length", 121)]
theorem me54_114 : methB Tryz.prog 54 "ablaut/token.length" = some 114 := by kernel_rfl
theorem me56_118 : methB Tryz.prog 56 "ablaut/token.length" = some 118 := by kernel_rfl
theorem me57_120 : methB Tryz.prog 57 "ablaut/token.length" = some 120 := by kernel_rfl
theorem me58_121 : methB Tryz.prog 58 "ablaut/token.length" = some 121 := by kernel_rfl
theorem meL_ok : Alls (fun p : Nat × String × Nat => methB Tryz.prog p.1 p.2.1 = some p.2.2) meL := ⟨me54_114, ⟨me56_118, ⟨me57_120, ⟨me58_121, trivial⟩⟩⟩⟩
noncomputable def Zs : Sys := sysOfM Tryz.prog tyL tyL_ok meL meL_ok
theorem zm54_114 : Zs.M 54 "ablaut/token.length" = some 114 := by kernel_rfl
theorem zm56_118 : Zs.M 56 "ablaut/token.length" = some 118 := by kernel_rfl
theorem zm57_120 : Zs.M 57 "ablaut/token.length" = some 120 := by kernel_rfl
theorem zm58_121 : Zs.M 58 "ablaut/token.length" = some 121 := by kernel_rfl
theorem tz3 : Zs.T 3 = some ⟨.int .i64, 1, 8, .int .i64 0, false, false⟩ := by kernel_rfl
theorem tz4 : Zs.T 4 = some ⟨.bool, 1, 1, .bool false, false, false⟩ := by kernel_rfl
theorem tz5 : Zs.T 5 = some ⟨.int .u8, 1, 1, .int .u8 0, false, false⟩ := by kernel_rfl
theorem tz9 : Zs.T 9 = some ⟨.string, 1, 16, .string ⟨#[]⟩, false, false⟩ := by kernel_rfl
theorem tz22 : Zs.T 22 = some ⟨.slice 9, 1, 24, .slice none 0 0, false, false⟩ := by kernel_rfl
theorem tz23 : Zs.T 23 = some ⟨.struct #[{ name := "Words", type := 22, offset := 0, embedded := false, tag := "", pkgPath := "", byteOffset := 0 }, { name := "Short", type := 22, offset := 1, embedded := false, tag := "", pkgPath := "", byteOffset := 24 }, { name := "Front", type := 22, offset := 2, embedded := false, tag := "", pkgPath := "", byteOffset := 48 }, { name := "Back", type := 22, offset := 3, embedded := false, tag := "", pkgPath := "", byteOffset := 72 }], 4, 96, .agg #[.slice none 0 0, .slice none 0 0, .slice none 0 0, .slice none 0 0], false, false⟩ := by kernel_rfl
theorem tz24 : Zs.T 24 = some ⟨.struct #[{ name := "Words", type := 22, offset := 0, embedded := false, tag := "", pkgPath := "", byteOffset := 0 }, { name := "Short", type := 22, offset := 1, embedded := false, tag := "", pkgPath := "", byteOffset := 24 }, { name := "Front", type := 22, offset := 2, embedded := false, tag := "", pkgPath := "", byteOffset := 48 }, { name := "Back", type := 22, offset := 3, embedded := false, tag := "", pkgPath := "", byteOffset := 72 }], 4, 96, .agg #[.slice none 0 0, .slice none 0 0, .slice none 0 0, .slice none 0 0], false, false⟩ := by kernel_rfl
theorem tz27 : Zs.T 27 = some ⟨.slice 3, 1, 24, .slice none 0 0, false, false⟩ := by kernel_rfl
theorem tz28 : Zs.T 28 = some ⟨.int .i64, 1, 8, .int .i64 0, false, false⟩ := by kernel_rfl
theorem tz31 : Zs.T 31 = some ⟨.slice 4, 1, 24, .slice none 0 0, false, false⟩ := by kernel_rfl
theorem tz38 : Zs.T 38 = some ⟨.array 4 22, 4, 96, .agg #[.slice none 0 0, .slice none 0 0, .slice none 0 0, .slice none 0 0], false, false⟩ := by kernel_rfl
theorem tz39 : Zs.T 39 = some ⟨.slice 43, 1, 24, .slice none 0 0, false, false⟩ := by kernel_rfl
theorem tz42 : Zs.T 42 = some ⟨.struct #[{ name := "From", type := 3, offset := 0, embedded := false, tag := "", pkgPath := "", byteOffset := 0 }, { name := "To", type := 3, offset := 1, embedded := false, tag := "", pkgPath := "", byteOffset := 8 }, { name := "Kind", type := 3, offset := 2, embedded := false, tag := "", pkgPath := "", byteOffset := 16 }, { name := "Text", type := 9, offset := 3, embedded := false, tag := "", pkgPath := "", byteOffset := 24 }], 4, 40, .agg #[.int .i64 0, .int .i64 0, .int .i64 0, .string ⟨#[]⟩], false, false⟩ := by kernel_rfl
theorem tz43 : Zs.T 43 = some ⟨.struct #[{ name := "From", type := 3, offset := 0, embedded := false, tag := "", pkgPath := "", byteOffset := 0 }, { name := "To", type := 3, offset := 1, embedded := false, tag := "", pkgPath := "", byteOffset := 8 }, { name := "Kind", type := 3, offset := 2, embedded := false, tag := "", pkgPath := "", byteOffset := 16 }, { name := "Text", type := 9, offset := 3, embedded := false, tag := "", pkgPath := "", byteOffset := 24 }], 4, 40, .agg #[.int .i64 0, .int .i64 0, .int .i64 0, .string ⟨#[]⟩], false, false⟩ := by kernel_rfl
theorem tz46 : Zs.T 46 = some ⟨.slice 5, 1, 24, .slice none 0 0, false, false⟩ := by kernel_rfl
theorem tz48 : Zs.T 48 = some ⟨.func #[5] #[4] false, 1, 8, .nilFunc, false, false⟩ := by kernel_rfl
theorem tz54 : Zs.T 54 = some ⟨.slice 9, 1, 24, .slice none 0 0, false, false⟩ := by kernel_rfl
theorem tz55 : Zs.T 55 = some ⟨.struct #[], 0, 0, .agg #[], false, false⟩ := by kernel_rfl
theorem tz56 : Zs.T 56 = some ⟨.struct #[], 0, 0, .agg #[], false, false⟩ := by kernel_rfl
theorem tz57 : Zs.T 57 = some ⟨.struct #[], 0, 0, .agg #[], false, false⟩ := by kernel_rfl
theorem tz58 : Zs.T 58 = some ⟨.struct #[], 0, 0, .agg #[], false, false⟩ := by kernel_rfl
theorem tz59 : Zs.T 59 = some ⟨.slice 61, 1, 24, .slice none 0 0, false, false⟩ := by kernel_rfl
theorem tz60 : Zs.T 60 = some ⟨.interface #[("ablaut/token.length", 51)], 1, 16, .nilIface, true, false⟩ := by kernel_rfl
theorem tz61 : Zs.T 61 = some ⟨.interface #[("ablaut/token.length", 51)], 1, 16, .nilIface, true, false⟩ := by kernel_rfl
theorem tz68 : Zs.T 68 = some ⟨.slice 22, 1, 24, .slice none 0 0, false, false⟩ := by kernel_rfl
theorem tz71 : Zs.T 71 = some ⟨.func #[9] #[4] false, 1, 8, .nilFunc, false, false⟩ := by kernel_rfl
theorem tz73 : Zs.T 73 = some ⟨.func #[71] #[] false, 1, 8, .nilFunc, false, false⟩ := by kernel_rfl
theorem tz74 : Zs.T 74 = some ⟨.func #[71] #[] false, 1, 8, .nilFunc, false, false⟩ := by kernel_rfl
theorem tz78 : Zs.T 78 = some ⟨.func #[9, 9] #[4] false, 1, 8, .nilFunc, false, false⟩ := by kernel_rfl
theorem tz94 : Zs.T 94 = some ⟨.int .u64, 1, 8, .int .u64 0, false, false⟩ := by kernel_rfl
theorem tz96 : Zs.T 96 = some ⟨.int .i64, 1, 8, .int .i64 0, false, false⟩ := by kernel_rfl
theorem tz104 : Zs.T 104 = some ⟨.int .u32, 1, 4, .int .u32 0, false, false⟩ := by kernel_rfl
theorem tz106 : Zs.T 106 = some ⟨.int .u64, 1, 8, .int .u64 0, false, false⟩ := by kernel_rfl
theorem tz109 : Zs.T 109 = some ⟨.int .u64, 1, 8, .int .u64 0, false, false⟩ := by kernel_rfl
theorem tz113 : Zs.T 113 = some ⟨.pointer 3, 1, 8, .pointer none, false, false⟩ := by kernel_rfl
end Go.Proofs.YtapkbkniooleaaaGreat.Vs
