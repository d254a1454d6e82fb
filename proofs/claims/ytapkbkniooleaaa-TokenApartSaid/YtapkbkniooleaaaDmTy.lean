/- Facts on the types of the seat's program, written by dgen.py. -/
import Derived.Test.YtapkbkniooleaaaDmDen
import Derived.Test.YtapkbkniooleaaaProg
import Derived.KernelRfl
namespace Go.Proofs.Ytapkbkniooleaaa.Vs
set_option linter.unusedVariables false
set_option maxRecDepth 100000
theorem ti3 : TI Try.prog 3 = some ⟨.int .i64, 1, 8, .int .i64 0, false, false⟩ := by kernel_rfl
theorem ti4 : TI Try.prog 4 = some ⟨.bool, 1, 1, .bool false, false, false⟩ := by kernel_rfl
theorem ti5 : TI Try.prog 5 = some ⟨.int .u8, 1, 1, .int .u8 0, false, false⟩ := by kernel_rfl
theorem ti9 : TI Try.prog 9 = some ⟨.string, 1, 16, .string ⟨#[]⟩, false, false⟩ := by kernel_rfl
theorem ti22 : TI Try.prog 22 = some ⟨.slice 9, 1, 24, .slice none 0 0, false, false⟩ := by kernel_rfl
theorem ti23 : TI Try.prog 23 = some ⟨.struct #[{ name := "Words", type := 22, offset := 0, embedded := false, tag := "", pkgPath := "", byteOffset := 0 }, { name := "Short", type := 22, offset := 1, embedded := false, tag := "", pkgPath := "", byteOffset := 24 }, { name := "Front", type := 22, offset := 2, embedded := false, tag := "", pkgPath := "", byteOffset := 48 }, { name := "Back", type := 22, offset := 3, embedded := false, tag := "", pkgPath := "", byteOffset := 72 }], 4, 96, .agg #[.slice none 0 0, .slice none 0 0, .slice none 0 0, .slice none 0 0], false, false⟩ := by kernel_rfl
theorem ti24 : TI Try.prog 24 = some ⟨.struct #[{ name := "Words", type := 22, offset := 0, embedded := false, tag := "", pkgPath := "", byteOffset := 0 }, { name := "Short", type := 22, offset := 1, embedded := false, tag := "", pkgPath := "", byteOffset := 24 }, { name := "Front", type := 22, offset := 2, embedded := false, tag := "", pkgPath := "", byteOffset := 48 }, { name := "Back", type := 22, offset := 3, embedded := false, tag := "", pkgPath := "", byteOffset := 72 }], 4, 96, .agg #[.slice none 0 0, .slice none 0 0, .slice none 0 0, .slice none 0 0], false, false⟩ := by kernel_rfl
theorem ti27 : TI Try.prog 27 = some ⟨.slice 35, 1, 24, .slice none 0 0, false, false⟩ := by kernel_rfl
theorem ti28 : TI Try.prog 28 = some ⟨.int .i64, 1, 8, .int .i64 0, false, false⟩ := by kernel_rfl
theorem ti34 : TI Try.prog 34 = some ⟨.struct #[{ name := "From", type := 3, offset := 0, embedded := false, tag := "", pkgPath := "", byteOffset := 0 }, { name := "To", type := 3, offset := 1, embedded := false, tag := "", pkgPath := "", byteOffset := 8 }, { name := "Kind", type := 3, offset := 2, embedded := false, tag := "", pkgPath := "", byteOffset := 16 }, { name := "Text", type := 9, offset := 3, embedded := false, tag := "", pkgPath := "", byteOffset := 24 }], 4, 40, .agg #[.int .i64 0, .int .i64 0, .int .i64 0, .string ⟨#[]⟩], false, false⟩ := by kernel_rfl
theorem ti35 : TI Try.prog 35 = some ⟨.struct #[{ name := "From", type := 3, offset := 0, embedded := false, tag := "", pkgPath := "", byteOffset := 0 }, { name := "To", type := 3, offset := 1, embedded := false, tag := "", pkgPath := "", byteOffset := 8 }, { name := "Kind", type := 3, offset := 2, embedded := false, tag := "", pkgPath := "", byteOffset := 16 }, { name := "Text", type := 9, offset := 3, embedded := false, tag := "", pkgPath := "", byteOffset := 24 }], 4, 40, .agg #[.int .i64 0, .int .i64 0, .int .i64 0, .string ⟨#[]⟩], false, false⟩ := by kernel_rfl
theorem ti39 : TI Try.prog 39 = some ⟨.array 4 22, 4, 96, .agg #[.slice none 0 0, .slice none 0 0, .slice none 0 0, .slice none 0 0], false, false⟩ := by kernel_rfl
theorem ti40 : TI Try.prog 40 = some ⟨.slice 3, 1, 24, .slice none 0 0, false, false⟩ := by kernel_rfl
theorem ti43 : TI Try.prog 43 = some ⟨.slice 9, 1, 24, .slice none 0 0, false, false⟩ := by kernel_rfl
theorem ti44 : TI Try.prog 44 = some ⟨.struct #[], 0, 0, .agg #[], false, false⟩ := by kernel_rfl
theorem ti45 : TI Try.prog 45 = some ⟨.struct #[], 0, 0, .agg #[], false, false⟩ := by kernel_rfl
theorem ti46 : TI Try.prog 46 = some ⟨.struct #[], 0, 0, .agg #[], false, false⟩ := by kernel_rfl
theorem ti47 : TI Try.prog 47 = some ⟨.struct #[], 0, 0, .agg #[], false, false⟩ := by kernel_rfl
theorem ti48 : TI Try.prog 48 = some ⟨.slice 51, 1, 24, .slice none 0 0, false, false⟩ := by kernel_rfl
theorem ti50 : TI Try.prog 50 = some ⟨.interface #[("ablaut/token.length", 52)], 1, 16, .nilIface, true, false⟩ := by kernel_rfl
theorem ti51 : TI Try.prog 51 = some ⟨.interface #[("ablaut/token.length", 52)], 1, 16, .nilIface, true, false⟩ := by kernel_rfl
theorem ti56 : TI Try.prog 56 = some ⟨.slice 22, 1, 24, .slice none 0 0, false, false⟩ := by kernel_rfl
theorem ti59 : TI Try.prog 59 = some ⟨.func #[9] #[4] false, 1, 8, .nilFunc, false, false⟩ := by kernel_rfl
theorem ti61 : TI Try.prog 61 = some ⟨.func #[59] #[] false, 1, 8, .nilFunc, false, false⟩ := by kernel_rfl
theorem ti62 : TI Try.prog 62 = some ⟨.func #[59] #[] false, 1, 8, .nilFunc, false, false⟩ := by kernel_rfl
theorem ti66 : TI Try.prog 66 = some ⟨.pointer 69, 1, 8, .pointer none, false, false⟩ := by kernel_rfl
theorem ti67 : TI Try.prog 67 = some ⟨.slice 5, 1, 24, .slice none 0 0, false, false⟩ := by kernel_rfl
theorem ti68 : TI Try.prog 68 = some ⟨.struct #[{ name := "addr", type := 66, offset := 0, embedded := false, tag := "", pkgPath := "strings", byteOffset := 0 }, { name := "buf", type := 67, offset := 1, embedded := false, tag := "", pkgPath := "strings", byteOffset := 8 }], 2, 32, .agg #[.pointer none, .slice none 0 0], false, false⟩ := by kernel_rfl
theorem ti69 : TI Try.prog 69 = some ⟨.struct #[{ name := "addr", type := 66, offset := 0, embedded := false, tag := "", pkgPath := "strings", byteOffset := 0 }, { name := "buf", type := 67, offset := 1, embedded := false, tag := "", pkgPath := "strings", byteOffset := 8 }], 2, 32, .agg #[.pointer none, .slice none 0 0], false, false⟩ := by kernel_rfl
theorem ti78 : TI Try.prog 78 = some ⟨.func #[9, 9] #[4] false, 1, 8, .nilFunc, false, false⟩ := by kernel_rfl
theorem ti86 : TI Try.prog 86 = some ⟨.pointer 5, 1, 8, .pointer none, false, false⟩ := by kernel_rfl
theorem ti95 : TI Try.prog 95 = some ⟨.int .u64, 1, 8, .int .u64 0, false, false⟩ := by kernel_rfl
theorem ti96 : TI Try.prog 96 = some ⟨.unsafePointer, 1, 8, .pointer none, false, false⟩ := by kernel_rfl
theorem ti99 : TI Try.prog 99 = some ⟨.int .i64, 1, 8, .int .i64 0, false, false⟩ := by kernel_rfl
theorem ti107 : TI Try.prog 107 = some ⟨.int .u32, 1, 4, .int .u32 0, false, false⟩ := by kernel_rfl
theorem ti109 : TI Try.prog 109 = some ⟨.int .u64, 1, 8, .int .u64 0, false, false⟩ := by kernel_rfl
theorem ti111 : TI Try.prog 111 = some ⟨.int .u64, 1, 8, .int .u64 0, false, false⟩ := by kernel_rfl
theorem ti115 : TI Try.prog 115 = some ⟨.pointer 3, 1, 8, .pointer none, false, false⟩ := by kernel_rfl
def tyL : List (Nat × TInfo) := [(3, ⟨.int .i64, 1, 8, .int .i64 0, false, false⟩),
  (4, ⟨.bool, 1, 1, .bool false, false, false⟩),
  (5, ⟨.int .u8, 1, 1, .int .u8 0, false, false⟩),
  (9, ⟨.string, 1, 16, .string ⟨#[]⟩, false, false⟩),
  (22, ⟨.slice 9, 1, 24, .slice none 0 0, false, false⟩),
  (23, ⟨.struct #[{ name := "Words", type := 22, offset := 0, embedded := false, tag := "", pkgPath := "", byteOffset := 0 }, { name := "Short", type := 22, offset := 1, embedded := false, tag := "", pkgPath := "", byteOffset := 24 }, { name := "Front", type := 22, offset := 2, embedded := false, tag := "", pkgPath := "", byteOffset := 48 }, { name := "Back", type := 22, offset := 3, embedded := false, tag := "", pkgPath := "", byteOffset := 72 }], 4, 96, .agg #[.slice none 0 0, .slice none 0 0, .slice none 0 0, .slice none 0 0], false, false⟩),
  (24, ⟨.struct #[{ name := "Words", type := 22, offset := 0, embedded := false, tag := "", pkgPath := "", byteOffset := 0 }, { name := "Short", type := 22, offset := 1, embedded := false, tag := "", pkgPath := "", byteOffset := 24 }, { name := "Front", type := 22, offset := 2, embedded := false, tag := "", pkgPath := "", byteOffset := 48 }, { name := "Back", type := 22, offset := 3, embedded := false, tag := "", pkgPath := "", byteOffset := 72 }], 4, 96, .agg #[.slice none 0 0, .slice none 0 0, .slice none 0 0, .slice none 0 0], false, false⟩),
  (27, ⟨.slice 35, 1, 24, .slice none 0 0, false, false⟩),
  (28, ⟨.int .i64, 1, 8, .int .i64 0, false, false⟩),
  (34, ⟨.struct #[{ name := "From", type := 3, offset := 0, embedded := false, tag := "", pkgPath := "", byteOffset := 0 }, { name := "To", type := 3, offset := 1, embedded := false, tag := "", pkgPath := "", byteOffset := 8 }, { name := "Kind", type := 3, offset := 2, embedded := false, tag := "", pkgPath := "", byteOffset := 16 }, { name := "Text", type := 9, offset := 3, embedded := false, tag := "", pkgPath := "", byteOffset := 24 }], 4, 40, .agg #[.int .i64 0, .int .i64 0, .int .i64 0, .string ⟨#[]⟩], false, false⟩),
  (35, ⟨.struct #[{ name := "From", type := 3, offset := 0, embedded := false, tag := "", pkgPath := "", byteOffset := 0 }, { name := "To", type := 3, offset := 1, embedded := false, tag := "", pkgPath := "", byteOffset := 8 }, { name := "Kind", type := 3, offset := 2, embedded := false, tag := "", pkgPath := "", byteOffset := 16 }, { name := "Text", type := 9, offset := 3, embedded := false, tag := "", pkgPath := "", byteOffset := 24 }], 4, 40, .agg #[.int .i64 0, .int .i64 0, .int .i64 0, .string ⟨#[]⟩], false, false⟩),
  (39, ⟨.array 4 22, 4, 96, .agg #[.slice none 0 0, .slice none 0 0, .slice none 0 0, .slice none 0 0], false, false⟩),
  (40, ⟨.slice 3, 1, 24, .slice none 0 0, false, false⟩),
  (43, ⟨.slice 9, 1, 24, .slice none 0 0, false, false⟩),
  (44, ⟨.struct #[], 0, 0, .agg #[], false, false⟩),
  (45, ⟨.struct #[], 0, 0, .agg #[], false, false⟩),
  (46, ⟨.struct #[], 0, 0, .agg #[], false, false⟩),
  (47, ⟨.struct #[], 0, 0, .agg #[], false, false⟩),
  (48, ⟨.slice 51, 1, 24, .slice none 0 0, false, false⟩),
  (50, ⟨.interface #[("ablaut/token.length", 52)], 1, 16, .nilIface, true, false⟩),
  (51, ⟨.interface #[("ablaut/token.length", 52)], 1, 16, .nilIface, true, false⟩),
  (56, ⟨.slice 22, 1, 24, .slice none 0 0, false, false⟩),
  (59, ⟨.func #[9] #[4] false, 1, 8, .nilFunc, false, false⟩),
  (61, ⟨.func #[59] #[] false, 1, 8, .nilFunc, false, false⟩),
  (62, ⟨.func #[59] #[] false, 1, 8, .nilFunc, false, false⟩),
  (66, ⟨.pointer 69, 1, 8, .pointer none, false, false⟩),
  (67, ⟨.slice 5, 1, 24, .slice none 0 0, false, false⟩),
  (68, ⟨.struct #[{ name := "addr", type := 66, offset := 0, embedded := false, tag := "", pkgPath := "strings", byteOffset := 0 }, { name := "buf", type := 67, offset := 1, embedded := false, tag := "", pkgPath := "strings", byteOffset := 8 }], 2, 32, .agg #[.pointer none, .slice none 0 0], false, false⟩),
  (69, ⟨.struct #[{ name := "addr", type := 66, offset := 0, embedded := false, tag := "", pkgPath := "strings", byteOffset := 0 }, { name := "buf", type := 67, offset := 1, embedded := false, tag := "", pkgPath := "strings", byteOffset := 8 }], 2, 32, .agg #[.pointer none, .slice none 0 0], false, false⟩),
  (78, ⟨.func #[9, 9] #[4] false, 1, 8, .nilFunc, false, false⟩),
  (86, ⟨.pointer 5, 1, 8, .pointer none, false, false⟩),
  (95, ⟨.int .u64, 1, 8, .int .u64 0, false, false⟩),
  (96, ⟨.unsafePointer, 1, 8, .pointer none, false, false⟩),
  (99, ⟨.int .i64, 1, 8, .int .i64 0, false, false⟩),
  (107, ⟨.int .u32, 1, 4, .int .u32 0, false, false⟩),
  (109, ⟨.int .u64, 1, 8, .int .u64 0, false, false⟩),
  (111, ⟨.int .u64, 1, 8, .int .u64 0, false, false⟩),
  (115, ⟨.pointer 3, 1, 8, .pointer none, false, false⟩)]
theorem tyL_ok : Alls (fun p : Nat × TInfo => TI Try.prog p.1 = some p.2) tyL := ⟨ti3, ⟨ti4, ⟨ti5, ⟨ti9, ⟨ti22, ⟨ti23, ⟨ti24, ⟨ti27, ⟨ti28, ⟨ti34, ⟨ti35, ⟨ti39, ⟨ti40, ⟨ti43, ⟨ti44, ⟨ti45, ⟨ti46, ⟨ti47, ⟨ti48, ⟨ti50, ⟨ti51, ⟨ti56, ⟨ti59, ⟨ti61, ⟨ti62, ⟨ti66, ⟨ti67, ⟨ti68, ⟨ti69, ⟨ti78, ⟨ti86, ⟨ti95, ⟨ti96, ⟨ti99, ⟨ti107, ⟨ti109, ⟨ti111, ⟨ti115, trivial⟩⟩⟩⟩⟩⟩⟩⟩⟩⟩⟩⟩⟩⟩⟩⟩⟩⟩⟩⟩⟩⟩⟩⟩⟩⟩⟩⟩⟩⟩⟩⟩⟩⟩⟩⟩⟩⟩
def meL : List (Nat × String × Nat) := [(43, "ablaut/token.length", 110), (45, "ablaut/token.length", 114), (46, "ablaut/token.length", 116), (47, "ablaut/token.length", 117)]
theorem me43_110 : methB Try.prog 43 "ablaut/token.length" = some 110 := by kernel_rfl
theorem me45_114 : methB Try.prog 45 "ablaut/token.length" = some 114 := by kernel_rfl
theorem me46_116 : methB Try.prog 46 "ablaut/token.length" = some 116 := by kernel_rfl
theorem me47_117 : methB Try.prog 47 "ablaut/token.length" = some 117 := by kernel_rfl
theorem meL_ok : Alls (fun p : Nat × String × Nat => methB Try.prog p.1 p.2.1 = some p.2.2) meL := ⟨me43_110, ⟨me45_114, ⟨me46_116, ⟨me47_117, trivial⟩⟩⟩⟩
noncomputable def Zs : Sys := sysOfM Try.prog tyL tyL_ok meL meL_ok
theorem zm43_110 : Zs.M 43 "ablaut/token.length" = some 110 := by kernel_rfl
theorem zm45_114 : Zs.M 45 "ablaut/token.length" = some 114 := by kernel_rfl
theorem zm46_116 : Zs.M 46 "ablaut/token.length" = some 116 := by kernel_rfl
theorem zm47_117 : Zs.M 47 "ablaut/token.length" = some 117 := by kernel_rfl
theorem tz3 : Zs.T 3 = some ⟨.int .i64, 1, 8, .int .i64 0, false, false⟩ := by kernel_rfl
theorem tz4 : Zs.T 4 = some ⟨.bool, 1, 1, .bool false, false, false⟩ := by kernel_rfl
theorem tz5 : Zs.T 5 = some ⟨.int .u8, 1, 1, .int .u8 0, false, false⟩ := by kernel_rfl
theorem tz9 : Zs.T 9 = some ⟨.string, 1, 16, .string ⟨#[]⟩, false, false⟩ := by kernel_rfl
theorem tz22 : Zs.T 22 = some ⟨.slice 9, 1, 24, .slice none 0 0, false, false⟩ := by kernel_rfl
theorem tz23 : Zs.T 23 = some ⟨.struct #[{ name := "Words", type := 22, offset := 0, embedded := false, tag := "", pkgPath := "", byteOffset := 0 }, { name := "Short", type := 22, offset := 1, embedded := false, tag := "", pkgPath := "", byteOffset := 24 }, { name := "Front", type := 22, offset := 2, embedded := false, tag := "", pkgPath := "", byteOffset := 48 }, { name := "Back", type := 22, offset := 3, embedded := false, tag := "", pkgPath := "", byteOffset := 72 }], 4, 96, .agg #[.slice none 0 0, .slice none 0 0, .slice none 0 0, .slice none 0 0], false, false⟩ := by kernel_rfl
theorem tz24 : Zs.T 24 = some ⟨.struct #[{ name := "Words", type := 22, offset := 0, embedded := false, tag := "", pkgPath := "", byteOffset := 0 }, { name := "Short", type := 22, offset := 1, embedded := false, tag := "", pkgPath := "", byteOffset := 24 }, { name := "Front", type := 22, offset := 2, embedded := false, tag := "", pkgPath := "", byteOffset := 48 }, { name := "Back", type := 22, offset := 3, embedded := false, tag := "", pkgPath := "", byteOffset := 72 }], 4, 96, .agg #[.slice none 0 0, .slice none 0 0, .slice none 0 0, .slice none 0 0], false, false⟩ := by kernel_rfl
theorem tz27 : Zs.T 27 = some ⟨.slice 35, 1, 24, .slice none 0 0, false, false⟩ := by kernel_rfl
theorem tz28 : Zs.T 28 = some ⟨.int .i64, 1, 8, .int .i64 0, false, false⟩ := by kernel_rfl
theorem tz34 : Zs.T 34 = some ⟨.struct #[{ name := "From", type := 3, offset := 0, embedded := false, tag := "", pkgPath := "", byteOffset := 0 }, { name := "To", type := 3, offset := 1, embedded := false, tag := "", pkgPath := "", byteOffset := 8 }, { name := "Kind", type := 3, offset := 2, embedded := false, tag := "", pkgPath := "", byteOffset := 16 }, { name := "Text", type := 9, offset := 3, embedded := false, tag := "", pkgPath := "", byteOffset := 24 }], 4, 40, .agg #[.int .i64 0, .int .i64 0, .int .i64 0, .string ⟨#[]⟩], false, false⟩ := by kernel_rfl
theorem tz35 : Zs.T 35 = some ⟨.struct #[{ name := "From", type := 3, offset := 0, embedded := false, tag := "", pkgPath := "", byteOffset := 0 }, { name := "To", type := 3, offset := 1, embedded := false, tag := "", pkgPath := "", byteOffset := 8 }, { name := "Kind", type := 3, offset := 2, embedded := false, tag := "", pkgPath := "", byteOffset := 16 }, { name := "Text", type := 9, offset := 3, embedded := false, tag := "", pkgPath := "", byteOffset := 24 }], 4, 40, .agg #[.int .i64 0, .int .i64 0, .int .i64 0, .string ⟨#[]⟩], false, false⟩ := by kernel_rfl
theorem tz39 : Zs.T 39 = some ⟨.array 4 22, 4, 96, .agg #[.slice none 0 0, .slice none 0 0, .slice none 0 0, .slice none 0 0], false, false⟩ := by kernel_rfl
theorem tz40 : Zs.T 40 = some ⟨.slice 3, 1, 24, .slice none 0 0, false, false⟩ := by kernel_rfl
theorem tz43 : Zs.T 43 = some ⟨.slice 9, 1, 24, .slice none 0 0, false, false⟩ := by kernel_rfl
theorem tz44 : Zs.T 44 = some ⟨.struct #[], 0, 0, .agg #[], false, false⟩ := by kernel_rfl
theorem tz45 : Zs.T 45 = some ⟨.struct #[], 0, 0, .agg #[], false, false⟩ := by kernel_rfl
theorem tz46 : Zs.T 46 = some ⟨.struct #[], 0, 0, .agg #[], false, false⟩ := by kernel_rfl
theorem tz47 : Zs.T 47 = some ⟨.struct #[], 0, 0, .agg #[], false, false⟩ := by kernel_rfl
theorem tz48 : Zs.T 48 = some ⟨.slice 51, 1, 24, .slice none 0 0, false, false⟩ := by kernel_rfl
theorem tz50 : Zs.T 50 = some ⟨.interface #[("ablaut/token.length", 52)], 1, 16, .nilIface, true, false⟩ := by kernel_rfl
theorem tz51 : Zs.T 51 = some ⟨.interface #[("ablaut/token.length", 52)], 1, 16, .nilIface, true, false⟩ := by kernel_rfl
theorem tz56 : Zs.T 56 = some ⟨.slice 22, 1, 24, .slice none 0 0, false, false⟩ := by kernel_rfl
theorem tz59 : Zs.T 59 = some ⟨.func #[9] #[4] false, 1, 8, .nilFunc, false, false⟩ := by kernel_rfl
theorem tz61 : Zs.T 61 = some ⟨.func #[59] #[] false, 1, 8, .nilFunc, false, false⟩ := by kernel_rfl
theorem tz62 : Zs.T 62 = some ⟨.func #[59] #[] false, 1, 8, .nilFunc, false, false⟩ := by kernel_rfl
theorem tz66 : Zs.T 66 = some ⟨.pointer 69, 1, 8, .pointer none, false, false⟩ := by kernel_rfl
theorem tz67 : Zs.T 67 = some ⟨.slice 5, 1, 24, .slice none 0 0, false, false⟩ := by kernel_rfl
theorem tz68 : Zs.T 68 = some ⟨.struct #[{ name := "addr", type := 66, offset := 0, embedded := false, tag := "", pkgPath := "strings", byteOffset := 0 }, { name := "buf", type := 67, offset := 1, embedded := false, tag := "", pkgPath := "strings", byteOffset := 8 }], 2, 32, .agg #[.pointer none, .slice none 0 0], false, false⟩ := by kernel_rfl
theorem tz69 : Zs.T 69 = some ⟨.struct #[{ name := "addr", type := 66, offset := 0, embedded := false, tag := "", pkgPath := "strings", byteOffset := 0 }, { name := "buf", type := 67, offset := 1, embedded := false, tag := "", pkgPath := "strings", byteOffset := 8 }], 2, 32, .agg #[.pointer none, .slice none 0 0], false, false⟩ := by kernel_rfl
theorem tz78 : Zs.T 78 = some ⟨.func #[9, 9] #[4] false, 1, 8, .nilFunc, false, false⟩ := by kernel_rfl
theorem tz86 : Zs.T 86 = some ⟨.pointer 5, 1, 8, .pointer none, false, false⟩ := by kernel_rfl
theorem tz95 : Zs.T 95 = some ⟨.int .u64, 1, 8, .int .u64 0, false, false⟩ := by kernel_rfl
theorem tz96 : Zs.T 96 = some ⟨.unsafePointer, 1, 8, .pointer none, false, false⟩ := by kernel_rfl
theorem tz99 : Zs.T 99 = some ⟨.int .i64, 1, 8, .int .i64 0, false, false⟩ := by kernel_rfl
theorem tz107 : Zs.T 107 = some ⟨.int .u32, 1, 4, .int .u32 0, false, false⟩ := by kernel_rfl
theorem tz109 : Zs.T 109 = some ⟨.int .u64, 1, 8, .int .u64 0, false, false⟩ := by kernel_rfl
theorem tz111 : Zs.T 111 = some ⟨.int .u64, 1, 8, .int .u64 0, false, false⟩ := by kernel_rfl
theorem tz115 : Zs.T 115 = some ⟨.pointer 3, 1, 8, .pointer none, false, false⟩ := by kernel_rfl
end Go.Proofs.Ytapkbkniooleaaa.Vs
