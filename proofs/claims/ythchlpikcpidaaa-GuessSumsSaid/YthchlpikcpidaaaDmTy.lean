/- Facts on the types of the seat's program, written by dgen.py. -/
import Derived.Test.YthchlpikcpidaaaDmDen
import Derived.Test.YthchlpikcpidaaaProg
import Derived.KernelRfl
namespace Go.Proofs.Ythchlpikcpidaaa.Vs
set_option linter.unusedVariables false
set_option maxRecDepth 100000
theorem ti3 : TI Try.prog 3 = some ⟨.int .i64, 1, 8, .int .i64 0, false, false⟩ := by kernel_rfl
theorem ti4 : TI Try.prog 4 = some ⟨.bool, 1, 1, .bool false, false, false⟩ := by kernel_rfl
theorem ti5 : TI Try.prog 5 = some ⟨.int .u8, 1, 1, .int .u8 0, false, false⟩ := by kernel_rfl
theorem ti9 : TI Try.prog 9 = some ⟨.string, 1, 16, .string ⟨#[]⟩, false, false⟩ := by kernel_rfl
theorem ti22 : TI Try.prog 22 = some ⟨.slice 51, 1, 24, .slice none 0 0, false, false⟩ := by kernel_rfl
theorem ti23 : TI Try.prog 23 = some ⟨.slice 9, 1, 24, .slice none 0 0, false, false⟩ := by kernel_rfl
theorem ti27 : TI Try.prog 27 = some ⟨.pointer 56, 1, 8, .pointer none, false, false⟩ := by kernel_rfl
theorem ti28 : TI Try.prog 28 = some ⟨.int .i64, 1, 8, .int .i64 0, false, false⟩ := by kernel_rfl
theorem ti31 : TI Try.prog 31 = some ⟨.pointer 60, 1, 8, .pointer none, false, false⟩ := by kernel_rfl
theorem ti40 : TI Try.prog 40 = some ⟨.slice 3, 1, 24, .slice none 0 0, false, false⟩ := by kernel_rfl
theorem ti46 : TI Try.prog 46 = some ⟨.slice 23, 1, 24, .slice none 0 0, false, false⟩ := by kernel_rfl
theorem ti50 : TI Try.prog 50 = some ⟨.struct #[{ name := "Word", type := 23, offset := 0, embedded := false, tag := "", pkgPath := "", byteOffset := 0 }, { name := "Tag", type := 9, offset := 1, embedded := false, tag := "", pkgPath := "", byteOffset := 24 }, { name := "Many", type := 3, offset := 2, embedded := false, tag := "", pkgPath := "", byteOffset := 40 }], 3, 48, .agg #[.slice none 0 0, .string ⟨#[]⟩, .int .i64 0], false, false⟩ := by kernel_rfl
theorem ti51 : TI Try.prog 51 = some ⟨.struct #[{ name := "Word", type := 23, offset := 0, embedded := false, tag := "", pkgPath := "", byteOffset := 0 }, { name := "Tag", type := 9, offset := 1, embedded := false, tag := "", pkgPath := "", byteOffset := 24 }, { name := "Many", type := 3, offset := 2, embedded := false, tag := "", pkgPath := "", byteOffset := 40 }], 3, 48, .agg #[.slice none 0 0, .string ⟨#[]⟩, .int .i64 0], false, false⟩ := by kernel_rfl
theorem ti53 : TI Try.prog 53 = some ⟨.map 79 3, 1, 8, .map none, false, false⟩ := by kernel_rfl
theorem ti54 : TI Try.prog 54 = some ⟨.map 9 63, 1, 8, .map none, false, false⟩ := by kernel_rfl
theorem ti55 : TI Try.prog 55 = some ⟨.struct #[{ name := "many", type := 53, offset := 0, embedded := false, tag := "", pkgPath := "ablaut/guess", byteOffset := 0 }, { name := "ends", type := 54, offset := 1, embedded := false, tag := "", pkgPath := "ablaut/guess", byteOffset := 8 }], 2, 16, .agg #[.map none, .map none], false, false⟩ := by kernel_rfl
theorem ti56 : TI Try.prog 56 = some ⟨.struct #[{ name := "many", type := 53, offset := 0, embedded := false, tag := "", pkgPath := "ablaut/guess", byteOffset := 0 }, { name := "ends", type := 54, offset := 1, embedded := false, tag := "", pkgPath := "ablaut/guess", byteOffset := 8 }], 2, 16, .agg #[.map none, .map none], false, false⟩ := by kernel_rfl
theorem ti59 : TI Try.prog 59 = some ⟨.struct #[{ name := "l", type := 22, offset := 0, embedded := false, tag := "", pkgPath := "ablaut/ablautref18", byteOffset := 0 }], 1, 24, .agg #[.slice none 0 0], false, false⟩ := by kernel_rfl
theorem ti60 : TI Try.prog 60 = some ⟨.struct #[{ name := "l", type := 22, offset := 0, embedded := false, tag := "", pkgPath := "ablaut/ablautref18", byteOffset := 0 }], 1, 24, .agg #[.slice none 0 0], false, false⟩ := by kernel_rfl
theorem ti63 : TI Try.prog 63 = some ⟨.map 9 3, 1, 8, .map none, false, false⟩ := by kernel_rfl
theorem ti64 : TI Try.prog 64 = some ⟨.struct #[{ name := "num", type := 3, offset := 0, embedded := false, tag := "", pkgPath := "ablaut/guess", byteOffset := 0 }, { name := "den", type := 3, offset := 1, embedded := false, tag := "", pkgPath := "ablaut/guess", byteOffset := 8 }], 2, 16, .agg #[.int .i64 0, .int .i64 0], false, false⟩ := by kernel_rfl
theorem ti65 : TI Try.prog 65 = some ⟨.struct #[{ name := "num", type := 3, offset := 0, embedded := false, tag := "", pkgPath := "ablaut/guess", byteOffset := 0 }, { name := "den", type := 3, offset := 1, embedded := false, tag := "", pkgPath := "ablaut/guess", byteOffset := 8 }], 2, 16, .agg #[.int .i64 0, .int .i64 0], false, false⟩ := by kernel_rfl
theorem ti66 : TI Try.prog 66 = some ⟨.func #[23, 9] #[65] false, 1, 8, .nilFunc, false, false⟩ := by kernel_rfl
theorem ti74 : TI Try.prog 74 = some ⟨.func #[9, 9] #[3] false, 1, 8, .nilFunc, false, false⟩ := by kernel_rfl
theorem ti77 : TI Try.prog 77 = some ⟨.func #[9] #[4] false, 1, 8, .nilFunc, false, false⟩ := by kernel_rfl
theorem ti78 : TI Try.prog 78 = some ⟨.struct #[{ name := "text", type := 9, offset := 0, embedded := false, tag := "", pkgPath := "ablaut/guess", byteOffset := 0 }, { name := "tag", type := 9, offset := 1, embedded := false, tag := "", pkgPath := "ablaut/guess", byteOffset := 16 }], 2, 32, .agg #[.string ⟨#[]⟩, .string ⟨#[]⟩], false, false⟩ := by kernel_rfl
theorem ti79 : TI Try.prog 79 = some ⟨.struct #[{ name := "text", type := 9, offset := 0, embedded := false, tag := "", pkgPath := "ablaut/guess", byteOffset := 0 }, { name := "tag", type := 9, offset := 1, embedded := false, tag := "", pkgPath := "ablaut/guess", byteOffset := 16 }], 2, 32, .agg #[.string ⟨#[]⟩, .string ⟨#[]⟩], false, false⟩ := by kernel_rfl
theorem ti89 : TI Try.prog 89 = some ⟨.int .u64, 1, 8, .int .u64 0, false, false⟩ := by kernel_rfl
theorem ti92 : TI Try.prog 92 = some ⟨.pointer 95, 1, 8, .pointer none, false, false⟩ := by kernel_rfl
theorem ti93 : TI Try.prog 93 = some ⟨.slice 5, 1, 24, .slice none 0 0, false, false⟩ := by kernel_rfl
theorem ti94 : TI Try.prog 94 = some ⟨.struct #[{ name := "addr", type := 92, offset := 0, embedded := false, tag := "", pkgPath := "strings", byteOffset := 0 }, { name := "buf", type := 93, offset := 1, embedded := false, tag := "", pkgPath := "strings", byteOffset := 8 }], 2, 32, .agg #[.pointer none, .slice none 0 0], false, false⟩ := by kernel_rfl
theorem ti95 : TI Try.prog 95 = some ⟨.struct #[{ name := "addr", type := 92, offset := 0, embedded := false, tag := "", pkgPath := "strings", byteOffset := 0 }, { name := "buf", type := 93, offset := 1, embedded := false, tag := "", pkgPath := "strings", byteOffset := 8 }], 2, 32, .agg #[.pointer none, .slice none 0 0], false, false⟩ := by kernel_rfl
theorem ti106 : TI Try.prog 106 = some ⟨.int .i64, 1, 8, .int .i64 0, false, false⟩ := by kernel_rfl
theorem ti114 : TI Try.prog 114 = some ⟨.int .u32, 1, 4, .int .u32 0, false, false⟩ := by kernel_rfl
theorem ti116 : TI Try.prog 116 = some ⟨.int .u64, 1, 8, .int .u64 0, false, false⟩ := by kernel_rfl
theorem ti117 : TI Try.prog 117 = some ⟨.pointer 5, 1, 8, .pointer none, false, false⟩ := by kernel_rfl
theorem ti118 : TI Try.prog 118 = some ⟨.int .u64, 1, 8, .int .u64 0, false, false⟩ := by kernel_rfl
theorem ti122 : TI Try.prog 122 = some ⟨.pointer 3, 1, 8, .pointer none, false, false⟩ := by kernel_rfl
theorem ti124 : TI Try.prog 124 = some ⟨.unsafePointer, 1, 8, .pointer none, false, false⟩ := by kernel_rfl
def tyL : List (Nat × TInfo) := [(3, ⟨.int .i64, 1, 8, .int .i64 0, false, false⟩),
  (4, ⟨.bool, 1, 1, .bool false, false, false⟩),
  (5, ⟨.int .u8, 1, 1, .int .u8 0, false, false⟩),
  (9, ⟨.string, 1, 16, .string ⟨#[]⟩, false, false⟩),
  (22, ⟨.slice 51, 1, 24, .slice none 0 0, false, false⟩),
  (23, ⟨.slice 9, 1, 24, .slice none 0 0, false, false⟩),
  (27, ⟨.pointer 56, 1, 8, .pointer none, false, false⟩),
  (28, ⟨.int .i64, 1, 8, .int .i64 0, false, false⟩),
  (31, ⟨.pointer 60, 1, 8, .pointer none, false, false⟩),
  (40, ⟨.slice 3, 1, 24, .slice none 0 0, false, false⟩),
  (46, ⟨.slice 23, 1, 24, .slice none 0 0, false, false⟩),
  (50, ⟨.struct #[{ name := "Word", type := 23, offset := 0, embedded := false, tag := "", pkgPath := "", byteOffset := 0 }, { name := "Tag", type := 9, offset := 1, embedded := false, tag := "", pkgPath := "", byteOffset := 24 }, { name := "Many", type := 3, offset := 2, embedded := false, tag := "", pkgPath := "", byteOffset := 40 }], 3, 48, .agg #[.slice none 0 0, .string ⟨#[]⟩, .int .i64 0], false, false⟩),
  (51, ⟨.struct #[{ name := "Word", type := 23, offset := 0, embedded := false, tag := "", pkgPath := "", byteOffset := 0 }, { name := "Tag", type := 9, offset := 1, embedded := false, tag := "", pkgPath := "", byteOffset := 24 }, { name := "Many", type := 3, offset := 2, embedded := false, tag := "", pkgPath := "", byteOffset := 40 }], 3, 48, .agg #[.slice none 0 0, .string ⟨#[]⟩, .int .i64 0], false, false⟩),
  (53, ⟨.map 79 3, 1, 8, .map none, false, false⟩),
  (54, ⟨.map 9 63, 1, 8, .map none, false, false⟩),
  (55, ⟨.struct #[{ name := "many", type := 53, offset := 0, embedded := false, tag := "", pkgPath := "ablaut/guess", byteOffset := 0 }, { name := "ends", type := 54, offset := 1, embedded := false, tag := "", pkgPath := "ablaut/guess", byteOffset := 8 }], 2, 16, .agg #[.map none, .map none], false, false⟩),
  (56, ⟨.struct #[{ name := "many", type := 53, offset := 0, embedded := false, tag := "", pkgPath := "ablaut/guess", byteOffset := 0 }, { name := "ends", type := 54, offset := 1, embedded := false, tag := "", pkgPath := "ablaut/guess", byteOffset := 8 }], 2, 16, .agg #[.map none, .map none], false, false⟩),
  (59, ⟨.struct #[{ name := "l", type := 22, offset := 0, embedded := false, tag := "", pkgPath := "ablaut/ablautref18", byteOffset := 0 }], 1, 24, .agg #[.slice none 0 0], false, false⟩),
  (60, ⟨.struct #[{ name := "l", type := 22, offset := 0, embedded := false, tag := "", pkgPath := "ablaut/ablautref18", byteOffset := 0 }], 1, 24, .agg #[.slice none 0 0], false, false⟩),
  (63, ⟨.map 9 3, 1, 8, .map none, false, false⟩),
  (64, ⟨.struct #[{ name := "num", type := 3, offset := 0, embedded := false, tag := "", pkgPath := "ablaut/guess", byteOffset := 0 }, { name := "den", type := 3, offset := 1, embedded := false, tag := "", pkgPath := "ablaut/guess", byteOffset := 8 }], 2, 16, .agg #[.int .i64 0, .int .i64 0], false, false⟩),
  (65, ⟨.struct #[{ name := "num", type := 3, offset := 0, embedded := false, tag := "", pkgPath := "ablaut/guess", byteOffset := 0 }, { name := "den", type := 3, offset := 1, embedded := false, tag := "", pkgPath := "ablaut/guess", byteOffset := 8 }], 2, 16, .agg #[.int .i64 0, .int .i64 0], false, false⟩),
  (66, ⟨.func #[23, 9] #[65] false, 1, 8, .nilFunc, false, false⟩),
  (74, ⟨.func #[9, 9] #[3] false, 1, 8, .nilFunc, false, false⟩),
  (77, ⟨.func #[9] #[4] false, 1, 8, .nilFunc, false, false⟩),
  (78, ⟨.struct #[{ name := "text", type := 9, offset := 0, embedded := false, tag := "", pkgPath := "ablaut/guess", byteOffset := 0 }, { name := "tag", type := 9, offset := 1, embedded := false, tag := "", pkgPath := "ablaut/guess", byteOffset := 16 }], 2, 32, .agg #[.string ⟨#[]⟩, .string ⟨#[]⟩], false, false⟩),
  (79, ⟨.struct #[{ name := "text", type := 9, offset := 0, embedded := false, tag := "", pkgPath := "ablaut/guess", byteOffset := 0 }, { name := "tag", type := 9, offset := 1, embedded := false, tag := "", pkgPath := "ablaut/guess", byteOffset := 16 }], 2, 32, .agg #[.string ⟨#[]⟩, .string ⟨#[]⟩], false, false⟩),
  (89, ⟨.int .u64, 1, 8, .int .u64 0, false, false⟩),
  (92, ⟨.pointer 95, 1, 8, .pointer none, false, false⟩),
  (93, ⟨.slice 5, 1, 24, .slice none 0 0, false, false⟩),
  (94, ⟨.struct #[{ name := "addr", type := 92, offset := 0, embedded := false, tag := "", pkgPath := "strings", byteOffset := 0 }, { name := "buf", type := 93, offset := 1, embedded := false, tag := "", pkgPath := "strings", byteOffset := 8 }], 2, 32, .agg #[.pointer none, .slice none 0 0], false, false⟩),
  (95, ⟨.struct #[{ name := "addr", type := 92, offset := 0, embedded := false, tag := "", pkgPath := "strings", byteOffset := 0 }, { name := "buf", type := 93, offset := 1, embedded := false, tag := "", pkgPath := "strings", byteOffset := 8 }], 2, 32, .agg #[.pointer none, .slice none 0 0], false, false⟩),
  (106, ⟨.int .i64, 1, 8, .int .i64 0, false, false⟩),
  (114, ⟨.int .u32, 1, 4, .int .u32 0, false, false⟩),
  (116, ⟨.int .u64, 1, 8, .int .u64 0, false, false⟩),
  (117, ⟨.pointer 5, 1, 8, .pointer none, false, false⟩),
  (118, ⟨.int .u64, 1, 8, .int .u64 0, false, false⟩),
  (122, ⟨.pointer 3, 1, 8, .pointer none, false, false⟩),
  (124, ⟨.unsafePointer, 1, 8, .pointer none, false, false⟩)]
theorem tyL_ok : Alls (fun p : Nat × TInfo => TI Try.prog p.1 = some p.2) tyL := ⟨ti3, ⟨ti4, ⟨ti5, ⟨ti9, ⟨ti22, ⟨ti23, ⟨ti27, ⟨ti28, ⟨ti31, ⟨ti40, ⟨ti46, ⟨ti50, ⟨ti51, ⟨ti53, ⟨ti54, ⟨ti55, ⟨ti56, ⟨ti59, ⟨ti60, ⟨ti63, ⟨ti64, ⟨ti65, ⟨ti66, ⟨ti74, ⟨ti77, ⟨ti78, ⟨ti79, ⟨ti89, ⟨ti92, ⟨ti93, ⟨ti94, ⟨ti95, ⟨ti106, ⟨ti114, ⟨ti116, ⟨ti117, ⟨ti118, ⟨ti122, ⟨ti124, trivial⟩⟩⟩⟩⟩⟩⟩⟩⟩⟩⟩⟩⟩⟩⟩⟩⟩⟩⟩⟩⟩⟩⟩⟩⟩⟩⟩⟩⟩⟩⟩⟩⟩⟩⟩⟩⟩⟩⟩
noncomputable def Zs : Sys := sysOf Try.prog tyL tyL_ok
theorem tz3 : Zs.T 3 = some ⟨.int .i64, 1, 8, .int .i64 0, false, false⟩ := by kernel_rfl
theorem tz4 : Zs.T 4 = some ⟨.bool, 1, 1, .bool false, false, false⟩ := by kernel_rfl
theorem tz5 : Zs.T 5 = some ⟨.int .u8, 1, 1, .int .u8 0, false, false⟩ := by kernel_rfl
theorem tz9 : Zs.T 9 = some ⟨.string, 1, 16, .string ⟨#[]⟩, false, false⟩ := by kernel_rfl
theorem tz22 : Zs.T 22 = some ⟨.slice 51, 1, 24, .slice none 0 0, false, false⟩ := by kernel_rfl
theorem tz23 : Zs.T 23 = some ⟨.slice 9, 1, 24, .slice none 0 0, false, false⟩ := by kernel_rfl
theorem tz27 : Zs.T 27 = some ⟨.pointer 56, 1, 8, .pointer none, false, false⟩ := by kernel_rfl
theorem tz28 : Zs.T 28 = some ⟨.int .i64, 1, 8, .int .i64 0, false, false⟩ := by kernel_rfl
theorem tz31 : Zs.T 31 = some ⟨.pointer 60, 1, 8, .pointer none, false, false⟩ := by kernel_rfl
theorem tz40 : Zs.T 40 = some ⟨.slice 3, 1, 24, .slice none 0 0, false, false⟩ := by kernel_rfl
theorem tz46 : Zs.T 46 = some ⟨.slice 23, 1, 24, .slice none 0 0, false, false⟩ := by kernel_rfl
theorem tz50 : Zs.T 50 = some ⟨.struct #[{ name := "Word", type := 23, offset := 0, embedded := false, tag := "", pkgPath := "", byteOffset := 0 }, { name := "Tag", type := 9, offset := 1, embedded := false, tag := "", pkgPath := "", byteOffset := 24 }, { name := "Many", type := 3, offset := 2, embedded := false, tag := "", pkgPath := "", byteOffset := 40 }], 3, 48, .agg #[.slice none 0 0, .string ⟨#[]⟩, .int .i64 0], false, false⟩ := by kernel_rfl
theorem tz51 : Zs.T 51 = some ⟨.struct #[{ name := "Word", type := 23, offset := 0, embedded := false, tag := "", pkgPath := "", byteOffset := 0 }, { name := "Tag", type := 9, offset := 1, embedded := false, tag := "", pkgPath := "", byteOffset := 24 }, { name := "Many", type := 3, offset := 2, embedded := false, tag := "", pkgPath := "", byteOffset := 40 }], 3, 48, .agg #[.slice none 0 0, .string ⟨#[]⟩, .int .i64 0], false, false⟩ := by kernel_rfl
theorem tz53 : Zs.T 53 = some ⟨.map 79 3, 1, 8, .map none, false, false⟩ := by kernel_rfl
theorem tz54 : Zs.T 54 = some ⟨.map 9 63, 1, 8, .map none, false, false⟩ := by kernel_rfl
theorem tz55 : Zs.T 55 = some ⟨.struct #[{ name := "many", type := 53, offset := 0, embedded := false, tag := "", pkgPath := "ablaut/guess", byteOffset := 0 }, { name := "ends", type := 54, offset := 1, embedded := false, tag := "", pkgPath := "ablaut/guess", byteOffset := 8 }], 2, 16, .agg #[.map none, .map none], false, false⟩ := by kernel_rfl
theorem tz56 : Zs.T 56 = some ⟨.struct #[{ name := "many", type := 53, offset := 0, embedded := false, tag := "", pkgPath := "ablaut/guess", byteOffset := 0 }, { name := "ends", type := 54, offset := 1, embedded := false, tag := "", pkgPath := "ablaut/guess", byteOffset := 8 }], 2, 16, .agg #[.map none, .map none], false, false⟩ := by kernel_rfl
theorem tz59 : Zs.T 59 = some ⟨.struct #[{ name := "l", type := 22, offset := 0, embedded := false, tag := "", pkgPath := "ablaut/ablautref18", byteOffset := 0 }], 1, 24, .agg #[.slice none 0 0], false, false⟩ := by kernel_rfl
theorem tz60 : Zs.T 60 = some ⟨.struct #[{ name := "l", type := 22, offset := 0, embedded := false, tag := "", pkgPath := "ablaut/ablautref18", byteOffset := 0 }], 1, 24, .agg #[.slice none 0 0], false, false⟩ := by kernel_rfl
theorem tz63 : Zs.T 63 = some ⟨.map 9 3, 1, 8, .map none, false, false⟩ := by kernel_rfl
theorem tz64 : Zs.T 64 = some ⟨.struct #[{ name := "num", type := 3, offset := 0, embedded := false, tag := "", pkgPath := "ablaut/guess", byteOffset := 0 }, { name := "den", type := 3, offset := 1, embedded := false, tag := "", pkgPath := "ablaut/guess", byteOffset := 8 }], 2, 16, .agg #[.int .i64 0, .int .i64 0], false, false⟩ := by kernel_rfl
theorem tz65 : Zs.T 65 = some ⟨.struct #[{ name := "num", type := 3, offset := 0, embedded := false, tag := "", pkgPath := "ablaut/guess", byteOffset := 0 }, { name := "den", type := 3, offset := 1, embedded := false, tag := "", pkgPath := "ablaut/guess", byteOffset := 8 }], 2, 16, .agg #[.int .i64 0, .int .i64 0], false, false⟩ := by kernel_rfl
theorem tz66 : Zs.T 66 = some ⟨.func #[23, 9] #[65] false, 1, 8, .nilFunc, false, false⟩ := by kernel_rfl
theorem tz74 : Zs.T 74 = some ⟨.func #[9, 9] #[3] false, 1, 8, .nilFunc, false, false⟩ := by kernel_rfl
theorem tz77 : Zs.T 77 = some ⟨.func #[9] #[4] false, 1, 8, .nilFunc, false, false⟩ := by kernel_rfl
theorem tz78 : Zs.T 78 = some ⟨.struct #[{ name := "text", type := 9, offset := 0, embedded := false, tag := "", pkgPath := "ablaut/guess", byteOffset := 0 }, { name := "tag", type := 9, offset := 1, embedded := false, tag := "", pkgPath := "ablaut/guess", byteOffset := 16 }], 2, 32, .agg #[.string ⟨#[]⟩, .string ⟨#[]⟩], false, false⟩ := by kernel_rfl
theorem tz79 : Zs.T 79 = some ⟨.struct #[{ name := "text", type := 9, offset := 0, embedded := false, tag := "", pkgPath := "ablaut/guess", byteOffset := 0 }, { name := "tag", type := 9, offset := 1, embedded := false, tag := "", pkgPath := "ablaut/guess", byteOffset := 16 }], 2, 32, .agg #[.string ⟨#[]⟩, .string ⟨#[]⟩], false, false⟩ := by kernel_rfl
theorem tz89 : Zs.T 89 = some ⟨.int .u64, 1, 8, .int .u64 0, false, false⟩ := by kernel_rfl
theorem tz92 : Zs.T 92 = some ⟨.pointer 95, 1, 8, .pointer none, false, false⟩ := by kernel_rfl
theorem tz93 : Zs.T 93 = some ⟨.slice 5, 1, 24, .slice none 0 0, false, false⟩ := by kernel_rfl
theorem tz94 : Zs.T 94 = some ⟨.struct #[{ name := "addr", type := 92, offset := 0, embedded := false, tag := "", pkgPath := "strings", byteOffset := 0 }, { name := "buf", type := 93, offset := 1, embedded := false, tag := "", pkgPath := "strings", byteOffset := 8 }], 2, 32, .agg #[.pointer none, .slice none 0 0], false, false⟩ := by kernel_rfl
theorem tz95 : Zs.T 95 = some ⟨.struct #[{ name := "addr", type := 92, offset := 0, embedded := false, tag := "", pkgPath := "strings", byteOffset := 0 }, { name := "buf", type := 93, offset := 1, embedded := false, tag := "", pkgPath := "strings", byteOffset := 8 }], 2, 32, .agg #[.pointer none, .slice none 0 0], false, false⟩ := by kernel_rfl
theorem tz106 : Zs.T 106 = some ⟨.int .i64, 1, 8, .int .i64 0, false, false⟩ := by kernel_rfl
theorem tz114 : Zs.T 114 = some ⟨.int .u32, 1, 4, .int .u32 0, false, false⟩ := by kernel_rfl
theorem tz116 : Zs.T 116 = some ⟨.int .u64, 1, 8, .int .u64 0, false, false⟩ := by kernel_rfl
theorem tz117 : Zs.T 117 = some ⟨.pointer 5, 1, 8, .pointer none, false, false⟩ := by kernel_rfl
theorem tz118 : Zs.T 118 = some ⟨.int .u64, 1, 8, .int .u64 0, false, false⟩ := by kernel_rfl
theorem tz122 : Zs.T 122 = some ⟨.pointer 3, 1, 8, .pointer none, false, false⟩ := by kernel_rfl
theorem tz124 : Zs.T 124 = some ⟨.unsafePointer, 1, 8, .pointer none, false, false⟩ := by kernel_rfl
end Go.Proofs.Ythchlpikcpidaaa.Vs
