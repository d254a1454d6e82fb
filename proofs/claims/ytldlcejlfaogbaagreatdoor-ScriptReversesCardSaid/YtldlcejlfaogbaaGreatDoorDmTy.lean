/- Facts on the types of the seat's program, written by dgen.py. -/
import Derived.Test.YtldlcejlfaogbaaGreatDoorDmDen
import Derived.Test.YtldlcejlfaogbaaGreatDoorProg
import Derived.KernelRfl
namespace Go.Proofs.YtldlcejlfaogbaaGreatDoor.Vs
set_option linter.unusedVariables false
set_option maxRecDepth 100000
theorem ti3 : TI Tryz.prog 3 = some ⟨.int .i64, 1, 8, .int .i64 0, false, false⟩ := by kernel_rfl
theorem ti4 : TI Tryz.prog 4 = some ⟨.bool, 1, 1, .bool false, false, false⟩ := by kernel_rfl
theorem ti5 : TI Tryz.prog 5 = some ⟨.int .u8, 1, 1, .int .u8 0, false, false⟩ := by kernel_rfl
theorem ti9 : TI Tryz.prog 9 = some ⟨.string, 1, 16, .string ⟨#[]⟩, false, false⟩ := by kernel_rfl
theorem ti22 : TI Tryz.prog 22 = some ⟨.slice 67, 1, 24, .slice none 0 0, false, false⟩ := by kernel_rfl
theorem ti23 : TI Tryz.prog 23 = some ⟨.slice 9, 1, 24, .slice none 0 0, false, false⟩ := by kernel_rfl
theorem ti24 : TI Tryz.prog 24 = some ⟨.array 2 23, 2, 48, .agg #[.slice none 0 0, .slice none 0 0], false, false⟩ := by kernel_rfl
theorem ti32 : TI Tryz.prog 32 = some ⟨.int .i64, 1, 8, .int .i64 0, false, false⟩ := by kernel_rfl
theorem ti39 : TI Tryz.prog 39 = some ⟨.slice 3, 1, 24, .slice none 0 0, false, false⟩ := by kernel_rfl
theorem ti58 : TI Tryz.prog 58 = some ⟨.slice 23, 1, 24, .slice none 0 0, false, false⟩ := by kernel_rfl
theorem ti66 : TI Tryz.prog 66 = some ⟨.struct #[{ name := "From", type := 23, offset := 0, embedded := false, tag := "", pkgPath := "", byteOffset := 0 }, { name := "To", type := 23, offset := 1, embedded := false, tag := "", pkgPath := "", byteOffset := 24 }], 2, 48, .agg #[.slice none 0 0, .slice none 0 0], false, false⟩ := by kernel_rfl
theorem ti67 : TI Tryz.prog 67 = some ⟨.struct #[{ name := "From", type := 23, offset := 0, embedded := false, tag := "", pkgPath := "", byteOffset := 0 }, { name := "To", type := 23, offset := 1, embedded := false, tag := "", pkgPath := "", byteOffset := 24 }], 2, 48, .agg #[.slice none 0 0, .slice none 0 0], false, false⟩ := by kernel_rfl
theorem ti98 : TI Tryz.prog 98 = some ⟨.func #[67, 67] #[3] false, 1, 8, .nilFunc, false, false⟩ := by kernel_rfl
theorem ti104 : TI Tryz.prog 104 = some ⟨.slice 39, 1, 24, .slice none 0 0, false, false⟩ := by kernel_rfl
theorem ti108 : TI Tryz.prog 108 = some ⟨.func #[23] #[4] false, 1, 8, .nilFunc, false, false⟩ := by kernel_rfl
theorem ti114 : TI Tryz.prog 114 = some ⟨.func #[67] #[4] false, 1, 8, .nilFunc, false, false⟩ := by kernel_rfl
theorem ti130 : TI Tryz.prog 130 = some ⟨.func #[9] #[4] false, 1, 8, .nilFunc, false, false⟩ := by kernel_rfl
theorem ti158 : TI Tryz.prog 158 = some ⟨.int .u64, 1, 8, .int .u64 0, false, false⟩ := by kernel_rfl
theorem ti160 : TI Tryz.prog 160 = some ⟨.map 9 4, 1, 8, .map none, false, false⟩ := by kernel_rfl
theorem ti164 : TI Tryz.prog 164 = some ⟨.slice 166, 1, 24, .slice none 0 0, false, false⟩ := by kernel_rfl
theorem ti165 : TI Tryz.prog 165 = some ⟨.struct #[{ name := "more", type := 23, offset := 0, embedded := false, tag := "", pkgPath := "ablaut/script", byteOffset := 0 }, { name := "long", type := 3, offset := 1, embedded := false, tag := "", pkgPath := "ablaut/script", byteOffset := 24 }, { name := "behind", type := 39, offset := 2, embedded := false, tag := "", pkgPath := "ablaut/script", byteOffset := 32 }, { name := "ahead", type := 39, offset := 3, embedded := false, tag := "", pkgPath := "ablaut/script", byteOffset := 56 }], 4, 80, .agg #[.slice none 0 0, .int .i64 0, .slice none 0 0, .slice none 0 0], false, false⟩ := by kernel_rfl
theorem ti166 : TI Tryz.prog 166 = some ⟨.struct #[{ name := "more", type := 23, offset := 0, embedded := false, tag := "", pkgPath := "ablaut/script", byteOffset := 0 }, { name := "long", type := 3, offset := 1, embedded := false, tag := "", pkgPath := "ablaut/script", byteOffset := 24 }, { name := "behind", type := 39, offset := 2, embedded := false, tag := "", pkgPath := "ablaut/script", byteOffset := 32 }, { name := "ahead", type := 39, offset := 3, embedded := false, tag := "", pkgPath := "ablaut/script", byteOffset := 56 }], 4, 80, .agg #[.slice none 0 0, .int .i64 0, .slice none 0 0, .slice none 0 0], false, false⟩ := by kernel_rfl
theorem ti169 : TI Tryz.prog 169 = some ⟨.pointer 171, 1, 8, .pointer none, false, false⟩ := by kernel_rfl
theorem ti170 : TI Tryz.prog 170 = some ⟨.struct #[{ name := "words", type := 58, offset := 0, embedded := false, tag := "", pkgPath := "ablaut/ablautref25", byteOffset := 0 }, { name := "rests", type := 58, offset := 1, embedded := false, tag := "", pkgPath := "ablaut/ablautref25", byteOffset := 24 }, { name := "least", type := 39, offset := 2, embedded := false, tag := "", pkgPath := "ablaut/ablautref25", byteOffset := 48 }], 3, 72, .agg #[.slice none 0 0, .slice none 0 0, .slice none 0 0], false, false⟩ := by kernel_rfl
theorem ti171 : TI Tryz.prog 171 = some ⟨.struct #[{ name := "words", type := 58, offset := 0, embedded := false, tag := "", pkgPath := "ablaut/ablautref25", byteOffset := 0 }, { name := "rests", type := 58, offset := 1, embedded := false, tag := "", pkgPath := "ablaut/ablautref25", byteOffset := 24 }, { name := "least", type := 39, offset := 2, embedded := false, tag := "", pkgPath := "ablaut/ablautref25", byteOffset := 48 }], 3, 72, .agg #[.slice none 0 0, .slice none 0 0, .slice none 0 0], false, false⟩ := by kernel_rfl
theorem ti173 : TI Tryz.prog 173 = some ⟨.pointer 176, 1, 8, .pointer none, false, false⟩ := by kernel_rfl
theorem ti174 : TI Tryz.prog 174 = some ⟨.slice 5, 1, 24, .slice none 0 0, false, false⟩ := by kernel_rfl
theorem ti175 : TI Tryz.prog 175 = some ⟨.struct #[{ name := "addr", type := 173, offset := 0, embedded := false, tag := "", pkgPath := "strings", byteOffset := 0 }, { name := "buf", type := 174, offset := 1, embedded := false, tag := "", pkgPath := "strings", byteOffset := 8 }], 2, 32, .agg #[.pointer none, .slice none 0 0], false, false⟩ := by kernel_rfl
theorem ti176 : TI Tryz.prog 176 = some ⟨.struct #[{ name := "addr", type := 173, offset := 0, embedded := false, tag := "", pkgPath := "strings", byteOffset := 0 }, { name := "buf", type := 174, offset := 1, embedded := false, tag := "", pkgPath := "strings", byteOffset := 8 }], 2, 32, .agg #[.pointer none, .slice none 0 0], false, false⟩ := by kernel_rfl
theorem ti203 : TI Tryz.prog 203 = some ⟨.int .i64, 1, 8, .int .i64 0, false, false⟩ := by kernel_rfl
theorem ti210 : TI Tryz.prog 210 = some ⟨.int .u32, 1, 4, .int .u32 0, false, false⟩ := by kernel_rfl
theorem ti212 : TI Tryz.prog 212 = some ⟨.int .u64, 1, 8, .int .u64 0, false, false⟩ := by kernel_rfl
theorem ti214 : TI Tryz.prog 214 = some ⟨.pointer 5, 1, 8, .pointer none, false, false⟩ := by kernel_rfl
theorem ti233 : TI Tryz.prog 233 = some ⟨.unsafePointer, 1, 8, .pointer none, false, false⟩ := by kernel_rfl
def tyL : List (Nat × TInfo) := [(3, ⟨.int .i64, 1, 8, .int .i64 0, false, false⟩),
  (4, ⟨.bool, 1, 1, .bool false, false, false⟩),
  (5, ⟨.int .u8, 1, 1, .int .u8 0, false, false⟩),
  (9, ⟨.string, 1, 16, .string ⟨#[]⟩, false, false⟩),
  (22, ⟨.slice 67, 1, 24, .slice none 0 0, false, false⟩),
  (23, ⟨.slice 9, 1, 24, .slice none 0 0, false, false⟩),
  (24, ⟨.array 2 23, 2, 48, .agg #[.slice none 0 0, .slice none 0 0], false, false⟩),
  (32, ⟨.int .i64, 1, 8, .int .i64 0, false, false⟩),
  (39, ⟨.slice 3, 1, 24, .slice none 0 0, false, false⟩),
  (58, ⟨.slice 23, 1, 24, .slice none 0 0, false, false⟩),
  (66, ⟨.struct #[{ name := "From", type := 23, offset := 0, embedded := false, tag := "", pkgPath := "", byteOffset := 0 }, { name := "To", type := 23, offset := 1, embedded := false, tag := "", pkgPath := "", byteOffset := 24 }], 2, 48, .agg #[.slice none 0 0, .slice none 0 0], false, false⟩),
  (67, ⟨.struct #[{ name := "From", type := 23, offset := 0, embedded := false, tag := "", pkgPath := "", byteOffset := 0 }, { name := "To", type := 23, offset := 1, embedded := false, tag := "", pkgPath := "", byteOffset := 24 }], 2, 48, .agg #[.slice none 0 0, .slice none 0 0], false, false⟩),
  (98, ⟨.func #[67, 67] #[3] false, 1, 8, .nilFunc, false, false⟩),
  (104, ⟨.slice 39, 1, 24, .slice none 0 0, false, false⟩),
  (108, ⟨.func #[23] #[4] false, 1, 8, .nilFunc, false, false⟩),
  (114, ⟨.func #[67] #[4] false, 1, 8, .nilFunc, false, false⟩),
  (130, ⟨.func #[9] #[4] false, 1, 8, .nilFunc, false, false⟩),
  (158, ⟨.int .u64, 1, 8, .int .u64 0, false, false⟩),
  (160, ⟨.map 9 4, 1, 8, .map none, false, false⟩),
  (164, ⟨.slice 166, 1, 24, .slice none 0 0, false, false⟩),
  (165, ⟨.struct #[{ name := "more", type := 23, offset := 0, embedded := false, tag := "", pkgPath := "ablaut/script", byteOffset := 0 }, { name := "long", type := 3, offset := 1, embedded := false, tag := "", pkgPath := "ablaut/script", byteOffset := 24 }, { name := "behind", type := 39, offset := 2, embedded := false, tag := "", pkgPath := "ablaut/script", byteOffset := 32 }, { name := "ahead", type := 39, offset := 3, embedded := false, tag := "", pkgPath := "ablaut/script", byteOffset := 56 }], 4, 80, .agg #[.slice none 0 0, .int .i64 0, .slice none 0 0, .slice none 0 0], false, false⟩),
  (166, ⟨.struct #[{ name := "more", type := 23, offset := 0, embedded := false, tag := "", pkgPath := "ablaut/script", byteOffset := 0 }, { name := "long", type := 3, offset := 1, embedded := false, tag := "", pkgPath := "ablaut/script", byteOffset := 24 }, { name := "behind", type := 39, offset := 2, embedded := false, tag := "", pkgPath := "ablaut/script", byteOffset := 32 }, { name := "ahead", type := 39, offset := 3, embedded := false, tag := "", pkgPath := "ablaut/script", byteOffset := 56 }], 4, 80, .agg #[.slice none 0 0, .int .i64 0, .slice none 0 0, .slice none 0 0], false, false⟩),
  (169, ⟨.pointer 171, 1, 8, .pointer none, false, false⟩),
  (170, ⟨.struct #[{ name := "words", type := 58, offset := 0, embedded := false, tag := "", pkgPath := "ablaut/ablautref25", byteOffset := 0 }, { name := "rests", type := 58, offset := 1, embedded := false, tag := "", pkgPath := "ablaut/ablautref25", byteOffset := 24 }, { name := "least", type := 39, offset := 2, embedded := false, tag := "", pkgPath := "ablaut/ablautref25", byteOffset := 48 }], 3, 72, .agg #[.slice none 0 0, .slice none 0 0, .slice none 0 0], false, false⟩),
  (171, ⟨.struct #[{ name := "words", type := 58, offset := 0, embedded := false, tag := "", pkgPath := "ablaut/ablautref25", byteOffset := 0 }, { name := "rests", type := 58, offset := 1, embedded := false, tag := "", pkgPath := "ablaut/ablautref25", byteOffset := 24 }, { name := "least", type := 39, offset := 2, embedded := false, tag := "", pkgPath := "ablaut/ablautref25", byteOffset := 48 }], 3, 72, .agg #[.slice none 0 0, .slice none 0 0, .slice none 0 0], false, false⟩),
  (173, ⟨.pointer 176, 1, 8, .pointer none, false, false⟩),
  (174, ⟨.slice 5, 1, 24, .slice none 0 0, false, false⟩),
  (175, ⟨.struct #[{ name := "addr", type := 173, offset := 0, embedded := false, tag := "", pkgPath := "strings", byteOffset := 0 }, { name := "buf", type := 174, offset := 1, embedded := false, tag := "", pkgPath := "strings", byteOffset := 8 }], 2, 32, .agg #[.pointer none, .slice none 0 0], false, false⟩),
  (176, ⟨.struct #[{ name := "addr", type := 173, offset := 0, embedded := false, tag := "", pkgPath := "strings", byteOffset := 0 }, { name := "buf", type := 174, offset := 1, embedded := false, tag := "", pkgPath := "strings", byteOffset := 8 }], 2, 32, .agg #[.pointer none, .slice none 0 0], false, false⟩),
  (203, ⟨.int .i64, 1, 8, .int .i64 0, false, false⟩),
  (210, ⟨.int .u32, 1, 4, .int .u32 0, false, false⟩),
  (212, ⟨.int .u64, 1, 8, .int .u64 0, false, false⟩),
  (214, ⟨.pointer 5, 1, 8, .pointer none, false, false⟩),
  (233, ⟨.unsafePointer, 1, 8, .pointer none, false, false⟩)]
theorem tyL_ok : Alls (fun p : Nat × TInfo => TI Tryz.prog p.1 = some p.2) tyL := ⟨ti3, ⟨ti4, ⟨ti5, ⟨ti9, ⟨ti22, ⟨ti23, ⟨ti24, ⟨ti32, ⟨ti39, ⟨ti58, ⟨ti66, ⟨ti67, ⟨ti98, ⟨ti104, ⟨ti108, ⟨ti114, ⟨ti130, ⟨ti158, ⟨ti160, ⟨ti164, ⟨ti165, ⟨ti166, ⟨ti169, ⟨ti170, ⟨ti171, ⟨ti173, ⟨ti174, ⟨ti175, ⟨ti176, ⟨ti203, ⟨ti210, ⟨ti212, ⟨ti214, ⟨ti233, trivial⟩⟩⟩⟩⟩⟩⟩⟩⟩⟩⟩⟩⟩⟩⟩⟩⟩⟩⟩⟩⟩⟩⟩⟩⟩⟩⟩⟩⟩⟩⟩⟩⟩⟩
noncomputable def Zs : Sys := sysOf Tryz.prog tyL tyL_ok
theorem tz3 : Zs.T 3 = some ⟨.int .i64, 1, 8, .int .i64 0, false, false⟩ := by kernel_rfl
theorem tz4 : Zs.T 4 = some ⟨.bool, 1, 1, .bool false, false, false⟩ := by kernel_rfl
theorem tz5 : Zs.T 5 = some ⟨.int .u8, 1, 1, .int .u8 0, false, false⟩ := by kernel_rfl
theorem tz9 : Zs.T 9 = some ⟨.string, 1, 16, .string ⟨#[]⟩, false, false⟩ := by kernel_rfl
theorem tz22 : Zs.T 22 = some ⟨.slice 67, 1, 24, .slice none 0 0, false, false⟩ := by kernel_rfl
theorem tz23 : Zs.T 23 = some ⟨.slice 9, 1, 24, .slice none 0 0, false, false⟩ := by kernel_rfl
theorem tz24 : Zs.T 24 = some ⟨.array 2 23, 2, 48, .agg #[.slice none 0 0, .slice none 0 0], false, false⟩ := by kernel_rfl
theorem tz32 : Zs.T 32 = some ⟨.int .i64, 1, 8, .int .i64 0, false, false⟩ := by kernel_rfl
theorem tz39 : Zs.T 39 = some ⟨.slice 3, 1, 24, .slice none 0 0, false, false⟩ := by kernel_rfl
theorem tz58 : Zs.T 58 = some ⟨.slice 23, 1, 24, .slice none 0 0, false, false⟩ := by kernel_rfl
theorem tz66 : Zs.T 66 = some ⟨.struct #[{ name := "From", type := 23, offset := 0, embedded := false, tag := "", pkgPath := "", byteOffset := 0 }, { name := "To", type := 23, offset := 1, embedded := false, tag := "", pkgPath := "", byteOffset := 24 }], 2, 48, .agg #[.slice none 0 0, .slice none 0 0], false, false⟩ := by kernel_rfl
theorem tz67 : Zs.T 67 = some ⟨.struct #[{ name := "From", type := 23, offset := 0, embedded := false, tag := "", pkgPath := "", byteOffset := 0 }, { name := "To", type := 23, offset := 1, embedded := false, tag := "", pkgPath := "", byteOffset := 24 }], 2, 48, .agg #[.slice none 0 0, .slice none 0 0], false, false⟩ := by kernel_rfl
theorem tz98 : Zs.T 98 = some ⟨.func #[67, 67] #[3] false, 1, 8, .nilFunc, false, false⟩ := by kernel_rfl
theorem tz104 : Zs.T 104 = some ⟨.slice 39, 1, 24, .slice none 0 0, false, false⟩ := by kernel_rfl
theorem tz108 : Zs.T 108 = some ⟨.func #[23] #[4] false, 1, 8, .nilFunc, false, false⟩ := by kernel_rfl
theorem tz114 : Zs.T 114 = some ⟨.func #[67] #[4] false, 1, 8, .nilFunc, false, false⟩ := by kernel_rfl
theorem tz130 : Zs.T 130 = some ⟨.func #[9] #[4] false, 1, 8, .nilFunc, false, false⟩ := by kernel_rfl
theorem tz158 : Zs.T 158 = some ⟨.int .u64, 1, 8, .int .u64 0, false, false⟩ := by kernel_rfl
theorem tz160 : Zs.T 160 = some ⟨.map 9 4, 1, 8, .map none, false, false⟩ := by kernel_rfl
theorem tz164 : Zs.T 164 = some ⟨.slice 166, 1, 24, .slice none 0 0, false, false⟩ := by kernel_rfl
theorem tz165 : Zs.T 165 = some ⟨.struct #[{ name := "more", type := 23, offset := 0, embedded := false, tag := "", pkgPath := "ablaut/script", byteOffset := 0 }, { name := "long", type := 3, offset := 1, embedded := false, tag := "", pkgPath := "ablaut/script", byteOffset := 24 }, { name := "behind", type := 39, offset := 2, embedded := false, tag := "", pkgPath := "ablaut/script", byteOffset := 32 }, { name := "ahead", type := 39, offset := 3, embedded := false, tag := "", pkgPath := "ablaut/script", byteOffset := 56 }], 4, 80, .agg #[.slice none 0 0, .int .i64 0, .slice none 0 0, .slice none 0 0], false, false⟩ := by kernel_rfl
theorem tz166 : Zs.T 166 = some ⟨.struct #[{ name := "more", type := 23, offset := 0, embedded := false, tag := "", pkgPath := "ablaut/script", byteOffset := 0 }, { name := "long", type := 3, offset := 1, embedded := false, tag := "", pkgPath := "ablaut/script", byteOffset := 24 }, { name := "behind", type := 39, offset := 2, embedded := false, tag := "", pkgPath := "ablaut/script", byteOffset := 32 }, { name := "ahead", type := 39, offset := 3, embedded := false, tag := "", pkgPath := "ablaut/script", byteOffset := 56 }], 4, 80, .agg #[.slice none 0 0, .int .i64 0, .slice none 0 0, .slice none 0 0], false, false⟩ := by kernel_rfl
theorem tz169 : Zs.T 169 = some ⟨.pointer 171, 1, 8, .pointer none, false, false⟩ := by kernel_rfl
theorem tz170 : Zs.T 170 = some ⟨.struct #[{ name := "words", type := 58, offset := 0, embedded := false, tag := "", pkgPath := "ablaut/ablautref25", byteOffset := 0 }, { name := "rests", type := 58, offset := 1, embedded := false, tag := "", pkgPath := "ablaut/ablautref25", byteOffset := 24 }, { name := "least", type := 39, offset := 2, embedded := false, tag := "", pkgPath := "ablaut/ablautref25", byteOffset := 48 }], 3, 72, .agg #[.slice none 0 0, .slice none 0 0, .slice none 0 0], false, false⟩ := by kernel_rfl
theorem tz171 : Zs.T 171 = some ⟨.struct #[{ name := "words", type := 58, offset := 0, embedded := false, tag := "", pkgPath := "ablaut/ablautref25", byteOffset := 0 }, { name := "rests", type := 58, offset := 1, embedded := false, tag := "", pkgPath := "ablaut/ablautref25", byteOffset := 24 }, { name := "least", type := 39, offset := 2, embedded := false, tag := "", pkgPath := "ablaut/ablautref25", byteOffset := 48 }], 3, 72, .agg #[.slice none 0 0, .slice none 0 0, .slice none 0 0], false, false⟩ := by kernel_rfl
theorem tz173 : Zs.T 173 = some ⟨.pointer 176, 1, 8, .pointer none, false, false⟩ := by kernel_rfl
theorem tz174 : Zs.T 174 = some ⟨.slice 5, 1, 24, .slice none 0 0, false, false⟩ := by kernel_rfl
theorem tz175 : Zs.T 175 = some ⟨.struct #[{ name := "addr", type := 173, offset := 0, embedded := false, tag := "", pkgPath := "strings", byteOffset := 0 }, { name := "buf", type := 174, offset := 1, embedded := false, tag := "", pkgPath := "strings", byteOffset := 8 }], 2, 32, .agg #[.pointer none, .slice none 0 0], false, false⟩ := by kernel_rfl
theorem tz176 : Zs.T 176 = some ⟨.struct #[{ name := "addr", type := 173, offset := 0, embedded := false, tag := "", pkgPath := "strings", byteOffset := 0 }, { name := "buf", type := 174, offset := 1, embedded := false, tag := "", pkgPath := "strings", byteOffset := 8 }], 2, 32, .agg #[.pointer none, .slice none 0 0], false, false⟩ := by kernel_rfl
theorem tz203 : Zs.T 203 = some ⟨.int .i64, 1, 8, .int .i64 0, false, false⟩ := by kernel_rfl
theorem tz210 : Zs.T 210 = some ⟨.int .u32, 1, 4, .int .u32 0, false, false⟩ := by kernel_rfl
theorem tz212 : Zs.T 212 = some ⟨.int .u64, 1, 8, .int .u64 0, false, false⟩ := by kernel_rfl
theorem tz214 : Zs.T 214 = some ⟨.pointer 5, 1, 8, .pointer none, false, false⟩ := by kernel_rfl
theorem tz233 : Zs.T 233 = some ⟨.unsafePointer, 1, 8, .pointer none, false, false⟩ := by kernel_rfl
end Go.Proofs.YtldlcejlfaogbaaGreatDoor.Vs
