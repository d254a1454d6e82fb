/- Facts on the types of the seat's program, written by dgen.py. -/
import Derived.Test.YtldlcejlfaogbaaDmDen
import Derived.Test.YtldlcejlfaogbaaProg
import Derived.KernelRfl
namespace Go.Proofs.Ytldlcejlfaogbaa.Vs
set_option linter.unusedVariables false
set_option maxRecDepth 100000
theorem ti3 : TI Try.prog 3 = some ⟨.int .i64, 1, 8, .int .i64 0, false, false⟩ := by kernel_rfl
theorem ti4 : TI Try.prog 4 = some ⟨.bool, 1, 1, .bool false, false, false⟩ := by kernel_rfl
theorem ti5 : TI Try.prog 5 = some ⟨.int .u8, 1, 1, .int .u8 0, false, false⟩ := by kernel_rfl
theorem ti9 : TI Try.prog 9 = some ⟨.string, 1, 16, .string ⟨#[]⟩, false, false⟩ := by kernel_rfl
theorem ti22 : TI Try.prog 22 = some ⟨.slice 50, 1, 24, .slice none 0 0, false, false⟩ := by kernel_rfl
theorem ti23 : TI Try.prog 23 = some ⟨.slice 9, 1, 24, .slice none 0 0, false, false⟩ := by kernel_rfl
theorem ti27 : TI Try.prog 27 = some ⟨.int .i64, 1, 8, .int .i64 0, false, false⟩ := by kernel_rfl
theorem ti35 : TI Try.prog 35 = some ⟨.slice 23, 1, 24, .slice none 0 0, false, false⟩ := by kernel_rfl
theorem ti36 : TI Try.prog 36 = some ⟨.slice 42, 1, 24, .slice none 0 0, false, false⟩ := by kernel_rfl
theorem ti42 : TI Try.prog 42 = some ⟨.slice 3, 1, 24, .slice none 0 0, false, false⟩ := by kernel_rfl
theorem ti49 : TI Try.prog 49 = some ⟨.struct #[{ name := "From", type := 23, offset := 0, embedded := false, tag := "", pkgPath := "", byteOffset := 0 }, { name := "To", type := 23, offset := 1, embedded := false, tag := "", pkgPath := "", byteOffset := 24 }], 2, 48, .agg #[.slice none 0 0, .slice none 0 0], false, false⟩ := by kernel_rfl
theorem ti50 : TI Try.prog 50 = some ⟨.struct #[{ name := "From", type := 23, offset := 0, embedded := false, tag := "", pkgPath := "", byteOffset := 0 }, { name := "To", type := 23, offset := 1, embedded := false, tag := "", pkgPath := "", byteOffset := 24 }], 2, 48, .agg #[.slice none 0 0, .slice none 0 0], false, false⟩ := by kernel_rfl
theorem ti51 : TI Try.prog 51 = some ⟨.array 2 23, 2, 48, .agg #[.slice none 0 0, .slice none 0 0], false, false⟩ := by kernel_rfl
theorem ti61 : TI Try.prog 61 = some ⟨.func #[23] #[4] false, 1, 8, .nilFunc, false, false⟩ := by kernel_rfl
theorem ti63 : TI Try.prog 63 = some ⟨.pointer 65, 1, 8, .pointer none, false, false⟩ := by kernel_rfl
theorem ti64 : TI Try.prog 64 = some ⟨.struct #[{ name := "words", type := 35, offset := 0, embedded := false, tag := "", pkgPath := "ablaut/ablautref25", byteOffset := 0 }, { name := "rests", type := 35, offset := 1, embedded := false, tag := "", pkgPath := "ablaut/ablautref25", byteOffset := 24 }, { name := "least", type := 42, offset := 2, embedded := false, tag := "", pkgPath := "ablaut/ablautref25", byteOffset := 48 }], 3, 72, .agg #[.slice none 0 0, .slice none 0 0, .slice none 0 0], false, false⟩ := by kernel_rfl
theorem ti65 : TI Try.prog 65 = some ⟨.struct #[{ name := "words", type := 35, offset := 0, embedded := false, tag := "", pkgPath := "ablaut/ablautref25", byteOffset := 0 }, { name := "rests", type := 35, offset := 1, embedded := false, tag := "", pkgPath := "ablaut/ablautref25", byteOffset := 24 }, { name := "least", type := 42, offset := 2, embedded := false, tag := "", pkgPath := "ablaut/ablautref25", byteOffset := 48 }], 3, 72, .agg #[.slice none 0 0, .slice none 0 0, .slice none 0 0], false, false⟩ := by kernel_rfl
theorem ti71 : TI Try.prog 71 = some ⟨.func #[9] #[4] false, 1, 8, .nilFunc, false, false⟩ := by kernel_rfl
theorem ti74 : TI Try.prog 74 = some ⟨.slice 76, 1, 24, .slice none 0 0, false, false⟩ := by kernel_rfl
theorem ti75 : TI Try.prog 75 = some ⟨.struct #[{ name := "more", type := 23, offset := 0, embedded := false, tag := "", pkgPath := "ablaut/script", byteOffset := 0 }, { name := "long", type := 3, offset := 1, embedded := false, tag := "", pkgPath := "ablaut/script", byteOffset := 24 }, { name := "behind", type := 42, offset := 2, embedded := false, tag := "", pkgPath := "ablaut/script", byteOffset := 32 }, { name := "ahead", type := 42, offset := 3, embedded := false, tag := "", pkgPath := "ablaut/script", byteOffset := 56 }], 4, 80, .agg #[.slice none 0 0, .int .i64 0, .slice none 0 0, .slice none 0 0], false, false⟩ := by kernel_rfl
theorem ti76 : TI Try.prog 76 = some ⟨.struct #[{ name := "more", type := 23, offset := 0, embedded := false, tag := "", pkgPath := "ablaut/script", byteOffset := 0 }, { name := "long", type := 3, offset := 1, embedded := false, tag := "", pkgPath := "ablaut/script", byteOffset := 24 }, { name := "behind", type := 42, offset := 2, embedded := false, tag := "", pkgPath := "ablaut/script", byteOffset := 32 }, { name := "ahead", type := 42, offset := 3, embedded := false, tag := "", pkgPath := "ablaut/script", byteOffset := 56 }], 4, 80, .agg #[.slice none 0 0, .int .i64 0, .slice none 0 0, .slice none 0 0], false, false⟩ := by kernel_rfl
theorem ti77 : TI Try.prog 77 = some ⟨.map 9 4, 1, 8, .map none, false, false⟩ := by kernel_rfl
theorem ti82 : TI Try.prog 82 = some ⟨.func #[50] #[4] false, 1, 8, .nilFunc, false, false⟩ := by kernel_rfl
theorem ti86 : TI Try.prog 86 = some ⟨.pointer 89, 1, 8, .pointer none, false, false⟩ := by kernel_rfl
theorem ti87 : TI Try.prog 87 = some ⟨.slice 5, 1, 24, .slice none 0 0, false, false⟩ := by kernel_rfl
theorem ti88 : TI Try.prog 88 = some ⟨.struct #[{ name := "addr", type := 86, offset := 0, embedded := false, tag := "", pkgPath := "strings", byteOffset := 0 }, { name := "buf", type := 87, offset := 1, embedded := false, tag := "", pkgPath := "strings", byteOffset := 8 }], 2, 32, .agg #[.pointer none, .slice none 0 0], false, false⟩ := by kernel_rfl
theorem ti89 : TI Try.prog 89 = some ⟨.struct #[{ name := "addr", type := 86, offset := 0, embedded := false, tag := "", pkgPath := "strings", byteOffset := 0 }, { name := "buf", type := 87, offset := 1, embedded := false, tag := "", pkgPath := "strings", byteOffset := 8 }], 2, 32, .agg #[.pointer none, .slice none 0 0], false, false⟩ := by kernel_rfl
theorem ti96 : TI Try.prog 96 = some ⟨.pointer 5, 1, 8, .pointer none, false, false⟩ := by kernel_rfl
theorem ti97 : TI Try.prog 97 = some ⟨.unsafePointer, 1, 8, .pointer none, false, false⟩ := by kernel_rfl
def tyL : List (Nat × TInfo) := [(3, ⟨.int .i64, 1, 8, .int .i64 0, false, false⟩),
  (4, ⟨.bool, 1, 1, .bool false, false, false⟩),
  (5, ⟨.int .u8, 1, 1, .int .u8 0, false, false⟩),
  (9, ⟨.string, 1, 16, .string ⟨#[]⟩, false, false⟩),
  (22, ⟨.slice 50, 1, 24, .slice none 0 0, false, false⟩),
  (23, ⟨.slice 9, 1, 24, .slice none 0 0, false, false⟩),
  (27, ⟨.int .i64, 1, 8, .int .i64 0, false, false⟩),
  (35, ⟨.slice 23, 1, 24, .slice none 0 0, false, false⟩),
  (36, ⟨.slice 42, 1, 24, .slice none 0 0, false, false⟩),
  (42, ⟨.slice 3, 1, 24, .slice none 0 0, false, false⟩),
  (49, ⟨.struct #[{ name := "From", type := 23, offset := 0, embedded := false, tag := "", pkgPath := "", byteOffset := 0 }, { name := "To", type := 23, offset := 1, embedded := false, tag := "", pkgPath := "", byteOffset := 24 }], 2, 48, .agg #[.slice none 0 0, .slice none 0 0], false, false⟩),
  (50, ⟨.struct #[{ name := "From", type := 23, offset := 0, embedded := false, tag := "", pkgPath := "", byteOffset := 0 }, { name := "To", type := 23, offset := 1, embedded := false, tag := "", pkgPath := "", byteOffset := 24 }], 2, 48, .agg #[.slice none 0 0, .slice none 0 0], false, false⟩),
  (51, ⟨.array 2 23, 2, 48, .agg #[.slice none 0 0, .slice none 0 0], false, false⟩),
  (61, ⟨.func #[23] #[4] false, 1, 8, .nilFunc, false, false⟩),
  (63, ⟨.pointer 65, 1, 8, .pointer none, false, false⟩),
  (64, ⟨.struct #[{ name := "words", type := 35, offset := 0, embedded := false, tag := "", pkgPath := "ablaut/ablautref25", byteOffset := 0 }, { name := "rests", type := 35, offset := 1, embedded := false, tag := "", pkgPath := "ablaut/ablautref25", byteOffset := 24 }, { name := "least", type := 42, offset := 2, embedded := false, tag := "", pkgPath := "ablaut/ablautref25", byteOffset := 48 }], 3, 72, .agg #[.slice none 0 0, .slice none 0 0, .slice none 0 0], false, false⟩),
  (65, ⟨.struct #[{ name := "words", type := 35, offset := 0, embedded := false, tag := "", pkgPath := "ablaut/ablautref25", byteOffset := 0 }, { name := "rests", type := 35, offset := 1, embedded := false, tag := "", pkgPath := "ablaut/ablautref25", byteOffset := 24 }, { name := "least", type := 42, offset := 2, embedded := false, tag := "", pkgPath := "ablaut/ablautref25", byteOffset := 48 }], 3, 72, .agg #[.slice none 0 0, .slice none 0 0, .slice none 0 0], false, false⟩),
  (71, ⟨.func #[9] #[4] false, 1, 8, .nilFunc, false, false⟩),
  (74, ⟨.slice 76, 1, 24, .slice none 0 0, false, false⟩),
  (75, ⟨.struct #[{ name := "more", type := 23, offset := 0, embedded := false, tag := "", pkgPath := "ablaut/script", byteOffset := 0 }, { name := "long", type := 3, offset := 1, embedded := false, tag := "", pkgPath := "ablaut/script", byteOffset := 24 }, { name := "behind", type := 42, offset := 2, embedded := false, tag := "", pkgPath := "ablaut/script", byteOffset := 32 }, { name := "ahead", type := 42, offset := 3, embedded := false, tag := "", pkgPath := "ablaut/script", byteOffset := 56 }], 4, 80, .agg #[.slice none 0 0, .int .i64 0, .slice none 0 0, .slice none 0 0], false, false⟩),
  (76, ⟨.struct #[{ name := "more", type := 23, offset := 0, embedded := false, tag := "", pkgPath := "ablaut/script", byteOffset := 0 }, { name := "long", type := 3, offset := 1, embedded := false, tag := "", pkgPath := "ablaut/script", byteOffset := 24 }, { name := "behind", type := 42, offset := 2, embedded := false, tag := "", pkgPath := "ablaut/script", byteOffset := 32 }, { name := "ahead", type := 42, offset := 3, embedded := false, tag := "", pkgPath := "ablaut/script", byteOffset := 56 }], 4, 80, .agg #[.slice none 0 0, .int .i64 0, .slice none 0 0, .slice none 0 0], false, false⟩),
  (77, ⟨.map 9 4, 1, 8, .map none, false, false⟩),
  (82, ⟨.func #[50] #[4] false, 1, 8, .nilFunc, false, false⟩),
  (86, ⟨.pointer 89, 1, 8, .pointer none, false, false⟩),
  (87, ⟨.slice 5, 1, 24, .slice none 0 0, false, false⟩),
  (88, ⟨.struct #[{ name := "addr", type := 86, offset := 0, embedded := false, tag := "", pkgPath := "strings", byteOffset := 0 }, { name := "buf", type := 87, offset := 1, embedded := false, tag := "", pkgPath := "strings", byteOffset := 8 }], 2, 32, .agg #[.pointer none, .slice none 0 0], false, false⟩),
  (89, ⟨.struct #[{ name := "addr", type := 86, offset := 0, embedded := false, tag := "", pkgPath := "strings", byteOffset := 0 }, { name := "buf", type := 87, offset := 1, embedded := false, tag := "", pkgPath := "strings", byteOffset := 8 }], 2, 32, .agg #[.pointer none, .slice none 0 0], false, false⟩),
  (96, ⟨.pointer 5, 1, 8, .pointer none, false, false⟩),
  (97, ⟨.unsafePointer, 1, 8, .pointer none, false, false⟩)]
theorem tyL_ok : Alls (fun p : Nat × TInfo => TI Try.prog p.1 = some p.2) tyL := ⟨ti3, ⟨ti4, ⟨ti5, ⟨ti9, ⟨ti22, ⟨ti23, ⟨ti27, ⟨ti35, ⟨ti36, ⟨ti42, ⟨ti49, ⟨ti50, ⟨ti51, ⟨ti61, ⟨ti63, ⟨ti64, ⟨ti65, ⟨ti71, ⟨ti74, ⟨ti75, ⟨ti76, ⟨ti77, ⟨ti82, ⟨ti86, ⟨ti87, ⟨ti88, ⟨ti89, ⟨ti96, ⟨ti97, trivial⟩⟩⟩⟩⟩⟩⟩⟩⟩⟩⟩⟩⟩⟩⟩⟩⟩⟩⟩⟩⟩⟩⟩⟩⟩⟩⟩⟩⟩
noncomputable def Zs : Sys := sysOf Try.prog tyL tyL_ok
theorem tz3 : Zs.T 3 = some ⟨.int .i64, 1, 8, .int .i64 0, false, false⟩ := by kernel_rfl
theorem tz4 : Zs.T 4 = some ⟨.bool, 1, 1, .bool false, false, false⟩ := by kernel_rfl
theorem tz5 : Zs.T 5 = some ⟨.int .u8, 1, 1, .int .u8 0, false, false⟩ := by kernel_rfl
theorem tz9 : Zs.T 9 = some ⟨.string, 1, 16, .string ⟨#[]⟩, false, false⟩ := by kernel_rfl
theorem tz22 : Zs.T 22 = some ⟨.slice 50, 1, 24, .slice none 0 0, false, false⟩ := by kernel_rfl
theorem tz23 : Zs.T 23 = some ⟨.slice 9, 1, 24, .slice none 0 0, false, false⟩ := by kernel_rfl
theorem tz27 : Zs.T 27 = some ⟨.int .i64, 1, 8, .int .i64 0, false, false⟩ := by kernel_rfl
theorem tz35 : Zs.T 35 = some ⟨.slice 23, 1, 24, .slice none 0 0, false, false⟩ := by kernel_rfl
theorem tz36 : Zs.T 36 = some ⟨.slice 42, 1, 24, .slice none 0 0, false, false⟩ := by kernel_rfl
theorem tz42 : Zs.T 42 = some ⟨.slice 3, 1, 24, .slice none 0 0, false, false⟩ := by kernel_rfl
theorem tz49 : Zs.T 49 = some ⟨.struct #[{ name := "From", type := 23, offset := 0, embedded := false, tag := "", pkgPath := "", byteOffset := 0 }, { name := "To", type := 23, offset := 1, embedded := false, tag := "", pkgPath := "", byteOffset := 24 }], 2, 48, .agg #[.slice none 0 0, .slice none 0 0], false, false⟩ := by kernel_rfl
theorem tz50 : Zs.T 50 = some ⟨.struct #[{ name := "From", type := 23, offset := 0, embedded := false, tag := "", pkgPath := "", byteOffset := 0 }, { name := "To", type := 23, offset := 1, embedded := false, tag := "", pkgPath := "", byteOffset := 24 }], 2, 48, .agg #[.slice none 0 0, .slice none 0 0], false, false⟩ := by kernel_rfl
theorem tz51 : Zs.T 51 = some ⟨.array 2 23, 2, 48, .agg #[.slice none 0 0, .slice none 0 0], false, false⟩ := by kernel_rfl
theorem tz61 : Zs.T 61 = some ⟨.func #[23] #[4] false, 1, 8, .nilFunc, false, false⟩ := by kernel_rfl
theorem tz63 : Zs.T 63 = some ⟨.pointer 65, 1, 8, .pointer none, false, false⟩ := by kernel_rfl
theorem tz64 : Zs.T 64 = some ⟨.struct #[{ name := "words", type := 35, offset := 0, embedded := false, tag := "", pkgPath := "ablaut/ablautref25", byteOffset := 0 }, { name := "rests", type := 35, offset := 1, embedded := false, tag := "", pkgPath := "ablaut/ablautref25", byteOffset := 24 }, { name := "least", type := 42, offset := 2, embedded := false, tag := "", pkgPath := "ablaut/ablautref25", byteOffset := 48 }], 3, 72, .agg #[.slice none 0 0, .slice none 0 0, .slice none 0 0], false, false⟩ := by kernel_rfl
theorem tz65 : Zs.T 65 = some ⟨.struct #[{ name := "words", type := 35, offset := 0, embedded := false, tag := "", pkgPath := "ablaut/ablautref25", byteOffset := 0 }, { name := "rests", type := 35, offset := 1, embedded := false, tag := "", pkgPath := "ablaut/ablautref25", byteOffset := 24 }, { name := "least", type := 42, offset := 2, embedded := false, tag := "", pkgPath := "ablaut/ablautref25", byteOffset := 48 }], 3, 72, .agg #[.slice none 0 0, .slice none 0 0, .slice none 0 0], false, false⟩ := by kernel_rfl
theorem tz71 : Zs.T 71 = some ⟨.func #[9] #[4] false, 1, 8, .nilFunc, false, false⟩ := by kernel_rfl
theorem tz74 : Zs.T 74 = some ⟨.slice 76, 1, 24, .slice none 0 0, false, false⟩ := by kernel_rfl
theorem tz75 : Zs.T 75 = some ⟨.struct #[{ name := "more", type := 23, offset := 0, embedded := false, tag := "", pkgPath := "ablaut/script", byteOffset := 0 }, { name := "long", type := 3, offset := 1, embedded := false, tag := "", pkgPath := "ablaut/script", byteOffset := 24 }, { name := "behind", type := 42, offset := 2, embedded := false, tag := "", pkgPath := "ablaut/script", byteOffset := 32 }, { name := "ahead", type := 42, offset := 3, embedded := false, tag := "", pkgPath := "ablaut/script", byteOffset := 56 }], 4, 80, .agg #[.slice none 0 0, .int .i64 0, .slice none 0 0, .slice none 0 0], false, false⟩ := by kernel_rfl
theorem tz76 : Zs.T 76 = some ⟨.struct #[{ name := "more", type := 23, offset := 0, embedded := false, tag := "", pkgPath := "ablaut/script", byteOffset := 0 }, { name := "long", type := 3, offset := 1, embedded := false, tag := "", pkgPath := "ablaut/script", byteOffset := 24 }, { name := "behind", type := 42, offset := 2, embedded := false, tag := "", pkgPath := "ablaut/script", byteOffset := 32 }, { name := "ahead", type := 42, offset := 3, embedded := false, tag := "", pkgPath := "ablaut/script", byteOffset := 56 }], 4, 80, .agg #[.slice none 0 0, .int .i64 0, .slice none 0 0, .slice none 0 0], false, false⟩ := by kernel_rfl
theorem tz77 : Zs.T 77 = some ⟨.map 9 4, 1, 8, .map none, false, false⟩ := by kernel_rfl
theorem tz82 : Zs.T 82 = some ⟨.func #[50] #[4] false, 1, 8, .nilFunc, false, false⟩ := by kernel_rfl
theorem tz86 : Zs.T 86 = some ⟨.pointer 89, 1, 8, .pointer none, false, false⟩ := by kernel_rfl
theorem tz87 : Zs.T 87 = some ⟨.slice 5, 1, 24, .slice none 0 0, false, false⟩ := by kernel_rfl
theorem tz88 : Zs.T 88 = some ⟨.struct #[{ name := "addr", type := 86, offset := 0, embedded := false, tag := "", pkgPath := "strings", byteOffset := 0 }, { name := "buf", type := 87, offset := 1, embedded := false, tag := "", pkgPath := "strings", byteOffset := 8 }], 2, 32, .agg #[.pointer none, .slice none 0 0], false, false⟩ := by kernel_rfl
theorem tz89 : Zs.T 89 = some ⟨.struct #[{ name := "addr", type := 86, offset := 0, embedded := false, tag := "", pkgPath := "strings", byteOffset := 0 }, { name := "buf", type := 87, offset := 1, embedded := false, tag := "", pkgPath := "strings", byteOffset := 8 }], 2, 32, .agg #[.pointer none, .slice none 0 0], false, false⟩ := by kernel_rfl
theorem tz96 : Zs.T 96 = some ⟨.pointer 5, 1, 8, .pointer none, false, false⟩ := by kernel_rfl
theorem tz97 : Zs.T 97 = some ⟨.unsafePointer, 1, 8, .pointer none, false, false⟩ := by kernel_rfl
end Go.Proofs.Ytldlcejlfaogbaa.Vs
