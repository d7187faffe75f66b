import Derived.Test.YtcknfhhbijlobaaGreatDoorMD
import Derived.Test.YtcknfhhbijlobaaGreatDoorChecked
import Derived.KernelRfl
namespace Go.Proofs.YtcknfhhbijlobaaGreatDoor.D
open Go
set_option linter.unusedVariables false
set_option maxRecDepth 100000
noncomputable def extOf (f : FuncId) : Option (List DV → DH → Option (DV × DH)) := if f = 124 then some extIndexByte else if f = 163 then some extCount else if f = 139 then some extSame else if f = 38 then some (pick Tryz.prog 38 ofQ) else none
noncomputable def cfg : Cfg := { P := Tryz.prog, T := tabOf Tryz.prog [112, 57], ext := extOf, draw := drawLook true }
set_option maxHeartbeats 8000000 in
theorem ext_ok : ExtOk cfg.P cfg.ext := by
 intro f e h
 change extOf f = some e at h
 unfold extOf at h
 by_cases h124 : f = 124
 ·rw [if_pos h124] at h
  obtain rfl := Option.some.inj h
  subst h124
  exact ext_of Tryz.func124 (e := Extern.BytealgIndexByte.indexByte) (by kernel_rfl) (by kernel_rfl) (by kernel_rfl) (by kernel_rfl) extIndexByte_ok
 rw [if_neg h124] at h
 by_cases h163 : f = 163
 ·rw [if_pos h163] at h
  obtain rfl := Option.some.inj h
  subst h163
  exact ext_of Tryz.func163 (e := Extern.BytealgCount.count) (by kernel_rfl) (by kernel_rfl) (by kernel_rfl) (by kernel_rfl) extCount_ok
 rw [if_neg h163] at h
 by_cases h139 : f = 139
 ·rw [if_pos h139] at h
  obtain rfl := Option.some.inj h
  subst h139
  exact ext_of Tryz.func139 (e := Extern.AbiNoEscape.same) (by kernel_rfl) (by kernel_rfl) (by kernel_rfl) (by kernel_rfl) extSame_ok
 rw [if_neg h139] at h
 by_cases h38 : f = 38
 ·rw [if_pos h38] at h
  obtain rfl := Option.some.inj h
  subst h38
  exact fun args H d H' hh G w vs hr hv => pick_ok args H d H' hh G w vs hr hv
 rw [if_neg h38] at h
 cases h
theorem names_ok : (Tryz.prog.funcs.toList.all fun fn => !(fn.name == "runtime.NumGoroutine")) = true := by kernel_rfl
theorem name_ok : NameOk cfg.P := by
 intro f fn h
 have := List.all_eq_true.1 names_ok fn (by rw [Array.mem_toList_iff]; exact Array.mem_of_getElem? h)
 simpa using this
theorem draws_ok : DrawOk cfg.P cfg.T cfg.draw := draw_ok tab_ok (Checked.mixed Tryz.checked)
theorem law_of {f : FuncId} {args : List DV} (hx : cfg.ext f = none) {K : DV → DH → Prop} (h : WC cfg f args H0 K) {w : World} {vs : List Value} (hv : VL G0 args vs)
  (hk : ∀ d H, K d H → d = .bool true) : Calls Tryz.prog f vs.toArray w fun e w' => e = .returned (.bool true) ∧ Go.RowKit.Below w.heap.size w w' :=
 top (v := .bool true) tab_ok ext_ok name_ok draws_ok hx h hv hk
theorem und_3 : cfg.T.und 3 = some (.int .i64) := Tryz.underlying3
theorem size_3 : cfg.T.size 3 = some 1 := by kernel_rfl
theorem bytes_3 : cfg.T.bytes 3 = some 8 := by kernel_rfl
theorem zero_3 : cfg.T.zero 3 = some (.int .i64 0) := by kernel_rfl
theorem und_4 : cfg.T.und 4 = some .bool := Tryz.underlying4
theorem size_4 : cfg.T.size 4 = some 1 := by kernel_rfl
theorem und_5 : cfg.T.und 5 = some (.int .u8) := Tryz.underlying5
theorem size_5 : cfg.T.size 5 = some 1 := by kernel_rfl
theorem bytes_5 : cfg.T.bytes 5 = some 1 := by kernel_rfl
theorem zero_5 : cfg.T.zero 5 = some (.int .u8 0) := by kernel_rfl
theorem und_9 : cfg.T.und 9 = some .string := Tryz.underlying9
theorem size_9 : cfg.T.size 9 = some 1 := by kernel_rfl
theorem bytes_9 : cfg.T.bytes 9 = some 16 := by kernel_rfl
theorem zero_9 : cfg.T.zero 9 = some (.str []) := by kernel_rfl
theorem und_24 : cfg.T.und 24 = some (.slice 40) := Tryz.underlying24
theorem size_24 : cfg.T.size 24 = some 1 := by kernel_rfl
theorem und_25 : cfg.T.und 25 = some (.slice 3) := Tryz.underlying25
theorem size_25 : cfg.T.size 25 = some 1 := by kernel_rfl
theorem und_27 : cfg.T.und 27 = some (.struct #[{ name := "Mode", type := 3, offset := 0, embedded := false, tag := "", pkgPath := "", byteOffset := 0 }, { name := "Stmts", type := 24, offset := 1, embedded := false, tag := "", pkgPath := "", byteOffset := 8 }, { name := "Top", type := 25, offset := 2, embedded := false, tag := "", pkgPath := "", byteOffset := 32 }]) := Tryz.underlying27
theorem size_27 : cfg.T.size 27 = some 3 := by kernel_rfl
theorem zero_27 : cfg.T.zero 27 = some (.agg [(.int .i64 0), .nils, .nils]) := by kernel_rfl
theorem und_28 : cfg.T.und 28 = some (.int .i64) := Tryz.underlying28
theorem size_28 : cfg.T.size 28 = some 1 := by kernel_rfl
theorem und_38 : cfg.T.und 38 = some (.slice 9) := Tryz.underlying38
theorem size_38 : cfg.T.size 38 = some 1 := by kernel_rfl
theorem zero_38 : cfg.T.zero 38 = some .nils := by kernel_rfl
theorem und_40 : cfg.T.und 40 = some (.struct #[{ name := "Kind", type := 3, offset := 0, embedded := false, tag := "", pkgPath := "", byteOffset := 0 }, { name := "S", type := 9, offset := 1, embedded := false, tag := "", pkgPath := "", byteOffset := 8 }, { name := "T", type := 9, offset := 2, embedded := false, tag := "", pkgPath := "", byteOffset := 24 }, { name := "U", type := 9, offset := 3, embedded := false, tag := "", pkgPath := "", byteOffset := 40 }, { name := "N", type := 3, offset := 4, embedded := false, tag := "", pkgPath := "", byteOffset := 56 }, { name := "At", type := 3, offset := 5, embedded := false, tag := "", pkgPath := "", byteOffset := 64 }, { name := "L", type := 25, offset := 6, embedded := false, tag := "", pkgPath := "", byteOffset := 72 }, { name := "M", type := 25, offset := 7, embedded := false, tag := "", pkgPath := "", byteOffset := 96 }]) := Tryz.underlying40
theorem size_40 : cfg.T.size 40 = some 8 := by kernel_rfl
theorem bytes_40 : cfg.T.bytes 40 = some 120 := by kernel_rfl
theorem zero_40 : cfg.T.zero 40 = some (.agg [(.int .i64 0), (.str []), (.str []), (.str []), (.int .i64 0), (.int .i64 0), .nils, .nils]) := by kernel_rfl
theorem und_51 : cfg.T.und 51 = some (.slice 57) := Tryz.underlying51
theorem size_51 : cfg.T.size 51 = some 1 := by kernel_rfl
theorem und_57 : cfg.T.und 57 = some (.struct #[{ name := "Kind", type := 3, offset := 0, embedded := false, tag := "", pkgPath := "", byteOffset := 0 }, { name := "S", type := 9, offset := 1, embedded := false, tag := "", pkgPath := "", byteOffset := 8 }, { name := "T", type := 9, offset := 2, embedded := false, tag := "", pkgPath := "", byteOffset := 24 }, { name := "U", type := 9, offset := 3, embedded := false, tag := "", pkgPath := "", byteOffset := 40 }, { name := "N", type := 3, offset := 4, embedded := false, tag := "", pkgPath := "", byteOffset := 56 }, { name := "To", type := 3, offset := 5, embedded := false, tag := "", pkgPath := "", byteOffset := 64 }]) := Tryz.underlying57
theorem size_57 : cfg.T.size 57 = some 6 := by kernel_rfl
theorem bytes_57 : cfg.T.bytes 57 = some 72 := by kernel_rfl
theorem zero_57 : cfg.T.zero 57 = some (.agg [(.int .i64 0), (.str []), (.str []), (.str []), (.int .i64 0), (.int .i64 0)]) := by kernel_rfl
theorem und_58 : cfg.T.und 58 = some (.array 20 3) := Tryz.underlying58
theorem size_58 : cfg.T.size 58 = some 20 := by kernel_rfl
theorem zero_58 : cfg.T.zero 58 = some (.agg [(.int .i64 0), (.int .i64 0), (.int .i64 0), (.int .i64 0), (.int .i64 0), (.int .i64 0), (.int .i64 0), (.int .i64 0), (.int .i64 0), (.int .i64 0), (.int .i64 0), (.int .i64 0), (.int .i64 0), (.int .i64 0), (.int .i64 0), (.int .i64 0), (.int .i64 0), (.int .i64 0), (.int .i64 0), (.int .i64 0)]) := by kernel_rfl
theorem und_59 : cfg.T.und 59 = some (.array 3 5) := Tryz.underlying59
theorem und_62 : cfg.T.und 62 = some (.slice 71) := Tryz.underlying62
theorem size_62 : cfg.T.size 62 = some 1 := by kernel_rfl
theorem und_66 : cfg.T.und 66 = some (.slice 112) := Tryz.underlying66
theorem size_66 : cfg.T.size 66 = some 1 := by kernel_rfl
theorem und_68 : cfg.T.und 68 = some (.struct #[{ name := "tokens", type := 62, offset := 0, embedded := false, tag := "", pkgPath := "rejoinder/parse", byteOffset := 0 }, { name := "p", type := 27, offset := 1, embedded := false, tag := "", pkgPath := "rejoinder/parse", byteOffset := 24 }, { name := "open", type := 66, offset := 4, embedded := false, tag := "", pkgPath := "rejoinder/parse", byteOffset := 80 }, { name := "at", type := 3, offset := 5, embedded := false, tag := "", pkgPath := "rejoinder/parse", byteOffset := 104 }, { name := "e", type := 28, offset := 6, embedded := false, tag := "", pkgPath := "rejoinder/parse", byteOffset := 112 }]) := Tryz.underlying68
theorem zero_68 : cfg.T.zero 68 = some (.agg [.nils, (.int .i64 0), .nils, .nils, .nils, (.int .i64 0), (.int .i64 0)]) := by kernel_rfl
theorem und_71 : cfg.T.und 71 = some (.struct #[{ name := "Kind", type := 3, offset := 0, embedded := false, tag := "", pkgPath := "", byteOffset := 0 }, { name := "Text", type := 9, offset := 1, embedded := false, tag := "", pkgPath := "", byteOffset := 8 }, { name := "At", type := 3, offset := 2, embedded := false, tag := "", pkgPath := "", byteOffset := 24 }]) := Tryz.underlying71
theorem size_71 : cfg.T.size 71 = some 3 := by kernel_rfl
theorem bytes_71 : cfg.T.bytes 71 = some 32 := by kernel_rfl
theorem zero_71 : cfg.T.zero 71 = some (.agg [(.int .i64 0), (.str []), (.int .i64 0)]) := by kernel_rfl
theorem und_76 : cfg.T.und 76 = some (.struct #[{ name := "l", type := 62, offset := 0, embedded := false, tag := "", pkgPath := "rejoinder/rejoinderref15", byteOffset := 0 }, { name := "at", type := 3, offset := 1, embedded := false, tag := "", pkgPath := "rejoinder/rejoinderref15", byteOffset := 24 }, { name := "row", type := 24, offset := 2, embedded := false, tag := "", pkgPath := "rejoinder/rejoinderref15", byteOffset := 32 }, { name := "e", type := 28, offset := 3, embedded := false, tag := "", pkgPath := "rejoinder/rejoinderref15", byteOffset := 56 }, { name := "from", type := 3, offset := 4, embedded := false, tag := "", pkgPath := "rejoinder/rejoinderref15", byteOffset := 64 }]) := Tryz.underlying76
theorem zero_76 : cfg.T.zero 76 = some (.agg [.nils, (.int .i64 0), .nils, (.int .i64 0), (.int .i64 0)]) := by kernel_rfl
theorem und_83 : cfg.T.und 83 = some (.pointer 85) := Tryz.underlying83
theorem size_83 : cfg.T.size 83 = some 1 := by kernel_rfl
theorem und_85 : cfg.T.und 85 = some (.struct #[{ name := "p", type := 27, offset := 0, embedded := false, tag := "", pkgPath := "rejoinder/check", byteOffset := 0 }, { name := "labels", type := 38, offset := 3, embedded := false, tag := "", pkgPath := "rejoinder/check", byteOffset := 56 }, { name := "sets", type := 38, offset := 4, embedded := false, tag := "", pkgPath := "rejoinder/check", byteOffset := 80 }, { name := "seen", type := 38, offset := 5, embedded := false, tag := "", pkgPath := "rejoinder/check", byteOffset := 104 }]) := Tryz.underlying85
theorem zero_85 : cfg.T.zero 85 = some (.agg [(.int .i64 0), .nils, .nils, .nils, .nils, .nils]) := by kernel_rfl
theorem und_88 : cfg.T.und 88 = some (.struct #[{ name := "e", type := 28, offset := 0, embedded := false, tag := "", pkgPath := "rejoinder/check", byteOffset := 0 }, { name := "must", type := 86, offset := 1, embedded := false, tag := "", pkgPath := "rejoinder/check", byteOffset := 8 }]) := Tryz.underlying88
theorem size_88 : cfg.T.size 88 = some 2 := by kernel_rfl
theorem zero_88 : cfg.T.zero 88 = some (.agg [(.int .i64 0), .nilf]) := by kernel_rfl
theorem und_89 : cfg.T.und 89 = some (.slice 88) := Tryz.underlying89
theorem und_92 : cfg.T.und 92 = some (.slice 96) := Tryz.underlying92
theorem und_96 : cfg.T.und 96 = some (.struct #[{ name := "Text", type := 9, offset := 0, embedded := false, tag := "", pkgPath := "", byteOffset := 0 }, { name := "Name", type := 4, offset := 1, embedded := false, tag := "", pkgPath := "", byteOffset := 16 }]) := Tryz.underlying96
theorem size_96 : cfg.T.size 96 = some 2 := by kernel_rfl
theorem bytes_96 : cfg.T.bytes 96 = some 24 := by kernel_rfl
theorem zero_96 : cfg.T.zero 96 = some (.agg [(.str []), (.bool false)]) := by kernel_rfl
theorem und_98 : cfg.T.und 98 = some (.map 9 3) := Tryz.underlying98
theorem size_98 : cfg.T.size 98 = some 1 := by kernel_rfl
theorem und_99 : cfg.T.und 99 = some (.map 3 105) := Tryz.underlying99
theorem size_99 : cfg.T.size 99 = some 1 := by kernel_rfl
theorem und_101 : cfg.T.und 101 = some (.struct #[{ name := "p", type := 27, offset := 0, embedded := false, tag := "", pkgPath := "rejoinder/code", byteOffset := 0 }, { name := "l", type := 51, offset := 3, embedded := false, tag := "", pkgPath := "rejoinder/code", byteOffset := 56 }, { name := "labels", type := 98, offset := 4, embedded := false, tag := "", pkgPath := "rejoinder/code", byteOffset := 80 }, { name := "goes", type := 99, offset := 5, embedded := false, tag := "", pkgPath := "rejoinder/code", byteOffset := 88 }]) := Tryz.underlying101
theorem zero_101 : cfg.T.zero 101 = some (.agg [(.int .i64 0), .nils, .nils, .nils, .nilm, .nilm]) := by kernel_rfl
theorem und_105 : cfg.T.und 105 = some (.struct #[{ name := "label", type := 9, offset := 0, embedded := false, tag := "", pkgPath := "rejoinder/code", byteOffset := 0 }]) := Tryz.underlying105
theorem size_105 : cfg.T.size 105 = some 1 := by kernel_rfl
theorem zero_105 : cfg.T.zero 105 = some (.agg [(.str [])]) := by kernel_rfl
theorem und_112 : cfg.T.und 112 = some (.pointer 114) := Tryz.underlying112
theorem size_112 : cfg.T.size 112 = some 1 := by kernel_rfl
theorem bytes_112 : cfg.T.bytes 112 = some 8 := by kernel_rfl
theorem zero_112 : cfg.T.zero 112 = some .nilp := by kernel_rfl
theorem und_114 : cfg.T.und 114 = some (.struct #[{ name := "s", type := 40, offset := 0, embedded := false, tag := "", pkgPath := "rejoinder/parse", byteOffset := 0 }, { name := "other", type := 4, offset := 8, embedded := false, tag := "", pkgPath := "rejoinder/parse", byteOffset := 120 }]) := Tryz.underlying114
theorem zero_114 : cfg.T.zero 114 = some (.agg [(.int .i64 0), (.str []), (.str []), (.str []), (.int .i64 0), (.int .i64 0), .nils, .nils, (.bool false)]) := by kernel_rfl
theorem und_117 : cfg.T.und 117 = some (.pointer 9) := Tryz.underlying117
theorem size_117 : cfg.T.size 117 = some 1 := by kernel_rfl
theorem zero_117 : cfg.T.zero 117 = some .nilp := by kernel_rfl
theorem und_118 : cfg.T.und 118 = some (.slice 117) := Tryz.underlying118
theorem und_140 : cfg.T.und 140 = some (.pointer 143) := Tryz.underlying140
theorem size_140 : cfg.T.size 140 = some 1 := by kernel_rfl
theorem und_141 : cfg.T.und 141 = some (.slice 5) := Tryz.underlying141
theorem size_141 : cfg.T.size 141 = some 1 := by kernel_rfl
theorem und_143 : cfg.T.und 143 = some (.struct #[{ name := "addr", type := 140, offset := 0, embedded := false, tag := "", pkgPath := "strings", byteOffset := 0 }, { name := "buf", type := 141, offset := 1, embedded := false, tag := "", pkgPath := "strings", byteOffset := 8 }]) := Tryz.underlying143
theorem size_143 : cfg.T.size 143 = some 2 := by kernel_rfl
theorem zero_143 : cfg.T.zero 143 = some (.agg [.nilp, .nils]) := by kernel_rfl
theorem und_146 : cfg.T.und 146 = some (.interface #[("Error", 144)]) := Tryz.underlying146
theorem und_160 : cfg.T.und 160 = some (.pointer 5) := Tryz.underlying160
theorem und_169 : cfg.T.und 169 = some .unsafePointer := Tryz.underlying169
theorem und_182 : cfg.T.und 182 = some (.array 256 4) := Tryz.underlying182
theorem size_182 : cfg.T.size 182 = some 256 := by kernel_rfl
attribute [go_sem] und_3 size_3 bytes_3 zero_3 und_4 size_4 und_5 size_5 bytes_5 zero_5 und_9 size_9
attribute [go_sem] bytes_9 zero_9
attribute [go_sem] und_24 size_24 und_25 size_25 und_27 size_27
attribute [go_sem] zero_27 und_28 size_28 und_38 size_38 zero_38 und_40 size_40
attribute [go_sem] bytes_40 zero_40 und_51 size_51
attribute [go_sem] und_57 size_57 bytes_57 zero_57 und_58 size_58 zero_58 und_59 und_62 size_62
attribute [go_sem] und_66 size_66 und_68 zero_68 und_71
attribute [go_sem] size_71 bytes_71 zero_71 und_76 zero_76 und_83 size_83
attribute [go_sem] und_85 zero_85 und_88 size_88 zero_88 und_89
attribute [go_sem] und_92 und_96 size_96 bytes_96 zero_96 und_98
attribute [go_sem] size_98 und_99 size_99 und_101 zero_101
attribute [go_sem] und_105 size_105 zero_105 und_112 size_112 bytes_112 zero_112 und_114
attribute [go_sem] zero_114 und_117 size_117 zero_117 und_118 und_140 size_140 und_141
attribute [go_sem] size_141 und_143 size_143 zero_143 und_146 und_160
attribute [go_sem] und_169
attribute [go_sem] und_182 size_182
end Go.Proofs.YtcknfhhbijlobaaGreatDoor.D
