/- D: the seat's configuration: what 'emit.py' read off the load. -/
import Derived.Test.YtdlcfkhpcppejaaDTop
import Derived.Test.YtdlcfkhpcppejaaDAttr
import Derived.Test.YtdlcfkhpcppejaaChecked
import Derived.KernelRfl
namespace Go.Proofs.Ytdlcfkhpcppejaa.D
open Go
set_option linter.unusedVariables false
set_option maxRecDepth 100000

noncomputable def extOf (f : FuncId) : Option (List DV → DH → Option (DV × DH)) := if f = 22 then some extIndexByte else if f = 24 then some extSame else none
noncomputable def cfg : Cfg := { P := Try.prog, T := tabOf Try.prog [], ext := extOf, draw := drawLook true }
theorem ext_ok : ExtOk cfg.P cfg.ext := by
  intro f e h
  change extOf f = some e at h
  unfold extOf at h
  by_cases h22 : f = 22
  · rw [if_pos h22] at h
    obtain rfl := Option.some.inj h
    subst h22
    exact ext_of Try.func22 (e := Extern.BytealgIndexByte.indexByte) (by kernel_rfl) (by kernel_rfl) (by kernel_rfl) (by kernel_rfl) extIndexByte_ok
  rw [if_neg h22] at h
  by_cases h24 : f = 24
  · rw [if_pos h24] at h
    obtain rfl := Option.some.inj h
    subst h24
    exact ext_of Try.func24 (e := Extern.AbiNoEscape.same) (by kernel_rfl) (by kernel_rfl) (by kernel_rfl) (by kernel_rfl) extSame_ok
  rw [if_neg h24] at h
  cases h
theorem names_ok : (Try.prog.funcs.toList.all fun fn => !(fn.name == "runtime.NumGoroutine")) = true := by kernel_rfl
theorem name_ok : NameOk cfg.P := by
  intro f fn h
  have := List.all_eq_true.1 names_ok fn (by rw [Array.mem_toList_iff]; exact Array.mem_of_getElem? h)
  simpa using this
theorem draws_ok : DrawOk cfg.P cfg.T cfg.draw := draw_ok tab_ok (Checked.mixed Try.checked)
/-- What the evaluator finds of a law, the machine does. -/
theorem law_of {f : FuncId} {args : List DV} (hx : cfg.ext f = none) {K : DV → DH → Prop} (h : WC cfg f args H0 K) {w : World} {vs : List Value} (hv : VL G0 args vs)
    (hk : ∀ d H, K d H → d = .bool true) : Calls Try.prog f vs.toArray w fun e w' => e = .returned (.bool true) ∧ Go.RowKit.Below w.heap.size w w' :=
  top (v := .bool true) tab_ok ext_ok name_ok draws_ok hx h hv hk

/- 0: t -/
theorem size_0 : cfg.T.size 0 = some 1 := by kernel_rfl
theorem bytes_0 : cfg.T.bytes 0 = some 0 := by kernel_rfl
/- 2: int64 -/
theorem und_2 : cfg.T.und 2 = some (.int .i64) := Try.underlying2
theorem size_2 : cfg.T.size 2 = some 1 := by kernel_rfl
theorem bytes_2 : cfg.T.bytes 2 = some 8 := by kernel_rfl
theorem zero_2 : cfg.T.zero 2 = some (.int .i64 0) := by kernel_rfl
/- 3: int -/
theorem und_3 : cfg.T.und 3 = some (.int .i64) := Try.underlying3
theorem size_3 : cfg.T.size 3 = some 1 := by kernel_rfl
theorem bytes_3 : cfg.T.bytes 3 = some 8 := by kernel_rfl
theorem zero_3 : cfg.T.zero 3 = some (.int .i64 0) := by kernel_rfl
/- 4: bool -/
theorem und_4 : cfg.T.und 4 = some .bool := Try.underlying4
theorem size_4 : cfg.T.size 4 = some 1 := by kernel_rfl
theorem bytes_4 : cfg.T.bytes 4 = some 1 := by kernel_rfl
theorem zero_4 : cfg.T.zero 4 = some (.bool false) := by kernel_rfl
/- 5: uint8 -/
theorem und_5 : cfg.T.und 5 = some (.int .u8) := Try.underlying5
theorem size_5 : cfg.T.size 5 = some 1 := by kernel_rfl
theorem bytes_5 : cfg.T.bytes 5 = some 1 := by kernel_rfl
theorem zero_5 : cfg.T.zero 5 = some (.int .u8 0) := by kernel_rfl
/- 9: string -/
theorem und_9 : cfg.T.und 9 = some .string := Try.underlying9
theorem size_9 : cfg.T.size 9 = some 1 := by kernel_rfl
theorem bytes_9 : cfg.T.bytes 9 = some 16 := by kernel_rfl
theorem zero_9 : cfg.T.zero 9 = some (.str []) := by kernel_rfl
/- 12: uintptr -/
theorem und_12 : cfg.T.und 12 = some (.int .u64) := Try.underlying12
theorem size_12 : cfg.T.size 12 = some 1 := by kernel_rfl
theorem bytes_12 : cfg.T.bytes 12 = some 8 := by kernel_rfl
theorem zero_12 : cfg.T.zero 12 = some (.int .u64 0) := by kernel_rfl
/- 13: struct_msg_string_addr_uintptr -/
theorem und_13 : cfg.T.und 13 = some (.struct #[{ name := "msg", type := 9, offset := 0, embedded := false, tag := "", pkgPath := "runtime", byteOffset := 0 }, { name := "addr", type := 12, offset := 1, embedded := false, tag := "", pkgPath := "runtime", byteOffset := 16 }]) := Try.underlying13
theorem size_13 : cfg.T.size 13 = some 2 := by kernel_rfl
theorem bytes_13 : cfg.T.bytes 13 = some 24 := by kernel_rfl
theorem zero_13 : cfg.T.zero 13 = some (.agg [(.str []), (.int .u64 0)]) := by kernel_rfl
/- 15: ptr_runtime_TypeAssertionError -/
theorem und_15 : cfg.T.und 15 = some (.pointer 61) := Try.underlying15
theorem size_15 : cfg.T.size 15 = some 1 := by kernel_rfl
theorem bytes_15 : cfg.T.bytes 15 = some 8 := by kernel_rfl
theorem zero_15 : cfg.T.zero 15 = some .nilp := by kernel_rfl
/- 16: ptr_runtime_PanicNilError -/
theorem und_16 : cfg.T.und 16 = some (.pointer 64) := Try.underlying16
theorem size_16 : cfg.T.size 16 = some 1 := by kernel_rfl
theorem bytes_16 : cfg.T.bytes 16 = some 8 := by kernel_rfl
theorem zero_16 : cfg.T.zero 16 = some .nilp := by kernel_rfl
/- 20: interface_0 -/
theorem size_20 : cfg.T.size 20 = some 1 := by kernel_rfl
theorem bytes_20 : cfg.T.bytes 20 = some 16 := by kernel_rfl
theorem zero_20 : cfg.T.zero 20 = some .nili := by kernel_rfl
/- 21: int32 -/
theorem und_21 : cfg.T.und 21 = some (.int .i32) := Try.underlying21
theorem size_21 : cfg.T.size 21 = some 1 := by kernel_rfl
theorem bytes_21 : cfg.T.bytes 21 = some 4 := by kernel_rfl
theorem zero_21 : cfg.T.zero 21 = some (.int .i32 0) := by kernel_rfl
/- 23: sl_api_Token -/
theorem und_23 : cfg.T.und 23 = some (.slice 28) := Try.underlying23
theorem size_23 : cfg.T.size 23 = some 1 := by kernel_rfl
theorem bytes_23 : cfg.T.bytes 23 = some 24 := by kernel_rfl
theorem zero_23 : cfg.T.zero 23 = some .nils := by kernel_rfl
/- 24: api_Errno -/
theorem und_24 : cfg.T.und 24 = some (.int .i64) := Try.underlying24
theorem size_24 : cfg.T.size 24 = some 1 := by kernel_rfl
theorem bytes_24 : cfg.T.bytes 24 = some 8 := by kernel_rfl
theorem zero_24 : cfg.T.zero 24 = some (.int .i64 0) := by kernel_rfl
/- 25: sl_api_Token_int_api_Errno -/
theorem size_25 : cfg.T.size 25 = some 1 := by kernel_rfl
theorem bytes_25 : cfg.T.bytes 25 = some 0 := by kernel_rfl
/- 27: struct_Kind_int_Text_string_At_int -/
theorem und_27 : cfg.T.und 27 = some (.struct #[{ name := "Kind", type := 3, offset := 0, embedded := false, tag := "", pkgPath := "", byteOffset := 0 }, { name := "Text", type := 9, offset := 1, embedded := false, tag := "", pkgPath := "", byteOffset := 8 }, { name := "At", type := 3, offset := 2, embedded := false, tag := "", pkgPath := "", byteOffset := 24 }]) := Try.underlying27
theorem size_27 : cfg.T.size 27 = some 3 := by kernel_rfl
theorem bytes_27 : cfg.T.bytes 27 = some 32 := by kernel_rfl
theorem zero_27 : cfg.T.zero 27 = some (.agg [(.int .i64 0), (.str []), (.int .i64 0)]) := by kernel_rfl
/- 28: api_Token -/
theorem und_28 : cfg.T.und 28 = some (.struct #[{ name := "Kind", type := 3, offset := 0, embedded := false, tag := "", pkgPath := "", byteOffset := 0 }, { name := "Text", type := 9, offset := 1, embedded := false, tag := "", pkgPath := "", byteOffset := 8 }, { name := "At", type := 3, offset := 2, embedded := false, tag := "", pkgPath := "", byteOffset := 24 }]) := Try.underlying28
theorem size_28 : cfg.T.size 28 = some 3 := by kernel_rfl
theorem bytes_28 : cfg.T.bytes 28 = some 32 := by kernel_rfl
theorem zero_28 : cfg.T.zero 28 = some (.agg [(.int .i64 0), (.str []), (.int .i64 0)]) := by kernel_rfl
theorem flat_28 : cfg.T.flatEq 28 = some [1, 2, 1] := by kernel_rfl
/- 33: string_bool -/
theorem size_33 : cfg.T.size 33 = some 1 := by kernel_rfl
theorem bytes_33 : cfg.T.bytes 33 = some 0 := by kernel_rfl
/- 38: string_string_bool -/
theorem size_38 : cfg.T.size 38 = some 1 := by kernel_rfl
theorem bytes_38 : cfg.T.bytes 38 = some 0 := by kernel_rfl
/- 40: string_int -/
theorem size_40 : cfg.T.size 40 = some 1 := by kernel_rfl
theorem bytes_40 : cfg.T.bytes 40 = some 0 := by kernel_rfl
/- 42: ptr_strings_Builder -/
theorem und_42 : cfg.T.und 42 = some (.pointer 45) := Try.underlying42
theorem size_42 : cfg.T.size 42 = some 1 := by kernel_rfl
theorem bytes_42 : cfg.T.bytes 42 = some 8 := by kernel_rfl
theorem zero_42 : cfg.T.zero 42 = some .nilp := by kernel_rfl
/- 43: sl_uint8 -/
theorem und_43 : cfg.T.und 43 = some (.slice 5) := Try.underlying43
theorem size_43 : cfg.T.size 43 = some 1 := by kernel_rfl
theorem bytes_43 : cfg.T.bytes 43 = some 24 := by kernel_rfl
theorem zero_43 : cfg.T.zero 43 = some .nils := by kernel_rfl
/- 44: struct_addr_ptr_strings_Builder_buf_sl_uint8 -/
theorem und_44 : cfg.T.und 44 = some (.struct #[{ name := "addr", type := 42, offset := 0, embedded := false, tag := "", pkgPath := "strings", byteOffset := 0 }, { name := "buf", type := 43, offset := 1, embedded := false, tag := "", pkgPath := "strings", byteOffset := 8 }]) := Try.underlying44
theorem size_44 : cfg.T.size 44 = some 2 := by kernel_rfl
theorem bytes_44 : cfg.T.bytes 44 = some 32 := by kernel_rfl
theorem zero_44 : cfg.T.zero 44 = some (.agg [.nilp, .nils]) := by kernel_rfl
/- 45: strings_Builder -/
theorem und_45 : cfg.T.und 45 = some (.struct #[{ name := "addr", type := 42, offset := 0, embedded := false, tag := "", pkgPath := "strings", byteOffset := 0 }, { name := "buf", type := 43, offset := 1, embedded := false, tag := "", pkgPath := "strings", byteOffset := 8 }]) := Try.underlying45
theorem size_45 : cfg.T.size 45 = some 2 := by kernel_rfl
theorem bytes_45 : cfg.T.bytes 45 = some 32 := by kernel_rfl
theorem zero_45 : cfg.T.zero 45 = some (.agg [.nilp, .nils]) := by kernel_rfl
/- 47: error -/
theorem size_47 : cfg.T.size 47 = some 1 := by kernel_rfl
theorem bytes_47 : cfg.T.bytes 47 = some 16 := by kernel_rfl
theorem zero_47 : cfg.T.zero 47 = some .nili := by kernel_rfl
/- 52: ptr_uint8 -/
theorem und_52 : cfg.T.und 52 = some (.pointer 5) := Try.underlying52
theorem size_52 : cfg.T.size 52 = some 1 := by kernel_rfl
theorem bytes_52 : cfg.T.bytes 52 = some 8 := by kernel_rfl
theorem zero_52 : cfg.T.zero 52 = some .nilp := by kernel_rfl
/- 53: unsafe_Pointer -/
theorem und_53 : cfg.T.und 53 = some .unsafePointer := Try.underlying53
theorem size_53 : cfg.T.size 53 = some 1 := by kernel_rfl
theorem bytes_53 : cfg.T.bytes 53 = some 8 := by kernel_rfl
theorem zero_53 : cfg.T.zero 53 = some .nilp := by kernel_rfl
/- 56: uint -/
theorem und_56 : cfg.T.und 56 = some (.int .u64) := Try.underlying56
theorem size_56 : cfg.T.size 56 = some 1 := by kernel_rfl
theorem bytes_56 : cfg.T.bytes 56 = some 8 := by kernel_rfl
theorem zero_56 : cfg.T.zero 56 = some (.int .u64 0) := by kernel_rfl
/- 57: uint32 -/
theorem und_57 : cfg.T.und 57 = some (.int .u32) := Try.underlying57
theorem size_57 : cfg.T.size 57 = some 1 := by kernel_rfl
theorem bytes_57 : cfg.T.bytes 57 = some 4 := by kernel_rfl
theorem zero_57 : cfg.T.zero 57 = some (.int .u32 0) := by kernel_rfl
/- 58: uint32_uint32 -/
theorem size_58 : cfg.T.size 58 = some 1 := by kernel_rfl
theorem bytes_58 : cfg.T.bytes 58 = some 0 := by kernel_rfl
/- 62: 0_ptr_runtime_PanicNilError -/
theorem und_62 : cfg.T.und 62 = some (.array 0 16) := Try.underlying62
theorem size_62 : cfg.T.size 62 = some 0 := by kernel_rfl
theorem bytes_62 : cfg.T.bytes 62 = some 0 := by kernel_rfl
theorem zero_62 : cfg.T.zero 62 = some (.agg []) := by kernel_rfl
/- 63: struct_0_ptr_runtime_PanicNilError -/
theorem und_63 : cfg.T.und 63 = some (.struct #[{ name := "_", type := 62, offset := 0, embedded := false, tag := "", pkgPath := "runtime", byteOffset := 0 }]) := Try.underlying63
theorem size_63 : cfg.T.size 63 = some 0 := by kernel_rfl
theorem bytes_63 : cfg.T.bytes 63 = some 0 := by kernel_rfl
theorem zero_63 : cfg.T.zero 63 = some (.agg []) := by kernel_rfl
attribute [go_sem] size_0 bytes_0 und_2 size_2 bytes_2 zero_2 und_3 size_3 bytes_3 zero_3 und_4 size_4 bytes_4 zero_4 und_5 size_5 bytes_5 zero_5 und_9 size_9
attribute [go_sem] bytes_9 zero_9 und_12 size_12 bytes_12 zero_12 und_13 size_13 bytes_13 zero_13 und_15 size_15 bytes_15 zero_15 und_16 size_16 bytes_16 zero_16 size_20 bytes_20
attribute [go_sem] zero_20 und_21 size_21 bytes_21 zero_21 und_23 size_23 bytes_23 zero_23 und_24 size_24 bytes_24 zero_24 size_25 bytes_25 und_27 size_27 bytes_27 zero_27 und_28
attribute [go_sem] size_28 bytes_28 zero_28 flat_28 size_33 bytes_33 size_38 bytes_38 size_40 bytes_40 und_42 size_42 bytes_42 zero_42 und_43 size_43 bytes_43 zero_43 und_44 size_44
attribute [go_sem] bytes_44 zero_44 und_45 size_45 bytes_45 zero_45 size_47 bytes_47 zero_47 und_52 size_52 bytes_52 zero_52 und_53 size_53 bytes_53 zero_53 und_56 size_56 bytes_56
attribute [go_sem] zero_56 und_57 size_57 bytes_57 zero_57 size_58 bytes_58 und_62 size_62 bytes_62 zero_62 und_63 size_63 bytes_63 zero_63
end Go.Proofs.Ytdlcfkhpcppejaa.D
