import Derived.Test.YtcknfhhbijlobaaDoorMD
import Derived.Test.YtcknfhhbijlobaaDoorChecked
import Derived.KernelRfl
/- D: the seat's configuration: what 'emit.py' read off the load. -/
namespace Go.Proofs.YtcknfhhbijlobaaDoor.D
open Go
set_option linter.unusedVariables false
set_option maxRecDepth 100000

noncomputable def extOf (f : FuncId) : Option (List DV → DH → Option (DV × DH)) := if f = 53 then some extIndexByte else if f = 77 then some extCount else if f = 63 then some extSame else none
noncomputable def cfg : Cfg := { P := Tryd.prog, T := tabOf Tryd.prog [70], ext := extOf, draw := drawLook true }
theorem ext_ok : ExtOk cfg.P cfg.ext := by
  intro f e h
  change extOf f = some e at h
  unfold extOf at h
  by_cases h53 : f = 53
  · rw [if_pos h53] at h
    obtain rfl := Option.some.inj h
    subst h53
    exact ext_of Tryd.func53 (e := Extern.BytealgIndexByte.indexByte) (by kernel_rfl) (by kernel_rfl) (by kernel_rfl) (by kernel_rfl) extIndexByte_ok
  rw [if_neg h53] at h
  by_cases h77 : f = 77
  · rw [if_pos h77] at h
    obtain rfl := Option.some.inj h
    subst h77
    exact ext_of Tryd.func77 (e := Extern.BytealgCount.count) (by kernel_rfl) (by kernel_rfl) (by kernel_rfl) (by kernel_rfl) extCount_ok
  rw [if_neg h77] at h
  by_cases h63 : f = 63
  · rw [if_pos h63] at h
    obtain rfl := Option.some.inj h
    subst h63
    exact ext_of Tryd.func63 (e := Extern.AbiNoEscape.same) (by kernel_rfl) (by kernel_rfl) (by kernel_rfl) (by kernel_rfl) extSame_ok
  rw [if_neg h63] at h
  cases h
theorem names_ok : (Tryd.prog.funcs.toList.all fun fn => !(fn.name == "runtime.NumGoroutine")) = true := by kernel_rfl
theorem name_ok : NameOk cfg.P := by
  intro f fn h
  have := List.all_eq_true.1 names_ok fn (by rw [Array.mem_toList_iff]; exact Array.mem_of_getElem? h)
  simpa using this
theorem draws_ok : DrawOk cfg.P cfg.T cfg.draw := draw_ok tab_ok (Checked.mixed Tryd.checked)
/-- What the evaluator finds of a law, the machine does. -/
theorem law_of {f : FuncId} {args : List DV} (hx : cfg.ext f = none) {K : DV → DH → Prop} (h : WC cfg f args H0 K) {w : World} {vs : List Value} (hv : VL G0 args vs)
    (hk : ∀ d H, K d H → d = .bool true) : Calls Tryd.prog f vs.toArray w fun e w' => e = .returned (.bool true) ∧ Go.RowKit.Below w.heap.size w w' :=
  top (v := .bool true) tab_ok ext_ok name_ok draws_ok hx h hv hk

/- 0: t -/
theorem size_0 : cfg.T.size 0 = some 1 := by kernel_rfl
theorem bytes_0 : cfg.T.bytes 0 = some 0 := by kernel_rfl
/- 2: int64 -/
theorem und_2 : cfg.T.und 2 = some (.int .i64) := Tryd.underlying2
theorem size_2 : cfg.T.size 2 = some 1 := by kernel_rfl
theorem bytes_2 : cfg.T.bytes 2 = some 8 := by kernel_rfl
theorem zero_2 : cfg.T.zero 2 = some (.int .i64 0) := by kernel_rfl
/- 3: int -/
theorem und_3 : cfg.T.und 3 = some (.int .i64) := Tryd.underlying3
theorem size_3 : cfg.T.size 3 = some 1 := by kernel_rfl
theorem bytes_3 : cfg.T.bytes 3 = some 8 := by kernel_rfl
theorem zero_3 : cfg.T.zero 3 = some (.int .i64 0) := by kernel_rfl
/- 4: bool -/
theorem und_4 : cfg.T.und 4 = some .bool := Tryd.underlying4
theorem size_4 : cfg.T.size 4 = some 1 := by kernel_rfl
theorem bytes_4 : cfg.T.bytes 4 = some 1 := by kernel_rfl
theorem zero_4 : cfg.T.zero 4 = some (.bool false) := by kernel_rfl
/- 5: uint8 -/
theorem und_5 : cfg.T.und 5 = some (.int .u8) := Tryd.underlying5
theorem size_5 : cfg.T.size 5 = some 1 := by kernel_rfl
theorem bytes_5 : cfg.T.bytes 5 = some 1 := by kernel_rfl
theorem zero_5 : cfg.T.zero 5 = some (.int .u8 0) := by kernel_rfl
/- 9: string -/
theorem und_9 : cfg.T.und 9 = some .string := Tryd.underlying9
theorem size_9 : cfg.T.size 9 = some 1 := by kernel_rfl
theorem bytes_9 : cfg.T.bytes 9 = some 16 := by kernel_rfl
theorem zero_9 : cfg.T.zero 9 = some (.str []) := by kernel_rfl
/- 12: uintptr -/
theorem und_12 : cfg.T.und 12 = some (.int .u64) := Tryd.underlying12
theorem size_12 : cfg.T.size 12 = some 1 := by kernel_rfl
theorem bytes_12 : cfg.T.bytes 12 = some 8 := by kernel_rfl
theorem zero_12 : cfg.T.zero 12 = some (.int .u64 0) := by kernel_rfl
/- 13: struct_msg_string_addr_uintptr -/
theorem und_13 : cfg.T.und 13 = some (.struct #[{ name := "msg", type := 9, offset := 0, embedded := false, tag := "", pkgPath := "runtime", byteOffset := 0 }, { name := "addr", type := 12, offset := 1, embedded := false, tag := "", pkgPath := "runtime", byteOffset := 16 }]) := Tryd.underlying13
theorem size_13 : cfg.T.size 13 = some 2 := by kernel_rfl
theorem bytes_13 : cfg.T.bytes 13 = some 24 := by kernel_rfl
theorem zero_13 : cfg.T.zero 13 = some (.agg [(.str []), (.int .u64 0)]) := by kernel_rfl
/- 15: ptr_runtime_TypeAssertionError -/
theorem und_15 : cfg.T.und 15 = some (.pointer 146) := Tryd.underlying15
theorem size_15 : cfg.T.size 15 = some 1 := by kernel_rfl
theorem bytes_15 : cfg.T.bytes 15 = some 8 := by kernel_rfl
theorem zero_15 : cfg.T.zero 15 = some .nilp := by kernel_rfl
/- 16: ptr_runtime_PanicNilError -/
theorem und_16 : cfg.T.und 16 = some (.pointer 149) := Tryd.underlying16
theorem size_16 : cfg.T.size 16 = some 1 := by kernel_rfl
theorem bytes_16 : cfg.T.bytes 16 = some 8 := by kernel_rfl
theorem zero_16 : cfg.T.zero 16 = some .nilp := by kernel_rfl
/- 20: interface_0 -/
theorem und_20 : cfg.T.und 20 = some (.interface #[]) := Tryd.underlying20
theorem size_20 : cfg.T.size 20 = some 1 := by kernel_rfl
theorem bytes_20 : cfg.T.bytes 20 = some 16 := by kernel_rfl
theorem zero_20 : cfg.T.zero 20 = some .nili := by kernel_rfl
/- 21: int32 -/
theorem und_21 : cfg.T.und 21 = some (.int .i32) := Tryd.underlying21
theorem size_21 : cfg.T.size 21 = some 1 := by kernel_rfl
theorem bytes_21 : cfg.T.bytes 21 = some 4 := by kernel_rfl
theorem zero_21 : cfg.T.zero 21 = some (.int .i32 0) := by kernel_rfl
/- 23: sl_api_Stmt -/
theorem und_23 : cfg.T.und 23 = some (.slice 33) := Tryd.underlying23
theorem size_23 : cfg.T.size 23 = some 1 := by kernel_rfl
theorem bytes_23 : cfg.T.bytes 23 = some 24 := by kernel_rfl
theorem zero_23 : cfg.T.zero 23 = some .nils := by kernel_rfl
/- 24: sl_int -/
theorem und_24 : cfg.T.und 24 = some (.slice 3) := Tryd.underlying24
theorem size_24 : cfg.T.size 24 = some 1 := by kernel_rfl
theorem bytes_24 : cfg.T.bytes 24 = some 24 := by kernel_rfl
theorem zero_24 : cfg.T.zero 24 = some .nils := by kernel_rfl
/- 25: struct_Mode_int_Stmts_sl_api_Stmt_Top_sl_int -/
theorem und_25 : cfg.T.und 25 = some (.struct #[{ name := "Mode", type := 3, offset := 0, embedded := false, tag := "", pkgPath := "", byteOffset := 0 }, { name := "Stmts", type := 23, offset := 1, embedded := false, tag := "", pkgPath := "", byteOffset := 8 }, { name := "Top", type := 24, offset := 2, embedded := false, tag := "", pkgPath := "", byteOffset := 32 }]) := Tryd.underlying25
theorem size_25 : cfg.T.size 25 = some 3 := by kernel_rfl
theorem bytes_25 : cfg.T.bytes 25 = some 56 := by kernel_rfl
theorem zero_25 : cfg.T.zero 25 = some (.agg [(.int .i64 0), .nils, .nils]) := by kernel_rfl
/- 26: api_Prog -/
theorem und_26 : cfg.T.und 26 = some (.struct #[{ name := "Mode", type := 3, offset := 0, embedded := false, tag := "", pkgPath := "", byteOffset := 0 }, { name := "Stmts", type := 23, offset := 1, embedded := false, tag := "", pkgPath := "", byteOffset := 8 }, { name := "Top", type := 24, offset := 2, embedded := false, tag := "", pkgPath := "", byteOffset := 32 }]) := Tryd.underlying26
theorem size_26 : cfg.T.size 26 = some 3 := by kernel_rfl
theorem bytes_26 : cfg.T.bytes 26 = some 56 := by kernel_rfl
theorem zero_26 : cfg.T.zero 26 = some (.agg [(.int .i64 0), .nils, .nils]) := by kernel_rfl
/- 27: api_Errno -/
theorem und_27 : cfg.T.und 27 = some (.int .i64) := Tryd.underlying27
theorem size_27 : cfg.T.size 27 = some 1 := by kernel_rfl
theorem bytes_27 : cfg.T.bytes 27 = some 8 := by kernel_rfl
theorem zero_27 : cfg.T.zero 27 = some (.int .i64 0) := by kernel_rfl
/- 28: api_Prog_int_api_Errno -/
theorem size_28 : cfg.T.size 28 = some 1 := by kernel_rfl
theorem bytes_28 : cfg.T.bytes 28 = some 0 := by kernel_rfl
/- 31: sl_sl_int -/
theorem und_31 : cfg.T.und 31 = some (.slice 24) := Tryd.underlying31
theorem size_31 : cfg.T.size 31 = some 1 := by kernel_rfl
theorem bytes_31 : cfg.T.bytes 31 = some 24 := by kernel_rfl
theorem zero_31 : cfg.T.zero 31 = some .nils := by kernel_rfl
/- 32: struct_Kind_int_S_string_T_string_U_string_N_int_At_int_L_sl_int_M_sl_int -/
theorem und_32 : cfg.T.und 32 = some (.struct #[{ name := "Kind", type := 3, offset := 0, embedded := false, tag := "", pkgPath := "", byteOffset := 0 }, { name := "S", type := 9, offset := 1, embedded := false, tag := "", pkgPath := "", byteOffset := 8 }, { name := "T", type := 9, offset := 2, embedded := false, tag := "", pkgPath := "", byteOffset := 24 }, { name := "U", type := 9, offset := 3, embedded := false, tag := "", pkgPath := "", byteOffset := 40 }, { name := "N", type := 3, offset := 4, embedded := false, tag := "", pkgPath := "", byteOffset := 56 }, { name := "At", type := 3, offset := 5, embedded := false, tag := "", pkgPath := "", byteOffset := 64 }, { name := "L", type := 24, offset := 6, embedded := false, tag := "", pkgPath := "", byteOffset := 72 }, { name := "M", type := 24, offset := 7, embedded := false, tag := "", pkgPath := "", byteOffset := 96 }]) := Tryd.underlying32
theorem size_32 : cfg.T.size 32 = some 8 := by kernel_rfl
theorem bytes_32 : cfg.T.bytes 32 = some 120 := by kernel_rfl
theorem zero_32 : cfg.T.zero 32 = some (.agg [(.int .i64 0), (.str []), (.str []), (.str []), (.int .i64 0), (.int .i64 0), .nils, .nils]) := by kernel_rfl
/- 33: api_Stmt -/
theorem und_33 : cfg.T.und 33 = some (.struct #[{ name := "Kind", type := 3, offset := 0, embedded := false, tag := "", pkgPath := "", byteOffset := 0 }, { name := "S", type := 9, offset := 1, embedded := false, tag := "", pkgPath := "", byteOffset := 8 }, { name := "T", type := 9, offset := 2, embedded := false, tag := "", pkgPath := "", byteOffset := 24 }, { name := "U", type := 9, offset := 3, embedded := false, tag := "", pkgPath := "", byteOffset := 40 }, { name := "N", type := 3, offset := 4, embedded := false, tag := "", pkgPath := "", byteOffset := 56 }, { name := "At", type := 3, offset := 5, embedded := false, tag := "", pkgPath := "", byteOffset := 64 }, { name := "L", type := 24, offset := 6, embedded := false, tag := "", pkgPath := "", byteOffset := 72 }, { name := "M", type := 24, offset := 7, embedded := false, tag := "", pkgPath := "", byteOffset := 96 }]) := Tryd.underlying33
theorem size_33 : cfg.T.size 33 = some 8 := by kernel_rfl
theorem bytes_33 : cfg.T.bytes 33 = some 120 := by kernel_rfl
theorem zero_33 : cfg.T.zero 33 = some (.agg [(.int .i64 0), (.str []), (.str []), (.str []), (.int .i64 0), (.int .i64 0), .nils, .nils]) := by kernel_rfl
/- 35: sl_string -/
theorem und_35 : cfg.T.und 35 = some (.slice 9) := Tryd.underlying35
theorem size_35 : cfg.T.size 35 = some 1 := by kernel_rfl
theorem bytes_35 : cfg.T.bytes 35 = some 24 := by kernel_rfl
theorem zero_35 : cfg.T.zero 35 = some .nils := by kernel_rfl
/- 36: sl_api_Token -/
theorem und_36 : cfg.T.und 36 = some (.slice 52) := Tryd.underlying36
theorem size_36 : cfg.T.size 36 = some 1 := by kernel_rfl
theorem bytes_36 : cfg.T.bytes 36 = some 24 := by kernel_rfl
theorem zero_36 : cfg.T.zero 36 = some .nils := by kernel_rfl
/- 37: sl_api_Token_int_api_Errno -/
theorem size_37 : cfg.T.size 37 = some 1 := by kernel_rfl
theorem bytes_37 : cfg.T.bytes 37 = some 0 := by kernel_rfl
/- 41: 2_string -/
theorem und_41 : cfg.T.und 41 = some (.array 2 9) := Tryd.underlying41
theorem size_41 : cfg.T.size 41 = some 2 := by kernel_rfl
theorem bytes_41 : cfg.T.bytes 41 = some 32 := by kernel_rfl
theorem zero_41 : cfg.T.zero 41 = some (.agg [(.str []), (.str [])]) := by kernel_rfl
/- 46: ptr_parse_parser -/
theorem und_46 : cfg.T.und 46 = some (.pointer 49) := Tryd.underlying46
theorem size_46 : cfg.T.size 46 = some 1 := by kernel_rfl
theorem bytes_46 : cfg.T.bytes 46 = some 8 := by kernel_rfl
theorem zero_46 : cfg.T.zero 46 = some .nilp := by kernel_rfl
/- 47: sl_ptr_parse_frame -/
theorem und_47 : cfg.T.und 47 = some (.slice 70) := Tryd.underlying47
theorem size_47 : cfg.T.size 47 = some 1 := by kernel_rfl
theorem bytes_47 : cfg.T.bytes 47 = some 24 := by kernel_rfl
theorem zero_47 : cfg.T.zero 47 = some .nils := by kernel_rfl
/- 48: struct_tokens_sl_api_Token_p_api_Prog_open_sl_ptr_parse_frame_at_int_e_api_Errno -/
theorem und_48 : cfg.T.und 48 = some (.struct #[{ name := "tokens", type := 36, offset := 0, embedded := false, tag := "", pkgPath := "rejoinder/parse", byteOffset := 0 }, { name := "p", type := 26, offset := 1, embedded := false, tag := "", pkgPath := "rejoinder/parse", byteOffset := 24 }, { name := "open", type := 47, offset := 4, embedded := false, tag := "", pkgPath := "rejoinder/parse", byteOffset := 80 }, { name := "at", type := 3, offset := 5, embedded := false, tag := "", pkgPath := "rejoinder/parse", byteOffset := 104 }, { name := "e", type := 27, offset := 6, embedded := false, tag := "", pkgPath := "rejoinder/parse", byteOffset := 112 }]) := Tryd.underlying48
theorem size_48 : cfg.T.size 48 = some 7 := by kernel_rfl
theorem bytes_48 : cfg.T.bytes 48 = some 120 := by kernel_rfl
theorem zero_48 : cfg.T.zero 48 = some (.agg [.nils, (.int .i64 0), .nils, .nils, .nils, (.int .i64 0), (.int .i64 0)]) := by kernel_rfl
/- 49: parse_parser -/
theorem und_49 : cfg.T.und 49 = some (.struct #[{ name := "tokens", type := 36, offset := 0, embedded := false, tag := "", pkgPath := "rejoinder/parse", byteOffset := 0 }, { name := "p", type := 26, offset := 1, embedded := false, tag := "", pkgPath := "rejoinder/parse", byteOffset := 24 }, { name := "open", type := 47, offset := 4, embedded := false, tag := "", pkgPath := "rejoinder/parse", byteOffset := 80 }, { name := "at", type := 3, offset := 5, embedded := false, tag := "", pkgPath := "rejoinder/parse", byteOffset := 104 }, { name := "e", type := 27, offset := 6, embedded := false, tag := "", pkgPath := "rejoinder/parse", byteOffset := 112 }]) := Tryd.underlying49
theorem size_49 : cfg.T.size 49 = some 7 := by kernel_rfl
theorem bytes_49 : cfg.T.bytes 49 = some 120 := by kernel_rfl
theorem zero_49 : cfg.T.zero 49 = some (.agg [.nils, (.int .i64 0), .nils, .nils, .nils, (.int .i64 0), (.int .i64 0)]) := by kernel_rfl
/- 51: struct_Kind_int_Text_string_At_int -/
theorem und_51 : cfg.T.und 51 = some (.struct #[{ name := "Kind", type := 3, offset := 0, embedded := false, tag := "", pkgPath := "", byteOffset := 0 }, { name := "Text", type := 9, offset := 1, embedded := false, tag := "", pkgPath := "", byteOffset := 8 }, { name := "At", type := 3, offset := 2, embedded := false, tag := "", pkgPath := "", byteOffset := 24 }]) := Tryd.underlying51
theorem size_51 : cfg.T.size 51 = some 3 := by kernel_rfl
theorem bytes_51 : cfg.T.bytes 51 = some 32 := by kernel_rfl
theorem zero_51 : cfg.T.zero 51 = some (.agg [(.int .i64 0), (.str []), (.int .i64 0)]) := by kernel_rfl
/- 52: api_Token -/
theorem und_52 : cfg.T.und 52 = some (.struct #[{ name := "Kind", type := 3, offset := 0, embedded := false, tag := "", pkgPath := "", byteOffset := 0 }, { name := "Text", type := 9, offset := 1, embedded := false, tag := "", pkgPath := "", byteOffset := 8 }, { name := "At", type := 3, offset := 2, embedded := false, tag := "", pkgPath := "", byteOffset := 24 }]) := Tryd.underlying52
theorem size_52 : cfg.T.size 52 = some 3 := by kernel_rfl
theorem bytes_52 : cfg.T.bytes 52 = some 32 := by kernel_rfl
theorem zero_52 : cfg.T.zero 52 = some (.agg [(.int .i64 0), (.str []), (.int .i64 0)]) := by kernel_rfl
theorem flat_52 : cfg.T.flatEq 52 = some [1, 2, 1] := by kernel_rfl
/- 56: api_Token_int_api_Errno -/
theorem size_56 : cfg.T.size 56 = some 1 := by kernel_rfl
theorem bytes_56 : cfg.T.bytes 56 = some 0 := by kernel_rfl
/- 59: uint64 -/
theorem und_59 : cfg.T.und 59 = some (.int .u64) := Tryd.underlying59
theorem size_59 : cfg.T.size 59 = some 1 := by kernel_rfl
theorem bytes_59 : cfg.T.bytes 59 = some 8 := by kernel_rfl
theorem zero_59 : cfg.T.zero 59 = some (.int .u64 0) := by kernel_rfl
/- 60: string_bool -/
theorem size_60 : cfg.T.size 60 = some 1 := by kernel_rfl
theorem bytes_60 : cfg.T.bytes 60 = some 0 := by kernel_rfl
/- 65: string_string_bool -/
theorem size_65 : cfg.T.size 65 = some 1 := by kernel_rfl
theorem bytes_65 : cfg.T.bytes 65 = some 0 := by kernel_rfl
/- 67: string_int -/
theorem size_67 : cfg.T.size 67 = some 1 := by kernel_rfl
theorem bytes_67 : cfg.T.bytes 67 = some 0 := by kernel_rfl
/- 70: ptr_parse_frame -/
theorem und_70 : cfg.T.und 70 = some (.pointer 72) := Tryd.underlying70
theorem size_70 : cfg.T.size 70 = some 1 := by kernel_rfl
theorem bytes_70 : cfg.T.bytes 70 = some 8 := by kernel_rfl
theorem zero_70 : cfg.T.zero 70 = some .nilp := by kernel_rfl
/- 71: struct_s_api_Stmt_other_bool -/
theorem und_71 : cfg.T.und 71 = some (.struct #[{ name := "s", type := 33, offset := 0, embedded := false, tag := "", pkgPath := "rejoinder/parse", byteOffset := 0 }, { name := "other", type := 4, offset := 8, embedded := false, tag := "", pkgPath := "rejoinder/parse", byteOffset := 120 }]) := Tryd.underlying71
theorem size_71 : cfg.T.size 71 = some 9 := by kernel_rfl
theorem bytes_71 : cfg.T.bytes 71 = some 128 := by kernel_rfl
theorem zero_71 : cfg.T.zero 71 = some (.agg [(.int .i64 0), (.str []), (.str []), (.str []), (.int .i64 0), (.int .i64 0), .nils, .nils, (.bool false)]) := by kernel_rfl
/- 72: parse_frame -/
theorem und_72 : cfg.T.und 72 = some (.struct #[{ name := "s", type := 33, offset := 0, embedded := false, tag := "", pkgPath := "rejoinder/parse", byteOffset := 0 }, { name := "other", type := 4, offset := 8, embedded := false, tag := "", pkgPath := "rejoinder/parse", byteOffset := 120 }]) := Tryd.underlying72
theorem size_72 : cfg.T.size 72 = some 9 := by kernel_rfl
theorem bytes_72 : cfg.T.bytes 72 = some 128 := by kernel_rfl
theorem zero_72 : cfg.T.zero 72 = some (.agg [(.int .i64 0), (.str []), (.str []), (.str []), (.int .i64 0), (.int .i64 0), .nils, .nils, (.bool false)]) := by kernel_rfl
/- 75: ptr_string -/
theorem und_75 : cfg.T.und 75 = some (.pointer 9) := Tryd.underlying75
theorem size_75 : cfg.T.size 75 = some 1 := by kernel_rfl
theorem bytes_75 : cfg.T.bytes 75 = some 8 := by kernel_rfl
theorem zero_75 : cfg.T.zero 75 = some .nilp := by kernel_rfl
/- 76: sl_ptr_string -/
theorem und_76 : cfg.T.und 76 = some (.slice 75) := Tryd.underlying76
theorem size_76 : cfg.T.size 76 = some 1 := by kernel_rfl
theorem bytes_76 : cfg.T.bytes 76 = some 24 := by kernel_rfl
theorem zero_76 : cfg.T.zero 76 = some .nils := by kernel_rfl
/- 77: int_bool -/
theorem size_77 : cfg.T.size 77 = some 1 := by kernel_rfl
theorem bytes_77 : cfg.T.bytes 77 = some 0 := by kernel_rfl
/- 79: string_int_api_Errno -/
theorem size_79 : cfg.T.size 79 = some 1 := by kernel_rfl
theorem bytes_79 : cfg.T.bytes 79 = some 0 := by kernel_rfl
/- 83: ptr_strings_Builder -/
theorem und_83 : cfg.T.und 83 = some (.pointer 86) := Tryd.underlying83
theorem size_83 : cfg.T.size 83 = some 1 := by kernel_rfl
theorem bytes_83 : cfg.T.bytes 83 = some 8 := by kernel_rfl
theorem zero_83 : cfg.T.zero 83 = some .nilp := by kernel_rfl
/- 84: sl_uint8 -/
theorem und_84 : cfg.T.und 84 = some (.slice 5) := Tryd.underlying84
theorem size_84 : cfg.T.size 84 = some 1 := by kernel_rfl
theorem bytes_84 : cfg.T.bytes 84 = some 24 := by kernel_rfl
theorem zero_84 : cfg.T.zero 84 = some .nils := by kernel_rfl
/- 85: struct_addr_ptr_strings_Builder_buf_sl_uint8 -/
theorem und_85 : cfg.T.und 85 = some (.struct #[{ name := "addr", type := 83, offset := 0, embedded := false, tag := "", pkgPath := "strings", byteOffset := 0 }, { name := "buf", type := 84, offset := 1, embedded := false, tag := "", pkgPath := "strings", byteOffset := 8 }]) := Tryd.underlying85
theorem size_85 : cfg.T.size 85 = some 2 := by kernel_rfl
theorem bytes_85 : cfg.T.bytes 85 = some 32 := by kernel_rfl
theorem zero_85 : cfg.T.zero 85 = some (.agg [.nilp, .nils]) := by kernel_rfl
/- 86: strings_Builder -/
theorem und_86 : cfg.T.und 86 = some (.struct #[{ name := "addr", type := 83, offset := 0, embedded := false, tag := "", pkgPath := "strings", byteOffset := 0 }, { name := "buf", type := 84, offset := 1, embedded := false, tag := "", pkgPath := "strings", byteOffset := 8 }]) := Tryd.underlying86
theorem size_86 : cfg.T.size 86 = some 2 := by kernel_rfl
theorem bytes_86 : cfg.T.bytes 86 = some 32 := by kernel_rfl
theorem zero_86 : cfg.T.zero 86 = some (.agg [.nilp, .nils]) := by kernel_rfl
/- 90: error -/
theorem und_90 : cfg.T.und 90 = some (.interface #[("Error", 88)]) := Tryd.underlying90
theorem size_90 : cfg.T.size 90 = some 1 := by kernel_rfl
theorem bytes_90 : cfg.T.bytes 90 = some 16 := by kernel_rfl
theorem zero_90 : cfg.T.zero 90 = some .nili := by kernel_rfl
/- 94: int_error -/
theorem size_94 : cfg.T.size 94 = some 1 := by kernel_rfl
theorem bytes_94 : cfg.T.bytes 94 = some 0 := by kernel_rfl
/- 97: ptr_uint8 -/
theorem und_97 : cfg.T.und 97 = some (.pointer 5) := Tryd.underlying97
theorem size_97 : cfg.T.size 97 = some 1 := by kernel_rfl
theorem bytes_97 : cfg.T.bytes 97 = some 8 := by kernel_rfl
theorem zero_97 : cfg.T.zero 97 = some .nilp := by kernel_rfl
/- 102: uint -/
theorem und_102 : cfg.T.und 102 = some (.int .u64) := Tryd.underlying102
theorem size_102 : cfg.T.size 102 = some 1 := by kernel_rfl
theorem bytes_102 : cfg.T.bytes 102 = some 8 := by kernel_rfl
theorem zero_102 : cfg.T.zero 102 = some (.int .u64 0) := by kernel_rfl
/- 103: unsafe_Pointer -/
theorem und_103 : cfg.T.und 103 = some .unsafePointer := Tryd.underlying103
theorem size_103 : cfg.T.size 103 = some 1 := by kernel_rfl
theorem bytes_103 : cfg.T.bytes 103 = some 8 := by kernel_rfl
theorem zero_103 : cfg.T.zero 103 = some .nilp := by kernel_rfl
/- 107: int32_int -/
theorem size_107 : cfg.T.size 107 = some 1 := by kernel_rfl
theorem bytes_107 : cfg.T.bytes 107 = some 0 := by kernel_rfl
/- 110: int64_error -/
theorem size_110 : cfg.T.size 110 = some 1 := by kernel_rfl
theorem bytes_110 : cfg.T.bytes 110 = some 0 := by kernel_rfl
/- 112: ptr_strconv_NumError -/
theorem und_112 : cfg.T.und 112 = some (.pointer 121) := Tryd.underlying112
theorem size_112 : cfg.T.size 112 = some 1 := by kernel_rfl
theorem bytes_112 : cfg.T.bytes 112 = some 8 := by kernel_rfl
theorem zero_112 : cfg.T.zero 112 = some .nilp := by kernel_rfl
/- 115: uint32 -/
theorem und_115 : cfg.T.und 115 = some (.int .u32) := Tryd.underlying115
theorem size_115 : cfg.T.size 115 = some 1 := by kernel_rfl
theorem bytes_115 : cfg.T.bytes 115 = some 4 := by kernel_rfl
theorem zero_115 : cfg.T.zero 115 = some (.int .u32 0) := by kernel_rfl
/- 116: uint32_uint32 -/
theorem size_116 : cfg.T.size 116 = some 1 := by kernel_rfl
theorem bytes_116 : cfg.T.bytes 116 = some 0 := by kernel_rfl
/- 118: uint64_error -/
theorem size_118 : cfg.T.size 118 = some 1 := by kernel_rfl
theorem bytes_118 : cfg.T.bytes 118 = some 0 := by kernel_rfl
/- 120: struct_Func_string_Num_string_Err_error -/
theorem und_120 : cfg.T.und 120 = some (.struct #[{ name := "Func", type := 9, offset := 0, embedded := false, tag := "", pkgPath := "", byteOffset := 0 }, { name := "Num", type := 9, offset := 1, embedded := false, tag := "", pkgPath := "", byteOffset := 16 }, { name := "Err", type := 90, offset := 2, embedded := false, tag := "", pkgPath := "", byteOffset := 32 }]) := Tryd.underlying120
theorem size_120 : cfg.T.size 120 = some 3 := by kernel_rfl
theorem bytes_120 : cfg.T.bytes 120 = some 48 := by kernel_rfl
theorem zero_120 : cfg.T.zero 120 = some (.agg [(.str []), (.str []), .nili]) := by kernel_rfl
/- 121: strconv_NumError -/
theorem und_121 : cfg.T.und 121 = some (.struct #[{ name := "Func", type := 9, offset := 0, embedded := false, tag := "", pkgPath := "", byteOffset := 0 }, { name := "Num", type := 9, offset := 1, embedded := false, tag := "", pkgPath := "", byteOffset := 16 }, { name := "Err", type := 90, offset := 2, embedded := false, tag := "", pkgPath := "", byteOffset := 32 }]) := Tryd.underlying121
theorem size_121 : cfg.T.size 121 = some 3 := by kernel_rfl
theorem bytes_121 : cfg.T.bytes 121 = some 48 := by kernel_rfl
theorem zero_121 : cfg.T.zero 121 = some (.agg [(.str []), (.str []), .nili]) := by kernel_rfl
/- 124: 256_uint8 -/
theorem und_124 : cfg.T.und 124 = some (.array 256 5) := Tryd.underlying124
theorem size_124 : cfg.T.size 124 = some 256 := by kernel_rfl
theorem bytes_124 : cfg.T.bytes 124 = some 256 := by kernel_rfl
/- 125: struct_lo_uint8_hi_uint8 -/
theorem und_125 : cfg.T.und 125 = some (.struct #[{ name := "lo", type := 5, offset := 0, embedded := false, tag := "", pkgPath := "unicode/utf8", byteOffset := 0 }, { name := "hi", type := 5, offset := 1, embedded := false, tag := "", pkgPath := "unicode/utf8", byteOffset := 1 }]) := Tryd.underlying125
theorem size_125 : cfg.T.size 125 = some 2 := by kernel_rfl
theorem bytes_125 : cfg.T.bytes 125 = some 2 := by kernel_rfl
theorem zero_125 : cfg.T.zero 125 = some (.agg [(.int .u8 0), (.int .u8 0)]) := by kernel_rfl
/- 126: unicode_utf8_acceptRange -/
theorem und_126 : cfg.T.und 126 = some (.struct #[{ name := "lo", type := 5, offset := 0, embedded := false, tag := "", pkgPath := "unicode/utf8", byteOffset := 0 }, { name := "hi", type := 5, offset := 1, embedded := false, tag := "", pkgPath := "unicode/utf8", byteOffset := 1 }]) := Tryd.underlying126
theorem size_126 : cfg.T.size 126 = some 2 := by kernel_rfl
theorem bytes_126 : cfg.T.bytes 126 = some 2 := by kernel_rfl
theorem zero_126 : cfg.T.zero 126 = some (.agg [(.int .u8 0), (.int .u8 0)]) := by kernel_rfl
/- 127: 16_utf8_acceptRange -/
theorem und_127 : cfg.T.und 127 = some (.array 16 126) := Tryd.underlying127
theorem size_127 : cfg.T.size 127 = some 32 := by kernel_rfl
theorem bytes_127 : cfg.T.bytes 127 = some 32 := by kernel_rfl
theorem zero_127 : cfg.T.zero 127 = some (.agg [(.int .u8 0), (.int .u8 0), (.int .u8 0), (.int .u8 0), (.int .u8 0), (.int .u8 0), (.int .u8 0), (.int .u8 0), (.int .u8 0), (.int .u8 0), (.int .u8 0), (.int .u8 0), (.int .u8 0), (.int .u8 0), (.int .u8 0), (.int .u8 0), (.int .u8 0), (.int .u8 0), (.int .u8 0), (.int .u8 0), (.int .u8 0), (.int .u8 0), (.int .u8 0), (.int .u8 0), (.int .u8 0), (.int .u8 0), (.int .u8 0), (.int .u8 0), (.int .u8 0), (.int .u8 0), (.int .u8 0), (.int .u8 0)]) := by kernel_rfl
/- 128: ptr_errors_errorString -/
theorem und_128 : cfg.T.und 128 = some (.pointer 130) := Tryd.underlying128
theorem size_128 : cfg.T.size 128 = some 1 := by kernel_rfl
theorem bytes_128 : cfg.T.bytes 128 = some 8 := by kernel_rfl
theorem zero_128 : cfg.T.zero 128 = some .nilp := by kernel_rfl
/- 129: struct_s_string -/
theorem und_129 : cfg.T.und 129 = some (.struct #[{ name := "s", type := 9, offset := 0, embedded := false, tag := "", pkgPath := "errors", byteOffset := 0 }]) := Tryd.underlying129
theorem size_129 : cfg.T.size 129 = some 1 := by kernel_rfl
theorem bytes_129 : cfg.T.bytes 129 = some 16 := by kernel_rfl
theorem zero_129 : cfg.T.zero 129 = some (.agg [(.str [])]) := by kernel_rfl
/- 130: errors_errorString -/
theorem und_130 : cfg.T.und 130 = some (.struct #[{ name := "s", type := 9, offset := 0, embedded := false, tag := "", pkgPath := "errors", byteOffset := 0 }]) := Tryd.underlying130
theorem size_130 : cfg.T.size 130 = some 1 := by kernel_rfl
theorem bytes_130 : cfg.T.bytes 130 = some 16 := by kernel_rfl
theorem zero_130 : cfg.T.zero 130 = some (.agg [(.str [])]) := by kernel_rfl
/- 132: 24_uint8 -/
theorem und_132 : cfg.T.und 132 = some (.array 24 5) := Tryd.underlying132
theorem size_132 : cfg.T.size 132 = some 24 := by kernel_rfl
theorem bytes_132 : cfg.T.bytes 132 = some 24 := by kernel_rfl
theorem zero_132 : cfg.T.zero 132 = some (.agg [(.int .u8 0), (.int .u8 0), (.int .u8 0), (.int .u8 0), (.int .u8 0), (.int .u8 0), (.int .u8 0), (.int .u8 0), (.int .u8 0), (.int .u8 0), (.int .u8 0), (.int .u8 0), (.int .u8 0), (.int .u8 0), (.int .u8 0), (.int .u8 0), (.int .u8 0), (.int .u8 0), (.int .u8 0), (.int .u8 0), (.int .u8 0), (.int .u8 0), (.int .u8 0), (.int .u8 0)]) := by kernel_rfl
/- 135: sl_uint8_string -/
theorem size_135 : cfg.T.size 135 = some 1 := by kernel_rfl
theorem bytes_135 : cfg.T.bytes 135 = some 0 := by kernel_rfl
/- 138: 20_uint64 -/
theorem und_138 : cfg.T.und 138 = some (.array 20 59) := Tryd.underlying138
theorem size_138 : cfg.T.size 138 = some 20 := by kernel_rfl
theorem bytes_138 : cfg.T.bytes 138 = some 160 := by kernel_rfl
theorem zero_138 : cfg.T.zero 138 = some (.agg [(.int .u64 0), (.int .u64 0), (.int .u64 0), (.int .u64 0), (.int .u64 0), (.int .u64 0), (.int .u64 0), (.int .u64 0), (.int .u64 0), (.int .u64 0), (.int .u64 0), (.int .u64 0), (.int .u64 0), (.int .u64 0), (.int .u64 0), (.int .u64 0), (.int .u64 0), (.int .u64 0), (.int .u64 0), (.int .u64 0)]) := by kernel_rfl
/- 139: 65_uint8 -/
theorem und_139 : cfg.T.und 139 = some (.array 65 5) := Tryd.underlying139
theorem size_139 : cfg.T.size 139 = some 65 := by kernel_rfl
theorem bytes_139 : cfg.T.bytes 139 = some 65 := by kernel_rfl
/- 143: 32_uint8 -/
theorem und_143 : cfg.T.und 143 = some (.array 32 5) := Tryd.underlying143
theorem size_143 : cfg.T.size 143 = some 32 := by kernel_rfl
theorem bytes_143 : cfg.T.bytes 143 = some 32 := by kernel_rfl
theorem zero_143 : cfg.T.zero 143 = some (.agg [(.int .u8 0), (.int .u8 0), (.int .u8 0), (.int .u8 0), (.int .u8 0), (.int .u8 0), (.int .u8 0), (.int .u8 0), (.int .u8 0), (.int .u8 0), (.int .u8 0), (.int .u8 0), (.int .u8 0), (.int .u8 0), (.int .u8 0), (.int .u8 0), (.int .u8 0), (.int .u8 0), (.int .u8 0), (.int .u8 0), (.int .u8 0), (.int .u8 0), (.int .u8 0), (.int .u8 0), (.int .u8 0), (.int .u8 0), (.int .u8 0), (.int .u8 0), (.int .u8 0), (.int .u8 0), (.int .u8 0), (.int .u8 0)]) := by kernel_rfl
/- 144: 64_uint8 -/
theorem und_144 : cfg.T.und 144 = some (.array 64 5) := Tryd.underlying144
theorem size_144 : cfg.T.size 144 = some 64 := by kernel_rfl
theorem bytes_144 : cfg.T.bytes 144 = some 64 := by kernel_rfl
/- 147: 0_ptr_runtime_PanicNilError -/
theorem und_147 : cfg.T.und 147 = some (.array 0 16) := Tryd.underlying147
theorem size_147 : cfg.T.size 147 = some 0 := by kernel_rfl
theorem bytes_147 : cfg.T.bytes 147 = some 0 := by kernel_rfl
theorem zero_147 : cfg.T.zero 147 = some (.agg []) := by kernel_rfl
/- 148: struct_0_ptr_runtime_PanicNilError -/
theorem und_148 : cfg.T.und 148 = some (.struct #[{ name := "_", type := 147, offset := 0, embedded := false, tag := "", pkgPath := "runtime", byteOffset := 0 }]) := Tryd.underlying148
theorem size_148 : cfg.T.size 148 = some 0 := by kernel_rfl
theorem bytes_148 : cfg.T.bytes 148 = some 0 := by kernel_rfl
theorem zero_148 : cfg.T.zero 148 = some (.agg []) := by kernel_rfl
attribute [go_sem] size_0 bytes_0 und_2 size_2 bytes_2 zero_2 und_3 size_3 bytes_3 zero_3 und_4 size_4 bytes_4 zero_4 und_5 size_5 bytes_5 zero_5 und_9 size_9
attribute [go_sem] bytes_9 zero_9 und_12 size_12 bytes_12 zero_12 und_13 size_13 bytes_13 zero_13 und_15 size_15 bytes_15 zero_15 und_16 size_16 bytes_16 zero_16 und_20 size_20
attribute [go_sem] bytes_20 zero_20 und_21 size_21 bytes_21 zero_21 und_23 size_23 bytes_23 zero_23 und_24 size_24 bytes_24 zero_24 und_25 size_25 bytes_25 zero_25 und_26 size_26
attribute [go_sem] bytes_26 zero_26 und_27 size_27 bytes_27 zero_27 size_28 bytes_28 und_31 size_31 bytes_31 zero_31 und_32 size_32 bytes_32 zero_32 und_33 size_33 bytes_33 zero_33
attribute [go_sem] und_35 size_35 bytes_35 zero_35 und_36 size_36 bytes_36 zero_36 size_37 bytes_37 und_41 size_41 bytes_41 zero_41 und_46 size_46 bytes_46 zero_46 und_47 size_47
attribute [go_sem] bytes_47 zero_47 und_48 size_48 bytes_48 zero_48 und_49 size_49 bytes_49 zero_49 und_51 size_51 bytes_51 zero_51 und_52 size_52 bytes_52 zero_52 flat_52 size_56
attribute [go_sem] bytes_56 und_59 size_59 bytes_59 zero_59 size_60 bytes_60 size_65 bytes_65 size_67 bytes_67 und_70 size_70 bytes_70 zero_70 und_71 size_71 bytes_71 zero_71 und_72
attribute [go_sem] size_72 bytes_72 zero_72 und_75 size_75 bytes_75 zero_75 und_76 size_76 bytes_76 zero_76 size_77 bytes_77 size_79 bytes_79 und_83 size_83 bytes_83 zero_83 und_84
attribute [go_sem] size_84 bytes_84 zero_84 und_85 size_85 bytes_85 zero_85 und_86 size_86 bytes_86 zero_86 und_90 size_90 bytes_90 zero_90 size_94 bytes_94 und_97 size_97 bytes_97
attribute [go_sem] zero_97 und_102 size_102 bytes_102 zero_102 und_103 size_103 bytes_103 zero_103 size_107 bytes_107 size_110 bytes_110 und_112 size_112 bytes_112 zero_112 und_115 size_115 bytes_115
attribute [go_sem] zero_115 size_116 bytes_116 size_118 bytes_118 und_120 size_120 bytes_120 zero_120 und_121 size_121 bytes_121 zero_121 und_124 size_124 bytes_124 und_125 size_125 bytes_125 zero_125
attribute [go_sem] und_126 size_126 bytes_126 zero_126 und_127 size_127 bytes_127 zero_127 und_128 size_128 bytes_128 zero_128 und_129 size_129 bytes_129 zero_129 und_130 size_130 bytes_130 zero_130
attribute [go_sem] und_132 size_132 bytes_132 zero_132 size_135 bytes_135 und_138 size_138 bytes_138 zero_138 und_139 size_139 bytes_139 und_143 size_143 bytes_143 zero_143 und_144 size_144 bytes_144
attribute [go_sem] und_147 size_147 bytes_147 zero_147 und_148 size_148 bytes_148 zero_148
end Go.Proofs.YtcknfhhbijlobaaDoor.D
