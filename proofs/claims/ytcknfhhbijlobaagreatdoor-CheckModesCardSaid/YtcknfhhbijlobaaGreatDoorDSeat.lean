import Derived.Test.YtcknfhhbijlobaaGreatDoorMD
import Derived.Test.YtcknfhhbijlobaaGreatDoorChecked
import Derived.KernelRfl
/- D: the seat's configuration: what 'emit.py' read off the load. -/
namespace Go.Proofs.YtcknfhhbijlobaaGreatDoor.D
open Go
set_option linter.unusedVariables false
set_option maxRecDepth 100000

noncomputable def extOf (f : FuncId) : Option (List DV → DH → Option (DV × DH)) := if f = 124 then some extIndexByte else if f = 163 then some extCount else if f = 139 then some extSame else if f = 38 then some (pick Tryz.prog 38 ofQ) else none
noncomputable def cfg : Cfg := { P := Tryz.prog, T := tabOf Tryz.prog [112, 57], ext := extOf, draw := drawLook true }
set_option maxHeartbeats 8000000 in
theorem ext_ok : ExtOk cfg.P cfg.ext := by
  intro f e h
  change extOf f = some e at h
  unfold extOf at h
  by_cases h124 : f = 124
  · rw [if_pos h124] at h
    obtain rfl := Option.some.inj h
    subst h124
    exact ext_of Tryz.func124 (e := Extern.BytealgIndexByte.indexByte) (by kernel_rfl) (by kernel_rfl) (by kernel_rfl) (by kernel_rfl) extIndexByte_ok
  rw [if_neg h124] at h
  by_cases h163 : f = 163
  · rw [if_pos h163] at h
    obtain rfl := Option.some.inj h
    subst h163
    exact ext_of Tryz.func163 (e := Extern.BytealgCount.count) (by kernel_rfl) (by kernel_rfl) (by kernel_rfl) (by kernel_rfl) extCount_ok
  rw [if_neg h163] at h
  by_cases h139 : f = 139
  · rw [if_pos h139] at h
    obtain rfl := Option.some.inj h
    subst h139
    exact ext_of Tryz.func139 (e := Extern.AbiNoEscape.same) (by kernel_rfl) (by kernel_rfl) (by kernel_rfl) (by kernel_rfl) extSame_ok
  rw [if_neg h139] at h
  by_cases h38 : f = 38
  · rw [if_pos h38] at h
    obtain rfl := Option.some.inj h
    subst h38
    exact fun args H d H' hh G w vs hr hv => pick_ok args H d H' hh G w vs hr hv
  rw [if_neg h38] at h
  cases h
theorem names_ok : (Tryz.prog.funcs.toList.all fun fn => !(fn.name == "runtime.NumGoroutine")) = true := by kernel_rfl
theorem name_ok : NameOk cfg.P := by
  intro f fn h
  have := List.all_eq_true.1 names_ok fn (by rw [Array.mem_toList_iff]; exact Array.mem_of_getElem? h)
  simpa using this
theorem draws_ok : DrawOk cfg.P cfg.T cfg.draw := draw_ok tab_ok (Checked.mixed Tryz.checked)
/-- What the evaluator finds of a law, the machine does. -/
theorem law_of {f : FuncId} {args : List DV} (hx : cfg.ext f = none) {K : DV → DH → Prop} (h : WC cfg f args H0 K) {w : World} {vs : List Value} (hv : VL G0 args vs)
    (hk : ∀ d H, K d H → d = .bool true) : Calls Tryz.prog f vs.toArray w fun e w' => e = .returned (.bool true) ∧ Go.RowKit.Below w.heap.size w w' :=
  top (v := .bool true) tab_ok ext_ok name_ok draws_ok hx h hv hk

/- 0: t -/
theorem size_0 : cfg.T.size 0 = some 1 := by kernel_rfl
theorem bytes_0 : cfg.T.bytes 0 = some 0 := by kernel_rfl
/- 2: int64 -/
theorem und_2 : cfg.T.und 2 = some (.int .i64) := Tryz.underlying2
theorem size_2 : cfg.T.size 2 = some 1 := by kernel_rfl
theorem bytes_2 : cfg.T.bytes 2 = some 8 := by kernel_rfl
theorem zero_2 : cfg.T.zero 2 = some (.int .i64 0) := by kernel_rfl
/- 3: int -/
theorem und_3 : cfg.T.und 3 = some (.int .i64) := Tryz.underlying3
theorem size_3 : cfg.T.size 3 = some 1 := by kernel_rfl
theorem bytes_3 : cfg.T.bytes 3 = some 8 := by kernel_rfl
theorem zero_3 : cfg.T.zero 3 = some (.int .i64 0) := by kernel_rfl
/- 4: bool -/
theorem und_4 : cfg.T.und 4 = some .bool := Tryz.underlying4
theorem size_4 : cfg.T.size 4 = some 1 := by kernel_rfl
theorem bytes_4 : cfg.T.bytes 4 = some 1 := by kernel_rfl
theorem zero_4 : cfg.T.zero 4 = some (.bool false) := by kernel_rfl
/- 5: uint8 -/
theorem und_5 : cfg.T.und 5 = some (.int .u8) := Tryz.underlying5
theorem size_5 : cfg.T.size 5 = some 1 := by kernel_rfl
theorem bytes_5 : cfg.T.bytes 5 = some 1 := by kernel_rfl
theorem zero_5 : cfg.T.zero 5 = some (.int .u8 0) := by kernel_rfl
/- 9: string -/
theorem und_9 : cfg.T.und 9 = some .string := Tryz.underlying9
theorem size_9 : cfg.T.size 9 = some 1 := by kernel_rfl
theorem bytes_9 : cfg.T.bytes 9 = some 16 := by kernel_rfl
theorem zero_9 : cfg.T.zero 9 = some (.str []) := by kernel_rfl
/- 12: uintptr -/
theorem und_12 : cfg.T.und 12 = some (.int .u64) := Tryz.underlying12
theorem size_12 : cfg.T.size 12 = some 1 := by kernel_rfl
theorem bytes_12 : cfg.T.bytes 12 = some 8 := by kernel_rfl
theorem zero_12 : cfg.T.zero 12 = some (.int .u64 0) := by kernel_rfl
/- 13: struct_msg_string_addr_uintptr -/
theorem und_13 : cfg.T.und 13 = some (.struct #[{ name := "msg", type := 9, offset := 0, embedded := false, tag := "", pkgPath := "runtime", byteOffset := 0 }, { name := "addr", type := 12, offset := 1, embedded := false, tag := "", pkgPath := "runtime", byteOffset := 16 }]) := Tryz.underlying13
theorem size_13 : cfg.T.size 13 = some 2 := by kernel_rfl
theorem bytes_13 : cfg.T.bytes 13 = some 24 := by kernel_rfl
theorem zero_13 : cfg.T.zero 13 = some (.agg [(.str []), (.int .u64 0)]) := by kernel_rfl
/- 15: ptr_runtime_TypeAssertionError -/
theorem und_15 : cfg.T.und 15 = some (.pointer 222) := Tryz.underlying15
theorem size_15 : cfg.T.size 15 = some 1 := by kernel_rfl
theorem bytes_15 : cfg.T.bytes 15 = some 8 := by kernel_rfl
theorem zero_15 : cfg.T.zero 15 = some .nilp := by kernel_rfl
/- 16: ptr_runtime_PanicNilError -/
theorem und_16 : cfg.T.und 16 = some (.pointer 225) := Tryz.underlying16
theorem size_16 : cfg.T.size 16 = some 1 := by kernel_rfl
theorem bytes_16 : cfg.T.bytes 16 = some 8 := by kernel_rfl
theorem zero_16 : cfg.T.zero 16 = some .nilp := by kernel_rfl
/- 20: interface_0 -/
theorem und_20 : cfg.T.und 20 = some (.interface #[]) := Tryz.underlying20
theorem size_20 : cfg.T.size 20 = some 1 := by kernel_rfl
theorem bytes_20 : cfg.T.bytes 20 = some 16 := by kernel_rfl
theorem zero_20 : cfg.T.zero 20 = some .nili := by kernel_rfl
/- 21: int32 -/
theorem und_21 : cfg.T.und 21 = some (.int .i32) := Tryz.underlying21
theorem size_21 : cfg.T.size 21 = some 1 := by kernel_rfl
theorem bytes_21 : cfg.T.bytes 21 = some 4 := by kernel_rfl
theorem zero_21 : cfg.T.zero 21 = some (.int .i32 0) := by kernel_rfl
/- 24: sl_api_Stmt -/
theorem und_24 : cfg.T.und 24 = some (.slice 40) := Tryz.underlying24
theorem size_24 : cfg.T.size 24 = some 1 := by kernel_rfl
theorem bytes_24 : cfg.T.bytes 24 = some 24 := by kernel_rfl
theorem zero_24 : cfg.T.zero 24 = some .nils := by kernel_rfl
/- 25: sl_int -/
theorem und_25 : cfg.T.und 25 = some (.slice 3) := Tryz.underlying25
theorem size_25 : cfg.T.size 25 = some 1 := by kernel_rfl
theorem bytes_25 : cfg.T.bytes 25 = some 24 := by kernel_rfl
theorem zero_25 : cfg.T.zero 25 = some .nils := by kernel_rfl
/- 26: struct_Mode_int_Stmts_sl_api_Stmt_Top_sl_int -/
theorem und_26 : cfg.T.und 26 = some (.struct #[{ name := "Mode", type := 3, offset := 0, embedded := false, tag := "", pkgPath := "", byteOffset := 0 }, { name := "Stmts", type := 24, offset := 1, embedded := false, tag := "", pkgPath := "", byteOffset := 8 }, { name := "Top", type := 25, offset := 2, embedded := false, tag := "", pkgPath := "", byteOffset := 32 }]) := Tryz.underlying26
theorem size_26 : cfg.T.size 26 = some 3 := by kernel_rfl
theorem bytes_26 : cfg.T.bytes 26 = some 56 := by kernel_rfl
theorem zero_26 : cfg.T.zero 26 = some (.agg [(.int .i64 0), .nils, .nils]) := by kernel_rfl
/- 27: api_Prog -/
theorem und_27 : cfg.T.und 27 = some (.struct #[{ name := "Mode", type := 3, offset := 0, embedded := false, tag := "", pkgPath := "", byteOffset := 0 }, { name := "Stmts", type := 24, offset := 1, embedded := false, tag := "", pkgPath := "", byteOffset := 8 }, { name := "Top", type := 25, offset := 2, embedded := false, tag := "", pkgPath := "", byteOffset := 32 }]) := Tryz.underlying27
theorem size_27 : cfg.T.size 27 = some 3 := by kernel_rfl
theorem bytes_27 : cfg.T.bytes 27 = some 56 := by kernel_rfl
theorem zero_27 : cfg.T.zero 27 = some (.agg [(.int .i64 0), .nils, .nils]) := by kernel_rfl
/- 28: api_Errno -/
theorem und_28 : cfg.T.und 28 = some (.int .i64) := Tryz.underlying28
theorem size_28 : cfg.T.size 28 = some 1 := by kernel_rfl
theorem bytes_28 : cfg.T.bytes 28 = some 8 := by kernel_rfl
theorem zero_28 : cfg.T.zero 28 = some (.int .i64 0) := by kernel_rfl
/- 29: api_Prog_int_api_Errno -/
theorem size_29 : cfg.T.size 29 = some 1 := by kernel_rfl
theorem bytes_29 : cfg.T.bytes 29 = some 0 := by kernel_rfl
/- 35: int_api_Errno -/
theorem size_35 : cfg.T.size 35 = some 1 := by kernel_rfl
theorem bytes_35 : cfg.T.bytes 35 = some 0 := by kernel_rfl
/- 38: sl_string -/
theorem und_38 : cfg.T.und 38 = some (.slice 9) := Tryz.underlying38
theorem size_38 : cfg.T.size 38 = some 1 := by kernel_rfl
theorem bytes_38 : cfg.T.bytes 38 = some 24 := by kernel_rfl
theorem zero_38 : cfg.T.zero 38 = some .nils := by kernel_rfl
/- 39: struct_Kind_int_S_string_T_string_U_string_N_int_At_int_L_sl_int_M_sl_int -/
theorem und_39 : cfg.T.und 39 = some (.struct #[{ name := "Kind", type := 3, offset := 0, embedded := false, tag := "", pkgPath := "", byteOffset := 0 }, { name := "S", type := 9, offset := 1, embedded := false, tag := "", pkgPath := "", byteOffset := 8 }, { name := "T", type := 9, offset := 2, embedded := false, tag := "", pkgPath := "", byteOffset := 24 }, { name := "U", type := 9, offset := 3, embedded := false, tag := "", pkgPath := "", byteOffset := 40 }, { name := "N", type := 3, offset := 4, embedded := false, tag := "", pkgPath := "", byteOffset := 56 }, { name := "At", type := 3, offset := 5, embedded := false, tag := "", pkgPath := "", byteOffset := 64 }, { name := "L", type := 25, offset := 6, embedded := false, tag := "", pkgPath := "", byteOffset := 72 }, { name := "M", type := 25, offset := 7, embedded := false, tag := "", pkgPath := "", byteOffset := 96 }]) := Tryz.underlying39
theorem size_39 : cfg.T.size 39 = some 8 := by kernel_rfl
theorem bytes_39 : cfg.T.bytes 39 = some 120 := by kernel_rfl
theorem zero_39 : cfg.T.zero 39 = some (.agg [(.int .i64 0), (.str []), (.str []), (.str []), (.int .i64 0), (.int .i64 0), .nils, .nils]) := by kernel_rfl
/- 40: api_Stmt -/
theorem und_40 : cfg.T.und 40 = some (.struct #[{ name := "Kind", type := 3, offset := 0, embedded := false, tag := "", pkgPath := "", byteOffset := 0 }, { name := "S", type := 9, offset := 1, embedded := false, tag := "", pkgPath := "", byteOffset := 8 }, { name := "T", type := 9, offset := 2, embedded := false, tag := "", pkgPath := "", byteOffset := 24 }, { name := "U", type := 9, offset := 3, embedded := false, tag := "", pkgPath := "", byteOffset := 40 }, { name := "N", type := 3, offset := 4, embedded := false, tag := "", pkgPath := "", byteOffset := 56 }, { name := "At", type := 3, offset := 5, embedded := false, tag := "", pkgPath := "", byteOffset := 64 }, { name := "L", type := 25, offset := 6, embedded := false, tag := "", pkgPath := "", byteOffset := 72 }, { name := "M", type := 25, offset := 7, embedded := false, tag := "", pkgPath := "", byteOffset := 96 }]) := Tryz.underlying40
theorem size_40 : cfg.T.size 40 = some 8 := by kernel_rfl
theorem bytes_40 : cfg.T.bytes 40 = some 120 := by kernel_rfl
theorem zero_40 : cfg.T.zero 40 = some (.agg [(.int .i64 0), (.str []), (.str []), (.str []), (.int .i64 0), (.int .i64 0), .nils, .nils]) := by kernel_rfl
/- 43: sl_string_bool -/
theorem size_43 : cfg.T.size 43 = some 1 := by kernel_rfl
theorem bytes_43 : cfg.T.bytes 43 = some 0 := by kernel_rfl
/- 46: 2_bool -/
theorem und_46 : cfg.T.und 46 = some (.array 2 4) := Tryz.underlying46
theorem size_46 : cfg.T.size 46 = some 2 := by kernel_rfl
theorem bytes_46 : cfg.T.bytes 46 = some 2 := by kernel_rfl
theorem zero_46 : cfg.T.zero 46 = some (.agg [(.bool false), (.bool false)]) := by kernel_rfl
/- 48: string_bool -/
theorem size_48 : cfg.T.size 48 = some 1 := by kernel_rfl
theorem bytes_48 : cfg.T.bytes 48 = some 0 := by kernel_rfl
/- 51: sl_api_Op -/
theorem und_51 : cfg.T.und 51 = some (.slice 57) := Tryz.underlying51
theorem size_51 : cfg.T.size 51 = some 1 := by kernel_rfl
theorem bytes_51 : cfg.T.bytes 51 = some 24 := by kernel_rfl
theorem zero_51 : cfg.T.zero 51 = some .nils := by kernel_rfl
/- 52: sl_api_Op_int_int_api_Errno -/
theorem size_52 : cfg.T.size 52 = some 1 := by kernel_rfl
theorem bytes_52 : cfg.T.bytes 52 = some 0 := by kernel_rfl
/- 56: struct_Kind_int_S_string_T_string_U_string_N_int_To_int -/
theorem und_56 : cfg.T.und 56 = some (.struct #[{ name := "Kind", type := 3, offset := 0, embedded := false, tag := "", pkgPath := "", byteOffset := 0 }, { name := "S", type := 9, offset := 1, embedded := false, tag := "", pkgPath := "", byteOffset := 8 }, { name := "T", type := 9, offset := 2, embedded := false, tag := "", pkgPath := "", byteOffset := 24 }, { name := "U", type := 9, offset := 3, embedded := false, tag := "", pkgPath := "", byteOffset := 40 }, { name := "N", type := 3, offset := 4, embedded := false, tag := "", pkgPath := "", byteOffset := 56 }, { name := "To", type := 3, offset := 5, embedded := false, tag := "", pkgPath := "", byteOffset := 64 }]) := Tryz.underlying56
theorem size_56 : cfg.T.size 56 = some 6 := by kernel_rfl
theorem bytes_56 : cfg.T.bytes 56 = some 72 := by kernel_rfl
theorem zero_56 : cfg.T.zero 56 = some (.agg [(.int .i64 0), (.str []), (.str []), (.str []), (.int .i64 0), (.int .i64 0)]) := by kernel_rfl
/- 57: api_Op -/
theorem und_57 : cfg.T.und 57 = some (.struct #[{ name := "Kind", type := 3, offset := 0, embedded := false, tag := "", pkgPath := "", byteOffset := 0 }, { name := "S", type := 9, offset := 1, embedded := false, tag := "", pkgPath := "", byteOffset := 8 }, { name := "T", type := 9, offset := 2, embedded := false, tag := "", pkgPath := "", byteOffset := 24 }, { name := "U", type := 9, offset := 3, embedded := false, tag := "", pkgPath := "", byteOffset := 40 }, { name := "N", type := 3, offset := 4, embedded := false, tag := "", pkgPath := "", byteOffset := 56 }, { name := "To", type := 3, offset := 5, embedded := false, tag := "", pkgPath := "", byteOffset := 64 }]) := Tryz.underlying57
theorem size_57 : cfg.T.size 57 = some 6 := by kernel_rfl
theorem bytes_57 : cfg.T.bytes 57 = some 72 := by kernel_rfl
theorem zero_57 : cfg.T.zero 57 = some (.agg [(.int .i64 0), (.str []), (.str []), (.str []), (.int .i64 0), (.int .i64 0)]) := by kernel_rfl
theorem flat_57 : cfg.T.flatEq 57 = some [1, 2, 2, 2, 1, 1] := by kernel_rfl
/- 58: 20_int -/
theorem und_58 : cfg.T.und 58 = some (.array 20 3) := Tryz.underlying58
theorem size_58 : cfg.T.size 58 = some 20 := by kernel_rfl
theorem bytes_58 : cfg.T.bytes 58 = some 160 := by kernel_rfl
theorem zero_58 : cfg.T.zero 58 = some (.agg [(.int .i64 0), (.int .i64 0), (.int .i64 0), (.int .i64 0), (.int .i64 0), (.int .i64 0), (.int .i64 0), (.int .i64 0), (.int .i64 0), (.int .i64 0), (.int .i64 0), (.int .i64 0), (.int .i64 0), (.int .i64 0), (.int .i64 0), (.int .i64 0), (.int .i64 0), (.int .i64 0), (.int .i64 0), (.int .i64 0)]) := by kernel_rfl
/- 59: 3_uint8 -/
theorem und_59 : cfg.T.und 59 = some (.array 3 5) := Tryz.underlying59
theorem size_59 : cfg.T.size 59 = some 3 := by kernel_rfl
theorem bytes_59 : cfg.T.bytes 59 = some 3 := by kernel_rfl
theorem zero_59 : cfg.T.zero 59 = some (.agg [(.int .u8 0), (.int .u8 0), (.int .u8 0)]) := by kernel_rfl
/- 62: sl_api_Token -/
theorem und_62 : cfg.T.und 62 = some (.slice 71) := Tryz.underlying62
theorem size_62 : cfg.T.size 62 = some 1 := by kernel_rfl
theorem bytes_62 : cfg.T.bytes 62 = some 24 := by kernel_rfl
theorem zero_62 : cfg.T.zero 62 = some .nils := by kernel_rfl
/- 63: sl_api_Token_int_api_Errno -/
theorem size_63 : cfg.T.size 63 = some 1 := by kernel_rfl
theorem bytes_63 : cfg.T.bytes 63 = some 0 := by kernel_rfl
/- 65: ptr_parse_parser -/
theorem und_65 : cfg.T.und 65 = some (.pointer 68) := Tryz.underlying65
theorem size_65 : cfg.T.size 65 = some 1 := by kernel_rfl
theorem bytes_65 : cfg.T.bytes 65 = some 8 := by kernel_rfl
theorem zero_65 : cfg.T.zero 65 = some .nilp := by kernel_rfl
/- 66: sl_ptr_parse_frame -/
theorem und_66 : cfg.T.und 66 = some (.slice 112) := Tryz.underlying66
theorem size_66 : cfg.T.size 66 = some 1 := by kernel_rfl
theorem bytes_66 : cfg.T.bytes 66 = some 24 := by kernel_rfl
theorem zero_66 : cfg.T.zero 66 = some .nils := by kernel_rfl
/- 67: struct_tokens_sl_api_Token_p_api_Prog_open_sl_ptr_parse_frame_at_int_e_api_Errno -/
theorem und_67 : cfg.T.und 67 = some (.struct #[{ name := "tokens", type := 62, offset := 0, embedded := false, tag := "", pkgPath := "rejoinder/parse", byteOffset := 0 }, { name := "p", type := 27, offset := 1, embedded := false, tag := "", pkgPath := "rejoinder/parse", byteOffset := 24 }, { name := "open", type := 66, offset := 4, embedded := false, tag := "", pkgPath := "rejoinder/parse", byteOffset := 80 }, { name := "at", type := 3, offset := 5, embedded := false, tag := "", pkgPath := "rejoinder/parse", byteOffset := 104 }, { name := "e", type := 28, offset := 6, embedded := false, tag := "", pkgPath := "rejoinder/parse", byteOffset := 112 }]) := Tryz.underlying67
theorem size_67 : cfg.T.size 67 = some 7 := by kernel_rfl
theorem bytes_67 : cfg.T.bytes 67 = some 120 := by kernel_rfl
theorem zero_67 : cfg.T.zero 67 = some (.agg [.nils, (.int .i64 0), .nils, .nils, .nils, (.int .i64 0), (.int .i64 0)]) := by kernel_rfl
/- 68: parse_parser -/
theorem und_68 : cfg.T.und 68 = some (.struct #[{ name := "tokens", type := 62, offset := 0, embedded := false, tag := "", pkgPath := "rejoinder/parse", byteOffset := 0 }, { name := "p", type := 27, offset := 1, embedded := false, tag := "", pkgPath := "rejoinder/parse", byteOffset := 24 }, { name := "open", type := 66, offset := 4, embedded := false, tag := "", pkgPath := "rejoinder/parse", byteOffset := 80 }, { name := "at", type := 3, offset := 5, embedded := false, tag := "", pkgPath := "rejoinder/parse", byteOffset := 104 }, { name := "e", type := 28, offset := 6, embedded := false, tag := "", pkgPath := "rejoinder/parse", byteOffset := 112 }]) := Tryz.underlying68
theorem size_68 : cfg.T.size 68 = some 7 := by kernel_rfl
theorem bytes_68 : cfg.T.bytes 68 = some 120 := by kernel_rfl
theorem zero_68 : cfg.T.zero 68 = some (.agg [.nils, (.int .i64 0), .nils, .nils, .nils, (.int .i64 0), (.int .i64 0)]) := by kernel_rfl
/- 70: struct_Kind_int_Text_string_At_int -/
theorem und_70 : cfg.T.und 70 = some (.struct #[{ name := "Kind", type := 3, offset := 0, embedded := false, tag := "", pkgPath := "", byteOffset := 0 }, { name := "Text", type := 9, offset := 1, embedded := false, tag := "", pkgPath := "", byteOffset := 8 }, { name := "At", type := 3, offset := 2, embedded := false, tag := "", pkgPath := "", byteOffset := 24 }]) := Tryz.underlying70
theorem size_70 : cfg.T.size 70 = some 3 := by kernel_rfl
theorem bytes_70 : cfg.T.bytes 70 = some 32 := by kernel_rfl
theorem zero_70 : cfg.T.zero 70 = some (.agg [(.int .i64 0), (.str []), (.int .i64 0)]) := by kernel_rfl
/- 71: api_Token -/
theorem und_71 : cfg.T.und 71 = some (.struct #[{ name := "Kind", type := 3, offset := 0, embedded := false, tag := "", pkgPath := "", byteOffset := 0 }, { name := "Text", type := 9, offset := 1, embedded := false, tag := "", pkgPath := "", byteOffset := 8 }, { name := "At", type := 3, offset := 2, embedded := false, tag := "", pkgPath := "", byteOffset := 24 }]) := Tryz.underlying71
theorem size_71 : cfg.T.size 71 = some 3 := by kernel_rfl
theorem bytes_71 : cfg.T.bytes 71 = some 32 := by kernel_rfl
theorem zero_71 : cfg.T.zero 71 = some (.agg [(.int .i64 0), (.str []), (.int .i64 0)]) := by kernel_rfl
theorem flat_71 : cfg.T.flatEq 71 = some [1, 2, 1] := by kernel_rfl
/- 74: ptr_ref15_reader -/
theorem und_74 : cfg.T.und 74 = some (.pointer 76) := Tryz.underlying74
theorem size_74 : cfg.T.size 74 = some 1 := by kernel_rfl
theorem bytes_74 : cfg.T.bytes 74 = some 8 := by kernel_rfl
theorem zero_74 : cfg.T.zero 74 = some .nilp := by kernel_rfl
/- 75: struct_l_sl_api_Token_at_int_row_sl_api_Stmt_e_api_Errno_from_int -/
theorem und_75 : cfg.T.und 75 = some (.struct #[{ name := "l", type := 62, offset := 0, embedded := false, tag := "", pkgPath := "rejoinder/rejoinderref15", byteOffset := 0 }, { name := "at", type := 3, offset := 1, embedded := false, tag := "", pkgPath := "rejoinder/rejoinderref15", byteOffset := 24 }, { name := "row", type := 24, offset := 2, embedded := false, tag := "", pkgPath := "rejoinder/rejoinderref15", byteOffset := 32 }, { name := "e", type := 28, offset := 3, embedded := false, tag := "", pkgPath := "rejoinder/rejoinderref15", byteOffset := 56 }, { name := "from", type := 3, offset := 4, embedded := false, tag := "", pkgPath := "rejoinder/rejoinderref15", byteOffset := 64 }]) := Tryz.underlying75
theorem size_75 : cfg.T.size 75 = some 5 := by kernel_rfl
theorem bytes_75 : cfg.T.bytes 75 = some 72 := by kernel_rfl
theorem zero_75 : cfg.T.zero 75 = some (.agg [.nils, (.int .i64 0), .nils, (.int .i64 0), (.int .i64 0)]) := by kernel_rfl
/- 76: ref15_reader -/
theorem und_76 : cfg.T.und 76 = some (.struct #[{ name := "l", type := 62, offset := 0, embedded := false, tag := "", pkgPath := "rejoinder/rejoinderref15", byteOffset := 0 }, { name := "at", type := 3, offset := 1, embedded := false, tag := "", pkgPath := "rejoinder/rejoinderref15", byteOffset := 24 }, { name := "row", type := 24, offset := 2, embedded := false, tag := "", pkgPath := "rejoinder/rejoinderref15", byteOffset := 32 }, { name := "e", type := 28, offset := 3, embedded := false, tag := "", pkgPath := "rejoinder/rejoinderref15", byteOffset := 56 }, { name := "from", type := 3, offset := 4, embedded := false, tag := "", pkgPath := "rejoinder/rejoinderref15", byteOffset := 64 }]) := Tryz.underlying76
theorem size_76 : cfg.T.size 76 = some 5 := by kernel_rfl
theorem bytes_76 : cfg.T.bytes 76 = some 72 := by kernel_rfl
theorem zero_76 : cfg.T.zero 76 = some (.agg [.nils, (.int .i64 0), .nils, (.int .i64 0), (.int .i64 0)]) := by kernel_rfl
/- 83: ptr_check_checker -/
theorem und_83 : cfg.T.und 83 = some (.pointer 85) := Tryz.underlying83
theorem size_83 : cfg.T.size 83 = some 1 := by kernel_rfl
theorem bytes_83 : cfg.T.bytes 83 = some 8 := by kernel_rfl
theorem zero_83 : cfg.T.zero 83 = some .nilp := by kernel_rfl
/- 84: struct_p_api_Prog_labels_sl_string_sets_sl_string_seen_sl_string -/
theorem und_84 : cfg.T.und 84 = some (.struct #[{ name := "p", type := 27, offset := 0, embedded := false, tag := "", pkgPath := "rejoinder/check", byteOffset := 0 }, { name := "labels", type := 38, offset := 3, embedded := false, tag := "", pkgPath := "rejoinder/check", byteOffset := 56 }, { name := "sets", type := 38, offset := 4, embedded := false, tag := "", pkgPath := "rejoinder/check", byteOffset := 80 }, { name := "seen", type := 38, offset := 5, embedded := false, tag := "", pkgPath := "rejoinder/check", byteOffset := 104 }]) := Tryz.underlying84
theorem size_84 : cfg.T.size 84 = some 6 := by kernel_rfl
theorem bytes_84 : cfg.T.bytes 84 = some 128 := by kernel_rfl
theorem zero_84 : cfg.T.zero 84 = some (.agg [(.int .i64 0), .nils, .nils, .nils, .nils, .nils]) := by kernel_rfl
/- 85: check_checker -/
theorem und_85 : cfg.T.und 85 = some (.struct #[{ name := "p", type := 27, offset := 0, embedded := false, tag := "", pkgPath := "rejoinder/check", byteOffset := 0 }, { name := "labels", type := 38, offset := 3, embedded := false, tag := "", pkgPath := "rejoinder/check", byteOffset := 56 }, { name := "sets", type := 38, offset := 4, embedded := false, tag := "", pkgPath := "rejoinder/check", byteOffset := 80 }, { name := "seen", type := 38, offset := 5, embedded := false, tag := "", pkgPath := "rejoinder/check", byteOffset := 104 }]) := Tryz.underlying85
theorem size_85 : cfg.T.size 85 = some 6 := by kernel_rfl
theorem bytes_85 : cfg.T.bytes 85 = some 128 := by kernel_rfl
theorem zero_85 : cfg.T.zero 85 = some (.agg [(.int .i64 0), .nils, .nils, .nils, .nils, .nils]) := by kernel_rfl
/- 87: struct_e_api_Errno_must_func_api_Stmt_bool -/
theorem und_87 : cfg.T.und 87 = some (.struct #[{ name := "e", type := 28, offset := 0, embedded := false, tag := "", pkgPath := "rejoinder/check", byteOffset := 0 }, { name := "must", type := 86, offset := 1, embedded := false, tag := "", pkgPath := "rejoinder/check", byteOffset := 8 }]) := Tryz.underlying87
theorem size_87 : cfg.T.size 87 = some 2 := by kernel_rfl
theorem bytes_87 : cfg.T.bytes 87 = some 16 := by kernel_rfl
theorem zero_87 : cfg.T.zero 87 = some (.agg [(.int .i64 0), .nilf]) := by kernel_rfl
/- 88: check_rule -/
theorem und_88 : cfg.T.und 88 = some (.struct #[{ name := "e", type := 28, offset := 0, embedded := false, tag := "", pkgPath := "rejoinder/check", byteOffset := 0 }, { name := "must", type := 86, offset := 1, embedded := false, tag := "", pkgPath := "rejoinder/check", byteOffset := 8 }]) := Tryz.underlying88
theorem size_88 : cfg.T.size 88 = some 2 := by kernel_rfl
theorem bytes_88 : cfg.T.bytes 88 = some 16 := by kernel_rfl
theorem zero_88 : cfg.T.zero 88 = some (.agg [(.int .i64 0), .nilf]) := by kernel_rfl
/- 89: sl_check_rule -/
theorem und_89 : cfg.T.und 89 = some (.slice 88) := Tryz.underlying89
theorem size_89 : cfg.T.size 89 = some 1 := by kernel_rfl
theorem bytes_89 : cfg.T.bytes 89 = some 24 := by kernel_rfl
theorem zero_89 : cfg.T.zero 89 = some .nils := by kernel_rfl
/- 92: sl_ref16_Part -/
theorem und_92 : cfg.T.und 92 = some (.slice 96) := Tryz.underlying92
theorem size_92 : cfg.T.size 92 = some 1 := by kernel_rfl
theorem bytes_92 : cfg.T.bytes 92 = some 24 := by kernel_rfl
theorem zero_92 : cfg.T.zero 92 = some .nils := by kernel_rfl
/- 93: sl_ref16_Part_bool -/
theorem size_93 : cfg.T.size 93 = some 1 := by kernel_rfl
theorem bytes_93 : cfg.T.bytes 93 = some 0 := by kernel_rfl
/- 95: struct_Text_string_Name_bool -/
theorem und_95 : cfg.T.und 95 = some (.struct #[{ name := "Text", type := 9, offset := 0, embedded := false, tag := "", pkgPath := "", byteOffset := 0 }, { name := "Name", type := 4, offset := 1, embedded := false, tag := "", pkgPath := "", byteOffset := 16 }]) := Tryz.underlying95
theorem size_95 : cfg.T.size 95 = some 2 := by kernel_rfl
theorem bytes_95 : cfg.T.bytes 95 = some 24 := by kernel_rfl
theorem zero_95 : cfg.T.zero 95 = some (.agg [(.str []), (.bool false)]) := by kernel_rfl
/- 96: ref16_Part -/
theorem und_96 : cfg.T.und 96 = some (.struct #[{ name := "Text", type := 9, offset := 0, embedded := false, tag := "", pkgPath := "", byteOffset := 0 }, { name := "Name", type := 4, offset := 1, embedded := false, tag := "", pkgPath := "", byteOffset := 16 }]) := Tryz.underlying96
theorem size_96 : cfg.T.size 96 = some 2 := by kernel_rfl
theorem bytes_96 : cfg.T.bytes 96 = some 24 := by kernel_rfl
theorem zero_96 : cfg.T.zero 96 = some (.agg [(.str []), (.bool false)]) := by kernel_rfl
theorem flat_96 : cfg.T.flatEq 96 = some [2, 0] := by kernel_rfl
/- 97: ptr_code_maker -/
theorem und_97 : cfg.T.und 97 = some (.pointer 101) := Tryz.underlying97
theorem size_97 : cfg.T.size 97 = some 1 := by kernel_rfl
theorem bytes_97 : cfg.T.bytes 97 = some 8 := by kernel_rfl
theorem zero_97 : cfg.T.zero 97 = some .nilp := by kernel_rfl
/- 98: map_string_int -/
theorem und_98 : cfg.T.und 98 = some (.map 9 3) := Tryz.underlying98
theorem size_98 : cfg.T.size 98 = some 1 := by kernel_rfl
theorem bytes_98 : cfg.T.bytes 98 = some 8 := by kernel_rfl
theorem zero_98 : cfg.T.zero 98 = some .nilm := by kernel_rfl
/- 99: map_int_code_goal -/
theorem und_99 : cfg.T.und 99 = some (.map 3 105) := Tryz.underlying99
theorem size_99 : cfg.T.size 99 = some 1 := by kernel_rfl
theorem bytes_99 : cfg.T.bytes 99 = some 8 := by kernel_rfl
theorem zero_99 : cfg.T.zero 99 = some .nilm := by kernel_rfl
/- 100: struct_p_api_Prog_l_sl_api_Op_labels_map_string_int_goes_map_int_code_goal -/
theorem und_100 : cfg.T.und 100 = some (.struct #[{ name := "p", type := 27, offset := 0, embedded := false, tag := "", pkgPath := "rejoinder/code", byteOffset := 0 }, { name := "l", type := 51, offset := 3, embedded := false, tag := "", pkgPath := "rejoinder/code", byteOffset := 56 }, { name := "labels", type := 98, offset := 4, embedded := false, tag := "", pkgPath := "rejoinder/code", byteOffset := 80 }, { name := "goes", type := 99, offset := 5, embedded := false, tag := "", pkgPath := "rejoinder/code", byteOffset := 88 }]) := Tryz.underlying100
theorem size_100 : cfg.T.size 100 = some 6 := by kernel_rfl
theorem bytes_100 : cfg.T.bytes 100 = some 96 := by kernel_rfl
theorem zero_100 : cfg.T.zero 100 = some (.agg [(.int .i64 0), .nils, .nils, .nils, .nilm, .nilm]) := by kernel_rfl
/- 101: code_maker -/
theorem und_101 : cfg.T.und 101 = some (.struct #[{ name := "p", type := 27, offset := 0, embedded := false, tag := "", pkgPath := "rejoinder/code", byteOffset := 0 }, { name := "l", type := 51, offset := 3, embedded := false, tag := "", pkgPath := "rejoinder/code", byteOffset := 56 }, { name := "labels", type := 98, offset := 4, embedded := false, tag := "", pkgPath := "rejoinder/code", byteOffset := 80 }, { name := "goes", type := 99, offset := 5, embedded := false, tag := "", pkgPath := "rejoinder/code", byteOffset := 88 }]) := Tryz.underlying101
theorem size_101 : cfg.T.size 101 = some 6 := by kernel_rfl
theorem bytes_101 : cfg.T.bytes 101 = some 96 := by kernel_rfl
theorem zero_101 : cfg.T.zero 101 = some (.agg [(.int .i64 0), .nils, .nils, .nils, .nilm, .nilm]) := by kernel_rfl
/- 104: struct_label_string -/
theorem und_104 : cfg.T.und 104 = some (.struct #[{ name := "label", type := 9, offset := 0, embedded := false, tag := "", pkgPath := "rejoinder/code", byteOffset := 0 }]) := Tryz.underlying104
theorem size_104 : cfg.T.size 104 = some 1 := by kernel_rfl
theorem bytes_104 : cfg.T.bytes 104 = some 16 := by kernel_rfl
theorem zero_104 : cfg.T.zero 104 = some (.agg [(.str [])]) := by kernel_rfl
theorem flat_104 : cfg.T.flatEq 104 = some [2] := by kernel_rfl
/- 105: code_goal -/
theorem und_105 : cfg.T.und 105 = some (.struct #[{ name := "label", type := 9, offset := 0, embedded := false, tag := "", pkgPath := "rejoinder/code", byteOffset := 0 }]) := Tryz.underlying105
theorem size_105 : cfg.T.size 105 = some 1 := by kernel_rfl
theorem bytes_105 : cfg.T.bytes 105 = some 16 := by kernel_rfl
theorem zero_105 : cfg.T.zero 105 = some (.agg [(.str [])]) := by kernel_rfl
theorem flat_105 : cfg.T.flatEq 105 = some [2] := by kernel_rfl
/- 108: string_string_bool -/
theorem size_108 : cfg.T.size 108 = some 1 := by kernel_rfl
theorem bytes_108 : cfg.T.bytes 108 = some 0 := by kernel_rfl
/- 110: string_int -/
theorem size_110 : cfg.T.size 110 = some 1 := by kernel_rfl
theorem bytes_110 : cfg.T.bytes 110 = some 0 := by kernel_rfl
/- 112: ptr_parse_frame -/
theorem und_112 : cfg.T.und 112 = some (.pointer 114) := Tryz.underlying112
theorem size_112 : cfg.T.size 112 = some 1 := by kernel_rfl
theorem bytes_112 : cfg.T.bytes 112 = some 8 := by kernel_rfl
theorem zero_112 : cfg.T.zero 112 = some .nilp := by kernel_rfl
/- 113: struct_s_api_Stmt_other_bool -/
theorem und_113 : cfg.T.und 113 = some (.struct #[{ name := "s", type := 40, offset := 0, embedded := false, tag := "", pkgPath := "rejoinder/parse", byteOffset := 0 }, { name := "other", type := 4, offset := 8, embedded := false, tag := "", pkgPath := "rejoinder/parse", byteOffset := 120 }]) := Tryz.underlying113
theorem size_113 : cfg.T.size 113 = some 9 := by kernel_rfl
theorem bytes_113 : cfg.T.bytes 113 = some 128 := by kernel_rfl
theorem zero_113 : cfg.T.zero 113 = some (.agg [(.int .i64 0), (.str []), (.str []), (.str []), (.int .i64 0), (.int .i64 0), .nils, .nils, (.bool false)]) := by kernel_rfl
/- 114: parse_frame -/
theorem und_114 : cfg.T.und 114 = some (.struct #[{ name := "s", type := 40, offset := 0, embedded := false, tag := "", pkgPath := "rejoinder/parse", byteOffset := 0 }, { name := "other", type := 4, offset := 8, embedded := false, tag := "", pkgPath := "rejoinder/parse", byteOffset := 120 }]) := Tryz.underlying114
theorem size_114 : cfg.T.size 114 = some 9 := by kernel_rfl
theorem bytes_114 : cfg.T.bytes 114 = some 128 := by kernel_rfl
theorem zero_114 : cfg.T.zero 114 = some (.agg [(.int .i64 0), (.str []), (.str []), (.str []), (.int .i64 0), (.int .i64 0), .nils, .nils, (.bool false)]) := by kernel_rfl
/- 117: ptr_string -/
theorem und_117 : cfg.T.und 117 = some (.pointer 9) := Tryz.underlying117
theorem size_117 : cfg.T.size 117 = some 1 := by kernel_rfl
theorem bytes_117 : cfg.T.bytes 117 = some 8 := by kernel_rfl
theorem zero_117 : cfg.T.zero 117 = some .nilp := by kernel_rfl
/- 118: sl_ptr_string -/
theorem und_118 : cfg.T.und 118 = some (.slice 117) := Tryz.underlying118
theorem size_118 : cfg.T.size 118 = some 1 := by kernel_rfl
theorem bytes_118 : cfg.T.bytes 118 = some 24 := by kernel_rfl
theorem zero_118 : cfg.T.zero 118 = some .nils := by kernel_rfl
/- 119: int_bool -/
theorem size_119 : cfg.T.size 119 = some 1 := by kernel_rfl
theorem bytes_119 : cfg.T.bytes 119 = some 0 := by kernel_rfl
/- 122: api_Token_int_api_Errno -/
theorem size_122 : cfg.T.size 122 = some 1 := by kernel_rfl
theorem bytes_122 : cfg.T.bytes 122 = some 0 := by kernel_rfl
/- 125: sl_string_int -/
theorem size_125 : cfg.T.size 125 = some 1 := by kernel_rfl
theorem bytes_125 : cfg.T.bytes 125 = some 0 := by kernel_rfl
/- 140: ptr_strings_Builder -/
theorem und_140 : cfg.T.und 140 = some (.pointer 143) := Tryz.underlying140
theorem size_140 : cfg.T.size 140 = some 1 := by kernel_rfl
theorem bytes_140 : cfg.T.bytes 140 = some 8 := by kernel_rfl
theorem zero_140 : cfg.T.zero 140 = some .nilp := by kernel_rfl
/- 141: sl_uint8 -/
theorem und_141 : cfg.T.und 141 = some (.slice 5) := Tryz.underlying141
theorem size_141 : cfg.T.size 141 = some 1 := by kernel_rfl
theorem bytes_141 : cfg.T.bytes 141 = some 24 := by kernel_rfl
theorem zero_141 : cfg.T.zero 141 = some .nils := by kernel_rfl
/- 142: struct_addr_ptr_strings_Builder_buf_sl_uint8 -/
theorem und_142 : cfg.T.und 142 = some (.struct #[{ name := "addr", type := 140, offset := 0, embedded := false, tag := "", pkgPath := "strings", byteOffset := 0 }, { name := "buf", type := 141, offset := 1, embedded := false, tag := "", pkgPath := "strings", byteOffset := 8 }]) := Tryz.underlying142
theorem size_142 : cfg.T.size 142 = some 2 := by kernel_rfl
theorem bytes_142 : cfg.T.bytes 142 = some 32 := by kernel_rfl
theorem zero_142 : cfg.T.zero 142 = some (.agg [.nilp, .nils]) := by kernel_rfl
/- 143: strings_Builder -/
theorem und_143 : cfg.T.und 143 = some (.struct #[{ name := "addr", type := 140, offset := 0, embedded := false, tag := "", pkgPath := "strings", byteOffset := 0 }, { name := "buf", type := 141, offset := 1, embedded := false, tag := "", pkgPath := "strings", byteOffset := 8 }]) := Tryz.underlying143
theorem size_143 : cfg.T.size 143 = some 2 := by kernel_rfl
theorem bytes_143 : cfg.T.bytes 143 = some 32 := by kernel_rfl
theorem zero_143 : cfg.T.zero 143 = some (.agg [.nilp, .nils]) := by kernel_rfl
/- 146: error -/
theorem und_146 : cfg.T.und 146 = some (.interface #[("Error", 144)]) := Tryz.underlying146
theorem size_146 : cfg.T.size 146 = some 1 := by kernel_rfl
theorem bytes_146 : cfg.T.bytes 146 = some 16 := by kernel_rfl
theorem zero_146 : cfg.T.zero 146 = some .nili := by kernel_rfl
/- 150: int_error -/
theorem size_150 : cfg.T.size 150 = some 1 := by kernel_rfl
theorem bytes_150 : cfg.T.bytes 150 = some 0 := by kernel_rfl
/- 152: string_int_api_Errno -/
theorem size_152 : cfg.T.size 152 = some 1 := by kernel_rfl
theorem bytes_152 : cfg.T.bytes 152 = some 0 := by kernel_rfl
/- 160: ptr_uint8 -/
theorem und_160 : cfg.T.und 160 = some (.pointer 5) := Tryz.underlying160
theorem size_160 : cfg.T.size 160 = some 1 := by kernel_rfl
theorem bytes_160 : cfg.T.bytes 160 = some 8 := by kernel_rfl
theorem zero_160 : cfg.T.zero 160 = some .nilp := by kernel_rfl
/- 168: uint -/
theorem und_168 : cfg.T.und 168 = some (.int .u64) := Tryz.underlying168
theorem size_168 : cfg.T.size 168 = some 1 := by kernel_rfl
theorem bytes_168 : cfg.T.bytes 168 = some 8 := by kernel_rfl
theorem zero_168 : cfg.T.zero 168 = some (.int .u64 0) := by kernel_rfl
/- 169: unsafe_Pointer -/
theorem und_169 : cfg.T.und 169 = some .unsafePointer := Tryz.underlying169
theorem size_169 : cfg.T.size 169 = some 1 := by kernel_rfl
theorem bytes_169 : cfg.T.bytes 169 = some 8 := by kernel_rfl
theorem zero_169 : cfg.T.zero 169 = some .nilp := by kernel_rfl
/- 172: int32_int -/
theorem size_172 : cfg.T.size 172 = some 1 := by kernel_rfl
theorem bytes_172 : cfg.T.bytes 172 = some 0 := by kernel_rfl
/- 175: int64_error -/
theorem size_175 : cfg.T.size 175 = some 1 := by kernel_rfl
theorem bytes_175 : cfg.T.bytes 175 = some 0 := by kernel_rfl
/- 177: ptr_strconv_NumError -/
theorem und_177 : cfg.T.und 177 = some (.pointer 195) := Tryz.underlying177
theorem size_177 : cfg.T.size 177 = some 1 := by kernel_rfl
theorem bytes_177 : cfg.T.bytes 177 = some 8 := by kernel_rfl
theorem zero_177 : cfg.T.zero 177 = some .nilp := by kernel_rfl
/- 181: 256_bool -/
theorem und_181 : cfg.T.und 181 = some (.array 256 4) := Tryz.underlying181
theorem size_181 : cfg.T.size 181 = some 256 := by kernel_rfl
theorem bytes_181 : cfg.T.bytes 181 = some 256 := by kernel_rfl
/- 182: strings_asciiSet -/
theorem und_182 : cfg.T.und 182 = some (.array 256 4) := Tryz.underlying182
theorem size_182 : cfg.T.size 182 = some 256 := by kernel_rfl
theorem bytes_182 : cfg.T.bytes 182 = some 256 := by kernel_rfl
/- 183: strings_asciiSet_bool -/
theorem size_183 : cfg.T.size 183 = some 1 := by kernel_rfl
theorem bytes_183 : cfg.T.bytes 183 = some 0 := by kernel_rfl
/- 186: ptr_strings_asciiSet -/
theorem und_186 : cfg.T.und 186 = some (.pointer 182) := Tryz.underlying186
theorem size_186 : cfg.T.size 186 = some 1 := by kernel_rfl
theorem bytes_186 : cfg.T.bytes 186 = some 8 := by kernel_rfl
theorem zero_186 : cfg.T.zero 186 = some .nilp := by kernel_rfl
/- 188: uint32 -/
theorem und_188 : cfg.T.und 188 = some (.int .u32) := Tryz.underlying188
theorem size_188 : cfg.T.size 188 = some 1 := by kernel_rfl
theorem bytes_188 : cfg.T.bytes 188 = some 4 := by kernel_rfl
theorem zero_188 : cfg.T.zero 188 = some (.int .u32 0) := by kernel_rfl
/- 189: uint32_uint32 -/
theorem size_189 : cfg.T.size 189 = some 1 := by kernel_rfl
theorem bytes_189 : cfg.T.bytes 189 = some 0 := by kernel_rfl
/- 191: uint64 -/
theorem und_191 : cfg.T.und 191 = some (.int .u64) := Tryz.underlying191
theorem size_191 : cfg.T.size 191 = some 1 := by kernel_rfl
theorem bytes_191 : cfg.T.bytes 191 = some 8 := by kernel_rfl
theorem zero_191 : cfg.T.zero 191 = some (.int .u64 0) := by kernel_rfl
/- 192: uint64_error -/
theorem size_192 : cfg.T.size 192 = some 1 := by kernel_rfl
theorem bytes_192 : cfg.T.bytes 192 = some 0 := by kernel_rfl
/- 194: struct_Func_string_Num_string_Err_error -/
theorem und_194 : cfg.T.und 194 = some (.struct #[{ name := "Func", type := 9, offset := 0, embedded := false, tag := "", pkgPath := "", byteOffset := 0 }, { name := "Num", type := 9, offset := 1, embedded := false, tag := "", pkgPath := "", byteOffset := 16 }, { name := "Err", type := 146, offset := 2, embedded := false, tag := "", pkgPath := "", byteOffset := 32 }]) := Tryz.underlying194
theorem size_194 : cfg.T.size 194 = some 3 := by kernel_rfl
theorem bytes_194 : cfg.T.bytes 194 = some 48 := by kernel_rfl
theorem zero_194 : cfg.T.zero 194 = some (.agg [(.str []), (.str []), .nili]) := by kernel_rfl
/- 195: strconv_NumError -/
theorem und_195 : cfg.T.und 195 = some (.struct #[{ name := "Func", type := 9, offset := 0, embedded := false, tag := "", pkgPath := "", byteOffset := 0 }, { name := "Num", type := 9, offset := 1, embedded := false, tag := "", pkgPath := "", byteOffset := 16 }, { name := "Err", type := 146, offset := 2, embedded := false, tag := "", pkgPath := "", byteOffset := 32 }]) := Tryz.underlying195
theorem size_195 : cfg.T.size 195 = some 3 := by kernel_rfl
theorem bytes_195 : cfg.T.bytes 195 = some 48 := by kernel_rfl
theorem zero_195 : cfg.T.zero 195 = some (.agg [(.str []), (.str []), .nili]) := by kernel_rfl
/- 199: 256_uint8 -/
theorem und_199 : cfg.T.und 199 = some (.array 256 5) := Tryz.underlying199
theorem size_199 : cfg.T.size 199 = some 256 := by kernel_rfl
theorem bytes_199 : cfg.T.bytes 199 = some 256 := by kernel_rfl
/- 200: struct_lo_uint8_hi_uint8 -/
theorem und_200 : cfg.T.und 200 = some (.struct #[{ name := "lo", type := 5, offset := 0, embedded := false, tag := "", pkgPath := "unicode/utf8", byteOffset := 0 }, { name := "hi", type := 5, offset := 1, embedded := false, tag := "", pkgPath := "unicode/utf8", byteOffset := 1 }]) := Tryz.underlying200
theorem size_200 : cfg.T.size 200 = some 2 := by kernel_rfl
theorem bytes_200 : cfg.T.bytes 200 = some 2 := by kernel_rfl
theorem zero_200 : cfg.T.zero 200 = some (.agg [(.int .u8 0), (.int .u8 0)]) := by kernel_rfl
/- 201: unicode_utf8_acceptRange -/
theorem und_201 : cfg.T.und 201 = some (.struct #[{ name := "lo", type := 5, offset := 0, embedded := false, tag := "", pkgPath := "unicode/utf8", byteOffset := 0 }, { name := "hi", type := 5, offset := 1, embedded := false, tag := "", pkgPath := "unicode/utf8", byteOffset := 1 }]) := Tryz.underlying201
theorem size_201 : cfg.T.size 201 = some 2 := by kernel_rfl
theorem bytes_201 : cfg.T.bytes 201 = some 2 := by kernel_rfl
theorem zero_201 : cfg.T.zero 201 = some (.agg [(.int .u8 0), (.int .u8 0)]) := by kernel_rfl
/- 202: 16_utf8_acceptRange -/
theorem und_202 : cfg.T.und 202 = some (.array 16 201) := Tryz.underlying202
theorem size_202 : cfg.T.size 202 = some 32 := by kernel_rfl
theorem bytes_202 : cfg.T.bytes 202 = some 32 := by kernel_rfl
theorem zero_202 : cfg.T.zero 202 = some (.agg [(.int .u8 0), (.int .u8 0), (.int .u8 0), (.int .u8 0), (.int .u8 0), (.int .u8 0), (.int .u8 0), (.int .u8 0), (.int .u8 0), (.int .u8 0), (.int .u8 0), (.int .u8 0), (.int .u8 0), (.int .u8 0), (.int .u8 0), (.int .u8 0), (.int .u8 0), (.int .u8 0), (.int .u8 0), (.int .u8 0), (.int .u8 0), (.int .u8 0), (.int .u8 0), (.int .u8 0), (.int .u8 0), (.int .u8 0), (.int .u8 0), (.int .u8 0), (.int .u8 0), (.int .u8 0), (.int .u8 0), (.int .u8 0)]) := by kernel_rfl
/- 203: ptr_errors_errorString -/
theorem und_203 : cfg.T.und 203 = some (.pointer 205) := Tryz.underlying203
theorem size_203 : cfg.T.size 203 = some 1 := by kernel_rfl
theorem bytes_203 : cfg.T.bytes 203 = some 8 := by kernel_rfl
theorem zero_203 : cfg.T.zero 203 = some .nilp := by kernel_rfl
/- 204: struct_s_string -/
theorem und_204 : cfg.T.und 204 = some (.struct #[{ name := "s", type := 9, offset := 0, embedded := false, tag := "", pkgPath := "errors", byteOffset := 0 }]) := Tryz.underlying204
theorem size_204 : cfg.T.size 204 = some 1 := by kernel_rfl
theorem bytes_204 : cfg.T.bytes 204 = some 16 := by kernel_rfl
theorem zero_204 : cfg.T.zero 204 = some (.agg [(.str [])]) := by kernel_rfl
/- 205: errors_errorString -/
theorem und_205 : cfg.T.und 205 = some (.struct #[{ name := "s", type := 9, offset := 0, embedded := false, tag := "", pkgPath := "errors", byteOffset := 0 }]) := Tryz.underlying205
theorem size_205 : cfg.T.size 205 = some 1 := by kernel_rfl
theorem bytes_205 : cfg.T.bytes 205 = some 16 := by kernel_rfl
theorem zero_205 : cfg.T.zero 205 = some (.agg [(.str [])]) := by kernel_rfl
/- 209: 24_uint8 -/
theorem und_209 : cfg.T.und 209 = some (.array 24 5) := Tryz.underlying209
theorem size_209 : cfg.T.size 209 = some 24 := by kernel_rfl
theorem bytes_209 : cfg.T.bytes 209 = some 24 := by kernel_rfl
theorem zero_209 : cfg.T.zero 209 = some (.agg [(.int .u8 0), (.int .u8 0), (.int .u8 0), (.int .u8 0), (.int .u8 0), (.int .u8 0), (.int .u8 0), (.int .u8 0), (.int .u8 0), (.int .u8 0), (.int .u8 0), (.int .u8 0), (.int .u8 0), (.int .u8 0), (.int .u8 0), (.int .u8 0), (.int .u8 0), (.int .u8 0), (.int .u8 0), (.int .u8 0), (.int .u8 0), (.int .u8 0), (.int .u8 0), (.int .u8 0)]) := by kernel_rfl
/- 212: sl_uint8_string -/
theorem size_212 : cfg.T.size 212 = some 1 := by kernel_rfl
theorem bytes_212 : cfg.T.bytes 212 = some 0 := by kernel_rfl
/- 215: 20_uint64 -/
theorem und_215 : cfg.T.und 215 = some (.array 20 191) := Tryz.underlying215
theorem size_215 : cfg.T.size 215 = some 20 := by kernel_rfl
theorem bytes_215 : cfg.T.bytes 215 = some 160 := by kernel_rfl
theorem zero_215 : cfg.T.zero 215 = some (.agg [(.int .u64 0), (.int .u64 0), (.int .u64 0), (.int .u64 0), (.int .u64 0), (.int .u64 0), (.int .u64 0), (.int .u64 0), (.int .u64 0), (.int .u64 0), (.int .u64 0), (.int .u64 0), (.int .u64 0), (.int .u64 0), (.int .u64 0), (.int .u64 0), (.int .u64 0), (.int .u64 0), (.int .u64 0), (.int .u64 0)]) := by kernel_rfl
/- 216: 65_uint8 -/
theorem und_216 : cfg.T.und 216 = some (.array 65 5) := Tryz.underlying216
theorem size_216 : cfg.T.size 216 = some 65 := by kernel_rfl
theorem bytes_216 : cfg.T.bytes 216 = some 65 := by kernel_rfl
/- 219: 32_uint8 -/
theorem und_219 : cfg.T.und 219 = some (.array 32 5) := Tryz.underlying219
theorem size_219 : cfg.T.size 219 = some 32 := by kernel_rfl
theorem bytes_219 : cfg.T.bytes 219 = some 32 := by kernel_rfl
theorem zero_219 : cfg.T.zero 219 = some (.agg [(.int .u8 0), (.int .u8 0), (.int .u8 0), (.int .u8 0), (.int .u8 0), (.int .u8 0), (.int .u8 0), (.int .u8 0), (.int .u8 0), (.int .u8 0), (.int .u8 0), (.int .u8 0), (.int .u8 0), (.int .u8 0), (.int .u8 0), (.int .u8 0), (.int .u8 0), (.int .u8 0), (.int .u8 0), (.int .u8 0), (.int .u8 0), (.int .u8 0), (.int .u8 0), (.int .u8 0), (.int .u8 0), (.int .u8 0), (.int .u8 0), (.int .u8 0), (.int .u8 0), (.int .u8 0), (.int .u8 0), (.int .u8 0)]) := by kernel_rfl
/- 220: 64_uint8 -/
theorem und_220 : cfg.T.und 220 = some (.array 64 5) := Tryz.underlying220
theorem size_220 : cfg.T.size 220 = some 64 := by kernel_rfl
theorem bytes_220 : cfg.T.bytes 220 = some 64 := by kernel_rfl
/- 223: 0_ptr_runtime_PanicNilError -/
theorem und_223 : cfg.T.und 223 = some (.array 0 16) := Tryz.underlying223
theorem size_223 : cfg.T.size 223 = some 0 := by kernel_rfl
theorem bytes_223 : cfg.T.bytes 223 = some 0 := by kernel_rfl
theorem zero_223 : cfg.T.zero 223 = some (.agg []) := by kernel_rfl
/- 224: struct_0_ptr_runtime_PanicNilError -/
theorem und_224 : cfg.T.und 224 = some (.struct #[{ name := "_", type := 223, offset := 0, embedded := false, tag := "", pkgPath := "runtime", byteOffset := 0 }]) := Tryz.underlying224
theorem size_224 : cfg.T.size 224 = some 0 := by kernel_rfl
theorem bytes_224 : cfg.T.bytes 224 = some 0 := by kernel_rfl
theorem zero_224 : cfg.T.zero 224 = some (.agg []) := by kernel_rfl
attribute [go_sem] size_0 bytes_0 und_2 size_2 bytes_2 zero_2 und_3 size_3 bytes_3 zero_3 und_4 size_4 bytes_4 zero_4 und_5 size_5 bytes_5 zero_5 und_9 size_9
attribute [go_sem] bytes_9 zero_9 und_12 size_12 bytes_12 zero_12 und_13 size_13 bytes_13 zero_13 und_15 size_15 bytes_15 zero_15 und_16 size_16 bytes_16 zero_16 und_20 size_20
attribute [go_sem] bytes_20 zero_20 und_21 size_21 bytes_21 zero_21 und_24 size_24 bytes_24 zero_24 und_25 size_25 bytes_25 zero_25 und_26 size_26 bytes_26 zero_26 und_27 size_27
attribute [go_sem] bytes_27 zero_27 und_28 size_28 bytes_28 zero_28 size_29 bytes_29 size_35 bytes_35 und_38 size_38 bytes_38 zero_38 und_39 size_39 bytes_39 zero_39 und_40 size_40
attribute [go_sem] bytes_40 zero_40 size_43 bytes_43 und_46 size_46 bytes_46 zero_46 size_48 bytes_48 und_51 size_51 bytes_51 zero_51 size_52 bytes_52 und_56 size_56 bytes_56 zero_56
attribute [go_sem] und_57 size_57 bytes_57 zero_57 flat_57 und_58 size_58 bytes_58 zero_58 und_59 size_59 bytes_59 zero_59 und_62 size_62 bytes_62 zero_62 size_63 bytes_63 und_65
attribute [go_sem] size_65 bytes_65 zero_65 und_66 size_66 bytes_66 zero_66 und_67 size_67 bytes_67 zero_67 und_68 size_68 bytes_68 zero_68 und_70 size_70 bytes_70 zero_70 und_71
attribute [go_sem] size_71 bytes_71 zero_71 flat_71 und_74 size_74 bytes_74 zero_74 und_75 size_75 bytes_75 zero_75 und_76 size_76 bytes_76 zero_76 und_83 size_83 bytes_83 zero_83
attribute [go_sem] und_84 size_84 bytes_84 zero_84 und_85 size_85 bytes_85 zero_85 und_87 size_87 bytes_87 zero_87 und_88 size_88 bytes_88 zero_88 und_89 size_89 bytes_89 zero_89
attribute [go_sem] und_92 size_92 bytes_92 zero_92 size_93 bytes_93 und_95 size_95 bytes_95 zero_95 und_96 size_96 bytes_96 zero_96 flat_96 und_97 size_97 bytes_97 zero_97 und_98
attribute [go_sem] size_98 bytes_98 zero_98 und_99 size_99 bytes_99 zero_99 und_100 size_100 bytes_100 zero_100 und_101 size_101 bytes_101 zero_101 und_104 size_104 bytes_104 zero_104 flat_104
attribute [go_sem] und_105 size_105 bytes_105 zero_105 flat_105 size_108 bytes_108 size_110 bytes_110 und_112 size_112 bytes_112 zero_112 und_113 size_113 bytes_113 zero_113 und_114 size_114 bytes_114
attribute [go_sem] zero_114 und_117 size_117 bytes_117 zero_117 und_118 size_118 bytes_118 zero_118 size_119 bytes_119 size_122 bytes_122 size_125 bytes_125 und_140 size_140 bytes_140 zero_140 und_141
attribute [go_sem] size_141 bytes_141 zero_141 und_142 size_142 bytes_142 zero_142 und_143 size_143 bytes_143 zero_143 und_146 size_146 bytes_146 zero_146 size_150 bytes_150 size_152 bytes_152 und_160
attribute [go_sem] size_160 bytes_160 zero_160 und_168 size_168 bytes_168 zero_168 und_169 size_169 bytes_169 zero_169 size_172 bytes_172 size_175 bytes_175 und_177 size_177 bytes_177 zero_177 und_181
attribute [go_sem] size_181 bytes_181 und_182 size_182 bytes_182 size_183 bytes_183 und_186 size_186 bytes_186 zero_186 und_188 size_188 bytes_188 zero_188 size_189 bytes_189 und_191 size_191 bytes_191
attribute [go_sem] zero_191 size_192 bytes_192 und_194 size_194 bytes_194 zero_194 und_195 size_195 bytes_195 zero_195 und_199 size_199 bytes_199 und_200 size_200 bytes_200 zero_200 und_201 size_201
attribute [go_sem] bytes_201 zero_201 und_202 size_202 bytes_202 zero_202 und_203 size_203 bytes_203 zero_203 und_204 size_204 bytes_204 zero_204 und_205 size_205 bytes_205 zero_205 und_209 size_209
attribute [go_sem] bytes_209 zero_209 size_212 bytes_212 und_215 size_215 bytes_215 zero_215 und_216 size_216 bytes_216 und_219 size_219 bytes_219 zero_219 und_220 size_220 bytes_220 und_223 size_223
attribute [go_sem] bytes_223 zero_223 und_224 size_224 bytes_224 zero_224
end Go.Proofs.YtcknfhhbijlobaaGreatDoor.D
