/- D: the rules of the symbolic evaluation, laid into a simp set that the library names. -/
import Derived.Test.YtcknfhhbijlobaaDoorDFloat
import Derived.Attr
namespace Go.Proofs.YtcknfhhbijlobaaDoor.D
open Go
/-- A call of a value. -/
def WFn (C : Cfg) {J : DV → DH → Prop} (v : DV) (x : List DV) (H : DH) (b : Later J) : Prop := match v with
  | .fn (.func g) a c => WK C g (a ++ x ++ c) H b
  | _ => False
theorem WFn_fn {C : Cfg} {J : DV → DH → Prop} {g : FuncId} {a c x : List DV} {H : DH} {b : Later J} : WFn C (.fn (.func g) a c) x H b = WK C g (a ++ x ++ c) H b := rfl
theorem s_callt {C : Cfg} {σ : Sg} {H : DH} {J : DV → DH → Prop} {t : Tmp} {as : Array Operand} {ts : Array TypeId} : W1 C (.call { callee := .value (.tmp t), args := as, argTypes := ts }) σ H J = WR (opds σ as.toList) (.mk fun x => WFn C (σ t) x H (.mk J)) := by
  apply propext; rw [W1_callt]
  constructor
  · rintro ⟨args, h1, g, a, b, h2, h3⟩
    rw [h1, h2]; exact h3
  · intro h
    cases ha : opds σ as.toList with
    | none => rw [ha] at h; exact h.elim
    | some args =>
      rw [ha] at h
      refine ⟨args, rfl, ?_⟩
      have h' : WFn C (σ t) args H (.mk J) := h
      unfold WFn at h'
      split at h'
      · rename_i g a c e; exact ⟨g, a, c, e, h'⟩
      · exact h'.elim
theorem mn_int {k k' : IntKind} {a b : Int} : minD (.int k a) (.int k' b) = some (.int k (if b < a then b else a)) := rfl
theorem mx_int {k k' : IntKind} {a b : Int} : maxD (.int k a) (.int k' b) = some (.int k (if b > a then b else a)) := rfl
attribute [go_sem ↓ low] Y_seq
attribute [go_sem ↓] Y_region_t Y_skip Y_label Y_ret Y_exit Y_goto Y_cond Y_block Y_region Y_scope YS_eq O_nil
attribute [go_sem ↓] O_1 O_0 O_gt O_gf gslot_succ gslot_zero s_move s_assign s_pick s_bin s_un s_conv
attribute [go_sem ↓] s_slice s_alloc s_box s_build s_buildSlice s_load s_store s_nilCheck s_fieldAddr s_field s_indexAddr s_index
attribute [go_sem ↓] s_callt s_makeSlice s_extract s_makeFunc s_callf s_callb s_range s_next WL_none WL_some WR_nil WR_tmp WR_cell opd_tmp
attribute [go_sem ↓] opd_const opd_func cD_bool cD_int cD_flt cD_str cD_nilp cD_nils cD_nilf cD_nili cD_nilm opds_nil
attribute [go_sem ↓] opds_cons parts_nil parts_cons
attribute [go_sem] WGs_some WG_bool WG_undef WD_some WX_some WR_some WP_some WH_some WT_bool WIf_t WIf_f WIf_dec
attribute [go_sem] WIf_not WIf_beq WIf_bne WIf_and WIf_or WX_ifn WD_ifn WH_ifn WD_nif WX_map resOne_0 resOne_1
attribute [go_sem] resOne_2 put_some put_none upd_get f0_0 f0_s f0_n tupAt isSome' binD intOp strOp
attribute [go_sem] shiftOp eqOp isShift unD bound_none bound_some WN_some WN_ifn sl_str ix_str WBy_some WIx_some
attribute [go_sem] ld WVa_some cells_ptr cells_ip cellsIn_some st storeIn WO'_some WO'_ifn nx WI_some fieldAtD
attribute [go_sem] fieldD buildD fieldPlaces fillD rangeD takeVar isAggD cl_bool cl_int cl_flt cl_str cl_nilp
attribute [go_sem] cl_ptr cl_ip cl_nils cl_sl cl_nilm cl_mp cl_fn cl_nilf cl_nili cl_ifc cl_agg on_bool
attribute [go_sem] on_int on_flt on_str on_nilp on_ptr on_ip on_nils on_sl on_nilm on_mp on_fn on_nilf
attribute [go_sem] on_nili on_ifc on_agg bl_len bl_append bl_sd bl_us bl_max bl_min ln_str ln_nils ln_sl
attribute [go_sem] dt_nils Option.isSome_some if_true if_false List.getElem?_cons_zero List.getElem?_cons_succ Bool.not_eq_true decide_eq_true_eq List.toList_toArray Bool.false_eq_true not_true_eq_false not_false_eq_true
attribute [go_sem] and_true true_and wrap_i64 wrap_i32 wrap_u8 wrap_u64 decide_true decide_false Bool.not_true Bool.not_false forall_const Int.toNat_natCast
attribute [go_sem] List.length_cons List.length_nil List.take_succ_cons List.take_zero List.drop_succ_cons List.drop_zero List.head?_cons List.cons_append List.nil_append List.append_nil List.all_cons List.all_nil
attribute [go_sem] Bool.and_true Bool.true_and List.getElem?_toArray List.take_length List.drop_nil Int.toNat_zero set_m new_m set_next new_next ne_eq or_false
attribute [go_sem] false_or or_self Int.cast_ofNat_Int Int.natCast_zero Int.natCast_one beq_self_eq_true Nat.zero_lt_succ Nat.zero_add Nat.add_zero buildSliceD dense newSl
attribute [go_sem] beq_iff_eq iff_false iff_true Nat.one_pos gt_iff_lt ge_iff_le List.isEmpty_cons List.isEmpty_nil byteDV false_implies implies_true true_implies
attribute [go_sem] WFn_fn isConstO Bool.or_true Bool.true_or Bool.or_false Bool.false_or mn_int mx_int F_nil F_cons FH FL FW getW ia_hs sl_hs ln_hs cl_hs on_hs cellsIn_row mov_m mov_next and_self ia_sl sl_sl Option.some.injEq TypeDesc.slice.injEq exists_eq_left' exists_eq_left convD
end Go.Proofs.YtcknfhhbijlobaaDoor.D
