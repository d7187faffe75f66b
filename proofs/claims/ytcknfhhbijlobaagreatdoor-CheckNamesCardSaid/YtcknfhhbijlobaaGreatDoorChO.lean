import Derived.Test.YtcknfhhbijlobaaGreatDoorChN
/- CheckNames: the walk. -/
namespace Go.Proofs.YtcknfhhbijlobaaGreatDoor.D
open Go
set_option linter.unusedVariables false
set_option linter.unusedSimpArgs false
set_option maxRecDepth 100000

theorem checkNames_ok {s : List UInt8} {H : DH} (hs : s.length ≤ 9223372036854775807) : WC cfg 5 [.str s] H fun v H' => v = .bool true := by
  refine WC_of (show Has cfg 5 165 [.tmp 2] _ from ⟨by kernel_rfl, Tryz.f5, Tryz.func5, rfl, rfl, rfl, by kernel_rfl⟩) (by simp) ?_
  simp -dsimp (disch := first | omega | (refine DrawYes.mk ?_; decide +kernel) | fail) only [go_sem, ↓reduceIte, reduceCtorEq, Nat.reduceEqDiff, Nat.reduceAdd, Nat.reduceLeDiff, Int.reduceLE, Int.reduceLT, Int.reduceBEq, Int.reduceBNe, Int.reduceEq, Nat.reduceBEq, Int.reduceToNat, Nat.reduceLT, Nat.reduceGT, Nat.reduceSub, Nat.reduceMul, Int.reduceAdd, Int.reduceSub, Int.reduceNeg, Int.reduceGE, Int.reduceGT]
  refine call chshown_ok ?_
  rintro _ H1 ⟨rfl, hE1⟩
  simp -dsimp (disch := first | omega | (refine DrawYes.mk ?_; decide +kernel) | fail) only [go_sem, ↓reduceIte, reduceCtorEq, Nat.reduceEqDiff, Nat.reduceAdd, Nat.reduceLeDiff, Int.reduceLE, Int.reduceLT, Int.reduceBEq, Int.reduceBNe, Int.reduceEq, Nat.reduceBEq, Int.reduceToNat, Nat.reduceLT, Nat.reduceGT, Nat.reduceSub, Nat.reduceMul, Int.reduceAdd, Int.reduceSub, Int.reduceNeg, Int.reduceGE, Int.reduceGT, chshort_eq]
  have hsl : (s.take 2100).length < 1000000 := by rw [List.length_take]; omega
  refine call (csource_ok hsl) ?_
  rintro _ H2 ⟨hE2, stmv, topv, rfl, hP⟩
  obtain ⟨a1, a2, a3⟩ := hP.two
  have hfine := parse_fine (s.take 2100)
  have h2 := checkS_two (s.take 2100)
  generalize hr : checkS (s.take 2100) = r at *
  obtain ⟨md, R, top, at_, e⟩ := r
  dsimp only at h2 hP a3 ⊢
  rcases h2 with ⟨h0, rfl, rfl⟩ | ⟨rfl, hc, hR⟩
  · have j : ((e : Int) != 0) = true := by simp; omega
    simp -dsimp (disch := first | omega | (refine DrawYes.mk ?_; decide +kernel) | fail) only [go_sem, ↓reduceIte, reduceCtorEq, Nat.reduceEqDiff, Nat.reduceAdd, Nat.reduceLeDiff, Int.reduceLE, Int.reduceLT, Int.reduceBEq, Int.reduceBNe, Int.reduceEq, Nat.reduceBEq, Int.reduceToNat, Nat.reduceLT, Nat.reduceGT, Nat.reduceSub, Nat.reduceMul, Int.reduceAdd, Int.reduceSub, Int.reduceNeg, Int.reduceGE, Int.reduceGT, a1, a2, a3, j]
  · rw [← hR] at hfine
    clear hR hr hs hsl hE1 hE2
    obtain ⟨hRl, hRf⟩ := hfine
    simp -dsimp (disch := first | omega | (refine DrawYes.mk ?_; decide +kernel) | fail) only [go_sem, ↓reduceIte, reduceCtorEq, Nat.reduceEqDiff, Nat.reduceAdd, Nat.reduceLeDiff, Int.reduceLE, Int.reduceLT, Int.reduceBEq, Int.reduceBNe, Int.reduceEq, Nat.reduceBEq, Int.reduceToNat, Nat.reduceLT, Nat.reduceGT, Nat.reduceSub, Nat.reduceMul, Int.reduceAdd, Int.reduceSub, Int.reduceNeg, Int.reduceGE, Int.reduceGT, a1, a2, a3]
    refine Y_loop (α := Nat) (fun k σ H' => k ≤ R.length ∧ H2.next + 3 ≤ H'.next ∧ H'.m H2.next = some (.cells 27 [.int .i64 md, stmv, topv]) ∧ IsSi H' 9 1 (H2.next + 1) (σ 7) ((labelsL (R.take k)).map .str) ∧ IsSi H' 9 1 (H2.next + 1 + 1) (σ 8) ((setsL (R.take k)).map .str) ∧ σ 3 = .bool true ∧ σ 4 = .ptr H2.next 0 ∧ σ 9 = .int .i64 k) (fun k => R.length - k) 0 ?_ ?_
    · simp -dsimp (disch := first | omega | (refine DrawYes.mk ?_; decide +kernel) | fail) only [go_sem, ↓reduceIte, reduceCtorEq, Nat.reduceEqDiff, Nat.reduceAdd, Nat.reduceLeDiff, Int.reduceLE, Int.reduceLT, Int.reduceBEq, Int.reduceBNe, Int.reduceEq, Nat.reduceBEq, Int.reduceToNat, Nat.reduceLT, Nat.reduceGT, Nat.reduceSub, Nat.reduceMul, Int.reduceAdd, Int.reduceSub, Int.reduceNeg, Int.reduceGE, Int.reduceGT]
      have x1 : ¬ H2.next + 1 = H2.next + 1 + 1 := by omega
      have x2 : ¬ H2.next = H2.next + 1 + 1 := by omega
      have x3 : ¬ H2.next = H2.next + 1 := by omega
      refine ⟨by omega, by omega, ?_, ⟨0, 0, rfl, ?_, rfl, ?_⟩, ⟨0, 0, rfl, ?_, rfl, ?_⟩⟩
      all_goals simp only [new_m, set_m, new_next, set_next, x1, x2, x3, if_true, if_false]
      all_goals first | rfl | omega | skip
    rintro k σ H3 ⟨hk, hn3, hm4, hl, hst, s3, s4, s9⟩
    by_cases hlt : k < R.length
    · have i0 : (k : Int) < R.length := by omega
      have hgR : R[k]? = some R[k] := List.getElem?_eq_getElem hlt
      have hmem : R[k] ∈ R := List.getElem_mem hlt
      generalize R[k] = st at hgR hmem
      have hok := names17_ok hc hgR
      have htkl : labelsL (R.take (k + 1)) = if st.kind = 13 then labelsL (R.take k) ++ [st.s] else labelsL (R.take k) := by rw [List.take_add_one, hgR]; exact labelsL_add
      have htks : setsL (R.take (k + 1)) = if st.kind = 1 ∨ st.kind = 9 ∨ st.kind = 10 then setsL (R.take k) ++ [st.s] else setsL (R.take k) := by rw [List.take_add_one, hgR]; exact setsL_add
      have hll := labels_len (R.take k)
      have hsl := sets_len (R.take k)
      rw [List.length_take] at hll hsl
      obtain ⟨⟨es, hes, hall⟩, htop⟩ := hP
      obtain ⟨d, hgd, hd⟩ := hall.get hgR
      obtain ⟨vl, vm, rfl, hvl, hvm⟩ := hd
      obtain ⟨l1, l2, _⟩ := hvl.facts
      obtain ⟨m1, m2, _⟩ := hvm.facts
      obtain ⟨eid, eoff, rfl⟩ : ∃ id off, stmv = .sl id 8 off es := by
        rcases hes with ⟨_, h⟩ | h
        · rw [h] at hgd; simp at hgd
        · exact h
      have y1 : ¬ H2.next = H3.next := by omega
      have y2 : ¬ H3.next = H2.next := by omega
      have hx : ∀ o o' o'', Ext H3 (((H3.new o).set H3.next o').new o'') := fun o o' o'' => ((Ext.refl.new).set (Nat.le_refl _)).new
      have hx2 : ∀ o o', Ext H3 ((H3.new o).set H3.next o') := fun o o' => (Ext.refl.new).set (Nat.le_refl _)
      have hs3 : ∀ o o' o'', (((H3.new o).set H3.next o').new o'').m H3.next = some o' := fun o o' o'' => by rw [new_m, if_neg (by simp only [new_next, set_next]; omega), set_m, if_pos rfl]
      by_cases h13 : st.kind = 13
      · have b13 : ((st.kind : Int) == 13) = true := by simp; omega
        have b1 : ((st.kind : Int) == 1) = false := by simp; omega
        have b9 : ((st.kind : Int) == 9) = false := by simp; omega
        have b10 : ((st.kind : Int) == 10) = false := by simp; omega
        simp -dsimp (disch := first | omega | (refine DrawYes.mk ?_; decide +kernel) | fail) only [go_sem, ↓reduceIte, reduceCtorEq, Nat.reduceEqDiff, Nat.reduceAdd, Nat.reduceLeDiff, Int.reduceLE, Int.reduceLT, Int.reduceBEq, Int.reduceBNe, Int.reduceEq, Nat.reduceBEq, Int.reduceToNat, Nat.reduceLT, Nat.reduceGT, Nat.reduceSub, Nat.reduceMul, Int.reduceAdd, Int.reduceSub, Int.reduceNeg, Int.reduceGE, Int.reduceGT, s3, s4, s9, hm4, a1, a2, a3, i0, hgd, l1, l2, m1, m2, b13]
        refine And.intro (by omega) ?_
        refine call (within17_ok (by omega) (hl.sn (lo := 0) (Nat.zero_le _)).slv) ?_
        rintro _ H4 ⟨rfl, hH4⟩
        rw [hH4]; clear hH4 H4
        rw [decide_eq_false (hok.once h13)]
        simp -dsimp (disch := first | omega | (refine DrawYes.mk ?_; decide +kernel) | fail) only [go_sem, ↓reduceIte, reduceCtorEq, Nat.reduceEqDiff, Nat.reduceAdd, Nat.reduceLeDiff, Int.reduceLE, Int.reduceLT, Int.reduceBEq, Int.reduceBNe, Int.reduceEq, Nat.reduceBEq, Int.reduceToNat, Nat.reduceLT, Nat.reduceGT, Nat.reduceSub, Nat.reduceMul, Int.reduceAdd, Int.reduceSub, Int.reduceNeg, Int.reduceGE, Int.reduceGT, s3, s4, s9, hm4, a1, a2, a3, i0, hgd, l1, l2, m1, m2, b13, y1, y2]
        repeat refine And.intro (by omega) ?_
        refine appi und_38 size_9 bytes_9 und_38 zero_9 rfl rfl (by decide) (hl.ext (hx _ _ _)) rfl (by simp only [List.length_map, List.length_cons, List.length_nil]; omega) (by simp only [List.length_map, List.length_cons, List.length_nil]; omega) ?_
        intro v' H5 hv5 hn5 hm5
        have hoth := (hst.ext (hx _ _ _)).keep (Nat.le_of_eq hn5.symm) (hm5 _ (by omega))
        have hm5b := (hm5 H2.next (by omega)).trans (((hx _ _ _).same _ (by omega)).trans hm4)
        have hm5c := (hm5 H3.next (by omega)).trans (hs3 _ _ _)
        simp only [new_next, set_next] at hn5
        rw [if_pos h13] at htkl
        rw [if_neg (by omega)] at htks
        simp -dsimp (disch := first | omega | (refine DrawYes.mk ?_; decide +kernel) | fail) only [go_sem, ↓reduceIte, reduceCtorEq, Nat.reduceEqDiff, Nat.reduceAdd, Nat.reduceLeDiff, Int.reduceLE, Int.reduceLT, Int.reduceBEq, Int.reduceBNe, Int.reduceEq, Nat.reduceBEq, Int.reduceToNat, Nat.reduceLT, Nat.reduceGT, Nat.reduceSub, Nat.reduceMul, Int.reduceAdd, Int.reduceSub, Int.reduceNeg, Int.reduceGE, Int.reduceGT, s3, s4, s9, hm4, a1, a2, a3, i0, hgd, l1, l2, m1, m2, b13, b1, b9, b10, y1, y2, hm5b, hm5c]
        refine ⟨k + 1, ⟨by omega, by omega, by rw [htkl, List.map_append]; exact hv5, by rw [htks]; exact hoth, rfl⟩, by omega⟩
      · have b13 : ((st.kind : Int) == 13) = false := by simp; omega
        by_cases h1 : st.kind = 1
        · have b1 : ((st.kind : Int) == 1) = true := by simp; omega
          simp -dsimp (disch := first | omega | (refine DrawYes.mk ?_; decide +kernel) | fail) only [go_sem, ↓reduceIte, reduceCtorEq, Nat.reduceEqDiff, Nat.reduceAdd, Nat.reduceLeDiff, Int.reduceLE, Int.reduceLT, Int.reduceBEq, Int.reduceBNe, Int.reduceEq, Nat.reduceBEq, Int.reduceToNat, Nat.reduceLT, Nat.reduceGT, Nat.reduceSub, Nat.reduceMul, Int.reduceAdd, Int.reduceSub, Int.reduceNeg, Int.reduceGE, Int.reduceGT, s3, s4, s9, hm4, a1, a2, a3, i0, hgd, l1, l2, m1, m2, b13, b1]
          refine And.intro (by omega) ?_
          refine appi und_38 size_9 bytes_9 und_38 zero_9 rfl rfl (by decide) (hst.ext (hx _ _ _)) rfl (by simp only [List.length_map, List.length_cons, List.length_nil]; omega) (by simp only [List.length_map, List.length_cons, List.length_nil]; omega) ?_
          intro v' H5 hv5 hn5 hm5
          have hoth := (hl.ext (hx _ _ _)).keep (Nat.le_of_eq hn5.symm) (hm5 _ (by omega))
          have hm5b := (hm5 H2.next (by omega)).trans (((hx _ _ _).same _ (by omega)).trans hm4)
          simp only [new_next, set_next] at hn5
          rw [if_neg h13] at htkl
          rw [if_pos (by omega)] at htks
          simp -dsimp (disch := first | omega | (refine DrawYes.mk ?_; decide +kernel) | fail) only [go_sem, ↓reduceIte, reduceCtorEq, Nat.reduceEqDiff, Nat.reduceAdd, Nat.reduceLeDiff, Int.reduceLE, Int.reduceLT, Int.reduceBEq, Int.reduceBNe, Int.reduceEq, Nat.reduceBEq, Int.reduceToNat, Nat.reduceLT, Nat.reduceGT, Nat.reduceSub, Nat.reduceMul, Int.reduceAdd, Int.reduceSub, Int.reduceNeg, Int.reduceGE, Int.reduceGT, s3, s4, s9]
          refine ⟨k + 1, ⟨by omega, by omega, hm5b, by rw [htkl]; exact hoth, by rw [htks, List.map_append]; exact hv5, rfl⟩, by omega⟩
        · have b1 : ((st.kind : Int) == 1) = false := by simp; omega
          by_cases h9 : st.kind = 9
          · have b9 : ((st.kind : Int) == 9) = true := by simp; omega
            simp -dsimp (disch := first | omega | (refine DrawYes.mk ?_; decide +kernel) | fail) only [go_sem, ↓reduceIte, reduceCtorEq, Nat.reduceEqDiff, Nat.reduceAdd, Nat.reduceLeDiff, Int.reduceLE, Int.reduceLT, Int.reduceBEq, Int.reduceBNe, Int.reduceEq, Nat.reduceBEq, Int.reduceToNat, Nat.reduceLT, Nat.reduceGT, Nat.reduceSub, Nat.reduceMul, Int.reduceAdd, Int.reduceSub, Int.reduceNeg, Int.reduceGE, Int.reduceGT, s3, s4, s9, hm4, a1, a2, a3, i0, hgd, l1, l2, m1, m2, b13, b1, b9]
            refine And.intro (by omega) ?_
            refine appi und_38 size_9 bytes_9 und_38 zero_9 rfl rfl (by decide) (hst.ext (hx _ _ _)) rfl (by simp only [List.length_map, List.length_cons, List.length_nil]; omega) (by simp only [List.length_map, List.length_cons, List.length_nil]; omega) ?_
            intro v' H5 hv5 hn5 hm5
            have hoth := (hl.ext (hx _ _ _)).keep (Nat.le_of_eq hn5.symm) (hm5 _ (by omega))
            have hm5b := (hm5 H2.next (by omega)).trans (((hx _ _ _).same _ (by omega)).trans hm4)
            simp only [new_next, set_next] at hn5
            rw [if_neg h13] at htkl
            rw [if_pos (by omega)] at htks
            simp -dsimp (disch := first | omega | (refine DrawYes.mk ?_; decide +kernel) | fail) only [go_sem, ↓reduceIte, reduceCtorEq, Nat.reduceEqDiff, Nat.reduceAdd, Nat.reduceLeDiff, Int.reduceLE, Int.reduceLT, Int.reduceBEq, Int.reduceBNe, Int.reduceEq, Nat.reduceBEq, Int.reduceToNat, Nat.reduceLT, Nat.reduceGT, Nat.reduceSub, Nat.reduceMul, Int.reduceAdd, Int.reduceSub, Int.reduceNeg, Int.reduceGE, Int.reduceGT, s3, s4, s9]
            refine ⟨k + 1, ⟨by omega, by omega, hm5b, by rw [htkl]; exact hoth, by rw [htks, List.map_append]; exact hv5, rfl⟩, by omega⟩
          · have b9 : ((st.kind : Int) == 9) = false := by simp; omega
            by_cases h10 : st.kind = 10
            · have b10 : ((st.kind : Int) == 10) = true := by simp; omega
              simp -dsimp (disch := first | omega | (refine DrawYes.mk ?_; decide +kernel) | fail) only [go_sem, ↓reduceIte, reduceCtorEq, Nat.reduceEqDiff, Nat.reduceAdd, Nat.reduceLeDiff, Int.reduceLE, Int.reduceLT, Int.reduceBEq, Int.reduceBNe, Int.reduceEq, Nat.reduceBEq, Int.reduceToNat, Nat.reduceLT, Nat.reduceGT, Nat.reduceSub, Nat.reduceMul, Int.reduceAdd, Int.reduceSub, Int.reduceNeg, Int.reduceGE, Int.reduceGT, s3, s4, s9, hm4, a1, a2, a3, i0, hgd, l1, l2, m1, m2, b13, b1, b9, b10, y1, y2]
              refine And.intro (by omega) ?_
              refine appi und_38 size_9 bytes_9 und_38 zero_9 rfl rfl (by decide) (hst.ext (hx _ _ _)) rfl (by simp only [List.length_map, List.length_cons, List.length_nil]; omega) (by simp only [List.length_map, List.length_cons, List.length_nil]; omega) ?_
              intro v' H5 hv5 hn5 hm5
              have hoth := (hl.ext (hx _ _ _)).keep (Nat.le_of_eq hn5.symm) (hm5 _ (by omega))
              have hm5b := (hm5 H2.next (by omega)).trans (((hx _ _ _).same _ (by omega)).trans hm4)
              simp only [new_next, set_next] at hn5
              rw [if_neg h13] at htkl
              rw [if_pos (by omega)] at htks
              simp -dsimp (disch := first | omega | (refine DrawYes.mk ?_; decide +kernel) | fail) only [go_sem, ↓reduceIte, reduceCtorEq, Nat.reduceEqDiff, Nat.reduceAdd, Nat.reduceLeDiff, Int.reduceLE, Int.reduceLT, Int.reduceBEq, Int.reduceBNe, Int.reduceEq, Nat.reduceBEq, Int.reduceToNat, Nat.reduceLT, Nat.reduceGT, Nat.reduceSub, Nat.reduceMul, Int.reduceAdd, Int.reduceSub, Int.reduceNeg, Int.reduceGE, Int.reduceGT, s3, s4, s9]
              refine ⟨k + 1, ⟨by omega, by omega, hm5b, by rw [htkl]; exact hoth, by rw [htks, List.map_append]; exact hv5, rfl⟩, by omega⟩
            · have b10 : ((st.kind : Int) == 10) = false := by simp; omega
              simp -dsimp (disch := first | omega | (refine DrawYes.mk ?_; decide +kernel) | fail) only [go_sem, ↓reduceIte, reduceCtorEq, Nat.reduceEqDiff, Nat.reduceAdd, Nat.reduceLeDiff, Int.reduceLE, Int.reduceLT, Int.reduceBEq, Int.reduceBNe, Int.reduceEq, Nat.reduceBEq, Int.reduceToNat, Nat.reduceLT, Nat.reduceGT, Nat.reduceSub, Nat.reduceMul, Int.reduceAdd, Int.reduceSub, Int.reduceNeg, Int.reduceGE, Int.reduceGT, s3, s4, s9, hm4, a1, a2, a3, i0, hgd, l1, l2, m1, m2, b13, b1, b9, b10, y1, y2]
              refine And.intro (by omega) ?_
              rw [if_neg h13] at htkl
              rw [if_neg (by omega)] at htks
              refine ⟨k + 1, ⟨by omega, by omega, by rw [htkl]; exact hl.ext (hx2 _ _), by rw [htks]; exact hst.ext (hx2 _ _), rfl⟩, by omega⟩
    · have i0 : ¬ (k : Int) < R.length := by omega
      obtain rfl : k = R.length := by omega
      rw [List.take_length] at hl hst
      simp -dsimp (disch := first | omega | (refine DrawYes.mk ?_; decide +kernel) | fail) only [go_sem, ↓reduceIte, reduceCtorEq, Nat.reduceEqDiff, Nat.reduceAdd, Nat.reduceLeDiff, Int.reduceLE, Int.reduceLT, Int.reduceBEq, Int.reduceBNe, Int.reduceEq, Nat.reduceBEq, Int.reduceToNat, Nat.reduceLT, Nat.reduceGT, Nat.reduceSub, Nat.reduceMul, Int.reduceAdd, Int.reduceSub, Int.reduceNeg, Int.reduceGE, Int.reduceGT, s3, s4, s9, hm4, a1, a2, a3, i0]
      refine Y_loop (α := Nat) (fun k σ' H' => k ≤ R.length ∧ Ext H3 H' ∧ σ' 3 = .bool true ∧ σ' 4 = .ptr H2.next 0 ∧ σ' 7 = σ 7 ∧ σ' 8 = σ 8 ∧ σ' 12 = .int .i64 k) (fun k => R.length - k) 0 ?_ ?_
      · simp -dsimp (disch := first | omega | (refine DrawYes.mk ?_; decide +kernel) | fail) only [go_sem, ↓reduceIte, reduceCtorEq, Nat.reduceEqDiff, Nat.reduceAdd, Nat.reduceLeDiff, Int.reduceLE, Int.reduceLT, Int.reduceBEq, Int.reduceBNe, Int.reduceEq, Nat.reduceBEq, Int.reduceToNat, Nat.reduceLT, Nat.reduceGT, Nat.reduceSub, Nat.reduceMul, Int.reduceAdd, Int.reduceSub, Int.reduceNeg, Int.reduceGE, Int.reduceGT, s3, s4]
        exact ⟨by omega, Ext.refl⟩
      have hll := labels_len (R.take R.length)
      have hsl := sets_len (R.take R.length)
      rw [List.take_length] at hll hsl
      have hls := (hl.sn (lo := 0) (Nat.zero_le _)).slv
      have hss := (hst.sn (lo := 0) (Nat.zero_le _)).slv
      have hlt3 : H2.next < H3.next := by omega
      clear i0 hl hst
      generalize σ 7 = lv at *
      generalize σ 8 = sv at *
      clear s3 s4 s9 hk σ
      rintro k σ H4 ⟨hk, hE, r3, r4, r7, r8, r12⟩
      have hm4b := hE.get hlt3 hm4
      have hle4 := hE.le
      by_cases hlt : k < R.length
      · have i0 : (k : Int) < R.length := by omega
        have hgR : R[k]? = some R[k] := List.getElem?_eq_getElem hlt
        have hmem : R[k] ∈ R := List.getElem_mem hlt
        generalize R[k] = st at hgR hmem
        have hok := names17_ok hc hgR
        obtain ⟨_, _, hslen, htlen, _⟩ := hRf st hmem
        obtain ⟨⟨es, hes, hall⟩, htop⟩ := hP
        obtain ⟨d, hgd, hd⟩ := hall.get hgR
        obtain ⟨vl, vm, rfl, hvl, hvm⟩ := hd
        obtain ⟨l1, l2, _⟩ := hvl.facts
        obtain ⟨m1, m2, _⟩ := hvm.facts
        obtain ⟨eid, eoff, rfl⟩ : ∃ id off, stmv = .sl id 8 off es := by
          rcases hes with ⟨_, h⟩ | h
          · rw [h] at hgd; simp at hgd
          · exact h
        have y1 : ¬ H2.next = H4.next := by omega
        have y2 : ¬ H4.next = H2.next := by omega
        have hx2 : ∀ o o', Ext H4 ((H4.new o).set H4.next o') := fun o o' => (Ext.refl.new).set (Nat.le_refl _)
        have hs4 : ∀ o o', ((H4.new o).set H4.next o').m H4.next = some o' := fun o o' => by rw [set_m, if_pos rfl]
        simp -dsimp (disch := first | omega | (refine DrawYes.mk ?_; decide +kernel) | fail) only [go_sem, ↓reduceIte, reduceCtorEq, Nat.reduceEqDiff, Nat.reduceAdd, Nat.reduceLeDiff, Int.reduceLE, Int.reduceLT, Int.reduceBEq, Int.reduceBNe, Int.reduceEq, Nat.reduceBEq, Int.reduceToNat, Nat.reduceLT, Nat.reduceGT, Nat.reduceSub, Nat.reduceMul, Int.reduceAdd, Int.reduceSub, Int.reduceNeg, Int.reduceGE, Int.reduceGT, r3, r4, r7, r8, r12, hm4b, a1, a2, a3, i0, hgd, l1, l2, m1, m2]
        refine And.intro (by omega) ?_
        refine call (within17_ok (by omega) hls) ?_
        rintro _ H5 ⟨rfl, hH5⟩
        rw [hH5]; clear hH5 H5
        -- KINDS
        have hk5 : st.kind = 14 ∨ st.kind = 15 ∨ st.kind = 3 ∨ st.kind = 2 ∨ (st.kind ≠ 14 ∧ st.kind ≠ 15 ∧ st.kind ≠ 3 ∧ st.kind ≠ 2) := by omega
        rcases hk5 with hk14 | hk15 | hk3 | hk2 | hk0
        · have b14 : ((st.kind : Int) == 14) = true := by simp; omega
          have b15 : ((st.kind : Int) == 15) = false := by simp; omega
          have b3 : ((st.kind : Int) == 3) = false := by simp; omega
          have b2 : ((st.kind : Int) == 2) = false := by simp; omega
          rw [decide_eq_true (hok.goes (.inl hk14))]
          simp -dsimp (disch := first | omega | (refine DrawYes.mk ?_; decide +kernel) | fail) only [go_sem, ↓reduceIte, reduceCtorEq, Nat.reduceEqDiff, Nat.reduceAdd, Nat.reduceLeDiff, Int.reduceLE, Int.reduceLT, Int.reduceBEq, Int.reduceBNe, Int.reduceEq, Nat.reduceBEq, Int.reduceToNat, Nat.reduceLT, Nat.reduceGT, Nat.reduceSub, Nat.reduceMul, Int.reduceAdd, Int.reduceSub, Int.reduceNeg, Int.reduceGE, Int.reduceGT, r3, r4, r7, r8, r12, hm4b, a1, a2, a3, i0, hgd, l1, l2, m1, m2, b14, b15, y1, y2]
          refine call (rcodes_ok htlen) ?_
          rintro _ H6 ⟨rfl, hE6⟩
          generalize codesB md st.t = cx
          have hle6 := hE6.le
          simp only [set_next, new_next] at hle6
          have q4 := hE6.get (b := H4.next) (by simp only [set_next, new_next]; omega) (hs4 _ _)
          have q2 := hE6.get (b := H2.next) (by simp only [set_next, new_next]; omega) (((hx2 _ _).same _ (by omega)).trans hm4b)
          have hE36 : Ext H3 H6 := (hE.trans (hx2 _ _)).trans hE6
          clear hE6 hx2 hs4 hm4b
          simp -dsimp (disch := first | omega | (refine DrawYes.mk ?_; decide +kernel) | fail) only [go_sem, ↓reduceIte, reduceCtorEq, Nat.reduceEqDiff, Nat.reduceAdd, Nat.reduceLeDiff, Int.reduceLE, Int.reduceLT, Int.reduceBEq, Int.reduceBNe, Int.reduceEq, Nat.reduceBEq, Int.reduceToNat, Nat.reduceLT, Nat.reduceGT, Nat.reduceSub, Nat.reduceMul, Int.reduceAdd, Int.reduceSub, Int.reduceNeg, Int.reduceGE, Int.reduceGT, r3, r4, r7, r8, r12, q4, q2, b3, b2]
          refine call (rnames_ok hslen) ?_
          rintro _ H7 ⟨hE7, nv, rfl, ns, hnv, hnl, hns⟩
          have p4 := hE7.get (b := H4.next) (by omega) q4
          have hE37 : Ext H3 H7 := hE36.trans hE7
          clear hE7 hE36 q4 q2
          generalize (namesL st.s).isSome = ok
          have hlen := fun H => hnv.len (H := H) und_38
          rw [List.length_map] at hlen
          have hone : nv.cells = [nv] ∧ nv.one = true := by rcases hnv with ⟨rfl, _⟩ | ⟨_, _, rfl⟩ <;> exact ⟨rfl, rfl⟩
          obtain ⟨c1, c2⟩ := hone
          simp -dsimp (disch := first | omega | (refine DrawYes.mk ?_; decide +kernel) | fail) only [go_sem, ↓reduceIte, reduceCtorEq, Nat.reduceEqDiff, Nat.reduceAdd, Nat.reduceLeDiff, Int.reduceLE, Int.reduceLT, Int.reduceBEq, Int.reduceBNe, Int.reduceEq, Nat.reduceBEq, Int.reduceToNat, Nat.reduceLT, Nat.reduceGT, Nat.reduceSub, Nat.reduceMul, Int.reduceAdd, Int.reduceSub, Int.reduceNeg, Int.reduceGE, Int.reduceGT, r3, r4, r7, r8, r12, p4, b3, c1, c2]
          refine Y_loop (α := Nat) (fun j σ' H' => H' = H7 ∧ j ≤ ns.length ∧ σ' 3 = .bool true ∧ σ' 4 = .ptr H2.next 0 ∧ σ' 7 = lv ∧ σ' 8 = sv ∧ σ' 12 = .int .i64 k ∧ σ' 13 = .ptr H4.next 0 ∧ σ' 16 = nv ∧ σ' 18 = .int .i64 j) (fun j => ns.length - j) 0 ?_ ?_
          · simp -dsimp (disch := first | omega | (refine DrawYes.mk ?_; decide +kernel) | fail) only [go_sem, ↓reduceIte, reduceCtorEq, Nat.reduceEqDiff, Nat.reduceAdd, Nat.reduceLeDiff, Int.reduceLE, Int.reduceLT, Int.reduceBEq, Int.reduceBNe, Int.reduceEq, Nat.reduceBEq, Int.reduceToNat, Nat.reduceLT, Nat.reduceGT, Nat.reduceSub, Nat.reduceMul, Int.reduceAdd, Int.reduceSub, Int.reduceNeg, Int.reduceGE, Int.reduceGT, r3, r4, r7, r8, r12]
            exact Nat.zero_le _
          rintro j σ9 H9 ⟨hH9, hj, t3, t4, t7, t8, t12, t13, t16, t18⟩
          rw [hH9]; clear hH9 H9
          by_cases hjl : j < ns.length
          · have i9 : (j : Int) < ns.length := by omega
            have hgl : ns[j]? = some ns[j] := List.getElem?_eq_getElem hjl
            have hnm : ns[j] ∈ ns := List.getElem_mem hjl
            generalize ns[j] = q at hgl hnm
            have hgm : (ns.map DV.str)[j]? = some (.str q) := by rw [List.getElem?_map, hgl]; rfl
            obtain ⟨nid, noff, rfl⟩ : ∃ id off, nv = .sl id 1 off (ns.map .str) := by
              rcases hnv with ⟨_, h⟩ | h
              · rw [List.map_eq_nil_iff] at h; rw [h] at hgl; simp at hgl
              · exact h
            simp -dsimp (disch := first | omega | (refine DrawYes.mk ?_; decide +kernel) | fail) only [go_sem, ↓reduceIte, reduceCtorEq, Nat.reduceEqDiff, Nat.reduceAdd, Nat.reduceLeDiff, Int.reduceLE, Int.reduceLT, Int.reduceBEq, Int.reduceBNe, Int.reduceEq, Nat.reduceBEq, Int.reduceToNat, Nat.reduceLT, Nat.reduceGT, Nat.reduceSub, Nat.reduceMul, Int.reduceAdd, Int.reduceSub, Int.reduceNeg, Int.reduceGE, Int.reduceGT, t3, t4, t7, t8, t12, t13, t16, t18, i9, hlen, hgm, p4]
            refine And.intro (by omega) ?_
            refine call (within17_ok (by omega) hss) ?_
            rintro _ H10 ⟨rfl, hH10⟩
            rw [hH10]; clear hH10 H10
            generalize decide (q ∈ setsL R) = bx
            simp -dsimp (disch := first | omega | (refine DrawYes.mk ?_; decide +kernel) | fail) only [go_sem, ↓reduceIte, reduceCtorEq, Nat.reduceEqDiff, Nat.reduceAdd, Nat.reduceLeDiff, Int.reduceLE, Int.reduceLT, Int.reduceBEq, Int.reduceBNe, Int.reduceEq, Nat.reduceBEq, Int.reduceToNat, Nat.reduceLT, Nat.reduceGT, Nat.reduceSub, Nat.reduceMul, Int.reduceAdd, Int.reduceSub, Int.reduceNeg, Int.reduceGE, Int.reduceGT, t3, t4, t7, t8, t12, t13, t16, t18, p4, b3]
            refine ⟨j + 1, ⟨by omega, rfl⟩, by omega⟩
          · have i9 : ¬ (j : Int) < ns.length := by omega
            simp -dsimp (disch := first | omega | (refine DrawYes.mk ?_; decide +kernel) | fail) only [go_sem, ↓reduceIte, reduceCtorEq, Nat.reduceEqDiff, Nat.reduceAdd, Nat.reduceLeDiff, Int.reduceLE, Int.reduceLT, Int.reduceBEq, Int.reduceBNe, Int.reduceEq, Nat.reduceBEq, Int.reduceToNat, Nat.reduceLT, Nat.reduceGT, Nat.reduceSub, Nat.reduceMul, Int.reduceAdd, Int.reduceSub, Int.reduceNeg, Int.reduceGE, Int.reduceGT, t3, t4, t7, t8, t12, t13, t16, t18, i9, hlen]
            refine ⟨k + 1, ⟨by omega, hE37, rfl⟩, by omega⟩
        · have b14 : ((st.kind : Int) == 14) = false := by simp; omega
          have b15 : ((st.kind : Int) == 15) = true := by simp; omega
          have b3 : ((st.kind : Int) == 3) = false := by simp; omega
          have b2 : ((st.kind : Int) == 2) = false := by simp; omega
          rw [decide_eq_true (hok.goes (.inr hk15))]
          simp -dsimp (disch := first | omega | (refine DrawYes.mk ?_; decide +kernel) | fail) only [go_sem, ↓reduceIte, reduceCtorEq, Nat.reduceEqDiff, Nat.reduceAdd, Nat.reduceLeDiff, Int.reduceLE, Int.reduceLT, Int.reduceBEq, Int.reduceBNe, Int.reduceEq, Nat.reduceBEq, Int.reduceToNat, Nat.reduceLT, Nat.reduceGT, Nat.reduceSub, Nat.reduceMul, Int.reduceAdd, Int.reduceSub, Int.reduceNeg, Int.reduceGE, Int.reduceGT, r3, r4, r7, r8, r12, hm4b, a1, a2, a3, i0, hgd, l1, l2, m1, m2, b14, b15, y1, y2]
          refine call (rcodes_ok htlen) ?_
          rintro _ H6 ⟨rfl, hE6⟩
          generalize codesB md st.t = cx
          have hle6 := hE6.le
          simp only [set_next, new_next] at hle6
          have q4 := hE6.get (b := H4.next) (by simp only [set_next, new_next]; omega) (hs4 _ _)
          have q2 := hE6.get (b := H2.next) (by simp only [set_next, new_next]; omega) (((hx2 _ _).same _ (by omega)).trans hm4b)
          have hE36 : Ext H3 H6 := (hE.trans (hx2 _ _)).trans hE6
          clear hE6 hx2 hs4 hm4b
          simp -dsimp (disch := first | omega | (refine DrawYes.mk ?_; decide +kernel) | fail) only [go_sem, ↓reduceIte, reduceCtorEq, Nat.reduceEqDiff, Nat.reduceAdd, Nat.reduceLeDiff, Int.reduceLE, Int.reduceLT, Int.reduceBEq, Int.reduceBNe, Int.reduceEq, Nat.reduceBEq, Int.reduceToNat, Nat.reduceLT, Nat.reduceGT, Nat.reduceSub, Nat.reduceMul, Int.reduceAdd, Int.reduceSub, Int.reduceNeg, Int.reduceGE, Int.reduceGT, r3, r4, r7, r8, r12, q4, q2, b3, b2]
          refine call (rnames_ok hslen) ?_
          rintro _ H7 ⟨hE7, nv, rfl, ns, hnv, hnl, hns⟩
          have p4 := hE7.get (b := H4.next) (by omega) q4
          have hE37 : Ext H3 H7 := hE36.trans hE7
          clear hE7 hE36 q4 q2
          generalize (namesL st.s).isSome = ok
          have hlen := fun H => hnv.len (H := H) und_38
          rw [List.length_map] at hlen
          have hone : nv.cells = [nv] ∧ nv.one = true := by rcases hnv with ⟨rfl, _⟩ | ⟨_, _, rfl⟩ <;> exact ⟨rfl, rfl⟩
          obtain ⟨c1, c2⟩ := hone
          simp -dsimp (disch := first | omega | (refine DrawYes.mk ?_; decide +kernel) | fail) only [go_sem, ↓reduceIte, reduceCtorEq, Nat.reduceEqDiff, Nat.reduceAdd, Nat.reduceLeDiff, Int.reduceLE, Int.reduceLT, Int.reduceBEq, Int.reduceBNe, Int.reduceEq, Nat.reduceBEq, Int.reduceToNat, Nat.reduceLT, Nat.reduceGT, Nat.reduceSub, Nat.reduceMul, Int.reduceAdd, Int.reduceSub, Int.reduceNeg, Int.reduceGE, Int.reduceGT, r3, r4, r7, r8, r12, p4, b3, c1, c2]
          refine Y_loop (α := Nat) (fun j σ' H' => H' = H7 ∧ j ≤ ns.length ∧ σ' 3 = .bool true ∧ σ' 4 = .ptr H2.next 0 ∧ σ' 7 = lv ∧ σ' 8 = sv ∧ σ' 12 = .int .i64 k ∧ σ' 13 = .ptr H4.next 0 ∧ σ' 16 = nv ∧ σ' 18 = .int .i64 j) (fun j => ns.length - j) 0 ?_ ?_
          · simp -dsimp (disch := first | omega | (refine DrawYes.mk ?_; decide +kernel) | fail) only [go_sem, ↓reduceIte, reduceCtorEq, Nat.reduceEqDiff, Nat.reduceAdd, Nat.reduceLeDiff, Int.reduceLE, Int.reduceLT, Int.reduceBEq, Int.reduceBNe, Int.reduceEq, Nat.reduceBEq, Int.reduceToNat, Nat.reduceLT, Nat.reduceGT, Nat.reduceSub, Nat.reduceMul, Int.reduceAdd, Int.reduceSub, Int.reduceNeg, Int.reduceGE, Int.reduceGT, r3, r4, r7, r8, r12]
            exact Nat.zero_le _
          rintro j σ9 H9 ⟨hH9, hj, t3, t4, t7, t8, t12, t13, t16, t18⟩
          rw [hH9]; clear hH9 H9
          by_cases hjl : j < ns.length
          · have i9 : (j : Int) < ns.length := by omega
            have hgl : ns[j]? = some ns[j] := List.getElem?_eq_getElem hjl
            have hnm : ns[j] ∈ ns := List.getElem_mem hjl
            generalize ns[j] = q at hgl hnm
            have hgm : (ns.map DV.str)[j]? = some (.str q) := by rw [List.getElem?_map, hgl]; rfl
            obtain ⟨nid, noff, rfl⟩ : ∃ id off, nv = .sl id 1 off (ns.map .str) := by
              rcases hnv with ⟨_, h⟩ | h
              · rw [List.map_eq_nil_iff] at h; rw [h] at hgl; simp at hgl
              · exact h
            simp -dsimp (disch := first | omega | (refine DrawYes.mk ?_; decide +kernel) | fail) only [go_sem, ↓reduceIte, reduceCtorEq, Nat.reduceEqDiff, Nat.reduceAdd, Nat.reduceLeDiff, Int.reduceLE, Int.reduceLT, Int.reduceBEq, Int.reduceBNe, Int.reduceEq, Nat.reduceBEq, Int.reduceToNat, Nat.reduceLT, Nat.reduceGT, Nat.reduceSub, Nat.reduceMul, Int.reduceAdd, Int.reduceSub, Int.reduceNeg, Int.reduceGE, Int.reduceGT, t3, t4, t7, t8, t12, t13, t16, t18, i9, hlen, hgm, p4]
            refine And.intro (by omega) ?_
            refine call (within17_ok (by omega) hss) ?_
            rintro _ H10 ⟨rfl, hH10⟩
            rw [hH10]; clear hH10 H10
            generalize decide (q ∈ setsL R) = bx
            simp -dsimp (disch := first | omega | (refine DrawYes.mk ?_; decide +kernel) | fail) only [go_sem, ↓reduceIte, reduceCtorEq, Nat.reduceEqDiff, Nat.reduceAdd, Nat.reduceLeDiff, Int.reduceLE, Int.reduceLT, Int.reduceBEq, Int.reduceBNe, Int.reduceEq, Nat.reduceBEq, Int.reduceToNat, Nat.reduceLT, Nat.reduceGT, Nat.reduceSub, Nat.reduceMul, Int.reduceAdd, Int.reduceSub, Int.reduceNeg, Int.reduceGE, Int.reduceGT, t3, t4, t7, t8, t12, t13, t16, t18, p4, b3]
            refine ⟨j + 1, ⟨by omega, rfl⟩, by omega⟩
          · have i9 : ¬ (j : Int) < ns.length := by omega
            simp -dsimp (disch := first | omega | (refine DrawYes.mk ?_; decide +kernel) | fail) only [go_sem, ↓reduceIte, reduceCtorEq, Nat.reduceEqDiff, Nat.reduceAdd, Nat.reduceLeDiff, Int.reduceLE, Int.reduceLT, Int.reduceBEq, Int.reduceBNe, Int.reduceEq, Nat.reduceBEq, Int.reduceToNat, Nat.reduceLT, Nat.reduceGT, Nat.reduceSub, Nat.reduceMul, Int.reduceAdd, Int.reduceSub, Int.reduceNeg, Int.reduceGE, Int.reduceGT, t3, t4, t7, t8, t12, t13, t16, t18, i9, hlen]
            refine ⟨k + 1, ⟨by omega, hE37, rfl⟩, by omega⟩
        · have b14 : ((st.kind : Int) == 14) = false := by simp; omega
          have b15 : ((st.kind : Int) == 15) = false := by simp; omega
          have b3 : ((st.kind : Int) == 3) = true := by simp; omega
          have b2 : ((st.kind : Int) == 2) = false := by simp; omega
          generalize decide (st.s ∈ labelsL R) = wx
          simp -dsimp (disch := first | omega | (refine DrawYes.mk ?_; decide +kernel) | fail) only [go_sem, ↓reduceIte, reduceCtorEq, Nat.reduceEqDiff, Nat.reduceAdd, Nat.reduceLeDiff, Int.reduceLE, Int.reduceLT, Int.reduceBEq, Int.reduceBNe, Int.reduceEq, Nat.reduceBEq, Int.reduceToNat, Nat.reduceLT, Nat.reduceGT, Nat.reduceSub, Nat.reduceMul, Int.reduceAdd, Int.reduceSub, Int.reduceNeg, Int.reduceGE, Int.reduceGT, r3, r4, r7, r8, r12, hm4b, a1, a2, a3, i0, hgd, l1, l2, m1, m2, b14, b15, y1, y2]
          refine call (rcodes_ok htlen) ?_
          rintro _ H6 ⟨rfl, hE6⟩
          rw [hok.codes (.inr hk3)]
          have hle6 := hE6.le
          simp only [set_next, new_next] at hle6
          have q4 := hE6.get (b := H4.next) (by simp only [set_next, new_next]; omega) (hs4 _ _)
          have q2 := hE6.get (b := H2.next) (by simp only [set_next, new_next]; omega) (((hx2 _ _).same _ (by omega)).trans hm4b)
          have hE36 : Ext H3 H6 := (hE.trans (hx2 _ _)).trans hE6
          clear hE6 hx2 hs4 hm4b
          simp -dsimp (disch := first | omega | (refine DrawYes.mk ?_; decide +kernel) | fail) only [go_sem, ↓reduceIte, reduceCtorEq, Nat.reduceEqDiff, Nat.reduceAdd, Nat.reduceLeDiff, Int.reduceLE, Int.reduceLT, Int.reduceBEq, Int.reduceBNe, Int.reduceEq, Nat.reduceBEq, Int.reduceToNat, Nat.reduceLT, Nat.reduceGT, Nat.reduceSub, Nat.reduceMul, Int.reduceAdd, Int.reduceSub, Int.reduceNeg, Int.reduceGE, Int.reduceGT, r3, r4, r7, r8, r12, q4, q2, b3, b2]
          refine call (rnames_ok hslen) ?_
          rintro _ H7 ⟨hE7, nv, rfl, ns, hnv, hnl, hns⟩
          have p4 := hE7.get (b := H4.next) (by omega) q4
          have hE37 : Ext H3 H7 := hE36.trans hE7
          clear hE7 hE36 q4 q2
          obtain ⟨l, hl, hset⟩ := hok.names hk3
          obtain rfl := hns l hl
          rw [hl, Option.isSome_some]
          have hlen := fun H => hnv.len (H := H) und_38
          rw [List.length_map] at hlen
          have hone : nv.cells = [nv] ∧ nv.one = true := by rcases hnv with ⟨rfl, _⟩ | ⟨_, _, rfl⟩ <;> exact ⟨rfl, rfl⟩
          obtain ⟨c1, c2⟩ := hone
          simp -dsimp (disch := first | omega | (refine DrawYes.mk ?_; decide +kernel) | fail) only [go_sem, ↓reduceIte, reduceCtorEq, Nat.reduceEqDiff, Nat.reduceAdd, Nat.reduceLeDiff, Int.reduceLE, Int.reduceLT, Int.reduceBEq, Int.reduceBNe, Int.reduceEq, Nat.reduceBEq, Int.reduceToNat, Nat.reduceLT, Nat.reduceGT, Nat.reduceSub, Nat.reduceMul, Int.reduceAdd, Int.reduceSub, Int.reduceNeg, Int.reduceGE, Int.reduceGT, r3, r4, r7, r8, r12, p4, b3, c1, c2]
          refine Y_loop (α := Nat) (fun j σ' H' => H' = H7 ∧ j ≤ ns.length ∧ σ' 3 = .bool true ∧ σ' 4 = .ptr H2.next 0 ∧ σ' 7 = lv ∧ σ' 8 = sv ∧ σ' 12 = .int .i64 k ∧ σ' 13 = .ptr H4.next 0 ∧ σ' 16 = nv ∧ σ' 18 = .int .i64 j) (fun j => ns.length - j) 0 ?_ ?_
          · simp -dsimp (disch := first | omega | (refine DrawYes.mk ?_; decide +kernel) | fail) only [go_sem, ↓reduceIte, reduceCtorEq, Nat.reduceEqDiff, Nat.reduceAdd, Nat.reduceLeDiff, Int.reduceLE, Int.reduceLT, Int.reduceBEq, Int.reduceBNe, Int.reduceEq, Nat.reduceBEq, Int.reduceToNat, Nat.reduceLT, Nat.reduceGT, Nat.reduceSub, Nat.reduceMul, Int.reduceAdd, Int.reduceSub, Int.reduceNeg, Int.reduceGE, Int.reduceGT, r3, r4, r7, r8, r12]
            exact Nat.zero_le _
          rintro j σ9 H9 ⟨hH9, hj, t3, t4, t7, t8, t12, t13, t16, t18⟩
          rw [hH9]; clear hH9 H9
          by_cases hjl : j < ns.length
          · have i9 : (j : Int) < ns.length := by omega
            have hgl : ns[j]? = some ns[j] := List.getElem?_eq_getElem hjl
            have hnm : ns[j] ∈ ns := List.getElem_mem hjl
            generalize ns[j] = q at hgl hnm
            have hgm : (ns.map DV.str)[j]? = some (.str q) := by rw [List.getElem?_map, hgl]; rfl
            obtain ⟨nid, noff, rfl⟩ : ∃ id off, nv = .sl id 1 off (ns.map .str) := by
              rcases hnv with ⟨_, h⟩ | h
              · rw [List.map_eq_nil_iff] at h; rw [h] at hgl; simp at hgl
              · exact h
            simp -dsimp (disch := first | omega | (refine DrawYes.mk ?_; decide +kernel) | fail) only [go_sem, ↓reduceIte, reduceCtorEq, Nat.reduceEqDiff, Nat.reduceAdd, Nat.reduceLeDiff, Int.reduceLE, Int.reduceLT, Int.reduceBEq, Int.reduceBNe, Int.reduceEq, Nat.reduceBEq, Int.reduceToNat, Nat.reduceLT, Nat.reduceGT, Nat.reduceSub, Nat.reduceMul, Int.reduceAdd, Int.reduceSub, Int.reduceNeg, Int.reduceGE, Int.reduceGT, t3, t4, t7, t8, t12, t13, t16, t18, i9, hlen, hgm, p4]
            refine And.intro (by omega) ?_
            refine call (within17_ok (by omega) hss) ?_
            rintro _ H10 ⟨rfl, hH10⟩
            rw [hH10]; clear hH10 H10
            rw [decide_eq_true (hset q hnm)]
            simp -dsimp (disch := first | omega | (refine DrawYes.mk ?_; decide +kernel) | fail) only [go_sem, ↓reduceIte, reduceCtorEq, Nat.reduceEqDiff, Nat.reduceAdd, Nat.reduceLeDiff, Int.reduceLE, Int.reduceLT, Int.reduceBEq, Int.reduceBNe, Int.reduceEq, Nat.reduceBEq, Int.reduceToNat, Nat.reduceLT, Nat.reduceGT, Nat.reduceSub, Nat.reduceMul, Int.reduceAdd, Int.reduceSub, Int.reduceNeg, Int.reduceGE, Int.reduceGT, t3, t4, t7, t8, t12, t13, t16, t18, p4, b3]
            refine ⟨j + 1, ⟨by omega, rfl⟩, by omega⟩
          · have i9 : ¬ (j : Int) < ns.length := by omega
            simp -dsimp (disch := first | omega | (refine DrawYes.mk ?_; decide +kernel) | fail) only [go_sem, ↓reduceIte, reduceCtorEq, Nat.reduceEqDiff, Nat.reduceAdd, Nat.reduceLeDiff, Int.reduceLE, Int.reduceLT, Int.reduceBEq, Int.reduceBNe, Int.reduceEq, Nat.reduceBEq, Int.reduceToNat, Nat.reduceLT, Nat.reduceGT, Nat.reduceSub, Nat.reduceMul, Int.reduceAdd, Int.reduceSub, Int.reduceNeg, Int.reduceGE, Int.reduceGT, t3, t4, t7, t8, t12, t13, t16, t18, i9, hlen]
            refine ⟨k + 1, ⟨by omega, hE37, rfl⟩, by omega⟩
        · have b14 : ((st.kind : Int) == 14) = false := by simp; omega
          have b15 : ((st.kind : Int) == 15) = false := by simp; omega
          have b3 : ((st.kind : Int) == 3) = false := by simp; omega
          have b2 : ((st.kind : Int) == 2) = true := by simp; omega
          generalize decide (st.s ∈ labelsL R) = wx
          simp -dsimp (disch := first | omega | (refine DrawYes.mk ?_; decide +kernel) | fail) only [go_sem, ↓reduceIte, reduceCtorEq, Nat.reduceEqDiff, Nat.reduceAdd, Nat.reduceLeDiff, Int.reduceLE, Int.reduceLT, Int.reduceBEq, Int.reduceBNe, Int.reduceEq, Nat.reduceBEq, Int.reduceToNat, Nat.reduceLT, Nat.reduceGT, Nat.reduceSub, Nat.reduceMul, Int.reduceAdd, Int.reduceSub, Int.reduceNeg, Int.reduceGE, Int.reduceGT, r3, r4, r7, r8, r12, hm4b, a1, a2, a3, i0, hgd, l1, l2, m1, m2, b14, b15, y1, y2]
          refine call (rcodes_ok htlen) ?_
          rintro _ H6 ⟨rfl, hE6⟩
          rw [hok.codes (.inl hk2)]
          have hle6 := hE6.le
          simp only [set_next, new_next] at hle6
          have q4 := hE6.get (b := H4.next) (by simp only [set_next, new_next]; omega) (hs4 _ _)
          have q2 := hE6.get (b := H2.next) (by simp only [set_next, new_next]; omega) (((hx2 _ _).same _ (by omega)).trans hm4b)
          have hE36 : Ext H3 H6 := (hE.trans (hx2 _ _)).trans hE6
          clear hE6 hx2 hs4 hm4b
          simp -dsimp (disch := first | omega | (refine DrawYes.mk ?_; decide +kernel) | fail) only [go_sem, ↓reduceIte, reduceCtorEq, Nat.reduceEqDiff, Nat.reduceAdd, Nat.reduceLeDiff, Int.reduceLE, Int.reduceLT, Int.reduceBEq, Int.reduceBNe, Int.reduceEq, Nat.reduceBEq, Int.reduceToNat, Nat.reduceLT, Nat.reduceGT, Nat.reduceSub, Nat.reduceMul, Int.reduceAdd, Int.reduceSub, Int.reduceNeg, Int.reduceGE, Int.reduceGT, r3, r4, r7, r8, r12, q4, q2, b3, b2]
          refine call (rnames_ok hslen) ?_
          rintro _ H7 ⟨hE7, nv, rfl, ns, hnv, hnl, hns⟩
          have p4 := hE7.get (b := H4.next) (by omega) q4
          have hE37 : Ext H3 H7 := hE36.trans hE7
          clear hE7 hE36 q4 q2
          generalize (namesL st.s).isSome = ok
          have hlen := fun H => hnv.len (H := H) und_38
          rw [List.length_map] at hlen
          have hone : nv.cells = [nv] ∧ nv.one = true := by rcases hnv with ⟨rfl, _⟩ | ⟨_, _, rfl⟩ <;> exact ⟨rfl, rfl⟩
          obtain ⟨c1, c2⟩ := hone
          simp -dsimp (disch := first | omega | (refine DrawYes.mk ?_; decide +kernel) | fail) only [go_sem, ↓reduceIte, reduceCtorEq, Nat.reduceEqDiff, Nat.reduceAdd, Nat.reduceLeDiff, Int.reduceLE, Int.reduceLT, Int.reduceBEq, Int.reduceBNe, Int.reduceEq, Nat.reduceBEq, Int.reduceToNat, Nat.reduceLT, Nat.reduceGT, Nat.reduceSub, Nat.reduceMul, Int.reduceAdd, Int.reduceSub, Int.reduceNeg, Int.reduceGE, Int.reduceGT, r3, r4, r7, r8, r12, p4, b3, c1, c2]
          refine Y_loop (α := Nat) (fun j σ' H' => H' = H7 ∧ j ≤ ns.length ∧ σ' 3 = .bool true ∧ σ' 4 = .ptr H2.next 0 ∧ σ' 7 = lv ∧ σ' 8 = sv ∧ σ' 12 = .int .i64 k ∧ σ' 13 = .ptr H4.next 0 ∧ σ' 16 = nv ∧ σ' 18 = .int .i64 j) (fun j => ns.length - j) 0 ?_ ?_
          · simp -dsimp (disch := first | omega | (refine DrawYes.mk ?_; decide +kernel) | fail) only [go_sem, ↓reduceIte, reduceCtorEq, Nat.reduceEqDiff, Nat.reduceAdd, Nat.reduceLeDiff, Int.reduceLE, Int.reduceLT, Int.reduceBEq, Int.reduceBNe, Int.reduceEq, Nat.reduceBEq, Int.reduceToNat, Nat.reduceLT, Nat.reduceGT, Nat.reduceSub, Nat.reduceMul, Int.reduceAdd, Int.reduceSub, Int.reduceNeg, Int.reduceGE, Int.reduceGT, r3, r4, r7, r8, r12]
            exact Nat.zero_le _
          rintro j σ9 H9 ⟨hH9, hj, t3, t4, t7, t8, t12, t13, t16, t18⟩
          rw [hH9]; clear hH9 H9
          by_cases hjl : j < ns.length
          · have i9 : (j : Int) < ns.length := by omega
            have hgl : ns[j]? = some ns[j] := List.getElem?_eq_getElem hjl
            have hnm : ns[j] ∈ ns := List.getElem_mem hjl
            generalize ns[j] = q at hgl hnm
            have hgm : (ns.map DV.str)[j]? = some (.str q) := by rw [List.getElem?_map, hgl]; rfl
            obtain ⟨nid, noff, rfl⟩ : ∃ id off, nv = .sl id 1 off (ns.map .str) := by
              rcases hnv with ⟨_, h⟩ | h
              · rw [List.map_eq_nil_iff] at h; rw [h] at hgl; simp at hgl
              · exact h
            simp -dsimp (disch := first | omega | (refine DrawYes.mk ?_; decide +kernel) | fail) only [go_sem, ↓reduceIte, reduceCtorEq, Nat.reduceEqDiff, Nat.reduceAdd, Nat.reduceLeDiff, Int.reduceLE, Int.reduceLT, Int.reduceBEq, Int.reduceBNe, Int.reduceEq, Nat.reduceBEq, Int.reduceToNat, Nat.reduceLT, Nat.reduceGT, Nat.reduceSub, Nat.reduceMul, Int.reduceAdd, Int.reduceSub, Int.reduceNeg, Int.reduceGE, Int.reduceGT, t3, t4, t7, t8, t12, t13, t16, t18, i9, hlen, hgm, p4]
            refine And.intro (by omega) ?_
            refine call (within17_ok (by omega) hss) ?_
            rintro _ H10 ⟨rfl, hH10⟩
            rw [hH10]; clear hH10 H10
            generalize decide (q ∈ setsL R) = bx
            simp -dsimp (disch := first | omega | (refine DrawYes.mk ?_; decide +kernel) | fail) only [go_sem, ↓reduceIte, reduceCtorEq, Nat.reduceEqDiff, Nat.reduceAdd, Nat.reduceLeDiff, Int.reduceLE, Int.reduceLT, Int.reduceBEq, Int.reduceBNe, Int.reduceEq, Nat.reduceBEq, Int.reduceToNat, Nat.reduceLT, Nat.reduceGT, Nat.reduceSub, Nat.reduceMul, Int.reduceAdd, Int.reduceSub, Int.reduceNeg, Int.reduceGE, Int.reduceGT, t3, t4, t7, t8, t12, t13, t16, t18, p4, b3]
            refine ⟨j + 1, ⟨by omega, rfl⟩, by omega⟩
          · have i9 : ¬ (j : Int) < ns.length := by omega
            simp -dsimp (disch := first | omega | (refine DrawYes.mk ?_; decide +kernel) | fail) only [go_sem, ↓reduceIte, reduceCtorEq, Nat.reduceEqDiff, Nat.reduceAdd, Nat.reduceLeDiff, Int.reduceLE, Int.reduceLT, Int.reduceBEq, Int.reduceBNe, Int.reduceEq, Nat.reduceBEq, Int.reduceToNat, Nat.reduceLT, Nat.reduceGT, Nat.reduceSub, Nat.reduceMul, Int.reduceAdd, Int.reduceSub, Int.reduceNeg, Int.reduceGE, Int.reduceGT, t3, t4, t7, t8, t12, t13, t16, t18, i9, hlen]
            refine ⟨k + 1, ⟨by omega, hE37, rfl⟩, by omega⟩
        · have b14 : ((st.kind : Int) == 14) = false := by simp; omega
          have b15 : ((st.kind : Int) == 15) = false := by simp; omega
          have b3 : ((st.kind : Int) == 3) = false := by simp; omega
          have b2 : ((st.kind : Int) == 2) = false := by simp; omega
          generalize decide (st.s ∈ labelsL R) = wx
          simp -dsimp (disch := first | omega | (refine DrawYes.mk ?_; decide +kernel) | fail) only [go_sem, ↓reduceIte, reduceCtorEq, Nat.reduceEqDiff, Nat.reduceAdd, Nat.reduceLeDiff, Int.reduceLE, Int.reduceLT, Int.reduceBEq, Int.reduceBNe, Int.reduceEq, Nat.reduceBEq, Int.reduceToNat, Nat.reduceLT, Nat.reduceGT, Nat.reduceSub, Nat.reduceMul, Int.reduceAdd, Int.reduceSub, Int.reduceNeg, Int.reduceGE, Int.reduceGT, r3, r4, r7, r8, r12, hm4b, a1, a2, a3, i0, hgd, l1, l2, m1, m2, b14, b15, y1, y2]
          refine call (rcodes_ok htlen) ?_
          rintro _ H6 ⟨rfl, hE6⟩
          generalize codesB md st.t = cx
          have hle6 := hE6.le
          simp only [set_next, new_next] at hle6
          have q4 := hE6.get (b := H4.next) (by simp only [set_next, new_next]; omega) (hs4 _ _)
          have q2 := hE6.get (b := H2.next) (by simp only [set_next, new_next]; omega) (((hx2 _ _).same _ (by omega)).trans hm4b)
          have hE36 : Ext H3 H6 := (hE.trans (hx2 _ _)).trans hE6
          clear hE6 hx2 hs4 hm4b
          simp -dsimp (disch := first | omega | (refine DrawYes.mk ?_; decide +kernel) | fail) only [go_sem, ↓reduceIte, reduceCtorEq, Nat.reduceEqDiff, Nat.reduceAdd, Nat.reduceLeDiff, Int.reduceLE, Int.reduceLT, Int.reduceBEq, Int.reduceBNe, Int.reduceEq, Nat.reduceBEq, Int.reduceToNat, Nat.reduceLT, Nat.reduceGT, Nat.reduceSub, Nat.reduceMul, Int.reduceAdd, Int.reduceSub, Int.reduceNeg, Int.reduceGE, Int.reduceGT, r3, r4, r7, r8, r12, q4, q2, b3, b2]
          refine call (rnames_ok hslen) ?_
          rintro _ H7 ⟨hE7, nv, rfl, ns, hnv, hnl, hns⟩
          have p4 := hE7.get (b := H4.next) (by omega) q4
          have hE37 : Ext H3 H7 := hE36.trans hE7
          clear hE7 hE36 q4 q2
          generalize (namesL st.s).isSome = ok
          have hlen := fun H => hnv.len (H := H) und_38
          rw [List.length_map] at hlen
          have hone : nv.cells = [nv] ∧ nv.one = true := by rcases hnv with ⟨rfl, _⟩ | ⟨_, _, rfl⟩ <;> exact ⟨rfl, rfl⟩
          obtain ⟨c1, c2⟩ := hone
          simp -dsimp (disch := first | omega | (refine DrawYes.mk ?_; decide +kernel) | fail) only [go_sem, ↓reduceIte, reduceCtorEq, Nat.reduceEqDiff, Nat.reduceAdd, Nat.reduceLeDiff, Int.reduceLE, Int.reduceLT, Int.reduceBEq, Int.reduceBNe, Int.reduceEq, Nat.reduceBEq, Int.reduceToNat, Nat.reduceLT, Nat.reduceGT, Nat.reduceSub, Nat.reduceMul, Int.reduceAdd, Int.reduceSub, Int.reduceNeg, Int.reduceGE, Int.reduceGT, r3, r4, r7, r8, r12, p4, b3, c1, c2]
          refine Y_loop (α := Nat) (fun j σ' H' => H' = H7 ∧ j ≤ ns.length ∧ σ' 3 = .bool true ∧ σ' 4 = .ptr H2.next 0 ∧ σ' 7 = lv ∧ σ' 8 = sv ∧ σ' 12 = .int .i64 k ∧ σ' 13 = .ptr H4.next 0 ∧ σ' 16 = nv ∧ σ' 18 = .int .i64 j) (fun j => ns.length - j) 0 ?_ ?_
          · simp -dsimp (disch := first | omega | (refine DrawYes.mk ?_; decide +kernel) | fail) only [go_sem, ↓reduceIte, reduceCtorEq, Nat.reduceEqDiff, Nat.reduceAdd, Nat.reduceLeDiff, Int.reduceLE, Int.reduceLT, Int.reduceBEq, Int.reduceBNe, Int.reduceEq, Nat.reduceBEq, Int.reduceToNat, Nat.reduceLT, Nat.reduceGT, Nat.reduceSub, Nat.reduceMul, Int.reduceAdd, Int.reduceSub, Int.reduceNeg, Int.reduceGE, Int.reduceGT, r3, r4, r7, r8, r12]
            exact Nat.zero_le _
          rintro j σ9 H9 ⟨hH9, hj, t3, t4, t7, t8, t12, t13, t16, t18⟩
          rw [hH9]; clear hH9 H9
          by_cases hjl : j < ns.length
          · have i9 : (j : Int) < ns.length := by omega
            have hgl : ns[j]? = some ns[j] := List.getElem?_eq_getElem hjl
            have hnm : ns[j] ∈ ns := List.getElem_mem hjl
            generalize ns[j] = q at hgl hnm
            have hgm : (ns.map DV.str)[j]? = some (.str q) := by rw [List.getElem?_map, hgl]; rfl
            obtain ⟨nid, noff, rfl⟩ : ∃ id off, nv = .sl id 1 off (ns.map .str) := by
              rcases hnv with ⟨_, h⟩ | h
              · rw [List.map_eq_nil_iff] at h; rw [h] at hgl; simp at hgl
              · exact h
            simp -dsimp (disch := first | omega | (refine DrawYes.mk ?_; decide +kernel) | fail) only [go_sem, ↓reduceIte, reduceCtorEq, Nat.reduceEqDiff, Nat.reduceAdd, Nat.reduceLeDiff, Int.reduceLE, Int.reduceLT, Int.reduceBEq, Int.reduceBNe, Int.reduceEq, Nat.reduceBEq, Int.reduceToNat, Nat.reduceLT, Nat.reduceGT, Nat.reduceSub, Nat.reduceMul, Int.reduceAdd, Int.reduceSub, Int.reduceNeg, Int.reduceGE, Int.reduceGT, t3, t4, t7, t8, t12, t13, t16, t18, i9, hlen, hgm, p4]
            refine And.intro (by omega) ?_
            refine call (within17_ok (by omega) hss) ?_
            rintro _ H10 ⟨rfl, hH10⟩
            rw [hH10]; clear hH10 H10
            generalize decide (q ∈ setsL R) = bx
            simp -dsimp (disch := first | omega | (refine DrawYes.mk ?_; decide +kernel) | fail) only [go_sem, ↓reduceIte, reduceCtorEq, Nat.reduceEqDiff, Nat.reduceAdd, Nat.reduceLeDiff, Int.reduceLE, Int.reduceLT, Int.reduceBEq, Int.reduceBNe, Int.reduceEq, Nat.reduceBEq, Int.reduceToNat, Nat.reduceLT, Nat.reduceGT, Nat.reduceSub, Nat.reduceMul, Int.reduceAdd, Int.reduceSub, Int.reduceNeg, Int.reduceGE, Int.reduceGT, t3, t4, t7, t8, t12, t13, t16, t18, p4, b3]
            refine ⟨j + 1, ⟨by omega, rfl⟩, by omega⟩
          · have i9 : ¬ (j : Int) < ns.length := by omega
            simp -dsimp (disch := first | omega | (refine DrawYes.mk ?_; decide +kernel) | fail) only [go_sem, ↓reduceIte, reduceCtorEq, Nat.reduceEqDiff, Nat.reduceAdd, Nat.reduceLeDiff, Int.reduceLE, Int.reduceLT, Int.reduceBEq, Int.reduceBNe, Int.reduceEq, Nat.reduceBEq, Int.reduceToNat, Nat.reduceLT, Nat.reduceGT, Nat.reduceSub, Nat.reduceMul, Int.reduceAdd, Int.reduceSub, Int.reduceNeg, Int.reduceGE, Int.reduceGT, t3, t4, t7, t8, t12, t13, t16, t18, i9, hlen]
            refine ⟨k + 1, ⟨by omega, hE37, rfl⟩, by omega⟩
        -- END
      · have i0 : ¬ (k : Int) < R.length := by omega
        simp -dsimp (disch := first | omega | (refine DrawYes.mk ?_; decide +kernel) | fail) only [go_sem, ↓reduceIte, reduceCtorEq, Nat.reduceEqDiff, Nat.reduceAdd, Nat.reduceLeDiff, Int.reduceLE, Int.reduceLT, Int.reduceBEq, Int.reduceBNe, Int.reduceEq, Nat.reduceBEq, Int.reduceToNat, Nat.reduceLT, Nat.reduceGT, Nat.reduceSub, Nat.reduceMul, Int.reduceAdd, Int.reduceSub, Int.reduceNeg, Int.reduceGE, Int.reduceGT, r3, r4, r7, r8, r12, hm4b, a1, a2, a3, i0]
end Go.Proofs.YtcknfhhbijlobaaGreatDoor.D
