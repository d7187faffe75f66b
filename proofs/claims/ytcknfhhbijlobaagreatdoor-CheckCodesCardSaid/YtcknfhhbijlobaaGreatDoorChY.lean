import Derived.Test.YtcknfhhbijlobaaGreatDoorChW
/- CheckCodes: the walk. -/
namespace Go.Proofs.YtcknfhhbijlobaaGreatDoor.D
open Go
set_option linter.unusedVariables false
set_option linter.unusedSimpArgs false
set_option maxRecDepth 100000

set_option maxHeartbeats 1000000 in
theorem checkCodes_ok {a : UInt8} {s : List UInt8} {b : UInt8} {H : DH} (hs : s.length ≤ 9223372036854775807) : WC cfg 8 [byteDV a, .str s, byteDV b] H fun v H' => v = .bool true := by
  refine WC_of (show Has cfg 8 101 [.tmp 6] _ from ⟨by kernel_rfl, Tryz.f8, Tryz.func8, rfl, rfl, rfl, by kernel_rfl⟩) (by simp) ?_
  have ha := a.toNat_lt
  have hb := b.toNat_lt
  simp -dsimp (disch := first | omega | (refine DrawYes.mk ?_; decide +kernel) | fail) only [go_sem, ↓reduceIte, reduceCtorEq, Nat.reduceEqDiff, Nat.reduceAdd, Nat.reduceLeDiff, Int.reduceLE, Int.reduceLT, Int.reduceBEq, Int.reduceBNe, Int.reduceEq, Nat.reduceBEq, Int.reduceToNat, Nat.reduceLT, Nat.reduceGT, Nat.reduceSub, Nat.reduceMul, Int.reduceAdd, Int.reduceSub, Int.reduceNeg, Int.reduceGE, Int.reduceGT]
  refine call chshown_ok ?_
  rintro _ H1 ⟨rfl, hE⟩
  have hm : (a.toNat : Int).tmod 3 = ((a.toNat % 3 : Nat) : Int) := by rw [Int.tmod_eq_emod_of_nonneg (by omega)]; omega
  have hk : (b.toNat : Int).tmod 3 = ((b.toNat % 3 : Nat) : Int) := by rw [Int.tmod_eq_emod_of_nonneg (by omega)]; omega
  have hm2 : a.toNat % 3 < 3 := Nat.mod_lt _ (by decide)
  have hk2 : b.toNat % 3 < 3 := Nat.mod_lt _ (by decide)
  generalize a.toNat % 3 = m at hm hm2
  generalize b.toNat % 3 = k at hk hk2
  simp -dsimp (disch := first | omega | (refine DrawYes.mk ?_; decide +kernel) | fail) only [go_sem, ↓reduceIte, reduceCtorEq, Nat.reduceEqDiff, Nat.reduceAdd, Nat.reduceLeDiff, Int.reduceLE, Int.reduceLT, Int.reduceBEq, Int.reduceBNe, Int.reduceEq, Nat.reduceBEq, Int.reduceToNat, Nat.reduceLT, Nat.reduceGT, Nat.reduceSub, Nat.reduceMul, Int.reduceAdd, Int.reduceSub, Int.reduceNeg, Int.reduceGE, Int.reduceGT, hm]
  refine Y_loop (α := Nat × List UInt8) (fun x σ H' => H' = H1 ∧ x.1 ≤ s.length ∧ (∀ c ∈ x.2, okP c) ∧ x.2.length ≤ 40 ∧ σ 1 = .str s ∧ σ 2 = byteDV b ∧ σ 7 = .bool true ∧ σ 8 = .int .i64 m ∧ σ 9 = .str x.2 ∧ σ 10 = .int .i64 x.1) (fun x => s.length - x.1) (0, []) ?_ ?_
  · simp -dsimp (disch := first | omega | (refine DrawYes.mk ?_; decide +kernel) | fail) only [go_sem, ↓reduceIte, reduceCtorEq, Nat.reduceEqDiff, Nat.reduceAdd, Nat.reduceLeDiff, Int.reduceLE, Int.reduceLT, Int.reduceBEq, Int.reduceBNe, Int.reduceEq, Nat.reduceBEq, Int.reduceToNat, Nat.reduceLT, Nat.reduceGT, Nat.reduceSub, Nat.reduceMul, Int.reduceAdd, Int.reduceSub, Int.reduceNeg, Int.reduceGE, Int.reduceGT]
    simp
  rintro ⟨i, n⟩ σ H2 ⟨rfl, hi, hn, hl, s1, s2, s7, s8, s9, s10⟩
  dsimp only at hi hn hl s9 s10
  have hfin : (¬ ((i : Int) < s.length) ∨ ((i : Int) < s.length ∧ ¬ (n.length : Int) < 40)) ∨ ((i : Int) < s.length ∧ (n.length : Int) < 40) := by omega
  rcases hfin with hend | ⟨i0, i1⟩
  · obtain ⟨q, hq, hql⟩ := quoteL_some hn hl
    obtain ⟨hw, hmd⟩ := modeN_facts m hm2
    have hst := st_check (k := k) hw hq hql
    rw [hmd] at hst
    have hwl := (modeW_facts _ hw).2.2.2
    have hsl := st_len (k := k) (q := q)
    have hmn : ([.str [115, 109, 116, 112], .str [112, 111, 112, 51], .str [102, 116, 112]] : List DV)[m]? = some (.str (modeN m)) := by
      obtain rfl | rfl | rfl : m = 0 ∨ m = 1 ∨ m = 2 := by omega
      · rfl
      · rfl
      · rfl
    have hkn : ([.str (103 :: 114 :: 101 :: 101 :: 116 :: 32 :: (q ++ [59])), .str (115 :: 101 :: 110 :: 100 :: 32 :: 34 :: 120 :: 34 :: 32 :: (q ++ [59])), .str (105 :: 102 :: 32 :: 99 :: 111 :: 100 :: 101 :: 32 :: (q ++ [32, 123, 125]))] : List DV)[k]? = some (.str (stT k q)) := by
      obtain rfl | rfl | rfl : k = 0 ∨ k = 1 ∨ k = 2 := by omega
      · rfl
      · rfl
      · rfl
    rcases hend with i0 | ⟨i0, i1⟩
    · skip
      simp -dsimp (disch := first | omega | (refine DrawYes.mk ?_; decide +kernel) | fail) only [go_sem, ↓reduceIte, reduceCtorEq, Nat.reduceEqDiff, Nat.reduceAdd, Nat.reduceLeDiff, Int.reduceLE, Int.reduceLT, Int.reduceBEq, Int.reduceBNe, Int.reduceEq, Nat.reduceBEq, Int.reduceToNat, Nat.reduceLT, Nat.reduceGT, Nat.reduceSub, Nat.reduceMul, Int.reduceAdd, Int.reduceSub, Int.reduceNeg, Int.reduceGE, Int.reduceGT, s1, s2, s7, s8, s9, s10, i0]
      refine call (rquote_ok (by omega)) ?_
      rintro _ _ ⟨rfl, rfl⟩
      rw [hq]
      simp -dsimp (disch := first | omega | (refine DrawYes.mk ?_; decide +kernel) | fail) only [go_sem, ↓reduceIte, reduceCtorEq, Nat.reduceEqDiff, Nat.reduceAdd, Nat.reduceLeDiff, Int.reduceLE, Int.reduceLT, Int.reduceBEq, Int.reduceBNe, Int.reduceEq, Nat.reduceBEq, Int.reduceToNat, Nat.reduceLT, Nat.reduceGT, Nat.reduceSub, Nat.reduceMul, Int.reduceAdd, Int.reduceSub, Int.reduceNeg, Int.reduceGE, Int.reduceGT, s1, s2, s7, s8, s9, s10, quoteV, hk, hkn, hmn]
      repeat refine And.intro (by first | omega | (simp only [List.length_append, List.length_cons, List.length_nil]; omega)) ?_
      refine call (csource_ok (s := begL (modeN m) ++ stT k q) (by rw [List.length_append, begL_len]; omega)) ?_
      rintro _ H3 ⟨hE3, stmv, topv, rfl, hP⟩
      obtain ⟨a1, a2, a3⟩ := hP.two
      generalize checkS (begL (modeN m) ++ stT k q) = r at *
      refine forget (P := fun σ => WO cfg _ _ σ _ _) (fun σ => σ 7 = .bool true ∧ σ 8 = .int .i64 m ∧ σ 9 = .str n ∧ σ 79 = .tup [.agg [.int .i64 r.mode, stmv, topv], .int .i64 r.at_, .int .i64 r.e]) (by simp -dsimp (disch := first | omega | (refine DrawYes.mk ?_; decide +kernel) | fail) only [go_sem, ↓reduceIte, reduceCtorEq, Nat.reduceEqDiff, Nat.reduceAdd, Nat.reduceLeDiff, Int.reduceLE, Int.reduceLT, Int.reduceBEq, Int.reduceBNe, Int.reduceEq, Nat.reduceBEq, Int.reduceToNat, Nat.reduceLT, Nat.reduceGT, Nat.reduceSub, Nat.reduceMul, Int.reduceAdd, Int.reduceSub, Int.reduceNeg, Int.reduceGE, Int.reduceGT, s1, s2, s7, s8, s9, s10]) ?_
      clear s1 s2 s7 s8 s9 s10 σ
      rintro σ ⟨s7, s8, s9, s79⟩
      have hm1 : (1 + (m : Int)) = ((m + 1 : Nat) : Int) := by omega
      simp -dsimp (disch := first | omega | (refine DrawYes.mk ?_; decide +kernel) | fail) only [go_sem, ↓reduceIte, reduceCtorEq, Nat.reduceEqDiff, Nat.reduceAdd, Nat.reduceLeDiff, Int.reduceLE, Int.reduceLT, Int.reduceBEq, Int.reduceBNe, Int.reduceEq, Nat.reduceBEq, Int.reduceToNat, Nat.reduceLT, Nat.reduceGT, Nat.reduceSub, Nat.reduceMul, Int.reduceAdd, Int.reduceSub, Int.reduceNeg, Int.reduceGE, Int.reduceGT, s7, s8, s9, s79, a1, a2]
      rw [hm1]
      refine call (rcodes_ok (md := m + 1) (by omega)) ?_
      rintro _ H4 ⟨rfl, hE4⟩
      cases hcb : codesB (m + 1) n with
      | true =>
        rw [hcb, if_neg (by decide)] at hst
        simp -dsimp (disch := first | omega | (refine DrawYes.mk ?_; decide +kernel) | fail) only [go_sem, ↓reduceIte, reduceCtorEq, Nat.reduceEqDiff, Nat.reduceAdd, Nat.reduceLeDiff, Int.reduceLE, Int.reduceLT, Int.reduceBEq, Int.reduceBNe, Int.reduceEq, Nat.reduceBEq, Int.reduceToNat, Nat.reduceLT, Nat.reduceGT, Nat.reduceSub, Nat.reduceMul, Int.reduceAdd, Int.reduceSub, Int.reduceNeg, Int.reduceGE, Int.reduceGT, s7, s8, s9, s79, hst]
      | false =>
        rw [hcb, if_pos rfl] at hst
        simp -dsimp (disch := first | omega | (refine DrawYes.mk ?_; decide +kernel) | fail) only [go_sem, ↓reduceIte, reduceCtorEq, Nat.reduceEqDiff, Nat.reduceAdd, Nat.reduceLeDiff, Int.reduceLE, Int.reduceLT, Int.reduceBEq, Int.reduceBNe, Int.reduceEq, Nat.reduceBEq, Int.reduceToNat, Nat.reduceLT, Nat.reduceGT, Nat.reduceSub, Nat.reduceMul, Int.reduceAdd, Int.reduceSub, Int.reduceNeg, Int.reduceGE, Int.reduceGT, s7, s8, s9, s79, hst]
    · skip
      simp -dsimp (disch := first | omega | (refine DrawYes.mk ?_; decide +kernel) | fail) only [go_sem, ↓reduceIte, reduceCtorEq, Nat.reduceEqDiff, Nat.reduceAdd, Nat.reduceLeDiff, Int.reduceLE, Int.reduceLT, Int.reduceBEq, Int.reduceBNe, Int.reduceEq, Nat.reduceBEq, Int.reduceToNat, Nat.reduceLT, Nat.reduceGT, Nat.reduceSub, Nat.reduceMul, Int.reduceAdd, Int.reduceSub, Int.reduceNeg, Int.reduceGE, Int.reduceGT, s1, s2, s7, s8, s9, s10, i0, i1]
      refine call (rquote_ok (by omega)) ?_
      rintro _ _ ⟨rfl, rfl⟩
      rw [hq]
      simp -dsimp (disch := first | omega | (refine DrawYes.mk ?_; decide +kernel) | fail) only [go_sem, ↓reduceIte, reduceCtorEq, Nat.reduceEqDiff, Nat.reduceAdd, Nat.reduceLeDiff, Int.reduceLE, Int.reduceLT, Int.reduceBEq, Int.reduceBNe, Int.reduceEq, Nat.reduceBEq, Int.reduceToNat, Nat.reduceLT, Nat.reduceGT, Nat.reduceSub, Nat.reduceMul, Int.reduceAdd, Int.reduceSub, Int.reduceNeg, Int.reduceGE, Int.reduceGT, s1, s2, s7, s8, s9, s10, quoteV, hk, hkn, hmn]
      repeat refine And.intro (by first | omega | (simp only [List.length_append, List.length_cons, List.length_nil]; omega)) ?_
      refine call (csource_ok (s := begL (modeN m) ++ stT k q) (by rw [List.length_append, begL_len]; omega)) ?_
      rintro _ H3 ⟨hE3, stmv, topv, rfl, hP⟩
      obtain ⟨a1, a2, a3⟩ := hP.two
      generalize checkS (begL (modeN m) ++ stT k q) = r at *
      refine forget (P := fun σ => WO cfg _ _ σ _ _) (fun σ => σ 7 = .bool true ∧ σ 8 = .int .i64 m ∧ σ 9 = .str n ∧ σ 79 = .tup [.agg [.int .i64 r.mode, stmv, topv], .int .i64 r.at_, .int .i64 r.e]) (by simp -dsimp (disch := first | omega | (refine DrawYes.mk ?_; decide +kernel) | fail) only [go_sem, ↓reduceIte, reduceCtorEq, Nat.reduceEqDiff, Nat.reduceAdd, Nat.reduceLeDiff, Int.reduceLE, Int.reduceLT, Int.reduceBEq, Int.reduceBNe, Int.reduceEq, Nat.reduceBEq, Int.reduceToNat, Nat.reduceLT, Nat.reduceGT, Nat.reduceSub, Nat.reduceMul, Int.reduceAdd, Int.reduceSub, Int.reduceNeg, Int.reduceGE, Int.reduceGT, s1, s2, s7, s8, s9, s10]) ?_
      clear s1 s2 s7 s8 s9 s10 σ
      rintro σ ⟨s7, s8, s9, s79⟩
      have hm1 : (1 + (m : Int)) = ((m + 1 : Nat) : Int) := by omega
      simp -dsimp (disch := first | omega | (refine DrawYes.mk ?_; decide +kernel) | fail) only [go_sem, ↓reduceIte, reduceCtorEq, Nat.reduceEqDiff, Nat.reduceAdd, Nat.reduceLeDiff, Int.reduceLE, Int.reduceLT, Int.reduceBEq, Int.reduceBNe, Int.reduceEq, Nat.reduceBEq, Int.reduceToNat, Nat.reduceLT, Nat.reduceGT, Nat.reduceSub, Nat.reduceMul, Int.reduceAdd, Int.reduceSub, Int.reduceNeg, Int.reduceGE, Int.reduceGT, s7, s8, s9, s79, a1, a2]
      rw [hm1]
      refine call (rcodes_ok (md := m + 1) (by omega)) ?_
      rintro _ H4 ⟨rfl, hE4⟩
      cases hcb : codesB (m + 1) n with
      | true =>
        rw [hcb, if_neg (by decide)] at hst
        simp -dsimp (disch := first | omega | (refine DrawYes.mk ?_; decide +kernel) | fail) only [go_sem, ↓reduceIte, reduceCtorEq, Nat.reduceEqDiff, Nat.reduceAdd, Nat.reduceLeDiff, Int.reduceLE, Int.reduceLT, Int.reduceBEq, Int.reduceBNe, Int.reduceEq, Nat.reduceBEq, Int.reduceToNat, Nat.reduceLT, Nat.reduceGT, Nat.reduceSub, Nat.reduceMul, Int.reduceAdd, Int.reduceSub, Int.reduceNeg, Int.reduceGE, Int.reduceGT, s7, s8, s9, s79, hst]
      | false =>
        rw [hcb, if_pos rfl] at hst
        simp -dsimp (disch := first | omega | (refine DrawYes.mk ?_; decide +kernel) | fail) only [go_sem, ↓reduceIte, reduceCtorEq, Nat.reduceEqDiff, Nat.reduceAdd, Nat.reduceLeDiff, Int.reduceLE, Int.reduceLT, Int.reduceBEq, Int.reduceBNe, Int.reduceEq, Nat.reduceBEq, Int.reduceToNat, Nat.reduceLT, Nat.reduceGT, Nat.reduceSub, Nat.reduceMul, Int.reduceAdd, Int.reduceSub, Int.reduceNeg, Int.reduceGE, Int.reduceGT, s7, s8, s9, s79, hst]
  · have hlt : i < s.length := by omega
    have hg : s[i]? = some s[i] := List.getElem?_eq_getElem hlt
    generalize s[i] = c at hg
    have hc1 := cut_1 hg
    have htk : ((i : Int) + 1).toNat = i + 1 := by omega
    by_cases c1 : 32 ≤ c.toNat
    · have j1 : 32 ≤ (c.toNat : Int) := by omega
      by_cases c2 : c.toNat ≤ 126
      · have j2 : (c.toNat : Int) ≤ 126 := by omega
        simp -dsimp (disch := first | omega | (refine DrawYes.mk ?_; decide +kernel) | fail) only [go_sem, ↓reduceIte, reduceCtorEq, Nat.reduceEqDiff, Nat.reduceAdd, Nat.reduceLeDiff, Int.reduceLE, Int.reduceLT, Int.reduceBEq, Int.reduceBNe, Int.reduceEq, Nat.reduceBEq, Int.reduceToNat, Nat.reduceLT, Nat.reduceGT, Nat.reduceSub, Nat.reduceMul, Int.reduceAdd, Int.reduceSub, Int.reduceNeg, Int.reduceGE, Int.reduceGT, s1, s2, s7, s8, s9, s10, i0, i1, hg, j1, j2, htk, hc1]
        repeat refine And.intro (by omega) ?_
        refine ⟨(i + 1, n ++ [c]), ⟨by omega, fun d hd => ?_, by rw [List.length_append]; simp only [List.length_cons, List.length_nil]; omega, rfl, rfl⟩, by simp only; omega⟩
        rcases List.mem_append.1 hd with hd | hd
        · exact hn d hd
        · simp at hd; subst hd; exact ⟨c1, c2⟩
      · have j2 : ¬ (c.toNat : Int) ≤ 126 := by omega
        simp -dsimp (disch := first | omega | (refine DrawYes.mk ?_; decide +kernel) | fail) only [go_sem, ↓reduceIte, reduceCtorEq, Nat.reduceEqDiff, Nat.reduceAdd, Nat.reduceLeDiff, Int.reduceLE, Int.reduceLT, Int.reduceBEq, Int.reduceBNe, Int.reduceEq, Nat.reduceBEq, Int.reduceToNat, Nat.reduceLT, Nat.reduceGT, Nat.reduceSub, Nat.reduceMul, Int.reduceAdd, Int.reduceSub, Int.reduceNeg, Int.reduceGE, Int.reduceGT, s1, s2, s7, s8, s9, s10, i0, i1, hg, j1, j2]
        repeat refine And.intro (by omega) ?_
        exact ⟨(i + 1, n), ⟨by omega, hn, hl, rfl, rfl⟩, by simp only; omega⟩
    · have j1 : ¬ 32 ≤ (c.toNat : Int) := by omega
      simp -dsimp (disch := first | omega | (refine DrawYes.mk ?_; decide +kernel) | fail) only [go_sem, ↓reduceIte, reduceCtorEq, Nat.reduceEqDiff, Nat.reduceAdd, Nat.reduceLeDiff, Int.reduceLE, Int.reduceLT, Int.reduceBEq, Int.reduceBNe, Int.reduceEq, Nat.reduceBEq, Int.reduceToNat, Nat.reduceLT, Nat.reduceGT, Nat.reduceSub, Nat.reduceMul, Int.reduceAdd, Int.reduceSub, Int.reduceNeg, Int.reduceGE, Int.reduceGT, s1, s2, s7, s8, s9, s10, i0, i1, hg, j1]
      repeat refine And.intro (by omega) ?_
      exact ⟨(i + 1, n), ⟨by omega, hn, hl, rfl, rfl⟩, by simp only; omega⟩
end Go.Proofs.YtcknfhhbijlobaaGreatDoor.D
