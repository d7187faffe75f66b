import Derived.Test.YtdlcfkhpcppejaaLex8
namespace Go.Proofs.Ytdlcfkhpcppejaa.D
open Go
set_option linter.unusedVariables false
set_option linter.unusedSimpArgs false
set_option maxRecDepth 100000

theorem lexJoins_ok {s t : List UInt8} {H : DH} : WC cfg 3 [.str s, .str t] H fun v H' => v = .bool true := by
  refine WC_of (show Has cfg 3 160 [.tmp 4] _ from ⟨by kernel_rfl, Try.f3, Try.func3, rfl, rfl, rfl, by kernel_rfl⟩) (by simp) ?_
  simp -dsimp (disch := first | omega | (refine DrawYes.mk ?_; kernel_rfl) | fail) only [go_sem, ↓reduceIte, reduceCtorEq, Nat.reduceEqDiff, Nat.reduceAdd, Nat.reduceLeDiff, Int.reduceLE, Int.reduceLT, Int.reduceBEq, Int.reduceBNe, Int.reduceEq, Nat.reduceBEq, Int.reduceToNat, Nat.reduceLT, Nat.reduceGT, Nat.reduceSub, Nat.reduceMul, Int.reduceAdd, Int.reduceSub, Int.reduceNeg, Int.reduceGE, Int.reduceGT]
  refine call shown_ok ?_
  rintro _ H1 ⟨rfl, hE⟩
  rcases Nat.lt_or_ge 900 s.length with h1 | h1 <;> rcases Nat.lt_or_ge 900 t.length with h2 | h2
  · have i1 : 900 < (s.length : Int) := by omega
    have i2 : 900 < (t.length : Int) := by omega
    have q1 : 900 ≤ (s.length : Int) := by omega
    obtain ⟨S, hS⟩ : ∃ S, s.take 900 = S := ⟨_, rfl⟩
    have hSl : S.length ≤ 900 := by rw [← hS]; simp; omega
    have q2 : 900 ≤ (t.length : Int) := by omega
    obtain ⟨T, hT⟩ : ∃ T, t.take 900 = T := ⟨_, rfl⟩
    have hTl : T.length ≤ 900 := by rw [← hT]; simp; omega
    simp -dsimp (disch := first | omega | (refine DrawYes.mk ?_; kernel_rfl) | fail) only [go_sem, ↓reduceIte, reduceCtorEq, Nat.reduceEqDiff, Nat.reduceAdd, Nat.reduceLeDiff, Int.reduceLE, Int.reduceLT, Int.reduceBEq, Int.reduceBNe, Int.reduceEq, Nat.reduceBEq, Int.reduceToNat, Nat.reduceLT, Nat.reduceGT, Nat.reduceSub, Nat.reduceMul, Int.reduceAdd, Int.reduceSub, Int.reduceNeg, Int.reduceGE, Int.reduceGT, i1, i2, q1, hS, q2, hT]
    refine call (all_ok (by omega)) ?_
    rintro _ H2 ⟨hE2, v1, rfl, hs1⟩
    simp -dsimp (disch := first | omega | (refine DrawYes.mk ?_; kernel_rfl) | fail) only [go_sem, ↓reduceIte, reduceCtorEq, Nat.reduceEqDiff, Nat.reduceAdd, Nat.reduceLeDiff, Int.reduceLE, Int.reduceLT, Int.reduceBEq, Int.reduceBNe, Int.reduceEq, Nat.reduceBEq, Int.reduceToNat, Nat.reduceLT, Nat.reduceGT, Nat.reduceSub, Nat.reduceMul, Int.reduceAdd, Int.reduceSub, Int.reduceNeg, Int.reduceGE, Int.reduceGT, i1, i2, q1, hS, q2, hT]
    refine call (all_ok (by omega)) ?_
    rintro _ H3 ⟨hE3, v2, rfl, hs2⟩
    simp -dsimp (disch := first | omega | (refine DrawYes.mk ?_; kernel_rfl) | fail) only [go_sem, ↓reduceIte, reduceCtorEq, Nat.reduceEqDiff, Nat.reduceAdd, Nat.reduceLeDiff, Int.reduceLE, Int.reduceLT, Int.reduceBEq, Int.reduceBNe, Int.reduceEq, Nat.reduceBEq, Int.reduceToNat, Nat.reduceLT, Nat.reduceGT, Nat.reduceSub, Nat.reduceMul, Int.reduceAdd, Int.reduceSub, Int.reduceNeg, Int.reduceGE, Int.reduceGT, i1, i2, q1, hS, q2, hT]
    refine ⟨by omega, by simp; omega, call (all_ok (by simp; omega)) ?_⟩
    rintro _ H4 ⟨hE4, v3, rfl, hs3⟩
    rcases joins_law (s := S) (t := T) (by omega) (by omega) with ⟨p, e, e0, hA, hC⟩ | ⟨A, hA1, hA2, hA, ⟨p, e, hp, e0, hB, ⟨hC, e4⟩ | ⟨e4, hC⟩⟩ | ⟨B, hBp, hB1, hB2, hB, ⟨hl, hC⟩ | ⟨hl, hC⟩⟩⟩
    · rw [hC] at hs3
      have hn3 := hs3.len (H' := H4) und_23
      have j1 : ((e : Int) != 0) = true := by simp; omega
      simp -dsimp (disch := first | omega | (refine DrawYes.mk ?_; kernel_rfl) | fail) only [go_sem, ↓reduceIte, reduceCtorEq, Nat.reduceEqDiff, Nat.reduceAdd, Nat.reduceLeDiff, Int.reduceLE, Int.reduceLT, Int.reduceBEq, Int.reduceBNe, Int.reduceEq, Nat.reduceBEq, Int.reduceToNat, Nat.reduceLT, Nat.reduceGT, Nat.reduceSub, Nat.reduceMul, Int.reduceAdd, Int.reduceSub, Int.reduceNeg, Int.reduceGE, Int.reduceGT, hA, hC, j1, hn3]
      simp
    · have hn1 : ∀ H', lenD cfg.T H' 23 v1 = some (.int .i64 A.length) := fun H' => by rw [hA] at hs1; rw [hs1.len und_23, List.length_map]
      have j1 : ((e : Int) != 0) = true := by simp; omega
      by_cases h4 : e = 4
      · subst h4
        have j0 : ((0 : Int) == (p : Int) + S.length + 1) = false := by simp; omega
        simp -dsimp (disch := first | omega | (refine DrawYes.mk ?_; kernel_rfl) | fail) only [go_sem, ↓reduceIte, reduceCtorEq, Nat.reduceEqDiff, Nat.reduceAdd, Nat.reduceLeDiff, Int.reduceLE, Int.reduceLT, Int.reduceBEq, Int.reduceBNe, Int.reduceEq, Nat.reduceBEq, Int.reduceToNat, Nat.reduceLT, Nat.reduceGT, Nat.reduceSub, Nat.reduceMul, Int.reduceAdd, Int.reduceSub, Int.reduceNeg, Int.reduceGE, Int.reduceGT, hA, hB, hC, hn1, j0]
      · have h5 : 1 < A.length := by omega
        have j2 : 1 < (A.length : Int) := by omega
        have j3 : ((4 : Int) == (e : Int)) = false := by simp; omega
        simp -dsimp (disch := first | omega | (refine DrawYes.mk ?_; kernel_rfl) | fail) only [go_sem, ↓reduceIte, reduceCtorEq, Nat.reduceEqDiff, Nat.reduceAdd, Nat.reduceLeDiff, Int.reduceLE, Int.reduceLT, Int.reduceBEq, Int.reduceBNe, Int.reduceEq, Nat.reduceBEq, Int.reduceToNat, Nat.reduceLT, Nat.reduceGT, Nat.reduceSub, Nat.reduceMul, Int.reduceAdd, Int.reduceSub, Int.reduceNeg, Int.reduceGE, Int.reduceGT, hA, hB, hC, hn1, j1, j2, j3]
    · have j1 : ((e : Int) != 0) = true := by simp; omega
      have j2 : (((p + S.length + 1 : Nat) : Int) == (p : Int) + S.length + 1) = true := by simp
      have j3 : ((e : Int) == 4) = false := by simp; omega
      simp -dsimp (disch := first | omega | (refine DrawYes.mk ?_; kernel_rfl) | fail) only [go_sem, ↓reduceIte, reduceCtorEq, Nat.reduceEqDiff, Nat.reduceAdd, Nat.reduceLeDiff, Int.reduceLE, Int.reduceLT, Int.reduceBEq, Int.reduceBNe, Int.reduceEq, Nat.reduceBEq, Int.reduceToNat, Nat.reduceLT, Nat.reduceGT, Nat.reduceSub, Nat.reduceMul, Int.reduceAdd, Int.reduceSub, Int.reduceNeg, Int.reduceGE, Int.reduceGT, hA, hB, hC, j1, j2, j3]
    · have hn1 : ∀ H', lenD cfg.T H' 23 v1 = some (.int .i64 A.length) := fun H' => by rw [hA] at hs1; rw [hs1.len und_23, List.length_map]
      have hn2 : ∀ H', lenD cfg.T H' 23 v2 = some (.int .i64 B.length) := fun H' => by rw [hB] at hs2; rw [hs2.len und_23, List.length_map]
      have j1 : 400 < (A.length : Int) + B.length - 2 := by omega
      simp -dsimp (disch := first | omega | (refine DrawYes.mk ?_; kernel_rfl) | fail) only [go_sem, ↓reduceIte, reduceCtorEq, Nat.reduceEqDiff, Nat.reduceAdd, Nat.reduceLeDiff, Int.reduceLE, Int.reduceLT, Int.reduceBEq, Int.reduceBNe, Int.reduceEq, Nat.reduceBEq, Int.reduceToNat, Nat.reduceLT, Nat.reduceGT, Nat.reduceSub, Nat.reduceMul, Int.reduceAdd, Int.reduceSub, Int.reduceNeg, Int.reduceGE, Int.reduceGT, hA, hB, hC, hn1, hn2, j1]
    · have hn1 : ∀ H', lenD cfg.T H' 23 v1 = some (.int .i64 A.length) := fun H' => by rw [hA] at hs1; rw [hs1.len und_23, List.length_map]
      have hn2 : ∀ H', lenD cfg.T H' 23 v2 = some (.int .i64 B.length) := fun H' => by rw [hB] at hs2; rw [hs2.len und_23, List.length_map]
      have hlen : (A.take (A.length - 1) ++ B.map (Tok.sh (S.length + 1))).length = A.length + B.length - 1 := by simp; omega
      have hn3 : ∀ H', lenD cfg.T H' 23 v3 = some (.int .i64 (A.length + B.length - 1 : Nat)) := fun H' => by rw [hC] at hs3; rw [hs3.len und_23, List.length_map, hlen]
      have j1 : ¬ 400 < (A.length : Int) + B.length - 2 := by omega
      have j2 : (((A.length + B.length - 1 : Nat) : Int) != (A.length : Int) + B.length - 1) = false := by simp; omega
      rw [hA] at hs1
      rw [hB] at hs2
      rw [hC] at hs3
      rcases hs1 with ⟨_, h⟩ | ⟨id1, off1, k1, rfl, _⟩
      · simp at h; subst h; simp at hA2
      rcases hs2 with ⟨_, h⟩ | ⟨id2, off2, k2, rfl, _⟩
      · simp at h; subst h; simp at hB2
      rcases hs3 with ⟨_, h⟩ | ⟨id3, off3, k3, rfl, _⟩
      · have := congrArg List.length h; simp at this; simp [this.2] at hB2
      simp -dsimp (disch := first | omega | (refine DrawYes.mk ?_; kernel_rfl) | fail) only [go_sem, ↓reduceIte, reduceCtorEq, Nat.reduceEqDiff, Nat.reduceAdd, Nat.reduceLeDiff, Int.reduceLE, Int.reduceLT, Int.reduceBEq, Int.reduceBNe, Int.reduceEq, Nat.reduceBEq, Int.reduceToNat, Nat.reduceLT, Nat.reduceGT, Nat.reduceSub, Nat.reduceMul, Int.reduceAdd, Int.reduceSub, Int.reduceNeg, Int.reduceGE, Int.reduceGT, hA, hB, hC, hn1, hn2, hn3, j1, j2]
      simp only at hn1 hn2 hn3
      refine Y_loop (α := Nat) (fun i σ _ => i ≤ A.length + B.length - 1 ∧ σ 0 = .str S ∧ σ 5 = .bool true ∧ σ 6 = .sl id1 3 off1 (A.map Tok.dv) ∧ σ 9 = .sl id2 3 off2 (B.map Tok.dv) ∧ σ 12 = .sl id3 3 off3 ((A.take (A.length - 1) ++ B.map (Tok.sh (S.length + 1))).map Tok.dv) ∧ σ 15 = .int .i64 i) (fun i => A.length + B.length - i) 0 ?_ ?_
      · simp -dsimp (disch := first | omega | (refine DrawYes.mk ?_; kernel_rfl) | fail) only [go_sem, ↓reduceIte, reduceCtorEq, Nat.reduceEqDiff, Nat.reduceAdd, Nat.reduceLeDiff, Int.reduceLE, Int.reduceLT, Int.reduceBEq, Int.reduceBNe, Int.reduceEq, Nat.reduceBEq, Int.reduceToNat, Nat.reduceLT, Nat.reduceGT, Nat.reduceSub, Nat.reduceMul, Int.reduceAdd, Int.reduceSub, Int.reduceNeg, Int.reduceGE, Int.reduceGT, hA, hB, hC]
        simp
      rintro i σ H5 ⟨hi, g0, g5, g6, g9, g12, g15⟩
      by_cases hlt : i < A.length + B.length - 1
      · have k0 : (i : Int) < (A.length + B.length - 1 : Nat) := by omega
        by_cases ha : i < A.length - 1
        · have k1 : (i : Int) < (A.length : Int) - 1 := by omega
          have hiA : i < A.length := by omega
          have ga : (A.map Tok.dv)[i]? = some (.agg [.int .i64 A[i].kind, .str A[i].text, .int .i64 A[i].pos]) := by rw [List.getElem?_map, List.getElem?_eq_getElem hiA]; rfl
          have gc : ((A.take (A.length - 1) ++ B.map (Tok.sh (S.length + 1))).map Tok.dv)[i]? = some (.agg [.int .i64 A[i].kind, .str A[i].text, .int .i64 A[i].pos]) := by
            rw [List.map_append, List.getElem?_append_left (by simp; omega), ← ga, List.map_take, List.getElem?_take_of_lt (by omega)]
          simp -dsimp (disch := first | omega | (refine DrawYes.mk ?_; kernel_rfl) | fail) only [go_sem, ↓reduceIte, reduceCtorEq, Nat.reduceEqDiff, Nat.reduceAdd, Nat.reduceLeDiff, Int.reduceLE, Int.reduceLT, Int.reduceBEq, Int.reduceBNe, Int.reduceEq, Nat.reduceBEq, Int.reduceToNat, Nat.reduceLT, Nat.reduceGT, Nat.reduceSub, Nat.reduceMul, Int.reduceAdd, Int.reduceSub, Int.reduceNeg, Int.reduceGE, Int.reduceGT, g0, g5, g6, g9, g12, g15, hn1, hn2, hn3, k0, k1, ga, gc, cellsEq, cellEq, flat_28]
          repeat refine And.intro (by omega) ?_
          exact ⟨i + 1, ⟨by omega, rfl⟩, by omega⟩
        · have k1 : ¬ (i : Int) < (A.length : Int) - 1 := by omega
          obtain ⟨j, hj⟩ : ∃ j, j = i + 1 - A.length := ⟨_, rfl⟩
          have hjB : j < B.length := by omega
          have hji : (i : Int) - A.length + 1 = (j : Int) := by omega
          have ga : (B.map Tok.dv)[j]? = some (.agg [.int .i64 B[j].kind, .str B[j].text, .int .i64 B[j].pos]) := by rw [List.getElem?_map, List.getElem?_eq_getElem hjB]; rfl
          have gp : B[j].pos ≤ 900 := hBp _ (List.getElem_mem hjB)
          have gc : ((A.take (A.length - 1) ++ B.map (Tok.sh (S.length + 1))).map Tok.dv)[i]? = some (.agg [.int .i64 B[j].kind, .str B[j].text, .int .i64 (B[j].pos + S.length + 1)]) := by
            rw [List.map_append, List.getElem?_append_right (by simp; omega), List.map_map, List.getElem?_map]
            have : i - ((A.take (A.length - 1)).map Tok.dv).length = j := by simp; omega
            rw [this, List.getElem?_eq_getElem hjB]
            simp [Tok.dv, Tok.sh]
            omega
          simp -dsimp (disch := first | omega | (refine DrawYes.mk ?_; kernel_rfl) | fail) only [go_sem, ↓reduceIte, reduceCtorEq, Nat.reduceEqDiff, Nat.reduceAdd, Nat.reduceLeDiff, Int.reduceLE, Int.reduceLT, Int.reduceBEq, Int.reduceBNe, Int.reduceEq, Nat.reduceBEq, Int.reduceToNat, Nat.reduceLT, Nat.reduceGT, Nat.reduceSub, Nat.reduceMul, Int.reduceAdd, Int.reduceSub, Int.reduceNeg, Int.reduceGE, Int.reduceGT, g0, g5, g6, g9, g12, g15, hn1, hn2, hn3, k0, k1, hji, ga, gc, cellsEq, cellEq, flat_28]
          repeat refine And.intro (by omega) ?_
          exact ⟨i + 1, ⟨by omega, rfl⟩, by omega⟩
      · have k0 : ¬ (i : Int) < (A.length + B.length - 1 : Nat) := by omega
        simp -dsimp (disch := first | omega | (refine DrawYes.mk ?_; kernel_rfl) | fail) only [go_sem, ↓reduceIte, reduceCtorEq, Nat.reduceEqDiff, Nat.reduceAdd, Nat.reduceLeDiff, Int.reduceLE, Int.reduceLT, Int.reduceBEq, Int.reduceBNe, Int.reduceEq, Nat.reduceBEq, Int.reduceToNat, Nat.reduceLT, Nat.reduceGT, Nat.reduceSub, Nat.reduceMul, Int.reduceAdd, Int.reduceSub, Int.reduceNeg, Int.reduceGE, Int.reduceGT, g0, g5, g6, g9, g12, g15, hn1, hn2, hn3, k0]
  · have i1 : 900 < (s.length : Int) := by omega
    have i2 : ¬ 900 < (t.length : Int) := by omega
    have q1 : 900 ≤ (s.length : Int) := by omega
    obtain ⟨S, hS⟩ : ∃ S, s.take 900 = S := ⟨_, rfl⟩
    have hSl : S.length ≤ 900 := by rw [← hS]; simp; omega
    simp -dsimp (disch := first | omega | (refine DrawYes.mk ?_; kernel_rfl) | fail) only [go_sem, ↓reduceIte, reduceCtorEq, Nat.reduceEqDiff, Nat.reduceAdd, Nat.reduceLeDiff, Int.reduceLE, Int.reduceLT, Int.reduceBEq, Int.reduceBNe, Int.reduceEq, Nat.reduceBEq, Int.reduceToNat, Nat.reduceLT, Nat.reduceGT, Nat.reduceSub, Nat.reduceMul, Int.reduceAdd, Int.reduceSub, Int.reduceNeg, Int.reduceGE, Int.reduceGT, i1, i2, q1, hS]
    refine call (all_ok (by omega)) ?_
    rintro _ H2 ⟨hE2, v1, rfl, hs1⟩
    simp -dsimp (disch := first | omega | (refine DrawYes.mk ?_; kernel_rfl) | fail) only [go_sem, ↓reduceIte, reduceCtorEq, Nat.reduceEqDiff, Nat.reduceAdd, Nat.reduceLeDiff, Int.reduceLE, Int.reduceLT, Int.reduceBEq, Int.reduceBNe, Int.reduceEq, Nat.reduceBEq, Int.reduceToNat, Nat.reduceLT, Nat.reduceGT, Nat.reduceSub, Nat.reduceMul, Int.reduceAdd, Int.reduceSub, Int.reduceNeg, Int.reduceGE, Int.reduceGT, i1, i2, q1, hS]
    refine call (all_ok (by omega)) ?_
    rintro _ H3 ⟨hE3, v2, rfl, hs2⟩
    simp -dsimp (disch := first | omega | (refine DrawYes.mk ?_; kernel_rfl) | fail) only [go_sem, ↓reduceIte, reduceCtorEq, Nat.reduceEqDiff, Nat.reduceAdd, Nat.reduceLeDiff, Int.reduceLE, Int.reduceLT, Int.reduceBEq, Int.reduceBNe, Int.reduceEq, Nat.reduceBEq, Int.reduceToNat, Nat.reduceLT, Nat.reduceGT, Nat.reduceSub, Nat.reduceMul, Int.reduceAdd, Int.reduceSub, Int.reduceNeg, Int.reduceGE, Int.reduceGT, i1, i2, q1, hS]
    refine ⟨by omega, by simp; omega, call (all_ok (by simp; omega)) ?_⟩
    rintro _ H4 ⟨hE4, v3, rfl, hs3⟩
    rcases joins_law (s := S) (t := t) (by omega) (by omega) with ⟨p, e, e0, hA, hC⟩ | ⟨A, hA1, hA2, hA, ⟨p, e, hp, e0, hB, ⟨hC, e4⟩ | ⟨e4, hC⟩⟩ | ⟨B, hBp, hB1, hB2, hB, ⟨hl, hC⟩ | ⟨hl, hC⟩⟩⟩
    · rw [hC] at hs3
      have hn3 := hs3.len (H' := H4) und_23
      have j1 : ((e : Int) != 0) = true := by simp; omega
      simp -dsimp (disch := first | omega | (refine DrawYes.mk ?_; kernel_rfl) | fail) only [go_sem, ↓reduceIte, reduceCtorEq, Nat.reduceEqDiff, Nat.reduceAdd, Nat.reduceLeDiff, Int.reduceLE, Int.reduceLT, Int.reduceBEq, Int.reduceBNe, Int.reduceEq, Nat.reduceBEq, Int.reduceToNat, Nat.reduceLT, Nat.reduceGT, Nat.reduceSub, Nat.reduceMul, Int.reduceAdd, Int.reduceSub, Int.reduceNeg, Int.reduceGE, Int.reduceGT, hA, hC, j1, hn3]
      simp
    · have hn1 : ∀ H', lenD cfg.T H' 23 v1 = some (.int .i64 A.length) := fun H' => by rw [hA] at hs1; rw [hs1.len und_23, List.length_map]
      have j1 : ((e : Int) != 0) = true := by simp; omega
      by_cases h4 : e = 4
      · subst h4
        have j0 : ((0 : Int) == (p : Int) + S.length + 1) = false := by simp; omega
        simp -dsimp (disch := first | omega | (refine DrawYes.mk ?_; kernel_rfl) | fail) only [go_sem, ↓reduceIte, reduceCtorEq, Nat.reduceEqDiff, Nat.reduceAdd, Nat.reduceLeDiff, Int.reduceLE, Int.reduceLT, Int.reduceBEq, Int.reduceBNe, Int.reduceEq, Nat.reduceBEq, Int.reduceToNat, Nat.reduceLT, Nat.reduceGT, Nat.reduceSub, Nat.reduceMul, Int.reduceAdd, Int.reduceSub, Int.reduceNeg, Int.reduceGE, Int.reduceGT, hA, hB, hC, hn1, j0]
      · have h5 : 1 < A.length := by omega
        have j2 : 1 < (A.length : Int) := by omega
        have j3 : ((4 : Int) == (e : Int)) = false := by simp; omega
        simp -dsimp (disch := first | omega | (refine DrawYes.mk ?_; kernel_rfl) | fail) only [go_sem, ↓reduceIte, reduceCtorEq, Nat.reduceEqDiff, Nat.reduceAdd, Nat.reduceLeDiff, Int.reduceLE, Int.reduceLT, Int.reduceBEq, Int.reduceBNe, Int.reduceEq, Nat.reduceBEq, Int.reduceToNat, Nat.reduceLT, Nat.reduceGT, Nat.reduceSub, Nat.reduceMul, Int.reduceAdd, Int.reduceSub, Int.reduceNeg, Int.reduceGE, Int.reduceGT, hA, hB, hC, hn1, j1, j2, j3]
    · have j1 : ((e : Int) != 0) = true := by simp; omega
      have j2 : (((p + S.length + 1 : Nat) : Int) == (p : Int) + S.length + 1) = true := by simp
      have j3 : ((e : Int) == 4) = false := by simp; omega
      simp -dsimp (disch := first | omega | (refine DrawYes.mk ?_; kernel_rfl) | fail) only [go_sem, ↓reduceIte, reduceCtorEq, Nat.reduceEqDiff, Nat.reduceAdd, Nat.reduceLeDiff, Int.reduceLE, Int.reduceLT, Int.reduceBEq, Int.reduceBNe, Int.reduceEq, Nat.reduceBEq, Int.reduceToNat, Nat.reduceLT, Nat.reduceGT, Nat.reduceSub, Nat.reduceMul, Int.reduceAdd, Int.reduceSub, Int.reduceNeg, Int.reduceGE, Int.reduceGT, hA, hB, hC, j1, j2, j3]
    · have hn1 : ∀ H', lenD cfg.T H' 23 v1 = some (.int .i64 A.length) := fun H' => by rw [hA] at hs1; rw [hs1.len und_23, List.length_map]
      have hn2 : ∀ H', lenD cfg.T H' 23 v2 = some (.int .i64 B.length) := fun H' => by rw [hB] at hs2; rw [hs2.len und_23, List.length_map]
      have j1 : 400 < (A.length : Int) + B.length - 2 := by omega
      simp -dsimp (disch := first | omega | (refine DrawYes.mk ?_; kernel_rfl) | fail) only [go_sem, ↓reduceIte, reduceCtorEq, Nat.reduceEqDiff, Nat.reduceAdd, Nat.reduceLeDiff, Int.reduceLE, Int.reduceLT, Int.reduceBEq, Int.reduceBNe, Int.reduceEq, Nat.reduceBEq, Int.reduceToNat, Nat.reduceLT, Nat.reduceGT, Nat.reduceSub, Nat.reduceMul, Int.reduceAdd, Int.reduceSub, Int.reduceNeg, Int.reduceGE, Int.reduceGT, hA, hB, hC, hn1, hn2, j1]
    · have hn1 : ∀ H', lenD cfg.T H' 23 v1 = some (.int .i64 A.length) := fun H' => by rw [hA] at hs1; rw [hs1.len und_23, List.length_map]
      have hn2 : ∀ H', lenD cfg.T H' 23 v2 = some (.int .i64 B.length) := fun H' => by rw [hB] at hs2; rw [hs2.len und_23, List.length_map]
      have hlen : (A.take (A.length - 1) ++ B.map (Tok.sh (S.length + 1))).length = A.length + B.length - 1 := by simp; omega
      have hn3 : ∀ H', lenD cfg.T H' 23 v3 = some (.int .i64 (A.length + B.length - 1 : Nat)) := fun H' => by rw [hC] at hs3; rw [hs3.len und_23, List.length_map, hlen]
      have j1 : ¬ 400 < (A.length : Int) + B.length - 2 := by omega
      have j2 : (((A.length + B.length - 1 : Nat) : Int) != (A.length : Int) + B.length - 1) = false := by simp; omega
      rw [hA] at hs1
      rw [hB] at hs2
      rw [hC] at hs3
      rcases hs1 with ⟨_, h⟩ | ⟨id1, off1, k1, rfl, _⟩
      · simp at h; subst h; simp at hA2
      rcases hs2 with ⟨_, h⟩ | ⟨id2, off2, k2, rfl, _⟩
      · simp at h; subst h; simp at hB2
      rcases hs3 with ⟨_, h⟩ | ⟨id3, off3, k3, rfl, _⟩
      · have := congrArg List.length h; simp at this; simp [this.2] at hB2
      simp -dsimp (disch := first | omega | (refine DrawYes.mk ?_; kernel_rfl) | fail) only [go_sem, ↓reduceIte, reduceCtorEq, Nat.reduceEqDiff, Nat.reduceAdd, Nat.reduceLeDiff, Int.reduceLE, Int.reduceLT, Int.reduceBEq, Int.reduceBNe, Int.reduceEq, Nat.reduceBEq, Int.reduceToNat, Nat.reduceLT, Nat.reduceGT, Nat.reduceSub, Nat.reduceMul, Int.reduceAdd, Int.reduceSub, Int.reduceNeg, Int.reduceGE, Int.reduceGT, hA, hB, hC, hn1, hn2, hn3, j1, j2]
      simp only at hn1 hn2 hn3
      refine Y_loop (α := Nat) (fun i σ _ => i ≤ A.length + B.length - 1 ∧ σ 0 = .str S ∧ σ 5 = .bool true ∧ σ 6 = .sl id1 3 off1 (A.map Tok.dv) ∧ σ 9 = .sl id2 3 off2 (B.map Tok.dv) ∧ σ 12 = .sl id3 3 off3 ((A.take (A.length - 1) ++ B.map (Tok.sh (S.length + 1))).map Tok.dv) ∧ σ 15 = .int .i64 i) (fun i => A.length + B.length - i) 0 ?_ ?_
      · simp -dsimp (disch := first | omega | (refine DrawYes.mk ?_; kernel_rfl) | fail) only [go_sem, ↓reduceIte, reduceCtorEq, Nat.reduceEqDiff, Nat.reduceAdd, Nat.reduceLeDiff, Int.reduceLE, Int.reduceLT, Int.reduceBEq, Int.reduceBNe, Int.reduceEq, Nat.reduceBEq, Int.reduceToNat, Nat.reduceLT, Nat.reduceGT, Nat.reduceSub, Nat.reduceMul, Int.reduceAdd, Int.reduceSub, Int.reduceNeg, Int.reduceGE, Int.reduceGT, hA, hB, hC]
        simp
      rintro i σ H5 ⟨hi, g0, g5, g6, g9, g12, g15⟩
      by_cases hlt : i < A.length + B.length - 1
      · have k0 : (i : Int) < (A.length + B.length - 1 : Nat) := by omega
        by_cases ha : i < A.length - 1
        · have k1 : (i : Int) < (A.length : Int) - 1 := by omega
          have hiA : i < A.length := by omega
          have ga : (A.map Tok.dv)[i]? = some (.agg [.int .i64 A[i].kind, .str A[i].text, .int .i64 A[i].pos]) := by rw [List.getElem?_map, List.getElem?_eq_getElem hiA]; rfl
          have gc : ((A.take (A.length - 1) ++ B.map (Tok.sh (S.length + 1))).map Tok.dv)[i]? = some (.agg [.int .i64 A[i].kind, .str A[i].text, .int .i64 A[i].pos]) := by
            rw [List.map_append, List.getElem?_append_left (by simp; omega), ← ga, List.map_take, List.getElem?_take_of_lt (by omega)]
          simp -dsimp (disch := first | omega | (refine DrawYes.mk ?_; kernel_rfl) | fail) only [go_sem, ↓reduceIte, reduceCtorEq, Nat.reduceEqDiff, Nat.reduceAdd, Nat.reduceLeDiff, Int.reduceLE, Int.reduceLT, Int.reduceBEq, Int.reduceBNe, Int.reduceEq, Nat.reduceBEq, Int.reduceToNat, Nat.reduceLT, Nat.reduceGT, Nat.reduceSub, Nat.reduceMul, Int.reduceAdd, Int.reduceSub, Int.reduceNeg, Int.reduceGE, Int.reduceGT, g0, g5, g6, g9, g12, g15, hn1, hn2, hn3, k0, k1, ga, gc, cellsEq, cellEq, flat_28]
          repeat refine And.intro (by omega) ?_
          exact ⟨i + 1, ⟨by omega, rfl⟩, by omega⟩
        · have k1 : ¬ (i : Int) < (A.length : Int) - 1 := by omega
          obtain ⟨j, hj⟩ : ∃ j, j = i + 1 - A.length := ⟨_, rfl⟩
          have hjB : j < B.length := by omega
          have hji : (i : Int) - A.length + 1 = (j : Int) := by omega
          have ga : (B.map Tok.dv)[j]? = some (.agg [.int .i64 B[j].kind, .str B[j].text, .int .i64 B[j].pos]) := by rw [List.getElem?_map, List.getElem?_eq_getElem hjB]; rfl
          have gp : B[j].pos ≤ 900 := hBp _ (List.getElem_mem hjB)
          have gc : ((A.take (A.length - 1) ++ B.map (Tok.sh (S.length + 1))).map Tok.dv)[i]? = some (.agg [.int .i64 B[j].kind, .str B[j].text, .int .i64 (B[j].pos + S.length + 1)]) := by
            rw [List.map_append, List.getElem?_append_right (by simp; omega), List.map_map, List.getElem?_map]
            have : i - ((A.take (A.length - 1)).map Tok.dv).length = j := by simp; omega
            rw [this, List.getElem?_eq_getElem hjB]
            simp [Tok.dv, Tok.sh]
            omega
          simp -dsimp (disch := first | omega | (refine DrawYes.mk ?_; kernel_rfl) | fail) only [go_sem, ↓reduceIte, reduceCtorEq, Nat.reduceEqDiff, Nat.reduceAdd, Nat.reduceLeDiff, Int.reduceLE, Int.reduceLT, Int.reduceBEq, Int.reduceBNe, Int.reduceEq, Nat.reduceBEq, Int.reduceToNat, Nat.reduceLT, Nat.reduceGT, Nat.reduceSub, Nat.reduceMul, Int.reduceAdd, Int.reduceSub, Int.reduceNeg, Int.reduceGE, Int.reduceGT, g0, g5, g6, g9, g12, g15, hn1, hn2, hn3, k0, k1, hji, ga, gc, cellsEq, cellEq, flat_28]
          repeat refine And.intro (by omega) ?_
          exact ⟨i + 1, ⟨by omega, rfl⟩, by omega⟩
      · have k0 : ¬ (i : Int) < (A.length + B.length - 1 : Nat) := by omega
        simp -dsimp (disch := first | omega | (refine DrawYes.mk ?_; kernel_rfl) | fail) only [go_sem, ↓reduceIte, reduceCtorEq, Nat.reduceEqDiff, Nat.reduceAdd, Nat.reduceLeDiff, Int.reduceLE, Int.reduceLT, Int.reduceBEq, Int.reduceBNe, Int.reduceEq, Nat.reduceBEq, Int.reduceToNat, Nat.reduceLT, Nat.reduceGT, Nat.reduceSub, Nat.reduceMul, Int.reduceAdd, Int.reduceSub, Int.reduceNeg, Int.reduceGE, Int.reduceGT, g0, g5, g6, g9, g12, g15, hn1, hn2, hn3, k0]
  · have i1 : ¬ 900 < (s.length : Int) := by omega
    have i2 : 900 < (t.length : Int) := by omega
    have q2 : 900 ≤ (t.length : Int) := by omega
    obtain ⟨T, hT⟩ : ∃ T, t.take 900 = T := ⟨_, rfl⟩
    have hTl : T.length ≤ 900 := by rw [← hT]; simp; omega
    simp -dsimp (disch := first | omega | (refine DrawYes.mk ?_; kernel_rfl) | fail) only [go_sem, ↓reduceIte, reduceCtorEq, Nat.reduceEqDiff, Nat.reduceAdd, Nat.reduceLeDiff, Int.reduceLE, Int.reduceLT, Int.reduceBEq, Int.reduceBNe, Int.reduceEq, Nat.reduceBEq, Int.reduceToNat, Nat.reduceLT, Nat.reduceGT, Nat.reduceSub, Nat.reduceMul, Int.reduceAdd, Int.reduceSub, Int.reduceNeg, Int.reduceGE, Int.reduceGT, i1, i2, q2, hT]
    refine call (all_ok (by omega)) ?_
    rintro _ H2 ⟨hE2, v1, rfl, hs1⟩
    simp -dsimp (disch := first | omega | (refine DrawYes.mk ?_; kernel_rfl) | fail) only [go_sem, ↓reduceIte, reduceCtorEq, Nat.reduceEqDiff, Nat.reduceAdd, Nat.reduceLeDiff, Int.reduceLE, Int.reduceLT, Int.reduceBEq, Int.reduceBNe, Int.reduceEq, Nat.reduceBEq, Int.reduceToNat, Nat.reduceLT, Nat.reduceGT, Nat.reduceSub, Nat.reduceMul, Int.reduceAdd, Int.reduceSub, Int.reduceNeg, Int.reduceGE, Int.reduceGT, i1, i2, q2, hT]
    refine call (all_ok (by omega)) ?_
    rintro _ H3 ⟨hE3, v2, rfl, hs2⟩
    simp -dsimp (disch := first | omega | (refine DrawYes.mk ?_; kernel_rfl) | fail) only [go_sem, ↓reduceIte, reduceCtorEq, Nat.reduceEqDiff, Nat.reduceAdd, Nat.reduceLeDiff, Int.reduceLE, Int.reduceLT, Int.reduceBEq, Int.reduceBNe, Int.reduceEq, Nat.reduceBEq, Int.reduceToNat, Nat.reduceLT, Nat.reduceGT, Nat.reduceSub, Nat.reduceMul, Int.reduceAdd, Int.reduceSub, Int.reduceNeg, Int.reduceGE, Int.reduceGT, i1, i2, q2, hT]
    refine ⟨by omega, by simp; omega, call (all_ok (by simp; omega)) ?_⟩
    rintro _ H4 ⟨hE4, v3, rfl, hs3⟩
    rcases joins_law (s := s) (t := T) (by omega) (by omega) with ⟨p, e, e0, hA, hC⟩ | ⟨A, hA1, hA2, hA, ⟨p, e, hp, e0, hB, ⟨hC, e4⟩ | ⟨e4, hC⟩⟩ | ⟨B, hBp, hB1, hB2, hB, ⟨hl, hC⟩ | ⟨hl, hC⟩⟩⟩
    · rw [hC] at hs3
      have hn3 := hs3.len (H' := H4) und_23
      have j1 : ((e : Int) != 0) = true := by simp; omega
      simp -dsimp (disch := first | omega | (refine DrawYes.mk ?_; kernel_rfl) | fail) only [go_sem, ↓reduceIte, reduceCtorEq, Nat.reduceEqDiff, Nat.reduceAdd, Nat.reduceLeDiff, Int.reduceLE, Int.reduceLT, Int.reduceBEq, Int.reduceBNe, Int.reduceEq, Nat.reduceBEq, Int.reduceToNat, Nat.reduceLT, Nat.reduceGT, Nat.reduceSub, Nat.reduceMul, Int.reduceAdd, Int.reduceSub, Int.reduceNeg, Int.reduceGE, Int.reduceGT, hA, hC, j1, hn3]
      simp
    · have hn1 : ∀ H', lenD cfg.T H' 23 v1 = some (.int .i64 A.length) := fun H' => by rw [hA] at hs1; rw [hs1.len und_23, List.length_map]
      have j1 : ((e : Int) != 0) = true := by simp; omega
      by_cases h4 : e = 4
      · subst h4
        have j0 : ((0 : Int) == (p : Int) + s.length + 1) = false := by simp; omega
        simp -dsimp (disch := first | omega | (refine DrawYes.mk ?_; kernel_rfl) | fail) only [go_sem, ↓reduceIte, reduceCtorEq, Nat.reduceEqDiff, Nat.reduceAdd, Nat.reduceLeDiff, Int.reduceLE, Int.reduceLT, Int.reduceBEq, Int.reduceBNe, Int.reduceEq, Nat.reduceBEq, Int.reduceToNat, Nat.reduceLT, Nat.reduceGT, Nat.reduceSub, Nat.reduceMul, Int.reduceAdd, Int.reduceSub, Int.reduceNeg, Int.reduceGE, Int.reduceGT, hA, hB, hC, hn1, j0]
      · have h5 : 1 < A.length := by omega
        have j2 : 1 < (A.length : Int) := by omega
        have j3 : ((4 : Int) == (e : Int)) = false := by simp; omega
        simp -dsimp (disch := first | omega | (refine DrawYes.mk ?_; kernel_rfl) | fail) only [go_sem, ↓reduceIte, reduceCtorEq, Nat.reduceEqDiff, Nat.reduceAdd, Nat.reduceLeDiff, Int.reduceLE, Int.reduceLT, Int.reduceBEq, Int.reduceBNe, Int.reduceEq, Nat.reduceBEq, Int.reduceToNat, Nat.reduceLT, Nat.reduceGT, Nat.reduceSub, Nat.reduceMul, Int.reduceAdd, Int.reduceSub, Int.reduceNeg, Int.reduceGE, Int.reduceGT, hA, hB, hC, hn1, j1, j2, j3]
    · have j1 : ((e : Int) != 0) = true := by simp; omega
      have j2 : (((p + s.length + 1 : Nat) : Int) == (p : Int) + s.length + 1) = true := by simp
      have j3 : ((e : Int) == 4) = false := by simp; omega
      simp -dsimp (disch := first | omega | (refine DrawYes.mk ?_; kernel_rfl) | fail) only [go_sem, ↓reduceIte, reduceCtorEq, Nat.reduceEqDiff, Nat.reduceAdd, Nat.reduceLeDiff, Int.reduceLE, Int.reduceLT, Int.reduceBEq, Int.reduceBNe, Int.reduceEq, Nat.reduceBEq, Int.reduceToNat, Nat.reduceLT, Nat.reduceGT, Nat.reduceSub, Nat.reduceMul, Int.reduceAdd, Int.reduceSub, Int.reduceNeg, Int.reduceGE, Int.reduceGT, hA, hB, hC, j1, j2, j3]
    · have hn1 : ∀ H', lenD cfg.T H' 23 v1 = some (.int .i64 A.length) := fun H' => by rw [hA] at hs1; rw [hs1.len und_23, List.length_map]
      have hn2 : ∀ H', lenD cfg.T H' 23 v2 = some (.int .i64 B.length) := fun H' => by rw [hB] at hs2; rw [hs2.len und_23, List.length_map]
      have j1 : 400 < (A.length : Int) + B.length - 2 := by omega
      simp -dsimp (disch := first | omega | (refine DrawYes.mk ?_; kernel_rfl) | fail) only [go_sem, ↓reduceIte, reduceCtorEq, Nat.reduceEqDiff, Nat.reduceAdd, Nat.reduceLeDiff, Int.reduceLE, Int.reduceLT, Int.reduceBEq, Int.reduceBNe, Int.reduceEq, Nat.reduceBEq, Int.reduceToNat, Nat.reduceLT, Nat.reduceGT, Nat.reduceSub, Nat.reduceMul, Int.reduceAdd, Int.reduceSub, Int.reduceNeg, Int.reduceGE, Int.reduceGT, hA, hB, hC, hn1, hn2, j1]
    · have hn1 : ∀ H', lenD cfg.T H' 23 v1 = some (.int .i64 A.length) := fun H' => by rw [hA] at hs1; rw [hs1.len und_23, List.length_map]
      have hn2 : ∀ H', lenD cfg.T H' 23 v2 = some (.int .i64 B.length) := fun H' => by rw [hB] at hs2; rw [hs2.len und_23, List.length_map]
      have hlen : (A.take (A.length - 1) ++ B.map (Tok.sh (s.length + 1))).length = A.length + B.length - 1 := by simp; omega
      have hn3 : ∀ H', lenD cfg.T H' 23 v3 = some (.int .i64 (A.length + B.length - 1 : Nat)) := fun H' => by rw [hC] at hs3; rw [hs3.len und_23, List.length_map, hlen]
      have j1 : ¬ 400 < (A.length : Int) + B.length - 2 := by omega
      have j2 : (((A.length + B.length - 1 : Nat) : Int) != (A.length : Int) + B.length - 1) = false := by simp; omega
      rw [hA] at hs1
      rw [hB] at hs2
      rw [hC] at hs3
      rcases hs1 with ⟨_, h⟩ | ⟨id1, off1, k1, rfl, _⟩
      · simp at h; subst h; simp at hA2
      rcases hs2 with ⟨_, h⟩ | ⟨id2, off2, k2, rfl, _⟩
      · simp at h; subst h; simp at hB2
      rcases hs3 with ⟨_, h⟩ | ⟨id3, off3, k3, rfl, _⟩
      · have := congrArg List.length h; simp at this; simp [this.2] at hB2
      simp -dsimp (disch := first | omega | (refine DrawYes.mk ?_; kernel_rfl) | fail) only [go_sem, ↓reduceIte, reduceCtorEq, Nat.reduceEqDiff, Nat.reduceAdd, Nat.reduceLeDiff, Int.reduceLE, Int.reduceLT, Int.reduceBEq, Int.reduceBNe, Int.reduceEq, Nat.reduceBEq, Int.reduceToNat, Nat.reduceLT, Nat.reduceGT, Nat.reduceSub, Nat.reduceMul, Int.reduceAdd, Int.reduceSub, Int.reduceNeg, Int.reduceGE, Int.reduceGT, hA, hB, hC, hn1, hn2, hn3, j1, j2]
      simp only at hn1 hn2 hn3
      refine Y_loop (α := Nat) (fun i σ _ => i ≤ A.length + B.length - 1 ∧ σ 0 = .str s ∧ σ 5 = .bool true ∧ σ 6 = .sl id1 3 off1 (A.map Tok.dv) ∧ σ 9 = .sl id2 3 off2 (B.map Tok.dv) ∧ σ 12 = .sl id3 3 off3 ((A.take (A.length - 1) ++ B.map (Tok.sh (s.length + 1))).map Tok.dv) ∧ σ 15 = .int .i64 i) (fun i => A.length + B.length - i) 0 ?_ ?_
      · simp -dsimp (disch := first | omega | (refine DrawYes.mk ?_; kernel_rfl) | fail) only [go_sem, ↓reduceIte, reduceCtorEq, Nat.reduceEqDiff, Nat.reduceAdd, Nat.reduceLeDiff, Int.reduceLE, Int.reduceLT, Int.reduceBEq, Int.reduceBNe, Int.reduceEq, Nat.reduceBEq, Int.reduceToNat, Nat.reduceLT, Nat.reduceGT, Nat.reduceSub, Nat.reduceMul, Int.reduceAdd, Int.reduceSub, Int.reduceNeg, Int.reduceGE, Int.reduceGT, hA, hB, hC]
        simp
      rintro i σ H5 ⟨hi, g0, g5, g6, g9, g12, g15⟩
      by_cases hlt : i < A.length + B.length - 1
      · have k0 : (i : Int) < (A.length + B.length - 1 : Nat) := by omega
        by_cases ha : i < A.length - 1
        · have k1 : (i : Int) < (A.length : Int) - 1 := by omega
          have hiA : i < A.length := by omega
          have ga : (A.map Tok.dv)[i]? = some (.agg [.int .i64 A[i].kind, .str A[i].text, .int .i64 A[i].pos]) := by rw [List.getElem?_map, List.getElem?_eq_getElem hiA]; rfl
          have gc : ((A.take (A.length - 1) ++ B.map (Tok.sh (s.length + 1))).map Tok.dv)[i]? = some (.agg [.int .i64 A[i].kind, .str A[i].text, .int .i64 A[i].pos]) := by
            rw [List.map_append, List.getElem?_append_left (by simp; omega), ← ga, List.map_take, List.getElem?_take_of_lt (by omega)]
          simp -dsimp (disch := first | omega | (refine DrawYes.mk ?_; kernel_rfl) | fail) only [go_sem, ↓reduceIte, reduceCtorEq, Nat.reduceEqDiff, Nat.reduceAdd, Nat.reduceLeDiff, Int.reduceLE, Int.reduceLT, Int.reduceBEq, Int.reduceBNe, Int.reduceEq, Nat.reduceBEq, Int.reduceToNat, Nat.reduceLT, Nat.reduceGT, Nat.reduceSub, Nat.reduceMul, Int.reduceAdd, Int.reduceSub, Int.reduceNeg, Int.reduceGE, Int.reduceGT, g0, g5, g6, g9, g12, g15, hn1, hn2, hn3, k0, k1, ga, gc, cellsEq, cellEq, flat_28]
          repeat refine And.intro (by omega) ?_
          exact ⟨i + 1, ⟨by omega, rfl⟩, by omega⟩
        · have k1 : ¬ (i : Int) < (A.length : Int) - 1 := by omega
          obtain ⟨j, hj⟩ : ∃ j, j = i + 1 - A.length := ⟨_, rfl⟩
          have hjB : j < B.length := by omega
          have hji : (i : Int) - A.length + 1 = (j : Int) := by omega
          have ga : (B.map Tok.dv)[j]? = some (.agg [.int .i64 B[j].kind, .str B[j].text, .int .i64 B[j].pos]) := by rw [List.getElem?_map, List.getElem?_eq_getElem hjB]; rfl
          have gp : B[j].pos ≤ 900 := hBp _ (List.getElem_mem hjB)
          have gc : ((A.take (A.length - 1) ++ B.map (Tok.sh (s.length + 1))).map Tok.dv)[i]? = some (.agg [.int .i64 B[j].kind, .str B[j].text, .int .i64 (B[j].pos + s.length + 1)]) := by
            rw [List.map_append, List.getElem?_append_right (by simp; omega), List.map_map, List.getElem?_map]
            have : i - ((A.take (A.length - 1)).map Tok.dv).length = j := by simp; omega
            rw [this, List.getElem?_eq_getElem hjB]
            simp [Tok.dv, Tok.sh]
            omega
          simp -dsimp (disch := first | omega | (refine DrawYes.mk ?_; kernel_rfl) | fail) only [go_sem, ↓reduceIte, reduceCtorEq, Nat.reduceEqDiff, Nat.reduceAdd, Nat.reduceLeDiff, Int.reduceLE, Int.reduceLT, Int.reduceBEq, Int.reduceBNe, Int.reduceEq, Nat.reduceBEq, Int.reduceToNat, Nat.reduceLT, Nat.reduceGT, Nat.reduceSub, Nat.reduceMul, Int.reduceAdd, Int.reduceSub, Int.reduceNeg, Int.reduceGE, Int.reduceGT, g0, g5, g6, g9, g12, g15, hn1, hn2, hn3, k0, k1, hji, ga, gc, cellsEq, cellEq, flat_28]
          repeat refine And.intro (by omega) ?_
          exact ⟨i + 1, ⟨by omega, rfl⟩, by omega⟩
      · have k0 : ¬ (i : Int) < (A.length + B.length - 1 : Nat) := by omega
        simp -dsimp (disch := first | omega | (refine DrawYes.mk ?_; kernel_rfl) | fail) only [go_sem, ↓reduceIte, reduceCtorEq, Nat.reduceEqDiff, Nat.reduceAdd, Nat.reduceLeDiff, Int.reduceLE, Int.reduceLT, Int.reduceBEq, Int.reduceBNe, Int.reduceEq, Nat.reduceBEq, Int.reduceToNat, Nat.reduceLT, Nat.reduceGT, Nat.reduceSub, Nat.reduceMul, Int.reduceAdd, Int.reduceSub, Int.reduceNeg, Int.reduceGE, Int.reduceGT, g0, g5, g6, g9, g12, g15, hn1, hn2, hn3, k0]
  · have i1 : ¬ 900 < (s.length : Int) := by omega
    have i2 : ¬ 900 < (t.length : Int) := by omega
    simp -dsimp (disch := first | omega | (refine DrawYes.mk ?_; kernel_rfl) | fail) only [go_sem, ↓reduceIte, reduceCtorEq, Nat.reduceEqDiff, Nat.reduceAdd, Nat.reduceLeDiff, Int.reduceLE, Int.reduceLT, Int.reduceBEq, Int.reduceBNe, Int.reduceEq, Nat.reduceBEq, Int.reduceToNat, Nat.reduceLT, Nat.reduceGT, Nat.reduceSub, Nat.reduceMul, Int.reduceAdd, Int.reduceSub, Int.reduceNeg, Int.reduceGE, Int.reduceGT, i1, i2]
    refine call (all_ok (by omega)) ?_
    rintro _ H2 ⟨hE2, v1, rfl, hs1⟩
    simp -dsimp (disch := first | omega | (refine DrawYes.mk ?_; kernel_rfl) | fail) only [go_sem, ↓reduceIte, reduceCtorEq, Nat.reduceEqDiff, Nat.reduceAdd, Nat.reduceLeDiff, Int.reduceLE, Int.reduceLT, Int.reduceBEq, Int.reduceBNe, Int.reduceEq, Nat.reduceBEq, Int.reduceToNat, Nat.reduceLT, Nat.reduceGT, Nat.reduceSub, Nat.reduceMul, Int.reduceAdd, Int.reduceSub, Int.reduceNeg, Int.reduceGE, Int.reduceGT, i1, i2]
    refine call (all_ok (by omega)) ?_
    rintro _ H3 ⟨hE3, v2, rfl, hs2⟩
    simp -dsimp (disch := first | omega | (refine DrawYes.mk ?_; kernel_rfl) | fail) only [go_sem, ↓reduceIte, reduceCtorEq, Nat.reduceEqDiff, Nat.reduceAdd, Nat.reduceLeDiff, Int.reduceLE, Int.reduceLT, Int.reduceBEq, Int.reduceBNe, Int.reduceEq, Nat.reduceBEq, Int.reduceToNat, Nat.reduceLT, Nat.reduceGT, Nat.reduceSub, Nat.reduceMul, Int.reduceAdd, Int.reduceSub, Int.reduceNeg, Int.reduceGE, Int.reduceGT, i1, i2]
    refine ⟨by omega, by simp; omega, call (all_ok (by simp; omega)) ?_⟩
    rintro _ H4 ⟨hE4, v3, rfl, hs3⟩
    rcases joins_law (s := s) (t := t) (by omega) (by omega) with ⟨p, e, e0, hA, hC⟩ | ⟨A, hA1, hA2, hA, ⟨p, e, hp, e0, hB, ⟨hC, e4⟩ | ⟨e4, hC⟩⟩ | ⟨B, hBp, hB1, hB2, hB, ⟨hl, hC⟩ | ⟨hl, hC⟩⟩⟩
    · rw [hC] at hs3
      have hn3 := hs3.len (H' := H4) und_23
      have j1 : ((e : Int) != 0) = true := by simp; omega
      simp -dsimp (disch := first | omega | (refine DrawYes.mk ?_; kernel_rfl) | fail) only [go_sem, ↓reduceIte, reduceCtorEq, Nat.reduceEqDiff, Nat.reduceAdd, Nat.reduceLeDiff, Int.reduceLE, Int.reduceLT, Int.reduceBEq, Int.reduceBNe, Int.reduceEq, Nat.reduceBEq, Int.reduceToNat, Nat.reduceLT, Nat.reduceGT, Nat.reduceSub, Nat.reduceMul, Int.reduceAdd, Int.reduceSub, Int.reduceNeg, Int.reduceGE, Int.reduceGT, hA, hC, j1, hn3]
      simp
    · have hn1 : ∀ H', lenD cfg.T H' 23 v1 = some (.int .i64 A.length) := fun H' => by rw [hA] at hs1; rw [hs1.len und_23, List.length_map]
      have j1 : ((e : Int) != 0) = true := by simp; omega
      by_cases h4 : e = 4
      · subst h4
        have j0 : ((0 : Int) == (p : Int) + s.length + 1) = false := by simp; omega
        simp -dsimp (disch := first | omega | (refine DrawYes.mk ?_; kernel_rfl) | fail) only [go_sem, ↓reduceIte, reduceCtorEq, Nat.reduceEqDiff, Nat.reduceAdd, Nat.reduceLeDiff, Int.reduceLE, Int.reduceLT, Int.reduceBEq, Int.reduceBNe, Int.reduceEq, Nat.reduceBEq, Int.reduceToNat, Nat.reduceLT, Nat.reduceGT, Nat.reduceSub, Nat.reduceMul, Int.reduceAdd, Int.reduceSub, Int.reduceNeg, Int.reduceGE, Int.reduceGT, hA, hB, hC, hn1, j0]
      · have h5 : 1 < A.length := by omega
        have j2 : 1 < (A.length : Int) := by omega
        have j3 : ((4 : Int) == (e : Int)) = false := by simp; omega
        simp -dsimp (disch := first | omega | (refine DrawYes.mk ?_; kernel_rfl) | fail) only [go_sem, ↓reduceIte, reduceCtorEq, Nat.reduceEqDiff, Nat.reduceAdd, Nat.reduceLeDiff, Int.reduceLE, Int.reduceLT, Int.reduceBEq, Int.reduceBNe, Int.reduceEq, Nat.reduceBEq, Int.reduceToNat, Nat.reduceLT, Nat.reduceGT, Nat.reduceSub, Nat.reduceMul, Int.reduceAdd, Int.reduceSub, Int.reduceNeg, Int.reduceGE, Int.reduceGT, hA, hB, hC, hn1, j1, j2, j3]
    · have j1 : ((e : Int) != 0) = true := by simp; omega
      have j2 : (((p + s.length + 1 : Nat) : Int) == (p : Int) + s.length + 1) = true := by simp
      have j3 : ((e : Int) == 4) = false := by simp; omega
      simp -dsimp (disch := first | omega | (refine DrawYes.mk ?_; kernel_rfl) | fail) only [go_sem, ↓reduceIte, reduceCtorEq, Nat.reduceEqDiff, Nat.reduceAdd, Nat.reduceLeDiff, Int.reduceLE, Int.reduceLT, Int.reduceBEq, Int.reduceBNe, Int.reduceEq, Nat.reduceBEq, Int.reduceToNat, Nat.reduceLT, Nat.reduceGT, Nat.reduceSub, Nat.reduceMul, Int.reduceAdd, Int.reduceSub, Int.reduceNeg, Int.reduceGE, Int.reduceGT, hA, hB, hC, j1, j2, j3]
    · have hn1 : ∀ H', lenD cfg.T H' 23 v1 = some (.int .i64 A.length) := fun H' => by rw [hA] at hs1; rw [hs1.len und_23, List.length_map]
      have hn2 : ∀ H', lenD cfg.T H' 23 v2 = some (.int .i64 B.length) := fun H' => by rw [hB] at hs2; rw [hs2.len und_23, List.length_map]
      have j1 : 400 < (A.length : Int) + B.length - 2 := by omega
      simp -dsimp (disch := first | omega | (refine DrawYes.mk ?_; kernel_rfl) | fail) only [go_sem, ↓reduceIte, reduceCtorEq, Nat.reduceEqDiff, Nat.reduceAdd, Nat.reduceLeDiff, Int.reduceLE, Int.reduceLT, Int.reduceBEq, Int.reduceBNe, Int.reduceEq, Nat.reduceBEq, Int.reduceToNat, Nat.reduceLT, Nat.reduceGT, Nat.reduceSub, Nat.reduceMul, Int.reduceAdd, Int.reduceSub, Int.reduceNeg, Int.reduceGE, Int.reduceGT, hA, hB, hC, hn1, hn2, j1]
    · have hn1 : ∀ H', lenD cfg.T H' 23 v1 = some (.int .i64 A.length) := fun H' => by rw [hA] at hs1; rw [hs1.len und_23, List.length_map]
      have hn2 : ∀ H', lenD cfg.T H' 23 v2 = some (.int .i64 B.length) := fun H' => by rw [hB] at hs2; rw [hs2.len und_23, List.length_map]
      have hlen : (A.take (A.length - 1) ++ B.map (Tok.sh (s.length + 1))).length = A.length + B.length - 1 := by simp; omega
      have hn3 : ∀ H', lenD cfg.T H' 23 v3 = some (.int .i64 (A.length + B.length - 1 : Nat)) := fun H' => by rw [hC] at hs3; rw [hs3.len und_23, List.length_map, hlen]
      have j1 : ¬ 400 < (A.length : Int) + B.length - 2 := by omega
      have j2 : (((A.length + B.length - 1 : Nat) : Int) != (A.length : Int) + B.length - 1) = false := by simp; omega
      rw [hA] at hs1
      rw [hB] at hs2
      rw [hC] at hs3
      rcases hs1 with ⟨_, h⟩ | ⟨id1, off1, k1, rfl, _⟩
      · simp at h; subst h; simp at hA2
      rcases hs2 with ⟨_, h⟩ | ⟨id2, off2, k2, rfl, _⟩
      · simp at h; subst h; simp at hB2
      rcases hs3 with ⟨_, h⟩ | ⟨id3, off3, k3, rfl, _⟩
      · have := congrArg List.length h; simp at this; simp [this.2] at hB2
      simp -dsimp (disch := first | omega | (refine DrawYes.mk ?_; kernel_rfl) | fail) only [go_sem, ↓reduceIte, reduceCtorEq, Nat.reduceEqDiff, Nat.reduceAdd, Nat.reduceLeDiff, Int.reduceLE, Int.reduceLT, Int.reduceBEq, Int.reduceBNe, Int.reduceEq, Nat.reduceBEq, Int.reduceToNat, Nat.reduceLT, Nat.reduceGT, Nat.reduceSub, Nat.reduceMul, Int.reduceAdd, Int.reduceSub, Int.reduceNeg, Int.reduceGE, Int.reduceGT, hA, hB, hC, hn1, hn2, hn3, j1, j2]
      simp only at hn1 hn2 hn3
      refine Y_loop (α := Nat) (fun i σ _ => i ≤ A.length + B.length - 1 ∧ σ 0 = .str s ∧ σ 5 = .bool true ∧ σ 6 = .sl id1 3 off1 (A.map Tok.dv) ∧ σ 9 = .sl id2 3 off2 (B.map Tok.dv) ∧ σ 12 = .sl id3 3 off3 ((A.take (A.length - 1) ++ B.map (Tok.sh (s.length + 1))).map Tok.dv) ∧ σ 15 = .int .i64 i) (fun i => A.length + B.length - i) 0 ?_ ?_
      · simp -dsimp (disch := first | omega | (refine DrawYes.mk ?_; kernel_rfl) | fail) only [go_sem, ↓reduceIte, reduceCtorEq, Nat.reduceEqDiff, Nat.reduceAdd, Nat.reduceLeDiff, Int.reduceLE, Int.reduceLT, Int.reduceBEq, Int.reduceBNe, Int.reduceEq, Nat.reduceBEq, Int.reduceToNat, Nat.reduceLT, Nat.reduceGT, Nat.reduceSub, Nat.reduceMul, Int.reduceAdd, Int.reduceSub, Int.reduceNeg, Int.reduceGE, Int.reduceGT, hA, hB, hC]
        simp
      rintro i σ H5 ⟨hi, g0, g5, g6, g9, g12, g15⟩
      by_cases hlt : i < A.length + B.length - 1
      · have k0 : (i : Int) < (A.length + B.length - 1 : Nat) := by omega
        by_cases ha : i < A.length - 1
        · have k1 : (i : Int) < (A.length : Int) - 1 := by omega
          have hiA : i < A.length := by omega
          have ga : (A.map Tok.dv)[i]? = some (.agg [.int .i64 A[i].kind, .str A[i].text, .int .i64 A[i].pos]) := by rw [List.getElem?_map, List.getElem?_eq_getElem hiA]; rfl
          have gc : ((A.take (A.length - 1) ++ B.map (Tok.sh (s.length + 1))).map Tok.dv)[i]? = some (.agg [.int .i64 A[i].kind, .str A[i].text, .int .i64 A[i].pos]) := by
            rw [List.map_append, List.getElem?_append_left (by simp; omega), ← ga, List.map_take, List.getElem?_take_of_lt (by omega)]
          simp -dsimp (disch := first | omega | (refine DrawYes.mk ?_; kernel_rfl) | fail) only [go_sem, ↓reduceIte, reduceCtorEq, Nat.reduceEqDiff, Nat.reduceAdd, Nat.reduceLeDiff, Int.reduceLE, Int.reduceLT, Int.reduceBEq, Int.reduceBNe, Int.reduceEq, Nat.reduceBEq, Int.reduceToNat, Nat.reduceLT, Nat.reduceGT, Nat.reduceSub, Nat.reduceMul, Int.reduceAdd, Int.reduceSub, Int.reduceNeg, Int.reduceGE, Int.reduceGT, g0, g5, g6, g9, g12, g15, hn1, hn2, hn3, k0, k1, ga, gc, cellsEq, cellEq, flat_28]
          repeat refine And.intro (by omega) ?_
          exact ⟨i + 1, ⟨by omega, rfl⟩, by omega⟩
        · have k1 : ¬ (i : Int) < (A.length : Int) - 1 := by omega
          obtain ⟨j, hj⟩ : ∃ j, j = i + 1 - A.length := ⟨_, rfl⟩
          have hjB : j < B.length := by omega
          have hji : (i : Int) - A.length + 1 = (j : Int) := by omega
          have ga : (B.map Tok.dv)[j]? = some (.agg [.int .i64 B[j].kind, .str B[j].text, .int .i64 B[j].pos]) := by rw [List.getElem?_map, List.getElem?_eq_getElem hjB]; rfl
          have gp : B[j].pos ≤ 900 := hBp _ (List.getElem_mem hjB)
          have gc : ((A.take (A.length - 1) ++ B.map (Tok.sh (s.length + 1))).map Tok.dv)[i]? = some (.agg [.int .i64 B[j].kind, .str B[j].text, .int .i64 (B[j].pos + s.length + 1)]) := by
            rw [List.map_append, List.getElem?_append_right (by simp; omega), List.map_map, List.getElem?_map]
            have : i - ((A.take (A.length - 1)).map Tok.dv).length = j := by simp; omega
            rw [this, List.getElem?_eq_getElem hjB]
            simp [Tok.dv, Tok.sh]
            omega
          simp -dsimp (disch := first | omega | (refine DrawYes.mk ?_; kernel_rfl) | fail) only [go_sem, ↓reduceIte, reduceCtorEq, Nat.reduceEqDiff, Nat.reduceAdd, Nat.reduceLeDiff, Int.reduceLE, Int.reduceLT, Int.reduceBEq, Int.reduceBNe, Int.reduceEq, Nat.reduceBEq, Int.reduceToNat, Nat.reduceLT, Nat.reduceGT, Nat.reduceSub, Nat.reduceMul, Int.reduceAdd, Int.reduceSub, Int.reduceNeg, Int.reduceGE, Int.reduceGT, g0, g5, g6, g9, g12, g15, hn1, hn2, hn3, k0, k1, hji, ga, gc, cellsEq, cellEq, flat_28]
          repeat refine And.intro (by omega) ?_
          exact ⟨i + 1, ⟨by omega, rfl⟩, by omega⟩
      · have k0 : ¬ (i : Int) < (A.length + B.length - 1 : Nat) := by omega
        simp -dsimp (disch := first | omega | (refine DrawYes.mk ?_; kernel_rfl) | fail) only [go_sem, ↓reduceIte, reduceCtorEq, Nat.reduceEqDiff, Nat.reduceAdd, Nat.reduceLeDiff, Int.reduceLE, Int.reduceLT, Int.reduceBEq, Int.reduceBNe, Int.reduceEq, Nat.reduceBEq, Int.reduceToNat, Nat.reduceLT, Nat.reduceGT, Nat.reduceSub, Nat.reduceMul, Int.reduceAdd, Int.reduceSub, Int.reduceNeg, Int.reduceGE, Int.reduceGT, g0, g5, g6, g9, g12, g15, hn1, hn2, hn3, k0]
end Go.Proofs.Ytdlcfkhpcppejaa.D
