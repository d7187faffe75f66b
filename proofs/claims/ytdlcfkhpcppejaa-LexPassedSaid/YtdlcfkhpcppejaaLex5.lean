import Derived.Test.YtdlcfkhpcppejaaLex4
namespace Go.Proofs.Ytdlcfkhpcppejaa.D
open Go
set_option linter.unusedVariables false
set_option linter.unusedSimpArgs false
set_option maxRecDepth 100000

theorem shown_lex : lexAll [108, 101, 116, 32, 97, 32, 61, 32, 34, 120, 34, 59] = ([⟨1, [108, 101, 116], 0⟩, ⟨1, [97], 4⟩, ⟨4, [61], 6⟩, ⟨3, [120], 8⟩, ⟨4, [59], 11⟩, ⟨0, [], 12⟩], 0, 0) := by decide
theorem shown_ok {H : DH} : WC cfg 7 [] H fun v H' => v = .bool true ∧ Ext H H' := by
  refine WC_of (show Has cfg 7 44 [.tmp 0] _ from ⟨by kernel_rfl, Try.f7, Try.func7, rfl, rfl, rfl, by kernel_rfl⟩) (by simp) ?_
  simp -dsimp (disch := first | omega | (refine DrawYes.mk ?_; kernel_rfl) | fail) only [go_sem, ↓reduceIte, reduceCtorEq, Nat.reduceEqDiff, Nat.reduceAdd, Nat.reduceLeDiff, Int.reduceLE, Int.reduceLT, Int.reduceBEq, Int.reduceBNe, Int.reduceEq, Nat.reduceBEq, Int.reduceToNat, Nat.reduceLT, Nat.reduceGT, Nat.reduceSub, Nat.reduceMul, Int.reduceAdd, Int.reduceSub, Int.reduceNeg, Int.reduceGE, Int.reduceGT]
  refine call (all_ok (by simp)) ?_
  rw [shown_lex]
  rintro _ H1 ⟨hE, v', rfl, hs⟩
  have hln := hs.len (H' := H1) und_23
  rcases hs with ⟨rfl, hs⟩ | ⟨id, off, k, rfl, hs⟩
  · cases hs
  simp only [List.map_cons, List.map_nil, Tok.dv]
  simp -dsimp (disch := first | omega | (refine DrawYes.mk ?_; kernel_rfl) | fail) only [go_sem, ↓reduceIte, reduceCtorEq, Nat.reduceEqDiff, Nat.reduceAdd, Nat.reduceLeDiff, Int.reduceLE, Int.reduceLT, Int.reduceBEq, Int.reduceBNe, Int.reduceEq, Nat.reduceBEq, Int.reduceToNat, Nat.reduceLT, Nat.reduceGT, Nat.reduceSub, Nat.reduceMul, Int.reduceAdd, Int.reduceSub, Int.reduceNeg, Int.reduceGE, Int.reduceGT]
  exact hE
def wordsR (k j : Nat) : List Tok × Nat × Nat := if 12 < k then ([], 0, 13) else if 9 < j then ([], k + 1, 12) else ([⟨1, List.replicate k 97, 0⟩, ⟨4, [61], k⟩, ⟨2, List.replicate j 55, k + 1⟩, ⟨0, [], k + 1 + j⟩], 0, 0)
theorem words_all : ((List.range 21).all fun k => (List.range 16).all fun j => k == 0 || j == 0 || decide (lexAll (List.replicate k 97 ++ [61] ++ List.replicate j 55) = wordsR k j)) = true := by kernel_rfl
theorem words_law (k : Nat) (hk : k < 21) (j : Nat) (hj : j < 16) (h0 : 0 < k) (h1 : 0 < j) : lexAll (List.replicate k 97 ++ [61] ++ List.replicate j 55) = wordsR k j := by
  have := List.all_eq_true.1 (List.all_eq_true.1 words_all k (by simpa using hk)) j (by simpa using hj)
  simp only [Bool.or_eq_true, beq_iff_eq, decide_eq_true_eq] at this
  rcases this with (h | h) | h
  · omega
  · omega
  · exact h
theorem lexWords_ok {a b : UInt8} {H : DH} : WC cfg 5 [byteDV a, byteDV b] H fun v H' => v = .bool true := by
  refine WC_of (show Has cfg 5 128 [.tmp 4] _ from ⟨by kernel_rfl, Try.f5, Try.func5, rfl, rfl, rfl, by kernel_rfl⟩) (by simp) ?_
  have ha := a.toNat_lt
  have hb := b.toNat_lt
  have ra : ((a.toNat : Int).tmod 20) = ((a.toNat % 20 : Nat) : Int) := rfl
  have rb : ((b.toNat : Int).tmod 15) = ((b.toNat % 15 : Nat) : Int) := rfl
  obtain ⟨n, hn⟩ : ∃ n : Nat, n = 1 + a.toNat % 20 := ⟨_, rfl⟩
  obtain ⟨m, hm⟩ : ∃ m : Nat, m = 1 + b.toNat % 15 := ⟨_, rfl⟩
  have rn : (1 : Int) + ((a.toNat % 20 : Nat) : Int) = (n : Int) := by omega
  have rm : (1 : Int) + ((b.toNat % 15 : Nat) : Int) = (m : Int) := by omega
  have hn20 : n ≤ 20 := by omega
  have hm15 : m ≤ 15 := by omega
  simp -dsimp (disch := first | omega | (refine DrawYes.mk ?_; kernel_rfl) | fail) only [go_sem, ↓reduceIte, reduceCtorEq, Nat.reduceEqDiff, Nat.reduceAdd, Nat.reduceLeDiff, Int.reduceLE, Int.reduceLT, Int.reduceBEq, Int.reduceBNe, Int.reduceEq, Nat.reduceBEq, Int.reduceToNat, Nat.reduceLT, Nat.reduceGT, Nat.reduceSub, Nat.reduceMul, Int.reduceAdd, Int.reduceSub, Int.reduceNeg, Int.reduceGE, Int.reduceGT]
  refine call shown_ok ?_
  rintro _ H1 ⟨rfl, hE⟩
  simp -dsimp (disch := first | omega | (refine DrawYes.mk ?_; kernel_rfl) | fail) only [go_sem, ↓reduceIte, reduceCtorEq, Nat.reduceEqDiff, Nat.reduceAdd, Nat.reduceLeDiff, Int.reduceLE, Int.reduceLT, Int.reduceBEq, Int.reduceBNe, Int.reduceEq, Nat.reduceBEq, Int.reduceToNat, Nat.reduceLT, Nat.reduceGT, Nat.reduceSub, Nat.reduceMul, Int.reduceAdd, Int.reduceSub, Int.reduceNeg, Int.reduceGE, Int.reduceGT, ra, rb, rn, rm]
  refine Y_loop (α := Nat) (fun k σ _ => k ≤ n ∧ σ 8 = .str (List.replicate k 97) ∧ σ 9 = .int .i64 k ∧ σ 6 = .int .i64 n ∧ σ 7 = .int .i64 m ∧ σ 5 = .bool true) (fun k => n - k) 0 ?_ ?_
  · simp -dsimp (disch := first | omega | (refine DrawYes.mk ?_; kernel_rfl) | fail) only [go_sem, ↓reduceIte, reduceCtorEq, Nat.reduceEqDiff, Nat.reduceAdd, Nat.reduceLeDiff, Int.reduceLE, Int.reduceLT, Int.reduceBEq, Int.reduceBNe, Int.reduceEq, Nat.reduceBEq, Int.reduceToNat, Nat.reduceLT, Nat.reduceGT, Nat.reduceSub, Nat.reduceMul, Int.reduceAdd, Int.reduceSub, Int.reduceNeg, Int.reduceGE, Int.reduceGT]
    simp
  rintro k σ H2 ⟨hk, h8, h9, h6, h7, h5⟩
  by_cases hlt : k < n
  · have i1 : (k : Int) < n := by omega
    simp -dsimp (disch := first | omega | (refine DrawYes.mk ?_; kernel_rfl) | fail) only [go_sem, ↓reduceIte, reduceCtorEq, Nat.reduceEqDiff, Nat.reduceAdd, Nat.reduceLeDiff, Int.reduceLE, Int.reduceLT, Int.reduceBEq, Int.reduceBNe, Int.reduceEq, Nat.reduceBEq, Int.reduceToNat, Nat.reduceLT, Nat.reduceGT, Nat.reduceSub, Nat.reduceMul, Int.reduceAdd, Int.reduceSub, Int.reduceNeg, Int.reduceGE, Int.reduceGT, h8, h9, h6, h7, h5, i1]
    refine ⟨by simp; omega, k + 1, ⟨by omega, by rw [List.replicate_succ'], rfl⟩, by omega⟩
  have i1 : ¬ (k : Int) < n := by omega
  obtain rfl : k = n := by omega
  simp -dsimp (disch := first | omega | (refine DrawYes.mk ?_; kernel_rfl) | fail) only [go_sem, ↓reduceIte, reduceCtorEq, Nat.reduceEqDiff, Nat.reduceAdd, Nat.reduceLeDiff, Int.reduceLE, Int.reduceLT, Int.reduceBEq, Int.reduceBNe, Int.reduceEq, Nat.reduceBEq, Int.reduceToNat, Nat.reduceLT, Nat.reduceGT, Nat.reduceSub, Nat.reduceMul, Int.reduceAdd, Int.reduceSub, Int.reduceNeg, Int.reduceGE, Int.reduceGT, h8, h9, h6, h7, h5, i1]
  refine Y_loop (α := Nat) (fun j σ _ => j ≤ m ∧ σ 10 = .str (List.replicate j 55) ∧ σ 11 = .int .i64 j ∧ σ 8 = .str (List.replicate k 97) ∧ σ 6 = .int .i64 k ∧ σ 7 = .int .i64 m ∧ σ 5 = .bool true) (fun j => m - j) 0 ?_ ?_
  · simp -dsimp (disch := first | omega | (refine DrawYes.mk ?_; kernel_rfl) | fail) only [go_sem, ↓reduceIte, reduceCtorEq, Nat.reduceEqDiff, Nat.reduceAdd, Nat.reduceLeDiff, Int.reduceLE, Int.reduceLT, Int.reduceBEq, Int.reduceBNe, Int.reduceEq, Nat.reduceBEq, Int.reduceToNat, Nat.reduceLT, Nat.reduceGT, Nat.reduceSub, Nat.reduceMul, Int.reduceAdd, Int.reduceSub, Int.reduceNeg, Int.reduceGE, Int.reduceGT, h8, h9, h6, h7, h5]
    simp
  clear h8 h9 h6 h7 h5 i1
  rintro j σ H3 ⟨hj, h10, h11, h8, h6, h7, h5⟩
  by_cases hlt : j < m
  · have i1 : (j : Int) < m := by omega
    simp -dsimp (disch := first | omega | (refine DrawYes.mk ?_; kernel_rfl) | fail) only [go_sem, ↓reduceIte, reduceCtorEq, Nat.reduceEqDiff, Nat.reduceAdd, Nat.reduceLeDiff, Int.reduceLE, Int.reduceLT, Int.reduceBEq, Int.reduceBNe, Int.reduceEq, Nat.reduceBEq, Int.reduceToNat, Nat.reduceLT, Nat.reduceGT, Nat.reduceSub, Nat.reduceMul, Int.reduceAdd, Int.reduceSub, Int.reduceNeg, Int.reduceGE, Int.reduceGT, h8, h10, h11, h6, h7, h5, i1]
    refine ⟨by simp; omega, j + 1, ⟨by omega, by rw [List.replicate_succ'], rfl⟩, by omega⟩
  have i1 : ¬ (j : Int) < m := by omega
  obtain rfl : j = m := by omega
  simp -dsimp (disch := first | omega | (refine DrawYes.mk ?_; kernel_rfl) | fail) only [go_sem, ↓reduceIte, reduceCtorEq, Nat.reduceEqDiff, Nat.reduceAdd, Nat.reduceLeDiff, Int.reduceLE, Int.reduceLT, Int.reduceBEq, Int.reduceBNe, Int.reduceEq, Nat.reduceBEq, Int.reduceToNat, Nat.reduceLT, Nat.reduceGT, Nat.reduceSub, Nat.reduceMul, Int.reduceAdd, Int.reduceSub, Int.reduceNeg, Int.reduceGE, Int.reduceGT, h8, h10, h11, h6, h7, h5, i1]
  refine ⟨by simp; omega, by simp; omega, call (all_ok (by simp; omega)) ?_⟩
  rintro _ H4 ⟨hE4, v', rfl, hs⟩
  have hlaw := words_law k (by omega) j (by omega) (by omega) (by omega)
  unfold wordsR at hlaw
  by_cases c1 : 12 < k
  · have j1 : 12 < (k : Int) := by omega
    rw [if_pos c1] at hlaw
    rw [hlaw] at hs ⊢
    have hv : v' = .nils := by rcases hs with ⟨h, _⟩ | ⟨_, _, _, _, _, _, _, _, h⟩; exact h; exact absurd rfl h
    subst hv
    simp -dsimp (disch := first | omega | (refine DrawYes.mk ?_; kernel_rfl) | fail) only [go_sem, ↓reduceIte, reduceCtorEq, Nat.reduceEqDiff, Nat.reduceAdd, Nat.reduceLeDiff, Int.reduceLE, Int.reduceLT, Int.reduceBEq, Int.reduceBNe, Int.reduceEq, Nat.reduceBEq, Int.reduceToNat, Nat.reduceLT, Nat.reduceGT, Nat.reduceSub, Nat.reduceMul, Int.reduceAdd, Int.reduceSub, Int.reduceNeg, Int.reduceGE, Int.reduceGT, h8, h10, h11, h6, h7, h5, j1]
  · have j1 : ¬ 12 < (k : Int) := by omega
    rw [if_neg c1] at hlaw
    by_cases c2 : 9 < j
    · have j2 : 9 < (j : Int) := by omega
      rw [if_pos c2] at hlaw
      rw [hlaw]
      simp -dsimp (disch := first | omega | (refine DrawYes.mk ?_; kernel_rfl) | fail) only [go_sem, ↓reduceIte, reduceCtorEq, Nat.reduceEqDiff, Nat.reduceAdd, Nat.reduceLeDiff, Int.reduceLE, Int.reduceLT, Int.reduceBEq, Int.reduceBNe, Int.reduceEq, Nat.reduceBEq, Int.reduceToNat, Nat.reduceLT, Nat.reduceGT, Nat.reduceSub, Nat.reduceMul, Int.reduceAdd, Int.reduceSub, Int.reduceNeg, Int.reduceGE, Int.reduceGT, h8, h10, h11, h6, h7, h5, j1, j2]
      refine ⟨by simp; omega, by simp; omega, call (all_ok (by simp; omega)) ?_⟩
      rintro _ H5 ⟨hE5, v'', rfl, hs5⟩
      rw [hlaw]
      simp -dsimp (disch := first | omega | (refine DrawYes.mk ?_; kernel_rfl) | fail) only [go_sem, ↓reduceIte, reduceCtorEq, Nat.reduceEqDiff, Nat.reduceAdd, Nat.reduceLeDiff, Int.reduceLE, Int.reduceLT, Int.reduceBEq, Int.reduceBNe, Int.reduceEq, Nat.reduceBEq, Int.reduceToNat, Nat.reduceLT, Nat.reduceGT, Nat.reduceSub, Nat.reduceMul, Int.reduceAdd, Int.reduceSub, Int.reduceNeg, Int.reduceGE, Int.reduceGT, h8, h10, h11, h6, h7, h5, j1, j2]
      refine congrArg DV.bool ?_
      rw [beq_iff_eq]; omega
    · have j2 : ¬ 9 < (j : Int) := by omega
      rw [if_neg c2] at hlaw
      rw [hlaw] at hs ⊢
      rcases hs with ⟨rfl, hs⟩ | ⟨id, off, _, rfl, hs⟩
      · cases hs
      simp only [List.map_cons, List.map_nil, Tok.dv]
      simp -dsimp (disch := first | omega | (refine DrawYes.mk ?_; kernel_rfl) | fail) only [go_sem, ↓reduceIte, reduceCtorEq, Nat.reduceEqDiff, Nat.reduceAdd, Nat.reduceLeDiff, Int.reduceLE, Int.reduceLT, Int.reduceBEq, Int.reduceBNe, Int.reduceEq, Nat.reduceBEq, Int.reduceToNat, Nat.reduceLT, Nat.reduceGT, Nat.reduceSub, Nat.reduceMul, Int.reduceAdd, Int.reduceSub, Int.reduceNeg, Int.reduceGE, Int.reduceGT, h8, h10, h11, h6, h7, h5, j1, j2]
      refine congrArg DV.bool ?_
      rw [beq_iff_eq]; omega
end Go.Proofs.Ytdlcfkhpcppejaa.D
