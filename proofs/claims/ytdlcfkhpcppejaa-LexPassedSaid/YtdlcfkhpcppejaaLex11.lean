import Derived.Test.YtdlcfkhpcppejaaLex10
namespace Go.Proofs.Ytdlcfkhpcppejaa.D
open Go
set_option linter.unusedVariables false
set_option linter.unusedSimpArgs false
set_option maxRecDepth 100000

theorem lexPassed_long {s t : List UInt8} {b : UInt8} {H : DH} (h1 : 900 < s.length) : WC cfg 4 [.str s, .str t, byteDV b] H fun v H' => v = .bool true := by
  refine WC_of (show Has cfg 4 138 [.tmp 6] _ from ⟨by kernel_rfl, Try.f4, Try.func4, rfl, rfl, rfl, by kernel_rfl⟩) (by simp) ?_
  simp -dsimp (disch := first | omega | (refine DrawYes.mk ?_; kernel_rfl) | fail) only [go_sem, ↓reduceIte, reduceCtorEq, Nat.reduceEqDiff, Nat.reduceAdd, Nat.reduceLeDiff, Int.reduceLE, Int.reduceLT, Int.reduceBEq, Int.reduceBNe, Int.reduceEq, Nat.reduceBEq, Int.reduceToNat, Nat.reduceLT, Nat.reduceGT, Nat.reduceSub, Nat.reduceMul, Int.reduceAdd, Int.reduceSub, Int.reduceNeg, Int.reduceGE, Int.reduceGT]
  refine call shown_ok ?_
  rintro _ H1 ⟨rfl, hE⟩
  have i1 : 900 < (s.length : Int) := by omega
  have q1 : 900 ≤ (s.length : Int) := by omega
  obtain ⟨S, hS⟩ : ∃ S, s.take 900 = S := ⟨_, rfl⟩
  have hSl : S.length ≤ 900 := by rw [← hS]; simp; omega
  simp -dsimp (disch := first | omega | (refine DrawYes.mk ?_; kernel_rfl) | fail) only [go_sem, ↓reduceIte, reduceCtorEq, Nat.reduceEqDiff, Nat.reduceAdd, Nat.reduceLeDiff, Int.reduceLE, Int.reduceLT, Int.reduceBEq, Int.reduceBNe, Int.reduceEq, Nat.reduceBEq, Int.reduceToNat, Nat.reduceLT, Nat.reduceGT, Nat.reduceSub, Nat.reduceMul, Int.reduceAdd, Int.reduceSub, Int.reduceNeg, Int.reduceGE, Int.reduceGT, i1, q1, hS]
  refine Y_loop (α := List UInt8 × Nat) (fun a σ _ => a.2 ≤ t.length ∧ a.2 ≤ 100 ∧ a.1.length ≤ a.2 ∧ (10 : UInt8) ∉ a.1 ∧ σ 0 = .str S ∧ σ 1 = .str t ∧ σ 2 = .int .u8 b.toNat ∧ σ 7 = .bool true ∧ σ 8 = .str (35 :: a.1) ∧ σ 9 = .int .i64 a.2) (fun a => t.length - a.2) ([], 0) ?_ ?_
  · simp -dsimp (disch := first | omega | (refine DrawYes.mk ?_; kernel_rfl) | fail) only [go_sem, ↓reduceIte, reduceCtorEq, Nat.reduceEqDiff, Nat.reduceAdd, Nat.reduceLeDiff, Int.reduceLE, Int.reduceLT, Int.reduceBEq, Int.reduceBNe, Int.reduceEq, Nat.reduceBEq, Int.reduceToNat, Nat.reduceLT, Nat.reduceGT, Nat.reduceSub, Nat.reduceMul, Int.reduceAdd, Int.reduceSub, Int.reduceNeg, Int.reduceGE, Int.reduceGT]
    simp
  rintro ⟨x, k⟩ σ H2 ⟨hk, hk1, hxl, hx, g0, g1, g2, g7, g8, g9⟩
  simp only at hk hk1 hxl hx g0 g1 g2 g7 g8 g9
  by_cases hlt : k < t.length ∧ k < 100
  · have k0 : (k : Int) < t.length := by omega
    have k1 : (k : Int) < 100 := by omega
    have hg : t[k]? = some t[k] := List.getElem?_eq_getElem hlt.1
    have hsl : (t.take (k + 1)).drop k = [t[k]] := by
      rw [List.take_add_one, hg, List.drop_append_of_le_length (by simp; omega), List.drop_of_length_le (by simp; omega)]; rfl
    generalize t[k] = c at hg hsl
    by_cases hc : c.toNat = 10
    · have j1 : ((c.toNat : Int) != 10) = false := by simp; omega
      simp -dsimp (disch := first | omega | (refine DrawYes.mk ?_; kernel_rfl) | fail) only [go_sem, ↓reduceIte, reduceCtorEq, Nat.reduceEqDiff, Nat.reduceAdd, Nat.reduceLeDiff, Int.reduceLE, Int.reduceLT, Int.reduceBEq, Int.reduceBNe, Int.reduceEq, Nat.reduceBEq, Int.reduceToNat, Nat.reduceLT, Nat.reduceGT, Nat.reduceSub, Nat.reduceMul, Int.reduceAdd, Int.reduceSub, Int.reduceNeg, Int.reduceGE, Int.reduceGT, g0, g1, g2, g7, g8, g9, k0, k1, hg, j1]
      exact ⟨by omega, (x, k + 1), ⟨by simp only; omega, by simp only; omega, by simp only; omega, hx, rfl, rfl⟩, by simp only; omega⟩
    · have j1 : ((c.toNat : Int) != 10) = true := by simp; omega
      have ht : ((k : Int) + 1).toNat = k + 1 := by omega
      simp -dsimp (disch := first | omega | (refine DrawYes.mk ?_; kernel_rfl) | fail) only [go_sem, ↓reduceIte, reduceCtorEq, Nat.reduceEqDiff, Nat.reduceAdd, Nat.reduceLeDiff, Int.reduceLE, Int.reduceLT, Int.reduceBEq, Int.reduceBNe, Int.reduceEq, Nat.reduceBEq, Int.reduceToNat, Nat.reduceLT, Nat.reduceGT, Nat.reduceSub, Nat.reduceMul, Int.reduceAdd, Int.reduceSub, Int.reduceNeg, Int.reduceGE, Int.reduceGT, g0, g1, g2, g7, g8, g9, k0, k1, hg, j1, ht, hsl]
      refine ⟨by omega, ⟨by omega, by omega⟩, ⟨by omega, by omega⟩, by omega, (x ++ [c], k + 1), ⟨by simp only; omega, by simp only; omega, by simp; omega, ?_, rfl, rfl⟩, by simp only; omega⟩
      simp only [List.mem_append, List.mem_singleton, not_or]
      refine ⟨hx, ?_⟩
      rintro rfl
      exact hc rfl
  have key : ∀ P : Prop, ((¬ (k : Int) < t.length → P) ∧ ((k : Int) < t.length → ¬ (k : Int) < 100 → P)) → P := by
    intro P hP
    by_cases q : (k : Int) < t.length
    · exact hP.2 q (by omega)
    · exact hP.1 q
  refine key _ ⟨fun k0 => ?_, fun k0 k1 => ?_⟩
  · simp -dsimp (disch := first | omega | (refine DrawYes.mk ?_; kernel_rfl) | fail) only [go_sem, ↓reduceIte, reduceCtorEq, Nat.reduceEqDiff, Nat.reduceAdd, Nat.reduceLeDiff, Int.reduceLE, Int.reduceLT, Int.reduceBEq, Int.reduceBNe, Int.reduceEq, Nat.reduceBEq, Int.reduceToNat, Nat.reduceLT, Nat.reduceGT, Nat.reduceSub, Nat.reduceMul, Int.reduceAdd, Int.reduceSub, Int.reduceNeg, Int.reduceGE, Int.reduceGT, g0, g1, g2, g7, g8, g9, k0]
    obtain ⟨g, hgd⟩ : ∃ g : Nat, g = b.toNat % 16 := ⟨_, rfl⟩
    have hand : IntKind.u8.wrap ((BitVec.ofInt IntKind.u8.bits (b.toNat : Int) &&& BitVec.ofInt IntKind.u8.bits 15).toNat : Int) = (g : Int) := by rw [hgd]; exact and15 b
    have hg15 : g ≤ 15 := by omega
    refine ⟨by omega, Y_loop (α := List UInt8 × Nat) (fun a σ _ => a.2 ≤ g ∧ a.1.length = a.2 ∧ (∀ c ∈ a.1, c ∈ blanksL) ∧ σ 0 = .str S ∧ σ 2 = .int .u8 b.toNat ∧ σ 7 = .bool true ∧ σ 8 = .str (35 :: (x ++ [10] ++ a.1)) ∧ σ 10 = .int .i64 a.2) (fun a => g - a.2) ([], 0) ?_ ?_⟩
    · simp -dsimp (disch := first | omega | (refine DrawYes.mk ?_; kernel_rfl) | fail) only [go_sem, ↓reduceIte, reduceCtorEq, Nat.reduceEqDiff, Nat.reduceAdd, Nat.reduceLeDiff, Int.reduceLE, Int.reduceLT, Int.reduceBEq, Int.reduceBNe, Int.reduceEq, Nat.reduceBEq, Int.reduceToNat, Nat.reduceLT, Nat.reduceGT, Nat.reduceSub, Nat.reduceMul, Int.reduceAdd, Int.reduceSub, Int.reduceNeg, Int.reduceGE, Int.reduceGT, g0, g2, g7]
      simp
    rintro ⟨y, j⟩ σ H3 ⟨hj, hyl, hy, f0, f2, f7, f8, f10⟩
    simp only at hj hyl hy f0 f2 f7 f8 f10
    by_cases hjg : j < g
    · have m0 : (j : Int) < g := by omega
      have hm4 : ((j : Int).tmod 4) = ((j % 4 : Nat) : Int) := rfl
      have ht4 : (((j % 4 : Nat) : Int) + 1).toNat = j % 4 + 1 := by omega
      obtain ⟨c, hcs, hcb⟩ : ∃ c : UInt8, (32 :: ([9, 13, 10] : List UInt8).take (j % 4)).drop (j % 4) = [c] ∧ c ∈ blanksL := by
        have : j % 4 < 4 := Nat.mod_lt _ (by decide)
        generalize j % 4 = q at this
        match q, this with
        | 0, _ => exact ⟨32, rfl, by decide⟩
        | 1, _ => exact ⟨9, rfl, by decide⟩
        | 2, _ => exact ⟨13, rfl, by decide⟩
        | 3, _ => exact ⟨10, rfl, by decide⟩
      simp -dsimp (disch := first | omega | (refine DrawYes.mk ?_; kernel_rfl) | fail) only [go_sem, ↓reduceIte, reduceCtorEq, Nat.reduceEqDiff, Nat.reduceAdd, Nat.reduceLeDiff, Int.reduceLE, Int.reduceLT, Int.reduceBEq, Int.reduceBNe, Int.reduceEq, Nat.reduceBEq, Int.reduceToNat, Nat.reduceLT, Nat.reduceGT, Nat.reduceSub, Nat.reduceMul, Int.reduceAdd, Int.reduceSub, Int.reduceNeg, Int.reduceGE, Int.reduceGT, f0, f2, f7, f8, f10, hand, m0, hm4, ht4, hcs]
      refine ⟨⟨by omega, by omega⟩, ⟨by omega, by omega⟩, by simp; omega, (y ++ [c], j + 1), ⟨by simp only; omega, by simp [hyl], ?_, by simp, rfl⟩, by simp only; omega⟩
      intro d hd
      rcases List.mem_append.1 hd with hd | hd
      · exact hy d hd
      · simp at hd; subst hd; exact hcb
    have m0 : ¬ (j : Int) < g := by omega
    simp -dsimp (disch := first | omega | (refine DrawYes.mk ?_; kernel_rfl) | fail) only [go_sem, ↓reduceIte, reduceCtorEq, Nat.reduceEqDiff, Nat.reduceAdd, Nat.reduceLeDiff, Int.reduceLE, Int.reduceLT, Int.reduceBEq, Int.reduceBNe, Int.reduceEq, Nat.reduceBEq, Int.reduceToNat, Nat.reduceLT, Nat.reduceGT, Nat.reduceSub, Nat.reduceMul, Int.reduceAdd, Int.reduceSub, Int.reduceNeg, Int.reduceGE, Int.reduceGT, f0, f2, f7, f8, f10, hand, m0]
    refine call (all_ok (by omega)) ?_
    rintro _ H4 ⟨hE4, v1, rfl, hs1⟩
    simp -dsimp (disch := first | omega | (refine DrawYes.mk ?_; kernel_rfl) | fail) only [go_sem, ↓reduceIte, reduceCtorEq, Nat.reduceEqDiff, Nat.reduceAdd, Nat.reduceLeDiff, Int.reduceLE, Int.reduceLT, Int.reduceBEq, Int.reduceBNe, Int.reduceEq, Nat.reduceBEq, Int.reduceToNat, Nat.reduceLT, Nat.reduceGT, Nat.reduceSub, Nat.reduceMul, Int.reduceAdd, Int.reduceSub, Int.reduceNeg, Int.reduceGE, Int.reduceGT, f0, f2, f7, f8, f10]
    refine ⟨by simp; omega, call (all_ok (by simp; omega)) ?_⟩
    rintro _ H5 ⟨hE5, v2, rfl, hs2⟩
    have L := passed_law (s := S) hx (by omega) hy (by omega) (by omega)
    obtain ⟨G, hG⟩ : ∃ G, G = (35 :: (x ++ [10] ++ y)).length := ⟨_, rfl⟩
    have hGl : (35 :: x ++ [10] ++ y).length = G := by rw [hG]; rfl
    have hGe : 35 :: x ++ [10] ++ y ++ S = 35 :: (x ++ [10] ++ y ++ S) := rfl
    have hG3 : (x ++ [10] ++ y).length + 1 = G := by rw [hG]; rfl
    have hG2 : G ≤ 117 := by rw [hG]; simp; omega
    rw [hGl, hGe] at L
    rcases L with ⟨p, e, hp, e0, hA, ⟨e4, hC⟩ | ⟨e4, hC⟩⟩ | ⟨A, hAp, hA1, hA2, hA, hC⟩
    · rw [hA] at hs1
      rw [hC] at hs2
      have hn1 : ∀ H', lenD cfg.T H' 23 v1 = some (.int .i64 0) := fun H' => by rw [hs1.len und_23]; rfl
      have hn2 : ∀ H', lenD cfg.T H' 23 v2 = some (.int .i64 0) := fun H' => by rw [hs2.len und_23]; rfl
      subst e4
      simp -dsimp (disch := first | omega | (refine DrawYes.mk ?_; kernel_rfl) | fail) only [go_sem, ↓reduceIte, reduceCtorEq, Nat.reduceEqDiff, Nat.reduceAdd, Nat.reduceLeDiff, Int.reduceLE, Int.reduceLT, Int.reduceBEq, Int.reduceBNe, Int.reduceEq, Nat.reduceBEq, Int.reduceToNat, Nat.reduceLT, Nat.reduceGT, Nat.reduceSub, Nat.reduceMul, Int.reduceAdd, Int.reduceSub, Int.reduceNeg, Int.reduceGE, Int.reduceGT, f0, f2, f7, f8, f10, hA, hC, hn1, hn2, hG3]
      refine Y_loop1 ?_
      simp -dsimp (disch := first | omega | (refine DrawYes.mk ?_; kernel_rfl) | fail) only [go_sem, ↓reduceIte, reduceCtorEq, Nat.reduceEqDiff, Nat.reduceAdd, Nat.reduceLeDiff, Int.reduceLE, Int.reduceLT, Int.reduceBEq, Int.reduceBNe, Int.reduceEq, Nat.reduceBEq, Int.reduceToNat, Nat.reduceLT, Nat.reduceGT, Nat.reduceSub, Nat.reduceMul, Int.reduceAdd, Int.reduceSub, Int.reduceNeg, Int.reduceGE, Int.reduceGT, f0, f2, f7, f8, f10, hA, hC, hn1, hn2, hG3]
    · rw [hA] at hs1
      rw [hC] at hs2
      have hn1 : ∀ H', lenD cfg.T H' 23 v1 = some (.int .i64 0) := fun H' => by rw [hs1.len und_23]; rfl
      have hn2 : ∀ H', lenD cfg.T H' 23 v2 = some (.int .i64 0) := fun H' => by rw [hs2.len und_23]; rfl
      have q1 : ((e : Int) != 0) = true := by simp; omega
      have q2 : ((e : Int) == 0) = false := by simp; omega
      have q3 : ((e : Int) != 4) = true := by simp; omega
      have q4 : (((p + G : Nat) : Int) != (p : Int) + G) = false := by simp
      simp -dsimp (disch := first | omega | (refine DrawYes.mk ?_; kernel_rfl) | fail) only [go_sem, ↓reduceIte, reduceCtorEq, Nat.reduceEqDiff, Nat.reduceAdd, Nat.reduceLeDiff, Int.reduceLE, Int.reduceLT, Int.reduceBEq, Int.reduceBNe, Int.reduceEq, Nat.reduceBEq, Int.reduceToNat, Nat.reduceLT, Nat.reduceGT, Nat.reduceSub, Nat.reduceMul, Int.reduceAdd, Int.reduceSub, Int.reduceNeg, Int.reduceGE, Int.reduceGT, f0, f2, f7, f8, f10, hA, hC, hn1, hn2, hG3, q1, q2, q3, q4]
      refine Y_loop1 ?_
      simp -dsimp (disch := first | omega | (refine DrawYes.mk ?_; kernel_rfl) | fail) only [go_sem, ↓reduceIte, reduceCtorEq, Nat.reduceEqDiff, Nat.reduceAdd, Nat.reduceLeDiff, Int.reduceLE, Int.reduceLT, Int.reduceBEq, Int.reduceBNe, Int.reduceEq, Nat.reduceBEq, Int.reduceToNat, Nat.reduceLT, Nat.reduceGT, Nat.reduceSub, Nat.reduceMul, Int.reduceAdd, Int.reduceSub, Int.reduceNeg, Int.reduceGE, Int.reduceGT, f0, f2, f7, f8, f10, hA, hC, hn1, hn2, hG3]
    · rw [hA] at hs1
      rw [hC] at hs2
      have hn1 : ∀ H', lenD cfg.T H' 23 v1 = some (.int .i64 A.length) := fun H' => by rw [hs1.len und_23, List.length_map]
      have hn2 : ∀ H', lenD cfg.T H' 23 v2 = some (.int .i64 A.length) := fun H' => by rw [hs2.len und_23, List.length_map, List.length_map]
      rcases hs1 with ⟨_, h⟩ | ⟨id1, off1, k1, rfl, _⟩
      · simp at h; subst h; simp at hA2
      rcases hs2 with ⟨_, h⟩ | ⟨id2, off2, k2, rfl, _⟩
      · have := congrArg List.length h; simp at this; subst this; simp at hA2
      simp -dsimp (disch := first | omega | (refine DrawYes.mk ?_; kernel_rfl) | fail) only [go_sem, ↓reduceIte, reduceCtorEq, Nat.reduceEqDiff, Nat.reduceAdd, Nat.reduceLeDiff, Int.reduceLE, Int.reduceLT, Int.reduceBEq, Int.reduceBNe, Int.reduceEq, Nat.reduceBEq, Int.reduceToNat, Nat.reduceLT, Nat.reduceGT, Nat.reduceSub, Nat.reduceMul, Int.reduceAdd, Int.reduceSub, Int.reduceNeg, Int.reduceGE, Int.reduceGT, f0, f2, f7, f8, f10, hA, hC, hn1, hn2, hG3]
      simp only at hn1 hn2
      refine Y_loop (α := Nat) (fun i σ _ => i ≤ A.length ∧ σ 7 = .bool true ∧ σ 8 = .str (35 :: (x ++ [10] ++ y)) ∧ σ 11 = .sl id1 3 off1 (A.map Tok.dv) ∧ σ 14 = .sl id2 3 off2 ((A.map (Tok.sh G)).map Tok.dv) ∧ σ 17 = .int .i64 i) (fun i => A.length - i) 0 ?_ ?_
      · simp -dsimp (disch := first | omega | (refine DrawYes.mk ?_; kernel_rfl) | fail) only [go_sem, ↓reduceIte, reduceCtorEq, Nat.reduceEqDiff, Nat.reduceAdd, Nat.reduceLeDiff, Int.reduceLE, Int.reduceLT, Int.reduceBEq, Int.reduceBNe, Int.reduceEq, Nat.reduceBEq, Int.reduceToNat, Nat.reduceLT, Nat.reduceGT, Nat.reduceSub, Nat.reduceMul, Int.reduceAdd, Int.reduceSub, Int.reduceNeg, Int.reduceGE, Int.reduceGT, f7, f8]
        simp
      rintro i σ H6 ⟨hi, d7, d8, d11, d14, d17⟩
      by_cases hlt : i < A.length
      · have k0 : (i : Int) < A.length := by omega
        have ga : (A.map Tok.dv)[i]? = some (.agg [.int .i64 A[i].kind, .str A[i].text, .int .i64 A[i].pos]) := by rw [List.getElem?_map, List.getElem?_eq_getElem hlt]; rfl
        have gp : A[i].pos ≤ 900 := hAp _ (List.getElem_mem hlt)
        have gc : ((A.map (Tok.sh G)).map Tok.dv)[i]? = some (.agg [.int .i64 A[i].kind, .str A[i].text, .int .i64 (A[i].pos + G)]) := by
          rw [List.map_map, List.getElem?_map, List.getElem?_eq_getElem hlt]
          simp [Tok.dv, Tok.sh]
        simp -dsimp (disch := first | omega | (refine DrawYes.mk ?_; kernel_rfl) | fail) only [go_sem, ↓reduceIte, reduceCtorEq, Nat.reduceEqDiff, Nat.reduceAdd, Nat.reduceLeDiff, Int.reduceLE, Int.reduceLT, Int.reduceBEq, Int.reduceBNe, Int.reduceEq, Nat.reduceBEq, Int.reduceToNat, Nat.reduceLT, Nat.reduceGT, Nat.reduceSub, Nat.reduceMul, Int.reduceAdd, Int.reduceSub, Int.reduceNeg, Int.reduceGE, Int.reduceGT, d7, d8, d11, d14, d17, hn1, hn2, hG3, k0, ga, gc, cellsEq, cellEq, flat_28]
        exact ⟨by omega, by omega, i + 1, ⟨by omega, rfl⟩, by omega⟩
      · have k0 : ¬ (i : Int) < A.length := by omega
        simp -dsimp (disch := first | omega | (refine DrawYes.mk ?_; kernel_rfl) | fail) only [go_sem, ↓reduceIte, reduceCtorEq, Nat.reduceEqDiff, Nat.reduceAdd, Nat.reduceLeDiff, Int.reduceLE, Int.reduceLT, Int.reduceBEq, Int.reduceBNe, Int.reduceEq, Nat.reduceBEq, Int.reduceToNat, Nat.reduceLT, Nat.reduceGT, Nat.reduceSub, Nat.reduceMul, Int.reduceAdd, Int.reduceSub, Int.reduceNeg, Int.reduceGE, Int.reduceGT, d7, d8, d11, d14, d17, hn1, hn2, k0]
  · simp -dsimp (disch := first | omega | (refine DrawYes.mk ?_; kernel_rfl) | fail) only [go_sem, ↓reduceIte, reduceCtorEq, Nat.reduceEqDiff, Nat.reduceAdd, Nat.reduceLeDiff, Int.reduceLE, Int.reduceLT, Int.reduceBEq, Int.reduceBNe, Int.reduceEq, Nat.reduceBEq, Int.reduceToNat, Nat.reduceLT, Nat.reduceGT, Nat.reduceSub, Nat.reduceMul, Int.reduceAdd, Int.reduceSub, Int.reduceNeg, Int.reduceGE, Int.reduceGT, g0, g1, g2, g7, g8, g9, k0, k1]
    obtain ⟨g, hgd⟩ : ∃ g : Nat, g = b.toNat % 16 := ⟨_, rfl⟩
    have hand : IntKind.u8.wrap ((BitVec.ofInt IntKind.u8.bits (b.toNat : Int) &&& BitVec.ofInt IntKind.u8.bits 15).toNat : Int) = (g : Int) := by rw [hgd]; exact and15 b
    have hg15 : g ≤ 15 := by omega
    refine ⟨by omega, Y_loop (α := List UInt8 × Nat) (fun a σ _ => a.2 ≤ g ∧ a.1.length = a.2 ∧ (∀ c ∈ a.1, c ∈ blanksL) ∧ σ 0 = .str S ∧ σ 2 = .int .u8 b.toNat ∧ σ 7 = .bool true ∧ σ 8 = .str (35 :: (x ++ [10] ++ a.1)) ∧ σ 10 = .int .i64 a.2) (fun a => g - a.2) ([], 0) ?_ ?_⟩
    · simp -dsimp (disch := first | omega | (refine DrawYes.mk ?_; kernel_rfl) | fail) only [go_sem, ↓reduceIte, reduceCtorEq, Nat.reduceEqDiff, Nat.reduceAdd, Nat.reduceLeDiff, Int.reduceLE, Int.reduceLT, Int.reduceBEq, Int.reduceBNe, Int.reduceEq, Nat.reduceBEq, Int.reduceToNat, Nat.reduceLT, Nat.reduceGT, Nat.reduceSub, Nat.reduceMul, Int.reduceAdd, Int.reduceSub, Int.reduceNeg, Int.reduceGE, Int.reduceGT, g0, g2, g7]
      simp
    rintro ⟨y, j⟩ σ H3 ⟨hj, hyl, hy, f0, f2, f7, f8, f10⟩
    simp only at hj hyl hy f0 f2 f7 f8 f10
    by_cases hjg : j < g
    · have m0 : (j : Int) < g := by omega
      have hm4 : ((j : Int).tmod 4) = ((j % 4 : Nat) : Int) := rfl
      have ht4 : (((j % 4 : Nat) : Int) + 1).toNat = j % 4 + 1 := by omega
      obtain ⟨c, hcs, hcb⟩ : ∃ c : UInt8, (32 :: ([9, 13, 10] : List UInt8).take (j % 4)).drop (j % 4) = [c] ∧ c ∈ blanksL := by
        have : j % 4 < 4 := Nat.mod_lt _ (by decide)
        generalize j % 4 = q at this
        match q, this with
        | 0, _ => exact ⟨32, rfl, by decide⟩
        | 1, _ => exact ⟨9, rfl, by decide⟩
        | 2, _ => exact ⟨13, rfl, by decide⟩
        | 3, _ => exact ⟨10, rfl, by decide⟩
      simp -dsimp (disch := first | omega | (refine DrawYes.mk ?_; kernel_rfl) | fail) only [go_sem, ↓reduceIte, reduceCtorEq, Nat.reduceEqDiff, Nat.reduceAdd, Nat.reduceLeDiff, Int.reduceLE, Int.reduceLT, Int.reduceBEq, Int.reduceBNe, Int.reduceEq, Nat.reduceBEq, Int.reduceToNat, Nat.reduceLT, Nat.reduceGT, Nat.reduceSub, Nat.reduceMul, Int.reduceAdd, Int.reduceSub, Int.reduceNeg, Int.reduceGE, Int.reduceGT, f0, f2, f7, f8, f10, hand, m0, hm4, ht4, hcs]
      refine ⟨⟨by omega, by omega⟩, ⟨by omega, by omega⟩, by simp; omega, (y ++ [c], j + 1), ⟨by simp only; omega, by simp [hyl], ?_, by simp, rfl⟩, by simp only; omega⟩
      intro d hd
      rcases List.mem_append.1 hd with hd | hd
      · exact hy d hd
      · simp at hd; subst hd; exact hcb
    have m0 : ¬ (j : Int) < g := by omega
    simp -dsimp (disch := first | omega | (refine DrawYes.mk ?_; kernel_rfl) | fail) only [go_sem, ↓reduceIte, reduceCtorEq, Nat.reduceEqDiff, Nat.reduceAdd, Nat.reduceLeDiff, Int.reduceLE, Int.reduceLT, Int.reduceBEq, Int.reduceBNe, Int.reduceEq, Nat.reduceBEq, Int.reduceToNat, Nat.reduceLT, Nat.reduceGT, Nat.reduceSub, Nat.reduceMul, Int.reduceAdd, Int.reduceSub, Int.reduceNeg, Int.reduceGE, Int.reduceGT, f0, f2, f7, f8, f10, hand, m0]
    refine call (all_ok (by omega)) ?_
    rintro _ H4 ⟨hE4, v1, rfl, hs1⟩
    simp -dsimp (disch := first | omega | (refine DrawYes.mk ?_; kernel_rfl) | fail) only [go_sem, ↓reduceIte, reduceCtorEq, Nat.reduceEqDiff, Nat.reduceAdd, Nat.reduceLeDiff, Int.reduceLE, Int.reduceLT, Int.reduceBEq, Int.reduceBNe, Int.reduceEq, Nat.reduceBEq, Int.reduceToNat, Nat.reduceLT, Nat.reduceGT, Nat.reduceSub, Nat.reduceMul, Int.reduceAdd, Int.reduceSub, Int.reduceNeg, Int.reduceGE, Int.reduceGT, f0, f2, f7, f8, f10]
    refine ⟨by simp; omega, call (all_ok (by simp; omega)) ?_⟩
    rintro _ H5 ⟨hE5, v2, rfl, hs2⟩
    have L := passed_law (s := S) hx (by omega) hy (by omega) (by omega)
    obtain ⟨G, hG⟩ : ∃ G, G = (35 :: (x ++ [10] ++ y)).length := ⟨_, rfl⟩
    have hGl : (35 :: x ++ [10] ++ y).length = G := by rw [hG]; rfl
    have hGe : 35 :: x ++ [10] ++ y ++ S = 35 :: (x ++ [10] ++ y ++ S) := rfl
    have hG3 : (x ++ [10] ++ y).length + 1 = G := by rw [hG]; rfl
    have hG2 : G ≤ 117 := by rw [hG]; simp; omega
    rw [hGl, hGe] at L
    rcases L with ⟨p, e, hp, e0, hA, ⟨e4, hC⟩ | ⟨e4, hC⟩⟩ | ⟨A, hAp, hA1, hA2, hA, hC⟩
    · rw [hA] at hs1
      rw [hC] at hs2
      have hn1 : ∀ H', lenD cfg.T H' 23 v1 = some (.int .i64 0) := fun H' => by rw [hs1.len und_23]; rfl
      have hn2 : ∀ H', lenD cfg.T H' 23 v2 = some (.int .i64 0) := fun H' => by rw [hs2.len und_23]; rfl
      subst e4
      simp -dsimp (disch := first | omega | (refine DrawYes.mk ?_; kernel_rfl) | fail) only [go_sem, ↓reduceIte, reduceCtorEq, Nat.reduceEqDiff, Nat.reduceAdd, Nat.reduceLeDiff, Int.reduceLE, Int.reduceLT, Int.reduceBEq, Int.reduceBNe, Int.reduceEq, Nat.reduceBEq, Int.reduceToNat, Nat.reduceLT, Nat.reduceGT, Nat.reduceSub, Nat.reduceMul, Int.reduceAdd, Int.reduceSub, Int.reduceNeg, Int.reduceGE, Int.reduceGT, f0, f2, f7, f8, f10, hA, hC, hn1, hn2, hG3]
      refine Y_loop1 ?_
      simp -dsimp (disch := first | omega | (refine DrawYes.mk ?_; kernel_rfl) | fail) only [go_sem, ↓reduceIte, reduceCtorEq, Nat.reduceEqDiff, Nat.reduceAdd, Nat.reduceLeDiff, Int.reduceLE, Int.reduceLT, Int.reduceBEq, Int.reduceBNe, Int.reduceEq, Nat.reduceBEq, Int.reduceToNat, Nat.reduceLT, Nat.reduceGT, Nat.reduceSub, Nat.reduceMul, Int.reduceAdd, Int.reduceSub, Int.reduceNeg, Int.reduceGE, Int.reduceGT, f0, f2, f7, f8, f10, hA, hC, hn1, hn2, hG3]
    · rw [hA] at hs1
      rw [hC] at hs2
      have hn1 : ∀ H', lenD cfg.T H' 23 v1 = some (.int .i64 0) := fun H' => by rw [hs1.len und_23]; rfl
      have hn2 : ∀ H', lenD cfg.T H' 23 v2 = some (.int .i64 0) := fun H' => by rw [hs2.len und_23]; rfl
      have q1 : ((e : Int) != 0) = true := by simp; omega
      have q2 : ((e : Int) == 0) = false := by simp; omega
      have q3 : ((e : Int) != 4) = true := by simp; omega
      have q4 : (((p + G : Nat) : Int) != (p : Int) + G) = false := by simp
      simp -dsimp (disch := first | omega | (refine DrawYes.mk ?_; kernel_rfl) | fail) only [go_sem, ↓reduceIte, reduceCtorEq, Nat.reduceEqDiff, Nat.reduceAdd, Nat.reduceLeDiff, Int.reduceLE, Int.reduceLT, Int.reduceBEq, Int.reduceBNe, Int.reduceEq, Nat.reduceBEq, Int.reduceToNat, Nat.reduceLT, Nat.reduceGT, Nat.reduceSub, Nat.reduceMul, Int.reduceAdd, Int.reduceSub, Int.reduceNeg, Int.reduceGE, Int.reduceGT, f0, f2, f7, f8, f10, hA, hC, hn1, hn2, hG3, q1, q2, q3, q4]
      refine Y_loop1 ?_
      simp -dsimp (disch := first | omega | (refine DrawYes.mk ?_; kernel_rfl) | fail) only [go_sem, ↓reduceIte, reduceCtorEq, Nat.reduceEqDiff, Nat.reduceAdd, Nat.reduceLeDiff, Int.reduceLE, Int.reduceLT, Int.reduceBEq, Int.reduceBNe, Int.reduceEq, Nat.reduceBEq, Int.reduceToNat, Nat.reduceLT, Nat.reduceGT, Nat.reduceSub, Nat.reduceMul, Int.reduceAdd, Int.reduceSub, Int.reduceNeg, Int.reduceGE, Int.reduceGT, f0, f2, f7, f8, f10, hA, hC, hn1, hn2, hG3]
    · rw [hA] at hs1
      rw [hC] at hs2
      have hn1 : ∀ H', lenD cfg.T H' 23 v1 = some (.int .i64 A.length) := fun H' => by rw [hs1.len und_23, List.length_map]
      have hn2 : ∀ H', lenD cfg.T H' 23 v2 = some (.int .i64 A.length) := fun H' => by rw [hs2.len und_23, List.length_map, List.length_map]
      rcases hs1 with ⟨_, h⟩ | ⟨id1, off1, k1, rfl, _⟩
      · simp at h; subst h; simp at hA2
      rcases hs2 with ⟨_, h⟩ | ⟨id2, off2, k2, rfl, _⟩
      · have := congrArg List.length h; simp at this; subst this; simp at hA2
      simp -dsimp (disch := first | omega | (refine DrawYes.mk ?_; kernel_rfl) | fail) only [go_sem, ↓reduceIte, reduceCtorEq, Nat.reduceEqDiff, Nat.reduceAdd, Nat.reduceLeDiff, Int.reduceLE, Int.reduceLT, Int.reduceBEq, Int.reduceBNe, Int.reduceEq, Nat.reduceBEq, Int.reduceToNat, Nat.reduceLT, Nat.reduceGT, Nat.reduceSub, Nat.reduceMul, Int.reduceAdd, Int.reduceSub, Int.reduceNeg, Int.reduceGE, Int.reduceGT, f0, f2, f7, f8, f10, hA, hC, hn1, hn2, hG3]
      simp only at hn1 hn2
      refine Y_loop (α := Nat) (fun i σ _ => i ≤ A.length ∧ σ 7 = .bool true ∧ σ 8 = .str (35 :: (x ++ [10] ++ y)) ∧ σ 11 = .sl id1 3 off1 (A.map Tok.dv) ∧ σ 14 = .sl id2 3 off2 ((A.map (Tok.sh G)).map Tok.dv) ∧ σ 17 = .int .i64 i) (fun i => A.length - i) 0 ?_ ?_
      · simp -dsimp (disch := first | omega | (refine DrawYes.mk ?_; kernel_rfl) | fail) only [go_sem, ↓reduceIte, reduceCtorEq, Nat.reduceEqDiff, Nat.reduceAdd, Nat.reduceLeDiff, Int.reduceLE, Int.reduceLT, Int.reduceBEq, Int.reduceBNe, Int.reduceEq, Nat.reduceBEq, Int.reduceToNat, Nat.reduceLT, Nat.reduceGT, Nat.reduceSub, Nat.reduceMul, Int.reduceAdd, Int.reduceSub, Int.reduceNeg, Int.reduceGE, Int.reduceGT, f7, f8]
        simp
      rintro i σ H6 ⟨hi, d7, d8, d11, d14, d17⟩
      by_cases hlt : i < A.length
      · have k0 : (i : Int) < A.length := by omega
        have ga : (A.map Tok.dv)[i]? = some (.agg [.int .i64 A[i].kind, .str A[i].text, .int .i64 A[i].pos]) := by rw [List.getElem?_map, List.getElem?_eq_getElem hlt]; rfl
        have gp : A[i].pos ≤ 900 := hAp _ (List.getElem_mem hlt)
        have gc : ((A.map (Tok.sh G)).map Tok.dv)[i]? = some (.agg [.int .i64 A[i].kind, .str A[i].text, .int .i64 (A[i].pos + G)]) := by
          rw [List.map_map, List.getElem?_map, List.getElem?_eq_getElem hlt]
          simp [Tok.dv, Tok.sh]
        simp -dsimp (disch := first | omega | (refine DrawYes.mk ?_; kernel_rfl) | fail) only [go_sem, ↓reduceIte, reduceCtorEq, Nat.reduceEqDiff, Nat.reduceAdd, Nat.reduceLeDiff, Int.reduceLE, Int.reduceLT, Int.reduceBEq, Int.reduceBNe, Int.reduceEq, Nat.reduceBEq, Int.reduceToNat, Nat.reduceLT, Nat.reduceGT, Nat.reduceSub, Nat.reduceMul, Int.reduceAdd, Int.reduceSub, Int.reduceNeg, Int.reduceGE, Int.reduceGT, d7, d8, d11, d14, d17, hn1, hn2, hG3, k0, ga, gc, cellsEq, cellEq, flat_28]
        exact ⟨by omega, by omega, i + 1, ⟨by omega, rfl⟩, by omega⟩
      · have k0 : ¬ (i : Int) < A.length := by omega
        simp -dsimp (disch := first | omega | (refine DrawYes.mk ?_; kernel_rfl) | fail) only [go_sem, ↓reduceIte, reduceCtorEq, Nat.reduceEqDiff, Nat.reduceAdd, Nat.reduceLeDiff, Int.reduceLE, Int.reduceLT, Int.reduceBEq, Int.reduceBNe, Int.reduceEq, Nat.reduceBEq, Int.reduceToNat, Nat.reduceLT, Nat.reduceGT, Nat.reduceSub, Nat.reduceMul, Int.reduceAdd, Int.reduceSub, Int.reduceNeg, Int.reduceGE, Int.reduceGT, d7, d8, d11, d14, d17, hn1, hn2, k0]
theorem lexPassed_short {s t : List UInt8} {b : UInt8} {H : DH} (h1 : s.length ≤ 900) : WC cfg 4 [.str s, .str t, byteDV b] H fun v H' => v = .bool true := by
  refine WC_of (show Has cfg 4 138 [.tmp 6] _ from ⟨by kernel_rfl, Try.f4, Try.func4, rfl, rfl, rfl, by kernel_rfl⟩) (by simp) ?_
  simp -dsimp (disch := first | omega | (refine DrawYes.mk ?_; kernel_rfl) | fail) only [go_sem, ↓reduceIte, reduceCtorEq, Nat.reduceEqDiff, Nat.reduceAdd, Nat.reduceLeDiff, Int.reduceLE, Int.reduceLT, Int.reduceBEq, Int.reduceBNe, Int.reduceEq, Nat.reduceBEq, Int.reduceToNat, Nat.reduceLT, Nat.reduceGT, Nat.reduceSub, Nat.reduceMul, Int.reduceAdd, Int.reduceSub, Int.reduceNeg, Int.reduceGE, Int.reduceGT]
  refine call shown_ok ?_
  rintro _ H1 ⟨rfl, hE⟩
  have i1 : ¬ 900 < (s.length : Int) := by omega
  simp -dsimp (disch := first | omega | (refine DrawYes.mk ?_; kernel_rfl) | fail) only [go_sem, ↓reduceIte, reduceCtorEq, Nat.reduceEqDiff, Nat.reduceAdd, Nat.reduceLeDiff, Int.reduceLE, Int.reduceLT, Int.reduceBEq, Int.reduceBNe, Int.reduceEq, Nat.reduceBEq, Int.reduceToNat, Nat.reduceLT, Nat.reduceGT, Nat.reduceSub, Nat.reduceMul, Int.reduceAdd, Int.reduceSub, Int.reduceNeg, Int.reduceGE, Int.reduceGT, i1]
  refine Y_loop (α := List UInt8 × Nat) (fun a σ _ => a.2 ≤ t.length ∧ a.2 ≤ 100 ∧ a.1.length ≤ a.2 ∧ (10 : UInt8) ∉ a.1 ∧ σ 0 = .str s ∧ σ 1 = .str t ∧ σ 2 = .int .u8 b.toNat ∧ σ 7 = .bool true ∧ σ 8 = .str (35 :: a.1) ∧ σ 9 = .int .i64 a.2) (fun a => t.length - a.2) ([], 0) ?_ ?_
  · simp -dsimp (disch := first | omega | (refine DrawYes.mk ?_; kernel_rfl) | fail) only [go_sem, ↓reduceIte, reduceCtorEq, Nat.reduceEqDiff, Nat.reduceAdd, Nat.reduceLeDiff, Int.reduceLE, Int.reduceLT, Int.reduceBEq, Int.reduceBNe, Int.reduceEq, Nat.reduceBEq, Int.reduceToNat, Nat.reduceLT, Nat.reduceGT, Nat.reduceSub, Nat.reduceMul, Int.reduceAdd, Int.reduceSub, Int.reduceNeg, Int.reduceGE, Int.reduceGT]
    simp
  rintro ⟨x, k⟩ σ H2 ⟨hk, hk1, hxl, hx, g0, g1, g2, g7, g8, g9⟩
  simp only at hk hk1 hxl hx g0 g1 g2 g7 g8 g9
  by_cases hlt : k < t.length ∧ k < 100
  · have k0 : (k : Int) < t.length := by omega
    have k1 : (k : Int) < 100 := by omega
    have hg : t[k]? = some t[k] := List.getElem?_eq_getElem hlt.1
    have hsl : (t.take (k + 1)).drop k = [t[k]] := by
      rw [List.take_add_one, hg, List.drop_append_of_le_length (by simp; omega), List.drop_of_length_le (by simp; omega)]; rfl
    generalize t[k] = c at hg hsl
    by_cases hc : c.toNat = 10
    · have j1 : ((c.toNat : Int) != 10) = false := by simp; omega
      simp -dsimp (disch := first | omega | (refine DrawYes.mk ?_; kernel_rfl) | fail) only [go_sem, ↓reduceIte, reduceCtorEq, Nat.reduceEqDiff, Nat.reduceAdd, Nat.reduceLeDiff, Int.reduceLE, Int.reduceLT, Int.reduceBEq, Int.reduceBNe, Int.reduceEq, Nat.reduceBEq, Int.reduceToNat, Nat.reduceLT, Nat.reduceGT, Nat.reduceSub, Nat.reduceMul, Int.reduceAdd, Int.reduceSub, Int.reduceNeg, Int.reduceGE, Int.reduceGT, g0, g1, g2, g7, g8, g9, k0, k1, hg, j1]
      exact ⟨by omega, (x, k + 1), ⟨by simp only; omega, by simp only; omega, by simp only; omega, hx, rfl, rfl⟩, by simp only; omega⟩
    · have j1 : ((c.toNat : Int) != 10) = true := by simp; omega
      have ht : ((k : Int) + 1).toNat = k + 1 := by omega
      simp -dsimp (disch := first | omega | (refine DrawYes.mk ?_; kernel_rfl) | fail) only [go_sem, ↓reduceIte, reduceCtorEq, Nat.reduceEqDiff, Nat.reduceAdd, Nat.reduceLeDiff, Int.reduceLE, Int.reduceLT, Int.reduceBEq, Int.reduceBNe, Int.reduceEq, Nat.reduceBEq, Int.reduceToNat, Nat.reduceLT, Nat.reduceGT, Nat.reduceSub, Nat.reduceMul, Int.reduceAdd, Int.reduceSub, Int.reduceNeg, Int.reduceGE, Int.reduceGT, g0, g1, g2, g7, g8, g9, k0, k1, hg, j1, ht, hsl]
      refine ⟨by omega, ⟨by omega, by omega⟩, ⟨by omega, by omega⟩, by omega, (x ++ [c], k + 1), ⟨by simp only; omega, by simp only; omega, by simp; omega, ?_, rfl, rfl⟩, by simp only; omega⟩
      simp only [List.mem_append, List.mem_singleton, not_or]
      refine ⟨hx, ?_⟩
      rintro rfl
      exact hc rfl
  have key : ∀ P : Prop, ((¬ (k : Int) < t.length → P) ∧ ((k : Int) < t.length → ¬ (k : Int) < 100 → P)) → P := by
    intro P hP
    by_cases q : (k : Int) < t.length
    · exact hP.2 q (by omega)
    · exact hP.1 q
  refine key _ ⟨fun k0 => ?_, fun k0 k1 => ?_⟩
  · simp -dsimp (disch := first | omega | (refine DrawYes.mk ?_; kernel_rfl) | fail) only [go_sem, ↓reduceIte, reduceCtorEq, Nat.reduceEqDiff, Nat.reduceAdd, Nat.reduceLeDiff, Int.reduceLE, Int.reduceLT, Int.reduceBEq, Int.reduceBNe, Int.reduceEq, Nat.reduceBEq, Int.reduceToNat, Nat.reduceLT, Nat.reduceGT, Nat.reduceSub, Nat.reduceMul, Int.reduceAdd, Int.reduceSub, Int.reduceNeg, Int.reduceGE, Int.reduceGT, g0, g1, g2, g7, g8, g9, k0]
    obtain ⟨g, hgd⟩ : ∃ g : Nat, g = b.toNat % 16 := ⟨_, rfl⟩
    have hand : IntKind.u8.wrap ((BitVec.ofInt IntKind.u8.bits (b.toNat : Int) &&& BitVec.ofInt IntKind.u8.bits 15).toNat : Int) = (g : Int) := by rw [hgd]; exact and15 b
    have hg15 : g ≤ 15 := by omega
    refine ⟨by omega, Y_loop (α := List UInt8 × Nat) (fun a σ _ => a.2 ≤ g ∧ a.1.length = a.2 ∧ (∀ c ∈ a.1, c ∈ blanksL) ∧ σ 0 = .str s ∧ σ 2 = .int .u8 b.toNat ∧ σ 7 = .bool true ∧ σ 8 = .str (35 :: (x ++ [10] ++ a.1)) ∧ σ 10 = .int .i64 a.2) (fun a => g - a.2) ([], 0) ?_ ?_⟩
    · simp -dsimp (disch := first | omega | (refine DrawYes.mk ?_; kernel_rfl) | fail) only [go_sem, ↓reduceIte, reduceCtorEq, Nat.reduceEqDiff, Nat.reduceAdd, Nat.reduceLeDiff, Int.reduceLE, Int.reduceLT, Int.reduceBEq, Int.reduceBNe, Int.reduceEq, Nat.reduceBEq, Int.reduceToNat, Nat.reduceLT, Nat.reduceGT, Nat.reduceSub, Nat.reduceMul, Int.reduceAdd, Int.reduceSub, Int.reduceNeg, Int.reduceGE, Int.reduceGT, g0, g2, g7]
      simp
    rintro ⟨y, j⟩ σ H3 ⟨hj, hyl, hy, f0, f2, f7, f8, f10⟩
    simp only at hj hyl hy f0 f2 f7 f8 f10
    by_cases hjg : j < g
    · have m0 : (j : Int) < g := by omega
      have hm4 : ((j : Int).tmod 4) = ((j % 4 : Nat) : Int) := rfl
      have ht4 : (((j % 4 : Nat) : Int) + 1).toNat = j % 4 + 1 := by omega
      obtain ⟨c, hcs, hcb⟩ : ∃ c : UInt8, (32 :: ([9, 13, 10] : List UInt8).take (j % 4)).drop (j % 4) = [c] ∧ c ∈ blanksL := by
        have : j % 4 < 4 := Nat.mod_lt _ (by decide)
        generalize j % 4 = q at this
        match q, this with
        | 0, _ => exact ⟨32, rfl, by decide⟩
        | 1, _ => exact ⟨9, rfl, by decide⟩
        | 2, _ => exact ⟨13, rfl, by decide⟩
        | 3, _ => exact ⟨10, rfl, by decide⟩
      simp -dsimp (disch := first | omega | (refine DrawYes.mk ?_; kernel_rfl) | fail) only [go_sem, ↓reduceIte, reduceCtorEq, Nat.reduceEqDiff, Nat.reduceAdd, Nat.reduceLeDiff, Int.reduceLE, Int.reduceLT, Int.reduceBEq, Int.reduceBNe, Int.reduceEq, Nat.reduceBEq, Int.reduceToNat, Nat.reduceLT, Nat.reduceGT, Nat.reduceSub, Nat.reduceMul, Int.reduceAdd, Int.reduceSub, Int.reduceNeg, Int.reduceGE, Int.reduceGT, f0, f2, f7, f8, f10, hand, m0, hm4, ht4, hcs]
      refine ⟨⟨by omega, by omega⟩, ⟨by omega, by omega⟩, by simp; omega, (y ++ [c], j + 1), ⟨by simp only; omega, by simp [hyl], ?_, by simp, rfl⟩, by simp only; omega⟩
      intro d hd
      rcases List.mem_append.1 hd with hd | hd
      · exact hy d hd
      · simp at hd; subst hd; exact hcb
    have m0 : ¬ (j : Int) < g := by omega
    simp -dsimp (disch := first | omega | (refine DrawYes.mk ?_; kernel_rfl) | fail) only [go_sem, ↓reduceIte, reduceCtorEq, Nat.reduceEqDiff, Nat.reduceAdd, Nat.reduceLeDiff, Int.reduceLE, Int.reduceLT, Int.reduceBEq, Int.reduceBNe, Int.reduceEq, Nat.reduceBEq, Int.reduceToNat, Nat.reduceLT, Nat.reduceGT, Nat.reduceSub, Nat.reduceMul, Int.reduceAdd, Int.reduceSub, Int.reduceNeg, Int.reduceGE, Int.reduceGT, f0, f2, f7, f8, f10, hand, m0]
    refine call (all_ok (by omega)) ?_
    rintro _ H4 ⟨hE4, v1, rfl, hs1⟩
    simp -dsimp (disch := first | omega | (refine DrawYes.mk ?_; kernel_rfl) | fail) only [go_sem, ↓reduceIte, reduceCtorEq, Nat.reduceEqDiff, Nat.reduceAdd, Nat.reduceLeDiff, Int.reduceLE, Int.reduceLT, Int.reduceBEq, Int.reduceBNe, Int.reduceEq, Nat.reduceBEq, Int.reduceToNat, Nat.reduceLT, Nat.reduceGT, Nat.reduceSub, Nat.reduceMul, Int.reduceAdd, Int.reduceSub, Int.reduceNeg, Int.reduceGE, Int.reduceGT, f0, f2, f7, f8, f10]
    refine ⟨by simp; omega, call (all_ok (by simp; omega)) ?_⟩
    rintro _ H5 ⟨hE5, v2, rfl, hs2⟩
    have L := passed_law (s := s) hx (by omega) hy (by omega) (by omega)
    obtain ⟨G, hG⟩ : ∃ G, G = (35 :: (x ++ [10] ++ y)).length := ⟨_, rfl⟩
    have hGl : (35 :: x ++ [10] ++ y).length = G := by rw [hG]; rfl
    have hGe : 35 :: x ++ [10] ++ y ++ s = 35 :: (x ++ [10] ++ y ++ s) := rfl
    have hG3 : (x ++ [10] ++ y).length + 1 = G := by rw [hG]; rfl
    have hG2 : G ≤ 117 := by rw [hG]; simp; omega
    rw [hGl, hGe] at L
    rcases L with ⟨p, e, hp, e0, hA, ⟨e4, hC⟩ | ⟨e4, hC⟩⟩ | ⟨A, hAp, hA1, hA2, hA, hC⟩
    · rw [hA] at hs1
      rw [hC] at hs2
      have hn1 : ∀ H', lenD cfg.T H' 23 v1 = some (.int .i64 0) := fun H' => by rw [hs1.len und_23]; rfl
      have hn2 : ∀ H', lenD cfg.T H' 23 v2 = some (.int .i64 0) := fun H' => by rw [hs2.len und_23]; rfl
      subst e4
      simp -dsimp (disch := first | omega | (refine DrawYes.mk ?_; kernel_rfl) | fail) only [go_sem, ↓reduceIte, reduceCtorEq, Nat.reduceEqDiff, Nat.reduceAdd, Nat.reduceLeDiff, Int.reduceLE, Int.reduceLT, Int.reduceBEq, Int.reduceBNe, Int.reduceEq, Nat.reduceBEq, Int.reduceToNat, Nat.reduceLT, Nat.reduceGT, Nat.reduceSub, Nat.reduceMul, Int.reduceAdd, Int.reduceSub, Int.reduceNeg, Int.reduceGE, Int.reduceGT, f0, f2, f7, f8, f10, hA, hC, hn1, hn2, hG3]
      refine Y_loop1 ?_
      simp -dsimp (disch := first | omega | (refine DrawYes.mk ?_; kernel_rfl) | fail) only [go_sem, ↓reduceIte, reduceCtorEq, Nat.reduceEqDiff, Nat.reduceAdd, Nat.reduceLeDiff, Int.reduceLE, Int.reduceLT, Int.reduceBEq, Int.reduceBNe, Int.reduceEq, Nat.reduceBEq, Int.reduceToNat, Nat.reduceLT, Nat.reduceGT, Nat.reduceSub, Nat.reduceMul, Int.reduceAdd, Int.reduceSub, Int.reduceNeg, Int.reduceGE, Int.reduceGT, f0, f2, f7, f8, f10, hA, hC, hn1, hn2, hG3]
    · rw [hA] at hs1
      rw [hC] at hs2
      have hn1 : ∀ H', lenD cfg.T H' 23 v1 = some (.int .i64 0) := fun H' => by rw [hs1.len und_23]; rfl
      have hn2 : ∀ H', lenD cfg.T H' 23 v2 = some (.int .i64 0) := fun H' => by rw [hs2.len und_23]; rfl
      have q1 : ((e : Int) != 0) = true := by simp; omega
      have q2 : ((e : Int) == 0) = false := by simp; omega
      have q3 : ((e : Int) != 4) = true := by simp; omega
      have q4 : (((p + G : Nat) : Int) != (p : Int) + G) = false := by simp
      simp -dsimp (disch := first | omega | (refine DrawYes.mk ?_; kernel_rfl) | fail) only [go_sem, ↓reduceIte, reduceCtorEq, Nat.reduceEqDiff, Nat.reduceAdd, Nat.reduceLeDiff, Int.reduceLE, Int.reduceLT, Int.reduceBEq, Int.reduceBNe, Int.reduceEq, Nat.reduceBEq, Int.reduceToNat, Nat.reduceLT, Nat.reduceGT, Nat.reduceSub, Nat.reduceMul, Int.reduceAdd, Int.reduceSub, Int.reduceNeg, Int.reduceGE, Int.reduceGT, f0, f2, f7, f8, f10, hA, hC, hn1, hn2, hG3, q1, q2, q3, q4]
      refine Y_loop1 ?_
      simp -dsimp (disch := first | omega | (refine DrawYes.mk ?_; kernel_rfl) | fail) only [go_sem, ↓reduceIte, reduceCtorEq, Nat.reduceEqDiff, Nat.reduceAdd, Nat.reduceLeDiff, Int.reduceLE, Int.reduceLT, Int.reduceBEq, Int.reduceBNe, Int.reduceEq, Nat.reduceBEq, Int.reduceToNat, Nat.reduceLT, Nat.reduceGT, Nat.reduceSub, Nat.reduceMul, Int.reduceAdd, Int.reduceSub, Int.reduceNeg, Int.reduceGE, Int.reduceGT, f0, f2, f7, f8, f10, hA, hC, hn1, hn2, hG3]
    · rw [hA] at hs1
      rw [hC] at hs2
      have hn1 : ∀ H', lenD cfg.T H' 23 v1 = some (.int .i64 A.length) := fun H' => by rw [hs1.len und_23, List.length_map]
      have hn2 : ∀ H', lenD cfg.T H' 23 v2 = some (.int .i64 A.length) := fun H' => by rw [hs2.len und_23, List.length_map, List.length_map]
      rcases hs1 with ⟨_, h⟩ | ⟨id1, off1, k1, rfl, _⟩
      · simp at h; subst h; simp at hA2
      rcases hs2 with ⟨_, h⟩ | ⟨id2, off2, k2, rfl, _⟩
      · have := congrArg List.length h; simp at this; subst this; simp at hA2
      simp -dsimp (disch := first | omega | (refine DrawYes.mk ?_; kernel_rfl) | fail) only [go_sem, ↓reduceIte, reduceCtorEq, Nat.reduceEqDiff, Nat.reduceAdd, Nat.reduceLeDiff, Int.reduceLE, Int.reduceLT, Int.reduceBEq, Int.reduceBNe, Int.reduceEq, Nat.reduceBEq, Int.reduceToNat, Nat.reduceLT, Nat.reduceGT, Nat.reduceSub, Nat.reduceMul, Int.reduceAdd, Int.reduceSub, Int.reduceNeg, Int.reduceGE, Int.reduceGT, f0, f2, f7, f8, f10, hA, hC, hn1, hn2, hG3]
      simp only at hn1 hn2
      refine Y_loop (α := Nat) (fun i σ _ => i ≤ A.length ∧ σ 7 = .bool true ∧ σ 8 = .str (35 :: (x ++ [10] ++ y)) ∧ σ 11 = .sl id1 3 off1 (A.map Tok.dv) ∧ σ 14 = .sl id2 3 off2 ((A.map (Tok.sh G)).map Tok.dv) ∧ σ 17 = .int .i64 i) (fun i => A.length - i) 0 ?_ ?_
      · simp -dsimp (disch := first | omega | (refine DrawYes.mk ?_; kernel_rfl) | fail) only [go_sem, ↓reduceIte, reduceCtorEq, Nat.reduceEqDiff, Nat.reduceAdd, Nat.reduceLeDiff, Int.reduceLE, Int.reduceLT, Int.reduceBEq, Int.reduceBNe, Int.reduceEq, Nat.reduceBEq, Int.reduceToNat, Nat.reduceLT, Nat.reduceGT, Nat.reduceSub, Nat.reduceMul, Int.reduceAdd, Int.reduceSub, Int.reduceNeg, Int.reduceGE, Int.reduceGT, f7, f8]
        simp
      rintro i σ H6 ⟨hi, d7, d8, d11, d14, d17⟩
      by_cases hlt : i < A.length
      · have k0 : (i : Int) < A.length := by omega
        have ga : (A.map Tok.dv)[i]? = some (.agg [.int .i64 A[i].kind, .str A[i].text, .int .i64 A[i].pos]) := by rw [List.getElem?_map, List.getElem?_eq_getElem hlt]; rfl
        have gp : A[i].pos ≤ 900 := hAp _ (List.getElem_mem hlt)
        have gc : ((A.map (Tok.sh G)).map Tok.dv)[i]? = some (.agg [.int .i64 A[i].kind, .str A[i].text, .int .i64 (A[i].pos + G)]) := by
          rw [List.map_map, List.getElem?_map, List.getElem?_eq_getElem hlt]
          simp [Tok.dv, Tok.sh]
        simp -dsimp (disch := first | omega | (refine DrawYes.mk ?_; kernel_rfl) | fail) only [go_sem, ↓reduceIte, reduceCtorEq, Nat.reduceEqDiff, Nat.reduceAdd, Nat.reduceLeDiff, Int.reduceLE, Int.reduceLT, Int.reduceBEq, Int.reduceBNe, Int.reduceEq, Nat.reduceBEq, Int.reduceToNat, Nat.reduceLT, Nat.reduceGT, Nat.reduceSub, Nat.reduceMul, Int.reduceAdd, Int.reduceSub, Int.reduceNeg, Int.reduceGE, Int.reduceGT, d7, d8, d11, d14, d17, hn1, hn2, hG3, k0, ga, gc, cellsEq, cellEq, flat_28]
        exact ⟨by omega, by omega, i + 1, ⟨by omega, rfl⟩, by omega⟩
      · have k0 : ¬ (i : Int) < A.length := by omega
        simp -dsimp (disch := first | omega | (refine DrawYes.mk ?_; kernel_rfl) | fail) only [go_sem, ↓reduceIte, reduceCtorEq, Nat.reduceEqDiff, Nat.reduceAdd, Nat.reduceLeDiff, Int.reduceLE, Int.reduceLT, Int.reduceBEq, Int.reduceBNe, Int.reduceEq, Nat.reduceBEq, Int.reduceToNat, Nat.reduceLT, Nat.reduceGT, Nat.reduceSub, Nat.reduceMul, Int.reduceAdd, Int.reduceSub, Int.reduceNeg, Int.reduceGE, Int.reduceGT, d7, d8, d11, d14, d17, hn1, hn2, k0]
  · simp -dsimp (disch := first | omega | (refine DrawYes.mk ?_; kernel_rfl) | fail) only [go_sem, ↓reduceIte, reduceCtorEq, Nat.reduceEqDiff, Nat.reduceAdd, Nat.reduceLeDiff, Int.reduceLE, Int.reduceLT, Int.reduceBEq, Int.reduceBNe, Int.reduceEq, Nat.reduceBEq, Int.reduceToNat, Nat.reduceLT, Nat.reduceGT, Nat.reduceSub, Nat.reduceMul, Int.reduceAdd, Int.reduceSub, Int.reduceNeg, Int.reduceGE, Int.reduceGT, g0, g1, g2, g7, g8, g9, k0, k1]
    obtain ⟨g, hgd⟩ : ∃ g : Nat, g = b.toNat % 16 := ⟨_, rfl⟩
    have hand : IntKind.u8.wrap ((BitVec.ofInt IntKind.u8.bits (b.toNat : Int) &&& BitVec.ofInt IntKind.u8.bits 15).toNat : Int) = (g : Int) := by rw [hgd]; exact and15 b
    have hg15 : g ≤ 15 := by omega
    refine ⟨by omega, Y_loop (α := List UInt8 × Nat) (fun a σ _ => a.2 ≤ g ∧ a.1.length = a.2 ∧ (∀ c ∈ a.1, c ∈ blanksL) ∧ σ 0 = .str s ∧ σ 2 = .int .u8 b.toNat ∧ σ 7 = .bool true ∧ σ 8 = .str (35 :: (x ++ [10] ++ a.1)) ∧ σ 10 = .int .i64 a.2) (fun a => g - a.2) ([], 0) ?_ ?_⟩
    · simp -dsimp (disch := first | omega | (refine DrawYes.mk ?_; kernel_rfl) | fail) only [go_sem, ↓reduceIte, reduceCtorEq, Nat.reduceEqDiff, Nat.reduceAdd, Nat.reduceLeDiff, Int.reduceLE, Int.reduceLT, Int.reduceBEq, Int.reduceBNe, Int.reduceEq, Nat.reduceBEq, Int.reduceToNat, Nat.reduceLT, Nat.reduceGT, Nat.reduceSub, Nat.reduceMul, Int.reduceAdd, Int.reduceSub, Int.reduceNeg, Int.reduceGE, Int.reduceGT, g0, g2, g7]
      simp
    rintro ⟨y, j⟩ σ H3 ⟨hj, hyl, hy, f0, f2, f7, f8, f10⟩
    simp only at hj hyl hy f0 f2 f7 f8 f10
    by_cases hjg : j < g
    · have m0 : (j : Int) < g := by omega
      have hm4 : ((j : Int).tmod 4) = ((j % 4 : Nat) : Int) := rfl
      have ht4 : (((j % 4 : Nat) : Int) + 1).toNat = j % 4 + 1 := by omega
      obtain ⟨c, hcs, hcb⟩ : ∃ c : UInt8, (32 :: ([9, 13, 10] : List UInt8).take (j % 4)).drop (j % 4) = [c] ∧ c ∈ blanksL := by
        have : j % 4 < 4 := Nat.mod_lt _ (by decide)
        generalize j % 4 = q at this
        match q, this with
        | 0, _ => exact ⟨32, rfl, by decide⟩
        | 1, _ => exact ⟨9, rfl, by decide⟩
        | 2, _ => exact ⟨13, rfl, by decide⟩
        | 3, _ => exact ⟨10, rfl, by decide⟩
      simp -dsimp (disch := first | omega | (refine DrawYes.mk ?_; kernel_rfl) | fail) only [go_sem, ↓reduceIte, reduceCtorEq, Nat.reduceEqDiff, Nat.reduceAdd, Nat.reduceLeDiff, Int.reduceLE, Int.reduceLT, Int.reduceBEq, Int.reduceBNe, Int.reduceEq, Nat.reduceBEq, Int.reduceToNat, Nat.reduceLT, Nat.reduceGT, Nat.reduceSub, Nat.reduceMul, Int.reduceAdd, Int.reduceSub, Int.reduceNeg, Int.reduceGE, Int.reduceGT, f0, f2, f7, f8, f10, hand, m0, hm4, ht4, hcs]
      refine ⟨⟨by omega, by omega⟩, ⟨by omega, by omega⟩, by simp; omega, (y ++ [c], j + 1), ⟨by simp only; omega, by simp [hyl], ?_, by simp, rfl⟩, by simp only; omega⟩
      intro d hd
      rcases List.mem_append.1 hd with hd | hd
      · exact hy d hd
      · simp at hd; subst hd; exact hcb
    have m0 : ¬ (j : Int) < g := by omega
    simp -dsimp (disch := first | omega | (refine DrawYes.mk ?_; kernel_rfl) | fail) only [go_sem, ↓reduceIte, reduceCtorEq, Nat.reduceEqDiff, Nat.reduceAdd, Nat.reduceLeDiff, Int.reduceLE, Int.reduceLT, Int.reduceBEq, Int.reduceBNe, Int.reduceEq, Nat.reduceBEq, Int.reduceToNat, Nat.reduceLT, Nat.reduceGT, Nat.reduceSub, Nat.reduceMul, Int.reduceAdd, Int.reduceSub, Int.reduceNeg, Int.reduceGE, Int.reduceGT, f0, f2, f7, f8, f10, hand, m0]
    refine call (all_ok (by omega)) ?_
    rintro _ H4 ⟨hE4, v1, rfl, hs1⟩
    simp -dsimp (disch := first | omega | (refine DrawYes.mk ?_; kernel_rfl) | fail) only [go_sem, ↓reduceIte, reduceCtorEq, Nat.reduceEqDiff, Nat.reduceAdd, Nat.reduceLeDiff, Int.reduceLE, Int.reduceLT, Int.reduceBEq, Int.reduceBNe, Int.reduceEq, Nat.reduceBEq, Int.reduceToNat, Nat.reduceLT, Nat.reduceGT, Nat.reduceSub, Nat.reduceMul, Int.reduceAdd, Int.reduceSub, Int.reduceNeg, Int.reduceGE, Int.reduceGT, f0, f2, f7, f8, f10]
    refine ⟨by simp; omega, call (all_ok (by simp; omega)) ?_⟩
    rintro _ H5 ⟨hE5, v2, rfl, hs2⟩
    have L := passed_law (s := s) hx (by omega) hy (by omega) (by omega)
    obtain ⟨G, hG⟩ : ∃ G, G = (35 :: (x ++ [10] ++ y)).length := ⟨_, rfl⟩
    have hGl : (35 :: x ++ [10] ++ y).length = G := by rw [hG]; rfl
    have hGe : 35 :: x ++ [10] ++ y ++ s = 35 :: (x ++ [10] ++ y ++ s) := rfl
    have hG3 : (x ++ [10] ++ y).length + 1 = G := by rw [hG]; rfl
    have hG2 : G ≤ 117 := by rw [hG]; simp; omega
    rw [hGl, hGe] at L
    rcases L with ⟨p, e, hp, e0, hA, ⟨e4, hC⟩ | ⟨e4, hC⟩⟩ | ⟨A, hAp, hA1, hA2, hA, hC⟩
    · rw [hA] at hs1
      rw [hC] at hs2
      have hn1 : ∀ H', lenD cfg.T H' 23 v1 = some (.int .i64 0) := fun H' => by rw [hs1.len und_23]; rfl
      have hn2 : ∀ H', lenD cfg.T H' 23 v2 = some (.int .i64 0) := fun H' => by rw [hs2.len und_23]; rfl
      subst e4
      simp -dsimp (disch := first | omega | (refine DrawYes.mk ?_; kernel_rfl) | fail) only [go_sem, ↓reduceIte, reduceCtorEq, Nat.reduceEqDiff, Nat.reduceAdd, Nat.reduceLeDiff, Int.reduceLE, Int.reduceLT, Int.reduceBEq, Int.reduceBNe, Int.reduceEq, Nat.reduceBEq, Int.reduceToNat, Nat.reduceLT, Nat.reduceGT, Nat.reduceSub, Nat.reduceMul, Int.reduceAdd, Int.reduceSub, Int.reduceNeg, Int.reduceGE, Int.reduceGT, f0, f2, f7, f8, f10, hA, hC, hn1, hn2, hG3]
      refine Y_loop1 ?_
      simp -dsimp (disch := first | omega | (refine DrawYes.mk ?_; kernel_rfl) | fail) only [go_sem, ↓reduceIte, reduceCtorEq, Nat.reduceEqDiff, Nat.reduceAdd, Nat.reduceLeDiff, Int.reduceLE, Int.reduceLT, Int.reduceBEq, Int.reduceBNe, Int.reduceEq, Nat.reduceBEq, Int.reduceToNat, Nat.reduceLT, Nat.reduceGT, Nat.reduceSub, Nat.reduceMul, Int.reduceAdd, Int.reduceSub, Int.reduceNeg, Int.reduceGE, Int.reduceGT, f0, f2, f7, f8, f10, hA, hC, hn1, hn2, hG3]
    · rw [hA] at hs1
      rw [hC] at hs2
      have hn1 : ∀ H', lenD cfg.T H' 23 v1 = some (.int .i64 0) := fun H' => by rw [hs1.len und_23]; rfl
      have hn2 : ∀ H', lenD cfg.T H' 23 v2 = some (.int .i64 0) := fun H' => by rw [hs2.len und_23]; rfl
      have q1 : ((e : Int) != 0) = true := by simp; omega
      have q2 : ((e : Int) == 0) = false := by simp; omega
      have q3 : ((e : Int) != 4) = true := by simp; omega
      have q4 : (((p + G : Nat) : Int) != (p : Int) + G) = false := by simp
      simp -dsimp (disch := first | omega | (refine DrawYes.mk ?_; kernel_rfl) | fail) only [go_sem, ↓reduceIte, reduceCtorEq, Nat.reduceEqDiff, Nat.reduceAdd, Nat.reduceLeDiff, Int.reduceLE, Int.reduceLT, Int.reduceBEq, Int.reduceBNe, Int.reduceEq, Nat.reduceBEq, Int.reduceToNat, Nat.reduceLT, Nat.reduceGT, Nat.reduceSub, Nat.reduceMul, Int.reduceAdd, Int.reduceSub, Int.reduceNeg, Int.reduceGE, Int.reduceGT, f0, f2, f7, f8, f10, hA, hC, hn1, hn2, hG3, q1, q2, q3, q4]
      refine Y_loop1 ?_
      simp -dsimp (disch := first | omega | (refine DrawYes.mk ?_; kernel_rfl) | fail) only [go_sem, ↓reduceIte, reduceCtorEq, Nat.reduceEqDiff, Nat.reduceAdd, Nat.reduceLeDiff, Int.reduceLE, Int.reduceLT, Int.reduceBEq, Int.reduceBNe, Int.reduceEq, Nat.reduceBEq, Int.reduceToNat, Nat.reduceLT, Nat.reduceGT, Nat.reduceSub, Nat.reduceMul, Int.reduceAdd, Int.reduceSub, Int.reduceNeg, Int.reduceGE, Int.reduceGT, f0, f2, f7, f8, f10, hA, hC, hn1, hn2, hG3]
    · rw [hA] at hs1
      rw [hC] at hs2
      have hn1 : ∀ H', lenD cfg.T H' 23 v1 = some (.int .i64 A.length) := fun H' => by rw [hs1.len und_23, List.length_map]
      have hn2 : ∀ H', lenD cfg.T H' 23 v2 = some (.int .i64 A.length) := fun H' => by rw [hs2.len und_23, List.length_map, List.length_map]
      rcases hs1 with ⟨_, h⟩ | ⟨id1, off1, k1, rfl, _⟩
      · simp at h; subst h; simp at hA2
      rcases hs2 with ⟨_, h⟩ | ⟨id2, off2, k2, rfl, _⟩
      · have := congrArg List.length h; simp at this; subst this; simp at hA2
      simp -dsimp (disch := first | omega | (refine DrawYes.mk ?_; kernel_rfl) | fail) only [go_sem, ↓reduceIte, reduceCtorEq, Nat.reduceEqDiff, Nat.reduceAdd, Nat.reduceLeDiff, Int.reduceLE, Int.reduceLT, Int.reduceBEq, Int.reduceBNe, Int.reduceEq, Nat.reduceBEq, Int.reduceToNat, Nat.reduceLT, Nat.reduceGT, Nat.reduceSub, Nat.reduceMul, Int.reduceAdd, Int.reduceSub, Int.reduceNeg, Int.reduceGE, Int.reduceGT, f0, f2, f7, f8, f10, hA, hC, hn1, hn2, hG3]
      simp only at hn1 hn2
      refine Y_loop (α := Nat) (fun i σ _ => i ≤ A.length ∧ σ 7 = .bool true ∧ σ 8 = .str (35 :: (x ++ [10] ++ y)) ∧ σ 11 = .sl id1 3 off1 (A.map Tok.dv) ∧ σ 14 = .sl id2 3 off2 ((A.map (Tok.sh G)).map Tok.dv) ∧ σ 17 = .int .i64 i) (fun i => A.length - i) 0 ?_ ?_
      · simp -dsimp (disch := first | omega | (refine DrawYes.mk ?_; kernel_rfl) | fail) only [go_sem, ↓reduceIte, reduceCtorEq, Nat.reduceEqDiff, Nat.reduceAdd, Nat.reduceLeDiff, Int.reduceLE, Int.reduceLT, Int.reduceBEq, Int.reduceBNe, Int.reduceEq, Nat.reduceBEq, Int.reduceToNat, Nat.reduceLT, Nat.reduceGT, Nat.reduceSub, Nat.reduceMul, Int.reduceAdd, Int.reduceSub, Int.reduceNeg, Int.reduceGE, Int.reduceGT, f7, f8]
        simp
      rintro i σ H6 ⟨hi, d7, d8, d11, d14, d17⟩
      by_cases hlt : i < A.length
      · have k0 : (i : Int) < A.length := by omega
        have ga : (A.map Tok.dv)[i]? = some (.agg [.int .i64 A[i].kind, .str A[i].text, .int .i64 A[i].pos]) := by rw [List.getElem?_map, List.getElem?_eq_getElem hlt]; rfl
        have gp : A[i].pos ≤ 900 := hAp _ (List.getElem_mem hlt)
        have gc : ((A.map (Tok.sh G)).map Tok.dv)[i]? = some (.agg [.int .i64 A[i].kind, .str A[i].text, .int .i64 (A[i].pos + G)]) := by
          rw [List.map_map, List.getElem?_map, List.getElem?_eq_getElem hlt]
          simp [Tok.dv, Tok.sh]
        simp -dsimp (disch := first | omega | (refine DrawYes.mk ?_; kernel_rfl) | fail) only [go_sem, ↓reduceIte, reduceCtorEq, Nat.reduceEqDiff, Nat.reduceAdd, Nat.reduceLeDiff, Int.reduceLE, Int.reduceLT, Int.reduceBEq, Int.reduceBNe, Int.reduceEq, Nat.reduceBEq, Int.reduceToNat, Nat.reduceLT, Nat.reduceGT, Nat.reduceSub, Nat.reduceMul, Int.reduceAdd, Int.reduceSub, Int.reduceNeg, Int.reduceGE, Int.reduceGT, d7, d8, d11, d14, d17, hn1, hn2, hG3, k0, ga, gc, cellsEq, cellEq, flat_28]
        exact ⟨by omega, by omega, i + 1, ⟨by omega, rfl⟩, by omega⟩
      · have k0 : ¬ (i : Int) < A.length := by omega
        simp -dsimp (disch := first | omega | (refine DrawYes.mk ?_; kernel_rfl) | fail) only [go_sem, ↓reduceIte, reduceCtorEq, Nat.reduceEqDiff, Nat.reduceAdd, Nat.reduceLeDiff, Int.reduceLE, Int.reduceLT, Int.reduceBEq, Int.reduceBNe, Int.reduceEq, Nat.reduceBEq, Int.reduceToNat, Nat.reduceLT, Nat.reduceGT, Nat.reduceSub, Nat.reduceMul, Int.reduceAdd, Int.reduceSub, Int.reduceNeg, Int.reduceGE, Int.reduceGT, d7, d8, d11, d14, d17, hn1, hn2, k0]
theorem lexPassed_ok {s t : List UInt8} {b : UInt8} {H : DH} : WC cfg 4 [.str s, .str t, byteDV b] H fun v H' => v = .bool true := by
  rcases Nat.lt_or_ge 900 s.length with h1 | h1
  · exact lexPassed_long h1
  · exact lexPassed_short h1
end Go.Proofs.Ytdlcfkhpcppejaa.D
