import Derived.Test.YtcknfhhbijlobaaDoorPar6
namespace Go.Proofs.YtcknfhhbijlobaaDoor.D
open Go
set_option linter.unusedVariables false
set_option linter.unusedSimpArgs false
set_option maxRecDepth 100000

theorem one1_ok {tb : Nat} {s tx : List UInt8} {kd pos : DV} {H : DH} (ht : tb < H.next) (hm : H.m tb = some (.cells 52 [kd, .str tx, pos])) (hs : s.length < 100) (h9 : (9 : UInt8) ∉ s) (hw : s = [] ∨ ∃ h r, wordsB s = h :: r) :
    WC cfg 37 [.str s, .ptr tb 0] H fun v H' => v = .bool (!s.isEmpty && ((wordsB s).headD [] == tx)) ∧ Ext H H' := by
  refine WC_of (show Has cfg 37 15 [.tmp 3] _ from ⟨by kernel_rfl, Tryd.f37, Tryd.func37, rfl, rfl, rfl, by kernel_rfl⟩) (by simp) ?_
  simp -dsimp (disch := first | omega | (refine DrawYes.mk ?_; decide +kernel) | fail) only [go_sem, ↓reduceIte, reduceCtorEq, Nat.reduceEqDiff, Nat.reduceAdd, Nat.reduceLeDiff, Int.reduceLE, Int.reduceLT, Int.reduceBEq, Int.reduceBNe, Int.reduceEq, Nat.reduceBEq, Int.reduceToNat, Nat.reduceLT, Nat.reduceGT, Nat.reduceSub, Nat.reduceMul, Int.reduceAdd, Int.reduceSub, Int.reduceNeg, Int.reduceGE, Int.reduceGT]
  refine Y_float [(8, 0, 8)] (by decide +kernel) ?_
  rcases hw with rfl | ⟨h, r, hw⟩
  · simp -dsimp (disch := first | omega | (refine DrawYes.mk ?_; decide +kernel) | fail) only [go_sem, ↓reduceIte, reduceCtorEq, Nat.reduceEqDiff, Nat.reduceAdd, Nat.reduceLeDiff, Int.reduceLE, Int.reduceLT, Int.reduceBEq, Int.reduceBNe, Int.reduceEq, Nat.reduceBEq, Int.reduceToNat, Nat.reduceLT, Nat.reduceGT, Nat.reduceSub, Nat.reduceMul, Int.reduceAdd, Int.reduceSub, Int.reduceNeg, Int.reduceGE, Int.reduceGT, hm]
    exact ⟨by simp, Ext.refl⟩
  · have hne : (s == []) = false := by
      cases s with
      | nil => simp [wordsB, splitC] at hw
      | cons a l => rfl
    simp -dsimp (disch := first | omega | (refine DrawYes.mk ?_; decide +kernel) | fail) only [go_sem, ↓reduceIte, reduceCtorEq, Nat.reduceEqDiff, Nat.reduceAdd, Nat.reduceLeDiff, Int.reduceLE, Int.reduceLT, Int.reduceBEq, Int.reduceBNe, Int.reduceEq, Nat.reduceBEq, Int.reduceToNat, Nat.reduceLT, Nat.reduceGT, Nat.reduceSub, Nat.reduceMul, Int.reduceAdd, Int.reduceSub, Int.reduceNeg, Int.reduceGE, Int.reduceGT, hm, hne]
    refine call (words_ok (by omega) h9) ?_
    rintro v H1 ⟨hE, hsl⟩
    have hm1 := hE.get ht hm
    rw [hw] at hsl
    rcases hsl with ⟨_, g⟩ | ⟨id, off, k, rfl, _⟩
    · simp at g
    have hee : s.isEmpty = false := by
      cases s with
      | nil => simp at hne
      | cons a l => rfl
    simp -dsimp (disch := first | omega | (refine DrawYes.mk ?_; decide +kernel) | fail) only [go_sem, ↓reduceIte, reduceCtorEq, Nat.reduceEqDiff, Nat.reduceAdd, Nat.reduceLeDiff, Int.reduceLE, Int.reduceLT, Int.reduceBEq, Int.reduceBNe, Int.reduceEq, Nat.reduceBEq, Int.reduceToNat, Nat.reduceLT, Nat.reduceGT, Nat.reduceSub, Nat.reduceMul, Int.reduceAdd, Int.reduceSub, Int.reduceNeg, Int.reduceGE, Int.reduceGT, hm, hm1, hne, List.map_cons, hw, List.headD_cons, hee]
    exact hE
theorem shapes_at : ∀ k, k < 18 → (shapeL k).length < 100 ∧ (9 : UInt8) ∉ shapeL k ∧ ((shapeL k).isEmpty = (headsL.getD k []).isEmpty) ∧ (wordsB (shapeL k)).headD [] = headsL.getD k [] ∧ (shapeL k = [] ∨ wordsB (shapeL k) ≠ []) := by decide
def predT (tx h : List UInt8) : Bool := !h.isEmpty && h == tx
def kindI (tx : List UInt8) : Int := match kindT tx with | some i => i | none => -1
theorem idxFunc_ok {tb id off : Nat} {tx : List UInt8} {kd pos : DV} {H : DH} (ht : tb < H.next) (hm : H.m tb = some (.cells 52 [kd, .str tx, pos])) :
    WC cfg 36 [.sl id 1 off (shapesL.map DV.str), .fn (.func 37) [] [.ptr tb 0]] H fun v H' => v = .int .i64 (kindI tx) ∧ Ext H H' := by
  refine WC_of (show Has cfg 36 19 [.tmp 4] _ from ⟨by kernel_rfl, Tryd.f36, Tryd.func36, rfl, rfl, rfl, by kernel_rfl⟩) (by simp) ?_
  have hl18 : (shapesL.map DV.str).length = 18 := rfl
  simp -dsimp (disch := first | omega | (refine DrawYes.mk ?_; decide +kernel) | fail) only [go_sem, ↓reduceIte, reduceCtorEq, Nat.reduceEqDiff, Nat.reduceAdd, Nat.reduceLeDiff, Int.reduceLE, Int.reduceLT, Int.reduceBEq, Int.reduceBNe, Int.reduceEq, Nat.reduceBEq, Int.reduceToNat, Nat.reduceLT, Nat.reduceGT, Nat.reduceSub, Nat.reduceMul, Int.reduceAdd, Int.reduceSub, Int.reduceNeg, Int.reduceGE, Int.reduceGT, hl18]
  refine Y_loop (α := Nat) (fun k σ H' => Ext H H' ∧ k ≤ 18 ∧ (∀ y ∈ headsL.take k, predT tx y = false) ∧ σ 0 = .sl id 1 off (shapesL.map DV.str) ∧ σ 1 = .fn (.func 37) [] [.ptr tb 0] ∧ σ 6 = .sl id 1 off (shapesL.map DV.str) ∧ σ 7 = .int .i64 18 ∧ σ 8 = .int .i64 k) (fun k => 18 - k) 0 ?_ ?_
  · simp -dsimp (disch := first | omega | (refine DrawYes.mk ?_; decide +kernel) | fail) only [go_sem, ↓reduceIte, reduceCtorEq, Nat.reduceEqDiff, Nat.reduceAdd, Nat.reduceLeDiff, Int.reduceLE, Int.reduceLT, Int.reduceBEq, Int.reduceBNe, Int.reduceEq, Nat.reduceBEq, Int.reduceToNat, Nat.reduceLT, Nat.reduceGT, Nat.reduceSub, Nat.reduceMul, Int.reduceAdd, Int.reduceSub, Int.reduceNeg, Int.reduceGE, Int.reduceGT, hl18]
    exact ⟨Ext.refl, by simp⟩
  rintro k σ H1 ⟨hE, hk, hn, g0, g1, g6, g7, g8⟩
  by_cases hlt : k < 18
  · have k0 : (k : Int) < 18 := by omega
    have hgs : (shapesL.map DV.str)[k]? = some (.str (shapeL k)) := by
      have : k < shapesL.length := hlt
      rw [List.getElem?_map, List.getElem?_eq_getElem this]
      simp [shapeL, List.getD, this]
    have hgh : headsL[k]? = some (headsL.getD k []) := by
      have : k < headsL.length := hlt
      rw [List.getElem?_eq_getElem this]
      simp [List.getD, this]
    obtain ⟨a1, a2, a3, a4, a5⟩ := shapes_at k hlt
    simp -dsimp (disch := first | omega | (refine DrawYes.mk ?_; decide +kernel) | fail) only [go_sem, ↓reduceIte, reduceCtorEq, Nat.reduceEqDiff, Nat.reduceAdd, Nat.reduceLeDiff, Int.reduceLE, Int.reduceLT, Int.reduceBEq, Int.reduceBNe, Int.reduceEq, Nat.reduceBEq, Int.reduceToNat, Nat.reduceLT, Nat.reduceGT, Nat.reduceSub, Nat.reduceMul, Int.reduceAdd, Int.reduceSub, Int.reduceNeg, Int.reduceGE, Int.reduceGT, g0, g1, g6, g7, g8, k0, hgs]
    refine ⟨by omega, call (one1_ok (by have := hE.le; omega) (hE.get ht hm) a1 a2 ?_) ?_⟩
    · rcases a5 with h | h
      · exact .inl h
      · cases hw : wordsB (shapeL k) with
        | nil => exact absurd hw h
        | cons a l => exact .inr ⟨_, _, rfl⟩
    rintro _ H2 ⟨rfl, hE2⟩
    rw [a3, a4, show (!(headsL.getD k []).isEmpty && (headsL.getD k [] == tx)) = predT tx (headsL.getD k []) from rfl]
    cases hpr : predT tx (headsL.getD k []) with
    | true =>
      simp -dsimp (disch := first | omega | (refine DrawYes.mk ?_; decide +kernel) | fail) only [go_sem, ↓reduceIte, reduceCtorEq, Nat.reduceEqDiff, Nat.reduceAdd, Nat.reduceLeDiff, Int.reduceLE, Int.reduceLT, Int.reduceBEq, Int.reduceBNe, Int.reduceEq, Nat.reduceBEq, Int.reduceToNat, Nat.reduceLT, Nat.reduceGT, Nat.reduceSub, Nat.reduceMul, Int.reduceAdd, Int.reduceSub, Int.reduceNeg, Int.reduceGE, Int.reduceGT, g0, g1, g6, g7, g8, k0, hgs]
      refine ⟨?_, hE.trans hE2⟩
      have : kindT tx = some k := findIdx_at hgh hpr hn
      rw [kindI, this]
    | false =>
      simp -dsimp (disch := first | omega | (refine DrawYes.mk ?_; decide +kernel) | fail) only [go_sem, ↓reduceIte, reduceCtorEq, Nat.reduceEqDiff, Nat.reduceAdd, Nat.reduceLeDiff, Int.reduceLE, Int.reduceLT, Int.reduceBEq, Int.reduceBNe, Int.reduceEq, Nat.reduceBEq, Int.reduceToNat, Nat.reduceLT, Nat.reduceGT, Nat.reduceSub, Nat.reduceMul, Int.reduceAdd, Int.reduceSub, Int.reduceNeg, Int.reduceGE, Int.reduceGT, g0, g1, g6, g7, g8, k0, hgs]
      refine ⟨k + 1, ⟨hE.trans hE2, by omega, ?_, rfl⟩, by omega⟩
      intro y hy
      rw [List.take_add_one, hgh] at hy
      rcases List.mem_append.1 hy with hy | hy
      · exact hn y hy
      · simp only [Option.toList_some, List.mem_singleton] at hy; subst hy; exact hpr
  · have k0 : ¬ (k : Int) < 18 := by omega
    simp -dsimp (disch := first | omega | (refine DrawYes.mk ?_; decide +kernel) | fail) only [go_sem, ↓reduceIte, reduceCtorEq, Nat.reduceEqDiff, Nat.reduceAdd, Nat.reduceLeDiff, Int.reduceLE, Int.reduceLT, Int.reduceBEq, Int.reduceBNe, Int.reduceEq, Nat.reduceBEq, Int.reduceToNat, Nat.reduceLT, Nat.reduceGT, Nat.reduceSub, Nat.reduceMul, Int.reduceAdd, Int.reduceSub, Int.reduceNeg, Int.reduceGE, Int.reduceGT, g0, g1, g6, g7, g8, k0]
    refine ⟨?_, hE⟩
    rw [List.take_of_length_le (show headsL.length ≤ k by have : headsL.length = 18 := rfl; omega)] at hn
    have : kindT tx = none := findIdx_no hn
    rw [kindI, this]
end Go.Proofs.YtcknfhhbijlobaaDoor.D
