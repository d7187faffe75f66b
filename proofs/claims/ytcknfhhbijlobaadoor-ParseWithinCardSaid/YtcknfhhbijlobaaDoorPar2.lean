import Derived.Test.YtcknfhhbijlobaaDoorPar1
namespace Go.Proofs.YtcknfhhbijlobaaDoor.D
open Go
set_option linter.unusedVariables false
set_option linter.unusedSimpArgs false
set_option maxRecDepth 100000

def numD (s : List UInt8) : Nat := s.foldl (fun n b => n * 10 + (b.toNat - 48)) 0
def isDig (b : UInt8) : Prop := 48 ≤ b.toNat ∧ b.toNat ≤ 57
theorem numD_lt : ∀ (s : List UInt8) (n : Nat), (∀ b ∈ s, isDig b) → s.foldl (fun n b => n * 10 + (b.toNat - 48)) n < (n + 1) * 10 ^ s.length
  | [], n, _ => by simp
  | b :: s, n, h => by
    have hb := h b (by simp)
    have := numD_lt s (n * 10 + (b.toNat - 48)) fun x hx => h x (by simp [hx])
    simp only [List.foldl_cons, List.length_cons, Nat.pow_succ]
    refine Nat.lt_of_lt_of_le this ?_
    unfold isDig at hb
    have : n * 10 + (b.toNat - 48) + 1 ≤ (n + 1) * 10 := by omega
    calc _ ≤ ((n + 1) * 10) * 10 ^ s.length := Nat.mul_le_mul_right _ this
      _ = _ := by rw [Nat.mul_assoc, Nat.mul_comm 10]

theorem atoi0_ok {s : List UInt8} {H : DH} (hd : ∀ b ∈ s, isDig b) (h0 : 0 < s.length) (h9 : s.length ≤ 9) : WC cfg 58 [.str s] H fun v H' => v = .tup [.int .i64 (numD s), .nili] ∧ Ext H H' := by
  refine WC_of (show Has cfg 58 77 [.tmp 2, .tmp 3] _ from ⟨by kernel_rfl, Tryd.f58, Tryd.func58, rfl, rfl, rfl, by kernel_rfl⟩) (by simp) ?_
  have k0 : 0 < (s.length : Int) := by omega
  have k1 : (s.length : Int) < 19 := by omega
  obtain ⟨b0, hb0⟩ : ∃ b, s[0]? = some b := ⟨s[0], List.getElem?_eq_getElem h0⟩
  have hbd := hd b0 (List.mem_of_getElem? hb0)
  unfold isDig at hbd
  have k2 : ((b0.toNat : Int) == 45) = false := by simp; omega
  have k3 : ((b0.toNat : Int) == 43) = false := by simp; omega
  have k4 : s.length < 9223372036854775808 := by omega
  simp -dsimp (disch := first | omega | (refine DrawYes.mk ?_; decide +kernel) | fail) only [go_sem, ↓reduceIte, reduceCtorEq, Nat.reduceEqDiff, Nat.reduceAdd, Nat.reduceLeDiff, Int.reduceLE, Int.reduceLT, Int.reduceBEq, Int.reduceBNe, Int.reduceEq, Nat.reduceBEq, Int.reduceToNat, Nat.reduceLT, Nat.reduceGT, Nat.reduceSub, Nat.reduceMul, Int.reduceAdd, Int.reduceSub, Int.reduceNeg, Int.reduceGE, Int.reduceGT, k0, k1, hb0, k2, k3, k4, List.length_map]
  refine Y_loop (α := Nat) (fun k σ H' => Ext H H' ∧ k ≤ s.length ∧ σ 5 = .str s ∧ σ 6 = .int .i64 (numD (s.take k)) ∧ σ 47 = .sl H.next 1 0 (s.map byteDV) ∧ σ 48 = .int .i64 s.length ∧ σ 49 = .int .i64 k) (fun k => s.length - k) 0 ?_ ?_
  · simp -dsimp (disch := first | omega | (refine DrawYes.mk ?_; decide +kernel) | fail) only [go_sem, ↓reduceIte, reduceCtorEq, Nat.reduceEqDiff, Nat.reduceAdd, Nat.reduceLeDiff, Int.reduceLE, Int.reduceLT, Int.reduceBEq, Int.reduceBNe, Int.reduceEq, Nat.reduceBEq, Int.reduceToNat, Nat.reduceLT, Nat.reduceGT, Nat.reduceSub, Nat.reduceMul, Int.reduceAdd, Int.reduceSub, Int.reduceNeg, Int.reduceGE, Int.reduceGT, List.length_map]
    exact ⟨Ext.refl.new, Nat.zero_le _, rfl⟩
  rintro k σ H1 ⟨hE, hk, g5, g6, g47, g48, g49⟩
  by_cases hlt : k < s.length
  · have q0 : (k : Int) < s.length := by omega
    have hg : s[k]? = some s[k] := List.getElem?_eq_getElem hlt
    have hgm : (s.map byteDV)[k]? = some (.int .u8 s[k].toNat) := by rw [List.getElem?_map, hg]; rfl
    have hdk := hd s[k] (List.getElem_mem hlt)
    have hst : numD (s.take (k + 1)) = numD (s.take k) * 10 + (s[k].toNat - 48) := by
      rw [List.take_add_one, hg]; simp only [numD, Option.toList_some, List.foldl_append, List.foldl_cons, List.foldl_nil]
    have hb := numD_lt (s.take k) 0 fun b hb => hd b (List.mem_of_mem_take hb)
    have hb2 : numD (s.take k) < 10 ^ 9 := by
      refine Nat.lt_of_lt_of_le hb ?_
      rw [Nat.zero_add, Nat.one_mul]
      exact Nat.pow_le_pow_right (by decide) (by simp; omega)
    generalize s[k] = c at hg hgm hdk hst
    unfold isDig at hdk
    have q1 : ¬ (9 : Int) < (c.toNat : Int) - 48 := by omega
    simp -dsimp (disch := first | omega | (refine DrawYes.mk ?_; decide +kernel) | fail) only [go_sem, ↓reduceIte, reduceCtorEq, Nat.reduceEqDiff, Nat.reduceAdd, Nat.reduceLeDiff, Int.reduceLE, Int.reduceLT, Int.reduceBEq, Int.reduceBNe, Int.reduceEq, Nat.reduceBEq, Int.reduceToNat, Nat.reduceLT, Nat.reduceGT, Nat.reduceSub, Nat.reduceMul, Int.reduceAdd, Int.reduceSub, Int.reduceNeg, Int.reduceGE, Int.reduceGT, g5, g6, g47, g48, g49, q0, hgm, q1]
    refine ⟨by omega, k + 1, ⟨hE, by omega, ?_, rfl⟩, by omega⟩
    rw [hst]; congr 1; omega
  · have q0 : ¬ (k : Int) < s.length := by omega
    rw [List.take_of_length_le (by omega)] at g6
    simp -dsimp (disch := first | omega | (refine DrawYes.mk ?_; decide +kernel) | fail) only [go_sem, ↓reduceIte, reduceCtorEq, Nat.reduceEqDiff, Nat.reduceAdd, Nat.reduceLeDiff, Int.reduceLE, Int.reduceLT, Int.reduceBEq, Int.reduceBNe, Int.reduceEq, Nat.reduceBEq, Int.reduceToNat, Nat.reduceLT, Nat.reduceGT, Nat.reduceSub, Nat.reduceMul, Int.reduceAdd, Int.reduceSub, Int.reduceNeg, Int.reduceGE, Int.reduceGT, g5, g6, g47, g48, g49, q0, hb0, k2, k3]
    exact hE
theorem atoi_ok {s : List UInt8} {H : DH} (hd : ∀ b ∈ s, isDig b) (h0 : 0 < s.length) (h9 : s.length ≤ 9) : WC cfg 51 [.str s] H fun v H' => v = .tup [.int .i64 (numD s), .nili] ∧ Ext H H' := by
  refine WC_of (show Has cfg 51 18 [.tmp 2, .tmp 3] _ from ⟨by kernel_rfl, Tryd.f51, Tryd.func51, rfl, rfl, rfl, by kernel_rfl⟩) (by simp) ?_
  simp -dsimp (disch := first | omega | (refine DrawYes.mk ?_; decide +kernel) | fail) only [go_sem, ↓reduceIte, reduceCtorEq, Nat.reduceEqDiff, Nat.reduceAdd, Nat.reduceLeDiff, Int.reduceLE, Int.reduceLT, Int.reduceBEq, Int.reduceBNe, Int.reduceEq, Nat.reduceBEq, Int.reduceToNat, Nat.reduceLT, Nat.reduceGT, Nat.reduceSub, Nat.reduceMul, Int.reduceAdd, Int.reduceSub, Int.reduceNeg, Int.reduceGE, Int.reduceGT]
  refine call (atoi0_ok hd h0 h9) ?_
  rintro _ H1 ⟨rfl, hE⟩
  simp -dsimp (disch := first | omega | (refine DrawYes.mk ?_; decide +kernel) | fail) only [go_sem, ↓reduceIte, reduceCtorEq, Nat.reduceEqDiff, Nat.reduceAdd, Nat.reduceLeDiff, Int.reduceLE, Int.reduceLT, Int.reduceBEq, Int.reduceBNe, Int.reduceEq, Nat.reduceBEq, Int.reduceToNat, Nat.reduceLT, Nat.reduceGT, Nat.reduceSub, Nat.reduceMul, Int.reduceAdd, Int.reduceSub, Int.reduceNeg, Int.reduceGE, Int.reduceGT]
  exact hE
theorem number_ok {s : List UInt8} {H : DH} (hd : ∀ b ∈ s, isDig b) (h0 : 0 < s.length) (h9 : s.length ≤ 9) : WC cfg 39 [.str s, .int .i64 999999999] H fun v H' => v = .tup [.int .i64 (numD s), .bool true] ∧ Ext H H' := by
  refine WC_of (show Has cfg 39 39 [.tmp 4, .tmp 5] _ from ⟨by kernel_rfl, Tryd.f39, Tryd.func39, rfl, rfl, rfl, by kernel_rfl⟩) (by simp) ?_
  have hb := numD_lt s 0 hd
  have hb2 : numD s < 10 ^ 9 := by
    refine Nat.lt_of_lt_of_le hb ?_
    rw [Nat.zero_add, Nat.one_mul]
    exact Nat.pow_le_pow_right (by decide) h9
  simp -dsimp (disch := first | omega | (refine DrawYes.mk ?_; decide +kernel) | fail) only [go_sem, ↓reduceIte, reduceCtorEq, Nat.reduceEqDiff, Nat.reduceAdd, Nat.reduceLeDiff, Int.reduceLE, Int.reduceLT, Int.reduceBEq, Int.reduceBNe, Int.reduceEq, Nat.reduceBEq, Int.reduceToNat, Nat.reduceLT, Nat.reduceGT, Nat.reduceSub, Nat.reduceMul, Int.reduceAdd, Int.reduceSub, Int.reduceNeg, Int.reduceGE, Int.reduceGT]
  refine Y_loop (α := Nat) (fun k σ H' => Ext H H' ∧ k ≤ s.length ∧ H.next < H'.next ∧ H'.m H.next = some (.iter s k) ∧ σ 0 = .str s ∧ σ 1 = .int .i64 999999999 ∧ σ 11 = .ptr H.next 0) (fun k => s.length - k) 0 ?_ ?_
  · simp -dsimp (disch := first | omega | (refine DrawYes.mk ?_; decide +kernel) | fail) only [go_sem, ↓reduceIte, reduceCtorEq, Nat.reduceEqDiff, Nat.reduceAdd, Nat.reduceLeDiff, Int.reduceLE, Int.reduceLT, Int.reduceBEq, Int.reduceBNe, Int.reduceEq, Nat.reduceBEq, Int.reduceToNat, Nat.reduceLT, Nat.reduceGT, Nat.reduceSub, Nat.reduceMul, Int.reduceAdd, Int.reduceSub, Int.reduceNeg, Int.reduceGE, Int.reduceGT]
    exact ⟨Ext.refl.new, Nat.zero_le _, by omega⟩
  rintro k σ H1 ⟨hE, hk, hn, hm, g0, g1, g11⟩
  by_cases hlt : k < s.length
  · have hdk := hd s[k] (List.getElem_mem hlt)
    have hdec := decode_lo hlt (by unfold isDig at hdk; omega)
    generalize s[k] = c at hdk hdec
    unfold isDig at hdk
    have q1 : ¬ (c.toNat : Int) < 48 := by omega
    have q2 : ¬ 57 < (c.toNat : Int) := by omega
    simp -dsimp (disch := first | omega | (refine DrawYes.mk ?_; decide +kernel) | fail) only [go_sem, ↓reduceIte, reduceCtorEq, Nat.reduceEqDiff, Nat.reduceAdd, Nat.reduceLeDiff, Int.reduceLE, Int.reduceLT, Int.reduceBEq, Int.reduceBNe, Int.reduceEq, Nat.reduceBEq, Int.reduceToNat, Nat.reduceLT, Nat.reduceGT, Nat.reduceSub, Nat.reduceMul, Int.reduceAdd, Int.reduceSub, Int.reduceNeg, Int.reduceGE, Int.reduceGT, g0, g1, g11, hm, hlt, hdec, q1, q2]
    exact ⟨k + 1, ⟨hE.set (Nat.le_refl _), by omega, hn, rfl⟩, by omega⟩
  · have q1 : ¬ 9 < (s.length : Int) := by omega
    have q2 : ¬ 999999999 < (numD s : Int) := by omega
    simp -dsimp (disch := first | omega | (refine DrawYes.mk ?_; decide +kernel) | fail) only [go_sem, ↓reduceIte, reduceCtorEq, Nat.reduceEqDiff, Nat.reduceAdd, Nat.reduceLeDiff, Int.reduceLE, Int.reduceLT, Int.reduceBEq, Int.reduceBNe, Int.reduceEq, Nat.reduceBEq, Int.reduceToNat, Nat.reduceLT, Nat.reduceGT, Nat.reduceSub, Nat.reduceMul, Int.reduceAdd, Int.reduceSub, Int.reduceNeg, Int.reduceGE, Int.reduceGT, g0, g1, g11, hm, hlt]
    refine call (atoi_ok hd h0 h9) ?_
    rintro _ H2 ⟨rfl, hE2⟩
    simp -dsimp (disch := first | omega | (refine DrawYes.mk ?_; decide +kernel) | fail) only [go_sem, ↓reduceIte, reduceCtorEq, Nat.reduceEqDiff, Nat.reduceAdd, Nat.reduceLeDiff, Int.reduceLE, Int.reduceLT, Int.reduceBEq, Int.reduceBNe, Int.reduceEq, Nat.reduceBEq, Int.reduceToNat, Nat.reduceLT, Nat.reduceGT, Nat.reduceSub, Nat.reduceMul, Int.reduceAdd, Int.reduceSub, Int.reduceNeg, Int.reduceGE, Int.reduceGT, g0, g1, g11, q1, q2]
    exact hE.trans hE2
end Go.Proofs.YtcknfhhbijlobaaDoor.D
