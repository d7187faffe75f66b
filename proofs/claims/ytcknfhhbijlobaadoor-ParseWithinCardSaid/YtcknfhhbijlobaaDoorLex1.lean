import Derived.Test.YtcknfhhbijlobaaDoorDSeat
import Derived.Test.YtcknfhhbijlobaaDoorDLib
namespace Go.Proofs.YtcknfhhbijlobaaDoor.D
open Go
set_option linter.unusedVariables false
set_option linter.unusedSimpArgs false
set_option maxRecDepth 100000

theorem run_ok {s set r : List UInt8} {H : DH} (h : ∀ H, WC cfg 44 [.str s, .str set] H fun v H' => v = .str r ∧ Ext H H') (hl : r.length ≤ s.length) (hs : s.length < 9223372036854775808) :
   WC cfg 30 [.str s, .str set] H fun v H' => v = .int .i64 (s.length - r.length) ∧ Ext H H' := by
  refine WC_of (show Has cfg 30 12 [.tmp 4] _ from ⟨by kernel_rfl, Tryd.f30, Tryd.func30, rfl, rfl, rfl, by kernel_rfl⟩) (by simp) ?_
  simp -dsimp (disch := first | omega | (refine DrawYes.mk ?_; decide +kernel) | fail) only [go_sem, ↓reduceIte, reduceCtorEq, Nat.reduceEqDiff, Nat.reduceAdd, Nat.reduceLeDiff, Int.reduceLE, Int.reduceLT, Int.reduceBEq, Int.reduceBNe, Int.reduceEq, Nat.reduceBEq, Int.reduceToNat, Nat.reduceLT, Nat.reduceGT, Nat.reduceSub, Nat.reduceMul, Int.reduceAdd, Int.reduceSub, Int.reduceNeg, Int.reduceGE, Int.reduceGT]
  refine call (h H) ?_
  rintro _ H' ⟨rfl, hE⟩
  simp -dsimp (disch := first | omega | (refine DrawYes.mk ?_; decide +kernel) | fail) only [go_sem, ↓reduceIte, reduceCtorEq, Nat.reduceEqDiff, Nat.reduceAdd, Nat.reduceLeDiff, Int.reduceLE, Int.reduceLT, Int.reduceBEq, Int.reduceBNe, Int.reduceEq, Nat.reduceBEq, Int.reduceToNat, Nat.reduceLT, Nat.reduceGT, Nat.reduceSub, Nat.reduceMul, Int.reduceAdd, Int.reduceSub, Int.reduceNeg, Int.reduceGE, Int.reduceGT]
  exact hE
theorem cutLeft_ok {s set : List UInt8} {H : DH} (hset : ∀ b ∈ set, b.toNat < 128) : WC cfg 44 [.str s, .str set] H fun v H' => v = .str (s.dropWhile fun b => set.contains b) ∧ Ext H H' := by
  refine WC_of (show Has cfg 44 32 [.tmp 4] _ from ⟨by kernel_rfl, Tryd.f44, Tryd.func44, rfl, rfl, rfl, by kernel_rfl⟩) (by simp) ?_
  simp -dsimp (disch := first | omega | (refine DrawYes.mk ?_; decide +kernel) | fail) only [go_sem, ↓reduceIte, reduceCtorEq, Nat.reduceEqDiff, Nat.reduceAdd, Nat.reduceLeDiff, Int.reduceLE, Int.reduceLT, Int.reduceBEq, Int.reduceBNe, Int.reduceEq, Nat.reduceBEq, Int.reduceToNat, Nat.reduceLT, Nat.reduceGT, Nat.reduceSub, Nat.reduceMul, Int.reduceAdd, Int.reduceSub, Int.reduceNeg, Int.reduceGE, Int.reduceGT]
  refine Y_loop (α := Nat) (fun k σ H' => k ≤ s.length ∧ (∀ b ∈ s.take k, set.contains b = true) ∧ Ext H H' ∧ σ 0 = .str s ∧ σ 1 = .str set ∧ ∃ b, σ 11 = .ptr b 0 ∧ H.next ≤ b ∧ b < H'.next ∧ H'.m b = some (.iter s k)) (fun k => s.length - k) 0 ?_ ?_
  · refine ⟨Nat.zero_le _, by simp, Ext.refl.new, ?_⟩
    simp -dsimp (disch := first | omega | (refine DrawYes.mk ?_; decide +kernel) | fail) only [go_sem, ↓reduceIte, reduceCtorEq, Nat.reduceEqDiff, Nat.reduceAdd, Nat.reduceLeDiff, Int.reduceLE, Int.reduceLT, Int.reduceBEq, Int.reduceBNe, Int.reduceEq, Nat.reduceBEq, Int.reduceToNat, Nat.reduceLT, Nat.reduceGT, Nat.reduceSub, Nat.reduceMul, Int.reduceAdd, Int.reduceSub, Int.reduceNeg, Int.reduceGE, Int.reduceGT]
    refine ⟨_, rfl, ?_⟩
    simp [new_m, new_next]
  · rintro k σ H1 ⟨hk, htk, hE, h0, h1, b, hb, hbl, hbn, hm⟩
    simp -dsimp (disch := first | omega | (refine DrawYes.mk ?_; decide +kernel) | fail) only [go_sem, ↓reduceIte, reduceCtorEq, Nat.reduceEqDiff, Nat.reduceAdd, Nat.reduceLeDiff, Int.reduceLE, Int.reduceLT, Int.reduceBEq, Int.reduceBNe, Int.reduceEq, Nat.reduceBEq, Int.reduceToNat, Nat.reduceLT, Nat.reduceGT, Nat.reduceSub, Nat.reduceMul, Int.reduceAdd, Int.reduceSub, Int.reduceNeg, Int.reduceGE, Int.reduceGT, h0, h1, hb, hm]
    refine ⟨fun hlt => ?_, fun hlt => ?_⟩
    · refine Y_loop (α := Nat) (fun j σ H' => j ≤ set.length ∧ σ 7 = .bool ((set.take j).any fun d => d.toNat == (Utf8.decode ⟨s.toArray⟩ k).1) ∧ Ext H H' ∧ σ 0 = .str s ∧ σ 1 = .str set ∧ σ 5 = .int .i64 k ∧ σ 6 = .int .i32 (Utf8.decode ⟨s.toArray⟩ k).1 ∧ σ 11 = .ptr b 0 ∧ b < H'.next ∧ H'.m b = some (.iter s (k + (Utf8.decode ⟨s.toArray⟩ k).2)) ∧ ∃ c, σ 17 = .ptr c 0 ∧ b < c ∧ c < H'.next ∧ H'.m c = some (.iter set j)) (fun j => set.length - j) 0 ?_ ?_
      · simp -dsimp (disch := first | omega | (refine DrawYes.mk ?_; decide +kernel) | fail) only [go_sem, ↓reduceIte, reduceCtorEq, Nat.reduceEqDiff, Nat.reduceAdd, Nat.reduceLeDiff, Int.reduceLE, Int.reduceLT, Int.reduceBEq, Int.reduceBNe, Int.reduceEq, Nat.reduceBEq, Int.reduceToNat, Nat.reduceLT, Nat.reduceGT, Nat.reduceSub, Nat.reduceMul, Int.reduceAdd, Int.reduceSub, Int.reduceNeg, Int.reduceGE, Int.reduceGT, h0, h1, hb, hm]
        simp [new_m, new_next, set_m, set_next, Nat.ne_of_lt hbn, hbn, Nat.lt_succ_of_lt hbn]
        exact (hE.set hbl).new
      · rintro j σ H2 ⟨hj, h7, hE2, h0, h1, h5, h6, hb, hbn, hm, c, hc, hcb, hcn, hm2⟩
        have hcb2 : c ≠ b := by omega
        have step : j < set.length → (set.take (j + 1)).any (fun d => d.toNat == (Utf8.decode ⟨s.toArray⟩ k).1) = ((set.take j).any (fun d => d.toNat == (Utf8.decode ⟨s.toArray⟩ k).1) || ((Utf8.decode ⟨set.toArray⟩ j).1 == (Utf8.decode ⟨s.toArray⟩ k).1)) ∧ (Utf8.decode ⟨set.toArray⟩ j).2 = 1 := by
          intro hj
          rw [decode_lo hj (hset _ (List.getElem_mem hj)), List.take_add_one, List.getElem?_eq_getElem hj, List.any_append]
          simp
        cases hq : (set.take j).any fun d => d.toNat == (Utf8.decode ⟨s.toArray⟩ k).1 with
        | true =>
          simp -dsimp (disch := first | omega | (refine DrawYes.mk ?_; decide +kernel) | fail) only [go_sem, ↓reduceIte, reduceCtorEq, Nat.reduceEqDiff, Nat.reduceAdd, Nat.reduceLeDiff, Int.reduceLE, Int.reduceLT, Int.reduceBEq, Int.reduceBNe, Int.reduceEq, Nat.reduceBEq, Int.reduceToNat, Nat.reduceLT, Nat.reduceGT, Nat.reduceSub, Nat.reduceMul, Int.reduceAdd, Int.reduceSub, Int.reduceNeg, Int.reduceGE, Int.reduceGT, h0, h1, h5, hb, hc, hm2, h7, h6, hq]
          refine ⟨fun hj => ?_, fun hj => ?_⟩
          · obtain ⟨s1, s2⟩ := step hj
            refine ⟨j + 1, ⟨by omega, by rw [s1, hq]; rfl, hE2.set (by omega), hbn, ?_, c, rfl, hcb, hcn, by rw [if_pos rfl, s2]⟩, by omega⟩
            rw [if_neg (Ne.symm hcb2), hm]
          · have hall : set.take j = set := List.take_of_length_le (by omega)
            obtain ⟨d1, d2⟩ := decode_in hset hlt
            rw [hall, d1] at hq
            rw [d2 hq] at hm
            refine ⟨k + 1, ⟨by omega, ?_, hE2, b, rfl, hbl, hbn, hm⟩, by omega⟩
            rw [List.take_add_one, List.getElem?_eq_getElem hlt]
            intro x hx
            rcases List.mem_append.1 hx with hx | hx
            · exact htk x hx
            · simp at hx; subst hx; exact hq
        | false =>
          simp -dsimp (disch := first | omega | (refine DrawYes.mk ?_; decide +kernel) | fail) only [go_sem, ↓reduceIte, reduceCtorEq, Nat.reduceEqDiff, Nat.reduceAdd, Nat.reduceLeDiff, Int.reduceLE, Int.reduceLT, Int.reduceBEq, Int.reduceBNe, Int.reduceEq, Nat.reduceBEq, Int.reduceToNat, Nat.reduceLT, Nat.reduceGT, Nat.reduceSub, Nat.reduceMul, Int.reduceAdd, Int.reduceSub, Int.reduceNeg, Int.reduceGE, Int.reduceGT, h0, h1, h5, hb, hc, hm2, h7, h6, hq]
          refine ⟨fun hj => ?_, fun hj => ?_⟩
          · obtain ⟨s1, s2⟩ := step hj
            refine ⟨j + 1, ⟨by omega, ?_, hE2.set (by omega), hbn, ?_, c, rfl, hcb, hcn, by rw [if_pos rfl, s2]⟩, by omega⟩
            · rw [s1, hq, Bool.false_or, Bool.beq_comm]
              congr 1
              rw [Bool.eq_iff_iff]; simp only [beq_iff_eq]; omega
            · rw [if_neg (Ne.symm hcb2), hm]
          · have hall : set.take j = set := List.take_of_length_le (by omega)
            obtain ⟨d1, d2⟩ := decode_in hset hlt
            rw [hall, d1] at hq
            exact ⟨⟨by omega, by omega⟩, by rw [dropWhile_at hlt htk hq], hE2⟩
    · refine ⟨?_, hE⟩
      rw [List.take_of_length_le (by omega)] at htk
      rw [dropWhile_all htk]
end Go.Proofs.YtcknfhhbijlobaaDoor.D
