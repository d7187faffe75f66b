import Derived.Test.YtcknfhhbijlobaaDoorLex1
namespace Go.Proofs.YtcknfhhbijlobaaDoor.D
open Go
set_option linter.unusedVariables false
set_option linter.unusedSimpArgs false
set_option maxRecDepth 100000

theorem indexByte0_ok {s : List UInt8} {c : UInt8} {H : DH} : WC cfg 43 [.str s, byteDV c] H fun v H' => v = .int .i64 (Lib.indexByte s c) ∧ H' = H := by
  refine WC_of (show Has cfg 43 8 [.tmp 4] _ from ⟨by kernel_rfl, Tryd.f43, Tryd.func43, rfl, rfl, rfl, by kernel_rfl⟩) (by simp) ?_
  simp -dsimp (disch := first | omega | (refine DrawYes.mk ?_; decide +kernel) | fail) only [go_sem, ↓reduceIte, reduceCtorEq, Nat.reduceEqDiff, Nat.reduceAdd, Nat.reduceLeDiff, Int.reduceLE, Int.reduceLT, Int.reduceBEq, Int.reduceBNe, Int.reduceEq, Nat.reduceBEq, Int.reduceToNat, Nat.reduceLT, Nat.reduceGT, Nat.reduceSub, Nat.reduceMul, Int.reduceAdd, Int.reduceSub, Int.reduceNeg, Int.reduceGE, Int.reduceGT]
  refine call (K := fun v H' => v = .int .i64 (Lib.indexByte s c) ∧ H' = H) ((WC_ext rfl).2 ⟨_, _, rfl, by rw [u8_back], rfl⟩) ?_
  rintro _ _ ⟨rfl, rfl⟩
  simp -dsimp (disch := first | omega | (refine DrawYes.mk ?_; decide +kernel) | fail) only [go_sem, ↓reduceIte, reduceCtorEq, Nat.reduceEqDiff, Nat.reduceAdd, Nat.reduceLeDiff, Int.reduceLE, Int.reduceLT, Int.reduceBEq, Int.reduceBNe, Int.reduceEq, Nat.reduceBEq, Int.reduceToNat, Nat.reduceLT, Nat.reduceGT, Nat.reduceSub, Nat.reduceMul, Int.reduceAdd, Int.reduceSub, Int.reduceNeg, Int.reduceGE, Int.reduceGT]
theorem indexByte_ok {s : List UInt8} {c : UInt8} {H : DH} : WC cfg 29 [.str s, byteDV c] H fun v H' => v = .int .i64 (Lib.indexByte s c) ∧ H' = H := by
  refine WC_of (show Has cfg 29 8 [.tmp 4] _ from ⟨by kernel_rfl, Tryd.f29, Tryd.func29, rfl, rfl, rfl, by kernel_rfl⟩) (by simp) ?_
  simp -dsimp (disch := first | omega | (refine DrawYes.mk ?_; decide +kernel) | fail) only [go_sem, ↓reduceIte, reduceCtorEq, Nat.reduceEqDiff, Nat.reduceAdd, Nat.reduceLeDiff, Int.reduceLE, Int.reduceLT, Int.reduceBEq, Int.reduceBNe, Int.reduceEq, Nat.reduceBEq, Int.reduceToNat, Nat.reduceLT, Nat.reduceGT, Nat.reduceSub, Nat.reduceMul, Int.reduceAdd, Int.reduceSub, Int.reduceNeg, Int.reduceGE, Int.reduceGT]
  refine call indexByte0_ok ?_
  rintro _ _ ⟨rfl, rfl⟩
  simp -dsimp (disch := first | omega | (refine DrawYes.mk ?_; decide +kernel) | fail) only [go_sem, ↓reduceIte, reduceCtorEq, Nat.reduceEqDiff, Nat.reduceAdd, Nat.reduceLeDiff, Int.reduceLE, Int.reduceLT, Int.reduceBEq, Int.reduceBNe, Int.reduceEq, Nat.reduceBEq, Int.reduceToNat, Nat.reduceLT, Nat.reduceGT, Nat.reduceSub, Nat.reduceMul, Int.reduceAdd, Int.reduceSub, Int.reduceNeg, Int.reduceGE, Int.reduceGT]
theorem index1_ok {s : List UInt8} {c : UInt8} {H : DH} : WC cfg 54 [.str s, .str [c]] H fun v H' => v = .int .i64 (Lib.indexByte s c) ∧ H' = H := by
  refine WC_of (show Has cfg 54 143 [.tmp 4] _ from ⟨by kernel_rfl, Tryd.f54, Tryd.func54, rfl, rfl, rfl, by kernel_rfl⟩) (by simp) ?_
  simp -dsimp (disch := first | omega | (refine DrawYes.mk ?_; decide +kernel) | fail) only [go_sem, ↓reduceIte, reduceCtorEq, Nat.reduceEqDiff, Nat.reduceAdd, Nat.reduceLeDiff, Int.reduceLE, Int.reduceLT, Int.reduceBEq, Int.reduceBNe, Int.reduceEq, Nat.reduceBEq, Int.reduceToNat, Nat.reduceLT, Nat.reduceGT, Nat.reduceSub, Nat.reduceMul, Int.reduceAdd, Int.reduceSub, Int.reduceNeg, Int.reduceGE, Int.reduceGT]
  refine ⟨?_, fun _ => call indexByte0_ok ?_⟩
  · rintro rfl; simp [Lib.indexByte]
  rintro _ _ ⟨rfl, rfl⟩
  simp -dsimp (disch := first | omega | (refine DrawYes.mk ?_; decide +kernel) | fail) only [go_sem, ↓reduceIte, reduceCtorEq, Nat.reduceEqDiff, Nat.reduceAdd, Nat.reduceLeDiff, Int.reduceLE, Int.reduceLT, Int.reduceBEq, Int.reduceBNe, Int.reduceEq, Nat.reduceBEq, Int.reduceToNat, Nat.reduceLT, Nat.reduceGT, Nat.reduceSub, Nat.reduceMul, Int.reduceAdd, Int.reduceSub, Int.reduceNeg, Int.reduceGE, Int.reduceGT]
theorem cut0_ok {s : List UInt8} {c : UInt8} {H : DH} (hs : s.length < 9223372036854775807) : WC cfg 45 [.str s, .str [c]] H fun v H' => (∃ x b, v = .tup [.str (s.takeWhile (· != c)), x, b]) ∧ H' = H := by
  refine WC_of (show Has cfg 45 23 [.tmp 4, .tmp 5, .tmp 6] _ from ⟨by kernel_rfl, Tryd.f45, Tryd.func45, rfl, rfl, rfl, by kernel_rfl⟩) (by simp) ?_
  simp -dsimp (disch := first | omega | (refine DrawYes.mk ?_; decide +kernel) | fail) only [go_sem, ↓reduceIte, reduceCtorEq, Nat.reduceEqDiff, Nat.reduceAdd, Nat.reduceLeDiff, Int.reduceLE, Int.reduceLT, Int.reduceBEq, Int.reduceBNe, Int.reduceEq, Nat.reduceBEq, Int.reduceToNat, Nat.reduceLT, Nat.reduceGT, Nat.reduceSub, Nat.reduceMul, Int.reduceAdd, Int.reduceSub, Int.reduceNeg, Int.reduceGE, Int.reduceGT]
  refine call index1_ok ?_
  rintro _ _ ⟨rfl, rfl⟩
  have hl := idx_lt (s := s) (c := c)
  simp -dsimp (disch := first | omega | (refine DrawYes.mk ?_; decide +kernel) | fail) only [go_sem, ↓reduceIte, reduceCtorEq, Nat.reduceEqDiff, Nat.reduceAdd, Nat.reduceLeDiff, Int.reduceLE, Int.reduceLT, Int.reduceBEq, Int.reduceBNe, Int.reduceEq, Nat.reduceBEq, Int.reduceToNat, Nat.reduceLT, Nat.reduceGT, Nat.reduceSub, Nat.reduceMul, Int.reduceAdd, Int.reduceSub, Int.reduceNeg, Int.reduceGE, Int.reduceGT]
  refine ⟨fun h => ?_, fun h => ?_⟩
  · have h' := h
    rw [idx_ge'] at h'
    have hlt : Lib.indexByte s c < s.length := by rcases hl with hl | rfl; exact hl; cases h'
    rw [wrap_i64 (by omega) (by omega)]
    refine ⟨⟨h, by omega⟩, ⟨by omega, by omega⟩, .str (s.drop (Lib.indexByte s c + 1).toNat), .bool true, ?_⟩
    rw [idx_mem h', Int.toNat_natCast, take_tw]
  · rw [idx_ge'] at h
    exact ⟨_, _, by rw [tw_not h]⟩
theorem cut_ok {s : List UInt8} {c : UInt8} {H : DH} (hs : s.length < 9223372036854775807) : WC cfg 31 [.str s, .str [c]] H fun v H' => (∃ x b, v = .tup [.str (s.takeWhile (· != c)), x, b]) ∧ H' = H := by
  refine WC_of (show Has cfg 31 13 [.tmp 4, .tmp 5, .tmp 6] _ from ⟨by kernel_rfl, Tryd.f31, Tryd.func31, rfl, rfl, rfl, by kernel_rfl⟩) (by simp) ?_
  simp -dsimp (disch := first | omega | (refine DrawYes.mk ?_; decide +kernel) | fail) only [go_sem, ↓reduceIte, reduceCtorEq, Nat.reduceEqDiff, Nat.reduceAdd, Nat.reduceLeDiff, Int.reduceLE, Int.reduceLT, Int.reduceBEq, Int.reduceBNe, Int.reduceEq, Nat.reduceBEq, Int.reduceToNat, Nat.reduceLT, Nat.reduceGT, Nat.reduceSub, Nat.reduceMul, Int.reduceAdd, Int.reduceSub, Int.reduceNeg, Int.reduceGE, Int.reduceGT]
  refine call (cut0_ok hs) ?_
  rintro _ _ ⟨⟨x, b, rfl⟩, rfl⟩
  simp -dsimp (disch := first | omega | (refine DrawYes.mk ?_; decide +kernel) | fail) only [go_sem, ↓reduceIte, reduceCtorEq, Nat.reduceEqDiff, Nat.reduceAdd, Nat.reduceLeDiff, Int.reduceLE, Int.reduceLT, Int.reduceBEq, Int.reduceBNe, Int.reduceEq, Nat.reduceBEq, Int.reduceToNat, Nat.reduceLT, Nat.reduceGT, Nat.reduceSub, Nat.reduceMul, Int.reduceAdd, Int.reduceSub, Int.reduceNeg, Int.reduceGE, Int.reduceGT]
  exact ⟨_, _, rfl⟩

/-- A builder that holds these bytes. -/
def Bld (lo : Nat) (H : DH) (b : Nat) (s : List UInt8) : Prop :=
  ∃ a buf, H.m b = some (.cells 86 [a, buf]) ∧ (a = .nilp ∨ a = .ptr b 0) ∧ IsSl lo H 5 1 buf (s.map byteDV) ∧ lo ≤ b ∧ b < H.next
/-- Of what was there, nothing has changed but that block and slices. -/
structure Keep (lo b : Nat) (H H' : DH) : Prop where
  le : H.next ≤ H'.next
  low : ∀ i, i < lo → H'.m i = H.m i
  rest : ∀ i o, i < H.next → i ≠ b → H.m i = some o → (∀ T n c, o ≠ .tip T n c) → H'.m i = some o
theorem lies_b : cfg.T.lies 86 2 0 86 = true := by kernel_rfl
theorem copyCheck_ok {lo b : Nat} {s : List UInt8} {H : DH} (h : Bld lo H b s) : WC cfg 55 [.ptr b 0] H fun v H' => Bld lo H' b s ∧ Keep lo b H H' := by
  obtain ⟨a, buf, h1, h2, h3, h4, h5⟩ := h
  refine WC_of (show Has cfg 55 20 [] _ from ⟨by kernel_rfl, Tryd.f55, Tryd.func55, rfl, rfl, rfl, by kernel_rfl⟩) (by simp) ?_
  rcases h2 with rfl | rfl
  · simp -dsimp (disch := first | omega | (refine DrawYes.mk ?_; decide +kernel) | fail) only [go_sem, ↓reduceIte, reduceCtorEq, Nat.reduceEqDiff, Nat.reduceAdd, Nat.reduceLeDiff, Int.reduceLE, Int.reduceLT, Int.reduceBEq, Int.reduceBNe, Int.reduceEq, Nat.reduceBEq, Int.reduceToNat, Nat.reduceLT, Nat.reduceGT, Nat.reduceSub, Nat.reduceMul, Int.reduceAdd, Int.reduceSub, Int.reduceNeg, Int.reduceGE, Int.reduceGT, h1, convD, lies_b]
    refine call (K := fun v H' => v = .ptr b 0 ∧ H' = H) ((WC_ext rfl).2 ⟨_, _, rfl, rfl, rfl⟩) ?_
    rintro _ _ ⟨rfl, rfl⟩
    simp -dsimp (disch := first | omega | (refine DrawYes.mk ?_; decide +kernel) | fail) only [go_sem, ↓reduceIte, reduceCtorEq, Nat.reduceEqDiff, Nat.reduceAdd, Nat.reduceLeDiff, Int.reduceLE, Int.reduceLT, Int.reduceBEq, Int.reduceBNe, Int.reduceEq, Nat.reduceBEq, Int.reduceToNat, Nat.reduceLT, Nat.reduceGT, Nat.reduceSub, Nat.reduceMul, Int.reduceAdd, Int.reduceSub, Int.reduceNeg, Int.reduceGE, Int.reduceGT, h1, convD, lies_b]
    refine ⟨⟨_, _, by rw [set_m, if_pos rfl], .inr rfl, h3.set h1 (by simp), h4, h5⟩, ⟨Nat.le_refl _, fun i hi => ?_, fun i o hi hne ho _ => ?_⟩⟩
    · rw [set_m, if_neg (by omega)]
    · rw [set_m, if_neg hne, ho]
  · simp -dsimp (disch := first | omega | (refine DrawYes.mk ?_; decide +kernel) | fail) only [go_sem, ↓reduceIte, reduceCtorEq, Nat.reduceEqDiff, Nat.reduceAdd, Nat.reduceLeDiff, Int.reduceLE, Int.reduceLT, Int.reduceBEq, Int.reduceBNe, Int.reduceEq, Nat.reduceBEq, Int.reduceToNat, Nat.reduceLT, Nat.reduceGT, Nat.reduceSub, Nat.reduceMul, Int.reduceAdd, Int.reduceSub, Int.reduceNeg, Int.reduceGE, Int.reduceGT, h1, convD, lies_b]
    exact ⟨⟨_, _, h1, .inr rfl, h3, h4, h5⟩, ⟨Nat.le_refl _, fun i hi => rfl, fun i o hi hne ho _ => ho⟩⟩
theorem writeByte_ok {lo b : Nat} {s : List UInt8} {c : UInt8} {H : DH} (h : Bld lo H b s) (hs : s.length < 1000000) : WC cfg 48 [.ptr b 0, byteDV c] H fun v H' => Bld lo H' b (s ++ [c]) ∧ Keep lo b H H' := by
  refine WC_of (show Has cfg 48 17 [.tmp 4] _ from ⟨by kernel_rfl, Tryd.f48, Tryd.func48, rfl, rfl, rfl, by kernel_rfl⟩) (by simp) ?_
  simp -dsimp (disch := first | omega | (refine DrawYes.mk ?_; decide +kernel) | fail) only [go_sem, ↓reduceIte, reduceCtorEq, Nat.reduceEqDiff, Nat.reduceAdd, Nat.reduceLeDiff, Int.reduceLE, Int.reduceLT, Int.reduceBEq, Int.reduceBNe, Int.reduceEq, Nat.reduceBEq, Int.reduceToNat, Nat.reduceLT, Nat.reduceGT, Nat.reduceSub, Nat.reduceMul, Int.reduceAdd, Int.reduceSub, Int.reduceNeg, Int.reduceGE, Int.reduceGT]
  refine call (copyCheck_ok h) ?_
  rintro _ H1 ⟨⟨a, buf, h1, h2, h3, h4, h5⟩, hk⟩
  simp -dsimp (disch := first | omega | (refine DrawYes.mk ?_; decide +kernel) | fail) only [go_sem, ↓reduceIte, reduceCtorEq, Nat.reduceEqDiff, Nat.reduceAdd, Nat.reduceLeDiff, Int.reduceLE, Int.reduceLT, Int.reduceBEq, Int.reduceBNe, Int.reduceEq, Nat.reduceBEq, Int.reduceToNat, Nat.reduceLT, Nat.reduceGT, Nat.reduceSub, Nat.reduceMul, Int.reduceAdd, Int.reduceSub, Int.reduceNeg, Int.reduceGE, Int.reduceGT, h1, byteDV]
  refine app (lo := lo) (es := s.map byteDV) (new := [byteDV c]) und_84 size_5 bytes_5 und_84 zero_5 rfl rfl (by omega) h3.new rfl (by simp only [new_next]; omega) (by simp; omega) (by simp; omega) ?_
  intro v' H3 hs3 hsm
  obtain ⟨hc, ho⟩ := hs3.one
  have hb3 : H3.m b = some (.cells 86 [a, buf]) := hsm.keep h3.new (by simp only [new_next]; omega) (by rw [new_m, if_neg (by omega), h1]) (by simp)
  simp -dsimp (disch := first | omega | (refine DrawYes.mk ?_; decide +kernel) | fail) only [go_sem, ↓reduceIte, reduceCtorEq, Nat.reduceEqDiff, Nat.reduceAdd, Nat.reduceLeDiff, Int.reduceLE, Int.reduceLT, Int.reduceBEq, Int.reduceBNe, Int.reduceEq, Nat.reduceBEq, Int.reduceToNat, Nat.reduceLT, Nat.reduceGT, Nat.reduceSub, Nat.reduceMul, Int.reduceAdd, Int.reduceSub, Int.reduceNeg, Int.reduceGE, Int.reduceGT, hb3, hc, ho]
  refine ⟨⟨_, _, by rw [set_m, if_pos rfl], h2, ?_, h4, ?_⟩, ⟨?_, fun i hi => ?_, fun i o hi hne hoo hn => ?_⟩⟩
  · simpa using hs3.set hb3 (by simp)
  · have := hsm.le; simp only [new_next] at this; simp only [set_next]; omega
  · have := hsm.le; have := hk.le; simp only [new_next] at *; simp only [set_next]; omega
  · rw [set_m, if_neg (by omega)]
    rw [hsm.same i (by simp only [new_next]; omega), new_m, if_neg (by omega), hk.low i hi]
    rintro id sz off es rfl
    rcases h3 with ⟨h3, _⟩ | ⟨id', off', k, h3, _, _, h6, _⟩ <;> cases h3
    omega
  · rw [set_m, if_neg hne]
    have := hk.le
    exact hsm.keep h3.new (by simp only [new_next]; omega) (by rw [new_m, if_neg (by omega)]; exact hk.rest i o hi hne hoo hn) hn
theorem bstring_ok {lo b : Nat} {s : List UInt8} {H : DH} (h : Bld lo H b s) (hs : s.length < 1000000) : WC cfg 47 [.ptr b 0] H fun v H' => v = .str s ∧ H' = H := by
  obtain ⟨a, buf, h1, h2, h3, h4, h5⟩ := h
  refine WC_of (show Has cfg 47 14 [.tmp 2] _ from ⟨by kernel_rfl, Tryd.f47, Tryd.func47, rfl, rfl, rfl, by kernel_rfl⟩) (by simp) ?_
  rcases h3 with ⟨rfl, h3⟩ | ⟨id, off, k, rfl, h3, h6, h7, h8, h9⟩
  · simp -dsimp (disch := first | omega | (refine DrawYes.mk ?_; decide +kernel) | fail) only [go_sem, ↓reduceIte, reduceCtorEq, Nat.reduceEqDiff, Nat.reduceAdd, Nat.reduceLeDiff, Int.reduceLE, Int.reduceLT, Int.reduceBEq, Int.reduceBNe, Int.reduceEq, Nat.reduceBEq, Int.reduceToNat, Nat.reduceLT, Nat.reduceGT, Nat.reduceSub, Nat.reduceMul, Int.reduceAdd, Int.reduceSub, Int.reduceNeg, Int.reduceGE, Int.reduceGT, h1, unsafeStrD]
    rw [List.map_eq_nil_iff] at h3; rw [h3]
  · simp -dsimp (disch := first | omega | (refine DrawYes.mk ?_; decide +kernel) | fail) only [go_sem, ↓reduceIte, reduceCtorEq, Nat.reduceEqDiff, Nat.reduceAdd, Nat.reduceLeDiff, Int.reduceLE, Int.reduceLT, Int.reduceBEq, Int.reduceBNe, Int.reduceEq, Nat.reduceBEq, Int.reduceToNat, Nat.reduceLT, Nat.reduceGT, Nat.reduceSub, Nat.reduceMul, Int.reduceAdd, Int.reduceSub, Int.reduceNeg, Int.reduceGE, Int.reduceGT, h1, h3, dt_sl h9, unsafeStrD, bytesOf_map]
    simp at h6
    simp [h6]
    omega
theorem blen_ok {lo b : Nat} {s : List UInt8} {H : DH} (h : Bld lo H b s) : WC cfg 46 [.ptr b 0] H fun v H' => v = .int .i64 s.length ∧ H' = H := by
  obtain ⟨a, buf, h1, h2, h3, h4, h5⟩ := h
  refine WC_of (show Has cfg 46 8 [.tmp 2] _ from ⟨by kernel_rfl, Tryd.f46, Tryd.func46, rfl, rfl, rfl, by kernel_rfl⟩) (by simp) ?_
  simp -dsimp (disch := first | omega | (refine DrawYes.mk ?_; decide +kernel) | fail) only [go_sem, ↓reduceIte, reduceCtorEq, Nat.reduceEqDiff, Nat.reduceAdd, Nat.reduceLeDiff, Int.reduceLE, Int.reduceLT, Int.reduceBEq, Int.reduceBNe, Int.reduceEq, Nat.reduceBEq, Int.reduceToNat, Nat.reduceLT, Nat.reduceGT, Nat.reduceSub, Nat.reduceMul, Int.reduceAdd, Int.reduceSub, Int.reduceNeg, Int.reduceGE, Int.reduceGT, h1, h3.len und_84]
  rw [List.length_map]
end Go.Proofs.YtcknfhhbijlobaaDoor.D
