import Derived.Test.YtcknfhhbijlobaaGreatDoorChS
/- CheckLabels. -/
namespace Go.Proofs.YtcknfhhbijlobaaGreatDoor.D
open Go
set_option linter.unusedVariables false
set_option linter.unusedSimpArgs false
set_option maxRecDepth 100000

theorem and3 (c : UInt8) : ∃ i : Nat, IntKind.u8.wrap (BitVec.ofInt IntKind.u8.bits (c.toNat : Int) &&& BitVec.ofInt IntKind.u8.bits 3).toNat = i ∧ i < 4 := by
  refine ⟨(BitVec.ofInt IntKind.u8.bits (c.toNat : Int) &&& BitVec.ofInt IntKind.u8.bits 3).toNat, ?_, ?_⟩
  · have hlt : (BitVec.ofInt IntKind.u8.bits (c.toNat : Int) &&& BitVec.ofInt IntKind.u8.bits 3).toNat < 4 := by
      rw [BitVec.toNat_and]
      exact Nat.lt_of_le_of_lt Nat.and_le_right (by decide)
    rw [wrap_u8 (by omega) (by omega)]
  · rw [BitVec.toNat_and]
    exact Nat.lt_of_le_of_lt Nat.and_le_right (by decide)
def nameL (i : Nat) : List UInt8 := [[97], [98], [99], [100, 100]].getD i []
def oneL (i : Nat) : List UInt8 := [108, 97, 98, 101, 108, 32] ++ nameL i ++ [59]
def twoL (j : Nat) : List UInt8 := [103, 111, 116, 111, 32] ++ nameL j ++ [59]
def smtpB : List UInt8 := [109, 111, 100, 101, 32, 115, 109, 116, 112, 59]
def srcL (i j : Nat) (x0 x1 : Bool) : List UInt8 := smtpB ++ (if x1 then (if x0 then oneL i ++ twoL j else twoL j ++ oneL i) ++ oneL i else (if x0 then oneL i ++ twoL j else twoL j ++ oneL i))
def labF (i j : Nat) (x0 x1 : Bool) : Bool :=
  let r := checkS (srcL i j x0 x1)
  if x0 && x1 && Nat.beq i j then Nat.beq r.e 31 && Nat.beq r.at_ (10 + (oneL i).length + (twoL j).length) else
  if !(Nat.beq i j) then Nat.beq r.e 33 && Nat.beq r.at_ (if x0 then 10 + (oneL i).length else 10) else
  if x1 then Nat.beq r.e 31 && Nat.beq r.at_ (10 + (oneL i).length + (twoL j).length) else Nat.beq r.e 0 && Nat.beq r.R.length 2
theorem lab_all : ((List.range 4).all fun i => (List.range 4).all fun j => labF i j false false && labF i j false true && labF i j true false && labF i j true true) = true := by kernel_rfl
theorem lab_tab {i j : Nat} {x0 x1 : Bool} (hi : i < 4) (hj : j < 4) : labF i j x0 x1 = true := by
  have h := List.all_eq_true.1 lab_all i (List.mem_range.2 hi)
  have h2 := List.all_eq_true.1 h j (List.mem_range.2 hj)
  simp only [Bool.and_eq_true] at h2
  cases x0 <;> cases x1
  · exact h2.1.1.1
  · exact h2.1.1.2
  · exact h2.1.2
  · exact h2.2
theorem name_at {i : Nat} (hi : i < 4) : ([.str [97], .str [98], .str [99], .str [100, 100]] : List DV)[i]? = some (.str (nameL i)) ∧ (nameL i).length ≤ 2 := by
  have : ∀ i, i < 4 → (nameL i).length ≤ 2 := by decide
  refine ⟨?_, this i hi⟩
  match i, hi with
  | 0, _ => rfl
  | 1, _ => rfl
  | 2, _ => rfl
  | 3, _ => rfl
theorem ia_o2 {b off : Nat} {i : Int} {K : DV → Prop} {l : Later K} (h0 : 0 ≤ i) (h1 : i < 2) : WD (indexAtD cfg.T 46 (.ptr b off) (.int .i64 i)) l = K (.ptr b (off + i.toNat)) := by
  have hs : cfg.T.size 4 = some 1 := by kernel_rfl
  simp only [indexAtD, und_46, hs]
  rw [if_pos ⟨h0, by omega⟩, Nat.mul_one]
  rfl
theorem checkLabels_ok {a b : UInt8} {x0 x1 : Bool} {H : DH} : WC cfg 7 [byteDV a, byteDV b, .agg [.bool x0, .bool x1]] H fun v H' => v = .bool true := by
  refine WC_of (show Has cfg 7 128 [.tmp 6] _ from ⟨by kernel_rfl, Tryz.f7, Tryz.func7, rfl, rfl, rfl, by kernel_rfl⟩) (by simp) ?_
  have ha := a.toNat_lt
  have hb := b.toNat_lt
  obtain ⟨i, hi, hi4⟩ := and3 a
  obtain ⟨j, hj, hj4⟩ := and3 b
  simp -dsimp (disch := first | omega | (refine DrawYes.mk ?_; decide +kernel) | fail) only [go_sem, ↓reduceIte, reduceCtorEq, Nat.reduceEqDiff, Nat.reduceAdd, Nat.reduceLeDiff, Int.reduceLE, Int.reduceLT, Int.reduceBEq, Int.reduceBNe, Int.reduceEq, Nat.reduceBEq, Int.reduceToNat, Nat.reduceLT, Nat.reduceGT, Nat.reduceSub, Nat.reduceMul, Int.reduceAdd, Int.reduceSub, Int.reduceNeg, Int.reduceGE, Int.reduceGT]
  refine call chshown_ok ?_
  rintro _ H1 ⟨rfl, hE⟩
  obtain ⟨ni, li⟩ := name_at hi4
  obtain ⟨nj, lj⟩ := name_at hj4
  have hm5 := hE.get (b := H.next) (by simp only [new_next]; omega) (by rw [new_m, if_pos rfl])
  have hle := hE.le
  simp only [new_next] at hle
  have y1 : ¬ H.next = H1.next := by omega
  have g1 : Int.toNat 1 = 1 := rfl
  have hone : (oneL i).length = (nameL i).length + 7 := by unfold oneL; simp only [List.length_append, List.length_cons, List.length_nil]; omega
  have htwo : (twoL j).length = (nameL j).length + 6 := by unfold twoL; simp only [List.length_append, List.length_cons, List.length_nil]; omega
  have hf := lab_tab (x0 := x0) (x1 := x1) hi4 hj4
  have hlen : (srcL i j x0 x1).length < 1000 := by
    have h10 : smtpB.length = 10 := rfl
    unfold srcL
    rw [List.length_append, h10]
    cases x0 <;> cases x1 <;> simp only [if_true, if_false, Bool.false_eq_true, List.length_append] <;> omega
  cases x0 <;> cases x1
  · simp -dsimp (disch := first | omega | (refine DrawYes.mk ?_; decide +kernel) | fail) only [go_sem, ↓reduceIte, reduceCtorEq, Nat.reduceEqDiff, Nat.reduceAdd, Nat.reduceLeDiff, Int.reduceLE, Int.reduceLT, Int.reduceBEq, Int.reduceBNe, Int.reduceEq, Nat.reduceBEq, Int.reduceToNat, Nat.reduceLT, Nat.reduceGT, Nat.reduceSub, Nat.reduceMul, Int.reduceAdd, Int.reduceSub, Int.reduceNeg, Int.reduceGE, Int.reduceGT, hi, hj, ni, nj, hm5, y1, ia_o2, g1]
    repeat refine And.intro (by first | omega | (simp only [List.length_append, List.length_cons, List.length_nil]; omega)) ?_
    refine call (csource_ok (s := srcL i j false false) (by omega)) ?_
    rintro _ H2 ⟨hE2, stmv, topv, rfl, hP⟩
    obtain ⟨a1, a2, a3⟩ := hP.two
    have hle2 := hE2.le
    simp only [new_next] at hle2
    have hm6 := hE2.get (b := H.next) (by simp only [new_next]; omega) (by rw [new_m, if_neg y1, hm5])
    unfold labF at hf
    generalize checkS (srcL i j false false) = r at *
    dsimp only at hf
    refine forget (P := fun σ => WO cfg _ _ σ _ _) (fun σ => σ 0 = .int .u8 a.toNat ∧ σ 1 = .int .u8 b.toNat ∧ σ 5 = .ptr H.next 0 ∧ σ 7 = .bool true ∧ σ 9 = .str (oneL i) ∧ σ 10 = .str (twoL j) ∧ σ 48 = .tup [.agg [.int .i64 r.mode, stmv, topv], .int .i64 r.at_, .int .i64 r.e]) (by simp -dsimp (disch := first | omega | (refine DrawYes.mk ?_; decide +kernel) | fail) only [go_sem, ↓reduceIte, reduceCtorEq, Nat.reduceEqDiff, Nat.reduceAdd, Nat.reduceLeDiff, Int.reduceLE, Int.reduceLT, Int.reduceBEq, Int.reduceBNe, Int.reduceEq, Nat.reduceBEq, Int.reduceToNat, Nat.reduceLT, Nat.reduceGT, Nat.reduceSub, Nat.reduceMul, Int.reduceAdd, Int.reduceSub, Int.reduceNeg, Int.reduceGE, Int.reduceGT]; exact ⟨rfl, rfl⟩) ?_
    rintro σ ⟨s0, s1, s5, s7, s9, s10, s48⟩
    have y2 : ¬ H.next = H2.next := by omega
    by_cases hij : i = j
    · have hb : Nat.beq i j = true := by rw [hij]; exact Nat.beq_refl j
      have c1 : ((i : Int) == (j : Int)) = true := by simp [hij]
      have c2 : ((i : Int) != (j : Int)) = false := by simp [hij]
      simp only [hb, Bool.and_true, Bool.and_false, Bool.false_and, Bool.true_and, Bool.not_true, if_true, if_false, Bool.false_eq_true, Bool.and_eq_true, Nat.beq_eq_true_eq, reduceCtorEq] at hf
      obtain ⟨he, ha2⟩ := hf
      replace he := Nat.eq_of_beq_eq_true he
      replace ha2 := Nat.eq_of_beq_eq_true ha2
      simp -dsimp (disch := first | omega | (refine DrawYes.mk ?_; decide +kernel) | fail) only [go_sem, ↓reduceIte, reduceCtorEq, Nat.reduceEqDiff, Nat.reduceAdd, Nat.reduceLeDiff, Int.reduceLE, Int.reduceLT, Int.reduceBEq, Int.reduceBNe, Int.reduceEq, Nat.reduceBEq, Int.reduceToNat, Nat.reduceLT, Nat.reduceGT, Nat.reduceSub, Nat.reduceMul, Int.reduceAdd, Int.reduceSub, Int.reduceNeg, Int.reduceGE, Int.reduceGT, s0, s1, s5, s7, s9, s10, s48, a1, a2, a3, hm6, y2, hi, hj, c1, c2, ia_o2, g1, he]
      rw [ha2]
      congr 1
      try (rw [beq_iff_eq]; omega)
    · have hb : Nat.beq i j = false := by rw [Bool.eq_false_iff]; intro h; exact hij (Nat.eq_of_beq_eq_true h)
      have c1 : ((i : Int) == (j : Int)) = false := by simp; omega
      have c2 : ((i : Int) != (j : Int)) = true := by simp; omega
      simp only [hb, Bool.and_true, Bool.and_false, Bool.false_and, Bool.true_and, Bool.not_false, if_true, if_false, Bool.false_eq_true, Bool.and_eq_true, Nat.beq_eq_true_eq, reduceCtorEq] at hf
      obtain ⟨he, ha2⟩ := hf
      replace he := Nat.eq_of_beq_eq_true he
      replace ha2 := Nat.eq_of_beq_eq_true ha2
      simp -dsimp (disch := first | omega | (refine DrawYes.mk ?_; decide +kernel) | fail) only [go_sem, ↓reduceIte, reduceCtorEq, Nat.reduceEqDiff, Nat.reduceAdd, Nat.reduceLeDiff, Int.reduceLE, Int.reduceLT, Int.reduceBEq, Int.reduceBNe, Int.reduceEq, Nat.reduceBEq, Int.reduceToNat, Nat.reduceLT, Nat.reduceGT, Nat.reduceSub, Nat.reduceMul, Int.reduceAdd, Int.reduceSub, Int.reduceNeg, Int.reduceGE, Int.reduceGT, s0, s1, s5, s7, s9, s10, s48, a1, a2, a3, hm6, y2, hi, hj, c1, c2, ia_o2, g1, he]
      rw [ha2]
      congr 1
      try (rw [beq_iff_eq]; omega)
  · simp -dsimp (disch := first | omega | (refine DrawYes.mk ?_; decide +kernel) | fail) only [go_sem, ↓reduceIte, reduceCtorEq, Nat.reduceEqDiff, Nat.reduceAdd, Nat.reduceLeDiff, Int.reduceLE, Int.reduceLT, Int.reduceBEq, Int.reduceBNe, Int.reduceEq, Nat.reduceBEq, Int.reduceToNat, Nat.reduceLT, Nat.reduceGT, Nat.reduceSub, Nat.reduceMul, Int.reduceAdd, Int.reduceSub, Int.reduceNeg, Int.reduceGE, Int.reduceGT, hi, hj, ni, nj, hm5, y1, ia_o2, g1]
    repeat refine And.intro (by first | omega | (simp only [List.length_append, List.length_cons, List.length_nil]; omega)) ?_
    refine call (csource_ok (s := srcL i j false true) (by omega)) ?_
    rintro _ H2 ⟨hE2, stmv, topv, rfl, hP⟩
    obtain ⟨a1, a2, a3⟩ := hP.two
    have hle2 := hE2.le
    simp only [new_next] at hle2
    have hm6 := hE2.get (b := H.next) (by simp only [new_next]; omega) (by rw [new_m, if_neg y1, hm5])
    unfold labF at hf
    generalize checkS (srcL i j false true) = r at *
    dsimp only at hf
    refine forget (P := fun σ => WO cfg _ _ σ _ _) (fun σ => σ 0 = .int .u8 a.toNat ∧ σ 1 = .int .u8 b.toNat ∧ σ 5 = .ptr H.next 0 ∧ σ 7 = .bool true ∧ σ 9 = .str (oneL i) ∧ σ 10 = .str (twoL j) ∧ σ 48 = .tup [.agg [.int .i64 r.mode, stmv, topv], .int .i64 r.at_, .int .i64 r.e]) (by simp -dsimp (disch := first | omega | (refine DrawYes.mk ?_; decide +kernel) | fail) only [go_sem, ↓reduceIte, reduceCtorEq, Nat.reduceEqDiff, Nat.reduceAdd, Nat.reduceLeDiff, Int.reduceLE, Int.reduceLT, Int.reduceBEq, Int.reduceBNe, Int.reduceEq, Nat.reduceBEq, Int.reduceToNat, Nat.reduceLT, Nat.reduceGT, Nat.reduceSub, Nat.reduceMul, Int.reduceAdd, Int.reduceSub, Int.reduceNeg, Int.reduceGE, Int.reduceGT]; exact ⟨rfl, rfl⟩) ?_
    rintro σ ⟨s0, s1, s5, s7, s9, s10, s48⟩
    have y2 : ¬ H.next = H2.next := by omega
    by_cases hij : i = j
    · have hb : Nat.beq i j = true := by rw [hij]; exact Nat.beq_refl j
      have c1 : ((i : Int) == (j : Int)) = true := by simp [hij]
      have c2 : ((i : Int) != (j : Int)) = false := by simp [hij]
      simp only [hb, Bool.and_true, Bool.and_false, Bool.false_and, Bool.true_and, Bool.not_true, if_true, if_false, Bool.false_eq_true, Bool.and_eq_true, Nat.beq_eq_true_eq, reduceCtorEq] at hf
      obtain ⟨he, ha2⟩ := hf
      replace he := Nat.eq_of_beq_eq_true he
      replace ha2 := Nat.eq_of_beq_eq_true ha2
      simp -dsimp (disch := first | omega | (refine DrawYes.mk ?_; decide +kernel) | fail) only [go_sem, ↓reduceIte, reduceCtorEq, Nat.reduceEqDiff, Nat.reduceAdd, Nat.reduceLeDiff, Int.reduceLE, Int.reduceLT, Int.reduceBEq, Int.reduceBNe, Int.reduceEq, Nat.reduceBEq, Int.reduceToNat, Nat.reduceLT, Nat.reduceGT, Nat.reduceSub, Nat.reduceMul, Int.reduceAdd, Int.reduceSub, Int.reduceNeg, Int.reduceGE, Int.reduceGT, s0, s1, s5, s7, s9, s10, s48, a1, a2, a3, hm6, y2, hi, hj, c1, c2, ia_o2, g1, he]
      rw [ha2]
      congr 1
      try (rw [beq_iff_eq]; omega)
    · have hb : Nat.beq i j = false := by rw [Bool.eq_false_iff]; intro h; exact hij (Nat.eq_of_beq_eq_true h)
      have c1 : ((i : Int) == (j : Int)) = false := by simp; omega
      have c2 : ((i : Int) != (j : Int)) = true := by simp; omega
      simp only [hb, Bool.and_true, Bool.and_false, Bool.false_and, Bool.true_and, Bool.not_false, if_true, if_false, Bool.false_eq_true, Bool.and_eq_true, Nat.beq_eq_true_eq, reduceCtorEq] at hf
      obtain ⟨he, ha2⟩ := hf
      replace he := Nat.eq_of_beq_eq_true he
      replace ha2 := Nat.eq_of_beq_eq_true ha2
      simp -dsimp (disch := first | omega | (refine DrawYes.mk ?_; decide +kernel) | fail) only [go_sem, ↓reduceIte, reduceCtorEq, Nat.reduceEqDiff, Nat.reduceAdd, Nat.reduceLeDiff, Int.reduceLE, Int.reduceLT, Int.reduceBEq, Int.reduceBNe, Int.reduceEq, Nat.reduceBEq, Int.reduceToNat, Nat.reduceLT, Nat.reduceGT, Nat.reduceSub, Nat.reduceMul, Int.reduceAdd, Int.reduceSub, Int.reduceNeg, Int.reduceGE, Int.reduceGT, s0, s1, s5, s7, s9, s10, s48, a1, a2, a3, hm6, y2, hi, hj, c1, c2, ia_o2, g1, he]
      rw [ha2]
      congr 1
      try (rw [beq_iff_eq]; omega)
  · simp -dsimp (disch := first | omega | (refine DrawYes.mk ?_; decide +kernel) | fail) only [go_sem, ↓reduceIte, reduceCtorEq, Nat.reduceEqDiff, Nat.reduceAdd, Nat.reduceLeDiff, Int.reduceLE, Int.reduceLT, Int.reduceBEq, Int.reduceBNe, Int.reduceEq, Nat.reduceBEq, Int.reduceToNat, Nat.reduceLT, Nat.reduceGT, Nat.reduceSub, Nat.reduceMul, Int.reduceAdd, Int.reduceSub, Int.reduceNeg, Int.reduceGE, Int.reduceGT, hi, hj, ni, nj, hm5, y1, ia_o2, g1]
    repeat refine And.intro (by first | omega | (simp only [List.length_append, List.length_cons, List.length_nil]; omega)) ?_
    refine call (csource_ok (s := srcL i j true false) (by omega)) ?_
    rintro _ H2 ⟨hE2, stmv, topv, rfl, hP⟩
    obtain ⟨a1, a2, a3⟩ := hP.two
    have hle2 := hE2.le
    simp only [new_next] at hle2
    have hm6 := hE2.get (b := H.next) (by simp only [new_next]; omega) (by rw [new_m, if_neg y1, hm5])
    unfold labF at hf
    generalize checkS (srcL i j true false) = r at *
    dsimp only at hf
    refine forget (P := fun σ => WO cfg _ _ σ _ _) (fun σ => σ 0 = .int .u8 a.toNat ∧ σ 1 = .int .u8 b.toNat ∧ σ 5 = .ptr H.next 0 ∧ σ 7 = .bool true ∧ σ 9 = .str (oneL i) ∧ σ 10 = .str (twoL j) ∧ σ 48 = .tup [.agg [.int .i64 r.mode, stmv, topv], .int .i64 r.at_, .int .i64 r.e]) (by simp -dsimp (disch := first | omega | (refine DrawYes.mk ?_; decide +kernel) | fail) only [go_sem, ↓reduceIte, reduceCtorEq, Nat.reduceEqDiff, Nat.reduceAdd, Nat.reduceLeDiff, Int.reduceLE, Int.reduceLT, Int.reduceBEq, Int.reduceBNe, Int.reduceEq, Nat.reduceBEq, Int.reduceToNat, Nat.reduceLT, Nat.reduceGT, Nat.reduceSub, Nat.reduceMul, Int.reduceAdd, Int.reduceSub, Int.reduceNeg, Int.reduceGE, Int.reduceGT]; exact ⟨rfl, rfl⟩) ?_
    rintro σ ⟨s0, s1, s5, s7, s9, s10, s48⟩
    have y2 : ¬ H.next = H2.next := by omega
    by_cases hij : i = j
    · have hb : Nat.beq i j = true := by rw [hij]; exact Nat.beq_refl j
      have c1 : ((i : Int) == (j : Int)) = true := by simp [hij]
      have c2 : ((i : Int) != (j : Int)) = false := by simp [hij]
      simp only [hb, Bool.and_true, Bool.and_false, Bool.false_and, Bool.true_and, Bool.not_true, if_true, if_false, Bool.false_eq_true, Bool.and_eq_true, Nat.beq_eq_true_eq, reduceCtorEq] at hf
      obtain ⟨he, ha2⟩ := hf
      replace he := Nat.eq_of_beq_eq_true he
      replace ha2 := Nat.eq_of_beq_eq_true ha2
      simp -dsimp (disch := first | omega | (refine DrawYes.mk ?_; decide +kernel) | fail) only [go_sem, ↓reduceIte, reduceCtorEq, Nat.reduceEqDiff, Nat.reduceAdd, Nat.reduceLeDiff, Int.reduceLE, Int.reduceLT, Int.reduceBEq, Int.reduceBNe, Int.reduceEq, Nat.reduceBEq, Int.reduceToNat, Nat.reduceLT, Nat.reduceGT, Nat.reduceSub, Nat.reduceMul, Int.reduceAdd, Int.reduceSub, Int.reduceNeg, Int.reduceGE, Int.reduceGT, s0, s1, s5, s7, s9, s10, s48, a1, a2, a3, hm6, y2, hi, hj, c1, c2, ia_o2, g1, he]
      rw [ha2]
      congr 1
      try (rw [beq_iff_eq]; omega)
    · have hb : Nat.beq i j = false := by rw [Bool.eq_false_iff]; intro h; exact hij (Nat.eq_of_beq_eq_true h)
      have c1 : ((i : Int) == (j : Int)) = false := by simp; omega
      have c2 : ((i : Int) != (j : Int)) = true := by simp; omega
      simp only [hb, Bool.and_true, Bool.and_false, Bool.false_and, Bool.true_and, Bool.not_false, if_true, if_false, Bool.false_eq_true, Bool.and_eq_true, Nat.beq_eq_true_eq, reduceCtorEq] at hf
      obtain ⟨he, ha2⟩ := hf
      replace he := Nat.eq_of_beq_eq_true he
      replace ha2 := Nat.eq_of_beq_eq_true ha2
      simp -dsimp (disch := first | omega | (refine DrawYes.mk ?_; decide +kernel) | fail) only [go_sem, ↓reduceIte, reduceCtorEq, Nat.reduceEqDiff, Nat.reduceAdd, Nat.reduceLeDiff, Int.reduceLE, Int.reduceLT, Int.reduceBEq, Int.reduceBNe, Int.reduceEq, Nat.reduceBEq, Int.reduceToNat, Nat.reduceLT, Nat.reduceGT, Nat.reduceSub, Nat.reduceMul, Int.reduceAdd, Int.reduceSub, Int.reduceNeg, Int.reduceGE, Int.reduceGT, s0, s1, s5, s7, s9, s10, s48, a1, a2, a3, hm6, y2, hi, hj, c1, c2, ia_o2, g1, he]
      rw [ha2]
      congr 1
      try (rw [beq_iff_eq]; omega)
  · simp -dsimp (disch := first | omega | (refine DrawYes.mk ?_; decide +kernel) | fail) only [go_sem, ↓reduceIte, reduceCtorEq, Nat.reduceEqDiff, Nat.reduceAdd, Nat.reduceLeDiff, Int.reduceLE, Int.reduceLT, Int.reduceBEq, Int.reduceBNe, Int.reduceEq, Nat.reduceBEq, Int.reduceToNat, Nat.reduceLT, Nat.reduceGT, Nat.reduceSub, Nat.reduceMul, Int.reduceAdd, Int.reduceSub, Int.reduceNeg, Int.reduceGE, Int.reduceGT, hi, hj, ni, nj, hm5, y1, ia_o2, g1]
    repeat refine And.intro (by first | omega | (simp only [List.length_append, List.length_cons, List.length_nil]; omega)) ?_
    refine call (csource_ok (s := srcL i j true true) (by omega)) ?_
    rintro _ H2 ⟨hE2, stmv, topv, rfl, hP⟩
    obtain ⟨a1, a2, a3⟩ := hP.two
    have hle2 := hE2.le
    simp only [new_next] at hle2
    have hm6 := hE2.get (b := H.next) (by simp only [new_next]; omega) (by rw [new_m, if_neg y1, hm5])
    unfold labF at hf
    generalize checkS (srcL i j true true) = r at *
    dsimp only at hf
    refine forget (P := fun σ => WO cfg _ _ σ _ _) (fun σ => σ 0 = .int .u8 a.toNat ∧ σ 1 = .int .u8 b.toNat ∧ σ 5 = .ptr H.next 0 ∧ σ 7 = .bool true ∧ σ 9 = .str (oneL i) ∧ σ 10 = .str (twoL j) ∧ σ 48 = .tup [.agg [.int .i64 r.mode, stmv, topv], .int .i64 r.at_, .int .i64 r.e]) (by simp -dsimp (disch := first | omega | (refine DrawYes.mk ?_; decide +kernel) | fail) only [go_sem, ↓reduceIte, reduceCtorEq, Nat.reduceEqDiff, Nat.reduceAdd, Nat.reduceLeDiff, Int.reduceLE, Int.reduceLT, Int.reduceBEq, Int.reduceBNe, Int.reduceEq, Nat.reduceBEq, Int.reduceToNat, Nat.reduceLT, Nat.reduceGT, Nat.reduceSub, Nat.reduceMul, Int.reduceAdd, Int.reduceSub, Int.reduceNeg, Int.reduceGE, Int.reduceGT]; exact ⟨rfl, rfl⟩) ?_
    rintro σ ⟨s0, s1, s5, s7, s9, s10, s48⟩
    have y2 : ¬ H.next = H2.next := by omega
    by_cases hij : i = j
    · have hb : Nat.beq i j = true := by rw [hij]; exact Nat.beq_refl j
      have c1 : ((i : Int) == (j : Int)) = true := by simp [hij]
      have c2 : ((i : Int) != (j : Int)) = false := by simp [hij]
      simp only [hb, Bool.and_true, Bool.and_false, Bool.false_and, Bool.true_and, Bool.not_true, if_true, if_false, Bool.false_eq_true, Bool.and_eq_true, Nat.beq_eq_true_eq, reduceCtorEq] at hf
      obtain ⟨he, ha2⟩ := hf
      replace he := Nat.eq_of_beq_eq_true he
      replace ha2 := Nat.eq_of_beq_eq_true ha2
      simp -dsimp (disch := first | omega | (refine DrawYes.mk ?_; decide +kernel) | fail) only [go_sem, ↓reduceIte, reduceCtorEq, Nat.reduceEqDiff, Nat.reduceAdd, Nat.reduceLeDiff, Int.reduceLE, Int.reduceLT, Int.reduceBEq, Int.reduceBNe, Int.reduceEq, Nat.reduceBEq, Int.reduceToNat, Nat.reduceLT, Nat.reduceGT, Nat.reduceSub, Nat.reduceMul, Int.reduceAdd, Int.reduceSub, Int.reduceNeg, Int.reduceGE, Int.reduceGT, s0, s1, s5, s7, s9, s10, s48, a1, a2, a3, hm6, y2, hi, hj, c1, c2, ia_o2, g1, he]
      rw [ha2]
      congr 1
      try (rw [beq_iff_eq]; omega)
    · have hb : Nat.beq i j = false := by rw [Bool.eq_false_iff]; intro h; exact hij (Nat.eq_of_beq_eq_true h)
      have c1 : ((i : Int) == (j : Int)) = false := by simp; omega
      have c2 : ((i : Int) != (j : Int)) = true := by simp; omega
      simp only [hb, Bool.and_true, Bool.and_false, Bool.false_and, Bool.true_and, Bool.not_false, if_true, if_false, Bool.false_eq_true, Bool.and_eq_true, Nat.beq_eq_true_eq, reduceCtorEq] at hf
      obtain ⟨he, ha2⟩ := hf
      replace he := Nat.eq_of_beq_eq_true he
      replace ha2 := Nat.eq_of_beq_eq_true ha2
      simp -dsimp (disch := first | omega | (refine DrawYes.mk ?_; decide +kernel) | fail) only [go_sem, ↓reduceIte, reduceCtorEq, Nat.reduceEqDiff, Nat.reduceAdd, Nat.reduceLeDiff, Int.reduceLE, Int.reduceLT, Int.reduceBEq, Int.reduceBNe, Int.reduceEq, Nat.reduceBEq, Int.reduceToNat, Nat.reduceLT, Nat.reduceGT, Nat.reduceSub, Nat.reduceMul, Int.reduceAdd, Int.reduceSub, Int.reduceNeg, Int.reduceGE, Int.reduceGT, s0, s1, s5, s7, s9, s10, s48, a1, a2, a3, hm6, y2, hi, hj, c1, c2, ia_o2, g1, he]
      rw [ha2]
      congr 1
      try (rw [beq_iff_eq]; omega)
end Go.Proofs.YtcknfhhbijlobaaGreatDoor.D
