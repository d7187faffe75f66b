import Derived.Test.YtcknfhhbijlobaaDoorPaB
/- The laws over parse: ParseDeep. -/
namespace Go.Proofs.YtcknfhhbijlobaaDoor.D
open Go
set_option linter.unusedVariables false
set_option linter.unusedSimpArgs false
set_option maxRecDepth 100000

def preT : List UInt8 := [109, 111, 100, 101, 32, 115, 109, 116, 112, 59]
def openT (o : Bool) : List UInt8 := bif o then [105, 102, 32, 99, 97, 112, 32, 34, 97, 34, 32, 123, 125, 32, 101, 108, 115, 101, 32, 123] else [105, 102, 32, 99, 97, 112, 32, 34, 97, 34, 32, 123]
def deepA (o : Bool) (n : Nat) : List UInt8 := preT ++ (List.replicate n (openT o)).flatten
def deepT (o : Bool) (n k : Nat) : List UInt8 := deepA o n ++ List.replicate k 125
def deepFine (o : Bool) (n : Nat) : Bool :=
  let r := parseAll (deepT o n n)
  bif Nat.ble 9 n then Nat.beq r.e 21 && Nat.beq r.at_ (bif o then 181 else 117) else Nat.beq r.e 0 && Nat.beq r.R.length n && Nat.beq (r.mode) 1
theorem deep_all : ((List.range 21).all fun n => deepFine true n && deepFine false n) = true := by kernel_rfl
theorem deepA_succ {o : Bool} {k : Nat} : deepA o (k + 1) = deepA o k ++ openT o := by
  unfold deepA
  rw [List.replicate_succ', List.flatten_append]
  simp [List.append_assoc]
theorem deepT_succ {o : Bool} {n k : Nat} : deepT o n (k + 1) = deepT o n k ++ [125] := by
  unfold deepT
  rw [List.replicate_succ']
  simp [List.append_assoc]
theorem deepA_len {o : Bool} {k : Nat} : (deepA o k).length ≤ 10 + 20 * k := by
  induction k with
  | zero => simp [deepA, preT]
  | succ k ih => rw [deepA_succ, List.length_append]; have : (openT o).length ≤ 20 := by cases o <;> decide
                 omega
theorem deepT_len {o : Bool} {n k : Nat} : (deepT o n k).length ≤ 10 + 20 * n + k := by
  unfold deepT; rw [List.length_append, List.length_replicate]; have := deepA_len (o := o) (k := n); omega
theorem parseDeep_ok {b : UInt8} {o : Bool} {H : DH} : WC cfg 5 [byteDV b, .bool o] H fun v H' => v = .bool true := by
  refine WC_of (show Has cfg 5 76 [.tmp 4] _ from ⟨by kernel_rfl, Tryd.f5, Tryd.func5, rfl, rfl, rfl, by kernel_rfl⟩) (by simp) ?_
  have hb := b.toNat_lt
  simp -dsimp (disch := first | omega | (refine DrawYes.mk ?_; decide +kernel) | fail) only [go_sem, ↓reduceIte, reduceCtorEq, Nat.reduceEqDiff, Nat.reduceAdd, Nat.reduceLeDiff, Int.reduceLE, Int.reduceLT, Int.reduceBEq, Int.reduceBNe, Int.reduceEq, Nat.reduceBEq, Int.reduceToNat, Nat.reduceLT, Nat.reduceGT, Nat.reduceSub, Nat.reduceMul, Int.reduceAdd, Int.reduceSub, Int.reduceNeg, Int.reduceGE, Int.reduceGT]
  refine call pshown_ok ?_
  rintro _ H1 ⟨rfl, hE⟩
  have hn : (b.toNat : Int).tmod 21 = ((b.toNat % 21 : Nat) : Int) := by rw [Int.tmod_eq_emod_of_nonneg (by omega)]; omega
  have hn2 : b.toNat % 21 < 21 := Nat.mod_lt _ (by decide)
  have hall := List.all_eq_true.1 deep_all (b.toNat % 21) (List.mem_range.2 hn2)
  rw [Bool.and_eq_true] at hall
  generalize b.toNat % 21 = n at hn hn2 hall
  cases o
  · have hF : deepFine false n = true := by first | exact hall.1 | exact hall.2
    simp -dsimp (disch := first | omega | (refine DrawYes.mk ?_; decide +kernel) | fail) only [go_sem, ↓reduceIte, reduceCtorEq, Nat.reduceEqDiff, Nat.reduceAdd, Nat.reduceLeDiff, Int.reduceLE, Int.reduceLT, Int.reduceBEq, Int.reduceBNe, Int.reduceEq, Nat.reduceBEq, Int.reduceToNat, Nat.reduceLT, Nat.reduceGT, Nat.reduceSub, Nat.reduceMul, Int.reduceAdd, Int.reduceSub, Int.reduceNeg, Int.reduceGE, Int.reduceGT, hn]
    refine Y_loop (α := Nat) (fun k σ H => k ≤ n ∧ σ 1 = .bool false ∧ σ 5 = .bool true ∧ σ 6 = .int .i64 n ∧ σ 7 = .str (deepA false k) ∧ σ 8 = .str (openT false) ∧ σ 9 = .int .i64 k) (fun k => n - k) 0 ?_ ?_
    · simp -dsimp (disch := first | omega | (refine DrawYes.mk ?_; decide +kernel) | fail) only [go_sem, ↓reduceIte, reduceCtorEq, Nat.reduceEqDiff, Nat.reduceAdd, Nat.reduceLeDiff, Int.reduceLE, Int.reduceLT, Int.reduceBEq, Int.reduceBNe, Int.reduceEq, Nat.reduceBEq, Int.reduceToNat, Nat.reduceLT, Nat.reduceGT, Nat.reduceSub, Nat.reduceMul, Int.reduceAdd, Int.reduceSub, Int.reduceNeg, Int.reduceGE, Int.reduceGT]
      exact ⟨Nat.zero_le _, rfl, rfl⟩
    rintro k σ H2 ⟨hk, h1, h5, h6, h7, h8, h9⟩
    by_cases hlt : k < n
    · have i0 : (k : Int) < n := by omega
      have hl := deepA_len (o := false) (k := k + 1)
      rw [deepA_succ, List.length_append] at hl
      simp -dsimp (disch := first | omega | (refine DrawYes.mk ?_; decide +kernel) | fail) only [go_sem, ↓reduceIte, reduceCtorEq, Nat.reduceEqDiff, Nat.reduceAdd, Nat.reduceLeDiff, Int.reduceLE, Int.reduceLT, Int.reduceBEq, Int.reduceBNe, Int.reduceEq, Nat.reduceBEq, Int.reduceToNat, Nat.reduceLT, Nat.reduceGT, Nat.reduceSub, Nat.reduceMul, Int.reduceAdd, Int.reduceSub, Int.reduceNeg, Int.reduceGE, Int.reduceGT, h1, h5, h6, h7, h8, h9, i0]
      repeat refine And.intro (by omega) ?_
      refine ⟨k + 1, ⟨by omega, by rw [deepA_succ], rfl⟩, by omega⟩
    have i0 : ¬ (k : Int) < n := by omega
    have hkn : k = n := by omega
    subst hkn
    simp -dsimp (disch := first | omega | (refine DrawYes.mk ?_; decide +kernel) | fail) only [go_sem, ↓reduceIte, reduceCtorEq, Nat.reduceEqDiff, Nat.reduceAdd, Nat.reduceLeDiff, Int.reduceLE, Int.reduceLT, Int.reduceBEq, Int.reduceBNe, Int.reduceEq, Nat.reduceBEq, Int.reduceToNat, Nat.reduceLT, Nat.reduceGT, Nat.reduceSub, Nat.reduceMul, Int.reduceAdd, Int.reduceSub, Int.reduceNeg, Int.reduceGE, Int.reduceGT, h1, h5, h6, h7, h8, h9, i0]
    refine Y_loop (α := Nat) (fun j σ H => j ≤ k ∧ σ 1 = .bool false ∧ σ 5 = .bool true ∧ σ 6 = .int .i64 k ∧ σ 7 = .str (deepT false k j) ∧ σ 8 = .str (openT false) ∧ σ 10 = .int .i64 j) (fun j => k - j) 0 ?_ ?_
    · simp -dsimp (disch := first | omega | (refine DrawYes.mk ?_; decide +kernel) | fail) only [go_sem, ↓reduceIte, reduceCtorEq, Nat.reduceEqDiff, Nat.reduceAdd, Nat.reduceLeDiff, Int.reduceLE, Int.reduceLT, Int.reduceBEq, Int.reduceBNe, Int.reduceEq, Nat.reduceBEq, Int.reduceToNat, Nat.reduceLT, Nat.reduceGT, Nat.reduceSub, Nat.reduceMul, Int.reduceAdd, Int.reduceSub, Int.reduceNeg, Int.reduceGE, Int.reduceGT, h1, h5, h6, h7, h8, h9]
      simp [deepT]
    clear h1 h5 h6 h7 h8 h9 σ H2
    rintro j σ H2 ⟨hj, h1, h5, h6, h7, h8, h9⟩
    by_cases hlt : j < k
    · have i0 : (j : Int) < k := by omega
      have hl := deepT_len (o := false) (n := k) (k := j)
      simp -dsimp (disch := first | omega | (refine DrawYes.mk ?_; decide +kernel) | fail) only [go_sem, ↓reduceIte, reduceCtorEq, Nat.reduceEqDiff, Nat.reduceAdd, Nat.reduceLeDiff, Int.reduceLE, Int.reduceLT, Int.reduceBEq, Int.reduceBNe, Int.reduceEq, Nat.reduceBEq, Int.reduceToNat, Nat.reduceLT, Nat.reduceGT, Nat.reduceSub, Nat.reduceMul, Int.reduceAdd, Int.reduceSub, Int.reduceNeg, Int.reduceGE, Int.reduceGT, h1, h5, h6, h7, h8, h9, i0]
      repeat refine And.intro (by omega) ?_
      refine ⟨j + 1, ⟨by omega, by rw [deepT_succ], rfl⟩, by omega⟩
    have i0 : ¬ (j : Int) < k := by omega
    have hkn : j = k := by omega
    subst hkn
    have hl := deepT_len (o := false) (n := j) (k := j)
    simp -dsimp (disch := first | omega | (refine DrawYes.mk ?_; decide +kernel) | fail) only [go_sem, ↓reduceIte, reduceCtorEq, Nat.reduceEqDiff, Nat.reduceAdd, Nat.reduceLeDiff, Int.reduceLE, Int.reduceLT, Int.reduceBEq, Int.reduceBNe, Int.reduceEq, Nat.reduceBEq, Int.reduceToNat, Nat.reduceLT, Nat.reduceGT, Nat.reduceSub, Nat.reduceMul, Int.reduceAdd, Int.reduceSub, Int.reduceNeg, Int.reduceGE, Int.reduceGT, h1, h5, h6, h7, h8, h9, i0]
    refine call (parse_ok (s := deepT false j j) (by omega)) ?_
    rintro _ H3 ⟨hE3, stmv, topv, rfl, ⟨es, hes, hst⟩, htop⟩
    have ho1 : stmv.one = true := by rcases hes with ⟨rfl, _⟩ | ⟨_, _, rfl⟩ <;> rfl
    have ho2 : topv.one = true := by rcases htop with ⟨rfl, _⟩ | ⟨_, _, rfl⟩ <;> rfl
    have hle := hst.len
    have hF0 := hF
    unfold deepFine at hF0
    generalize parseAll (deepT false j j) = r at hst hF0 hle htop
    obtain ⟨md, R, top, at_, e⟩ := r
    dsimp only at hst hF0 hle htop
    by_cases hm : 9 ≤ j
    · have hm9 : Nat.ble 9 j = true := by rw [Nat.ble_eq]; exact hm
      rw [hm9] at hF0
      simp only [cond_true, cond_false, Bool.and_eq_true, Nat.beq_eq] at hF0
      obtain ⟨rfl, rfl⟩ := hF0
      have i1 : 8 < (j : Int) := by omega
      have hol : (openT false).length = (bif false then 20 else 12) := rfl
      simp only [cond_true, cond_false] at hol
      simp -dsimp (disch := first | omega | (refine DrawYes.mk ?_; decide +kernel) | fail) only [go_sem, ↓reduceIte, reduceCtorEq, Nat.reduceEqDiff, Nat.reduceAdd, Nat.reduceLeDiff, Int.reduceLE, Int.reduceLT, Int.reduceBEq, Int.reduceBNe, Int.reduceEq, Nat.reduceBEq, Int.reduceToNat, Nat.reduceLT, Nat.reduceGT, Nat.reduceSub, Nat.reduceMul, Int.reduceAdd, Int.reduceSub, Int.reduceNeg, Int.reduceGE, Int.reduceGT, h1, h5, h6, h7, h8, h9, i1, ho1, ho2, hol]
      rfl
    · have hm9 : Nat.ble 9 j = false := by rw [Bool.eq_false_iff]; intro h; rw [Nat.ble_eq] at h; exact hm h
      rw [hm9] at hF0
      simp only [cond_true, cond_false, Bool.and_eq_true, Nat.beq_eq] at hF0
      obtain ⟨⟨rfl, hR⟩, rfl⟩ := hF0
      have i1 : ¬ 8 < (j : Int) := by omega
      have hel : es.length = j := by omega
      rcases hes with ⟨rfl, rfl⟩ | ⟨id, off, rfl⟩
      · have i2 : ((0 : Int) == j) = true := by simp at hel ⊢; omega
        simp -dsimp (disch := first | omega | (refine DrawYes.mk ?_; decide +kernel) | fail) only [go_sem, ↓reduceIte, reduceCtorEq, Nat.reduceEqDiff, Nat.reduceAdd, Nat.reduceLeDiff, Int.reduceLE, Int.reduceLT, Int.reduceBEq, Int.reduceBNe, Int.reduceEq, Nat.reduceBEq, Int.reduceToNat, Nat.reduceLT, Nat.reduceGT, Nat.reduceSub, Nat.reduceMul, Int.reduceAdd, Int.reduceSub, Int.reduceNeg, Int.reduceGE, Int.reduceGT, h1, h5, h6, h7, h8, h9, i1, i2, ho2]
      · have i2 : ((es.length : Int) == j) = true := by simp; omega
        simp -dsimp (disch := first | omega | (refine DrawYes.mk ?_; decide +kernel) | fail) only [go_sem, ↓reduceIte, reduceCtorEq, Nat.reduceEqDiff, Nat.reduceAdd, Nat.reduceLeDiff, Int.reduceLE, Int.reduceLT, Int.reduceBEq, Int.reduceBNe, Int.reduceEq, Nat.reduceBEq, Int.reduceToNat, Nat.reduceLT, Nat.reduceGT, Nat.reduceSub, Nat.reduceMul, Int.reduceAdd, Int.reduceSub, Int.reduceNeg, Int.reduceGE, Int.reduceGT, h1, h5, h6, h7, h8, h9, i1, i2, ho2]
  · have hF : deepFine true n = true := by first | exact hall.1 | exact hall.2
    simp -dsimp (disch := first | omega | (refine DrawYes.mk ?_; decide +kernel) | fail) only [go_sem, ↓reduceIte, reduceCtorEq, Nat.reduceEqDiff, Nat.reduceAdd, Nat.reduceLeDiff, Int.reduceLE, Int.reduceLT, Int.reduceBEq, Int.reduceBNe, Int.reduceEq, Nat.reduceBEq, Int.reduceToNat, Nat.reduceLT, Nat.reduceGT, Nat.reduceSub, Nat.reduceMul, Int.reduceAdd, Int.reduceSub, Int.reduceNeg, Int.reduceGE, Int.reduceGT, hn]
    refine Y_loop (α := Nat) (fun k σ H => k ≤ n ∧ σ 1 = .bool true ∧ σ 5 = .bool true ∧ σ 6 = .int .i64 n ∧ σ 7 = .str (deepA true k) ∧ σ 8 = .str (openT true) ∧ σ 9 = .int .i64 k) (fun k => n - k) 0 ?_ ?_
    · simp -dsimp (disch := first | omega | (refine DrawYes.mk ?_; decide +kernel) | fail) only [go_sem, ↓reduceIte, reduceCtorEq, Nat.reduceEqDiff, Nat.reduceAdd, Nat.reduceLeDiff, Int.reduceLE, Int.reduceLT, Int.reduceBEq, Int.reduceBNe, Int.reduceEq, Nat.reduceBEq, Int.reduceToNat, Nat.reduceLT, Nat.reduceGT, Nat.reduceSub, Nat.reduceMul, Int.reduceAdd, Int.reduceSub, Int.reduceNeg, Int.reduceGE, Int.reduceGT]
      exact ⟨Nat.zero_le _, rfl, rfl⟩
    rintro k σ H2 ⟨hk, h1, h5, h6, h7, h8, h9⟩
    by_cases hlt : k < n
    · have i0 : (k : Int) < n := by omega
      have hl := deepA_len (o := true) (k := k + 1)
      rw [deepA_succ, List.length_append] at hl
      simp -dsimp (disch := first | omega | (refine DrawYes.mk ?_; decide +kernel) | fail) only [go_sem, ↓reduceIte, reduceCtorEq, Nat.reduceEqDiff, Nat.reduceAdd, Nat.reduceLeDiff, Int.reduceLE, Int.reduceLT, Int.reduceBEq, Int.reduceBNe, Int.reduceEq, Nat.reduceBEq, Int.reduceToNat, Nat.reduceLT, Nat.reduceGT, Nat.reduceSub, Nat.reduceMul, Int.reduceAdd, Int.reduceSub, Int.reduceNeg, Int.reduceGE, Int.reduceGT, h1, h5, h6, h7, h8, h9, i0]
      repeat refine And.intro (by omega) ?_
      refine ⟨k + 1, ⟨by omega, by rw [deepA_succ], rfl⟩, by omega⟩
    have i0 : ¬ (k : Int) < n := by omega
    have hkn : k = n := by omega
    subst hkn
    simp -dsimp (disch := first | omega | (refine DrawYes.mk ?_; decide +kernel) | fail) only [go_sem, ↓reduceIte, reduceCtorEq, Nat.reduceEqDiff, Nat.reduceAdd, Nat.reduceLeDiff, Int.reduceLE, Int.reduceLT, Int.reduceBEq, Int.reduceBNe, Int.reduceEq, Nat.reduceBEq, Int.reduceToNat, Nat.reduceLT, Nat.reduceGT, Nat.reduceSub, Nat.reduceMul, Int.reduceAdd, Int.reduceSub, Int.reduceNeg, Int.reduceGE, Int.reduceGT, h1, h5, h6, h7, h8, h9, i0]
    refine Y_loop (α := Nat) (fun j σ H => j ≤ k ∧ σ 1 = .bool true ∧ σ 5 = .bool true ∧ σ 6 = .int .i64 k ∧ σ 7 = .str (deepT true k j) ∧ σ 8 = .str (openT true) ∧ σ 10 = .int .i64 j) (fun j => k - j) 0 ?_ ?_
    · simp -dsimp (disch := first | omega | (refine DrawYes.mk ?_; decide +kernel) | fail) only [go_sem, ↓reduceIte, reduceCtorEq, Nat.reduceEqDiff, Nat.reduceAdd, Nat.reduceLeDiff, Int.reduceLE, Int.reduceLT, Int.reduceBEq, Int.reduceBNe, Int.reduceEq, Nat.reduceBEq, Int.reduceToNat, Nat.reduceLT, Nat.reduceGT, Nat.reduceSub, Nat.reduceMul, Int.reduceAdd, Int.reduceSub, Int.reduceNeg, Int.reduceGE, Int.reduceGT, h1, h5, h6, h7, h8, h9]
      simp [deepT]
    clear h1 h5 h6 h7 h8 h9 σ H2
    rintro j σ H2 ⟨hj, h1, h5, h6, h7, h8, h9⟩
    by_cases hlt : j < k
    · have i0 : (j : Int) < k := by omega
      have hl := deepT_len (o := true) (n := k) (k := j)
      simp -dsimp (disch := first | omega | (refine DrawYes.mk ?_; decide +kernel) | fail) only [go_sem, ↓reduceIte, reduceCtorEq, Nat.reduceEqDiff, Nat.reduceAdd, Nat.reduceLeDiff, Int.reduceLE, Int.reduceLT, Int.reduceBEq, Int.reduceBNe, Int.reduceEq, Nat.reduceBEq, Int.reduceToNat, Nat.reduceLT, Nat.reduceGT, Nat.reduceSub, Nat.reduceMul, Int.reduceAdd, Int.reduceSub, Int.reduceNeg, Int.reduceGE, Int.reduceGT, h1, h5, h6, h7, h8, h9, i0]
      repeat refine And.intro (by omega) ?_
      refine ⟨j + 1, ⟨by omega, by rw [deepT_succ], rfl⟩, by omega⟩
    have i0 : ¬ (j : Int) < k := by omega
    have hkn : j = k := by omega
    subst hkn
    have hl := deepT_len (o := true) (n := j) (k := j)
    simp -dsimp (disch := first | omega | (refine DrawYes.mk ?_; decide +kernel) | fail) only [go_sem, ↓reduceIte, reduceCtorEq, Nat.reduceEqDiff, Nat.reduceAdd, Nat.reduceLeDiff, Int.reduceLE, Int.reduceLT, Int.reduceBEq, Int.reduceBNe, Int.reduceEq, Nat.reduceBEq, Int.reduceToNat, Nat.reduceLT, Nat.reduceGT, Nat.reduceSub, Nat.reduceMul, Int.reduceAdd, Int.reduceSub, Int.reduceNeg, Int.reduceGE, Int.reduceGT, h1, h5, h6, h7, h8, h9, i0]
    refine call (parse_ok (s := deepT true j j) (by omega)) ?_
    rintro _ H3 ⟨hE3, stmv, topv, rfl, ⟨es, hes, hst⟩, htop⟩
    have ho1 : stmv.one = true := by rcases hes with ⟨rfl, _⟩ | ⟨_, _, rfl⟩ <;> rfl
    have ho2 : topv.one = true := by rcases htop with ⟨rfl, _⟩ | ⟨_, _, rfl⟩ <;> rfl
    have hle := hst.len
    have hF0 := hF
    unfold deepFine at hF0
    generalize parseAll (deepT true j j) = r at hst hF0 hle htop
    obtain ⟨md, R, top, at_, e⟩ := r
    dsimp only at hst hF0 hle htop
    by_cases hm : 9 ≤ j
    · have hm9 : Nat.ble 9 j = true := by rw [Nat.ble_eq]; exact hm
      rw [hm9] at hF0
      simp only [cond_true, cond_false, Bool.and_eq_true, Nat.beq_eq] at hF0
      obtain ⟨rfl, rfl⟩ := hF0
      have i1 : 8 < (j : Int) := by omega
      have hol : (openT true).length = (bif true then 20 else 12) := rfl
      simp only [cond_true, cond_false] at hol
      simp -dsimp (disch := first | omega | (refine DrawYes.mk ?_; decide +kernel) | fail) only [go_sem, ↓reduceIte, reduceCtorEq, Nat.reduceEqDiff, Nat.reduceAdd, Nat.reduceLeDiff, Int.reduceLE, Int.reduceLT, Int.reduceBEq, Int.reduceBNe, Int.reduceEq, Nat.reduceBEq, Int.reduceToNat, Nat.reduceLT, Nat.reduceGT, Nat.reduceSub, Nat.reduceMul, Int.reduceAdd, Int.reduceSub, Int.reduceNeg, Int.reduceGE, Int.reduceGT, h1, h5, h6, h7, h8, h9, i1, ho1, ho2, hol]
      rfl
    · have hm9 : Nat.ble 9 j = false := by rw [Bool.eq_false_iff]; intro h; rw [Nat.ble_eq] at h; exact hm h
      rw [hm9] at hF0
      simp only [cond_true, cond_false, Bool.and_eq_true, Nat.beq_eq] at hF0
      obtain ⟨⟨rfl, hR⟩, rfl⟩ := hF0
      have i1 : ¬ 8 < (j : Int) := by omega
      have hel : es.length = j := by omega
      rcases hes with ⟨rfl, rfl⟩ | ⟨id, off, rfl⟩
      · have i2 : ((0 : Int) == j) = true := by simp at hel ⊢; omega
        simp -dsimp (disch := first | omega | (refine DrawYes.mk ?_; decide +kernel) | fail) only [go_sem, ↓reduceIte, reduceCtorEq, Nat.reduceEqDiff, Nat.reduceAdd, Nat.reduceLeDiff, Int.reduceLE, Int.reduceLT, Int.reduceBEq, Int.reduceBNe, Int.reduceEq, Nat.reduceBEq, Int.reduceToNat, Nat.reduceLT, Nat.reduceGT, Nat.reduceSub, Nat.reduceMul, Int.reduceAdd, Int.reduceSub, Int.reduceNeg, Int.reduceGE, Int.reduceGT, h1, h5, h6, h7, h8, h9, i1, i2, ho2]
      · have i2 : ((es.length : Int) == j) = true := by simp; omega
        simp -dsimp (disch := first | omega | (refine DrawYes.mk ?_; decide +kernel) | fail) only [go_sem, ↓reduceIte, reduceCtorEq, Nat.reduceEqDiff, Nat.reduceAdd, Nat.reduceLeDiff, Int.reduceLE, Int.reduceLT, Int.reduceBEq, Int.reduceBNe, Int.reduceEq, Nat.reduceBEq, Int.reduceToNat, Nat.reduceLT, Nat.reduceGT, Nat.reduceSub, Nat.reduceMul, Int.reduceAdd, Int.reduceSub, Int.reduceNeg, Int.reduceGE, Int.reduceGT, h1, h5, h6, h7, h8, h9, i1, i2, ho2]
end Go.Proofs.YtcknfhhbijlobaaDoor.D
