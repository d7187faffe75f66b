import Derived.Test.YtdlcfkhpcppejaaLexQ
namespace Go.Proofs.Ytdlcfkhpcppejaa.D
open Go
set_option linter.unusedVariables false
set_option linter.unusedSimpArgs false
set_option maxRecDepth 100000

theorem short_ok {s : List UInt8} {H : DH} : WC cfg 9 [.str s] H fun v H' => v = .str (s.take 2100) ∧ H' = H := by
  refine WC_of (show Has cfg 9 9 [.tmp 2] _ from ⟨by kernel_rfl, Try.f9, Try.func9, rfl, rfl, rfl, by kernel_rfl⟩) (by simp) ?_
  by_cases hb : 2100 < s.length
  · have i : 2100 < (s.length : Int) := by omega
    simp -dsimp (disch := first | omega | (refine DrawYes.mk ?_; kernel_rfl) | fail) only [go_sem, ↓reduceIte, reduceCtorEq, Nat.reduceEqDiff, Nat.reduceAdd, Nat.reduceLeDiff, Int.reduceLE, Int.reduceLT, Int.reduceBEq, Int.reduceBNe, Int.reduceEq, Nat.reduceBEq, Int.reduceToNat, Nat.reduceLT, Nat.reduceGT, Nat.reduceSub, Nat.reduceMul, Int.reduceAdd, Int.reduceSub, Int.reduceNeg, Int.reduceGE, Int.reduceGT, i]
    omega
  · have i : ¬ 2100 < (s.length : Int) := by omega
    simp -dsimp (disch := first | omega | (refine DrawYes.mk ?_; kernel_rfl) | fail) only [go_sem, ↓reduceIte, reduceCtorEq, Nat.reduceEqDiff, Nat.reduceAdd, Nat.reduceLeDiff, Int.reduceLE, Int.reduceLT, Int.reduceBEq, Int.reduceBNe, Int.reduceEq, Nat.reduceBEq, Int.reduceToNat, Nat.reduceLT, Nat.reduceGT, Nat.reduceSub, Nat.reduceMul, Int.reduceAdd, Int.reduceSub, Int.reduceNeg, Int.reduceGE, Int.reduceGT, i]
    rw [List.take_of_length_le (by omega)]
theorem short_eq {s : List UInt8} {H : DH} {K : DV → DH → Prop} {b : Later K} : WK cfg 9 [.str s] H b = K (.str (s.take 2100)) H := WK_det short_ok
/-- A byte that may be in a text. -/
def fineC (c : UInt8) : Bool := (32 ≤ c.toNat && c.toNat ≤ 126) || c.toNat == 9 || c.toNat == 10 || c.toNat == 13
theorem fine_ok {c : UInt8} : okc c = fineC c := by
  unfold okc fineC unesc
  have e : ∀ n : UInt8, (c = n) = (c.toNat = n.toNat) := fun n => by rw [UInt8.toNat_inj]
  simp only [e]
  have h92 : (92 : UInt8).toNat = 92 := rfl
  have h34 : (34 : UInt8).toNat = 34 := rfl
  have h10 : (10 : UInt8).toNat = 10 := rfl
  have h13 : (13 : UInt8).toNat = 13 := rfl
  have h9 : (9 : UInt8).toNat = 9 := rfl
  rw [h92, h34, h10, h13, h9]
  generalize c.toNat = n
  rw [Bool.eq_iff_iff]
  simp only [Bool.or_eq_true, Bool.and_eq_true, decide_eq_true_eq, beq_iff_eq]
  split
  · simp; omega
  split
  · simp; omega
  split
  · simp; omega
  split
  · simp; omega
  split
  · simp; omega
  simp; omega
theorem quoteL_eq {s : List UInt8} : (quoteL s).isSome = (decide (s.length ≤ 100) && s.all fineC) := by
  have h : s.all okc = s.all fineC := by congr 1; funext c; exact fine_ok
  unfold quoteL
  rw [qz_eq, h]
  by_cases h1 : 100 < s.length
  · rw [if_pos h1]; simp; omega
  · rw [if_neg h1]
    cases s.all fineC <;> simp; omega
theorem quoteV_eq {o : Option (List UInt8)} : quoteV o = .tup [.str (o.getD []), .bool o.isSome] := by cases o <;> rfl
theorem and15 (b : UInt8) : IntKind.u8.wrap ((BitVec.ofInt IntKind.u8.bits (b.toNat : Int) &&& BitVec.ofInt IntKind.u8.bits 15).toNat : Int) = ((b.toNat % 16 : Nat) : Int) := by
  have h : b.toNat < 256 := b.toNat_lt
  have e : (BitVec.ofInt IntKind.u8.bits (b.toNat : Int) &&& BitVec.ofInt IntKind.u8.bits 15).toNat = b.toNat % 16 := by
    rw [BitVec.toNat_and, BitVec.toNat_ofInt, BitVec.toNat_ofInt]
    show ((b.toNat : Int) % 256).toNat &&& 15 = _
    rw [Int.emod_eq_of_lt (by omega) (by omega), Int.toNat_natCast]
    exact Nat.and_two_pow_sub_one_eq_mod b.toNat 4
  rw [e, wrap_u8 (by omega) (by omega)]
theorem lexQuotes_ok {t0 : List UInt8} {b : UInt8} {H : DH} : WC cfg 6 [.str t0, byteDV b] H fun v H' => v = .bool true := by
  refine WC_of (show Has cfg 6 124 [.tmp 4] _ from ⟨by kernel_rfl, Try.f6, Try.func6, rfl, rfl, rfl, by kernel_rfl⟩) (by simp) ?_
  have hb := b.toNat_lt
  simp -dsimp (disch := first | omega | (refine DrawYes.mk ?_; kernel_rfl) | fail) only [go_sem, ↓reduceIte, reduceCtorEq, Nat.reduceEqDiff, Nat.reduceAdd, Nat.reduceLeDiff, Int.reduceLE, Int.reduceLT, Int.reduceBEq, Int.reduceBNe, Int.reduceEq, Nat.reduceBEq, Int.reduceToNat, Nat.reduceLT, Nat.reduceGT, Nat.reduceSub, Nat.reduceMul, Int.reduceAdd, Int.reduceSub, Int.reduceNeg, Int.reduceGE, Int.reduceGT]
  refine call shown_ok ?_
  rintro _ H1 ⟨rfl, hE⟩
  obtain ⟨t, ht⟩ : ∃ t, t0.take 2100 = t := ⟨_, rfl⟩
  have htl : t.length ≤ 2100 := by rw [← ht]; simp; omega
  simp -dsimp (disch := first | omega | (refine DrawYes.mk ?_; kernel_rfl) | fail) only [go_sem, ↓reduceIte, reduceCtorEq, Nat.reduceEqDiff, Nat.reduceAdd, Nat.reduceLeDiff, Int.reduceLE, Int.reduceLT, Int.reduceBEq, Int.reduceBNe, Int.reduceEq, Nat.reduceBEq, Int.reduceToNat, Nat.reduceLT, Nat.reduceGT, Nat.reduceSub, Nat.reduceMul, Int.reduceAdd, Int.reduceSub, Int.reduceNeg, Int.reduceGE, Int.reduceGT, short_eq, ht]
  refine call (quote_ok (by omega)) ?_
  rintro _ H2 ⟨rfl, hE2⟩
  rw [quoteV_eq]
  obtain ⟨ok, hok⟩ : ∃ ok, (quoteL t).isSome = ok := ⟨_, rfl⟩
  obtain ⟨q, hqd⟩ : ∃ q, (quoteL t).getD [] = q := ⟨_, rfl⟩
  have hn := quoteL_eq (s := t)
  rw [hok] at hn
  simp -dsimp (disch := first | omega | (refine DrawYes.mk ?_; kernel_rfl) | fail) only [go_sem, ↓reduceIte, reduceCtorEq, Nat.reduceEqDiff, Nat.reduceAdd, Nat.reduceLeDiff, Int.reduceLE, Int.reduceLT, Int.reduceBEq, Int.reduceBNe, Int.reduceEq, Nat.reduceBEq, Int.reduceToNat, Nat.reduceLT, Nat.reduceGT, Nat.reduceSub, Nat.reduceMul, Int.reduceAdd, Int.reduceSub, Int.reduceNeg, Int.reduceGE, Int.reduceGT, hok, hqd]
  refine Y_loop (α := Nat) (fun k σ _ => k ≤ t.length ∧ σ 0 = .str t ∧ σ 1 = .int .u8 b.toNat ∧ σ 5 = .bool true ∧ σ 6 = .str q ∧ σ 7 = .bool ok ∧ σ 8 = .bool (decide (t.length ≤ 100) && (t.take k).all fineC) ∧ σ 9 = .int .i64 k) (fun k => t.length - k) 0 ?_ ?_
  · simp -dsimp (disch := first | omega | (refine DrawYes.mk ?_; kernel_rfl) | fail) only [go_sem, ↓reduceIte, reduceCtorEq, Nat.reduceEqDiff, Nat.reduceAdd, Nat.reduceLeDiff, Int.reduceLE, Int.reduceLT, Int.reduceBEq, Int.reduceBNe, Int.reduceEq, Nat.reduceBEq, Int.reduceToNat, Nat.reduceLT, Nat.reduceGT, Nat.reduceSub, Nat.reduceMul, Int.reduceAdd, Int.reduceSub, Int.reduceNeg, Int.reduceGE, Int.reduceGT, hok, hqd]
    refine ⟨Nat.zero_le _, congrArg DV.bool ?_⟩
    rw [Bool.eq_iff_iff]; simp only [decide_eq_true_eq]; omega
  rintro k σ H3 ⟨hk, h0, h1, h5, h6, h7, h8, h9⟩
  by_cases hlt : k < t.length
  · have hg : t[k]? = some t[k] := List.getElem?_eq_getElem hlt
    have i0 : (k : Int) < t.length := by omega
    have hstep : (t.take (k + 1)).all fineC = ((t.take k).all fineC && fineC t[k]) := by
      rw [List.take_add_one, hg, List.all_append]; simp
    generalize t[k] = c at hg hstep
    generalize (t.take k).all fineC = f at h8 hstep
    generalize hF : (decide (t.length ≤ 100) && f) = F at h8
    have fin : ∀ x : Bool, x = (F && fineC c) → DV.bool x = DV.bool (decide (t.length ≤ 100) && (t.take (k + 1)).all fineC) := by
      intro x hx
      rw [hx, hstep, ← hF, Bool.and_assoc]
    cases F with
    | false =>
      simp -dsimp (disch := first | omega | (refine DrawYes.mk ?_; kernel_rfl) | fail) only [go_sem, ↓reduceIte, reduceCtorEq, Nat.reduceEqDiff, Nat.reduceAdd, Nat.reduceLeDiff, Int.reduceLE, Int.reduceLT, Int.reduceBEq, Int.reduceBNe, Int.reduceEq, Nat.reduceBEq, Int.reduceToNat, Nat.reduceLT, Nat.reduceGT, Nat.reduceSub, Nat.reduceMul, Int.reduceAdd, Int.reduceSub, Int.reduceNeg, Int.reduceGE, Int.reduceGT, h0, h1, h5, h6, h7, h8, h9, i0, hg]
      exact ⟨k + 1, ⟨by omega, fin _ rfl, rfl⟩, by omega⟩
    | true =>
      by_cases c1 : 32 ≤ c.toNat
      · have i1 : 32 ≤ (c.toNat : Int) := by omega
        by_cases c2 : c.toNat ≤ 126
        · have i2 : (c.toNat : Int) ≤ 126 := by omega
          simp -dsimp (disch := first | omega | (refine DrawYes.mk ?_; kernel_rfl) | fail) only [go_sem, ↓reduceIte, reduceCtorEq, Nat.reduceEqDiff, Nat.reduceAdd, Nat.reduceLeDiff, Int.reduceLE, Int.reduceLT, Int.reduceBEq, Int.reduceBNe, Int.reduceEq, Nat.reduceBEq, Int.reduceToNat, Nat.reduceLT, Nat.reduceGT, Nat.reduceSub, Nat.reduceMul, Int.reduceAdd, Int.reduceSub, Int.reduceNeg, Int.reduceGE, Int.reduceGT, h0, h1, h5, h6, h7, h8, h9, i0, hg, i1, i2]
          repeat refine And.intro (by omega) ?_
          refine ⟨k + 1, ⟨by omega, fin _ ?_, rfl⟩, by omega⟩
          simp [fineC, c1, c2]
        · have i2 : ¬ (c.toNat : Int) ≤ 126 := by omega
          by_cases d9 : c.toNat = 9
          · have j9 : ((c.toNat : Int) == 9) = true := by simp; omega
            simp -dsimp (disch := first | omega | (refine DrawYes.mk ?_; kernel_rfl) | fail) only [go_sem, ↓reduceIte, reduceCtorEq, Nat.reduceEqDiff, Nat.reduceAdd, Nat.reduceLeDiff, Int.reduceLE, Int.reduceLT, Int.reduceBEq, Int.reduceBNe, Int.reduceEq, Nat.reduceBEq, Int.reduceToNat, Nat.reduceLT, Nat.reduceGT, Nat.reduceSub, Nat.reduceMul, Int.reduceAdd, Int.reduceSub, Int.reduceNeg, Int.reduceGE, Int.reduceGT, h0, h1, h5, h6, h7, h8, h9, i0, hg, i1, i2, j9]
            repeat refine And.intro (by omega) ?_
            refine ⟨k + 1, ⟨by omega, fin _ ?_, rfl⟩, by omega⟩
            simp [fineC, d9]
          have j9 : ((c.toNat : Int) == 9) = false := by simp; omega
          by_cases d10 : c.toNat = 10
          · have j10 : ((c.toNat : Int) == 10) = true := by simp; omega
            simp -dsimp (disch := first | omega | (refine DrawYes.mk ?_; kernel_rfl) | fail) only [go_sem, ↓reduceIte, reduceCtorEq, Nat.reduceEqDiff, Nat.reduceAdd, Nat.reduceLeDiff, Int.reduceLE, Int.reduceLT, Int.reduceBEq, Int.reduceBNe, Int.reduceEq, Nat.reduceBEq, Int.reduceToNat, Nat.reduceLT, Nat.reduceGT, Nat.reduceSub, Nat.reduceMul, Int.reduceAdd, Int.reduceSub, Int.reduceNeg, Int.reduceGE, Int.reduceGT, h0, h1, h5, h6, h7, h8, h9, i0, hg, i1, i2, j9, j10]
            repeat refine And.intro (by omega) ?_
            refine ⟨k + 1, ⟨by omega, fin _ ?_, rfl⟩, by omega⟩
            simp [fineC, d10]
          have j10 : ((c.toNat : Int) == 10) = false := by simp; omega
          by_cases d13 : c.toNat = 13
          · have j13 : ((c.toNat : Int) == 13) = true := by simp; omega
            simp -dsimp (disch := first | omega | (refine DrawYes.mk ?_; kernel_rfl) | fail) only [go_sem, ↓reduceIte, reduceCtorEq, Nat.reduceEqDiff, Nat.reduceAdd, Nat.reduceLeDiff, Int.reduceLE, Int.reduceLT, Int.reduceBEq, Int.reduceBNe, Int.reduceEq, Nat.reduceBEq, Int.reduceToNat, Nat.reduceLT, Nat.reduceGT, Nat.reduceSub, Nat.reduceMul, Int.reduceAdd, Int.reduceSub, Int.reduceNeg, Int.reduceGE, Int.reduceGT, h0, h1, h5, h6, h7, h8, h9, i0, hg, i1, i2, j9, j10, j13]
            repeat refine And.intro (by omega) ?_
            refine ⟨k + 1, ⟨by omega, fin _ ?_, rfl⟩, by omega⟩
            simp [fineC, d13]
          have j13 : ((c.toNat : Int) == 13) = false := by simp; omega
          simp -dsimp (disch := first | omega | (refine DrawYes.mk ?_; kernel_rfl) | fail) only [go_sem, ↓reduceIte, reduceCtorEq, Nat.reduceEqDiff, Nat.reduceAdd, Nat.reduceLeDiff, Int.reduceLE, Int.reduceLT, Int.reduceBEq, Int.reduceBNe, Int.reduceEq, Nat.reduceBEq, Int.reduceToNat, Nat.reduceLT, Nat.reduceGT, Nat.reduceSub, Nat.reduceMul, Int.reduceAdd, Int.reduceSub, Int.reduceNeg, Int.reduceGE, Int.reduceGT, h0, h1, h5, h6, h7, h8, h9, i0, hg, i1, i2, j9, j10, j13]
          repeat refine And.intro (by omega) ?_
          refine ⟨k + 1, ⟨by omega, fin _ ?_, rfl⟩, by omega⟩
          simp [fineC, d9, d10, d13]; omega
      · have i1 : ¬ 32 ≤ (c.toNat : Int) := by omega
        by_cases d9 : c.toNat = 9
        · have j9 : ((c.toNat : Int) == 9) = true := by simp; omega
          simp -dsimp (disch := first | omega | (refine DrawYes.mk ?_; kernel_rfl) | fail) only [go_sem, ↓reduceIte, reduceCtorEq, Nat.reduceEqDiff, Nat.reduceAdd, Nat.reduceLeDiff, Int.reduceLE, Int.reduceLT, Int.reduceBEq, Int.reduceBNe, Int.reduceEq, Nat.reduceBEq, Int.reduceToNat, Nat.reduceLT, Nat.reduceGT, Nat.reduceSub, Nat.reduceMul, Int.reduceAdd, Int.reduceSub, Int.reduceNeg, Int.reduceGE, Int.reduceGT, h0, h1, h5, h6, h7, h8, h9, i0, hg, i1, j9]
          repeat refine And.intro (by omega) ?_
          refine ⟨k + 1, ⟨by omega, fin _ ?_, rfl⟩, by omega⟩
          simp [fineC, d9]
        have j9 : ((c.toNat : Int) == 9) = false := by simp; omega
        by_cases d10 : c.toNat = 10
        · have j10 : ((c.toNat : Int) == 10) = true := by simp; omega
          simp -dsimp (disch := first | omega | (refine DrawYes.mk ?_; kernel_rfl) | fail) only [go_sem, ↓reduceIte, reduceCtorEq, Nat.reduceEqDiff, Nat.reduceAdd, Nat.reduceLeDiff, Int.reduceLE, Int.reduceLT, Int.reduceBEq, Int.reduceBNe, Int.reduceEq, Nat.reduceBEq, Int.reduceToNat, Nat.reduceLT, Nat.reduceGT, Nat.reduceSub, Nat.reduceMul, Int.reduceAdd, Int.reduceSub, Int.reduceNeg, Int.reduceGE, Int.reduceGT, h0, h1, h5, h6, h7, h8, h9, i0, hg, i1, j9, j10]
          repeat refine And.intro (by omega) ?_
          refine ⟨k + 1, ⟨by omega, fin _ ?_, rfl⟩, by omega⟩
          simp [fineC, d10]
        have j10 : ((c.toNat : Int) == 10) = false := by simp; omega
        by_cases d13 : c.toNat = 13
        · have j13 : ((c.toNat : Int) == 13) = true := by simp; omega
          simp -dsimp (disch := first | omega | (refine DrawYes.mk ?_; kernel_rfl) | fail) only [go_sem, ↓reduceIte, reduceCtorEq, Nat.reduceEqDiff, Nat.reduceAdd, Nat.reduceLeDiff, Int.reduceLE, Int.reduceLT, Int.reduceBEq, Int.reduceBNe, Int.reduceEq, Nat.reduceBEq, Int.reduceToNat, Nat.reduceLT, Nat.reduceGT, Nat.reduceSub, Nat.reduceMul, Int.reduceAdd, Int.reduceSub, Int.reduceNeg, Int.reduceGE, Int.reduceGT, h0, h1, h5, h6, h7, h8, h9, i0, hg, i1, j9, j10, j13]
          repeat refine And.intro (by omega) ?_
          refine ⟨k + 1, ⟨by omega, fin _ ?_, rfl⟩, by omega⟩
          simp [fineC, d13]
        have j13 : ((c.toNat : Int) == 13) = false := by simp; omega
        simp -dsimp (disch := first | omega | (refine DrawYes.mk ?_; kernel_rfl) | fail) only [go_sem, ↓reduceIte, reduceCtorEq, Nat.reduceEqDiff, Nat.reduceAdd, Nat.reduceLeDiff, Int.reduceLE, Int.reduceLT, Int.reduceBEq, Int.reduceBNe, Int.reduceEq, Nat.reduceBEq, Int.reduceToNat, Nat.reduceLT, Nat.reduceGT, Nat.reduceSub, Nat.reduceMul, Int.reduceAdd, Int.reduceSub, Int.reduceNeg, Int.reduceGE, Int.reduceGT, h0, h1, h5, h6, h7, h8, h9, i0, hg, i1, j9, j10, j13]
        repeat refine And.intro (by omega) ?_
        refine ⟨k + 1, ⟨by omega, fin _ ?_, rfl⟩, by omega⟩
        simp [fineC, d9, d10, d13]; omega
  have i0 : ¬ (k : Int) < t.length := by omega
  rw [List.take_of_length_le (by omega), ← hn] at h8
  cases ok with
  | false =>
    have hq0 : q = [] := by rw [← hqd]; cases hz : quoteL t with | none => rfl | some z => rw [hz] at hok; cases hok
    subst hq0
    simp -dsimp (disch := first | omega | (refine DrawYes.mk ?_; kernel_rfl) | fail) only [go_sem, ↓reduceIte, reduceCtorEq, Nat.reduceEqDiff, Nat.reduceAdd, Nat.reduceLeDiff, Int.reduceLE, Int.reduceLT, Int.reduceBEq, Int.reduceBNe, Int.reduceEq, Nat.reduceBEq, Int.reduceToNat, Nat.reduceLT, Nat.reduceGT, Nat.reduceSub, Nat.reduceMul, Int.reduceAdd, Int.reduceSub, Int.reduceNeg, Int.reduceGE, Int.reduceGT, h0, h1, h5, h6, h7, h8, h9, i0]
  | true =>
    have hq0 : quoteL t = some q := by cases hz : quoteL t with | none => rw [hz] at hok; cases hok | some z => rw [hz] at hqd; simpa using hqd
    obtain ⟨g, hg⟩ : ∃ g : Nat, g = b.toNat % 16 := ⟨_, rfl⟩
    have hand : IntKind.u8.wrap ((BitVec.ofInt IntKind.u8.bits (b.toNat : Int) &&& BitVec.ofInt IntKind.u8.bits 15).toNat : Int) = (g : Int) := by rw [hg]; exact and15 b
    have hg15 : g ≤ 15 := by omega
    simp -dsimp (disch := first | omega | (refine DrawYes.mk ?_; kernel_rfl) | fail) only [go_sem, ↓reduceIte, reduceCtorEq, Nat.reduceEqDiff, Nat.reduceAdd, Nat.reduceLeDiff, Int.reduceLE, Int.reduceLT, Int.reduceBEq, Int.reduceBNe, Int.reduceEq, Nat.reduceBEq, Int.reduceToNat, Nat.reduceLT, Nat.reduceGT, Nat.reduceSub, Nat.reduceMul, Int.reduceAdd, Int.reduceSub, Int.reduceNeg, Int.reduceGE, Int.reduceGT, h0, h1, h5, h6, h7, h8, h9, i0]
    refine Y_loop (α := Nat) (fun j σ _ => j ≤ g ∧ σ 0 = .str t ∧ σ 1 = .int .u8 b.toNat ∧ σ 5 = .bool true ∧ σ 6 = .str q ∧ σ 10 = .str (List.replicate j 32) ∧ σ 11 = .int .i64 j) (fun j => g - j) 0 ?_ ?_
    · simp -dsimp (disch := first | omega | (refine DrawYes.mk ?_; kernel_rfl) | fail) only [go_sem, ↓reduceIte, reduceCtorEq, Nat.reduceEqDiff, Nat.reduceAdd, Nat.reduceLeDiff, Int.reduceLE, Int.reduceLT, Int.reduceBEq, Int.reduceBNe, Int.reduceEq, Nat.reduceBEq, Int.reduceToNat, Nat.reduceLT, Nat.reduceGT, Nat.reduceSub, Nat.reduceMul, Int.reduceAdd, Int.reduceSub, Int.reduceNeg, Int.reduceGE, Int.reduceGT, h0, h1, h5, h6]
      simp
    clear h0 h1 h5 h6 h7 h8 h9 i0
    rintro j σ H4 ⟨hj, h0, h1, h5, h6, h10, h11⟩
    by_cases hlt : j < g
    · have i0 : (j : Int) < g := by omega
      simp -dsimp (disch := first | omega | (refine DrawYes.mk ?_; kernel_rfl) | fail) only [go_sem, ↓reduceIte, reduceCtorEq, Nat.reduceEqDiff, Nat.reduceAdd, Nat.reduceLeDiff, Int.reduceLE, Int.reduceLT, Int.reduceBEq, Int.reduceBNe, Int.reduceEq, Nat.reduceBEq, Int.reduceToNat, Nat.reduceLT, Nat.reduceGT, Nat.reduceSub, Nat.reduceMul, Int.reduceAdd, Int.reduceSub, Int.reduceNeg, Int.reduceGE, Int.reduceGT, h0, h1, h5, h6, h10, h11, hand, i0]
      refine ⟨by simp; omega, j + 1, ⟨by omega, by rw [List.replicate_succ'], rfl⟩, by omega⟩
    have i0 : ¬ (j : Int) < g := by omega
    obtain rfl : j = g := by omega
    obtain ⟨hlaw, hql⟩ := quotes_law hg15 hq0
    simp -dsimp (disch := first | omega | (refine DrawYes.mk ?_; kernel_rfl) | fail) only [go_sem, ↓reduceIte, reduceCtorEq, Nat.reduceEqDiff, Nat.reduceAdd, Nat.reduceLeDiff, Int.reduceLE, Int.reduceLT, Int.reduceBEq, Int.reduceBNe, Int.reduceEq, Nat.reduceBEq, Int.reduceToNat, Nat.reduceLT, Nat.reduceGT, Nat.reduceSub, Nat.reduceMul, Int.reduceAdd, Int.reduceSub, Int.reduceNeg, Int.reduceGE, Int.reduceGT, h0, h1, h5, h6, h10, h11, hand, i0]
    refine ⟨by simp; omega, by simp; omega, call (all_ok (by simp; omega)) ?_⟩
    rw [hlaw]
    rintro _ H5 ⟨hE5, v', rfl, hs⟩
    rcases hs with ⟨rfl, hs⟩ | ⟨id, off, _, rfl, hs⟩
    · cases hs
    simp only [List.map_cons, List.map_nil, Tok.dv]
    have hll : (List.replicate j (32 : UInt8)).length = j := List.length_replicate
    simp -dsimp (disch := first | omega | (refine DrawYes.mk ?_; kernel_rfl) | fail) only [go_sem, ↓reduceIte, reduceCtorEq, Nat.reduceEqDiff, Nat.reduceAdd, Nat.reduceLeDiff, Int.reduceLE, Int.reduceLT, Int.reduceBEq, Int.reduceBNe, Int.reduceEq, Nat.reduceBEq, Int.reduceToNat, Nat.reduceLT, Nat.reduceGT, Nat.reduceSub, Nat.reduceMul, Int.reduceAdd, Int.reduceSub, Int.reduceNeg, Int.reduceGE, Int.reduceGT, h0, h1, h5, h6, h10, h11, cellsEq, cellEq, hll]
end Go.Proofs.Ytdlcfkhpcppejaa.D
