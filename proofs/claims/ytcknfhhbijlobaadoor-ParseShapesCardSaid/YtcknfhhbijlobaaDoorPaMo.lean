import Derived.Test.YtcknfhhbijlobaaDoorMG
import Derived.Test.YtcknfhhbijlobaaDoorPaD
/- ParseModes: the plain law and the walk. -/
namespace Go.Proofs.YtcknfhhbijlobaaDoor.D
open Go
set_option linter.unusedVariables false
set_option linter.unusedSimpArgs false
set_option maxRecDepth 100000

def modeSp : List UInt8 := [109, 111, 100, 101, 32]
def smtpSp : List UInt8 := [32, 109, 111, 100, 101, 32, 115, 109, 116, 112, 59]
theorem modes_end {p md : Nat} : finP md (runP ⟨[⟨0, [], p⟩], [], [], []⟩) = ⟨md, [], [], 0, 0⟩ := by
  simp [runP, goP, stepP, finP]
theorem modeW_small : ∀ w ∈ modeW, w ≠ [] := by decide
theorem modes1 {n : List UInt8} (hn : ∀ c ∈ n, c ∈ smallL) (hl : n.length ≤ 12) : parseAll (modeSp ++ n ++ [59]) = if n ∈ modeW then ⟨modeL n, [], [], 0, 0⟩ else ⟨0, [], [], 5, 20⟩ := by
  by_cases h0 : n = []
  · subst h0; kernel_rfl
  have e : modeSp ++ n ++ [59] = modeWord ++ 32 :: (n ++ 59 :: []) := by simp [modeSp, modeWord]
  have hx : lexAll (modeSp ++ n ++ [59]) = ([⟨1, modeWord, 0⟩, ⟨1, n, 5⟩, ⟨4, [59], 5 + n.length⟩, ⟨0, [], (modeSp ++ n ++ [59]).length⟩], 0, 0) := by
    rw [lexAll_un (by rw [List.length_append, List.length_append]; have : modeSp.length = 5 := rfl; simp; omega)]
    have : un (modeSp ++ n ++ [59]) 0 = ([⟨1, modeWord, 0⟩, ⟨1, n, 5⟩, ⟨4, [59], 5 + n.length⟩], none) := by
      rw [e, un_word (by decide) (by decide) (by decide) (by decide), un_space, un_word h0 hn hl (by decide), un_sign (by decide), un_nil]
      rfl
    rw [this]
    rfl
  unfold parseAll
  rw [hx]
  simp only [if_true]
  unfold parseTs headP
  simp only [if_true, and_self, true_and]
  by_cases hm : n ∈ modeW
  · simp only [if_pos hm]; exact modes_end
  · simp only [if_neg hm]
theorem modes2 {n : List UInt8} (hn : ∀ c ∈ n, c ∈ smallL) (hl : n.length ≤ 12) : parseAll (n ++ smtpSp) = if n = [] then ⟨1, [], [], 0, 0⟩ else if n = modeWord then ⟨0, [], [], 5, 20⟩ else ⟨0, [], [], 0, 20⟩ := by
  by_cases h0 : n = []
  · subst h0; kernel_rfl
  rw [if_neg h0]
  have e : n ++ smtpSp = n ++ 32 :: (modeWord ++ 32 :: ([115, 109, 116, 112] ++ 59 :: [])) := by simp [smtpSp, modeWord]
  have hx : lexAll (n ++ smtpSp) = ([⟨1, n, 0⟩, ⟨1, modeWord, n.length + 1⟩, ⟨1, [115, 109, 116, 112], n.length + 6⟩, ⟨4, [59], n.length + 10⟩, ⟨0, [], (n ++ smtpSp).length⟩], 0, 0) := by
    rw [lexAll_un (by rw [List.length_append]; have : smtpSp.length = 11 := rfl; omega)]
    have : un (n ++ smtpSp) 0 = ([⟨1, n, 0⟩, ⟨1, modeWord, n.length + 1⟩, ⟨1, [115, 109, 116, 112], n.length + 6⟩, ⟨4, [59], n.length + 10⟩], none) := by
      rw [e, un_word h0 hn hl (by decide), un_space, un_word (by decide) (by decide) (by decide) (by decide), un_space, un_word (by decide) (by decide) (by decide) (by decide), un_sign (by decide), un_nil]
      simp [push, modeWord]
    rw [this]
    rfl
  unfold parseAll
  rw [hx]
  simp only [if_true]
  unfold parseTs headP
  by_cases hm : n = modeWord
  · subst hm
    simp [modeW, modeWord]
  · simp [hm]
theorem small_mem {c : UInt8} (h1 : 97 ≤ c.toNat) (h2 : c.toNat ≤ 122) : c ∈ smallL := by
  have hall : ∀ k, k < 26 → UInt8.ofNat (97 + k) ∈ smallL := by decide
  have := hall (c.toNat - 97) (by omega)
  rw [show 97 + (c.toNat - 97) = c.toNat by omega, UInt8.ofNat_toNat] at this
  exact this
theorem ne_ab : (([115, 109, 116, 112] : List UInt8) = [112, 111, 112, 51]) = False := by simp
theorem ne_ac : (([115, 109, 116, 112] : List UInt8) = [102, 116, 112]) = False := by simp
theorem ne_ba : (([112, 111, 112, 51] : List UInt8) = [115, 109, 116, 112]) = False := by simp
theorem ne_bc : (([112, 111, 112, 51] : List UInt8) = [102, 116, 112]) = False := by simp
theorem ne_ca : (([102, 116, 112] : List UInt8) = [115, 109, 116, 112]) = False := by simp
theorem ne_cb : (([102, 116, 112] : List UInt8) = [112, 111, 112, 51]) = False := by simp
theorem ne_a0 : (([115, 109, 116, 112] : List UInt8) = []) = False := by simp
theorem ne_b0 : (([112, 111, 112, 51] : List UInt8) = []) = False := by simp
theorem ne_c0 : (([102, 116, 112] : List UInt8) = []) = False := by simp
theorem mz_a : ((modeL [115, 109, 116, 112] : Nat) : Int) = 1 := rfl
theorem mz_b : ((modeL [112, 111, 112, 51] : Nat) : Int) = 2 := rfl
theorem mz_c : ((modeL [102, 116, 112] : Nat) : Int) = 3 := rfl
theorem ne_am : (([115, 109, 116, 112] : List UInt8) = [109, 111, 100, 101]) = False := by simp
theorem be_am : (([115, 109, 116, 112] : List UInt8) == [109, 111, 100, 101]) = false := rfl
theorem be_a0 : (([115, 109, 116, 112] : List UInt8) == []) = false := rfl
theorem ne_bm : (([112, 111, 112, 51] : List UInt8) = [109, 111, 100, 101]) = False := by simp
theorem be_bm : (([112, 111, 112, 51] : List UInt8) == [109, 111, 100, 101]) = false := rfl
theorem be_b0 : (([112, 111, 112, 51] : List UInt8) == []) = false := rfl
theorem ne_cm : (([102, 116, 112] : List UInt8) = [109, 111, 100, 101]) = False := by simp
theorem be_cm : (([102, 116, 112] : List UInt8) == [109, 111, 100, 101]) = false := rfl
theorem be_c0 : (([102, 116, 112] : List UInt8) == []) = false := rfl
theorem nz_w : ((modeWord : List UInt8) = []) = False := by simp [modeWord]
attribute [local go_sem] ne_ab ne_ac ne_a0 ne_ba ne_bc ne_b0 ne_ca ne_cb ne_c0 mz_a mz_b mz_c ne_am be_am be_a0 ne_bm be_bm be_b0 ne_cm be_cm be_c0
theorem cut_one {s : List UInt8} {k : Nat} {c : UInt8} (h : s[k]? = some c) : (s.take (k + 1)).drop k = [c] := by
  obtain ⟨hk, hx⟩ := List.getElem?_eq_some_iff.1 h
  rw [List.drop_take, show k + 1 - k = 1 by omega, List.drop_eq_getElem_cons hk, hx]
  rfl
theorem slv_len {v : DV} {es : List DV} {sz : Nat} {T : Tab} {H : DH} {t e : TypeId} (h : (v = .nils ∧ es = []) ∨ ∃ id off, v = .sl id sz off es) (ht : T.und t = some (.slice e)) : lenD T H t v = some (.int .i64 es.length) := by
  rcases h with ⟨rfl, rfl⟩ | ⟨id, off, rfl⟩ <;> simp [lenD, ht]
theorem slv_one {v : DV} {es : List DV} {sz : Nat} (h : (v = .nils ∧ es = []) ∨ ∃ id off, v = .sl id sz off es) : v.one = true := by
  rcases h with ⟨rfl, rfl⟩ | ⟨id, off, rfl⟩ <;> rfl
theorem PrgV.two {R : List Stm} {top : List Nat} {stmv topv : DV} (h : PrgV R top stmv topv) : stmv.one = true ∧ topv.one = true ∧ ∀ H, lenD cfg.T H 23 stmv = some (.int .i64 R.length) := by
  obtain ⟨⟨es, hes, hst⟩, htop⟩ := h
  have htop' : (topv = .nils ∧ top.map intV = []) ∨ ∃ id off, topv = .sl id 1 off (top.map intV) := by
    rcases htop with ⟨rfl, rfl⟩ | h
    · exact .inl ⟨rfl, rfl⟩
    · exact .inr h
  exact ⟨slv_one hes, slv_one htop', fun H => by rw [slv_len hes und_23, hst.len]⟩
def exit_one (s n : List UInt8) (k : Nat) : Prop := (k : Int) < s.length ∧ ¬ (n.length : Int) < 12
def exit_two (s n : List UInt8) (k : Nat) : Prop := ¬ (k : Int) < s.length ∧ ¬ (k : Int) < s.length
theorem parseModes_ok {s : List UInt8} {H : DH} (hs : s.length ≤ 9223372036854775807) : WC cfg 7 [.str s] H fun v H' => v = .bool true := by
  refine WC_of (show Has cfg 7 133 [.tmp 2] _ from ⟨by kernel_rfl, Tryd.f7, Tryd.func7, rfl, rfl, rfl, by kernel_rfl⟩) (by simp) ?_
  simp -dsimp (disch := first | omega | (refine DrawYes.mk ?_; decide +kernel) | fail) only [go_sem, ↓reduceIte, reduceCtorEq, Nat.reduceEqDiff, Nat.reduceAdd, Nat.reduceLeDiff, Int.reduceLE, Int.reduceLT, Int.reduceBEq, Int.reduceBNe, Int.reduceEq, Nat.reduceBEq, Int.reduceToNat, Nat.reduceLT, Nat.reduceGT, Nat.reduceSub, Nat.reduceMul, Int.reduceAdd, Int.reduceSub, Int.reduceNeg, Int.reduceGE, Int.reduceGT]
  refine call pshown_ok ?_
  rintro _ H1 ⟨rfl, hE⟩
  simp -dsimp (disch := first | omega | (refine DrawYes.mk ?_; decide +kernel) | fail) only [go_sem, ↓reduceIte, reduceCtorEq, Nat.reduceEqDiff, Nat.reduceAdd, Nat.reduceLeDiff, Int.reduceLE, Int.reduceLT, Int.reduceBEq, Int.reduceBNe, Int.reduceEq, Nat.reduceBEq, Int.reduceToNat, Nat.reduceLT, Nat.reduceGT, Nat.reduceSub, Nat.reduceMul, Int.reduceAdd, Int.reduceSub, Int.reduceNeg, Int.reduceGE, Int.reduceGT]
  refine Y_loop (α := Nat × List UInt8) (fun k σ H => k.1 ≤ s.length ∧ (∀ c ∈ k.2, c ∈ smallL) ∧ k.2.length ≤ 12 ∧ σ 0 = .str s ∧ σ 3 = .bool true ∧ σ 4 = .str k.2 ∧ σ 5 = .int .i64 k.1) (fun k => s.length - k.1) (0, []) ?_ ?_
  · simp -dsimp (disch := first | omega | (refine DrawYes.mk ?_; decide +kernel) | fail) only [go_sem, ↓reduceIte, reduceCtorEq, Nat.reduceEqDiff, Nat.reduceAdd, Nat.reduceLeDiff, Int.reduceLE, Int.reduceLT, Int.reduceBEq, Int.reduceBNe, Int.reduceEq, Nat.reduceBEq, Int.reduceToNat, Nat.reduceLT, Nat.reduceGT, Nat.reduceSub, Nat.reduceMul, Int.reduceAdd, Int.reduceSub, Int.reduceNeg, Int.reduceGE, Int.reduceGT]
    simp
  rintro ⟨k, n⟩ σ H2 ⟨hk, hn, hl, h0, h3, h4, h5⟩
  dsimp only at hk hn hl h4 h5
  by_cases hlt : k < s.length ∧ n.length < 12
  · have i0 : (k : Int) < s.length := by omega
    have i1 : (n.length : Int) < 12 := by omega
    have hg : s[k]? = some s[k] := List.getElem?_eq_getElem hlt.1
    generalize s[k] = c at hg
    have hc1 := cut_one hg
    by_cases c1 : 97 ≤ c.toNat
    · have j1 : 97 ≤ (c.toNat : Int) := by omega
      by_cases c2 : c.toNat ≤ 122
      · have j2 : (c.toNat : Int) ≤ 122 := by omega
        simp -dsimp (disch := first | omega | (refine DrawYes.mk ?_; decide +kernel) | fail) only [go_sem, ↓reduceIte, reduceCtorEq, Nat.reduceEqDiff, Nat.reduceAdd, Nat.reduceLeDiff, Int.reduceLE, Int.reduceLT, Int.reduceBEq, Int.reduceBNe, Int.reduceEq, Nat.reduceBEq, Int.reduceToNat, Nat.reduceLT, Nat.reduceGT, Nat.reduceSub, Nat.reduceMul, Int.reduceAdd, Int.reduceSub, Int.reduceNeg, Int.reduceGE, Int.reduceGT, h0, h3, h4, h5, i0, i1, hg, j1, j2]
        refine ⟨by omega, by omega, by omega, by omega, ?_⟩
        rw [show ((k : Int) + 1).toNat = k + 1 by omega, hc1]
        refine ⟨by simp; omega, (k + 1, n ++ [c]), ⟨by omega, fun d hd => ?_, by rw [List.length_append]; exact hlt.2, rfl, rfl⟩, by simp only; omega⟩
        rcases List.mem_append.1 hd with hd | hd
        · exact hn d hd
        · simp at hd; subst hd; exact small_mem c1 c2
      · have j2 : ¬ (c.toNat : Int) ≤ 122 := by omega
        simp -dsimp (disch := first | omega | (refine DrawYes.mk ?_; decide +kernel) | fail) only [go_sem, ↓reduceIte, reduceCtorEq, Nat.reduceEqDiff, Nat.reduceAdd, Nat.reduceLeDiff, Int.reduceLE, Int.reduceLT, Int.reduceBEq, Int.reduceBNe, Int.reduceEq, Nat.reduceBEq, Int.reduceToNat, Nat.reduceLT, Nat.reduceGT, Nat.reduceSub, Nat.reduceMul, Int.reduceAdd, Int.reduceSub, Int.reduceNeg, Int.reduceGE, Int.reduceGT, h0, h3, h4, h5, i0, i1, hg, j1, j2]
        exact ⟨by omega, by omega, (k + 1, n), ⟨by omega, hn, hl, rfl, rfl⟩, by simp only; omega⟩
    · have j1 : ¬ 97 ≤ (c.toNat : Int) := by omega
      simp -dsimp (disch := first | omega | (refine DrawYes.mk ?_; decide +kernel) | fail) only [go_sem, ↓reduceIte, reduceCtorEq, Nat.reduceEqDiff, Nat.reduceAdd, Nat.reduceLeDiff, Int.reduceLE, Int.reduceLT, Int.reduceBEq, Int.reduceBNe, Int.reduceEq, Nat.reduceBEq, Int.reduceToNat, Nat.reduceLT, Nat.reduceGT, Nat.reduceSub, Nat.reduceMul, Int.reduceAdd, Int.reduceSub, Int.reduceNeg, Int.reduceGE, Int.reduceGT, h0, h3, h4, h5, i0, i1, hg, j1]
      exact ⟨by omega, (k + 1, n), ⟨by omega, hn, hl, rfl, rfl⟩, by simp only; omega⟩
  have hm1 : parseAll (109 :: 111 :: 100 :: 101 :: 32 :: (n ++ [59])) = _ := modes1 hn hl
  have hm2 := modes2 hn hl
  have hl1 : (109 :: 111 :: 100 :: 101 :: 32 :: (n ++ [59])).length < 1000000 := by simp; omega
  have hl2 : (n ++ smtpSp).length < 1000000 := by simp [smtpSp]; omega
  have hne : n ∉ modeW → modeL n = 0 ∧ (n = [115, 109, 116, 112]) = False ∧ (n = [112, 111, 112, 51]) = False ∧ (n = [102, 116, 112]) = False := by
    intro h
    simp only [modeW, List.mem_cons, List.not_mem_nil, or_false, not_or] at h
    simp [modeL, h.1, h.2.1, h.2.2]
  by_cases hlt2 : k < s.length
  · obtain ⟨i0, i1⟩ : exit_one s n k := by unfold exit_one; omega
    simp -dsimp (disch := first | omega | (refine DrawYes.mk ?_; decide +kernel) | fail) only [go_sem, ↓reduceIte, reduceCtorEq, Nat.reduceEqDiff, Nat.reduceAdd, Nat.reduceLeDiff, Int.reduceLE, Int.reduceLT, Int.reduceBEq, Int.reduceBNe, Int.reduceEq, Nat.reduceBEq, Int.reduceToNat, Nat.reduceLT, Nat.reduceGT, Nat.reduceSub, Nat.reduceMul, Int.reduceAdd, Int.reduceSub, Int.reduceNeg, Int.reduceGE, Int.reduceGT, h0, h3, h4, h5, i0, i1]
    refine ⟨by omega, by omega, ?_⟩
    by_cases hm : n ∈ modeW
    · rw [if_pos hm] at hm1
      refine call (parse_at hm1 hl1) ?_
      rintro _ H3 ⟨hE3, stmv, topv, rfl, hP⟩
      obtain ⟨o1, o2, o3⟩ := hP.two
      have hm' := hm
      simp only [modeW, List.mem_cons, List.not_mem_nil, or_false] at hm'
      have hn0 : n ≠ [] := modeW_small n hm
      have hnm : n ≠ modeWord := by rintro rfl; exact absurd hm (by decide)
      rw [if_neg hn0, if_neg hnm] at hm2
      simp -dsimp (disch := first | omega | (refine DrawYes.mk ?_; decide +kernel) | fail) only [go_sem, ↓reduceIte, reduceCtorEq, Nat.reduceEqDiff, Nat.reduceAdd, Nat.reduceLeDiff, Int.reduceLE, Int.reduceLT, Int.reduceBEq, Int.reduceBNe, Int.reduceEq, Nat.reduceBEq, Int.reduceToNat, Nat.reduceLT, Nat.reduceGT, Nat.reduceSub, Nat.reduceMul, Int.reduceAdd, Int.reduceSub, Int.reduceNeg, Int.reduceGE, Int.reduceGT, h4, o1, o2, o3]
      refine ⟨by omega, ?_⟩
      refine call (parse_at hm2 hl2) ?_
      rintro _ H4 ⟨hE4, stmv2, topv2, rfl, hP2⟩
      obtain ⟨q1, q2, q3⟩ := hP2.two
      have hp : H4.m H3.next = some (.cells 26 [.int .i64 (modeL n), stmv, topv]) := by
        rw [hE4.same _ (by simp only [set_next, new_next]; omega), set_m, if_pos rfl]
      rcases hm' with rfl | rfl | rfl
      all_goals
        simp -dsimp (disch := first | omega | (refine DrawYes.mk ?_; decide +kernel) | fail) only [go_sem, ↓reduceIte, reduceCtorEq, Nat.reduceEqDiff, Nat.reduceAdd, Nat.reduceLeDiff, Int.reduceLE, Int.reduceLT, Int.reduceBEq, Int.reduceBNe, Int.reduceEq, Nat.reduceBEq, Int.reduceToNat, Nat.reduceLT, Nat.reduceGT, Nat.reduceSub, Nat.reduceMul, Int.reduceAdd, Int.reduceSub, Int.reduceNeg, Int.reduceGE, Int.reduceGT, h4, q1, q2, q3, hp]
        refine call mode_ok ?_
        rintro _ H5 ⟨rfl, hE5⟩
        have hp5 := hE5.get (b := H3.next) (by have := hE4.le; simp only [set_next, new_next] at this ⊢; omega) (by rw [set_m, if_neg (by have := hE4.le; simp only [set_next, new_next] at this ⊢; omega), new_m, if_neg (by have := hE4.le; simp only [set_next, new_next] at this ⊢; omega), hp])
        simp -dsimp (disch := first | omega | (refine DrawYes.mk ?_; decide +kernel) | fail) only [go_sem, ↓reduceIte, reduceCtorEq, Nat.reduceEqDiff, Nat.reduceAdd, Nat.reduceLeDiff, Int.reduceLE, Int.reduceLT, Int.reduceBEq, Int.reduceBNe, Int.reduceEq, Nat.reduceBEq, Int.reduceToNat, Nat.reduceLT, Nat.reduceGT, Nat.reduceSub, Nat.reduceMul, Int.reduceAdd, Int.reduceSub, Int.reduceNeg, Int.reduceGE, Int.reduceGT, h4, q1, q2, q3, hp5]
        refine Y_float [(13, 0, 25)] (by decide +kernel) ?_
        simp -dsimp (disch := first | omega | (refine DrawYes.mk ?_; decide +kernel) | fail) only [go_sem, ↓reduceIte, reduceCtorEq, Nat.reduceEqDiff, Nat.reduceAdd, Nat.reduceLeDiff, Int.reduceLE, Int.reduceLT, Int.reduceBEq, Int.reduceBNe, Int.reduceEq, Nat.reduceBEq, Int.reduceToNat, Nat.reduceLT, Nat.reduceGT, Nat.reduceSub, Nat.reduceMul, Int.reduceAdd, Int.reduceSub, Int.reduceNeg, Int.reduceGE, Int.reduceGT, h4, q1, q2, q3, hp5]
        refine call mode_ok ?_
        rintro _ H6 ⟨rfl, hE6⟩
        have hp6 := hE6.get (b := H3.next) (by have := hE4.le; have := hE5.le; simp only [set_next, new_next] at *; omega) hp5
        simp -dsimp (disch := first | omega | (refine DrawYes.mk ?_; decide +kernel) | fail) only [go_sem, ↓reduceIte, reduceCtorEq, Nat.reduceEqDiff, Nat.reduceAdd, Nat.reduceLeDiff, Int.reduceLE, Int.reduceLT, Int.reduceBEq, Int.reduceBNe, Int.reduceEq, Nat.reduceBEq, Int.reduceToNat, Nat.reduceLT, Nat.reduceGT, Nat.reduceSub, Nat.reduceMul, Int.reduceAdd, Int.reduceSub, Int.reduceNeg, Int.reduceGE, Int.reduceGT, h3, h4, o3, q1, q2, q3, hp6]
    · rw [if_neg hm] at hm1
      obtain ⟨hz, e1, e2, e3⟩ := hne hm
      have b1 : (n == [115, 109, 116, 112]) = false := by simp [e1]
      have b2 : (n == [112, 111, 112, 51]) = false := by simp [e2]
      have b3 : (n == [102, 116, 112]) = false := by simp [e3]
      refine call (parse_at hm1 hl1) ?_
      rintro _ H3 ⟨hE3, stmv, topv, rfl, hP⟩
      obtain ⟨o1, o2, o3⟩ := hP.two
      simp -dsimp (disch := first | omega | (refine DrawYes.mk ?_; decide +kernel) | fail) only [go_sem, ↓reduceIte, reduceCtorEq, Nat.reduceEqDiff, Nat.reduceAdd, Nat.reduceLeDiff, Int.reduceLE, Int.reduceLT, Int.reduceBEq, Int.reduceBNe, Int.reduceEq, Nat.reduceBEq, Int.reduceToNat, Nat.reduceLT, Nat.reduceGT, Nat.reduceSub, Nat.reduceMul, Int.reduceAdd, Int.reduceSub, Int.reduceNeg, Int.reduceGE, Int.reduceGT, h4, o1, o2, o3]
      refine ⟨by omega, ?_⟩
      by_cases hn0 : n = []
      · rw [if_pos hn0] at hm2
        refine call (parse_at hm2 hl2) ?_
        rintro _ H4 ⟨hE4, stmv2, topv2, rfl, hP2⟩
        obtain ⟨q1, q2, q3⟩ := hP2.two
        have hp : H4.m H3.next = some (.cells 26 [.int .i64 0, stmv, topv]) := by
          rw [hE4.same _ (by simp only [set_next, new_next]; omega), set_m, if_pos rfl]
        simp -dsimp (disch := first | omega | (refine DrawYes.mk ?_; decide +kernel) | fail) only [go_sem, ↓reduceIte, reduceCtorEq, Nat.reduceEqDiff, Nat.reduceAdd, Nat.reduceLeDiff, Int.reduceLE, Int.reduceLT, Int.reduceBEq, Int.reduceBNe, Int.reduceEq, Nat.reduceBEq, Int.reduceToNat, Nat.reduceLT, Nat.reduceGT, Nat.reduceSub, Nat.reduceMul, Int.reduceAdd, Int.reduceSub, Int.reduceNeg, Int.reduceGE, Int.reduceGT, h4, q1, q2, q3, hp, e1, e2, e3]
        refine call mode_ok ?_
        rintro _ H5 ⟨rfl, hE5⟩
        rw [hz]
        simp -dsimp (disch := first | omega | (refine DrawYes.mk ?_; decide +kernel) | fail) only [go_sem, ↓reduceIte, reduceCtorEq, Nat.reduceEqDiff, Nat.reduceAdd, Nat.reduceLeDiff, Int.reduceLE, Int.reduceLT, Int.reduceBEq, Int.reduceBNe, Int.reduceEq, Nat.reduceBEq, Int.reduceToNat, Nat.reduceLT, Nat.reduceGT, Nat.reduceSub, Nat.reduceMul, Int.reduceAdd, Int.reduceSub, Int.reduceNeg, Int.reduceGE, Int.reduceGT, h3, h4, q1, q2, q3, e1, e2, e3]
        refine call mode_ok ?_
        rintro _ H6 ⟨rfl, hE6⟩
        rw [hz]
        simp -dsimp (disch := first | omega | (refine DrawYes.mk ?_; decide +kernel) | fail) only [go_sem, ↓reduceIte, reduceCtorEq, Nat.reduceEqDiff, Nat.reduceAdd, Nat.reduceLeDiff, Int.reduceLE, Int.reduceLT, Int.reduceBEq, Int.reduceBNe, Int.reduceEq, Nat.reduceBEq, Int.reduceToNat, Nat.reduceLT, Nat.reduceGT, Nat.reduceSub, Nat.reduceMul, Int.reduceAdd, Int.reduceSub, Int.reduceNeg, Int.reduceGE, Int.reduceGT, h3, h4, q1, q2, q3, e1, e2, e3]
        have e0 : (n = []) = True := by simp [hn0]
        have d0 : (n == []) = true := by simp [hn0]
        have em : (n = [109, 111, 100, 101]) = False := by simp [hn0]
        have dm : (n == [109, 111, 100, 101]) = false := by simp [hn0]
        refine Y_float [(13, 0, 25)] (by decide +kernel) ?_
        simp -dsimp (disch := first | omega | (refine DrawYes.mk ?_; decide +kernel) | fail) only [go_sem, ↓reduceIte, reduceCtorEq, Nat.reduceEqDiff, Nat.reduceAdd, Nat.reduceLeDiff, Int.reduceLE, Int.reduceLT, Int.reduceBEq, Int.reduceBNe, Int.reduceEq, Nat.reduceBEq, Int.reduceToNat, Nat.reduceLT, Nat.reduceGT, Nat.reduceSub, Nat.reduceMul, Int.reduceAdd, Int.reduceSub, Int.reduceNeg, Int.reduceGE, Int.reduceGT, h3, h4, q1, q2, q3, e1, e2, e3, e0, d0, em, dm, b1, b2, b3]
      rw [if_neg hn0] at hm2
      have e0 : (n = []) = False := by simpa using hn0
      by_cases hnm : n = modeWord
      · rw [if_pos hnm] at hm2
        refine call (parse_at hm2 hl2) ?_
        rintro _ H4 ⟨hE4, stmv2, topv2, rfl, hP2⟩
        obtain ⟨q1, q2, q3⟩ := hP2.two
        simp -dsimp (disch := first | omega | (refine DrawYes.mk ?_; decide +kernel) | fail) only [go_sem, ↓reduceIte, reduceCtorEq, Nat.reduceEqDiff, Nat.reduceAdd, Nat.reduceLeDiff, Int.reduceLE, Int.reduceLT, Int.reduceBEq, Int.reduceBNe, Int.reduceEq, Nat.reduceBEq, Int.reduceToNat, Nat.reduceLT, Nat.reduceGT, Nat.reduceSub, Nat.reduceMul, Int.reduceAdd, Int.reduceSub, Int.reduceNeg, Int.reduceGE, Int.reduceGT, h4, q1, q2, q3, e1, e2, e3]
        refine call mode_ok ?_
        rintro _ H5 ⟨rfl, hE5⟩
        rw [hz]
        simp -dsimp (disch := first | omega | (refine DrawYes.mk ?_; decide +kernel) | fail) only [go_sem, ↓reduceIte, reduceCtorEq, Nat.reduceEqDiff, Nat.reduceAdd, Nat.reduceLeDiff, Int.reduceLE, Int.reduceLT, Int.reduceBEq, Int.reduceBNe, Int.reduceEq, Nat.reduceBEq, Int.reduceToNat, Nat.reduceLT, Nat.reduceGT, Nat.reduceSub, Nat.reduceMul, Int.reduceAdd, Int.reduceSub, Int.reduceNeg, Int.reduceGE, Int.reduceGT, h3, h4, q1, q2, q3, e1, e2, e3, e0]
        refine call mode_ok ?_
        rintro _ H6 ⟨rfl, hE6⟩
        rw [hz]
        simp -dsimp (disch := first | omega | (refine DrawYes.mk ?_; decide +kernel) | fail) only [go_sem, ↓reduceIte, reduceCtorEq, Nat.reduceEqDiff, Nat.reduceAdd, Nat.reduceLeDiff, Int.reduceLE, Int.reduceLT, Int.reduceBEq, Int.reduceBNe, Int.reduceEq, Nat.reduceBEq, Int.reduceToNat, Nat.reduceLT, Nat.reduceGT, Nat.reduceSub, Nat.reduceMul, Int.reduceAdd, Int.reduceSub, Int.reduceNeg, Int.reduceGE, Int.reduceGT, h3, h4, q1, q2, q3, e1, e2, e3]
        have d0 : (n == []) = false := by simp [hn0]
        have em : (n = [109, 111, 100, 101]) = True := by simp; exact hnm
        have dm : (n == [109, 111, 100, 101]) = true := by simp; exact hnm
        refine Y_float [(13, 0, 25)] (by decide +kernel) ?_
        simp -dsimp (disch := first | omega | (refine DrawYes.mk ?_; decide +kernel) | fail) only [go_sem, ↓reduceIte, reduceCtorEq, Nat.reduceEqDiff, Nat.reduceAdd, Nat.reduceLeDiff, Int.reduceLE, Int.reduceLT, Int.reduceBEq, Int.reduceBNe, Int.reduceEq, Nat.reduceBEq, Int.reduceToNat, Nat.reduceLT, Nat.reduceGT, Nat.reduceSub, Nat.reduceMul, Int.reduceAdd, Int.reduceSub, Int.reduceNeg, Int.reduceGE, Int.reduceGT, h3, h4, q1, q2, q3, e1, e2, e3, e0, d0, em, dm, b1, b2, b3]
      · rw [if_neg hnm] at hm2
        refine call (parse_at hm2 hl2) ?_
        rintro _ H4 ⟨hE4, stmv2, topv2, rfl, hP2⟩
        obtain ⟨q1, q2, q3⟩ := hP2.two
        simp -dsimp (disch := first | omega | (refine DrawYes.mk ?_; decide +kernel) | fail) only [go_sem, ↓reduceIte, reduceCtorEq, Nat.reduceEqDiff, Nat.reduceAdd, Nat.reduceLeDiff, Int.reduceLE, Int.reduceLT, Int.reduceBEq, Int.reduceBNe, Int.reduceEq, Nat.reduceBEq, Int.reduceToNat, Nat.reduceLT, Nat.reduceGT, Nat.reduceSub, Nat.reduceMul, Int.reduceAdd, Int.reduceSub, Int.reduceNeg, Int.reduceGE, Int.reduceGT, h4, q1, q2, q3, e1, e2, e3]
        refine call mode_ok ?_
        rintro _ H5 ⟨rfl, hE5⟩
        rw [hz]
        simp -dsimp (disch := first | omega | (refine DrawYes.mk ?_; decide +kernel) | fail) only [go_sem, ↓reduceIte, reduceCtorEq, Nat.reduceEqDiff, Nat.reduceAdd, Nat.reduceLeDiff, Int.reduceLE, Int.reduceLT, Int.reduceBEq, Int.reduceBNe, Int.reduceEq, Nat.reduceBEq, Int.reduceToNat, Nat.reduceLT, Nat.reduceGT, Nat.reduceSub, Nat.reduceMul, Int.reduceAdd, Int.reduceSub, Int.reduceNeg, Int.reduceGE, Int.reduceGT, h3, h4, q1, q2, q3, e1, e2, e3, e0]
        refine call mode_ok ?_
        rintro _ H6 ⟨rfl, hE6⟩
        rw [hz]
        simp -dsimp (disch := first | omega | (refine DrawYes.mk ?_; decide +kernel) | fail) only [go_sem, ↓reduceIte, reduceCtorEq, Nat.reduceEqDiff, Nat.reduceAdd, Nat.reduceLeDiff, Int.reduceLE, Int.reduceLT, Int.reduceBEq, Int.reduceBNe, Int.reduceEq, Nat.reduceBEq, Int.reduceToNat, Nat.reduceLT, Nat.reduceGT, Nat.reduceSub, Nat.reduceMul, Int.reduceAdd, Int.reduceSub, Int.reduceNeg, Int.reduceGE, Int.reduceGT, h3, h4, q1, q2, q3, e1, e2, e3]
        have d0 : (n == []) = false := by simp [hn0]
        have em : (n = [109, 111, 100, 101]) = False := by simp; exact hnm
        have dm : (n == [109, 111, 100, 101]) = false := by simp; exact hnm
        refine Y_float [(13, 0, 25)] (by decide +kernel) ?_
        simp -dsimp (disch := first | omega | (refine DrawYes.mk ?_; decide +kernel) | fail) only [go_sem, ↓reduceIte, reduceCtorEq, Nat.reduceEqDiff, Nat.reduceAdd, Nat.reduceLeDiff, Int.reduceLE, Int.reduceLT, Int.reduceBEq, Int.reduceBNe, Int.reduceEq, Nat.reduceBEq, Int.reduceToNat, Nat.reduceLT, Nat.reduceGT, Nat.reduceSub, Nat.reduceMul, Int.reduceAdd, Int.reduceSub, Int.reduceNeg, Int.reduceGE, Int.reduceGT, h3, h4, q1, q2, q3, e1, e2, e3, e0, d0, em, dm, b1, b2, b3]
  · obtain ⟨i0, i1⟩ : exit_two s n k := by unfold exit_two; omega
    simp -dsimp (disch := first | omega | (refine DrawYes.mk ?_; decide +kernel) | fail) only [go_sem, ↓reduceIte, reduceCtorEq, Nat.reduceEqDiff, Nat.reduceAdd, Nat.reduceLeDiff, Int.reduceLE, Int.reduceLT, Int.reduceBEq, Int.reduceBNe, Int.reduceEq, Nat.reduceBEq, Int.reduceToNat, Nat.reduceLT, Nat.reduceGT, Nat.reduceSub, Nat.reduceMul, Int.reduceAdd, Int.reduceSub, Int.reduceNeg, Int.reduceGE, Int.reduceGT, h0, h3, h4, h5, i0, i1]
    refine ⟨by omega, by omega, ?_⟩
    by_cases hm : n ∈ modeW
    · rw [if_pos hm] at hm1
      refine call (parse_at hm1 hl1) ?_
      rintro _ H3 ⟨hE3, stmv, topv, rfl, hP⟩
      obtain ⟨o1, o2, o3⟩ := hP.two
      have hm' := hm
      simp only [modeW, List.mem_cons, List.not_mem_nil, or_false] at hm'
      have hn0 : n ≠ [] := modeW_small n hm
      have hnm : n ≠ modeWord := by rintro rfl; exact absurd hm (by decide)
      rw [if_neg hn0, if_neg hnm] at hm2
      simp -dsimp (disch := first | omega | (refine DrawYes.mk ?_; decide +kernel) | fail) only [go_sem, ↓reduceIte, reduceCtorEq, Nat.reduceEqDiff, Nat.reduceAdd, Nat.reduceLeDiff, Int.reduceLE, Int.reduceLT, Int.reduceBEq, Int.reduceBNe, Int.reduceEq, Nat.reduceBEq, Int.reduceToNat, Nat.reduceLT, Nat.reduceGT, Nat.reduceSub, Nat.reduceMul, Int.reduceAdd, Int.reduceSub, Int.reduceNeg, Int.reduceGE, Int.reduceGT, h4, o1, o2, o3]
      refine ⟨by omega, ?_⟩
      refine call (parse_at hm2 hl2) ?_
      rintro _ H4 ⟨hE4, stmv2, topv2, rfl, hP2⟩
      obtain ⟨q1, q2, q3⟩ := hP2.two
      have hp : H4.m H3.next = some (.cells 26 [.int .i64 (modeL n), stmv, topv]) := by
        rw [hE4.same _ (by simp only [set_next, new_next]; omega), set_m, if_pos rfl]
      rcases hm' with rfl | rfl | rfl
      all_goals
        simp -dsimp (disch := first | omega | (refine DrawYes.mk ?_; decide +kernel) | fail) only [go_sem, ↓reduceIte, reduceCtorEq, Nat.reduceEqDiff, Nat.reduceAdd, Nat.reduceLeDiff, Int.reduceLE, Int.reduceLT, Int.reduceBEq, Int.reduceBNe, Int.reduceEq, Nat.reduceBEq, Int.reduceToNat, Nat.reduceLT, Nat.reduceGT, Nat.reduceSub, Nat.reduceMul, Int.reduceAdd, Int.reduceSub, Int.reduceNeg, Int.reduceGE, Int.reduceGT, h4, q1, q2, q3, hp]
        refine call mode_ok ?_
        rintro _ H5 ⟨rfl, hE5⟩
        have hp5 := hE5.get (b := H3.next) (by have := hE4.le; simp only [set_next, new_next] at this ⊢; omega) (by rw [set_m, if_neg (by have := hE4.le; simp only [set_next, new_next] at this ⊢; omega), new_m, if_neg (by have := hE4.le; simp only [set_next, new_next] at this ⊢; omega), hp])
        simp -dsimp (disch := first | omega | (refine DrawYes.mk ?_; decide +kernel) | fail) only [go_sem, ↓reduceIte, reduceCtorEq, Nat.reduceEqDiff, Nat.reduceAdd, Nat.reduceLeDiff, Int.reduceLE, Int.reduceLT, Int.reduceBEq, Int.reduceBNe, Int.reduceEq, Nat.reduceBEq, Int.reduceToNat, Nat.reduceLT, Nat.reduceGT, Nat.reduceSub, Nat.reduceMul, Int.reduceAdd, Int.reduceSub, Int.reduceNeg, Int.reduceGE, Int.reduceGT, h4, q1, q2, q3, hp5]
        refine Y_float [(13, 0, 25)] (by decide +kernel) ?_
        simp -dsimp (disch := first | omega | (refine DrawYes.mk ?_; decide +kernel) | fail) only [go_sem, ↓reduceIte, reduceCtorEq, Nat.reduceEqDiff, Nat.reduceAdd, Nat.reduceLeDiff, Int.reduceLE, Int.reduceLT, Int.reduceBEq, Int.reduceBNe, Int.reduceEq, Nat.reduceBEq, Int.reduceToNat, Nat.reduceLT, Nat.reduceGT, Nat.reduceSub, Nat.reduceMul, Int.reduceAdd, Int.reduceSub, Int.reduceNeg, Int.reduceGE, Int.reduceGT, h4, q1, q2, q3, hp5]
        refine call mode_ok ?_
        rintro _ H6 ⟨rfl, hE6⟩
        have hp6 := hE6.get (b := H3.next) (by have := hE4.le; have := hE5.le; simp only [set_next, new_next] at *; omega) hp5
        simp -dsimp (disch := first | omega | (refine DrawYes.mk ?_; decide +kernel) | fail) only [go_sem, ↓reduceIte, reduceCtorEq, Nat.reduceEqDiff, Nat.reduceAdd, Nat.reduceLeDiff, Int.reduceLE, Int.reduceLT, Int.reduceBEq, Int.reduceBNe, Int.reduceEq, Nat.reduceBEq, Int.reduceToNat, Nat.reduceLT, Nat.reduceGT, Nat.reduceSub, Nat.reduceMul, Int.reduceAdd, Int.reduceSub, Int.reduceNeg, Int.reduceGE, Int.reduceGT, h3, h4, o3, q1, q2, q3, hp6]
    · rw [if_neg hm] at hm1
      obtain ⟨hz, e1, e2, e3⟩ := hne hm
      have b1 : (n == [115, 109, 116, 112]) = false := by simp [e1]
      have b2 : (n == [112, 111, 112, 51]) = false := by simp [e2]
      have b3 : (n == [102, 116, 112]) = false := by simp [e3]
      refine call (parse_at hm1 hl1) ?_
      rintro _ H3 ⟨hE3, stmv, topv, rfl, hP⟩
      obtain ⟨o1, o2, o3⟩ := hP.two
      simp -dsimp (disch := first | omega | (refine DrawYes.mk ?_; decide +kernel) | fail) only [go_sem, ↓reduceIte, reduceCtorEq, Nat.reduceEqDiff, Nat.reduceAdd, Nat.reduceLeDiff, Int.reduceLE, Int.reduceLT, Int.reduceBEq, Int.reduceBNe, Int.reduceEq, Nat.reduceBEq, Int.reduceToNat, Nat.reduceLT, Nat.reduceGT, Nat.reduceSub, Nat.reduceMul, Int.reduceAdd, Int.reduceSub, Int.reduceNeg, Int.reduceGE, Int.reduceGT, h4, o1, o2, o3]
      refine ⟨by omega, ?_⟩
      by_cases hn0 : n = []
      · rw [if_pos hn0] at hm2
        refine call (parse_at hm2 hl2) ?_
        rintro _ H4 ⟨hE4, stmv2, topv2, rfl, hP2⟩
        obtain ⟨q1, q2, q3⟩ := hP2.two
        have hp : H4.m H3.next = some (.cells 26 [.int .i64 0, stmv, topv]) := by
          rw [hE4.same _ (by simp only [set_next, new_next]; omega), set_m, if_pos rfl]
        simp -dsimp (disch := first | omega | (refine DrawYes.mk ?_; decide +kernel) | fail) only [go_sem, ↓reduceIte, reduceCtorEq, Nat.reduceEqDiff, Nat.reduceAdd, Nat.reduceLeDiff, Int.reduceLE, Int.reduceLT, Int.reduceBEq, Int.reduceBNe, Int.reduceEq, Nat.reduceBEq, Int.reduceToNat, Nat.reduceLT, Nat.reduceGT, Nat.reduceSub, Nat.reduceMul, Int.reduceAdd, Int.reduceSub, Int.reduceNeg, Int.reduceGE, Int.reduceGT, h4, q1, q2, q3, hp, e1, e2, e3]
        refine call mode_ok ?_
        rintro _ H5 ⟨rfl, hE5⟩
        rw [hz]
        simp -dsimp (disch := first | omega | (refine DrawYes.mk ?_; decide +kernel) | fail) only [go_sem, ↓reduceIte, reduceCtorEq, Nat.reduceEqDiff, Nat.reduceAdd, Nat.reduceLeDiff, Int.reduceLE, Int.reduceLT, Int.reduceBEq, Int.reduceBNe, Int.reduceEq, Nat.reduceBEq, Int.reduceToNat, Nat.reduceLT, Nat.reduceGT, Nat.reduceSub, Nat.reduceMul, Int.reduceAdd, Int.reduceSub, Int.reduceNeg, Int.reduceGE, Int.reduceGT, h3, h4, q1, q2, q3, e1, e2, e3]
        refine call mode_ok ?_
        rintro _ H6 ⟨rfl, hE6⟩
        rw [hz]
        simp -dsimp (disch := first | omega | (refine DrawYes.mk ?_; decide +kernel) | fail) only [go_sem, ↓reduceIte, reduceCtorEq, Nat.reduceEqDiff, Nat.reduceAdd, Nat.reduceLeDiff, Int.reduceLE, Int.reduceLT, Int.reduceBEq, Int.reduceBNe, Int.reduceEq, Nat.reduceBEq, Int.reduceToNat, Nat.reduceLT, Nat.reduceGT, Nat.reduceSub, Nat.reduceMul, Int.reduceAdd, Int.reduceSub, Int.reduceNeg, Int.reduceGE, Int.reduceGT, h3, h4, q1, q2, q3, e1, e2, e3]
        have e0 : (n = []) = True := by simp [hn0]
        have d0 : (n == []) = true := by simp [hn0]
        have em : (n = [109, 111, 100, 101]) = False := by simp [hn0]
        have dm : (n == [109, 111, 100, 101]) = false := by simp [hn0]
        refine Y_float [(13, 0, 25)] (by decide +kernel) ?_
        simp -dsimp (disch := first | omega | (refine DrawYes.mk ?_; decide +kernel) | fail) only [go_sem, ↓reduceIte, reduceCtorEq, Nat.reduceEqDiff, Nat.reduceAdd, Nat.reduceLeDiff, Int.reduceLE, Int.reduceLT, Int.reduceBEq, Int.reduceBNe, Int.reduceEq, Nat.reduceBEq, Int.reduceToNat, Nat.reduceLT, Nat.reduceGT, Nat.reduceSub, Nat.reduceMul, Int.reduceAdd, Int.reduceSub, Int.reduceNeg, Int.reduceGE, Int.reduceGT, h3, h4, q1, q2, q3, e1, e2, e3, e0, d0, em, dm, b1, b2, b3]
      rw [if_neg hn0] at hm2
      have e0 : (n = []) = False := by simpa using hn0
      by_cases hnm : n = modeWord
      · rw [if_pos hnm] at hm2
        refine call (parse_at hm2 hl2) ?_
        rintro _ H4 ⟨hE4, stmv2, topv2, rfl, hP2⟩
        obtain ⟨q1, q2, q3⟩ := hP2.two
        simp -dsimp (disch := first | omega | (refine DrawYes.mk ?_; decide +kernel) | fail) only [go_sem, ↓reduceIte, reduceCtorEq, Nat.reduceEqDiff, Nat.reduceAdd, Nat.reduceLeDiff, Int.reduceLE, Int.reduceLT, Int.reduceBEq, Int.reduceBNe, Int.reduceEq, Nat.reduceBEq, Int.reduceToNat, Nat.reduceLT, Nat.reduceGT, Nat.reduceSub, Nat.reduceMul, Int.reduceAdd, Int.reduceSub, Int.reduceNeg, Int.reduceGE, Int.reduceGT, h4, q1, q2, q3, e1, e2, e3]
        refine call mode_ok ?_
        rintro _ H5 ⟨rfl, hE5⟩
        rw [hz]
        simp -dsimp (disch := first | omega | (refine DrawYes.mk ?_; decide +kernel) | fail) only [go_sem, ↓reduceIte, reduceCtorEq, Nat.reduceEqDiff, Nat.reduceAdd, Nat.reduceLeDiff, Int.reduceLE, Int.reduceLT, Int.reduceBEq, Int.reduceBNe, Int.reduceEq, Nat.reduceBEq, Int.reduceToNat, Nat.reduceLT, Nat.reduceGT, Nat.reduceSub, Nat.reduceMul, Int.reduceAdd, Int.reduceSub, Int.reduceNeg, Int.reduceGE, Int.reduceGT, h3, h4, q1, q2, q3, e1, e2, e3, e0]
        refine call mode_ok ?_
        rintro _ H6 ⟨rfl, hE6⟩
        rw [hz]
        simp -dsimp (disch := first | omega | (refine DrawYes.mk ?_; decide +kernel) | fail) only [go_sem, ↓reduceIte, reduceCtorEq, Nat.reduceEqDiff, Nat.reduceAdd, Nat.reduceLeDiff, Int.reduceLE, Int.reduceLT, Int.reduceBEq, Int.reduceBNe, Int.reduceEq, Nat.reduceBEq, Int.reduceToNat, Nat.reduceLT, Nat.reduceGT, Nat.reduceSub, Nat.reduceMul, Int.reduceAdd, Int.reduceSub, Int.reduceNeg, Int.reduceGE, Int.reduceGT, h3, h4, q1, q2, q3, e1, e2, e3]
        have d0 : (n == []) = false := by simp [hn0]
        have em : (n = [109, 111, 100, 101]) = True := by simp; exact hnm
        have dm : (n == [109, 111, 100, 101]) = true := by simp; exact hnm
        refine Y_float [(13, 0, 25)] (by decide +kernel) ?_
        simp -dsimp (disch := first | omega | (refine DrawYes.mk ?_; decide +kernel) | fail) only [go_sem, ↓reduceIte, reduceCtorEq, Nat.reduceEqDiff, Nat.reduceAdd, Nat.reduceLeDiff, Int.reduceLE, Int.reduceLT, Int.reduceBEq, Int.reduceBNe, Int.reduceEq, Nat.reduceBEq, Int.reduceToNat, Nat.reduceLT, Nat.reduceGT, Nat.reduceSub, Nat.reduceMul, Int.reduceAdd, Int.reduceSub, Int.reduceNeg, Int.reduceGE, Int.reduceGT, h3, h4, q1, q2, q3, e1, e2, e3, e0, d0, em, dm, b1, b2, b3]
      · rw [if_neg hnm] at hm2
        refine call (parse_at hm2 hl2) ?_
        rintro _ H4 ⟨hE4, stmv2, topv2, rfl, hP2⟩
        obtain ⟨q1, q2, q3⟩ := hP2.two
        simp -dsimp (disch := first | omega | (refine DrawYes.mk ?_; decide +kernel) | fail) only [go_sem, ↓reduceIte, reduceCtorEq, Nat.reduceEqDiff, Nat.reduceAdd, Nat.reduceLeDiff, Int.reduceLE, Int.reduceLT, Int.reduceBEq, Int.reduceBNe, Int.reduceEq, Nat.reduceBEq, Int.reduceToNat, Nat.reduceLT, Nat.reduceGT, Nat.reduceSub, Nat.reduceMul, Int.reduceAdd, Int.reduceSub, Int.reduceNeg, Int.reduceGE, Int.reduceGT, h4, q1, q2, q3, e1, e2, e3]
        refine call mode_ok ?_
        rintro _ H5 ⟨rfl, hE5⟩
        rw [hz]
        simp -dsimp (disch := first | omega | (refine DrawYes.mk ?_; decide +kernel) | fail) only [go_sem, ↓reduceIte, reduceCtorEq, Nat.reduceEqDiff, Nat.reduceAdd, Nat.reduceLeDiff, Int.reduceLE, Int.reduceLT, Int.reduceBEq, Int.reduceBNe, Int.reduceEq, Nat.reduceBEq, Int.reduceToNat, Nat.reduceLT, Nat.reduceGT, Nat.reduceSub, Nat.reduceMul, Int.reduceAdd, Int.reduceSub, Int.reduceNeg, Int.reduceGE, Int.reduceGT, h3, h4, q1, q2, q3, e1, e2, e3, e0]
        refine call mode_ok ?_
        rintro _ H6 ⟨rfl, hE6⟩
        rw [hz]
        simp -dsimp (disch := first | omega | (refine DrawYes.mk ?_; decide +kernel) | fail) only [go_sem, ↓reduceIte, reduceCtorEq, Nat.reduceEqDiff, Nat.reduceAdd, Nat.reduceLeDiff, Int.reduceLE, Int.reduceLT, Int.reduceBEq, Int.reduceBNe, Int.reduceEq, Nat.reduceBEq, Int.reduceToNat, Nat.reduceLT, Nat.reduceGT, Nat.reduceSub, Nat.reduceMul, Int.reduceAdd, Int.reduceSub, Int.reduceNeg, Int.reduceGE, Int.reduceGT, h3, h4, q1, q2, q3, e1, e2, e3]
        have d0 : (n == []) = false := by simp [hn0]
        have em : (n = [109, 111, 100, 101]) = False := by simp; exact hnm
        have dm : (n == [109, 111, 100, 101]) = false := by simp; exact hnm
        refine Y_float [(13, 0, 25)] (by decide +kernel) ?_
        simp -dsimp (disch := first | omega | (refine DrawYes.mk ?_; decide +kernel) | fail) only [go_sem, ↓reduceIte, reduceCtorEq, Nat.reduceEqDiff, Nat.reduceAdd, Nat.reduceLeDiff, Int.reduceLE, Int.reduceLT, Int.reduceBEq, Int.reduceBNe, Int.reduceEq, Nat.reduceBEq, Int.reduceToNat, Nat.reduceLT, Nat.reduceGT, Nat.reduceSub, Nat.reduceMul, Int.reduceAdd, Int.reduceSub, Int.reduceNeg, Int.reduceGE, Int.reduceGT, h3, h4, q1, q2, q3, e1, e2, e3, e0, d0, em, dm, b1, b2, b3]
end Go.Proofs.YtcknfhhbijlobaaDoor.D
