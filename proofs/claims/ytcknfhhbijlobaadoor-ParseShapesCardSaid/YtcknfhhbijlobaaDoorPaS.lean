import Derived.Test.YtcknfhhbijlobaaDoorPaJ
/- ParseShapes: contracts of what it calls. -/
namespace Go.Proofs.YtcknfhhbijlobaaDoor.D
open Go
set_option linter.unusedVariables false
set_option linter.unusedSimpArgs false
set_option maxRecDepth 100000

def okP (c : UInt8) : Prop := 32 ≤ c.toNat ∧ c.toNat ≤ 126
theorem plain_ok {s : List UInt8} {H : DH} (hs : s.length ≤ 9223372036854775807) : WC cfg 12 [.str s] H fun v H' => H' = H ∧ ∃ n, v = .str n ∧ (∀ c ∈ n, okP c) ∧ n.length ≤ 40 := by
  refine WC_of (show Has cfg 12 34 [.tmp 2] _ from ⟨by kernel_rfl, Tryd.f12, Tryd.func12, rfl, rfl, rfl, by kernel_rfl⟩) (by simp) ?_
  simp -dsimp (disch := first | omega | (refine DrawYes.mk ?_; decide +kernel) | fail) only [go_sem, ↓reduceIte, reduceCtorEq, Nat.reduceEqDiff, Nat.reduceAdd, Nat.reduceLeDiff, Int.reduceLE, Int.reduceLT, Int.reduceBEq, Int.reduceBNe, Int.reduceEq, Nat.reduceBEq, Int.reduceToNat, Nat.reduceLT, Nat.reduceGT, Nat.reduceSub, Nat.reduceMul, Int.reduceAdd, Int.reduceSub, Int.reduceNeg, Int.reduceGE, Int.reduceGT]
  refine Y_loop (α := Nat × List UInt8) (fun k σ H' => H' = H ∧ k.1 ≤ s.length ∧ (∀ c ∈ k.2, okP c) ∧ k.2.length ≤ 40 ∧ σ 0 = .str s ∧ σ 3 = .str k.2 ∧ σ 4 = .int .i64 k.1) (fun k => s.length - k.1) (0, []) ?_ ?_
  · simp -dsimp (disch := first | omega | (refine DrawYes.mk ?_; decide +kernel) | fail) only [go_sem, ↓reduceIte, reduceCtorEq, Nat.reduceEqDiff, Nat.reduceAdd, Nat.reduceLeDiff, Int.reduceLE, Int.reduceLT, Int.reduceBEq, Int.reduceBNe, Int.reduceEq, Nat.reduceBEq, Int.reduceToNat, Nat.reduceLT, Nat.reduceGT, Nat.reduceSub, Nat.reduceMul, Int.reduceAdd, Int.reduceSub, Int.reduceNeg, Int.reduceGE, Int.reduceGT]
    simp
  rintro ⟨k, n⟩ σ H2 ⟨rfl, hk, hn, hl, h0, h3, h4⟩
  dsimp only at hk hn hl h3 h4
  by_cases hlt : k < s.length
  · have i0 : (k : Int) < s.length := by omega
    by_cases h40 : n.length < 40
    · have i1 : (n.length : Int) < 40 := by omega
      have hg : s[k]? = some s[k] := List.getElem?_eq_getElem hlt
      generalize s[k] = c at hg
      have hc1 := cut_1 hg
      have htk : ((k : Int) + 1).toNat = k + 1 := by omega
      by_cases c1 : 32 ≤ c.toNat
      · have j1 : 32 ≤ (c.toNat : Int) := by omega
        by_cases c2 : c.toNat ≤ 126
        · have j2 : (c.toNat : Int) ≤ 126 := by omega
          simp -dsimp (disch := first | omega | (refine DrawYes.mk ?_; decide +kernel) | fail) only [go_sem, ↓reduceIte, reduceCtorEq, Nat.reduceEqDiff, Nat.reduceAdd, Nat.reduceLeDiff, Int.reduceLE, Int.reduceLT, Int.reduceBEq, Int.reduceBNe, Int.reduceEq, Nat.reduceBEq, Int.reduceToNat, Nat.reduceLT, Nat.reduceGT, Nat.reduceSub, Nat.reduceMul, Int.reduceAdd, Int.reduceSub, Int.reduceNeg, Int.reduceGE, Int.reduceGT, h0, h3, h4, i0, i1, hg, j1, j2, htk, hc1]
          repeat refine And.intro (by omega) ?_
          refine ⟨(k + 1, n ++ [c]), ⟨by omega, fun d hd => ?_, by rw [List.length_append]; exact h40, rfl, rfl⟩, by simp only; omega⟩
          rcases List.mem_append.1 hd with hd | hd
          · exact hn d hd
          · simp at hd; subst hd; exact ⟨c1, c2⟩
        · have j2 : ¬ (c.toNat : Int) ≤ 126 := by omega
          simp -dsimp (disch := first | omega | (refine DrawYes.mk ?_; decide +kernel) | fail) only [go_sem, ↓reduceIte, reduceCtorEq, Nat.reduceEqDiff, Nat.reduceAdd, Nat.reduceLeDiff, Int.reduceLE, Int.reduceLT, Int.reduceBEq, Int.reduceBNe, Int.reduceEq, Nat.reduceBEq, Int.reduceToNat, Nat.reduceLT, Nat.reduceGT, Nat.reduceSub, Nat.reduceMul, Int.reduceAdd, Int.reduceSub, Int.reduceNeg, Int.reduceGE, Int.reduceGT, h0, h3, h4, i0, i1, hg, j1, j2]
          repeat refine And.intro (by omega) ?_
          exact ⟨(k + 1, n), ⟨by omega, hn, hl, rfl, rfl⟩, by simp only; omega⟩
      · have j1 : ¬ 32 ≤ (c.toNat : Int) := by omega
        simp -dsimp (disch := first | omega | (refine DrawYes.mk ?_; decide +kernel) | fail) only [go_sem, ↓reduceIte, reduceCtorEq, Nat.reduceEqDiff, Nat.reduceAdd, Nat.reduceLeDiff, Int.reduceLE, Int.reduceLT, Int.reduceBEq, Int.reduceBNe, Int.reduceEq, Nat.reduceBEq, Int.reduceToNat, Nat.reduceLT, Nat.reduceGT, Nat.reduceSub, Nat.reduceMul, Int.reduceAdd, Int.reduceSub, Int.reduceNeg, Int.reduceGE, Int.reduceGT, h0, h3, h4, i0, i1, hg, j1]
        repeat refine And.intro (by omega) ?_
        exact ⟨(k + 1, n), ⟨by omega, hn, hl, rfl, rfl⟩, by simp only; omega⟩
    · have i1 : ¬ (n.length : Int) < 40 := by omega
      simp -dsimp (disch := first | omega | (refine DrawYes.mk ?_; decide +kernel) | fail) only [go_sem, ↓reduceIte, reduceCtorEq, Nat.reduceEqDiff, Nat.reduceAdd, Nat.reduceLeDiff, Int.reduceLE, Int.reduceLT, Int.reduceBEq, Int.reduceBNe, Int.reduceEq, Nat.reduceBEq, Int.reduceToNat, Nat.reduceLT, Nat.reduceGT, Nat.reduceSub, Nat.reduceMul, Int.reduceAdd, Int.reduceSub, Int.reduceNeg, Int.reduceGE, Int.reduceGT, h0, h3, h4, i0, i1]
      exact ⟨n, rfl, hn, hl⟩
  · have i0 : ¬ (k : Int) < s.length := by omega
    simp -dsimp (disch := first | omega | (refine DrawYes.mk ?_; decide +kernel) | fail) only [go_sem, ↓reduceIte, reduceCtorEq, Nat.reduceEqDiff, Nat.reduceAdd, Nat.reduceLeDiff, Int.reduceLE, Int.reduceLT, Int.reduceBEq, Int.reduceBNe, Int.reduceEq, Nat.reduceBEq, Int.reduceToNat, Nat.reduceLT, Nat.reduceGT, Nat.reduceSub, Nat.reduceMul, Int.reduceAdd, Int.reduceSub, Int.reduceNeg, Int.reduceGE, Int.reduceGT, h0, h3, h4, i0]
    exact ⟨n, rfl, hn, hl⟩
theorem okP_okc {c : UInt8} (h : okP c) : okc c = true := by
  unfold okc; unfold okP at h; simp [h]
theorem quoteL_some {s : List UInt8} (h : ∀ c ∈ s, okP c) (hl : s.length ≤ 40) : ∃ q, quoteL s = some q ∧ q.length ≤ 202 := by
  have hall : s.all okc = true := List.all_eq_true.2 fun c hc => okP_okc (h c hc)
  refine ⟨[34] ++ s.flatMap enc1 ++ [34], ?_, ?_⟩
  · unfold quoteL
    rw [if_neg (by omega), qz_eq, if_pos hall]
  · have hlen : ∀ t : List UInt8, (t.flatMap enc1).length ≤ 2 * t.length := by
      intro t
      induction t with
      | nil => simp
      | cons c t ih =>
        rw [List.flatMap_cons, List.length_append, List.length_cons]
        have : (enc1 c).length ≤ 2 := by unfold enc1; split <;> simp
        omega
    have := hlen s
    rw [List.length_append, List.length_append]; simp only [List.length_cons, List.length_nil]; omega
theorem quote_ok {s q : List UInt8} {H : DH} (hs : s.length < 1000000) (hq : quoteL s = some q) : WC cfg 16 [.str s] H fun v H' => H' = H ∧ v = .str q := by
  refine WC_of (show Has cfg 16 11 [.tmp 2] _ from ⟨by kernel_rfl, Tryd.f16, Tryd.func16, rfl, rfl, rfl, by kernel_rfl⟩) (by simp) ?_
  simp -dsimp (disch := first | omega | (refine DrawYes.mk ?_; decide +kernel) | fail) only [go_sem, ↓reduceIte, reduceCtorEq, Nat.reduceEqDiff, Nat.reduceAdd, Nat.reduceLeDiff, Int.reduceLE, Int.reduceLT, Int.reduceBEq, Int.reduceBNe, Int.reduceEq, Nat.reduceBEq, Int.reduceToNat, Nat.reduceLT, Nat.reduceGT, Nat.reduceSub, Nat.reduceMul, Int.reduceAdd, Int.reduceSub, Int.reduceNeg, Int.reduceGE, Int.reduceGT]
  refine call (rquote_ok hs) ?_
  rintro _ H1 ⟨rfl, rfl⟩
  rw [hq]
  simp -dsimp (disch := first | omega | (refine DrawYes.mk ?_; decide +kernel) | fail) only [go_sem, ↓reduceIte, reduceCtorEq, Nat.reduceEqDiff, Nat.reduceAdd, Nat.reduceLeDiff, Int.reduceLE, Int.reduceLT, Int.reduceBEq, Int.reduceBNe, Int.reduceEq, Nat.reduceBEq, Int.reduceToNat, Nat.reduceLT, Nat.reduceGT, Nat.reduceSub, Nat.reduceMul, Int.reduceAdd, Int.reduceSub, Int.reduceNeg, Int.reduceGE, Int.reduceGT, quoteV]
def wrd (cur : List UInt8) : List UInt8 → List (List UInt8)
  | [] => if cur = [] then [] else [cur]
  | c :: r => if c = 32 ∨ c = 9 then (if cur = [] then wrd [] r else cur :: wrd [] r) else wrd (cur ++ [c]) r
theorem rwords_ok {s : List UInt8} {H : DH} (hs : s.length < 1000000) : WC cfg 13 [.str s] H fun v H' => Ext H H' ∧ IsSn H.next H' 9 1 v ((wrd [] s).map .str) := by
  refine WC_of (show Has cfg 13 42 [.tmp 2] _ from ⟨by kernel_rfl, Tryd.f13, Tryd.func13, rfl, rfl, rfl, by kernel_rfl⟩) (by simp) ?_
  simp -dsimp (disch := first | omega | (refine DrawYes.mk ?_; decide +kernel) | fail) only [go_sem, ↓reduceIte, reduceCtorEq, Nat.reduceEqDiff, Nat.reduceAdd, Nat.reduceLeDiff, Int.reduceLE, Int.reduceLT, Int.reduceBEq, Int.reduceBNe, Int.reduceEq, Nat.reduceBEq, Int.reduceToNat, Nat.reduceLT, Nat.reduceGT, Nat.reduceSub, Nat.reduceMul, Int.reduceAdd, Int.reduceSub, Int.reduceNeg, Int.reduceGE, Int.reduceGT]
  refine Y_loop (α := Nat × Nat × List (List UInt8)) (fun k σ H' => Ext H H' ∧ σ 0 = .str s ∧ σ 5 = .int .i64 k.1 ∧ σ 4 = .int .i64 k.2.1 ∧ IsSn H.next H' 9 1 (σ 3) (k.2.2.map .str) ∧ k.1 ≤ s.length + 1 ∧ k.2.2.length ≤ k.1 ∧ ((k.1 ≤ s.length ∧ k.2.1 ≤ k.1 ∧ k.2.2 ++ wrd ((s.take k.1).drop k.2.1) (s.drop k.1) = wrd [] s) ∨ (k.1 = s.length + 1 ∧ k.2.2 = wrd [] s))) (fun k => s.length + 1 - k.1) (0, 0, []) ?_ ?_
  · simp -dsimp (disch := first | omega | (refine DrawYes.mk ?_; decide +kernel) | fail) only [go_sem, ↓reduceIte, reduceCtorEq, Nat.reduceEqDiff, Nat.reduceAdd, Nat.reduceLeDiff, Int.reduceLE, Int.reduceLT, Int.reduceBEq, Int.reduceBNe, Int.reduceEq, Nat.reduceBEq, Int.reduceToNat, Nat.reduceLT, Nat.reduceGT, Nat.reduceSub, Nat.reduceMul, Int.reduceAdd, Int.reduceSub, Int.reduceNeg, Int.reduceGE, Int.reduceGT]
    exact ⟨Ext.refl.new, IsSn.new, .inl (Nat.zero_le _)⟩
  rintro ⟨i, f, out⟩ σ H1 ⟨hE, h0, h5, h4, ho, hi, hol, hc⟩
  dsimp only at h5 h4 ho hi hol hc
  rcases hc with ⟨hi2, hf, hw⟩ | ⟨rfl, hw⟩
  · have i1 : (i : Int) ≤ s.length := by omega
    have hcur : ∀ c, s[i]? = some c → (s.take (i + 1)).drop f = (s.take i).drop f ++ [c] := by
      intro c hg
      rw [List.take_add_one, hg, List.drop_append_of_le_length (by rw [List.length_take]; omega)]
      rfl
    have hcl : ((s.take i).drop f).length = i - f := by rw [List.length_drop, List.length_take]; omega
    -- at a blank, or at the end
    have brk : (i = s.length ∨ ∃ c, s[i]? = some c ∧ (c = 32 ∨ c = 9)) → ∀ out', out' = (if f < i then out ++ [(s.take i).drop f] else out) → (i + 1 ≤ s.length ∧ i + 1 ≤ i + 1 ∧ out' ++ wrd ((s.take (i + 1)).drop (i + 1)) (s.drop (i + 1)) = wrd [] s) ∨ (i + 1 = s.length + 1 ∧ out' = wrd [] s) := by
      intro h out' ho'
      have hcn : (((s.take i).drop f) = []) = ¬ f < i := by
        rw [← List.length_eq_zero_iff, hcl]; simp; omega
      rcases h with h | ⟨c, hg, hb⟩
      · refine .inr ⟨by omega, ?_⟩
        rw [show s.drop i = [] from List.drop_eq_nil_of_le (by omega), wrd.eq_def] at hw
        simp only at hw
        rw [ho', ← hw]
        by_cases hfi : f < i
        · rw [if_pos hfi, if_neg (by rw [hcn]; simpa using hfi)]
        · rw [if_neg hfi, if_pos (by rw [hcn]; exact hfi)]; simp
      · have hil : i < s.length := (List.getElem?_eq_some_iff.1 hg).1
        refine .inl ⟨by omega, by omega, ?_⟩
        have hd : s.drop i = c :: s.drop (i + 1) := by
          rw [List.drop_eq_getElem_cons hil, (List.getElem?_eq_some_iff.1 hg).2]
        rw [hd, wrd, if_pos hb] at hw
        have hz : (s.take (i + 1)).drop (i + 1) = [] := List.drop_eq_nil_of_le (by rw [List.length_take]; omega)
        rw [hz, ho', ← hw]
        by_cases hfi : f < i
        · rw [if_pos hfi, if_neg (by rw [hcn]; simpa using hfi)]; simp
        · rw [if_neg hfi, if_pos (by rw [hcn]; exact hfi)]
    by_cases hil : i < s.length
    · have i2 : (i : Int) < s.length := by omega
      have hg : s[i]? = some s[i] := List.getElem?_eq_getElem hil
      have hd : s.drop i = s[i] :: s.drop (i + 1) := List.drop_eq_getElem_cons hil
      generalize s[i] = c at hg hd
      have hbk : c = 32 ∨ c = 9 → ∀ out', out' = (if f < i then out ++ [(s.take i).drop f] else out) → (i + 1 ≤ s.length ∧ i + 1 ≤ i + 1 ∧ out' ++ wrd ((s.take (i + 1)).drop (i + 1)) (s.drop (i + 1)) = wrd [] s) ∨ (i + 1 = s.length + 1 ∧ out' = wrd [] s) := fun h => brk (.inr ⟨c, hg, h⟩)
      by_cases c32 : c.toNat = 32
      · have hbk2 := hbk (.inl (UInt8.toNat_inj.1 c32))
        have b1 : ((c.toNat : Int) != 32) = false := by simp; omega
        by_cases hfi : f < i
        · have j1 : (f : Int) < i := by omega
          simp -dsimp (disch := first | omega | (refine DrawYes.mk ?_; decide +kernel) | fail) only [go_sem, ↓reduceIte, reduceCtorEq, Nat.reduceEqDiff, Nat.reduceAdd, Nat.reduceLeDiff, Int.reduceLE, Int.reduceLT, Int.reduceBEq, Int.reduceBNe, Int.reduceEq, Nat.reduceBEq, Int.reduceToNat, Nat.reduceLT, Nat.reduceGT, Nat.reduceSub, Nat.reduceMul, Int.reduceAdd, Int.reduceSub, Int.reduceNeg, Int.reduceGE, Int.reduceGT, h0, h5, h4, i1, i2, hg, b1, j1]
          repeat refine And.intro (by omega) ?_
          refine appn und_35 size_9 bytes_9 und_35 zero_9 rfl rfl (by decide) (ho.ext Ext.refl.new) rfl (by simp only [List.length_map, List.length_cons, List.length_nil]; omega) (by simp only [List.length_map, List.length_cons, List.length_nil]; omega) ?_
          intro v' H4 ho4 hs4
          simp -dsimp (disch := first | omega | (refine DrawYes.mk ?_; decide +kernel) | fail) only [go_sem, ↓reduceIte, reduceCtorEq, Nat.reduceEqDiff, Nat.reduceAdd, Nat.reduceLeDiff, Int.reduceLE, Int.reduceLT, Int.reduceBEq, Int.reduceBNe, Int.reduceEq, Nat.reduceBEq, Int.reduceToNat, Nat.reduceLT, Nat.reduceGT, Nat.reduceSub, Nat.reduceMul, Int.reduceAdd, Int.reduceSub, Int.reduceNeg, Int.reduceGE, Int.reduceGT, h0, h5, h4]
          refine ⟨(i + 1, i + 1, out ++ [(s.take i).drop f]), ⟨hs4.extn (ho.ext Ext.refl.new) hE.new, rfl, rfl, by rw [List.map_append]; exact ho4, by simp only; omega, by rw [List.length_append]; simp only [List.length_cons, List.length_nil]; omega, hbk2 _ (by rw [if_pos hfi])⟩, by simp only; omega⟩
        · have j1 : ¬ (f : Int) < i := by omega
          simp -dsimp (disch := first | omega | (refine DrawYes.mk ?_; decide +kernel) | fail) only [go_sem, ↓reduceIte, reduceCtorEq, Nat.reduceEqDiff, Nat.reduceAdd, Nat.reduceLeDiff, Int.reduceLE, Int.reduceLT, Int.reduceBEq, Int.reduceBNe, Int.reduceEq, Nat.reduceBEq, Int.reduceToNat, Nat.reduceLT, Nat.reduceGT, Nat.reduceSub, Nat.reduceMul, Int.reduceAdd, Int.reduceSub, Int.reduceNeg, Int.reduceGE, Int.reduceGT, h0, h5, h4, i1, i2, hg, b1, j1]
          repeat refine And.intro (by omega) ?_
          exact ⟨(i + 1, i + 1, out), ⟨hE, rfl, rfl, ho, by simp only; omega, by simp only; omega, hbk2 _ (by rw [if_neg hfi])⟩, by simp only; omega⟩
      · by_cases c9 : c.toNat = 9
        · have hbk2 := hbk (.inr (UInt8.toNat_inj.1 c9))
          have b1 : ((c.toNat : Int) != 32) = true := by simp; omega
          have b2 : ((c.toNat : Int) != 9) = false := by simp; omega
          by_cases hfi : f < i
          · have j1 : (f : Int) < i := by omega
            simp -dsimp (disch := first | omega | (refine DrawYes.mk ?_; decide +kernel) | fail) only [go_sem, ↓reduceIte, reduceCtorEq, Nat.reduceEqDiff, Nat.reduceAdd, Nat.reduceLeDiff, Int.reduceLE, Int.reduceLT, Int.reduceBEq, Int.reduceBNe, Int.reduceEq, Nat.reduceBEq, Int.reduceToNat, Nat.reduceLT, Nat.reduceGT, Nat.reduceSub, Nat.reduceMul, Int.reduceAdd, Int.reduceSub, Int.reduceNeg, Int.reduceGE, Int.reduceGT, h0, h5, h4, i1, i2, hg, b1, b2, j1]
            repeat refine And.intro (by omega) ?_
            refine appn und_35 size_9 bytes_9 und_35 zero_9 rfl rfl (by decide) (ho.ext Ext.refl.new) rfl (by simp only [List.length_map, List.length_cons, List.length_nil]; omega) (by simp only [List.length_map, List.length_cons, List.length_nil]; omega) ?_
            intro v' H4 ho4 hs4
            simp -dsimp (disch := first | omega | (refine DrawYes.mk ?_; decide +kernel) | fail) only [go_sem, ↓reduceIte, reduceCtorEq, Nat.reduceEqDiff, Nat.reduceAdd, Nat.reduceLeDiff, Int.reduceLE, Int.reduceLT, Int.reduceBEq, Int.reduceBNe, Int.reduceEq, Nat.reduceBEq, Int.reduceToNat, Nat.reduceLT, Nat.reduceGT, Nat.reduceSub, Nat.reduceMul, Int.reduceAdd, Int.reduceSub, Int.reduceNeg, Int.reduceGE, Int.reduceGT, h0, h5, h4]
            refine ⟨(i + 1, i + 1, out ++ [(s.take i).drop f]), ⟨hs4.extn (ho.ext Ext.refl.new) hE.new, rfl, rfl, by rw [List.map_append]; exact ho4, by simp only; omega, by rw [List.length_append]; simp only [List.length_cons, List.length_nil]; omega, hbk2 _ (by rw [if_pos hfi])⟩, by simp only; omega⟩
          · have j1 : ¬ (f : Int) < i := by omega
            simp -dsimp (disch := first | omega | (refine DrawYes.mk ?_; decide +kernel) | fail) only [go_sem, ↓reduceIte, reduceCtorEq, Nat.reduceEqDiff, Nat.reduceAdd, Nat.reduceLeDiff, Int.reduceLE, Int.reduceLT, Int.reduceBEq, Int.reduceBNe, Int.reduceEq, Nat.reduceBEq, Int.reduceToNat, Nat.reduceLT, Nat.reduceGT, Nat.reduceSub, Nat.reduceMul, Int.reduceAdd, Int.reduceSub, Int.reduceNeg, Int.reduceGE, Int.reduceGT, h0, h5, h4, i1, i2, hg, b1, b2, j1]
            repeat refine And.intro (by omega) ?_
            exact ⟨(i + 1, i + 1, out), ⟨hE, rfl, rfl, ho, by simp only; omega, by simp only; omega, hbk2 _ (by rw [if_neg hfi])⟩, by simp only; omega⟩
        · have b1 : ((c.toNat : Int) != 32) = true := by simp; omega
          have b2 : ((c.toNat : Int) != 9) = true := by simp; omega
          simp -dsimp (disch := first | omega | (refine DrawYes.mk ?_; decide +kernel) | fail) only [go_sem, ↓reduceIte, reduceCtorEq, Nat.reduceEqDiff, Nat.reduceAdd, Nat.reduceLeDiff, Int.reduceLE, Int.reduceLT, Int.reduceBEq, Int.reduceBNe, Int.reduceEq, Nat.reduceBEq, Int.reduceToNat, Nat.reduceLT, Nat.reduceGT, Nat.reduceSub, Nat.reduceMul, Int.reduceAdd, Int.reduceSub, Int.reduceNeg, Int.reduceGE, Int.reduceGT, h0, h5, h4, i1, i2, hg, b1, b2]
          refine ⟨by omega, by omega, (i + 1, f, out), ⟨hE, rfl, rfl, ho, by simp only; omega, by simp only; omega, .inl ⟨by simp only; omega, by simp only; omega, ?_⟩⟩, by simp only; omega⟩
          simp only
          rw [hcur c hg, ← hw, hd, wrd, if_neg]
          rintro (rfl | rfl)
          · exact c32 rfl
          · exact c9 rfl
    · have hbk2 := brk (.inl (by omega))
      have i2 : ¬ (i : Int) < s.length := by omega
      by_cases hfi : f < i
      · have j1 : (f : Int) < i := by omega
        simp -dsimp (disch := first | omega | (refine DrawYes.mk ?_; decide +kernel) | fail) only [go_sem, ↓reduceIte, reduceCtorEq, Nat.reduceEqDiff, Nat.reduceAdd, Nat.reduceLeDiff, Int.reduceLE, Int.reduceLT, Int.reduceBEq, Int.reduceBNe, Int.reduceEq, Nat.reduceBEq, Int.reduceToNat, Nat.reduceLT, Nat.reduceGT, Nat.reduceSub, Nat.reduceMul, Int.reduceAdd, Int.reduceSub, Int.reduceNeg, Int.reduceGE, Int.reduceGT, h0, h5, h4, i1, i2, j1]
        repeat refine And.intro (by omega) ?_
        refine appn und_35 size_9 bytes_9 und_35 zero_9 rfl rfl (by decide) (ho.ext Ext.refl.new) rfl (by simp only [List.length_map, List.length_cons, List.length_nil]; omega) (by simp only [List.length_map, List.length_cons, List.length_nil]; omega) ?_
        intro v' H4 ho4 hs4
        simp -dsimp (disch := first | omega | (refine DrawYes.mk ?_; decide +kernel) | fail) only [go_sem, ↓reduceIte, reduceCtorEq, Nat.reduceEqDiff, Nat.reduceAdd, Nat.reduceLeDiff, Int.reduceLE, Int.reduceLT, Int.reduceBEq, Int.reduceBNe, Int.reduceEq, Nat.reduceBEq, Int.reduceToNat, Nat.reduceLT, Nat.reduceGT, Nat.reduceSub, Nat.reduceMul, Int.reduceAdd, Int.reduceSub, Int.reduceNeg, Int.reduceGE, Int.reduceGT, h0, h5, h4]
        refine ⟨(i + 1, i + 1, out ++ [(s.take i).drop f]), ⟨hs4.extn (ho.ext Ext.refl.new) hE.new, rfl, rfl, by rw [List.map_append]; exact ho4, by simp only; omega, by rw [List.length_append]; simp only [List.length_cons, List.length_nil]; omega, hbk2 _ (by rw [if_pos hfi])⟩, by simp only; omega⟩
      · have j1 : ¬ (f : Int) < i := by omega
        simp -dsimp (disch := first | omega | (refine DrawYes.mk ?_; decide +kernel) | fail) only [go_sem, ↓reduceIte, reduceCtorEq, Nat.reduceEqDiff, Nat.reduceAdd, Nat.reduceLeDiff, Int.reduceLE, Int.reduceLT, Int.reduceBEq, Int.reduceBNe, Int.reduceEq, Nat.reduceBEq, Int.reduceToNat, Nat.reduceLT, Nat.reduceGT, Nat.reduceSub, Nat.reduceMul, Int.reduceAdd, Int.reduceSub, Int.reduceNeg, Int.reduceGE, Int.reduceGT, h0, h5, h4, i1, i2, j1]
        repeat refine And.intro (by omega) ?_
        exact ⟨(i + 1, i + 1, out), ⟨hE, rfl, rfl, ho, by simp only; omega, by simp only; omega, hbk2 _ (by rw [if_neg hfi])⟩, by simp only; omega⟩
  · have i1 : ¬ ((s.length + 1 : Nat) : Int) ≤ s.length := by omega
    simp -dsimp (disch := first | omega | (refine DrawYes.mk ?_; decide +kernel) | fail) only [go_sem, ↓reduceIte, reduceCtorEq, Nat.reduceEqDiff, Nat.reduceAdd, Nat.reduceLeDiff, Int.reduceLE, Int.reduceLT, Int.reduceBEq, Int.reduceBNe, Int.reduceEq, Nat.reduceBEq, Int.reduceToNat, Nat.reduceLT, Nat.reduceGT, Nat.reduceSub, Nat.reduceMul, Int.reduceAdd, Int.reduceSub, Int.reduceNeg, Int.reduceGE, Int.reduceGT, h0, h5, h4, i1]
    exact ⟨hE, by rw [← hw]; exact ho⟩
theorem numD_cons (c : UInt8) (s : List UInt8) : numD (c :: s) = (c.toNat - 48) * 10 ^ s.length + numD s := by
  have h : ∀ (s : List UInt8) (n : Nat), s.foldl (fun n b => n * 10 + (b.toNat - 48)) n = n * 10 ^ s.length + numD s := by
    intro s
    induction s with
    | nil => intro n; simp [numD]
    | cons b s ih =>
      intro n
      rw [List.foldl_cons, ih]
      unfold numD
      rw [List.foldl_cons, ih (0 * 10 + (b.toNat - 48))]
      rw [List.length_cons, Nat.pow_succ, Nat.add_mul]
      unfold numD
      have e1 : n * 10 * 10 ^ s.length = n * (10 ^ s.length * 10) := by rw [Nat.mul_assoc, Nat.mul_comm 10]
      have e2 : (0 * 10 + (b.toNat - 48)) * 10 ^ s.length = (b.toNat - 48) * 10 ^ s.length := by rw [Nat.zero_mul, Nat.zero_add]
      rw [e1, e2]; omega
  unfold numD
  rw [List.foldl_cons, h]
  simp [numD]
theorem dig_at (k : Nat) (hk : k < 10) : (([48, 49, 50, 51, 52, 53, 54, 55, 56, 57] : List UInt8).take (k + 1)).drop k = [UInt8.ofNat (48 + k)] ∧ UInt8.ofNat (48 + k) ∈ digitsL ∧ (UInt8.ofNat (48 + k)).toNat - 48 = k := by
  have h : ∀ k, k < 10 → (([48, 49, 50, 51, 52, 53, 54, 55, 56, 57] : List UInt8).take (k + 1)).drop k = [UInt8.ofNat (48 + k)] ∧ UInt8.ofNat (48 + k) ∈ digitsL ∧ (UInt8.ofNat (48 + k)).toNat - 48 = k := by decide
  exact h k hk
theorem rdigits_ok {n : Nat} {H : DH} (hn : n < 1000000000) : WC cfg 15 [.int .i64 n] H fun v H' => H' = H ∧ ∃ d, v = .str d ∧ d ≠ [] ∧ (∀ c ∈ d, c ∈ digitsL) ∧ d.length ≤ 9 ∧ numD d = n := by
  refine WC_of (show Has cfg 15 33 [.tmp 2] _ from ⟨by kernel_rfl, Tryd.f15, Tryd.func15, rfl, rfl, rfl, by kernel_rfl⟩) (by simp) ?_
  have n0 : ¬ (n : Int) < 0 := by omega
  simp -dsimp (disch := first | omega | (refine DrawYes.mk ?_; decide +kernel) | fail) only [go_sem, ↓reduceIte, reduceCtorEq, Nat.reduceEqDiff, Nat.reduceAdd, Nat.reduceLeDiff, Int.reduceLE, Int.reduceLT, Int.reduceBEq, Int.reduceBNe, Int.reduceEq, Nat.reduceBEq, Int.reduceToNat, Nat.reduceLT, Nat.reduceGT, Nat.reduceSub, Nat.reduceMul, Int.reduceAdd, Int.reduceSub, Int.reduceNeg, Int.reduceGE, Int.reduceGT, n0]
  refine Y_loop (α := Nat × List UInt8) (fun k σ H' => H' = H ∧ σ 0 = .int .i64 n ∧ σ 3 = .int .u64 k.1 ∧ σ 4 = .str k.2 ∧ σ 5 = .int .i64 k.2.length ∧ (∀ c ∈ k.2, c ∈ digitsL) ∧ k.1 * 10 ^ k.2.length + numD k.2 = n ∧ (k.2 = [] ∨ 0 < k.1)) (fun k => 20 - k.2.length) (n, []) ?_ ?_
  · simp -dsimp (disch := first | omega | (refine DrawYes.mk ?_; decide +kernel) | fail) only [go_sem, ↓reduceIte, reduceCtorEq, Nat.reduceEqDiff, Nat.reduceAdd, Nat.reduceLeDiff, Int.reduceLE, Int.reduceLT, Int.reduceBEq, Int.reduceBNe, Int.reduceEq, Nat.reduceBEq, Int.reduceToNat, Nat.reduceLT, Nat.reduceGT, Nat.reduceSub, Nat.reduceMul, Int.reduceAdd, Int.reduceSub, Int.reduceNeg, Int.reduceGE, Int.reduceGT]
    simp [numD]
  rintro ⟨x, d⟩ σ H' ⟨rfl, h0, h3, h4, h5, hd, hx, hp⟩
  dsimp only at h3 h4 h5 hd hx hp
  have hl8 : d.length ≤ 8 := by
    rcases hp with rfl | hp
    · simp
    · by_cases h : d.length ≤ 8
      · exact h
      · exfalso
        have h1 : 10 ^ 9 ≤ 10 ^ d.length := Nat.pow_le_pow_right (by decide) (by omega)
        have h2 : 10 ^ d.length ≤ x * 10 ^ d.length := Nat.le_mul_of_pos_left _ hp
        omega
  have i1 : (d.length : Int) < 20 := by omega
  have hxn : x ≤ n := by
    have : x ≤ x * 10 ^ d.length := Nat.le_mul_of_pos_right _ (Nat.pow_pos (by decide))
    omega
  have hr : (x : Int).tmod 10 = ((x % 10 : Nat) : Int) := by rw [Int.tmod_eq_emod_of_nonneg (by omega)]; omega
  have hq : (x : Int).tdiv 10 = ((x / 10 : Nat) : Int) := by rw [Int.tdiv_eq_ediv_of_nonneg (by omega)]; omega
  have hm : x % 10 < 10 := Nat.mod_lt _ (by decide)
  have hta : (((x % 10 : Nat) : Int) + 1).toNat = x % 10 + 1 := by omega
  obtain ⟨g1, g2, g3⟩ := dig_at (x % 10) hm
  have g1' : List.drop (x % 10) (48 :: List.take (x % 10) ([49, 50, 51, 52, 53, 54, 55, 56, 57] : List UInt8)) = [UInt8.ofNat (48 + x % 10)] := g1
  simp -dsimp (disch := first | omega | (refine DrawYes.mk ?_; decide +kernel) | fail) only [go_sem, ↓reduceIte, reduceCtorEq, Nat.reduceEqDiff, Nat.reduceAdd, Nat.reduceLeDiff, Int.reduceLE, Int.reduceLT, Int.reduceBEq, Int.reduceBNe, Int.reduceEq, Nat.reduceBEq, Int.reduceToNat, Nat.reduceLT, Nat.reduceGT, Nat.reduceSub, Nat.reduceMul, Int.reduceAdd, Int.reduceSub, Int.reduceNeg, Int.reduceGE, Int.reduceGT, h0, h3, h4, h5, i1, hr, hq, hta, g1', n0]
  have hnum : numD (UInt8.ofNat (48 + x % 10) :: d) = x % 10 * 10 ^ d.length + numD d := by rw [numD_cons, g3]
  have hdig : ∀ c ∈ UInt8.ofNat (48 + x % 10) :: d, c ∈ digitsL := by
    intro c hc
    rcases List.mem_cons.1 hc with rfl | hc
    · exact g2
    · exact hd c hc
  have hxx : x / 10 * 10 ^ (d.length + 1) + x % 10 * 10 ^ d.length = x * 10 ^ d.length := by
    rw [Nat.pow_succ, ← Nat.mul_assoc, Nat.mul_right_comm, ← Nat.add_mul]
    congr 1; omega
  refine ⟨by omega, by omega, by omega, fun hz => ⟨_, rfl, by simp, hdig, by simp only [List.length_cons]; omega, ?_⟩, fun hz => ⟨(x / 10, UInt8.ofNat (48 + x % 10) :: d), ⟨rfl, rfl, by simp, hdig, ?_, .inr (by simp only; omega)⟩, by simp only [List.length_cons]; omega⟩⟩
  · have hz0 : x / 10 = 0 := by omega
    rw [hz0, Nat.zero_mul, Nat.zero_add] at hxx
    rw [hnum, hxx]; exact hx
  · simp only [List.length_cons]
    rw [hnum]; omega
end Go.Proofs.YtcknfhhbijlobaaDoor.D
