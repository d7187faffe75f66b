import Derived.Test.YtcknfhhbijlobaaDoorLex2
namespace Go.Proofs.YtcknfhhbijlobaaDoor.D
open Go
set_option linter.unusedVariables false
set_option linter.unusedSimpArgs false
set_option maxRecDepth 100000

theorem Bld.new {H : DH} : Bld H.next (H.new (.cells 86 [.nilp, .nils])) H.next [] :=
  ⟨_, _, by rw [new_m, if_pos rfl], .inl rfl, .inl ⟨rfl, rfl⟩, Nat.le_refl _, Nat.lt_succ_self _⟩
theorem Keep.ext {b : Nat} {H0 H H' : DH} (x : Ext H0 H) (k : Keep H0.next b H H') : Ext H0 H' := ⟨Nat.le_trans x.le k.le, fun i hi => (k.low i hi).trans (x.same i hi)⟩

/-- What stands for what behind a backslash. -/
def esc (d : UInt8) : Option UInt8 := if d = 92 then some 92 else if d = 34 then some 34 else if d = 110 then some 10 else if d = 114 then some 13 else if d = 116 then some 9 else none
/-- A text behind its first sign: what it is, and where it ends. -/
def qd (acc : List UInt8) : List UInt8 → Nat → Option (List UInt8 × Nat)
  | [], _ => none
  | c :: r, n => if c.toNat = 34 then (if acc.length ≤ 100 then some (acc, n + 1) else none)
    else if c.toNat < 32 ∨ 126 < c.toNat then none
    else if c.toNat = 92 then match r with
      | [] => none
      | d :: r' => match esc d with
        | none => none
        | some x => qd (acc ++ [x]) r' (n + 2)
    else qd (acc ++ [c]) r (n + 1)
theorem qd_cons {acc : List UInt8} {c : UInt8} {r : List UInt8} {n : Nat} : qd acc (c :: r) n = if c.toNat = 34 then (if acc.length ≤ 100 then some (acc, n + 1) else none)
    else if c.toNat < 32 ∨ 126 < c.toNat then none
    else if c.toNat = 92 then match r with
      | [] => none
      | d :: r' => match esc d with
        | none => none
        | some x => qd (acc ++ [x]) r' (n + 2)
    else qd (acc ++ [c]) r (n + 1) := by
  rw [qd.eq_def]
def qdV : Option (List UInt8 × Nat) → DV
  | some (t, n) => .tup [.str t, .int .i64 n]
  | none => .tup [.str [], .int .i64 (-1)]

theorem esc_idx (d : UInt8) : (∃ (x : UInt8) (k : Nat), esc d = some x ∧ Lib.indexByte [92, 34, 110, 114, 116] d = (k : Int) ∧ ([92, 34, 10, 13, 9] : List UInt8)[k]? = some x) ∨ (esc d = none ∧ Lib.indexByte [92, 34, 110, 114, 116] d = -1) := by
  by_cases h1 : d = 92
  · subst h1; exact .inl ⟨92, 0, rfl, rfl, rfl⟩
  by_cases h2 : d = 34
  · subst h2; exact .inl ⟨34, 1, rfl, rfl, rfl⟩
  by_cases h3 : d = 110
  · subst h3; exact .inl ⟨10, 2, rfl, rfl, rfl⟩
  by_cases h4 : d = 114
  · subst h4; exact .inl ⟨13, 3, rfl, rfl, rfl⟩
  by_cases h5 : d = 116
  · subst h5; exact .inl ⟨9, 4, rfl, rfl, rfl⟩
  exact .inr ⟨by simp [esc, h1, h2, h3, h4, h5], idx_not (by simp [h1, h2, h3, h4, h5])⟩
theorem quoted_ok {s : List UInt8} {H : DH} (hs : s.length < 1000000) : WC cfg 32 [.str s] H fun v H' => v = qdV (qd [] (s.drop 1) 1) ∧ Ext H H' := by
  refine WC_of (show Has cfg 32 57 [.tmp 2, .tmp 3] _ from ⟨by kernel_rfl, Tryd.f32, Tryd.func32, rfl, rfl, rfl, by kernel_rfl⟩) (by simp) ?_
  simp -dsimp (disch := first | omega | (refine DrawYes.mk ?_; decide +kernel) | fail) only [go_sem, ↓reduceIte, reduceCtorEq, Nat.reduceEqDiff, Nat.reduceAdd, Nat.reduceLeDiff, Int.reduceLE, Int.reduceLT, Int.reduceBEq, Int.reduceBNe, Int.reduceEq, Nat.reduceBEq, Int.reduceToNat, Nat.reduceLT, Nat.reduceGT, Nat.reduceSub, Nat.reduceMul, Int.reduceAdd, Int.reduceSub, Int.reduceNeg, Int.reduceGE, Int.reduceGT]
  refine Y_loop (α := List UInt8 × Nat) (fun a σ H' => σ 0 = .str s ∧ σ 4 = .ptr H.next 0 ∧ σ 5 = .int .i64 a.2 ∧ a.2 ≤ s.length + 1 ∧ a.1.length < a.2 ∧ Bld H.next H' H.next a.1 ∧ Ext H H' ∧ qd a.1 (s.drop a.2) a.2 = qd [] (s.drop 1) 1) (fun a => s.length + 1 - a.2) ([], 1) ?_ ?_
  · simp -dsimp (disch := first | omega | (refine DrawYes.mk ?_; decide +kernel) | fail) only [go_sem, ↓reduceIte, reduceCtorEq, Nat.reduceEqDiff, Nat.reduceAdd, Nat.reduceLeDiff, Int.reduceLE, Int.reduceLT, Int.reduceBEq, Int.reduceBNe, Int.reduceEq, Nat.reduceBEq, Int.reduceToNat, Nat.reduceLT, Nat.reduceGT, Nat.reduceSub, Nat.reduceMul, Int.reduceAdd, Int.reduceSub, Int.reduceNeg, Int.reduceGE, Int.reduceGT]
    exact ⟨Bld.new, Ext.refl.new⟩
  · rintro ⟨acc, k⟩ σ H1 ⟨h0, h4, h5, hk, ha, hb, hE, hq⟩
    simp only at h0 h4 h5 hk ha hb hq
    by_cases hlt : k < s.length
    · have hg : s[k]? = some s[k] := List.getElem?_eq_getElem hlt
      have hi : (k : Int) < s.length := by omega
      rw [List.drop_eq_getElem_cons hlt] at hq
      generalize s[k] = c at hg hq
      by_cases c1 : c.toNat = 34
      · have i1 : ((c.toNat : Int) == 34) = true := by simp; omega
        simp -dsimp (disch := first | omega | (refine DrawYes.mk ?_; decide +kernel) | fail) only [go_sem, ↓reduceIte, reduceCtorEq, Nat.reduceEqDiff, Nat.reduceAdd, Nat.reduceLeDiff, Int.reduceLE, Int.reduceLT, Int.reduceBEq, Int.reduceBNe, Int.reduceEq, Nat.reduceBEq, Int.reduceToNat, Nat.reduceLT, Nat.reduceGT, Nat.reduceSub, Nat.reduceMul, Int.reduceAdd, Int.reduceSub, Int.reduceNeg, Int.reduceGE, Int.reduceGT, h0, h4, h5, hi, hg, i1]
        refine ⟨by omega, call (blen_ok hb) ?_⟩
        rintro _ _ ⟨rfl, rfl⟩
        rw [qd_cons, if_pos c1] at hq
        by_cases c2 : acc.length ≤ 100
        · have i2 : (acc.length : Int) ≤ 100 := by omega
          simp -dsimp (disch := first | omega | (refine DrawYes.mk ?_; decide +kernel) | fail) only [go_sem, ↓reduceIte, reduceCtorEq, Nat.reduceEqDiff, Nat.reduceAdd, Nat.reduceLeDiff, Int.reduceLE, Int.reduceLT, Int.reduceBEq, Int.reduceBNe, Int.reduceEq, Nat.reduceBEq, Int.reduceToNat, Nat.reduceLT, Nat.reduceGT, Nat.reduceSub, Nat.reduceMul, Int.reduceAdd, Int.reduceSub, Int.reduceNeg, Int.reduceGE, Int.reduceGT, h0, h4, h5, hi, hg, i1, i2]
          refine call (bstring_ok hb (by omega)) ?_
          rintro _ _ ⟨rfl, rfl⟩
          simp -dsimp (disch := first | omega | (refine DrawYes.mk ?_; decide +kernel) | fail) only [go_sem, ↓reduceIte, reduceCtorEq, Nat.reduceEqDiff, Nat.reduceAdd, Nat.reduceLeDiff, Int.reduceLE, Int.reduceLT, Int.reduceBEq, Int.reduceBNe, Int.reduceEq, Nat.reduceBEq, Int.reduceToNat, Nat.reduceLT, Nat.reduceGT, Nat.reduceSub, Nat.reduceMul, Int.reduceAdd, Int.reduceSub, Int.reduceNeg, Int.reduceGE, Int.reduceGT, h0, h4, h5, hi, hg, i1, i2]
          rw [if_pos c2] at hq
          exact ⟨by rw [← hq]; rfl, hE⟩
        · have i2 : ¬ (acc.length : Int) ≤ 100 := by omega
          simp -dsimp (disch := first | omega | (refine DrawYes.mk ?_; decide +kernel) | fail) only [go_sem, ↓reduceIte, reduceCtorEq, Nat.reduceEqDiff, Nat.reduceAdd, Nat.reduceLeDiff, Int.reduceLE, Int.reduceLT, Int.reduceBEq, Int.reduceBNe, Int.reduceEq, Nat.reduceBEq, Int.reduceToNat, Nat.reduceLT, Nat.reduceGT, Nat.reduceSub, Nat.reduceMul, Int.reduceAdd, Int.reduceSub, Int.reduceNeg, Int.reduceGE, Int.reduceGT, h0, h4, h5, hi, hg, i1, i2]
          rw [if_neg c2] at hq
          exact ⟨by rw [← hq]; rfl, hE⟩
      · have i1 : ((c.toNat : Int) == 34) = false := by simp; omega
        rw [qd_cons, if_neg c1] at hq
        by_cases c2 : c.toNat < 32
        · have i2 : (c.toNat : Int) < 32 := by omega
          rw [if_pos (.inl c2)] at hq
          simp -dsimp (disch := first | omega | (refine DrawYes.mk ?_; decide +kernel) | fail) only [go_sem, ↓reduceIte, reduceCtorEq, Nat.reduceEqDiff, Nat.reduceAdd, Nat.reduceLeDiff, Int.reduceLE, Int.reduceLT, Int.reduceBEq, Int.reduceBNe, Int.reduceEq, Nat.reduceBEq, Int.reduceToNat, Nat.reduceLT, Nat.reduceGT, Nat.reduceSub, Nat.reduceMul, Int.reduceAdd, Int.reduceSub, Int.reduceNeg, Int.reduceGE, Int.reduceGT, h0, h4, h5, hi, hg, i1, i2]
          exact ⟨by omega, by rw [← hq]; rfl, hE⟩
        · have i2 : ¬ (c.toNat : Int) < 32 := by omega
          by_cases c3 : 126 < c.toNat
          · have i3 : 126 < (c.toNat : Int) := by omega
            rw [if_pos (.inr c3)] at hq
            simp -dsimp (disch := first | omega | (refine DrawYes.mk ?_; decide +kernel) | fail) only [go_sem, ↓reduceIte, reduceCtorEq, Nat.reduceEqDiff, Nat.reduceAdd, Nat.reduceLeDiff, Int.reduceLE, Int.reduceLT, Int.reduceBEq, Int.reduceBNe, Int.reduceEq, Nat.reduceBEq, Int.reduceToNat, Nat.reduceLT, Nat.reduceGT, Nat.reduceSub, Nat.reduceMul, Int.reduceAdd, Int.reduceSub, Int.reduceNeg, Int.reduceGE, Int.reduceGT, h0, h4, h5, hi, hg, i1, i2, i3]
            exact ⟨by omega, by rw [← hq]; rfl, hE⟩
          · have i3 : ¬ 126 < (c.toNat : Int) := by omega
            rw [if_neg (by omega)] at hq
            by_cases c4 : c.toNat = 92
            · have i4 : ((c.toNat : Int) == 92) = true := by simp; omega
              rw [if_pos c4] at hq
              by_cases hlt2 : k + 1 < s.length
              · have hg2 : s[k + 1]? = some s[k + 1] := List.getElem?_eq_getElem hlt2
                have hi2 : (k : Int) + 1 < s.length := by omega
                rw [List.drop_eq_getElem_cons hlt2] at hq
                generalize s[k + 1] = d at hg2 hq
                have ht : ((k : Int) + 1).toNat = k + 1 := by omega
                simp -dsimp (disch := first | omega | (refine DrawYes.mk ?_; decide +kernel) | fail) only [go_sem, ↓reduceIte, reduceCtorEq, Nat.reduceEqDiff, Nat.reduceAdd, Nat.reduceLeDiff, Int.reduceLE, Int.reduceLT, Int.reduceBEq, Int.reduceBNe, Int.reduceEq, Nat.reduceBEq, Int.reduceToNat, Nat.reduceLT, Nat.reduceGT, Nat.reduceSub, Nat.reduceMul, Int.reduceAdd, Int.reduceSub, Int.reduceNeg, Int.reduceGE, Int.reduceGT, h0, h4, h5, hi, hg, i1, i2, i3, i4, hi2, ht, hg2]
                refine ⟨by omega, by omega, call indexByte_ok ?_⟩
                rintro _ _ ⟨rfl, rfl⟩
                rcases esc_idx d with ⟨x, j, e1, e2, e3⟩ | ⟨e1, e2⟩
                · have i5 : ¬ (j : Int) < 0 := by omega
                  rw [e2]
                  simp only [e1] at hq
                  simp -dsimp (disch := first | omega | (refine DrawYes.mk ?_; decide +kernel) | fail) only [go_sem, ↓reduceIte, reduceCtorEq, Nat.reduceEqDiff, Nat.reduceAdd, Nat.reduceLeDiff, Int.reduceLE, Int.reduceLT, Int.reduceBEq, Int.reduceBNe, Int.reduceEq, Nat.reduceBEq, Int.reduceToNat, Nat.reduceLT, Nat.reduceGT, Nat.reduceSub, Nat.reduceMul, Int.reduceAdd, Int.reduceSub, Int.reduceNeg, Int.reduceGE, Int.reduceGT, h0, h4, h5, hi, hg, i1, i2, i3, i4, hi2, ht, hg2, i5, e3]
                  refine ⟨by omega, call (writeByte_ok hb (by omega)) ?_⟩
                  rintro _ H2 ⟨hb2, hk2⟩
                  simp -dsimp (disch := first | omega | (refine DrawYes.mk ?_; decide +kernel) | fail) only [go_sem, ↓reduceIte, reduceCtorEq, Nat.reduceEqDiff, Nat.reduceAdd, Nat.reduceLeDiff, Int.reduceLE, Int.reduceLT, Int.reduceBEq, Int.reduceBNe, Int.reduceEq, Nat.reduceBEq, Int.reduceToNat, Nat.reduceLT, Nat.reduceGT, Nat.reduceSub, Nat.reduceMul, Int.reduceAdd, Int.reduceSub, Int.reduceNeg, Int.reduceGE, Int.reduceGT, h0, h4, h5, hi, hg, i1, i2, i3, i4, hi2, ht, hg2, i5, e3]
                  exact ⟨(acc ++ [x], k + 2), ⟨by simp only; congr 1, by simp only; omega, by simp; omega, hb2, hk2.ext hE, hq⟩, by simp only; omega⟩
                · rw [e2]
                  simp only [e1] at hq
                  simp -dsimp (disch := first | omega | (refine DrawYes.mk ?_; decide +kernel) | fail) only [go_sem, ↓reduceIte, reduceCtorEq, Nat.reduceEqDiff, Nat.reduceAdd, Nat.reduceLeDiff, Int.reduceLE, Int.reduceLT, Int.reduceBEq, Int.reduceBNe, Int.reduceEq, Nat.reduceBEq, Int.reduceToNat, Nat.reduceLT, Nat.reduceGT, Nat.reduceSub, Nat.reduceMul, Int.reduceAdd, Int.reduceSub, Int.reduceNeg, Int.reduceGE, Int.reduceGT, h0, h4, h5, hi, hg, i1, i2, i3, i4, hi2, ht, hg2]
                  exact ⟨by rw [← hq]; rfl, hE⟩
              · have hi2 : ¬ (k : Int) + 1 < s.length := by omega
                simp -dsimp (disch := first | omega | (refine DrawYes.mk ?_; decide +kernel) | fail) only [go_sem, ↓reduceIte, reduceCtorEq, Nat.reduceEqDiff, Nat.reduceAdd, Nat.reduceLeDiff, Int.reduceLE, Int.reduceLT, Int.reduceBEq, Int.reduceBNe, Int.reduceEq, Nat.reduceBEq, Int.reduceToNat, Nat.reduceLT, Nat.reduceGT, Nat.reduceSub, Nat.reduceMul, Int.reduceAdd, Int.reduceSub, Int.reduceNeg, Int.reduceGE, Int.reduceGT, h0, h4, h5, hi, hg, i1, i2, i3, i4, hi2]
                rw [List.drop_of_length_le (by omega)] at hq
                exact ⟨by omega, by rw [← hq]; rfl, hE⟩
            · have i4 : ((c.toNat : Int) == 92) = false := by simp; omega
              rw [if_neg c4] at hq
              simp -dsimp (disch := first | omega | (refine DrawYes.mk ?_; decide +kernel) | fail) only [go_sem, ↓reduceIte, reduceCtorEq, Nat.reduceEqDiff, Nat.reduceAdd, Nat.reduceLeDiff, Int.reduceLE, Int.reduceLT, Int.reduceBEq, Int.reduceBNe, Int.reduceEq, Nat.reduceBEq, Int.reduceToNat, Nat.reduceLT, Nat.reduceGT, Nat.reduceSub, Nat.reduceMul, Int.reduceAdd, Int.reduceSub, Int.reduceNeg, Int.reduceGE, Int.reduceGT, h0, h4, h5, hi, hg, i1, i2, i3, i4]
              refine ⟨by omega, call (writeByte_ok hb (by omega)) ?_⟩
              rintro _ H2 ⟨hb2, hk2⟩
              simp -dsimp (disch := first | omega | (refine DrawYes.mk ?_; decide +kernel) | fail) only [go_sem, ↓reduceIte, reduceCtorEq, Nat.reduceEqDiff, Nat.reduceAdd, Nat.reduceLeDiff, Int.reduceLE, Int.reduceLT, Int.reduceBEq, Int.reduceBNe, Int.reduceEq, Nat.reduceBEq, Int.reduceToNat, Nat.reduceLT, Nat.reduceGT, Nat.reduceSub, Nat.reduceMul, Int.reduceAdd, Int.reduceSub, Int.reduceNeg, Int.reduceGE, Int.reduceGT, h0, h4, h5, hi, hg, i1, i2, i3, i4]
              exact ⟨(acc ++ [c], k + 1), ⟨rfl, by simp only; omega, by simp; omega, hb2, hk2.ext hE, hq⟩, by simp only; omega⟩
    · have hi : ¬ (k : Int) < s.length := by omega
      simp -dsimp (disch := first | omega | (refine DrawYes.mk ?_; decide +kernel) | fail) only [go_sem, ↓reduceIte, reduceCtorEq, Nat.reduceEqDiff, Nat.reduceAdd, Nat.reduceLeDiff, Int.reduceLE, Int.reduceLT, Int.reduceBEq, Int.reduceBNe, Int.reduceEq, Nat.reduceBEq, Int.reduceToNat, Nat.reduceLT, Nat.reduceGT, Nat.reduceSub, Nat.reduceMul, Int.reduceAdd, Int.reduceSub, Int.reduceNeg, Int.reduceGE, Int.reduceGT, h0, h4, h5, hi]
      rw [List.drop_of_length_le (by omega)] at hq
      exact ⟨by rw [← hq]; rfl, hE⟩
end Go.Proofs.YtcknfhhbijlobaaDoor.D
