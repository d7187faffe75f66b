import Derived.Test.YtdlcfkhpcppejaaLex5
namespace Go.Proofs.Ytdlcfkhpcppejaa.D
open Go
set_option linter.unusedVariables false
set_option linter.unusedSimpArgs false
set_option maxRecDepth 100000

/-- What stands behind a backslash for what. -/
def unesc (c : UInt8) : Option UInt8 := if c = 92 then some 92 else if c = 34 then some 34 else if c = 10 then some 110 else if c = 13 then some 114 else if c = 9 then some 116 else none
def qz (acc : List UInt8) : List UInt8 → Option (List UInt8)
  | [] => some (acc ++ [34])
  | c :: r => match unesc c with
    | some x => qz (acc ++ [92] ++ [x]) r
    | none => if c.toNat < 32 ∨ 126 < c.toNat then none else qz (acc ++ [c]) r
def quoteL (s : List UInt8) : Option (List UInt8) := if 100 < s.length then none else qz [34] s
def quoteV : Option (List UInt8) → DV
  | some l => .tup [.str l, .bool true]
  | none => .tup [.str [], .bool false]
theorem unesc_idx (d : UInt8) : (∃ (x : UInt8) (k : Nat), unesc d = some x ∧ Lib.indexByte [92, 34, 10, 13, 9] d = (k : Int) ∧ ([92, 34, 110, 114, 116] : List UInt8)[k]? = some x) ∨ (unesc d = none ∧ Lib.indexByte [92, 34, 10, 13, 9] d = -1) := by
  by_cases h1 : d = 92
  · subst h1; exact .inl ⟨92, 0, rfl, rfl, rfl⟩
  by_cases h2 : d = 34
  · subst h2; exact .inl ⟨34, 1, rfl, rfl, rfl⟩
  by_cases h3 : d = 10
  · subst h3; exact .inl ⟨110, 2, rfl, rfl, rfl⟩
  by_cases h4 : d = 13
  · subst h4; exact .inl ⟨114, 3, rfl, rfl, rfl⟩
  by_cases h5 : d = 9
  · subst h5; exact .inl ⟨116, 4, rfl, rfl, rfl⟩
  exact .inr ⟨by simp [unesc, h1, h2, h3, h4, h5], idx_not (by simp [h1, h2, h3, h4, h5])⟩
theorem quote_ok {s : List UInt8} {H : DH} (hs : s.length < 1000000) : WC cfg 10 [.str s] H fun v H' => v = quoteV (quoteL s) ∧ Ext H H' := by
  refine WC_of (show Has cfg 10 45 [.tmp 2, .tmp 3] _ from ⟨by kernel_rfl, Try.f10, Try.func10, rfl, rfl, rfl, by kernel_rfl⟩) (by simp) ?_
  by_cases hbig : 100 < s.length
  · have hi : 100 < (s.length : Int) := by omega
    simp -dsimp (disch := first | omega | (refine DrawYes.mk ?_; kernel_rfl) | fail) only [go_sem, ↓reduceIte, reduceCtorEq, Nat.reduceEqDiff, Nat.reduceAdd, Nat.reduceLeDiff, Int.reduceLE, Int.reduceLT, Int.reduceBEq, Int.reduceBNe, Int.reduceEq, Nat.reduceBEq, Int.reduceToNat, Nat.reduceLT, Nat.reduceGT, Nat.reduceSub, Nat.reduceMul, Int.reduceAdd, Int.reduceSub, Int.reduceNeg, Int.reduceGE, Int.reduceGT, hi]
    rw [quoteL, if_pos hbig]
    exact ⟨rfl, Ext.refl⟩
  have hi : ¬ 100 < (s.length : Int) := by omega
  rw [quoteL, if_neg hbig]
  simp -dsimp (disch := first | omega | (refine DrawYes.mk ?_; kernel_rfl) | fail) only [go_sem, ↓reduceIte, reduceCtorEq, Nat.reduceEqDiff, Nat.reduceAdd, Nat.reduceLeDiff, Int.reduceLE, Int.reduceLT, Int.reduceBEq, Int.reduceBNe, Int.reduceEq, Nat.reduceBEq, Int.reduceToNat, Nat.reduceLT, Nat.reduceGT, Nat.reduceSub, Nat.reduceMul, Int.reduceAdd, Int.reduceSub, Int.reduceNeg, Int.reduceGE, Int.reduceGT, hi]
  refine call (writeByte_ok (c := 34) Bld.new (by simp)) ?_
  rintro _ H1 ⟨hb1, hk1⟩
  have hE1 := hk1.ext (Ext.refl.new (o := .cells 45 [.nilp, .nils]))
  simp -dsimp (disch := first | omega | (refine DrawYes.mk ?_; kernel_rfl) | fail) only [go_sem, ↓reduceIte, reduceCtorEq, Nat.reduceEqDiff, Nat.reduceAdd, Nat.reduceLeDiff, Int.reduceLE, Int.reduceLT, Int.reduceBEq, Int.reduceBNe, Int.reduceEq, Nat.reduceBEq, Int.reduceToNat, Nat.reduceLT, Nat.reduceGT, Nat.reduceSub, Nat.reduceMul, Int.reduceAdd, Int.reduceSub, Int.reduceNeg, Int.reduceGE, Int.reduceGT]
  refine Y_loop (α := List UInt8 × Nat) (fun a σ H' => σ 0 = .str s ∧ σ 4 = .ptr H.next 0 ∧ σ 12 = .int .i64 s.length ∧ σ 13 = .int .i64 a.2 ∧ a.2 ≤ s.length ∧ a.1.length ≤ 2 * a.2 + 1 ∧ Bld H.next H' H.next a.1 ∧ Ext H H' ∧ qz a.1 (s.drop a.2) = qz [34] s) (fun a => s.length - a.2) ([34], 0) ?_ ?_
  · simp -dsimp (disch := first | omega | (refine DrawYes.mk ?_; kernel_rfl) | fail) only [go_sem, ↓reduceIte, reduceCtorEq, Nat.reduceEqDiff, Nat.reduceAdd, Nat.reduceLeDiff, Int.reduceLE, Int.reduceLT, Int.reduceBEq, Int.reduceBNe, Int.reduceEq, Nat.reduceBEq, Int.reduceToNat, Nat.reduceLT, Nat.reduceGT, Nat.reduceSub, Nat.reduceMul, Int.reduceAdd, Int.reduceSub, Int.reduceNeg, Int.reduceGE, Int.reduceGT]
    exact ⟨by omega, hb1, hE1⟩
  rintro ⟨acc, k⟩ σ H2 ⟨h0, h4, h12, h13, hk, ha, hb, hE, hq⟩
  simp only at h0 h4 h12 h13 hk ha hb hq
  by_cases hlt : k < s.length
  · have hg : s[k]? = some s[k] := List.getElem?_eq_getElem hlt
    have i0 : (k : Int) < s.length := by omega
    rw [List.drop_eq_getElem_cons hlt] at hq
    generalize s[k] = c at hg hq
    rw [qz] at hq
    rcases unesc_idx c with ⟨x, j, e1, e2, e3⟩ | ⟨e1, e2⟩
    · have i1 : 0 ≤ (j : Int) := by omega
      simp only [e1] at hq
      simp -dsimp (disch := first | omega | (refine DrawYes.mk ?_; kernel_rfl) | fail) only [go_sem, ↓reduceIte, reduceCtorEq, Nat.reduceEqDiff, Nat.reduceAdd, Nat.reduceLeDiff, Int.reduceLE, Int.reduceLT, Int.reduceBEq, Int.reduceBNe, Int.reduceEq, Nat.reduceBEq, Int.reduceToNat, Nat.reduceLT, Nat.reduceGT, Nat.reduceSub, Nat.reduceMul, Int.reduceAdd, Int.reduceSub, Int.reduceNeg, Int.reduceGE, Int.reduceGT, h0, h4, h12, h13, i0, hg, indexByte_eq, e2, i1, e3]
      refine And.intro (by omega) (call (writeByte_ok (c := 92) hb (by omega)) ?_)
      rintro _ H3 ⟨hb3, hk3⟩
      simp -dsimp (disch := first | omega | (refine DrawYes.mk ?_; kernel_rfl) | fail) only [go_sem, ↓reduceIte, reduceCtorEq, Nat.reduceEqDiff, Nat.reduceAdd, Nat.reduceLeDiff, Int.reduceLE, Int.reduceLT, Int.reduceBEq, Int.reduceBNe, Int.reduceEq, Nat.reduceBEq, Int.reduceToNat, Nat.reduceLT, Nat.reduceGT, Nat.reduceSub, Nat.reduceMul, Int.reduceAdd, Int.reduceSub, Int.reduceNeg, Int.reduceGE, Int.reduceGT, h0, h4, h12, h13, i1, e3]
      refine call (writeByte_ok hb3 (by simp; omega)) ?_
      rintro _ H4 ⟨hb4, hk4⟩
      simp -dsimp (disch := first | omega | (refine DrawYes.mk ?_; kernel_rfl) | fail) only [go_sem, ↓reduceIte, reduceCtorEq, Nat.reduceEqDiff, Nat.reduceAdd, Nat.reduceLeDiff, Int.reduceLE, Int.reduceLT, Int.reduceBEq, Int.reduceBNe, Int.reduceEq, Nat.reduceBEq, Int.reduceToNat, Nat.reduceLT, Nat.reduceGT, Nat.reduceSub, Nat.reduceMul, Int.reduceAdd, Int.reduceSub, Int.reduceNeg, Int.reduceGE, Int.reduceGT, h0, h4, h12, h13]
      exact ⟨(acc ++ [92] ++ [x], k + 1), ⟨rfl, by simp only; omega, by simp; omega, hb4, hk4.ext (hk3.ext hE), hq⟩, by simp only; omega⟩
    · simp only [e1] at hq
      by_cases c2 : c.toNat < 32
      · have i2 : (c.toNat : Int) < 32 := by omega
        rw [if_pos (.inl c2)] at hq
        simp -dsimp (disch := first | omega | (refine DrawYes.mk ?_; kernel_rfl) | fail) only [go_sem, ↓reduceIte, reduceCtorEq, Nat.reduceEqDiff, Nat.reduceAdd, Nat.reduceLeDiff, Int.reduceLE, Int.reduceLT, Int.reduceBEq, Int.reduceBNe, Int.reduceEq, Nat.reduceBEq, Int.reduceToNat, Nat.reduceLT, Nat.reduceGT, Nat.reduceSub, Nat.reduceMul, Int.reduceAdd, Int.reduceSub, Int.reduceNeg, Int.reduceGE, Int.reduceGT, h0, h4, h12, h13, i0, hg, indexByte_eq, e2, i2]
        repeat refine And.intro (by omega) ?_
        exact ⟨by rw [← hq]; rfl, hE⟩
      have i2 : ¬ (c.toNat : Int) < 32 := by omega
      by_cases c3 : 126 < c.toNat
      · have i3 : 126 < (c.toNat : Int) := by omega
        rw [if_pos (.inr c3)] at hq
        simp -dsimp (disch := first | omega | (refine DrawYes.mk ?_; kernel_rfl) | fail) only [go_sem, ↓reduceIte, reduceCtorEq, Nat.reduceEqDiff, Nat.reduceAdd, Nat.reduceLeDiff, Int.reduceLE, Int.reduceLT, Int.reduceBEq, Int.reduceBNe, Int.reduceEq, Nat.reduceBEq, Int.reduceToNat, Nat.reduceLT, Nat.reduceGT, Nat.reduceSub, Nat.reduceMul, Int.reduceAdd, Int.reduceSub, Int.reduceNeg, Int.reduceGE, Int.reduceGT, h0, h4, h12, h13, i0, hg, indexByte_eq, e2, i2, i3]
        repeat refine And.intro (by omega) ?_
        exact ⟨by rw [← hq]; rfl, hE⟩
      have i3 : ¬ 126 < (c.toNat : Int) := by omega
      rw [if_neg (by omega)] at hq
      simp -dsimp (disch := first | omega | (refine DrawYes.mk ?_; kernel_rfl) | fail) only [go_sem, ↓reduceIte, reduceCtorEq, Nat.reduceEqDiff, Nat.reduceAdd, Nat.reduceLeDiff, Int.reduceLE, Int.reduceLT, Int.reduceBEq, Int.reduceBNe, Int.reduceEq, Nat.reduceBEq, Int.reduceToNat, Nat.reduceLT, Nat.reduceGT, Nat.reduceSub, Nat.reduceMul, Int.reduceAdd, Int.reduceSub, Int.reduceNeg, Int.reduceGE, Int.reduceGT, h0, h4, h12, h13, i0, hg, indexByte_eq, e2, i2, i3]
      repeat refine And.intro (by omega) ?_
      refine call (writeByte_ok hb (by omega)) ?_
      rintro _ H3 ⟨hb3, hk3⟩
      simp -dsimp (disch := first | omega | (refine DrawYes.mk ?_; kernel_rfl) | fail) only [go_sem, ↓reduceIte, reduceCtorEq, Nat.reduceEqDiff, Nat.reduceAdd, Nat.reduceLeDiff, Int.reduceLE, Int.reduceLT, Int.reduceBEq, Int.reduceBNe, Int.reduceEq, Nat.reduceBEq, Int.reduceToNat, Nat.reduceLT, Nat.reduceGT, Nat.reduceSub, Nat.reduceMul, Int.reduceAdd, Int.reduceSub, Int.reduceNeg, Int.reduceGE, Int.reduceGT, h0, h4, h12, h13]
      exact ⟨(acc ++ [c], k + 1), ⟨rfl, by simp only; omega, by simp; omega, hb3, hk3.ext hE, hq⟩, by simp only; omega⟩
  · have i0 : ¬ (k : Int) < s.length := by omega
    rw [List.drop_of_length_le (by omega), qz] at hq
    simp -dsimp (disch := first | omega | (refine DrawYes.mk ?_; kernel_rfl) | fail) only [go_sem, ↓reduceIte, reduceCtorEq, Nat.reduceEqDiff, Nat.reduceAdd, Nat.reduceLeDiff, Int.reduceLE, Int.reduceLT, Int.reduceBEq, Int.reduceBNe, Int.reduceEq, Nat.reduceBEq, Int.reduceToNat, Nat.reduceLT, Nat.reduceGT, Nat.reduceSub, Nat.reduceMul, Int.reduceAdd, Int.reduceSub, Int.reduceNeg, Int.reduceGE, Int.reduceGT, h0, h4, h12, h13, i0]
    refine call (bstring_ok hb (by omega)) ?_
    rintro _ _ ⟨rfl, rfl⟩
    simp -dsimp (disch := first | omega | (refine DrawYes.mk ?_; kernel_rfl) | fail) only [go_sem, ↓reduceIte, reduceCtorEq, Nat.reduceEqDiff, Nat.reduceAdd, Nat.reduceLeDiff, Int.reduceLE, Int.reduceLT, Int.reduceBEq, Int.reduceBNe, Int.reduceEq, Nat.reduceBEq, Int.reduceToNat, Nat.reduceLT, Nat.reduceGT, Nat.reduceSub, Nat.reduceMul, Int.reduceAdd, Int.reduceSub, Int.reduceNeg, Int.reduceGE, Int.reduceGT, h0, h4]
    rw [← hq]
    exact ⟨by omega, rfl, hE⟩
end Go.Proofs.Ytdlcfkhpcppejaa.D
