import Derived.Test.YtcknfhhbijlobaaDoorPar3
namespace Go.Proofs.YtcknfhhbijlobaaDoor.D
open Go
set_option linter.unusedVariables false
set_option linter.unusedSimpArgs false
set_option maxRecDepth 100000
set_option maxHeartbeats 1000000

theorem pmust_ok {p id off : Nat} {k : Tok} {ts : List Tok} {a b c d e f : DV} {no : Nat} {part : List UInt8} {H : DH} (hp : p < H.next) (hl : ts.length < 100000) (hd : ∀ H', lenD cfg.T H' 47 d = some (.int .i64 no)) (hm : H.m p = some (.cells PT [.sl id 3 off ((k :: ts).map Tok.dv), a, b, c, d, e, f])) :
    WC cfg 34 [.ptr p 0, .str part] H fun v H' => Frm [p] H H' ∧
      ((mustE part no k = 0 ∧ v = .tup [.str k.text, .bool true] ∧ H'.m p = some (.cells PT [.sl id 3 (off + 1) (ts.map Tok.dv), a, b, c, d, e, f])) ∨
       (mustE part no k ≠ 0 ∧ v = .tup [.str [], .bool false] ∧ H'.m p = some (.cells PT [.sl id 3 off ((k :: ts).map Tok.dv), a, b, c, d, .int .i64 k.pos, .int .i64 (mustE part no k)]))) := by
  refine WC_of (show Has cfg 34 61 [.tmp 4, .tmp 5] _ from ⟨by kernel_rfl, Tryd.f34, Tryd.func34, rfl, rfl, rfl, by kernel_rfl⟩) (by simp) ?_
  simp -dsimp (disch := first | omega | (refine DrawYes.mk ?_; decide +kernel) | fail) only [go_sem, ↓reduceIte, reduceCtorEq, Nat.reduceEqDiff, Nat.reduceAdd, Nat.reduceLeDiff, Int.reduceLE, Int.reduceLT, Int.reduceBEq, Int.reduceBNe, Int.reduceEq, Nat.reduceBEq, Int.reduceToNat, Nat.reduceLT, Nat.reduceGT, Nat.reduceSub, Nat.reduceMul, Int.reduceAdd, Int.reduceSub, Int.reduceNeg, Int.reduceGE, Int.reduceGT]
  refine call (pnext_ok hp hm) ?_
  rintro _ H1 ⟨rfl, hE⟩
  have hm1 := hE.get hp hm
  have hle := hE.le
  have h0 : ¬ p = H1.next := by omega
  have h1 : ¬ p = H1.next + 1 := by omega
  have hF0 : ∀ o o', Frm [p] H ((H1.new o).set H1.next o') := fun o o' => ((Frm.ext hE).new).set (.inr hle)
  have kz : ∀ n : Nat, ((k.kind : Int) == n) = decide (k.kind = n) := fun n => by rw [Bool.eq_iff_iff]; simp; omega
  by_cases q1 : part = [110]
  · subst q1
    simp -dsimp (disch := first | omega | (refine DrawYes.mk ?_; decide +kernel) | fail) only [go_sem, ↓reduceIte, reduceCtorEq, Nat.reduceEqDiff, Nat.reduceAdd, Nat.reduceLeDiff, Int.reduceLE, Int.reduceLT, Int.reduceBEq, Int.reduceBNe, Int.reduceEq, Nat.reduceBEq, Int.reduceToNat, Nat.reduceLT, Nat.reduceGT, Nat.reduceSub, Nat.reduceMul, Int.reduceAdd, Int.reduceSub, Int.reduceNeg, Int.reduceGE, Int.reduceGT, hm1, Tok.dv, h0, hd, List.map_cons]
    have hM : mustE [110] no k = if k.kind = 1 ∧ (([] : List (List UInt8)) = [] ∨ k.text ∈ ([] : List (List UInt8))) then 0 else 20 := by
      simp [mustE]
    refine call (pis_ok (id := id) (off := off) (a := a) (b := b) (c := c) (d := d) (e := e) (f := f) (ss := []) (k := k) (ts := ts) (by simp only [new_next, set_next]; omega) hl (by first | decide | simp) (.inl ⟨rfl, rfl⟩) (by simp only [new_m, set_m, new_next, set_next, if_neg h0, hm1])) ?_
    rintro _ H2 ⟨rfl, hF2, hm2⟩
    have hle2 := hF2.le
    simp only [new_next, set_next] at hle2
    have hc2 : H2.m H1.next = some (.cells 52 [.int .i64 k.kind, .str k.text, .int .i64 k.pos]) := hF2.get (by simp only [new_next, set_next]; omega) (by simp; omega) (by simp [new_m, set_m, new_next, set_next])
    have hF1 : Frm [p] H H2 := Frm.trans ((hF0 _ _)) hF2
    rw [hM]
    by_cases hc : k.kind = 1 ∧ (([] : List (List UInt8)) = [] ∨ k.text ∈ ([] : List (List UInt8)))
    · rw [if_pos hc] at hm2 ⊢
      have hcd : decide (k.kind = 1 ∧ (([] : List (List UInt8)) = [] ∨ k.text ∈ ([] : List (List UInt8)))) = true := by simpa using hc
      rw [hcd]
      simp -dsimp (disch := first | omega | (refine DrawYes.mk ?_; decide +kernel) | fail) only [go_sem, ↓reduceIte, reduceCtorEq, Nat.reduceEqDiff, Nat.reduceAdd, Nat.reduceLeDiff, Int.reduceLE, Int.reduceLT, Int.reduceBEq, Int.reduceBNe, Int.reduceEq, Nat.reduceBEq, Int.reduceToNat, Nat.reduceLT, Nat.reduceGT, Nat.reduceSub, Nat.reduceMul, Int.reduceAdd, Int.reduceSub, Int.reduceNeg, Int.reduceGE, Int.reduceGT, hc2, hm2]
      first | exact hF1 | exact ⟨hF1, by simp⟩ | exact ⟨hF1, .inl ⟨rfl, rfl, rfl⟩⟩
    · rw [if_neg hc] at hm2 ⊢
      have hcd : decide (k.kind = 1 ∧ (([] : List (List UInt8)) = [] ∨ k.text ∈ ([] : List (List UInt8)))) = false := by simpa using hc
      rw [hcd]
      simp -dsimp (disch := first | omega | (refine DrawYes.mk ?_; decide +kernel) | fail) only [go_sem, ↓reduceIte, reduceCtorEq, Nat.reduceEqDiff, Nat.reduceAdd, Nat.reduceLeDiff, Int.reduceLE, Int.reduceLT, Int.reduceBEq, Int.reduceBNe, Int.reduceEq, Nat.reduceBEq, Int.reduceToNat, Nat.reduceLT, Nat.reduceGT, Nat.reduceSub, Nat.reduceMul, Int.reduceAdd, Int.reduceSub, Int.reduceNeg, Int.reduceGE, Int.reduceGT, hc2, hm2]
      refine call (pfail_ok (er := 20) (by omega) hm2) ?_
      rintro _ H3 ⟨rfl, hF3, hm3⟩
      simp -dsimp (disch := first | omega | (refine DrawYes.mk ?_; decide +kernel) | fail) only [go_sem, ↓reduceIte, reduceCtorEq, Nat.reduceEqDiff, Nat.reduceAdd, Nat.reduceLeDiff, Int.reduceLE, Int.reduceLT, Int.reduceBEq, Int.reduceBNe, Int.reduceEq, Nat.reduceBEq, Int.reduceToNat, Nat.reduceLT, Nat.reduceGT, Nat.reduceSub, Nat.reduceMul, Int.reduceAdd, Int.reduceSub, Int.reduceNeg, Int.reduceGE, Int.reduceGT, hm3]
      first | exact hF1.trans hF3 | exact ⟨hF1.trans hF3, by simp⟩ | exact ⟨hF1.trans hF3, .inr ⟨by decide, rfl, rfl⟩⟩
  by_cases q2 : part = [119]
  · subst q2
    simp -dsimp (disch := first | omega | (refine DrawYes.mk ?_; decide +kernel) | fail) only [go_sem, ↓reduceIte, reduceCtorEq, Nat.reduceEqDiff, Nat.reduceAdd, Nat.reduceLeDiff, Int.reduceLE, Int.reduceLT, Int.reduceBEq, Int.reduceBNe, Int.reduceEq, Nat.reduceBEq, Int.reduceToNat, Nat.reduceLT, Nat.reduceGT, Nat.reduceSub, Nat.reduceMul, Int.reduceAdd, Int.reduceSub, Int.reduceNeg, Int.reduceGE, Int.reduceGT, hm1, Tok.dv, h0, hd, List.map_cons, (by decide : (([119] : List UInt8) == [110]) = false)]
    have hM : mustE [119] no k = if k.kind = 1 ∧ ((wordsW : List (List UInt8)) = [] ∨ k.text ∈ (wordsW : List (List UInt8))) then 0 else 20 := by
      simp [mustE, wordsW]
    refine call (pis_ok (id := id) (off := off) (a := a) (b := b) (c := c) (d := d) (e := e) (f := f) (ss := wordsW) (k := k) (ts := ts) (by simp only [new_next, set_next]; omega) hl (by first | decide | simp) (.inr ⟨by decide, _, _, rfl⟩) (by simp only [new_m, set_m, new_next, set_next, if_neg h0, if_neg h1, hm1])) ?_
    rintro _ H2 ⟨rfl, hF2, hm2⟩
    have hle2 := hF2.le
    simp only [new_next, set_next] at hle2
    have hc2 : H2.m H1.next = some (.cells 52 [.int .i64 k.kind, .str k.text, .int .i64 k.pos]) := hF2.get (by simp only [new_next, set_next]; omega) (by simp; omega) (by simp [new_m, set_m, new_next, set_next])
    have hF1 : Frm [p] H H2 := Frm.trans (((hF0 _ _).new)) hF2
    rw [hM]
    by_cases hc : k.kind = 1 ∧ ((wordsW : List (List UInt8)) = [] ∨ k.text ∈ (wordsW : List (List UInt8)))
    · rw [if_pos hc] at hm2 ⊢
      have hcd : decide (k.kind = 1 ∧ ((wordsW : List (List UInt8)) = [] ∨ k.text ∈ (wordsW : List (List UInt8)))) = true := by simpa using hc
      rw [hcd]
      simp -dsimp (disch := first | omega | (refine DrawYes.mk ?_; decide +kernel) | fail) only [go_sem, ↓reduceIte, reduceCtorEq, Nat.reduceEqDiff, Nat.reduceAdd, Nat.reduceLeDiff, Int.reduceLE, Int.reduceLT, Int.reduceBEq, Int.reduceBNe, Int.reduceEq, Nat.reduceBEq, Int.reduceToNat, Nat.reduceLT, Nat.reduceGT, Nat.reduceSub, Nat.reduceMul, Int.reduceAdd, Int.reduceSub, Int.reduceNeg, Int.reduceGE, Int.reduceGT, hc2, hm2]
      first | exact hF1 | exact ⟨hF1, by simp⟩ | exact ⟨hF1, .inl ⟨rfl, rfl, rfl⟩⟩
    · rw [if_neg hc] at hm2 ⊢
      have hcd : decide (k.kind = 1 ∧ ((wordsW : List (List UInt8)) = [] ∨ k.text ∈ (wordsW : List (List UInt8)))) = false := by simpa using hc
      rw [hcd]
      simp -dsimp (disch := first | omega | (refine DrawYes.mk ?_; decide +kernel) | fail) only [go_sem, ↓reduceIte, reduceCtorEq, Nat.reduceEqDiff, Nat.reduceAdd, Nat.reduceLeDiff, Int.reduceLE, Int.reduceLT, Int.reduceBEq, Int.reduceBNe, Int.reduceEq, Nat.reduceBEq, Int.reduceToNat, Nat.reduceLT, Nat.reduceGT, Nat.reduceSub, Nat.reduceMul, Int.reduceAdd, Int.reduceSub, Int.reduceNeg, Int.reduceGE, Int.reduceGT, hc2, hm2]
      refine call (pfail_ok (er := 20) (by omega) hm2) ?_
      rintro _ H3 ⟨rfl, hF3, hm3⟩
      simp -dsimp (disch := first | omega | (refine DrawYes.mk ?_; decide +kernel) | fail) only [go_sem, ↓reduceIte, reduceCtorEq, Nat.reduceEqDiff, Nat.reduceAdd, Nat.reduceLeDiff, Int.reduceLE, Int.reduceLT, Int.reduceBEq, Int.reduceBNe, Int.reduceEq, Nat.reduceBEq, Int.reduceToNat, Nat.reduceLT, Nat.reduceGT, Nat.reduceSub, Nat.reduceMul, Int.reduceAdd, Int.reduceSub, Int.reduceNeg, Int.reduceGE, Int.reduceGT, hm3]
      first | exact hF1.trans hF3 | exact ⟨hF1.trans hF3, by simp⟩ | exact ⟨hF1.trans hF3, .inr ⟨by decide, rfl, rfl⟩⟩
  by_cases q3 : part = [116]
  · subst q3
    simp -dsimp (disch := first | omega | (refine DrawYes.mk ?_; decide +kernel) | fail) only [go_sem, ↓reduceIte, reduceCtorEq, Nat.reduceEqDiff, Nat.reduceAdd, Nat.reduceLeDiff, Int.reduceLE, Int.reduceLT, Int.reduceBEq, Int.reduceBNe, Int.reduceEq, Nat.reduceBEq, Int.reduceToNat, Nat.reduceLT, Nat.reduceGT, Nat.reduceSub, Nat.reduceMul, Int.reduceAdd, Int.reduceSub, Int.reduceNeg, Int.reduceGE, Int.reduceGT, hm1, Tok.dv, h0, hd, List.map_cons, (by decide : (([116] : List UInt8) == [110]) = false), (by decide : (([116] : List UInt8) == [119]) = false)]
    have hM : mustE [116] no k = if k.kind = 3 ∧ (([] : List (List UInt8)) = [] ∨ k.text ∈ ([] : List (List UInt8))) then 0 else 20 := by
      simp [mustE]
    refine call (pis_ok (id := id) (off := off) (a := a) (b := b) (c := c) (d := d) (e := e) (f := f) (ss := []) (k := k) (ts := ts) (by simp only [new_next, set_next]; omega) hl (by first | decide | simp) (.inl ⟨rfl, rfl⟩) (by simp only [new_m, set_m, new_next, set_next, if_neg h0, hm1])) ?_
    rintro _ H2 ⟨rfl, hF2, hm2⟩
    have hle2 := hF2.le
    simp only [new_next, set_next] at hle2
    have hc2 : H2.m H1.next = some (.cells 52 [.int .i64 k.kind, .str k.text, .int .i64 k.pos]) := hF2.get (by simp only [new_next, set_next]; omega) (by simp; omega) (by simp [new_m, set_m, new_next, set_next])
    have hF1 : Frm [p] H H2 := Frm.trans ((hF0 _ _)) hF2
    rw [hM]
    by_cases hc : k.kind = 3 ∧ (([] : List (List UInt8)) = [] ∨ k.text ∈ ([] : List (List UInt8)))
    · rw [if_pos hc] at hm2 ⊢
      have hcd : decide (k.kind = 3 ∧ (([] : List (List UInt8)) = [] ∨ k.text ∈ ([] : List (List UInt8)))) = true := by simpa using hc
      rw [hcd]
      simp -dsimp (disch := first | omega | (refine DrawYes.mk ?_; decide +kernel) | fail) only [go_sem, ↓reduceIte, reduceCtorEq, Nat.reduceEqDiff, Nat.reduceAdd, Nat.reduceLeDiff, Int.reduceLE, Int.reduceLT, Int.reduceBEq, Int.reduceBNe, Int.reduceEq, Nat.reduceBEq, Int.reduceToNat, Nat.reduceLT, Nat.reduceGT, Nat.reduceSub, Nat.reduceMul, Int.reduceAdd, Int.reduceSub, Int.reduceNeg, Int.reduceGE, Int.reduceGT, hc2, hm2]
      first | exact hF1 | exact ⟨hF1, by simp⟩ | exact ⟨hF1, .inl ⟨rfl, rfl, rfl⟩⟩
    · rw [if_neg hc] at hm2 ⊢
      have hcd : decide (k.kind = 3 ∧ (([] : List (List UInt8)) = [] ∨ k.text ∈ ([] : List (List UInt8)))) = false := by simpa using hc
      rw [hcd]
      simp -dsimp (disch := first | omega | (refine DrawYes.mk ?_; decide +kernel) | fail) only [go_sem, ↓reduceIte, reduceCtorEq, Nat.reduceEqDiff, Nat.reduceAdd, Nat.reduceLeDiff, Int.reduceLE, Int.reduceLT, Int.reduceBEq, Int.reduceBNe, Int.reduceEq, Nat.reduceBEq, Int.reduceToNat, Nat.reduceLT, Nat.reduceGT, Nat.reduceSub, Nat.reduceMul, Int.reduceAdd, Int.reduceSub, Int.reduceNeg, Int.reduceGE, Int.reduceGT, hc2, hm2]
      refine call (pfail_ok (er := 20) (by omega) hm2) ?_
      rintro _ H3 ⟨rfl, hF3, hm3⟩
      simp -dsimp (disch := first | omega | (refine DrawYes.mk ?_; decide +kernel) | fail) only [go_sem, ↓reduceIte, reduceCtorEq, Nat.reduceEqDiff, Nat.reduceAdd, Nat.reduceLeDiff, Int.reduceLE, Int.reduceLT, Int.reduceBEq, Int.reduceBNe, Int.reduceEq, Nat.reduceBEq, Int.reduceToNat, Nat.reduceLT, Nat.reduceGT, Nat.reduceSub, Nat.reduceMul, Int.reduceAdd, Int.reduceSub, Int.reduceNeg, Int.reduceGE, Int.reduceGT, hm3]
      first | exact hF1.trans hF3 | exact ⟨hF1.trans hF3, by simp⟩ | exact ⟨hF1.trans hF3, .inr ⟨by decide, rfl, rfl⟩⟩
  by_cases q4 : part = [105]
  · subst q4
    simp -dsimp (disch := first | omega | (refine DrawYes.mk ?_; decide +kernel) | fail) only [go_sem, ↓reduceIte, reduceCtorEq, Nat.reduceEqDiff, Nat.reduceAdd, Nat.reduceLeDiff, Int.reduceLE, Int.reduceLT, Int.reduceBEq, Int.reduceBNe, Int.reduceEq, Nat.reduceBEq, Int.reduceToNat, Nat.reduceLT, Nat.reduceGT, Nat.reduceSub, Nat.reduceMul, Int.reduceAdd, Int.reduceSub, Int.reduceNeg, Int.reduceGE, Int.reduceGT, hm1, Tok.dv, h0, hd, List.map_cons, (by decide : (([105] : List UInt8) == [110]) = false), (by decide : (([105] : List UInt8) == [119]) = false), (by decide : (([105] : List UInt8) == [116]) = false)]
    have hM : mustE [105] no k = if k.kind = 2 ∧ (([] : List (List UInt8)) = [] ∨ k.text ∈ ([] : List (List UInt8))) then 0 else 20 := by
      simp [mustE]
    refine call (pis_ok (id := id) (off := off) (a := a) (b := b) (c := c) (d := d) (e := e) (f := f) (ss := []) (k := k) (ts := ts) (by simp only [new_next, set_next]; omega) hl (by first | decide | simp) (.inl ⟨rfl, rfl⟩) (by simp only [new_m, set_m, new_next, set_next, if_neg h0, hm1])) ?_
    rintro _ H2 ⟨rfl, hF2, hm2⟩
    have hle2 := hF2.le
    simp only [new_next, set_next] at hle2
    have hc2 : H2.m H1.next = some (.cells 52 [.int .i64 k.kind, .str k.text, .int .i64 k.pos]) := hF2.get (by simp only [new_next, set_next]; omega) (by simp; omega) (by simp [new_m, set_m, new_next, set_next])
    have hF1 : Frm [p] H H2 := Frm.trans ((hF0 _ _)) hF2
    rw [hM]
    by_cases hc : k.kind = 2 ∧ (([] : List (List UInt8)) = [] ∨ k.text ∈ ([] : List (List UInt8)))
    · rw [if_pos hc] at hm2 ⊢
      have hcd : decide (k.kind = 2 ∧ (([] : List (List UInt8)) = [] ∨ k.text ∈ ([] : List (List UInt8)))) = true := by simpa using hc
      rw [hcd]
      simp -dsimp (disch := first | omega | (refine DrawYes.mk ?_; decide +kernel) | fail) only [go_sem, ↓reduceIte, reduceCtorEq, Nat.reduceEqDiff, Nat.reduceAdd, Nat.reduceLeDiff, Int.reduceLE, Int.reduceLT, Int.reduceBEq, Int.reduceBNe, Int.reduceEq, Nat.reduceBEq, Int.reduceToNat, Nat.reduceLT, Nat.reduceGT, Nat.reduceSub, Nat.reduceMul, Int.reduceAdd, Int.reduceSub, Int.reduceNeg, Int.reduceGE, Int.reduceGT, hc2, hm2]
      first | exact hF1 | exact ⟨hF1, by simp⟩ | exact ⟨hF1, .inl ⟨rfl, rfl, rfl⟩⟩
    · rw [if_neg hc] at hm2 ⊢
      have hcd : decide (k.kind = 2 ∧ (([] : List (List UInt8)) = [] ∨ k.text ∈ ([] : List (List UInt8)))) = false := by simpa using hc
      rw [hcd]
      simp -dsimp (disch := first | omega | (refine DrawYes.mk ?_; decide +kernel) | fail) only [go_sem, ↓reduceIte, reduceCtorEq, Nat.reduceEqDiff, Nat.reduceAdd, Nat.reduceLeDiff, Int.reduceLE, Int.reduceLT, Int.reduceBEq, Int.reduceBNe, Int.reduceEq, Nat.reduceBEq, Int.reduceToNat, Nat.reduceLT, Nat.reduceGT, Nat.reduceSub, Nat.reduceMul, Int.reduceAdd, Int.reduceSub, Int.reduceNeg, Int.reduceGE, Int.reduceGT, hc2, hm2]
      refine call (pfail_ok (er := 20) (by omega) hm2) ?_
      rintro _ H3 ⟨rfl, hF3, hm3⟩
      simp -dsimp (disch := first | omega | (refine DrawYes.mk ?_; decide +kernel) | fail) only [go_sem, ↓reduceIte, reduceCtorEq, Nat.reduceEqDiff, Nat.reduceAdd, Nat.reduceLeDiff, Int.reduceLE, Int.reduceLT, Int.reduceBEq, Int.reduceBNe, Int.reduceEq, Nat.reduceBEq, Int.reduceToNat, Nat.reduceLT, Nat.reduceGT, Nat.reduceSub, Nat.reduceMul, Int.reduceAdd, Int.reduceSub, Int.reduceNeg, Int.reduceGE, Int.reduceGT, hm3]
      first | exact hF1.trans hF3 | exact ⟨hF1.trans hF3, by simp⟩ | exact ⟨hF1.trans hF3, .inr ⟨by decide, rfl, rfl⟩⟩
  have j1 : (part == [110]) = false := beq_eq_false_iff_ne.2 q1
  have j2 : (part == [119]) = false := beq_eq_false_iff_ne.2 q2
  have j3 : (part == [116]) = false := beq_eq_false_iff_ne.2 q3
  have j4 : (part == [105]) = false := beq_eq_false_iff_ne.2 q4
  by_cases q5 : part = [123] ∧ 8 ≤ no ∧ k.kind = 4 ∧ k.text = part
  · have hM : mustE part no k = 21 := by unfold mustE; rw [if_neg q1, if_neg q2, if_neg q3, if_neg q4, if_pos q5]
    have j5 : (part == [123]) = true := by simpa using q5.1
    have j6 : (8 : Int) ≤ no := by omega
    have j7 : ((k.kind : Int) == 4) = true := by simp; omega
    have j8 : (k.text == part) = true := by simpa using q5.2.2.2
    simp -dsimp (disch := first | omega | (refine DrawYes.mk ?_; decide +kernel) | fail) only [go_sem, ↓reduceIte, reduceCtorEq, Nat.reduceEqDiff, Nat.reduceAdd, Nat.reduceLeDiff, Int.reduceLE, Int.reduceLT, Int.reduceBEq, Int.reduceBNe, Int.reduceEq, Nat.reduceBEq, Int.reduceToNat, Nat.reduceLT, Nat.reduceGT, Nat.reduceSub, Nat.reduceMul, Int.reduceAdd, Int.reduceSub, Int.reduceNeg, Int.reduceGE, Int.reduceGT, hm1, Tok.dv, h0, hd, List.map_cons, j1, j2, j3, j4, j5, j6, j7, j8]
    refine call (pfail_ok (id := id) (off := off) (a := a) (b := b) (c := c) (d := d) (e := e) (f := f) (er := 21) (k := k) (ts := ts) (by simp only [new_next, set_next]; omega) (by simp only [new_m, set_m, new_next, set_next, if_neg h0, hm1])) ?_
    rintro _ H3 ⟨rfl, hF3, hm3⟩
    simp -dsimp (disch := first | omega | (refine DrawYes.mk ?_; decide +kernel) | fail) only [go_sem, ↓reduceIte, reduceCtorEq, Nat.reduceEqDiff, Nat.reduceAdd, Nat.reduceLeDiff, Int.reduceLE, Int.reduceLT, Int.reduceBEq, Int.reduceBNe, Int.reduceEq, Nat.reduceBEq, Int.reduceToNat, Nat.reduceLT, Nat.reduceGT, Nat.reduceSub, Nat.reduceMul, Int.reduceAdd, Int.reduceSub, Int.reduceNeg, Int.reduceGE, Int.reduceGT, hm3]
    exact ⟨(hF0 _ _).trans hF3, .inr ⟨by rw [hM]; decide, by rw [hM]; rfl⟩⟩
  have hM5 : mustE part no k = if k.kind = 4 ∧ ([part] = [] ∨ k.text ∈ [part]) then 0 else 20 := by
    unfold mustE; rw [if_neg q1, if_neg q2, if_neg q3, if_neg q4, if_neg q5]; simp
  have key : ∀ P : Prop, ((part = [123] → 8 ≤ no → k.kind = 4 → ¬ k.text = part → P) ∧ (part = [123] → 8 ≤ no → ¬ k.kind = 4 → P) ∧ (part = [123] → ¬ 8 ≤ no → P) ∧ (¬ part = [123] → P)) → P := by
    rintro P ⟨h1, h2, h3, h4⟩
    by_cases a1 : part = [123]
    · by_cases a2 : 8 ≤ no
      · by_cases a3 : k.kind = 4
        · exact h1 a1 a2 a3 fun a4 => q5 ⟨a1, a2, a3, a4⟩
        · exact h2 a1 a2 a3
      · exact h3 a1 a2
    · exact h4 a1
  refine key _ ⟨fun a1 a2 a3 a4 => ?_, fun a1 a2 a3 => ?_, fun a1 a2 => ?_, fun a1 => ?_⟩
  · have j5 : (part == [123]) = true := by simpa using a1
    have j6 : (8 : Int) ≤ no := by omega
    have j7 : ((k.kind : Int) == 4) = true := by simp; omega
    have j8 : (k.text == part) = false := beq_eq_false_iff_ne.2 a4
    simp -dsimp (disch := first | omega | (refine DrawYes.mk ?_; decide +kernel) | fail) only [go_sem, ↓reduceIte, reduceCtorEq, Nat.reduceEqDiff, Nat.reduceAdd, Nat.reduceLeDiff, Int.reduceLE, Int.reduceLT, Int.reduceBEq, Int.reduceBNe, Int.reduceEq, Nat.reduceBEq, Int.reduceToNat, Nat.reduceLT, Nat.reduceGT, Nat.reduceSub, Nat.reduceMul, Int.reduceAdd, Int.reduceSub, Int.reduceNeg, Int.reduceGE, Int.reduceGT, hm1, Tok.dv, h0, hd, List.map_cons, j1, j2, j3, j4, j5, j6, j7, j8]

    have hM : mustE part no k = if k.kind = 4 ∧ (([part] : List (List UInt8)) = [] ∨ k.text ∈ ([part] : List (List UInt8))) then 0 else 20 := by
      exact hM5
    refine call (pis_ok (id := id) (off := off) (a := a) (b := b) (c := c) (d := d) (e := e) (f := f) (ss := [part]) (k := k) (ts := ts) (by simp only [new_next, set_next]; omega) hl (by first | decide | simp) (.inr ⟨by simp, _, _, rfl⟩) (by simp only [new_m, set_m, new_next, set_next, if_neg h0, if_neg h1, hm1])) ?_
    rintro _ H2 ⟨rfl, hF2, hm2⟩
    have hle2 := hF2.le
    simp only [new_next, set_next] at hle2
    have hc2 : H2.m H1.next = some (.cells 52 [.int .i64 k.kind, .str k.text, .int .i64 k.pos]) := hF2.get (by simp only [new_next, set_next]; omega) (by simp; omega) (by simp [new_m, set_m, new_next, set_next])
    have hF1 : Frm [p] H H2 := Frm.trans (((hF0 _ _).new)) hF2
    rw [hM]
    by_cases hc : k.kind = 4 ∧ (([part] : List (List UInt8)) = [] ∨ k.text ∈ ([part] : List (List UInt8)))
    · rw [if_pos hc] at hm2 ⊢
      have hcd : decide (k.kind = 4 ∧ (([part] : List (List UInt8)) = [] ∨ k.text ∈ ([part] : List (List UInt8)))) = true := by simpa using hc
      rw [hcd]
      simp -dsimp (disch := first | omega | (refine DrawYes.mk ?_; decide +kernel) | fail) only [go_sem, ↓reduceIte, reduceCtorEq, Nat.reduceEqDiff, Nat.reduceAdd, Nat.reduceLeDiff, Int.reduceLE, Int.reduceLT, Int.reduceBEq, Int.reduceBNe, Int.reduceEq, Nat.reduceBEq, Int.reduceToNat, Nat.reduceLT, Nat.reduceGT, Nat.reduceSub, Nat.reduceMul, Int.reduceAdd, Int.reduceSub, Int.reduceNeg, Int.reduceGE, Int.reduceGT, hc2, hm2]
      first | exact hF1 | exact ⟨hF1, by simp⟩ | exact ⟨hF1, .inl ⟨rfl, rfl, rfl⟩⟩
    · rw [if_neg hc] at hm2 ⊢
      have hcd : decide (k.kind = 4 ∧ (([part] : List (List UInt8)) = [] ∨ k.text ∈ ([part] : List (List UInt8)))) = false := by simpa using hc
      rw [hcd]
      simp -dsimp (disch := first | omega | (refine DrawYes.mk ?_; decide +kernel) | fail) only [go_sem, ↓reduceIte, reduceCtorEq, Nat.reduceEqDiff, Nat.reduceAdd, Nat.reduceLeDiff, Int.reduceLE, Int.reduceLT, Int.reduceBEq, Int.reduceBNe, Int.reduceEq, Nat.reduceBEq, Int.reduceToNat, Nat.reduceLT, Nat.reduceGT, Nat.reduceSub, Nat.reduceMul, Int.reduceAdd, Int.reduceSub, Int.reduceNeg, Int.reduceGE, Int.reduceGT, hc2, hm2]
      refine call (pfail_ok (er := 20) (by omega) hm2) ?_
      rintro _ H3 ⟨rfl, hF3, hm3⟩
      simp -dsimp (disch := first | omega | (refine DrawYes.mk ?_; decide +kernel) | fail) only [go_sem, ↓reduceIte, reduceCtorEq, Nat.reduceEqDiff, Nat.reduceAdd, Nat.reduceLeDiff, Int.reduceLE, Int.reduceLT, Int.reduceBEq, Int.reduceBNe, Int.reduceEq, Nat.reduceBEq, Int.reduceToNat, Nat.reduceLT, Nat.reduceGT, Nat.reduceSub, Nat.reduceMul, Int.reduceAdd, Int.reduceSub, Int.reduceNeg, Int.reduceGE, Int.reduceGT, hm3]
      first | exact hF1.trans hF3 | exact ⟨hF1.trans hF3, by simp⟩ | exact ⟨hF1.trans hF3, .inr ⟨by decide, rfl, rfl⟩⟩
  · have j5 : (part == [123]) = true := by simpa using a1
    have j6 : (8 : Int) ≤ no := by omega
    have j7 : ((k.kind : Int) == 4) = false := by simp; omega
    simp -dsimp (disch := first | omega | (refine DrawYes.mk ?_; decide +kernel) | fail) only [go_sem, ↓reduceIte, reduceCtorEq, Nat.reduceEqDiff, Nat.reduceAdd, Nat.reduceLeDiff, Int.reduceLE, Int.reduceLT, Int.reduceBEq, Int.reduceBNe, Int.reduceEq, Nat.reduceBEq, Int.reduceToNat, Nat.reduceLT, Nat.reduceGT, Nat.reduceSub, Nat.reduceMul, Int.reduceAdd, Int.reduceSub, Int.reduceNeg, Int.reduceGE, Int.reduceGT, hm1, Tok.dv, h0, hd, List.map_cons, j1, j2, j3, j4, j5, j6, j7]

    have hM : mustE part no k = if k.kind = 4 ∧ (([part] : List (List UInt8)) = [] ∨ k.text ∈ ([part] : List (List UInt8))) then 0 else 20 := by
      exact hM5
    refine call (pis_ok (id := id) (off := off) (a := a) (b := b) (c := c) (d := d) (e := e) (f := f) (ss := [part]) (k := k) (ts := ts) (by simp only [new_next, set_next]; omega) hl (by first | decide | simp) (.inr ⟨by simp, _, _, rfl⟩) (by simp only [new_m, set_m, new_next, set_next, if_neg h0, if_neg h1, hm1])) ?_
    rintro _ H2 ⟨rfl, hF2, hm2⟩
    have hle2 := hF2.le
    simp only [new_next, set_next] at hle2
    have hc2 : H2.m H1.next = some (.cells 52 [.int .i64 k.kind, .str k.text, .int .i64 k.pos]) := hF2.get (by simp only [new_next, set_next]; omega) (by simp; omega) (by simp [new_m, set_m, new_next, set_next])
    have hF1 : Frm [p] H H2 := Frm.trans (((hF0 _ _).new)) hF2
    rw [hM]
    by_cases hc : k.kind = 4 ∧ (([part] : List (List UInt8)) = [] ∨ k.text ∈ ([part] : List (List UInt8)))
    · rw [if_pos hc] at hm2 ⊢
      have hcd : decide (k.kind = 4 ∧ (([part] : List (List UInt8)) = [] ∨ k.text ∈ ([part] : List (List UInt8)))) = true := by simpa using hc
      rw [hcd]
      simp -dsimp (disch := first | omega | (refine DrawYes.mk ?_; decide +kernel) | fail) only [go_sem, ↓reduceIte, reduceCtorEq, Nat.reduceEqDiff, Nat.reduceAdd, Nat.reduceLeDiff, Int.reduceLE, Int.reduceLT, Int.reduceBEq, Int.reduceBNe, Int.reduceEq, Nat.reduceBEq, Int.reduceToNat, Nat.reduceLT, Nat.reduceGT, Nat.reduceSub, Nat.reduceMul, Int.reduceAdd, Int.reduceSub, Int.reduceNeg, Int.reduceGE, Int.reduceGT, hc2, hm2]
      first | exact hF1 | exact ⟨hF1, by simp⟩ | exact ⟨hF1, .inl ⟨rfl, rfl, rfl⟩⟩
    · rw [if_neg hc] at hm2 ⊢
      have hcd : decide (k.kind = 4 ∧ (([part] : List (List UInt8)) = [] ∨ k.text ∈ ([part] : List (List UInt8)))) = false := by simpa using hc
      rw [hcd]
      simp -dsimp (disch := first | omega | (refine DrawYes.mk ?_; decide +kernel) | fail) only [go_sem, ↓reduceIte, reduceCtorEq, Nat.reduceEqDiff, Nat.reduceAdd, Nat.reduceLeDiff, Int.reduceLE, Int.reduceLT, Int.reduceBEq, Int.reduceBNe, Int.reduceEq, Nat.reduceBEq, Int.reduceToNat, Nat.reduceLT, Nat.reduceGT, Nat.reduceSub, Nat.reduceMul, Int.reduceAdd, Int.reduceSub, Int.reduceNeg, Int.reduceGE, Int.reduceGT, hc2, hm2]
      refine call (pfail_ok (er := 20) (by omega) hm2) ?_
      rintro _ H3 ⟨rfl, hF3, hm3⟩
      simp -dsimp (disch := first | omega | (refine DrawYes.mk ?_; decide +kernel) | fail) only [go_sem, ↓reduceIte, reduceCtorEq, Nat.reduceEqDiff, Nat.reduceAdd, Nat.reduceLeDiff, Int.reduceLE, Int.reduceLT, Int.reduceBEq, Int.reduceBNe, Int.reduceEq, Nat.reduceBEq, Int.reduceToNat, Nat.reduceLT, Nat.reduceGT, Nat.reduceSub, Nat.reduceMul, Int.reduceAdd, Int.reduceSub, Int.reduceNeg, Int.reduceGE, Int.reduceGT, hm3]
      first | exact hF1.trans hF3 | exact ⟨hF1.trans hF3, by simp⟩ | exact ⟨hF1.trans hF3, .inr ⟨by decide, rfl, rfl⟩⟩
  · have j5 : (part == [123]) = true := by simpa using a1
    have j6 : ¬ (8 : Int) ≤ no := by omega
    simp -dsimp (disch := first | omega | (refine DrawYes.mk ?_; decide +kernel) | fail) only [go_sem, ↓reduceIte, reduceCtorEq, Nat.reduceEqDiff, Nat.reduceAdd, Nat.reduceLeDiff, Int.reduceLE, Int.reduceLT, Int.reduceBEq, Int.reduceBNe, Int.reduceEq, Nat.reduceBEq, Int.reduceToNat, Nat.reduceLT, Nat.reduceGT, Nat.reduceSub, Nat.reduceMul, Int.reduceAdd, Int.reduceSub, Int.reduceNeg, Int.reduceGE, Int.reduceGT, hm1, Tok.dv, h0, hd, List.map_cons, j1, j2, j3, j4, j5, j6]

    have hM : mustE part no k = if k.kind = 4 ∧ (([part] : List (List UInt8)) = [] ∨ k.text ∈ ([part] : List (List UInt8))) then 0 else 20 := by
      exact hM5
    refine call (pis_ok (id := id) (off := off) (a := a) (b := b) (c := c) (d := d) (e := e) (f := f) (ss := [part]) (k := k) (ts := ts) (by simp only [new_next, set_next]; omega) hl (by first | decide | simp) (.inr ⟨by simp, _, _, rfl⟩) (by simp only [new_m, set_m, new_next, set_next, if_neg h0, if_neg h1, hm1])) ?_
    rintro _ H2 ⟨rfl, hF2, hm2⟩
    have hle2 := hF2.le
    simp only [new_next, set_next] at hle2
    have hc2 : H2.m H1.next = some (.cells 52 [.int .i64 k.kind, .str k.text, .int .i64 k.pos]) := hF2.get (by simp only [new_next, set_next]; omega) (by simp; omega) (by simp [new_m, set_m, new_next, set_next])
    have hF1 : Frm [p] H H2 := Frm.trans (((hF0 _ _).new)) hF2
    rw [hM]
    by_cases hc : k.kind = 4 ∧ (([part] : List (List UInt8)) = [] ∨ k.text ∈ ([part] : List (List UInt8)))
    · rw [if_pos hc] at hm2 ⊢
      have hcd : decide (k.kind = 4 ∧ (([part] : List (List UInt8)) = [] ∨ k.text ∈ ([part] : List (List UInt8)))) = true := by simpa using hc
      rw [hcd]
      simp -dsimp (disch := first | omega | (refine DrawYes.mk ?_; decide +kernel) | fail) only [go_sem, ↓reduceIte, reduceCtorEq, Nat.reduceEqDiff, Nat.reduceAdd, Nat.reduceLeDiff, Int.reduceLE, Int.reduceLT, Int.reduceBEq, Int.reduceBNe, Int.reduceEq, Nat.reduceBEq, Int.reduceToNat, Nat.reduceLT, Nat.reduceGT, Nat.reduceSub, Nat.reduceMul, Int.reduceAdd, Int.reduceSub, Int.reduceNeg, Int.reduceGE, Int.reduceGT, hc2, hm2]
      first | exact hF1 | exact ⟨hF1, by simp⟩ | exact ⟨hF1, .inl ⟨rfl, rfl, rfl⟩⟩
    · rw [if_neg hc] at hm2 ⊢
      have hcd : decide (k.kind = 4 ∧ (([part] : List (List UInt8)) = [] ∨ k.text ∈ ([part] : List (List UInt8)))) = false := by simpa using hc
      rw [hcd]
      simp -dsimp (disch := first | omega | (refine DrawYes.mk ?_; decide +kernel) | fail) only [go_sem, ↓reduceIte, reduceCtorEq, Nat.reduceEqDiff, Nat.reduceAdd, Nat.reduceLeDiff, Int.reduceLE, Int.reduceLT, Int.reduceBEq, Int.reduceBNe, Int.reduceEq, Nat.reduceBEq, Int.reduceToNat, Nat.reduceLT, Nat.reduceGT, Nat.reduceSub, Nat.reduceMul, Int.reduceAdd, Int.reduceSub, Int.reduceNeg, Int.reduceGE, Int.reduceGT, hc2, hm2]
      refine call (pfail_ok (er := 20) (by omega) hm2) ?_
      rintro _ H3 ⟨rfl, hF3, hm3⟩
      simp -dsimp (disch := first | omega | (refine DrawYes.mk ?_; decide +kernel) | fail) only [go_sem, ↓reduceIte, reduceCtorEq, Nat.reduceEqDiff, Nat.reduceAdd, Nat.reduceLeDiff, Int.reduceLE, Int.reduceLT, Int.reduceBEq, Int.reduceBNe, Int.reduceEq, Nat.reduceBEq, Int.reduceToNat, Nat.reduceLT, Nat.reduceGT, Nat.reduceSub, Nat.reduceMul, Int.reduceAdd, Int.reduceSub, Int.reduceNeg, Int.reduceGE, Int.reduceGT, hm3]
      first | exact hF1.trans hF3 | exact ⟨hF1.trans hF3, by simp⟩ | exact ⟨hF1.trans hF3, .inr ⟨by decide, rfl, rfl⟩⟩
  · have j5 : (part == [123]) = false := beq_eq_false_iff_ne.2 a1
    simp -dsimp (disch := first | omega | (refine DrawYes.mk ?_; decide +kernel) | fail) only [go_sem, ↓reduceIte, reduceCtorEq, Nat.reduceEqDiff, Nat.reduceAdd, Nat.reduceLeDiff, Int.reduceLE, Int.reduceLT, Int.reduceBEq, Int.reduceBNe, Int.reduceEq, Nat.reduceBEq, Int.reduceToNat, Nat.reduceLT, Nat.reduceGT, Nat.reduceSub, Nat.reduceMul, Int.reduceAdd, Int.reduceSub, Int.reduceNeg, Int.reduceGE, Int.reduceGT, hm1, Tok.dv, h0, hd, List.map_cons, j1, j2, j3, j4, j5]

    have hM : mustE part no k = if k.kind = 4 ∧ (([part] : List (List UInt8)) = [] ∨ k.text ∈ ([part] : List (List UInt8))) then 0 else 20 := by
      exact hM5
    refine call (pis_ok (id := id) (off := off) (a := a) (b := b) (c := c) (d := d) (e := e) (f := f) (ss := [part]) (k := k) (ts := ts) (by simp only [new_next, set_next]; omega) hl (by first | decide | simp) (.inr ⟨by simp, _, _, rfl⟩) (by simp only [new_m, set_m, new_next, set_next, if_neg h0, if_neg h1, hm1])) ?_
    rintro _ H2 ⟨rfl, hF2, hm2⟩
    have hle2 := hF2.le
    simp only [new_next, set_next] at hle2
    have hc2 : H2.m H1.next = some (.cells 52 [.int .i64 k.kind, .str k.text, .int .i64 k.pos]) := hF2.get (by simp only [new_next, set_next]; omega) (by simp; omega) (by simp [new_m, set_m, new_next, set_next])
    have hF1 : Frm [p] H H2 := Frm.trans (((hF0 _ _).new)) hF2
    rw [hM]
    by_cases hc : k.kind = 4 ∧ (([part] : List (List UInt8)) = [] ∨ k.text ∈ ([part] : List (List UInt8)))
    · rw [if_pos hc] at hm2 ⊢
      have hcd : decide (k.kind = 4 ∧ (([part] : List (List UInt8)) = [] ∨ k.text ∈ ([part] : List (List UInt8)))) = true := by simpa using hc
      rw [hcd]
      simp -dsimp (disch := first | omega | (refine DrawYes.mk ?_; decide +kernel) | fail) only [go_sem, ↓reduceIte, reduceCtorEq, Nat.reduceEqDiff, Nat.reduceAdd, Nat.reduceLeDiff, Int.reduceLE, Int.reduceLT, Int.reduceBEq, Int.reduceBNe, Int.reduceEq, Nat.reduceBEq, Int.reduceToNat, Nat.reduceLT, Nat.reduceGT, Nat.reduceSub, Nat.reduceMul, Int.reduceAdd, Int.reduceSub, Int.reduceNeg, Int.reduceGE, Int.reduceGT, hc2, hm2]
      first | exact hF1 | exact ⟨hF1, by simp⟩ | exact ⟨hF1, .inl ⟨rfl, rfl, rfl⟩⟩
    · rw [if_neg hc] at hm2 ⊢
      have hcd : decide (k.kind = 4 ∧ (([part] : List (List UInt8)) = [] ∨ k.text ∈ ([part] : List (List UInt8)))) = false := by simpa using hc
      rw [hcd]
      simp -dsimp (disch := first | omega | (refine DrawYes.mk ?_; decide +kernel) | fail) only [go_sem, ↓reduceIte, reduceCtorEq, Nat.reduceEqDiff, Nat.reduceAdd, Nat.reduceLeDiff, Int.reduceLE, Int.reduceLT, Int.reduceBEq, Int.reduceBNe, Int.reduceEq, Nat.reduceBEq, Int.reduceToNat, Nat.reduceLT, Nat.reduceGT, Nat.reduceSub, Nat.reduceMul, Int.reduceAdd, Int.reduceSub, Int.reduceNeg, Int.reduceGE, Int.reduceGT, hc2, hm2]
      refine call (pfail_ok (er := 20) (by omega) hm2) ?_
      rintro _ H3 ⟨rfl, hF3, hm3⟩
      simp -dsimp (disch := first | omega | (refine DrawYes.mk ?_; decide +kernel) | fail) only [go_sem, ↓reduceIte, reduceCtorEq, Nat.reduceEqDiff, Nat.reduceAdd, Nat.reduceLeDiff, Int.reduceLE, Int.reduceLT, Int.reduceBEq, Int.reduceBNe, Int.reduceEq, Nat.reduceBEq, Int.reduceToNat, Nat.reduceLT, Nat.reduceGT, Nat.reduceSub, Nat.reduceMul, Int.reduceAdd, Int.reduceSub, Int.reduceNeg, Int.reduceGE, Int.reduceGT, hm3]
      first | exact hF1.trans hF3 | exact ⟨hF1.trans hF3, by simp⟩ | exact ⟨hF1.trans hF3, .inr ⟨by decide, rfl, rfl⟩⟩
end Go.Proofs.YtcknfhhbijlobaaDoor.D
