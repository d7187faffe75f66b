import Derived.Test.YtcknfhhbijlobaaDoorParT
namespace Go.Proofs.YtcknfhhbijlobaaDoor.D
open Go
set_option linter.unusedVariables false
set_option linter.unusedSimpArgs false
set_option maxRecDepth 100000

/-- A script that was read, as a value. -/
def PrgV (R : List Stm) (top : List Nat) (stmv topv : DV) : Prop := (∃ es, ((stmv = .nils ∧ es = []) ∨ ∃ id off, stmv = .sl id 8 off es) ∧ All2 StmV R es) ∧ IntsV top topv
theorem PrgV.nil : PrgV [] [] .nils .nils := ⟨⟨[], .inl ⟨rfl, rfl⟩, .nil⟩, .inl ⟨rfl, rfl⟩⟩
theorem PI.prg {lo : Nat} {H : DH} {p md : Nat} {tok at_ e : DV} {R : List Stm} {top : List Nat} {os : List Fr} {stmv topv opv : DV} {es : List DV} {fs : List Fx} (h : PI lo H p md tok at_ e R top os stmv topv opv es fs) : PrgV R top stmv topv := by
  refine ⟨⟨es, ?_, h.stmR⟩, h.top.ints⟩
  rcases h.stm with ⟨h1, h2⟩ | ⟨id, off, k, h1, _⟩
  · exact .inl ⟨h1, h2⟩
  · exact .inr ⟨id, off, h1⟩
theorem parse_ok {s : List UInt8} {H : DH} (hs : s.length < 1000000) : WC cfg 9 [.str s] H fun v H' => Ext H H' ∧
    ∃ stmv topv, v = .tup [.agg [.int .i64 (parseAll s).mode, stmv, topv], .int .i64 (parseAll s).at_, .int .i64 (parseAll s).e] ∧ PrgV (parseAll s).R (parseAll s).top stmv topv := by
  refine WC_of (show Has cfg 9 106 [.cell 2 26, .tmp 3, .tmp 4] _ from ⟨by kernel_rfl, Tryd.f9, Tryd.func9, rfl, rfl, rfl, by kernel_rfl⟩) (by simp) ?_
  simp -dsimp (disch := first | omega | (refine DrawYes.mk ?_; decide +kernel) | fail) only [go_sem, ↓reduceIte, reduceCtorEq, Nat.reduceEqDiff, Nat.reduceAdd, Nat.reduceLeDiff, Int.reduceLE, Int.reduceLT, Int.reduceBEq, Int.reduceBNe, Int.reduceEq, Nat.reduceBEq, Int.reduceToNat, Nat.reduceLT, Nat.reduceGT, Nat.reduceSub, Nat.reduceMul, Int.reduceAdd, Int.reduceSub, Int.reduceNeg, Int.reduceGE, Int.reduceGT]
  refine call (all_ok hs) ?_
  rintro _ H1 ⟨hE, v', rfl, hsl⟩
  have hle1 := hE.le
  simp only [new_next] at hle1
  have hr1 : H1.m H.next = some (.cells 26 [.int .i64 0, .nils, .nils]) := hE.get (by simp only [new_next]; omega) (by rw [new_m, if_pos rfl])
  have hE1 : Ext H H1 := (Ext.refl.new).trans hE
  by_cases he : (lexAll s).2.2 = 0
  · have j0 : (((lexAll s).2.2 : Int) != 0) = false := by simp; omega
    obtain ⟨⟨ts, at0, e0⟩, hq⟩ : ∃ q, lexAll s = q := ⟨_, rfl⟩
    rw [hq] at hsl he j0
    simp only at hsl he j0
    subst he
    obtain ⟨htk, rfl⟩ := lex_tok hq
    have hpa : parseAll s = parseTs ts := by unfold parseAll; rw [hq]; rfl
    rw [hpa, hq]
    obtain ⟨k, tr, rfl⟩ := htk.ne
    rcases hsl with ⟨_, g⟩ | ⟨id, off, kk, rfl, _⟩
    · simp at g
    simp only
    have hlt := htk.len
    simp only [List.length_cons] at hlt
    simp -dsimp (disch := first | omega | (refine DrawYes.mk ?_; decide +kernel) | fail) only [go_sem, ↓reduceIte, reduceCtorEq, Nat.reduceEqDiff, Nat.reduceAdd, Nat.reduceLeDiff, Int.reduceLE, Int.reduceLT, Int.reduceBEq, Int.reduceBNe, Int.reduceEq, Nat.reduceBEq, Int.reduceToNat, Nat.reduceLT, Nat.reduceGT, Nat.reduceSub, Nat.reduceMul, Int.reduceAdd, Int.reduceSub, Int.reduceNeg, Int.reduceGE, Int.reduceGT, j0, ↓Y_at]
    -- the object: its place is H1.next
    obtain ⟨p, hp⟩ : ∃ p, p = H1.next := ⟨_, rfl⟩
    refine call (pis_ok (id := id) (off := off) (k := k) (ts := tr) (a := .int .i64 0) (b := .nils) (c := .nils) (d := .nils) (e := .int .i64 0) (f := .int .i64 0) (ss := [modeWord]) (by simp only [new_next]; omega) (by omega) (by simp) (.inr ⟨by simp, _, _, rfl⟩) (by simp only [new_m, new_next, if_neg (by omega : ¬ H1.next = H1.next + 1), if_pos])) ?_
    rintro _ H2 ⟨rfl, hF2, hm2⟩
    have hle2 := hF2.le
    simp only [new_next] at hle2
    have hL2 : Low H1.next H1 H2 := ⟨by omega, fun b hb => by
      rw [hF2.same b (by simp only [new_next]; omega) (by simp; omega)]
      simp only [new_m, new_next, if_neg (by omega : ¬ b = H1.next + 1), if_neg (by omega : ¬ b = H1.next)]⟩
    by_cases hc1 : k.kind = 1 ∧ ([modeWord] = [] ∨ k.text ∈ [modeWord])
    · rw [if_pos hc1] at hm2
      have hcd1 : decide (k.kind = 1 ∧ ([modeWord] = [] ∨ k.text ∈ [modeWord])) = true := by simpa using hc1
      rw [hcd1]
      have hcc1 : k.kind = 1 ∧ k.text = modeWord := by simpa using hc1
      have htk1 := htk.tail (by omega)
      obtain ⟨k2, r2, rfl⟩ := htk1.ne
      simp only [List.length_cons] at hlt
      simp -dsimp (disch := first | omega | (refine DrawYes.mk ?_; decide +kernel) | fail) only [go_sem, ↓reduceIte, reduceCtorEq, Nat.reduceEqDiff, Nat.reduceAdd, Nat.reduceLeDiff, Int.reduceLE, Int.reduceLT, Int.reduceBEq, Int.reduceBNe, Int.reduceEq, Nat.reduceBEq, Int.reduceToNat, Nat.reduceLT, Nat.reduceGT, Nat.reduceSub, Nat.reduceMul, Int.reduceAdd, Int.reduceSub, Int.reduceNeg, Int.reduceGE, Int.reduceGT, ↓Y_at]
      refine call (pnext_ok (by omega) hm2) ?_
      rintro _ H3 ⟨rfl, hE3⟩
      have hle3 := hE3.le
      have hm3 := hE3.get (by omega) hm2
      have hL3 : Low H1.next H1 H3 := hL2.trans ⟨hE3.le, fun b hb => hE3.same b (by omega)⟩
      simp -dsimp (disch := first | omega | (refine DrawYes.mk ?_; decide +kernel) | fail) only [go_sem, ↓reduceIte, reduceCtorEq, Nat.reduceEqDiff, Nat.reduceAdd, Nat.reduceLeDiff, Int.reduceLE, Int.reduceLT, Int.reduceBEq, Int.reduceBNe, Int.reduceEq, Nat.reduceBEq, Int.reduceToNat, Nat.reduceLT, Nat.reduceGT, Nat.reduceSub, Nat.reduceMul, Int.reduceAdd, Int.reduceSub, Int.reduceNeg, Int.reduceGE, Int.reduceGT, ↓Y_at, Tok.dv]
      refine call mode_ok ?_
      rintro _ H4 ⟨rfl, hE4⟩
      have hle4 := hE4.le
      have hm4 := hE4.get (by omega) hm3
      have hL4 : Low H1.next H1 H4 := hL3.trans ⟨hE4.le, fun b hb => hE4.same b (by omega)⟩
      simp -dsimp (disch := first | omega | (refine DrawYes.mk ?_; decide +kernel) | fail) only [go_sem, ↓reduceIte, reduceCtorEq, Nat.reduceEqDiff, Nat.reduceAdd, Nat.reduceLeDiff, Int.reduceLE, Int.reduceLT, Int.reduceBEq, Int.reduceBNe, Int.reduceEq, Nat.reduceBEq, Int.reduceToNat, Nat.reduceLT, Nat.reduceGT, Nat.reduceSub, Nat.reduceMul, Int.reduceAdd, Int.reduceSub, Int.reduceNeg, Int.reduceGE, Int.reduceGT, ↓Y_at, hm4]
      refine call (pis_ok (id := id) (off := off + 1) (k := k2) (ts := r2) (a := .int .i64 (modeL k2.text)) (b := .nils) (c := .nils) (d := .nils) (e := .int .i64 0) (f := .int .i64 0) (ss := modeW) (by simp only [new_next, set_next]; omega) (by omega) (by decide) (.inr ⟨by decide, _, _, rfl⟩) (by simp only [new_m, set_m, new_next, set_next, if_neg (by omega : ¬ H1.next = H4.next), if_pos])) ?_
      rintro _ H5 ⟨rfl, hF5, hm5⟩
      have hle5 := hF5.le
      simp only [new_next, set_next] at hle5
      have hL5 : Low H1.next H1 H5 := hL4.trans ⟨by omega, fun b hb => by
        rw [hF5.same b (by simp only [new_next, set_next]; omega) (by simp; omega)]
        simp only [new_m, set_m, new_next, set_next, if_neg (by omega : ¬ b = H4.next), if_neg (by omega : ¬ b = H1.next)]⟩
      by_cases hc2 : k2.kind = 1 ∧ (modeW = [] ∨ k2.text ∈ modeW)
      · rw [if_pos hc2] at hm5
        have hcd2 : decide (k2.kind = 1 ∧ (modeW = [] ∨ k2.text ∈ modeW)) = true := by simpa using hc2
        have hcc2 : k2.kind = 1 ∧ k2.text ∈ modeW := by simpa [modeW] using hc2
        rw [hcd2]
        have htk2 := htk1.tail (by omega)
        obtain ⟨k3, r3, rfl⟩ := htk2.ne
        simp only [List.length_cons] at hlt
        simp -dsimp (disch := first | omega | (refine DrawYes.mk ?_; decide +kernel) | fail) only [go_sem, ↓reduceIte, reduceCtorEq, Nat.reduceEqDiff, Nat.reduceAdd, Nat.reduceLeDiff, Int.reduceLE, Int.reduceLT, Int.reduceBEq, Int.reduceBNe, Int.reduceEq, Nat.reduceBEq, Int.reduceToNat, Nat.reduceLT, Nat.reduceGT, Nat.reduceSub, Nat.reduceMul, Int.reduceAdd, Int.reduceSub, Int.reduceNeg, Int.reduceGE, Int.reduceGT, ↓Y_at]
        refine call (pis_ok (id := id) (off := off + 1 + 1) (k := k3) (ts := r3) (a := .int .i64 (modeL k2.text)) (b := .nils) (c := .nils) (d := .nils) (e := .int .i64 0) (f := .int .i64 0) (ss := [[59]]) (by simp only [new_next]; omega) (by omega) (by decide) (.inr ⟨by decide, _, _, rfl⟩) (by simp only [new_m, new_next, if_neg (by omega : ¬ H1.next = H5.next), hm5])) ?_
        rintro _ H6 ⟨rfl, hF6, hm6⟩
        have hle6 := hF6.le
        simp only [new_next, set_next] at hle6
        have hL6 : Low H1.next H1 H6 := hL5.trans ⟨by omega, fun b hb => by
          rw [hF6.same b (by simp only [new_next, set_next]; omega) (by simp; omega)]
          simp only [new_m, new_next, if_neg (by omega : ¬ b = H5.next)]⟩
        by_cases hc3 : k3.kind = 4 ∧ (([[59]] : List (List UInt8)) = [] ∨ k3.text ∈ ([[59]] : List (List UInt8)))
        · rw [if_pos hc3] at hm6
          have hcd3 : decide (k3.kind = 4 ∧ (([[59]] : List (List UInt8)) = [] ∨ k3.text ∈ ([[59]] : List (List UInt8)))) = true := by simpa using hc3
          have hcc3 : k3.kind = 4 ∧ k3.text = [59] := by simpa using hc3
          rw [hcd3]
          have htk3 := htk2.tail (by omega)
          simp -dsimp (disch := first | omega | (refine DrawYes.mk ?_; decide +kernel) | fail) only [go_sem, ↓reduceIte, reduceCtorEq, Nat.reduceEqDiff, Nat.reduceAdd, Nat.reduceLeDiff, Int.reduceLE, Int.reduceLT, Int.reduceBEq, Int.reduceBNe, Int.reduceEq, Nat.reduceBEq, Int.reduceToNat, Nat.reduceLT, Nat.reduceGT, Nat.reduceSub, Nat.reduceMul, Int.reduceAdd, Int.reduceSub, Int.reduceNeg, Int.reduceGE, Int.reduceGT, ↓Y_at]
          have hpt : parseTs (k :: k2 :: k3 :: r3) = finP (modeL k2.text) (runP ⟨r3, [], [], []⟩) := by
            unfold parseTs headP
            simp only [if_pos hcc1, if_pos hcc2, if_pos hcc3]
          refine YAt_loop (α := PSt) (fun st σ H' => PX H1.next H' H1.next (modeL k2.text) id (.int .i64 0) (.int .i64 0) st ∧ StOk st ∧ Low H1.next H1 H' ∧ runP st = runP ⟨r3, [], [], []⟩ ∧ σ 8 = .ptr H1.next 0 ∧ σ 2 = .ptr H.next 0) (fun st => st.ts.length) ⟨r3, [], [], []⟩ ⟨_, rfl, .inl rfl⟩ ?_ ?_
          · simp -dsimp (disch := first | omega | (refine DrawYes.mk ?_; decide +kernel) | fail) only [go_sem, ↓reduceIte, reduceCtorEq, Nat.reduceEqDiff, Nat.reduceAdd, Nat.reduceLeDiff, Int.reduceLE, Int.reduceLT, Int.reduceBEq, Int.reduceBNe, Int.reduceEq, Nat.reduceBEq, Int.reduceToNat, Nat.reduceLT, Nat.reduceGT, Nat.reduceSub, Nat.reduceMul, Int.reduceAdd, Int.reduceSub, Int.reduceNeg, Int.reduceGE, Int.reduceGT]
            refine ⟨⟨_, _, _, _, [], [], ⟨by omega, Nat.le_refl _, hm6, .inl ⟨rfl, rfl⟩, .nil, .inl ⟨rfl, rfl⟩, .inl ⟨rfl, rfl⟩, .nil, by simp, by simp [slid]⟩⟩, ⟨htk3, by simp; omega, by simp; omega, by simp, by simp⟩, hL6⟩
          rintro ⟨ts4, R, top, os⟩ σ Hs ⟨⟨off4, stmv, topv, opv, es, fs, hpi⟩, hok, hLs, hrun, g8, g2⟩
          simp only at hpi hrun
          have hlos : H1.next ≤ Hs.next := hLs.le
          obtain ⟨k4, r4, rfl⟩ := hok.tok.ne
          have hl4 : r4.length < 1000 := by have := hok.tok.len; simp at this; omega
          have hms := hpi.obj
          have hps := hpi.hp
          have hol := hpi.opl
          rcases nil_or_last os with rfl | ⟨os', f, rfl⟩
          · have hol0 : ∀ H', lenD cfg.T H' 47 opv = some (.int .i64 0) := hol
            simp -dsimp (disch := first | omega | (refine DrawYes.mk ?_; decide +kernel) | fail) only [go_sem, ↓reduceIte, reduceCtorEq, Nat.reduceEqDiff, Nat.reduceAdd, Nat.reduceLeDiff, Int.reduceLE, Int.reduceLT, Int.reduceBEq, Int.reduceBNe, Int.reduceEq, Nat.reduceBEq, Int.reduceToNat, Nat.reduceLT, Nat.reduceGT, Nat.reduceSub, Nat.reduceMul, Int.reduceAdd, Int.reduceSub, Int.reduceNeg, Int.reduceGE, Int.reduceGT, ↓Y_at, g2, g8, hms, hol0]
            refine call (pnext_ok hps hms) ?_
            rintro _ H7 ⟨rfl, hE7⟩
            have hL7 : Low H1.next H1 H7 := hLs.trans ⟨hE7.le, fun b hb => hE7.same b (by omega)⟩
            have hm7 := hE7.get hps hms
            by_cases hk0 : k4.kind = 0
            · have q0 : ((k4.kind : Int) == 0) = true := by simp; omega
              have hstep : stepP ⟨k4 :: r4, R, top, []⟩ = .inr (.ok R top) := by simp [stepP, hk0]
              simp -dsimp (disch := first | omega | (refine DrawYes.mk ?_; decide +kernel) | fail) only [go_sem, ↓reduceIte, reduceCtorEq, Nat.reduceEqDiff, Nat.reduceAdd, Nat.reduceLeDiff, Int.reduceLE, Int.reduceLT, Int.reduceBEq, Int.reduceBNe, Int.reduceEq, Nat.reduceBEq, Int.reduceToNat, Nat.reduceLT, Nat.reduceGT, Nat.reduceSub, Nat.reduceMul, Int.reduceAdd, Int.reduceSub, Int.reduceNeg, Int.reduceGE, Int.reduceGT, ↓Y_at, g2, g8, hms, hol0, Tok.dv, q0]
              refine Hd_goto rfl ?_
              have hrb : H7.m H.next = some (.cells 26 [.int .i64 0, .nils, .nils]) := (hL7.same H.next (by omega)).trans hr1
              have hExt : ∀ o, Ext H (H7.set H.next o) := fun o => ⟨by have := hL7.le; simp only [set_next]; omega, fun b hb => by rw [set_m, if_neg (by omega)]; exact (hL7.same b (by omega)).trans (hE1.same b hb)⟩
              have y1 : ¬ H1.next = H.next := by omega
              have y2 : ¬ H.next = H1.next := by omega
              have hstl : ∀ H', lenD cfg.T H' 23 stmv = some (.int .i64 R.length) := fun H' => by rw [hpi.stm.len und_23, ← hpi.stmR.len]
              obtain ⟨c1, c2⟩ := hpi.stm.one
              obtain ⟨c3, c4⟩ := hpi.top.one
              have hres : parseTs (k :: k2 :: k3 :: r3) = finP (modeL k2.text) (.ok R top) := by
                rw [hpt, ← hrun, runP_step (st := ⟨k4 :: r4, R, top, []⟩), hstep]
              rw [hres]
              by_cases hbig : 100 < R.length
              · have q1 : (100 : Int) < R.length := by omega
                simp -dsimp (disch := first | omega | (refine DrawYes.mk ?_; decide +kernel) | fail) only [go_sem, ↓reduceIte, reduceCtorEq, Nat.reduceEqDiff, Nat.reduceAdd, Nat.reduceLeDiff, Int.reduceLE, Int.reduceLT, Int.reduceBEq, Int.reduceBNe, Int.reduceEq, Nat.reduceBEq, Int.reduceToNat, Nat.reduceLT, Nat.reduceGT, Nat.reduceSub, Nat.reduceMul, Int.reduceAdd, Int.reduceSub, Int.reduceNeg, Int.reduceGE, Int.reduceGT, ↓Y_at, g2, g8, hm7, hstl, q1, hrb, y1, y2]
                simp only [finP, if_pos hbig]
                exact ⟨hExt _, _, _, rfl, PrgV.nil⟩
              · have q1 : ¬ (100 : Int) < R.length := by omega
                simp -dsimp (disch := first | omega | (refine DrawYes.mk ?_; decide +kernel) | fail) only [go_sem, ↓reduceIte, reduceCtorEq, Nat.reduceEqDiff, Nat.reduceAdd, Nat.reduceLeDiff, Int.reduceLE, Int.reduceLT, Int.reduceBEq, Int.reduceBNe, Int.reduceEq, Nat.reduceBEq, Int.reduceToNat, Nat.reduceLT, Nat.reduceGT, Nat.reduceSub, Nat.reduceMul, Int.reduceAdd, Int.reduceSub, Int.reduceNeg, Int.reduceGE, Int.reduceGT, ↓Y_at, g2, g8, hm7, hstl, q1, hrb, y1, y2, c1, c2, c3, c4]
                simp only [finP, if_neg hbig]
                exact ⟨hExt _, _, _, rfl, hpi.prg⟩
            · have q0 : ((k4.kind : Int) == 0) = false := by simp; omega
              have hstep : stepP ⟨k4 :: r4, R, top, []⟩ = oneP ⟨k4 :: r4, R, top, []⟩ k4 r4 := by simp [stepP, hk0]
              simp -dsimp (disch := first | omega | (refine DrawYes.mk ?_; decide +kernel) | fail) only [go_sem, ↓reduceIte, reduceCtorEq, Nat.reduceEqDiff, Nat.reduceAdd, Nat.reduceLeDiff, Int.reduceLE, Int.reduceLT, Int.reduceBEq, Int.reduceBNe, Int.reduceEq, Nat.reduceBEq, Int.reduceToNat, Nat.reduceLT, Nat.reduceGT, Nat.reduceSub, Nat.reduceMul, Int.reduceAdd, Int.reduceSub, Int.reduceNeg, Int.reduceGE, Int.reduceGT, ↓Y_at, g2, g8, hms, hm7, hol0, Tok.dv, q0]
              have hpi7 := hpi.keep (Frm.ext hE7) hm7
              refine call (pone_ok hpi7 hok.bnd (by have := hE7.le; omega) hok.tok) ?_
              rintro v H8 ⟨hL8, hR8⟩
              cases hst : oneP ⟨k4 :: r4, R, top, []⟩ k4 r4 with
              | inl st' =>
                rw [hst] at hR8
                obtain ⟨rfl, hpx⟩ := hR8
                simp -dsimp (disch := first | omega | (refine DrawYes.mk ?_; decide +kernel) | fail) only [go_sem, ↓reduceIte, reduceCtorEq, Nat.reduceEqDiff, Nat.reduceAdd, Nat.reduceLeDiff, Int.reduceLE, Int.reduceLT, Int.reduceBEq, Int.reduceBNe, Int.reduceEq, Nat.reduceBEq, Int.reduceToNat, Nat.reduceLT, Nat.reduceGT, Nat.reduceSub, Nat.reduceMul, Int.reduceAdd, Int.reduceSub, Int.reduceNeg, Int.reduceGE, Int.reduceGT, ↓Y_at, g2, g8]
                have hstep2 := hstep.trans hst
                exact ⟨st', ⟨hpx, stepP_ok hok hstep2, hL7.trans hL8, by rw [← hrun, runP_step (st := ⟨k4 :: r4, R, top, []⟩), hstep2]⟩, stepP_len hstep2⟩
              | inr r =>
                rw [hst] at hR8
                cases r with
                | ok R' top' => exact hR8.elim
                | bad pos er =>
                  obtain ⟨rfl, b1, b2, b3, b4, b5, hm8⟩ := hR8
                  have hne : er ≠ 0 := oneP_bad hok.tok hst
                  have hL9 := hL7.trans hL8
                  simp -dsimp (disch := first | omega | (refine DrawYes.mk ?_; decide +kernel) | fail) only [go_sem, ↓reduceIte, reduceCtorEq, Nat.reduceEqDiff, Nat.reduceAdd, Nat.reduceLeDiff, Int.reduceLE, Int.reduceLT, Int.reduceBEq, Int.reduceBNe, Int.reduceEq, Nat.reduceBEq, Int.reduceToNat, Nat.reduceLT, Nat.reduceGT, Nat.reduceSub, Nat.reduceMul, Int.reduceAdd, Int.reduceSub, Int.reduceNeg, Int.reduceGE, Int.reduceGT, ↓Y_at, g2, g8]
                  have hres : parseTs (k :: k2 :: k3 :: r3) = ⟨0, [], [], pos, er⟩ := by
                    rw [hpt, ← hrun, runP_step (st := ⟨k4 :: r4, R, top, []⟩), hstep.trans hst]
                    rfl
                  have hrb : H8.m H.next = some (.cells 26 [.int .i64 0, .nils, .nils]) := (hL9.same H.next (by omega)).trans hr1
                  have hErr : ((er : Nat) : Int) ≠ 0 := by omega
                  have hEb : ((((er : Nat) : Int) != 0)) = true := by simpa using hErr
                  have hExt : ∀ o, Ext H (H8.set H.next o) := fun o => ⟨by have := hL9.le; simp only [set_next]; omega, fun b hb => by rw [set_m, if_neg (by omega)]; exact (hL9.same b (by omega)).trans (hE1.same b hb)⟩
                  have y1 : ¬ H1.next = H.next := by omega
                  have y2 : ¬ H.next = H1.next := by omega
                  rw [YAt_eq]
                  simp -dsimp (disch := first | omega | (refine DrawYes.mk ?_; decide +kernel) | fail) only [go_sem, ↓reduceIte, reduceCtorEq, Nat.reduceEqDiff, Nat.reduceAdd, Nat.reduceLeDiff, Int.reduceLE, Int.reduceLT, Int.reduceBEq, Int.reduceBNe, Int.reduceEq, Nat.reduceBEq, Int.reduceToNat, Nat.reduceLT, Nat.reduceGT, Nat.reduceSub, Nat.reduceMul, Int.reduceAdd, Int.reduceSub, Int.reduceNeg, Int.reduceGE, Int.reduceGT, ↓Y_at, hm8, hEb, g2, g8]
                  refine Y_float [(4, 0, 12), (8, 0, 12)] (by decide +kernel) ?_
                  simp -dsimp (disch := first | omega | (refine DrawYes.mk ?_; decide +kernel) | fail) only [go_sem, ↓reduceIte, reduceCtorEq, Nat.reduceEqDiff, Nat.reduceAdd, Nat.reduceLeDiff, Int.reduceLE, Int.reduceLT, Int.reduceBEq, Int.reduceBNe, Int.reduceEq, Nat.reduceBEq, Int.reduceToNat, Nat.reduceLT, Nat.reduceGT, Nat.reduceSub, Nat.reduceMul, Int.reduceAdd, Int.reduceSub, Int.reduceNeg, Int.reduceGE, Int.reduceGT, ↓Y_at, hm8, hEb, hrb, y1, y2, g2, g8]
                  rw [hres]
                  exact ⟨hExt _, _, _, rfl, PrgV.nil⟩

          · have z1 : (((os' ++ [f]).length : Nat) : Int) = ((os'.length + 1 : Nat) : Int) := by simp
            have hol1 : ∀ H', lenD cfg.T H' 47 opv = some (.int .i64 (os'.length + 1 : Nat)) := fun H' => by rw [hol H', z1]
            have z2 : (((os'.length + 1 : Nat) : Int) == 0) = false := by simp; omega
            have z3 : (0 : Int) < ((os'.length + 1 : Nat) : Int) := by omega
            simp -dsimp (disch := first | omega | (refine DrawYes.mk ?_; decide +kernel) | fail) only [go_sem, ↓reduceIte, reduceCtorEq, Nat.reduceEqDiff, Nat.reduceAdd, Nat.reduceLeDiff, Int.reduceLE, Int.reduceLT, Int.reduceBEq, Int.reduceBNe, Int.reduceEq, Nat.reduceBEq, Int.reduceToNat, Nat.reduceLT, Nat.reduceGT, Nat.reduceSub, Nat.reduceMul, Int.reduceAdd, Int.reduceSub, Int.reduceNeg, Int.reduceGE, Int.reduceGT, ↓Y_at, g2, g8, hms, hol1, z2, z3]
            refine call (pis_ok (id := id) (off := off4) (k := k4) (ts := r4) (a := .int .i64 (modeL k2.text)) (b := stmv) (c := topv) (d := opv) (e := .int .i64 0) (f := .int .i64 0) (ss := [[125]]) (by simp only [new_next]; omega) (by omega) (by decide) (.inr ⟨by decide, _, _, rfl⟩) (by simp only [new_m, if_neg (by omega : ¬ H1.next = Hs.next), hms])) ?_
            rintro _ H7 ⟨rfl, hF7, hm7⟩
            have hle7 := hF7.le
            simp only [new_next] at hle7
            have hF07 : Frm [H1.next] Hs H7 := ((Frm.refl (H := Hs)).new).trans hF7
            have hL7 : Low H1.next H1 H7 := hLs.frm hF07 (Nat.le_refl _) (Nat.le_refl _)
            have hgl : (os' ++ [f]).getLast? = some f := by simp
            by_cases hc4 : k4.kind = 4 ∧ (([[125]] : List (List UInt8)) = [] ∨ k4.text ∈ ([[125]] : List (List UInt8)))
            · rw [if_pos hc4] at hm7
              have hcd4 : decide (k4.kind = 4 ∧ (([[125]] : List (List UInt8)) = [] ∨ k4.text ∈ ([[125]] : List (List UInt8)))) = true := by simpa using hc4
              have hcc4 : k4.kind = 4 ∧ k4.text = [125] := by simpa using hc4
              rw [hcd4]
              have hpi7 := hpi.keep hF07 hm7
              have hstep : stepP ⟨k4 :: r4, R, top, os' ++ [f]⟩ = closeP ⟨k4 :: r4, R, top, os' ++ [f]⟩ f r4 := by simp only [stepP, hgl, if_pos hcc4]
              simp -dsimp (disch := first | omega | (refine DrawYes.mk ?_; decide +kernel) | fail) only [go_sem, ↓reduceIte, reduceCtorEq, Nat.reduceEqDiff, Nat.reduceAdd, Nat.reduceLeDiff, Int.reduceLE, Int.reduceLT, Int.reduceBEq, Int.reduceBNe, Int.reduceEq, Nat.reduceBEq, Int.reduceToNat, Nat.reduceLT, Nat.reduceGT, Nat.reduceSub, Nat.reduceMul, Int.reduceAdd, Int.reduceSub, Int.reduceNeg, Int.reduceGE, Int.reduceGT, ↓Y_at, g2, g8]
              refine call (pclose_ok (ts0 := k4 :: r4) hpi7 hok.bnd (by omega) (hok.tok.tail (by omega))) ?_
              rintro v H8 ⟨hL8, hR8⟩
              cases hst : closeP ⟨k4 :: r4, R, top, os' ++ [f]⟩ f r4 with
              | inl st' =>
                rw [hst] at hR8
                obtain ⟨rfl, hpx⟩ := hR8
                simp -dsimp (disch := first | omega | (refine DrawYes.mk ?_; decide +kernel) | fail) only [go_sem, ↓reduceIte, reduceCtorEq, Nat.reduceEqDiff, Nat.reduceAdd, Nat.reduceLeDiff, Int.reduceLE, Int.reduceLT, Int.reduceBEq, Int.reduceBNe, Int.reduceEq, Nat.reduceBEq, Int.reduceToNat, Nat.reduceLT, Nat.reduceGT, Nat.reduceSub, Nat.reduceMul, Int.reduceAdd, Int.reduceSub, Int.reduceNeg, Int.reduceGE, Int.reduceGT, ↓Y_at, g2, g8]
                have hstep2 := hstep.trans hst
                exact ⟨st', ⟨hpx, stepP_ok hok hstep2, hL7.trans hL8, by rw [← hrun, runP_step (st := ⟨k4 :: r4, R, top, os' ++ [f]⟩), hstep2]⟩, stepP_len hstep2⟩
              | inr r =>
                rw [hst] at hR8
                cases r with
                | ok R' top' => exact hR8.elim
                | bad pos er =>
                  obtain ⟨rfl, b1, b2, b3, b4, b5, hm8⟩ := hR8
                  have hne : er ≠ 0 := closeP_bad hst
                  have hL9 := hL7.trans hL8
                  simp -dsimp (disch := first | omega | (refine DrawYes.mk ?_; decide +kernel) | fail) only [go_sem, ↓reduceIte, reduceCtorEq, Nat.reduceEqDiff, Nat.reduceAdd, Nat.reduceLeDiff, Int.reduceLE, Int.reduceLT, Int.reduceBEq, Int.reduceBNe, Int.reduceEq, Nat.reduceBEq, Int.reduceToNat, Nat.reduceLT, Nat.reduceGT, Nat.reduceSub, Nat.reduceMul, Int.reduceAdd, Int.reduceSub, Int.reduceNeg, Int.reduceGE, Int.reduceGT, ↓Y_at, g2, g8]
                  have hres : parseTs (k :: k2 :: k3 :: r3) = ⟨0, [], [], pos, er⟩ := by
                    rw [hpt, ← hrun, runP_step (st := ⟨k4 :: r4, R, top, os' ++ [f]⟩), hstep.trans hst]
                    rfl
                  have hrb : H8.m H.next = some (.cells 26 [.int .i64 0, .nils, .nils]) := (hL9.same H.next (by omega)).trans hr1
                  have hErr : ((er : Nat) : Int) ≠ 0 := by omega
                  have hEb : ((((er : Nat) : Int) != 0)) = true := by simpa using hErr
                  have hExt : ∀ o, Ext H (H8.set H.next o) := fun o => ⟨by have := hL9.le; simp only [set_next]; omega, fun b hb => by rw [set_m, if_neg (by omega)]; exact (hL9.same b (by omega)).trans (hE1.same b hb)⟩
                  have y1 : ¬ H1.next = H.next := by omega
                  have y2 : ¬ H.next = H1.next := by omega
                  rw [YAt_eq]
                  simp -dsimp (disch := first | omega | (refine DrawYes.mk ?_; decide +kernel) | fail) only [go_sem, ↓reduceIte, reduceCtorEq, Nat.reduceEqDiff, Nat.reduceAdd, Nat.reduceLeDiff, Int.reduceLE, Int.reduceLT, Int.reduceBEq, Int.reduceBNe, Int.reduceEq, Nat.reduceBEq, Int.reduceToNat, Nat.reduceLT, Nat.reduceGT, Nat.reduceSub, Nat.reduceMul, Int.reduceAdd, Int.reduceSub, Int.reduceNeg, Int.reduceGE, Int.reduceGT, ↓Y_at, hm8, hEb, g2, g8]
                  refine Y_float [(4, 0, 12), (8, 0, 12)] (by decide +kernel) ?_
                  simp -dsimp (disch := first | omega | (refine DrawYes.mk ?_; decide +kernel) | fail) only [go_sem, ↓reduceIte, reduceCtorEq, Nat.reduceEqDiff, Nat.reduceAdd, Nat.reduceLeDiff, Int.reduceLE, Int.reduceLT, Int.reduceBEq, Int.reduceBNe, Int.reduceEq, Nat.reduceBEq, Int.reduceToNat, Nat.reduceLT, Nat.reduceGT, Nat.reduceSub, Nat.reduceMul, Int.reduceAdd, Int.reduceSub, Int.reduceNeg, Int.reduceGE, Int.reduceGT, ↓Y_at, hm8, hEb, hrb, y1, y2, g2, g8]
                  rw [hres]
                  exact ⟨hExt _, _, _, rfl, PrgV.nil⟩

            · rw [if_neg hc4] at hm7
              have hcd4 : decide (k4.kind = 4 ∧ (([[125]] : List (List UInt8)) = [] ∨ k4.text ∈ ([[125]] : List (List UInt8)))) = false := by simpa using hc4
              have hcc4 : ¬ (k4.kind = 4 ∧ k4.text = [125]) := by simpa using hc4
              rw [hcd4]
              have hpi7 := hpi.keep hF07 hm7
              have hstep : stepP ⟨k4 :: r4, R, top, os' ++ [f]⟩ = oneP ⟨k4 :: r4, R, top, os' ++ [f]⟩ k4 r4 := by simp only [stepP, hgl, if_neg hcc4]
              simp -dsimp (disch := first | omega | (refine DrawYes.mk ?_; decide +kernel) | fail) only [go_sem, ↓reduceIte, reduceCtorEq, Nat.reduceEqDiff, Nat.reduceAdd, Nat.reduceLeDiff, Int.reduceLE, Int.reduceLT, Int.reduceBEq, Int.reduceBNe, Int.reduceEq, Nat.reduceBEq, Int.reduceToNat, Nat.reduceLT, Nat.reduceGT, Nat.reduceSub, Nat.reduceMul, Int.reduceAdd, Int.reduceSub, Int.reduceNeg, Int.reduceGE, Int.reduceGT, ↓Y_at, g2, g8]
              refine call (pone_ok hpi7 hok.bnd (by omega) hok.tok) ?_
              rintro v H8 ⟨hL8, hR8⟩
              cases hst : oneP ⟨k4 :: r4, R, top, os' ++ [f]⟩ k4 r4 with
              | inl st' =>
                rw [hst] at hR8
                obtain ⟨rfl, hpx⟩ := hR8
                simp -dsimp (disch := first | omega | (refine DrawYes.mk ?_; decide +kernel) | fail) only [go_sem, ↓reduceIte, reduceCtorEq, Nat.reduceEqDiff, Nat.reduceAdd, Nat.reduceLeDiff, Int.reduceLE, Int.reduceLT, Int.reduceBEq, Int.reduceBNe, Int.reduceEq, Nat.reduceBEq, Int.reduceToNat, Nat.reduceLT, Nat.reduceGT, Nat.reduceSub, Nat.reduceMul, Int.reduceAdd, Int.reduceSub, Int.reduceNeg, Int.reduceGE, Int.reduceGT, ↓Y_at, g2, g8]
                have hstep2 := hstep.trans hst
                exact ⟨st', ⟨hpx, stepP_ok hok hstep2, hL7.trans hL8, by rw [← hrun, runP_step (st := ⟨k4 :: r4, R, top, os' ++ [f]⟩), hstep2]⟩, stepP_len hstep2⟩
              | inr r =>
                rw [hst] at hR8
                cases r with
                | ok R' top' => exact hR8.elim
                | bad pos er =>
                  obtain ⟨rfl, b1, b2, b3, b4, b5, hm8⟩ := hR8
                  have hne : er ≠ 0 := oneP_bad hok.tok hst
                  have hL9 := hL7.trans hL8
                  simp -dsimp (disch := first | omega | (refine DrawYes.mk ?_; decide +kernel) | fail) only [go_sem, ↓reduceIte, reduceCtorEq, Nat.reduceEqDiff, Nat.reduceAdd, Nat.reduceLeDiff, Int.reduceLE, Int.reduceLT, Int.reduceBEq, Int.reduceBNe, Int.reduceEq, Nat.reduceBEq, Int.reduceToNat, Nat.reduceLT, Nat.reduceGT, Nat.reduceSub, Nat.reduceMul, Int.reduceAdd, Int.reduceSub, Int.reduceNeg, Int.reduceGE, Int.reduceGT, ↓Y_at, g2, g8]
                  have hres : parseTs (k :: k2 :: k3 :: r3) = ⟨0, [], [], pos, er⟩ := by
                    rw [hpt, ← hrun, runP_step (st := ⟨k4 :: r4, R, top, os' ++ [f]⟩), hstep.trans hst]
                    rfl
                  have hrb : H8.m H.next = some (.cells 26 [.int .i64 0, .nils, .nils]) := (hL9.same H.next (by omega)).trans hr1
                  have hErr : ((er : Nat) : Int) ≠ 0 := by omega
                  have hEb : ((((er : Nat) : Int) != 0)) = true := by simpa using hErr
                  have hExt : ∀ o, Ext H (H8.set H.next o) := fun o => ⟨by have := hL9.le; simp only [set_next]; omega, fun b hb => by rw [set_m, if_neg (by omega)]; exact (hL9.same b (by omega)).trans (hE1.same b hb)⟩
                  have y1 : ¬ H1.next = H.next := by omega
                  have y2 : ¬ H.next = H1.next := by omega
                  rw [YAt_eq]
                  simp -dsimp (disch := first | omega | (refine DrawYes.mk ?_; decide +kernel) | fail) only [go_sem, ↓reduceIte, reduceCtorEq, Nat.reduceEqDiff, Nat.reduceAdd, Nat.reduceLeDiff, Int.reduceLE, Int.reduceLT, Int.reduceBEq, Int.reduceBNe, Int.reduceEq, Nat.reduceBEq, Int.reduceToNat, Nat.reduceLT, Nat.reduceGT, Nat.reduceSub, Nat.reduceMul, Int.reduceAdd, Int.reduceSub, Int.reduceNeg, Int.reduceGE, Int.reduceGT, ↓Y_at, hm8, hEb, g2, g8]
                  refine Y_float [(4, 0, 12), (8, 0, 12)] (by decide +kernel) ?_
                  simp -dsimp (disch := first | omega | (refine DrawYes.mk ?_; decide +kernel) | fail) only [go_sem, ↓reduceIte, reduceCtorEq, Nat.reduceEqDiff, Nat.reduceAdd, Nat.reduceLeDiff, Int.reduceLE, Int.reduceLT, Int.reduceBEq, Int.reduceBNe, Int.reduceEq, Nat.reduceBEq, Int.reduceToNat, Nat.reduceLT, Nat.reduceGT, Nat.reduceSub, Nat.reduceMul, Int.reduceAdd, Int.reduceSub, Int.reduceNeg, Int.reduceGE, Int.reduceGT, ↓Y_at, hm8, hEb, hrb, y1, y2, g2, g8]
                  rw [hres]
                  exact ⟨hExt _, _, _, rfl, PrgV.nil⟩
        · rw [if_neg hc3] at hm6
          have hcd3 : decide (k3.kind = 4 ∧ (([[59]] : List (List UInt8)) = [] ∨ k3.text ∈ ([[59]] : List (List UInt8)))) = false := by simpa using hc3
          rw [hcd3]
          simp -dsimp (disch := first | omega | (refine DrawYes.mk ?_; decide +kernel) | fail) only [go_sem, ↓reduceIte, reduceCtorEq, Nat.reduceEqDiff, Nat.reduceAdd, Nat.reduceLeDiff, Int.reduceLE, Int.reduceLT, Int.reduceBEq, Int.reduceBNe, Int.reduceEq, Nat.reduceBEq, Int.reduceToNat, Nat.reduceLT, Nat.reduceGT, Nat.reduceSub, Nat.reduceMul, Int.reduceAdd, Int.reduceSub, Int.reduceNeg, Int.reduceGE, Int.reduceGT, ↓Y_at]
          refine call (pfail_ok (er := 20) (by omega) hm6) ?_
          rintro _ H7 ⟨rfl, hF7, hm7⟩
          simp -dsimp (disch := first | omega | (refine DrawYes.mk ?_; decide +kernel) | fail) only [go_sem, ↓reduceIte, reduceCtorEq, Nat.reduceEqDiff, Nat.reduceAdd, Nat.reduceLeDiff, Int.reduceLE, Int.reduceLT, Int.reduceBEq, Int.reduceBNe, Int.reduceEq, Nat.reduceBEq, Int.reduceToNat, Nat.reduceLT, Nat.reduceGT, Nat.reduceSub, Nat.reduceMul, Int.reduceAdd, Int.reduceSub, Int.reduceNeg, Int.reduceGE, Int.reduceGT, ↓Y_at]
          have hL7 : Low H1.next H1 H7 := hL6.frm hF7 (Nat.le_refl _) (by omega)
          have hres : parseTs (k :: k2 :: k3 :: r3) = ⟨0, [], [], k3.pos, 20⟩ := by
            unfold parseTs headP
            simp only [if_pos hcc1, if_pos hcc2]
            rw [if_neg (by simpa using hc3)]
          have hrb : H7.m H.next = some (.cells 26 [.int .i64 0, .nils, .nils]) := (hL7.same H.next (by omega)).trans hr1
          have hErr : ((20 : Nat) : Int) ≠ 0 := by omega
          have hEb : ((((20 : Nat) : Int) != 0)) = true := rfl
          have hExt : ∀ o, Ext H (H7.set H.next o) := fun o => ⟨by have := hL7.le; simp only [set_next]; omega, fun b hb => by rw [set_m, if_neg (by omega)]; exact (hL7.same b (by omega)).trans (hE1.same b hb)⟩
          have y1 : ¬ H1.next = H.next := by omega
          have y2 : ¬ H.next = H1.next := by omega
          refine Hd_goto rfl ?_
          simp -dsimp (disch := first | omega | (refine DrawYes.mk ?_; decide +kernel) | fail) only [go_sem, ↓reduceIte, reduceCtorEq, Nat.reduceEqDiff, Nat.reduceAdd, Nat.reduceLeDiff, Int.reduceLE, Int.reduceLT, Int.reduceBEq, Int.reduceBNe, Int.reduceEq, Nat.reduceBEq, Int.reduceToNat, Nat.reduceLT, Nat.reduceGT, Nat.reduceSub, Nat.reduceMul, Int.reduceAdd, Int.reduceSub, Int.reduceNeg, Int.reduceGE, Int.reduceGT, ↓Y_at, hm7, hEb]
          refine Y_float [(4, 0, 12), (8, 0, 12)] (by decide +kernel) ?_
          simp -dsimp (disch := first | omega | (refine DrawYes.mk ?_; decide +kernel) | fail) only [go_sem, ↓reduceIte, reduceCtorEq, Nat.reduceEqDiff, Nat.reduceAdd, Nat.reduceLeDiff, Int.reduceLE, Int.reduceLT, Int.reduceBEq, Int.reduceBNe, Int.reduceEq, Nat.reduceBEq, Int.reduceToNat, Nat.reduceLT, Nat.reduceGT, Nat.reduceSub, Nat.reduceMul, Int.reduceAdd, Int.reduceSub, Int.reduceNeg, Int.reduceGE, Int.reduceGT, ↓Y_at, hm7, hEb, hrb, y1, y2]
          rw [hres]
          exact ⟨hExt _, _, _, rfl, PrgV.nil⟩
      · rw [if_neg hc2] at hm5
        have hcd2 : decide (k2.kind = 1 ∧ (modeW = [] ∨ k2.text ∈ modeW)) = false := by simpa using hc2
        rw [hcd2]
        simp -dsimp (disch := first | omega | (refine DrawYes.mk ?_; decide +kernel) | fail) only [go_sem, ↓reduceIte, reduceCtorEq, Nat.reduceEqDiff, Nat.reduceAdd, Nat.reduceLeDiff, Int.reduceLE, Int.reduceLT, Int.reduceBEq, Int.reduceBNe, Int.reduceEq, Nat.reduceBEq, Int.reduceToNat, Nat.reduceLT, Nat.reduceGT, Nat.reduceSub, Nat.reduceMul, Int.reduceAdd, Int.reduceSub, Int.reduceNeg, Int.reduceGE, Int.reduceGT, ↓Y_at]
        refine call (pfail_ok (er := 20) (by omega) hm5) ?_
        rintro _ H7 ⟨rfl, hF7, hm7⟩
        simp -dsimp (disch := first | omega | (refine DrawYes.mk ?_; decide +kernel) | fail) only [go_sem, ↓reduceIte, reduceCtorEq, Nat.reduceEqDiff, Nat.reduceAdd, Nat.reduceLeDiff, Int.reduceLE, Int.reduceLT, Int.reduceBEq, Int.reduceBNe, Int.reduceEq, Nat.reduceBEq, Int.reduceToNat, Nat.reduceLT, Nat.reduceGT, Nat.reduceSub, Nat.reduceMul, Int.reduceAdd, Int.reduceSub, Int.reduceNeg, Int.reduceGE, Int.reduceGT, ↓Y_at]
        have hL7 : Low H1.next H1 H7 := hL5.frm hF7 (Nat.le_refl _) (by omega)
        have hres : parseTs (k :: k2 :: r2) = ⟨0, [], [], k2.pos, 20⟩ := by
          unfold parseTs headP
          simp only [if_pos hcc1]
          rw [if_neg (by simpa [modeW] using hc2)]
        have hrb : H7.m H.next = some (.cells 26 [.int .i64 0, .nils, .nils]) := (hL7.same H.next (by omega)).trans hr1
        have hErr : ((20 : Nat) : Int) ≠ 0 := by omega
        have hEb : ((((20 : Nat) : Int) != 0)) = true := rfl
        have hExt : ∀ o, Ext H (H7.set H.next o) := fun o => ⟨by have := hL7.le; simp only [set_next]; omega, fun b hb => by rw [set_m, if_neg (by omega)]; exact (hL7.same b (by omega)).trans (hE1.same b hb)⟩
        have y1 : ¬ H1.next = H.next := by omega
        have y2 : ¬ H.next = H1.next := by omega
        refine Hd_goto rfl ?_
        simp -dsimp (disch := first | omega | (refine DrawYes.mk ?_; decide +kernel) | fail) only [go_sem, ↓reduceIte, reduceCtorEq, Nat.reduceEqDiff, Nat.reduceAdd, Nat.reduceLeDiff, Int.reduceLE, Int.reduceLT, Int.reduceBEq, Int.reduceBNe, Int.reduceEq, Nat.reduceBEq, Int.reduceToNat, Nat.reduceLT, Nat.reduceGT, Nat.reduceSub, Nat.reduceMul, Int.reduceAdd, Int.reduceSub, Int.reduceNeg, Int.reduceGE, Int.reduceGT, ↓Y_at, hm7, hEb]
        refine Y_float [(4, 0, 12), (8, 0, 12)] (by decide +kernel) ?_
        simp -dsimp (disch := first | omega | (refine DrawYes.mk ?_; decide +kernel) | fail) only [go_sem, ↓reduceIte, reduceCtorEq, Nat.reduceEqDiff, Nat.reduceAdd, Nat.reduceLeDiff, Int.reduceLE, Int.reduceLT, Int.reduceBEq, Int.reduceBNe, Int.reduceEq, Nat.reduceBEq, Int.reduceToNat, Nat.reduceLT, Nat.reduceGT, Nat.reduceSub, Nat.reduceMul, Int.reduceAdd, Int.reduceSub, Int.reduceNeg, Int.reduceGE, Int.reduceGT, ↓Y_at, hm7, hEb, hrb, y1, y2]
        rw [hres]
        exact ⟨hExt _, _, _, rfl, PrgV.nil⟩
    · rw [if_neg hc1] at hm2
      have hcd1 : decide (k.kind = 1 ∧ ([modeWord] = [] ∨ k.text ∈ [modeWord])) = false := by simpa using hc1
      rw [hcd1]
      simp -dsimp (disch := first | omega | (refine DrawYes.mk ?_; decide +kernel) | fail) only [go_sem, ↓reduceIte, reduceCtorEq, Nat.reduceEqDiff, Nat.reduceAdd, Nat.reduceLeDiff, Int.reduceLE, Int.reduceLT, Int.reduceBEq, Int.reduceBNe, Int.reduceEq, Nat.reduceBEq, Int.reduceToNat, Nat.reduceLT, Nat.reduceGT, Nat.reduceSub, Nat.reduceMul, Int.reduceAdd, Int.reduceSub, Int.reduceNeg, Int.reduceGE, Int.reduceGT, ↓Y_at]
      refine call (pfail_ok (er := 20) (by omega) hm2) ?_
      rintro _ H3 ⟨rfl, hF3, hm3⟩
      simp -dsimp (disch := first | omega | (refine DrawYes.mk ?_; decide +kernel) | fail) only [go_sem, ↓reduceIte, reduceCtorEq, Nat.reduceEqDiff, Nat.reduceAdd, Nat.reduceLeDiff, Int.reduceLE, Int.reduceLT, Int.reduceBEq, Int.reduceBNe, Int.reduceEq, Nat.reduceBEq, Int.reduceToNat, Nat.reduceLT, Nat.reduceGT, Nat.reduceSub, Nat.reduceMul, Int.reduceAdd, Int.reduceSub, Int.reduceNeg, Int.reduceGE, Int.reduceGT, ↓Y_at]
      have hL3 : Low H1.next H1 H3 := hL2.frm hF3 (Nat.le_refl _) (Nat.le_refl _)
      have hres : parseTs (k :: tr) = ⟨0, [], [], k.pos, 20⟩ := by
        unfold parseTs headP
        simp only [if_neg (show ¬ (k.kind = 1 ∧ k.text = modeWord) by simpa using hc1)]
      have hrb : H3.m H.next = some (.cells 26 [.int .i64 0, .nils, .nils]) := (hL3.same H.next (by omega)).trans hr1
      have hErr : ((20 : Nat) : Int) ≠ 0 := by omega
      have hEb : ((((20 : Nat) : Int) != 0)) = true := rfl
      have hExt : ∀ o, Ext H (H3.set H.next o) := fun o => ⟨by have := hL3.le; simp only [set_next]; omega, fun b hb => by rw [set_m, if_neg (by omega)]; exact (hL3.same b (by omega)).trans (hE1.same b hb)⟩
      have y1 : ¬ H1.next = H.next := by omega
      have y2 : ¬ H.next = H1.next := by omega
      refine Hd_goto rfl ?_
      simp -dsimp (disch := first | omega | (refine DrawYes.mk ?_; decide +kernel) | fail) only [go_sem, ↓reduceIte, reduceCtorEq, Nat.reduceEqDiff, Nat.reduceAdd, Nat.reduceLeDiff, Int.reduceLE, Int.reduceLT, Int.reduceBEq, Int.reduceBNe, Int.reduceEq, Nat.reduceBEq, Int.reduceToNat, Nat.reduceLT, Nat.reduceGT, Nat.reduceSub, Nat.reduceMul, Int.reduceAdd, Int.reduceSub, Int.reduceNeg, Int.reduceGE, Int.reduceGT, ↓Y_at, hm3, hEb]
      refine Y_float [(4, 0, 12), (8, 0, 12)] (by decide +kernel) ?_
      simp -dsimp (disch := first | omega | (refine DrawYes.mk ?_; decide +kernel) | fail) only [go_sem, ↓reduceIte, reduceCtorEq, Nat.reduceEqDiff, Nat.reduceAdd, Nat.reduceLeDiff, Int.reduceLE, Int.reduceLT, Int.reduceBEq, Int.reduceBNe, Int.reduceEq, Nat.reduceBEq, Int.reduceToNat, Nat.reduceLT, Nat.reduceGT, Nat.reduceSub, Nat.reduceMul, Int.reduceAdd, Int.reduceSub, Int.reduceNeg, Int.reduceGE, Int.reduceGT, ↓Y_at, hm3, hEb, hrb, y1, y2]
      rw [hres]
      exact ⟨hExt _, _, _, rfl, PrgV.nil⟩
  · have j0 : (((lexAll s).2.2 : Int) != 0) = true := by simp; omega
    have hnil : lexAll s = ([], (lexAll s).2.1, (lexAll s).2.2) := by
      have : (lexAll s).1 = [] := by
        unfold lexAll at he ⊢
        split
        · rfl
        · rename_i h2
          rw [if_neg h2] at he
          exact scan_bad _ _ _ _ _ _ _ rfl he
      rw [← this]
    have hpa : parseAll s = ⟨0, [], [], (lexAll s).2.1, (lexAll s).2.2⟩ := by unfold parseAll; rw [if_neg he]
    rw [hpa]
    simp -dsimp (disch := first | omega | (refine DrawYes.mk ?_; decide +kernel) | fail) only [go_sem, ↓reduceIte, reduceCtorEq, Nat.reduceEqDiff, Nat.reduceAdd, Nat.reduceLeDiff, Int.reduceLE, Int.reduceLT, Int.reduceBEq, Int.reduceBNe, Int.reduceEq, Nat.reduceBEq, Int.reduceToNat, Nat.reduceLT, Nat.reduceGT, Nat.reduceSub, Nat.reduceMul, Int.reduceAdd, Int.reduceSub, Int.reduceNeg, Int.reduceGE, Int.reduceGT, j0, hr1]
    exact ⟨hE1.set (Nat.le_refl _), _, _, rfl, PrgV.nil⟩
end Go.Proofs.YtcknfhhbijlobaaDoor.D
