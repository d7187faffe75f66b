import Derived.Test.YtcknfhhbijlobaaGreatDoorR15e
namespace Go.Proofs.YtcknfhhbijlobaaGreatDoor.D
open Go
set_option linter.unusedVariables false
set_option linter.unusedSimpArgs false
set_option maxRecDepth 100000
theorem rmode_ok {s : List UInt8} {H : DH} : WC cfg 20 [.str s] H fun v H' => v = .int .i64 (modeL s) ∧ H' = H := by
 refine WC_of (show Has cfg 20 10 [.tmp 2] _ from ⟨by kernel_rfl, Tryz.f20, Tryz.func20, rfl, rfl, rfl, by kernel_rfl⟩) (by simp) ?_
 by_cases e1 : s = [115, 109, 116, 112]
 ·subst e1
  simp -dsimp (disch := first | omega | (apply DrawYes.mk; decide +kernel)) only [go_sem]
  rfl
 have b1 : (s == [115, 109, 116, 112]) = false := beq_eq_false_iff_ne.2 e1
 by_cases e2 : s = [112, 111, 112, 51]
 ·subst e2
  have b1 : (([112, 111, 112, 51] : List UInt8) == [115, 109, 116, 112]) = false := rfl
  simp -dsimp (disch := first | omega | (apply DrawYes.mk; decide +kernel)) only [go_sem, b1]
  rfl
 have b2 : (s == [112, 111, 112, 51]) = false := beq_eq_false_iff_ne.2 e2
 by_cases e3 : s = [102, 116, 112]
 ·subst e3
  have b1 : (([102, 116, 112] : List UInt8) == [115, 109, 116, 112]) = false := rfl
  have b2 : (([102, 116, 112] : List UInt8) == [112, 111, 112, 51]) = false := rfl
  simp -dsimp (disch := first | omega | (apply DrawYes.mk; decide +kernel)) only [go_sem, b1, b2]
  rfl
 have b3 : (s == [102, 116, 112]) = false := beq_eq_false_iff_ne.2 e3
 have hm : modeL s = 0 := by unfold modeL; rw [if_neg e1, if_neg e2, if_neg e3]
 rw [hm]
 simp -dsimp (disch := first | omega | (apply DrawYes.mk; decide +kernel)) only [go_sem, b1, b2, b3]
theorem modeL_zero {s : List UInt8} : modeL s = 0 ↔ s ∉ modeW := by
 unfold modeL modeW
 by_cases e1 : s = [115, 109, 116, 112]
 ·rw [if_pos e1]; simp [e1]
 by_cases e2 : s = [112, 111, 112, 51]
 ·rw [if_neg e1, if_pos e2]; simp [e2]
 by_cases e3 : s = [102, 116, 112]
 ·rw [if_neg e1, if_neg e2, if_pos e3]; simp [e3]
 rw [if_neg e1, if_neg e2, if_neg e3]; simp [e1, e2, e3]
theorem RdS.frm {lo : Nat} {H H' : DH} {p id off j : Nat} {all : List Tok} {i : Nat} {R : List Stm} {rowv : DV} {e fr : Nat} (hr : RdS lo H p id off all i R rowv e fr) (x : Frm [j] H H') (h1 : p ≠ j) (h2 : j ∉ slid rowv) : RdS lo H' p id off all i R rowv e fr := by
 obtain ⟨es2, g1, g2⟩ := hr.row
 refine ⟨Nat.lt_of_lt_of_le hr.hp x.le, (x.same p hr.hp (by simpa using h1)).trans hr.obj, Nat.le_trans hr.hlo x.le, es2, g1.keep x.le (fun y hy => ?_), g2⟩
 obtain ⟨_, y2, _⟩ := hr.tip y hy
 refine x.same y y2 (fun hc => ?_)
 simp at hc; subst hc; exact h2 hy
theorem IsSl.frmR {lo lo' : Nat} {H H' : DH} {p id off : Nat} {all : List Tok} {i : Nat} {R : List Stm} {rowv : DV} {e fr ty sz : Nat} {v : DV} {es : List DV} (h : IsSl lo' H ty sz v es) (x : Frm (p :: slid rowv) H H') (hr : RdS lo H p id off all i R rowv e fr) (hne : ty ≠ 40) : IsSl lo' H' ty sz v es := by
 refine h.keep x.le (fun y hy => ?_)
 obtain ⟨_, h2, k, h3⟩ := h.tip y hy
 refine x.same y h2 (fun hc => ?_)
 rcases List.mem_cons.1 hc with hc | hc
 ·subst hc; rw [hr.obj] at h3; cases h3
 ·obtain ⟨_, _, _, k2, hk2⟩ := hr.tip y hc
  rw [hk2] at h3; cases h3; exact hne rfl
theorem rrtakeE_ok {p id off i e fr kd : Nat} {k : Tok} {all : List Tok} {rowv : DV} {H : DH} (hp : p < H.next) (hm : H.m p = some (rdC id off all i rowv e fr)) (hk : all[i]? = some k) (hi : i < 100000) (he : e ≠ 0) :
  WC cfg 49 [.ptr p 0, .int .i64 kd] H fun v H' => (∃ t, v = .str t) ∧ Frm [p] H H' ∧ H'.m p = some (rdC id off all i rowv e fr) := by
 refine WC_mono (rrtake_ok hp hm hk hi) ?_
 rintro v H' ⟨h1, h2, h3⟩
 rw [if_neg (fun h => he h.1), if_neg he, if_neg he] at h3
 exact ⟨⟨_, h1⟩, h2, h3⟩
theorem rrsignE_ok {p id off i e fr : Nat} {tx : List UInt8} {k : Tok} {all : List Tok} {rowv : DV} {H : DH} (hp : p < H.next) (hm : H.m p = some (rdC id off all i rowv e fr)) (hk : all[i]? = some k) (hi : i < 100000) (he : e ≠ 0) :
  WC cfg 50 [.ptr p 0, .str tx] H fun v H' => v = .tup [] ∧ Frm [p] H H' ∧ H'.m p = some (rdC id off all i rowv e fr) := by
 refine WC_mono (rrsign_ok hp hm hk hi) ?_
 rintro v H' ⟨h1, h2, h3⟩
 rw [if_neg (fun h => he h.1), if_neg he, if_neg he] at h3
 exact ⟨h1, h2, h3⟩
theorem rparse_ok {s : List UInt8} {H : DH} (hs : s.length < 1000000) : WC cfg 17 [.str s] H fun v H' => Ext H H' ∧
  ∃ stmv topv, v = .tup [.agg [.int .i64 (parseAll s).mode, stmv, topv], .int .i64 (parseAll s).at_, .int .i64 (parseAll s).e] ∧ PrgV (parseAll s).R (parseAll s).top stmv topv := by
 refine WC_of (show Has cfg 17 128 [.cell 2 27, .tmp 3, .tmp 4] _ from ⟨by kernel_rfl, Tryz.f17, Tryz.func17, rfl, rfl, rfl, by kernel_rfl⟩) (by simp) ?_
 simp -dsimp (disch := first | omega | (apply DrawYes.mk; decide +kernel)) only [go_sem]
 refine call (rall_ok hs) ?_
 rintro _ H1 ⟨hE, v', rfl, hsl⟩
 have hle1 := hE.le
 simp only [new_next] at hle1
 have hro1 : H1.m H.next = some (.cells 27 [.int .i64 0, .nils, .nils]) := hE.get (by simp only [new_next]; omega) (by rw [new_m, if_pos rfl])
 have hE1 : Ext H H1 := (Ext.refl.new).trans hE
 by_cases he : (lexAll s).2.2 = 0
 ·have j0 : (((lexAll s).2.2 : Int) != 0) = false := by simp; omega
  obtain ⟨⟨all, at0, e0⟩, hq⟩ : ∃ q, lexAll s = q := ⟨_, rfl⟩
  rw [hq] at hsl he j0
  simp only at hsl he j0
  subst he
  obtain ⟨htk, rfl⟩ := lex_tok hq
  have hpa : parseAll s = parseTs all := by unfold parseAll; rw [hq]; rfl
  rw [hpa, hq]
  have hT0 : TokOk (all.drop 0) := htk
  obtain ⟨k1, hk1, hd1, hl1⟩ := hT0.at
  have hlt := htk.len
  rcases hsl with ⟨_, g⟩ | ⟨id, off, kk, rfl, _⟩
  ·rw [List.map_eq_nil_iff] at g; rw [g] at hl1; simp at hl1
  simp only
  simp -dsimp (disch := first | omega | (apply DrawYes.mk; decide +kernel)) only [go_sem, j0]
  generalize hpE : H1.next = p at *
  have hm1 : (H1.new (rdC id off all 0 .nils 0 0)).m p = some (rdC id off all 0 .nils 0 0) := by rw [new_m, hpE, if_pos rfl]
  have hp1 : p < (H1.new (rdC id off all 0 .nils 0 0)).next := by simp only [new_next]; omega
  refine call (rris_ok (kd := 1) (tx := [109, 111, 100, 101]) hp1 hm1 hk1) ?_
  rintro _ Hx ⟨rfl, hHx⟩
  rw [hHx]; clear hHx Hx
  refine WO_cut (fun σ H' => H' = H1.new (rdC id off all 0 .nils 0 0) ∧ σ 2 = .ptr H.next 0 ∧ σ 8 = .ptr p 0 ∧ σ 9 = .bool (decide (k1.kind = 1 ∧ k1.text = [109, 111, 100, 101]))) (by simp -dsimp (disch := first | omega | (apply DrawYes.mk; decide +kernel)) only [go_sem]; rfl) ?_
  rintro σ Hx ⟨hHx, s2, s8, s9⟩
  rw [hHx]; clear hHx Hx
  refine Y_as (Y_as (Y_as (Y_as (Y_as ?_))))
  rw [Y_seq]
  refine Y_cut (fun σ H' => σ 2 = .ptr H.next 0 ∧ σ 8 = .ptr p 0 ∧ ∃ q md i1 e1 fr1, σ 10 = .ptr q 0 ∧ p < q ∧ q < H'.next ∧ H'.m q = some (.cells 27 [.int .i64 (md : Nat), .nils, .nils]) ∧ H'.m p = some (rdC id off all i1 .nils e1 fr1) ∧ Frm [p] (H1.new (rdC id off all 0 .nils 0 0)) H' ∧
   ((e1 = 0 ∧ i1 = 3 ∧ headP all = .inl (md, all.drop 3) ∧ TokOk (all.drop 3)) ∨ (e1 = 20 ∧ headP all = .inr fr1 ∧ i1 < all.length))) ?_ ?_
  ·rw [show all = k1 :: all.drop 1 from hd1] at htk
   by_cases hc1 : k1.kind = 1 ∧ k1.text = modeWord
   ·have d1 : decide (k1.kind = 1 ∧ k1.text = [109, 111, 100, 101]) = true := decide_eq_true hc1
    have hT1 : TokOk (all.drop 1) := htk.tail (by rw [hc1.1]; decide)
    obtain ⟨k2, hk2, hd2, hl2⟩ := hT1.at
    simp -dsimp (disch := first | omega | (apply DrawYes.mk; decide +kernel)) only [go_sem, s2, s8, s9, d1]
    refine call (rrtake_ok (kd := 1) hp1 hm1 hk1 (by omega)) ?_
    rintro _ H3 ⟨rfl, hF3, hm3⟩
    rw [if_pos ⟨rfl, hc1.1⟩] at hm3
    have hp3 : p < H3.next := Nat.lt_of_lt_of_le hp1 hF3.le
    have ht2 := tok_at hk2
    have n1 : ¬ p = H3.next := by omega
    have n2 : ¬ H3.next = p := by omega
    simp -dsimp (disch := first | omega | (apply DrawYes.mk; decide +kernel)) only [go_sem, s2, s8, hm3, ht2, n1, n2]
    refine call rmode_ok ?_
    rintro _ Hx ⟨rfl, hHx⟩
    rw [hHx]; clear hHx Hx
    have hqF : ∀ o o', Frm [p] (H1.new (rdC id off all 0 .nils 0 0)) (((H3.new o).set H3.next o').set H3.next (.cells 27 [.int .i64 (modeL k2.text), .nils, .nils])) := fun o o' => ((hF3.new).set (.inr hF3.le)).set (.inr hF3.le)
    have hqm : ∀ o o', (((H3.new o).set H3.next o').set H3.next (.cells 27 [.int .i64 (modeL k2.text), .nils, .nils])).m p = some (rdC id off all 1 .nils 0 0) := fun o o' => by rw [set_m, if_neg n1, set_m, if_neg n1, new_m, if_neg n1]; exact hm3
    have hqq : ∀ o o', (((H3.new o).set H3.next o').set H3.next (.cells 27 [.int .i64 (modeL k2.text), .nils, .nils])).m H3.next = some (.cells 27 [.int .i64 (modeL k2.text), .nils, .nils]) := fun o o' => by rw [set_m, if_pos rfl]
    have hqp : ∀ o o', p < (((H3.new o).set H3.next o').set H3.next (.cells 27 [.int .i64 (modeL k2.text), .nils, .nils])).next := fun o o' => by simp only [set_next, new_next]; omega
    have hql : ∀ o o', H3.next < (((H3.new o).set H3.next o').set H3.next (.cells 27 [.int .i64 (modeL k2.text), .nils, .nils])).next := fun o o' => by simp only [set_next, new_next]; omega
    by_cases hc2 : k2.kind = 1 ∧ k2.text ∈ modeW
    ·have z1 : ((k2.kind : Int) != 1) = false := by simp; omega
     have z2 : ((modeL k2.text : Int) == 0) = false := by
      have := mt modeL_zero.1 (fun h => h hc2.2)
      simp; omega
     simp -dsimp (disch := first | omega | (apply DrawYes.mk; decide +kernel)) only [go_sem, s2, s8, hm3, ht2, n1, n2, z1, z2]
     have hT2 : TokOk (all.drop 2) := by rw [hd2] at hT1; exact hT1.tail (by rw [hc2.1]; decide)
     obtain ⟨k3, hk3, hd3, hl3⟩ := hT2.at
     refine call (rrtake_ok (kd := 1) (hqp _ _) (hqm _ _) hk2 (by omega)) ?_
     rintro _ H4 ⟨rfl, hF4, hm4⟩
     rw [if_pos ⟨rfl, hc2.1⟩] at hm4
     have hlt4 : p < H4.next := Nat.lt_of_lt_of_le (hqp _ _) hF4.le
     have hqq4 : H4.m H3.next = _ := (hF4.same _ (hql _ _) (by simpa using n2)).trans (hqq _ _)
     have hql4 : H3.next < H4.next := Nat.lt_of_lt_of_le (hql _ _) hF4.le
     simp -dsimp (disch := first | omega | (apply DrawYes.mk; decide +kernel)) only [go_sem, s2, s8]
     refine call (rrsign_ok hlt4 hm4 hk3 (by omega)) ?_
     rintro _ H5 ⟨rfl, hF5, hm5⟩
     have hqq5 := (hF5.same _ hql4 (by simpa using n2)).trans hqq4
     simp -dsimp (disch := first | omega | (apply DrawYes.mk; decide +kernel)) only [go_sem, s2, s8]
     have hd1' : all = k1 :: all.drop 1 := hd1
     by_cases hc3 : k3.kind = 4 ∧ k3.text = [59]
     ·rw [if_pos ⟨rfl, hc3⟩] at hm5
      have hhead : headP all = .inl (modeL k2.text, all.drop 3) := by
       rw [hd1', hd2, hd3]; unfold headP; simp only [if_pos hc1, if_pos hc2, if_pos hc3]
       rw [← hd3, ← hd2, ← hd1']
      exact ⟨H3.next, modeL k2.text, 3, 0, 0, rfl, by omega, Nat.lt_of_lt_of_le hql4 hF5.le, hqq5, hm5, (hqF _ _).trans (hF4.trans hF5), .inl ⟨rfl, rfl, hhead, by rw [hd3] at hT2; exact hT2.tail (by rw [hc3.1]; decide)⟩⟩
     ·rw [if_neg (show ¬ (0 = 0 ∧ k3.kind = 4 ∧ k3.text = [59]) from fun h => hc3 h.2), if_pos rfl, if_pos rfl] at hm5
      have hhead : headP all = .inr k3.pos := by
       rw [hd1', hd2, hd3]; unfold headP; simp only [if_pos hc1, if_pos hc2, if_neg hc3]
      exact ⟨H3.next, modeL k2.text, 2, 20, k3.pos, rfl, by omega, Nat.lt_of_lt_of_le hql4 hF5.le, hqq5, hm5, (hqF _ _).trans (hF4.trans hF5), .inr ⟨rfl, hhead, hl3⟩⟩
    ·have hz : ((k2.kind : Int) != 1) = true ∨ (((k2.kind : Int) != 1) = false ∧ ((modeL k2.text : Int) == 0) = true) := by
      by_cases h : k2.kind = 1
      ·refine .inr ⟨by simp; omega, ?_⟩
       have := modeL_zero.2 (fun hh => hc2 ⟨h, hh⟩)
       simp; omega
      ·exact .inl (by simp; omega)
     have hhead : headP all = .inr k2.pos := by
      have hd1' : all = k1 :: all.drop 1 := hd1
      rw [hd1', hd2]; unfold headP; simp only [if_pos hc1, if_neg hc2]
     rcases hz with z1 | ⟨z1, z2⟩
     ·simp -dsimp (disch := first | omega | (apply DrawYes.mk; decide +kernel)) only [go_sem, s2, s8, hm3, ht2, n1, n2, z1]
      refine call (rrfail_ok (er := 20) (hqp _ _) (hqm _ _) hk2) ?_
      rintro _ H4 ⟨rfl, hF4, hm4⟩
      rw [if_pos rfl, if_pos rfl] at hm4
      have hlt4 : p < H4.next := Nat.lt_of_lt_of_le (hqp _ _) hF4.le
      have hqq4 : H4.m H3.next = _ := (hF4.same _ (hql _ _) (by simpa using n2)).trans (hqq _ _)
      have hql4 : H3.next < H4.next := Nat.lt_of_lt_of_le (hql _ _) hF4.le
      simp -dsimp (disch := first | omega | (apply DrawYes.mk; decide +kernel)) only [go_sem, s2, s8]
      refine call (rrtakeE_ok (kd := 1) hlt4 hm4 hk2 (by omega) (by decide)) ?_
      rintro _ H5 ⟨⟨t, rfl⟩, hF5, hm5⟩
      have hlt5 : p < H5.next := Nat.lt_of_lt_of_le hlt4 hF5.le
      simp -dsimp (disch := first | omega | (apply DrawYes.mk; decide +kernel)) only [go_sem, s2, s8]
      refine call (rrsignE_ok hlt5 hm5 hk2 (by omega) (by decide)) ?_
      rintro _ H6 ⟨rfl, hF6, hm6⟩
      have hF56 := hF5.trans hF6
      have hqq6 := (hF56.same _ hql4 (by simpa using n2)).trans hqq4
      simp -dsimp (disch := first | omega | (apply DrawYes.mk; decide +kernel)) only [go_sem, s2, s8]
      exact ⟨H3.next, modeL k2.text, 1, 20, k2.pos, rfl, by omega, Nat.lt_of_lt_of_le hql4 hF56.le, hqq6, hm6, (hqF _ _).trans (hF4.trans hF56), .inr ⟨rfl, hhead, hl2⟩⟩
     ·simp -dsimp (disch := first | omega | (apply DrawYes.mk; decide +kernel)) only [go_sem, s2, s8, hm3, ht2, n1, n2, z1, z2]
      refine call (rrfail_ok (er := 20) (hqp _ _) (hqm _ _) hk2) ?_
      rintro _ H4 ⟨rfl, hF4, hm4⟩
      rw [if_pos rfl, if_pos rfl] at hm4
      have hlt4 : p < H4.next := Nat.lt_of_lt_of_le (hqp _ _) hF4.le
      have hqq4 : H4.m H3.next = _ := (hF4.same _ (hql _ _) (by simpa using n2)).trans (hqq _ _)
      have hql4 : H3.next < H4.next := Nat.lt_of_lt_of_le (hql _ _) hF4.le
      simp -dsimp (disch := first | omega | (apply DrawYes.mk; decide +kernel)) only [go_sem, s2, s8]
      refine call (rrtakeE_ok (kd := 1) hlt4 hm4 hk2 (by omega) (by decide)) ?_
      rintro _ H5 ⟨⟨t, rfl⟩, hF5, hm5⟩
      have hlt5 : p < H5.next := Nat.lt_of_lt_of_le hlt4 hF5.le
      simp -dsimp (disch := first | omega | (apply DrawYes.mk; decide +kernel)) only [go_sem, s2, s8]
      refine call (rrsignE_ok hlt5 hm5 hk2 (by omega) (by decide)) ?_
      rintro _ H6 ⟨rfl, hF6, hm6⟩
      have hF56 := hF5.trans hF6
      have hqq6 := (hF56.same _ hql4 (by simpa using n2)).trans hqq4
      simp -dsimp (disch := first | omega | (apply DrawYes.mk; decide +kernel)) only [go_sem, s2, s8]
      exact ⟨H3.next, modeL k2.text, 1, 20, k2.pos, rfl, by omega, Nat.lt_of_lt_of_le hql4 hF56.le, hqq6, hm6, (hqF _ _).trans (hF4.trans hF56), .inr ⟨rfl, hhead, hl2⟩⟩
   ·have d1 : decide (k1.kind = 1 ∧ k1.text = [109, 111, 100, 101]) = false := decide_eq_false hc1
    have hhead : headP all = .inr k1.pos := by
     have hd1' : all = k1 :: all.drop 1 := hd1
     rw [hd1']; unfold headP; simp only [if_neg hc1]
    simp -dsimp (disch := first | omega | (apply DrawYes.mk; decide +kernel)) only [go_sem, s2, s8, s9, d1]
    refine call (rrfail_ok (er := 20) hp1 hm1 hk1) ?_
    rintro _ H2 ⟨rfl, hF2, hm2⟩
    rw [if_pos rfl, if_pos rfl] at hm2
    have hp2 : p < H2.next := Nat.lt_of_lt_of_le hp1 hF2.le
    simp -dsimp (disch := first | omega | (apply DrawYes.mk; decide +kernel)) only [go_sem, s2, s8]
    refine call (rrtakeE_ok (kd := 1) hp2 hm2 hk1 (by omega) (by decide)) ?_
    rintro _ H3 ⟨⟨t, rfl⟩, hF3, hm3⟩
    have hp3 : p < H3.next := Nat.lt_of_lt_of_le hp2 hF3.le
    have n1 : ¬ p = H3.next := by omega
    have n2 : ¬ H3.next = p := by omega
    have hqF : ∀ o o', Frm [p] (H1.new (rdC id off all 0 .nils 0 0)) ((H3.new o).set H3.next o') := fun o o' => ((hF2.trans hF3).new).set (.inr (hF2.trans hF3).le)
    have hqm : ∀ o o', ((H3.new o).set H3.next o').m p = some (rdC id off all 0 .nils 20 k1.pos) := fun o o' => by rw [set_m, if_neg n1, new_m, if_neg n1]; exact hm3
    simp -dsimp (disch := first | omega | (apply DrawYes.mk; decide +kernel)) only [go_sem, s2, s8, hm3, n1, n2]
    refine call (rrtakeE_ok (kd := 1) (by simp only [set_next, new_next]; omega) (hqm _ _) hk1 (by omega) (by decide)) ?_
    rintro _ H4 ⟨⟨t, rfl⟩, hF4, hm4⟩
    have hlt4 : p < H4.next := by have := hF4.le; simp only [set_next, new_next] at this; omega
    have hqq4 : H4.m H3.next = some (.cells 27 [.int .i64 (0 : Nat), .nils, .nils]) := by rw [hF4.same _ (by simp only [set_next, new_next]; omega) (by simpa using n2), set_m, if_pos rfl]; rfl
    simp -dsimp (disch := first | omega | (apply DrawYes.mk; decide +kernel)) only [go_sem, s2, s8]
    refine call (rrsignE_ok hlt4 hm4 hk1 (by omega) (by decide)) ?_
    rintro _ H5 ⟨rfl, hF5, hm5⟩
    have hle4 := hF4.le
    simp only [set_next, new_next] at hle4
    simp -dsimp (disch := first | omega | (apply DrawYes.mk; decide +kernel)) only [go_sem, s2, s8]
    exact ⟨H3.next, 0, 0, 20, k1.pos, rfl, by omega, Nat.lt_of_lt_of_le (Nat.lt_of_lt_of_le (Nat.lt_succ_self _) hle4) hF5.le, by rw [hF5.same _ (by omega) (by simpa using n2)]; exact hqq4, hm5, (hqF _ _).trans (hF4.trans hF5), .inr ⟨rfl, hhead, hl1⟩⟩
  ·clear s2 s8 s9 σ
   rintro σ H2 ⟨s2, s8, q, md, i1, e1, fr1, s10, hpq, hq2, hmq2, hm2, hF2, hc⟩
   have hle2 := hF2.le
   simp only [new_next] at hle2
   have hro2 : H2.m H.next = some (.cells 27 [.int .i64 0, .nils, .nils]) := by rw [hF2.same _ (by simp only [new_next]; omega) (by simp; omega), new_m, if_neg (by omega)]; exact hro1
   have hqp : q ≠ p := by omega
   have hExt : ∀ H' : DH, (∀ b, b < H2.next → b ≠ p → b ≠ q → H'.m b = H2.m b) → H2.next ≤ H'.next → ∀ o, Ext H (H'.set H.next o) := fun H' h1 h2 o => ⟨by simp only [set_next]; omega, fun b hb => by
    rw [set_m, if_neg (by omega), h1 b (by omega) (by omega) (by omega), hF2.same b (by simp only [new_next]; omega) (by simp; omega), new_m, if_neg (by omega)]
    exact hE1.same b hb⟩
   simp -dsimp (disch := first | omega | (apply DrawYes.mk; decide +kernel)) only [go_sem, s2, s8, s10]
   refine Y_loop (α := Nat × List Stm × DV × Nat × Nat × List Nat × DV) (fun x σ H' => RdS H2.next H' p id off all x.1 x.2.1 x.2.2.1 x.2.2.2.1 x.2.2.2.2.1 ∧ (∀ b, b < H2.next → b ≠ p → b ≠ q → H'.m b = H2.m b) ∧ H'.m q = some (.cells 27 [.int .i64 md, .nils, x.2.2.2.2.2.2]) ∧ IsSl H2.next H' 3 1 x.2.2.2.2.2.2 (x.2.2.2.2.2.1.map intV) ∧ x.2.1.length ≤ x.1 ∧ x.1 < all.length ∧ σ 2 = .ptr H.next 0 ∧ σ 8 = .ptr p 0 ∧ σ 10 = .ptr q 0 ∧
    ((x.2.2.2.1 = 0 ∧ x.2.2.2.2.2.1.length ≤ x.1 ∧ TokOk (all.drop x.1) ∧ parseTs all = finP md (runP ⟨all.drop x.1, x.2.1, x.2.2.2.2.2.1, []⟩)) ∨ (x.2.2.2.1 ≠ 0 ∧ parseTs all = ⟨0, [], [], x.2.2.2.2.1, x.2.2.2.1⟩)))
    (fun x => if x.2.2.2.1 = 0 then all.length - x.1 + 1 else 0) (i1, [], .nils, e1, fr1, [], .nils) ?_ ?_
   ·simp -dsimp (disch := first | omega | (apply DrawYes.mk; decide +kernel)) only [go_sem, s2, s8, s10]
    have hi1 : i1 < all.length := by
     rcases hc with ⟨_, rfl, _, h⟩ | ⟨_, _, h⟩
     ·obtain ⟨_, _, _, h⟩ := h.at; exact h
     ·exact h
    refine ⟨⟨by omega, hm2, Nat.le_refl _, [], .inl ⟨rfl, rfl⟩, .nil⟩, hmq2, .inl ⟨rfl, rfl⟩, Nat.zero_le _, hi1, ?_⟩
    rcases hc with ⟨h1, rfl, h3, h4⟩ | ⟨rfl, h2, h3⟩
    ·refine .inl ⟨h1, Nat.zero_le _, h4, ?_⟩
     unfold parseTs; rw [h3]
    ·refine .inr ⟨by decide, ?_⟩
     unfold parseTs; rw [h2]
   clear s2 s8 s10 σ
   rintro ⟨i3, R3, rowv3, e3, fr3, top, topv⟩ σ H3 ⟨hr3, hsame, hq3, htop, hRl, hi3, s2, s8, s10, hc3⟩
   dsimp only at hr3 hq3 htop hRl hi3 hc3
   obtain ⟨k3, hk3⟩ : ∃ k3, all[i3]? = some k3 := ⟨_, List.getElem?_eq_getElem hi3⟩
   have hm3 := hr3.obj
   have hp3 := hr3.hp
   have hle3 := hr3.hlo
   have ht3 := tok_at hk3
   have y1 : ¬ p = H.next := by omega
   have y2 : ¬ H.next = p := by omega
   have y3 : ¬ q = H.next := by omega
   have y4 : ¬ H.next = q := by omega
   have hro3 : H3.m H.next = some (.cells 27 [.int .i64 0, .nils, .nils]) := (hsame _ (by omega) (by omega) (by omega)).trans hro2
   by_cases he3 : e3 = 0
   ·subst he3
    obtain ⟨hol, htk3, hrun⟩ : top.length ≤ i3 ∧ TokOk (all.drop i3) ∧ parseTs all = finP md (runP ⟨all.drop i3, R3, top, []⟩) := by
     rcases hc3 with ⟨_, h⟩ | ⟨h, _⟩
     ·exact h
     ·exact absurd rfl h
    obtain ⟨k3', x1, hd3, _⟩ := htk3.at
    rw [hk3] at x1; cases x1
    rw [hd3, run_top] at hrun
    by_cases hkz : k3.kind = 0
    ·have z0 : ((k3.kind : Int) != 0) = false := by simp; omega
     rw [if_pos hkz] at hrun
     rw [hrun]
     obtain ⟨es, hes, hall⟩ := hr3.row
     have hlen : ∀ H', lenD cfg.T H' 24 rowv3 = some (.int .i64 R3.length) := fun H' => by rw [hes.len und_24, ← hall.len]
     obtain ⟨c1, c2⟩ := hes.one
     obtain ⟨c3, c4⟩ := htop.one
     by_cases hbig : 100 < R3.length
     ·have q1 : (100 : Int) < R3.length := by omega
      simp -dsimp (disch := first | omega | (apply DrawYes.mk; decide +kernel)) only [go_sem, s2, s8, s10, hm3, ht3, z0, hlen, q1, hro3]
      simp only [finP, if_pos hbig]
      exact ⟨by omega, hExt H3 hsame hle3 _, _, _, rfl, PrgV.nil⟩
     ·have q1 : ¬ (100 : Int) < R3.length := by omega
      simp -dsimp (disch := first | omega | (apply DrawYes.mk; decide +kernel)) only [go_sem, s2, s8, s10, hm3, ht3, z0, hlen, q1, hro3, hq3, y1, y2, y3, y4, c1, c2, c3, c4]
      simp only [finP, if_neg hbig]
      refine ⟨by omega, hExt (H3.set q _) (fun b hb h1 h2 => by rw [set_m, if_neg h2]; exact hsame b hb h1 h2) hle3 _, _, _, rfl, ⟨es, ?_, hall⟩, htop.ints⟩
      rcases hes with ⟨h1, h2⟩ | ⟨id2, off2, k2, h1, _⟩
      ·exact .inl ⟨h1, h2⟩
      ·exact .inr ⟨id2, off2, h1⟩
    ·have z0 : ((k3.kind : Int) != 0) = true := by simp; omega
     rw [if_neg hkz] at hrun
     simp -dsimp (disch := first | omega | (apply DrawYes.mk; decide +kernel)) only [go_sem, s2, s8, s10, hm3, ht3, z0]
     refine ⟨by omega, ?_⟩
     refine Y_float [(1, 4, 5)] (by decide +kernel) ?_
     simp -dsimp (disch := first | omega | (apply DrawYes.mk; decide +kernel)) only [go_sem, s2, s8, s10, hm3, hq3]
     refine call (one_ok hlt _ H3 i3 fr3 0 R3 rowv3 k3 hr3 htk3 hk3 (Nat.lt_succ_self _) (by decide) hRl) ?_
     rintro _ H4 ⟨i4, R4, rowv4, e4, fr4, n, hr4, hF4, hsl4, hlen4, rfl, hc4⟩
     have hqs : q ∉ slid rowv3 := fun h => by
      obtain ⟨_, _, _, k9, h9⟩ := hr3.tip q h
      rw [hq3] at h9; cases h9
     have hql3 : q < H3.next := by omega
     have hq4 : H4.m q = some (.cells 27 [.int .i64 md, .nils, topv]) := (hF4.same q hql3 (by simp [hqp, hqs])).trans hq3
     have htop4 := htop.frmR hF4 hr3 (by decide)
     have hle4 := hF4.le
     obtain ⟨c3, c4⟩ := htop.one
     have hi4 : i4 < all.length := by
      rcases hc4 with ⟨_, h, _⟩ | ⟨_, _, _, h, _⟩
      ·exact h
      ·obtain ⟨_, _, _, h⟩ := h.at; exact h
     have yq4 : ¬ q = H4.next := by omega
     simp -dsimp (disch := first | omega | (apply DrawYes.mk; decide +kernel)) only [go_sem, s2, s8, s10, hq4, intV, yq4, c3, c4]
     have htopN : IsSl H2.next (H4.new (.tip 3 1 true)) 3 1 topv (top.map intV) := htop4.keep (Nat.le_succ _) (fun y hy => by obtain ⟨_, y2, _⟩ := htop4.tip y hy; rw [new_m, if_neg (Nat.ne_of_lt y2)])
     refine app2 (lo := H2.next) (es := top.map intV) (new := [.int .i64 n]) und_25 size_3 bytes_3 und_25 zero_3 rfl rfl (by decide) htopN rfl (by simp) (by simp only [new_next]; omega) (by simp; omega) (by simp; omega) ?_
     intro topv2 H5 i5 ht5 hn5 hf5 hi5 ho5
     simp only [new_next] at hn5
     have hp4 := hr4.hp
     have hi5p : i5 ≠ p ∧ i5 ≠ q ∧ i5 ∉ slid rowv4 ∧ H2.next ≤ i5 := by
      rcases ho5 with g | g
      ·obtain ⟨g1, g2, k8, g3⟩ := htop4.tip i5 (by rw [g]; simp)
       refine ⟨fun h => ?_, fun h => ?_, fun h => ?_, g1⟩
       ·subst h; rw [hr4.obj] at g3; cases g3
       ·subst h; rw [hq4] at g3; cases g3
       ·obtain ⟨_, _, _, k9, h9⟩ := hr4.tip i5 h
        rw [h9] at g3; cases g3
      ·rw [new_next] at g
       refine ⟨by omega, by omega, fun h => ?_, by omega⟩
       obtain ⟨_, h8, _⟩ := hr4.tip i5 h
       omega
     obtain ⟨hi5a, hi5b, hi5c, hi5d⟩ := hi5p
     have hF5 : Frm [i5] H4 H5 := ⟨by omega, fun b hb hnb => by rw [hf5 b (by simpa using hnb), new_m, if_neg (Nat.ne_of_lt hb)]⟩
     have hr5 := hr4.frm hF5 (fun h => hi5a h.symm) hi5c
     have hq5 : H5.m q = some (.cells 27 [.int .i64 md, .nils, topv]) := (hF5.same q (by omega) (by simp; exact fun h => hi5b h.symm)).trans hq4
     obtain ⟨d3, d4⟩ := ht5.one
     simp -dsimp (disch := first | omega | (apply DrawYes.mk; decide +kernel)) only [go_sem, s2, s8, s10, hq4, hq5, yq4, c3, c4, d3, d4]
     refine ⟨(i4, R4, rowv4, e4, fr4, top ++ [n], topv2), ⟨hr5.other (Frm.refl.set (.inl (by simp))) hq5 (by omega), fun b hb h1 h2 => ?_, rfl, ?_, by simp only; omega, hi4, ?_⟩, ?_⟩
     ·have hbi : b ≠ i5 := by omega
      have hbs : b ∉ slid rowv3 := fun h => by
       obtain ⟨h8, _⟩ := hr3.tip b h
       omega
      rw [if_neg h2, hf5 b hbi, new_m, if_neg (by omega), hF4.same b (by omega) (by simp [h1, hbs])]
      exact hsame b hb h1 h2
     ·rw [List.map_append]
      refine ht5.keep (Nat.le_refl _) (fun y hy => ?_)
      rw [set_m, if_neg]
      rintro rfl
      obtain ⟨_, _, k8, h8⟩ := ht5.tip _ hy
      rw [hq5] at h8; cases h8
     ·simp only
      rcases hc4 with ⟨x1, x2, x3⟩ | ⟨x1, x2, x3, x4, R1, sx, rfl, rfl, x7⟩
      ·refine .inr ⟨x1, ?_⟩
       rw [hrun, x3 top [] rfl]; rfl
      ·refine .inl ⟨x1, ?_, x4, ?_⟩
       ·rw [List.length_append, List.length_cons, List.length_nil]; omega
       ·rw [hrun, x7 top [] rfl, whole_top]
     ·simp only
      split
      ·rename_i h
       rcases hc4 with ⟨x1, _⟩ | ⟨_, _, x3, _⟩
       ·exact absurd h x1
       ·omega
      ·omega
   ·have z0 : ((e3 : Int) == 0) = false := by simp; omega
    have z1 : ((e3 : Int) != 0) = true := by simp; omega
    rcases hc3 with ⟨h, _⟩ | ⟨_, hres⟩
    ·exact absurd h he3
    rw [hres]
    simp -dsimp (disch := first | omega | (apply DrawYes.mk; decide +kernel)) only [go_sem, s2, s8, s10, hm3, ht3, z0, z1, hro3]
    refine Y_float [(4, 10, 12), (8, 10, 12)] (by decide +kernel) ?_
    simp -dsimp (disch := first | omega | (apply DrawYes.mk; decide +kernel)) only [go_sem, s2, s8, s10, hm3, ht3, z0, z1, hro3, y1, y2]
    exact ⟨hExt H3 hsame hle3 _, _, _, rfl, PrgV.nil⟩
 ·have j0 : (((lexAll s).2.2 : Int) != 0) = true := by simp; omega
  have hpa : parseAll s = ⟨0, [], [], (lexAll s).2.1, (lexAll s).2.2⟩ := by unfold parseAll; rw [if_neg he]
  rw [hpa]
  simp -dsimp (disch := first | omega | (apply DrawYes.mk; decide +kernel)) only [go_sem, j0, hro1]
  exact ⟨hE1.set (Nat.le_refl _), _, _, rfl, PrgV.nil⟩
end Go.Proofs.YtcknfhhbijlobaaGreatDoor.D
