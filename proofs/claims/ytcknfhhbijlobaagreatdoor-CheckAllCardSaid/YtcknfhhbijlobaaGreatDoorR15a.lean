import Derived.Test.YtcknfhhbijlobaaGreatDoorR15P
namespace Go.Proofs.YtcknfhhbijlobaaGreatDoor.D
open Go
set_option linter.unusedVariables false
set_option linter.unusedSimpArgs false
set_option maxRecDepth 100000
abbrev rdC (id off : Nat) (all : List Tok) (i : Nat) (rowv : DV) (e fr : Nat) : DObj := .cells 76 [.sl id 3 off (all.map Tok.dv), .int .i64 i, rowv, .int .i64 e, .int .i64 fr]
theorem tok_at {all : List Tok} {i : Nat} {k : Tok} (h : all[i]? = some k) : (all.map Tok.dv)[i]? = some (.agg [.int .i64 k.kind, .str k.text, .int .i64 k.pos]) := by
 rw [List.getElem?_map, h]; rfl
theorem rrfail_ok {p id off i e fr er : Nat} {k : Tok} {all : List Tok} {rowv : DV} {H : DH} (hp : p < H.next) (hm : H.m p = some (rdC id off all i rowv e fr)) (hk : all[i]? = some k) :
  WC cfg 48 [.ptr p 0, .int .i64 er] H fun v H' => v = .tup [] ∧ Frm [p] H H' ∧ H'.m p = some (rdC id off all i rowv (if e = 0 then er else e) (if e = 0 then k.pos else fr)) := by
 refine WC_of (show Has cfg 48 27 [] _ from ⟨by kernel_rfl, Tryz.f48, Tryz.func48, rfl, rfl, rfl, by kernel_rfl⟩) (by simp) ?_
 have ht := tok_at hk
 by_cases he : e = 0
 ·subst he
  simp -dsimp (disch := first | omega | (apply DrawYes.mk; decide +kernel)) only [go_sem, hm, ht]
  exact ⟨by omega, (Frm.refl.set (.inl (by simp))).set (.inl (by simp))⟩
 ·have h0 : ((e : Int) == 0) = false := by simp; omega
  rw [if_neg he, if_neg he]
  simp -dsimp (disch := first | omega | (apply DrawYes.mk; decide +kernel)) only [go_sem, hm, ht, h0]
  exact Frm.refl
theorem rris_ok {p id off i e fr kd : Nat} {tx : List UInt8} {k : Tok} {all : List Tok} {rowv : DV} {H : DH} (hp : p < H.next) (hm : H.m p = some (rdC id off all i rowv e fr)) (hk : all[i]? = some k) :
  WC cfg 47 [.ptr p 0, .int .i64 kd, .str tx] H fun v H' => v = .bool (decide (k.kind = kd ∧ k.text = tx)) ∧ H' = H := by
 refine WC_of (show Has cfg 47 35 [.tmp 6] _ from ⟨by kernel_rfl, Tryz.f47, Tryz.func47, rfl, rfl, rfl, by kernel_rfl⟩) (by simp) ?_
 have ht := tok_at hk
 by_cases h1 : k.kind = kd
 ·have i1 : ((k.kind : Int) == kd) = true := by simp; omega
  simp -dsimp (disch := first | omega | (apply DrawYes.mk; decide +kernel)) only [go_sem, hm, ht, i1]
  refine ⟨by omega, by omega, ?_⟩
  by_cases h2 : k.text = tx
  ·simp [h1, h2]
  ·simp [h1, h2]
 ·have i1 : ((k.kind : Int) == kd) = false := by simp; omega
  simp -dsimp (disch := first | omega | (apply DrawYes.mk; decide +kernel)) only [go_sem, hm, ht, i1]
  refine ⟨by omega, ?_⟩
  simp [h1]
theorem rris_eq {p id off i e fr kd : Nat} {tx : List UInt8} {k : Tok} {all : List Tok} {rowv : DV} {H : DH} (hp : p < H.next) (hm : H.m p = some (rdC id off all i rowv e fr)) (hk : all[i]? = some k) {K : DV → DH → Prop} {b : Later K} : WK cfg 47 [.ptr p 0, .int .i64 kd, .str tx] H b = K (.bool (decide (k.kind = kd ∧ k.text = tx))) H := WK_det (rris_ok hp hm hk)
theorem rrtake_ok {p id off i e fr kd : Nat} {k : Tok} {all : List Tok} {rowv : DV} {H : DH} (hp : p < H.next) (hm : H.m p = some (rdC id off all i rowv e fr)) (hk : all[i]? = some k) (hi : i < 100000) :
  WC cfg 49 [.ptr p 0, .int .i64 kd] H fun v H' => v = .str (if e = 0 ∧ k.kind = kd then k.text else []) ∧ Frm [p] H H' ∧
   H'.m p = some (if e = 0 ∧ k.kind = kd then rdC id off all (i + 1) rowv e fr else rdC id off all i rowv (if e = 0 then 20 else e) (if e = 0 then k.pos else fr)) := by
 refine WC_of (show Has cfg 49 38 [.tmp 4] _ from ⟨by kernel_rfl, Tryz.f49, Tryz.func49, rfl, rfl, rfl, by kernel_rfl⟩) (by simp) ?_
 have ht := tok_at hk
 have h0 : ¬ p = H.next := by omega
 have h2 : ¬ H.next = p := by omega
 have hm1 : ∀ o o', ((H.new o).set H.next o').m p = some (rdC id off all i rowv e fr) := fun o o' => by rw [set_m, if_neg h0, new_m, if_neg h0, hm]
 have hF : ∀ o o', Frm [p] H ((H.new o).set H.next o') := fun o o' => (Frm.refl.new).set (.inr (Nat.le_refl _))
 by_cases he : e = 0
 ·subst he
  by_cases h1 : k.kind = kd
  ·have i1 : ((k.kind : Int) != kd) = false := by simp; omega
   rw [if_pos ⟨rfl, h1⟩, if_pos ⟨rfl, h1⟩]
   simp -dsimp (disch := first | omega | (apply DrawYes.mk; decide +kernel)) only [go_sem, hm, ht, i1, h0]
   refine Y_float [(3, 11, 11), (7, 11, 11), (9, 11, 11)] (by decide +kernel) ?_
   simp -dsimp (disch := first | omega | (apply DrawYes.mk; decide +kernel)) only [go_sem, hm, ht, i1, h0, h2]
   exact ⟨by omega, (hF _ _).set (.inl (by simp)), rfl⟩
  ·have i1 : ((k.kind : Int) != kd) = true := by simp; omega
   rw [if_neg (by simp [h1]), if_neg (by simp [h1])]
   simp -dsimp (disch := first | omega | (apply DrawYes.mk; decide +kernel)) only [go_sem, hm, ht, i1, h0]
   refine Y_float [(3, 11, 11), (7, 11, 11), (9, 11, 11)] (by decide +kernel) ?_
   simp -dsimp (disch := first | omega | (apply DrawYes.mk; decide +kernel)) only [go_sem, hm, ht, i1, h0, h2]
   refine ⟨by omega, ?_⟩
   refine call (rrfail_ok (by simp only [set_next, new_next]; omega) (hm1 _ _) hk) ?_
   rintro _ H2 ⟨rfl, hF2, hm2⟩
   simp -dsimp (disch := first | omega | (apply DrawYes.mk; decide +kernel)) only [go_sem]
   exact ⟨(hF _ _).trans (hF2.mono (by simp)), hm2⟩
 ·have i0 : ((e : Int) != 0) = true := by simp; omega
  rw [if_neg (by simp [he]), if_neg (by simp [he])]
  simp -dsimp (disch := first | omega | (apply DrawYes.mk; decide +kernel)) only [go_sem, hm, ht, i0, h0]
  refine Y_float [(3, 11, 11), (7, 11, 11), (9, 11, 11)] (by decide +kernel) ?_
  simp -dsimp (disch := first | omega | (apply DrawYes.mk; decide +kernel)) only [go_sem, hm, ht, i0, h0, h2]
  refine ⟨by omega, ?_⟩
  refine call (rrfail_ok (by simp only [set_next, new_next]; omega) (hm1 _ _) hk) ?_
  rintro _ H2 ⟨rfl, hF2, hm2⟩
  simp -dsimp (disch := first | omega | (apply DrawYes.mk; decide +kernel)) only [go_sem]
  exact ⟨(hF _ _).trans (hF2.mono (by simp)), hm2⟩
theorem rrsign_ok {p id off i e fr : Nat} {tx : List UInt8} {k : Tok} {all : List Tok} {rowv : DV} {H : DH} (hp : p < H.next) (hm : H.m p = some (rdC id off all i rowv e fr)) (hk : all[i]? = some k) (hi : i < 100000) :
  WC cfg 50 [.ptr p 0, .str tx] H fun v H' => v = .tup [] ∧ Frm [p] H H' ∧
   H'.m p = some (if e = 0 ∧ k.kind = 4 ∧ k.text = tx then rdC id off all (i + 1) rowv e fr else rdC id off all i rowv (if e = 0 then 20 else e) (if e = 0 then k.pos else fr)) := by
 refine WC_of (show Has cfg 50 14 [] _ from ⟨by kernel_rfl, Tryz.f50, Tryz.func50, rfl, rfl, rfl, by kernel_rfl⟩) (by simp) ?_
 simp -dsimp (disch := first | omega | (apply DrawYes.mk; decide +kernel)) only [go_sem]
 refine call (rris_ok (kd := 4) hp hm hk) ?_
 rintro _ _ ⟨rfl, rfl⟩
 by_cases h1 : k.kind = 4 ∧ k.text = tx
 ·have d1 : decide (k.kind = 4 ∧ k.text = tx) = true := decide_eq_true h1
  rw [d1]
  simp -dsimp (disch := first | omega | (apply DrawYes.mk; decide +kernel)) only [go_sem]
  refine call (rrtake_ok (kd := 4) hp hm hk hi) ?_
  rintro _ H2 ⟨rfl, hF2, hm2⟩
  simp -dsimp (disch := first | omega | (apply DrawYes.mk; decide +kernel)) only [go_sem]
  refine ⟨hF2, ?_⟩
  rw [hm2]
  by_cases he : e = 0
  ·rw [if_pos ⟨he, h1.1⟩, if_pos ⟨he, h1⟩]
  ·rw [if_neg (show ¬ (e = 0 ∧ k.kind = 4) from fun h => he h.1), if_neg (show ¬ (e = 0 ∧ k.kind = 4 ∧ k.text = tx) from fun h => he h.1)]
 ·have d1 : decide (k.kind = 4 ∧ k.text = tx) = false := decide_eq_false h1
  rw [d1]
  simp -dsimp (disch := first | omega | (apply DrawYes.mk; decide +kernel)) only [go_sem]
  refine call (rrfail_ok hp hm hk) ?_
  rintro _ H2 ⟨rfl, hF2, hm2⟩
  simp -dsimp (disch := first | omega | (apply DrawYes.mk; decide +kernel)) only [go_sem]
  refine ⟨hF2, ?_⟩
  rw [hm2, if_neg (show ¬ (e = 0 ∧ k.kind = 4 ∧ k.text = tx) from fun h => h1 h.2)]
theorem rshape_ok {k : Nat} (hk : k < 18) {H : DH} : WC cfg 22 [.int .i64 k] H fun v H' => v = .str (shapeL k) ∧ Ext H H' := by
 refine WC_of (show Has cfg 22 17 [.tmp 2] _ from ⟨by kernel_rfl, Tryz.f22, Tryz.func22, rfl, rfl, rfl, by kernel_rfl⟩) (by simp) ?_
 have h1 : (shapesL.map DV.str)[k]? = some (.str (shapeL k)) := by
  have : k < shapesL.length := hk
  rw [List.getElem?_map, List.getElem?_eq_getElem this]
  simp [shapeL, List.getD, this]
 have h2 : ¬ (k : Int) < 0 := by omega
 have h3 : ¬ (18 : Int) ≤ k := by omega
 simp only [shapesL, List.map_cons, List.map_nil] at h1
 simp -dsimp (disch := first | omega | (apply DrawYes.mk; decide +kernel)) only [go_sem, h1, h2, h3]
 exact ⟨by omega, Ext.refl.new⟩
theorem rkind_ok {p id off i e fr : Nat} {k : Tok} {all : List Tok} {rowv : DV} {H : DH} (hp : p < H.next) (hm : H.m p = some (rdC id off all i rowv e fr)) (hk : all[i]? = some k) (hi : i < 100000) :
  WC cfg 81 [.ptr p 0] H fun v H' => v = .int .i64 (if k.kind = 1 then (kindT k.text).getD 0 else 0 : Nat) ∧ Ext H H' := by
 refine WC_of (show Has cfg 81 40 [.tmp 2] _ from ⟨by kernel_rfl, Tryz.f81, Tryz.func81, rfl, rfl, rfl, by kernel_rfl⟩) (by simp) ?_
 have ht := tok_at hk
 by_cases h1 : k.kind = 1
 ·have i1 : ((k.kind : Int) != 1) = false := by simp; omega
  rw [if_pos h1]
  simp -dsimp (disch := first | omega | (apply DrawYes.mk; decide +kernel)) only [go_sem, hm, ht, i1]
  refine ⟨by omega, ?_⟩
  refine Y_loop (α := Nat) (fun j σ H' => Ext H H' ∧ 0 < j ∧ j ≤ 18 ∧ σ 0 = .ptr p 0 ∧ σ 3 = .int .i64 j ∧ (∀ x ∈ headsL.take j, (!x.isEmpty && x == k.text) = false)) (fun j => 18 - j) 1 ?_ ?_
  ·simp -dsimp (disch := first | omega | (apply DrawYes.mk; decide +kernel)) only [go_sem]
   refine ⟨Ext.refl, ?_⟩
   intro x hx
   simp [headsL] at hx
   subst hx; rfl
  rintro j σ H1 ⟨hE, hj0, hj, s0, s3, hnone⟩
  have hm1 := hE.get hp hm
  by_cases hj18 : j < 18
  ·have i2 : (j : Int) ≤ 17 := by omega
   obtain ⟨g1, g2, g3, g4, g5⟩ := shapes_at j hj18
   simp -dsimp (disch := first | omega | (apply DrawYes.mk; decide +kernel)) only [go_sem, s0, s3, i2]
   refine call (rshape_ok hj18) ?_
   rintro _ H2 ⟨rfl, hE2⟩
   simp -dsimp (disch := first | omega | (apply DrawYes.mk; decide +kernel)) only [go_sem, s0, s3, i2]
   refine call (rwords_ok (by omega)) ?_
   rintro wv H3 ⟨hE3, hw⟩
   rw [shapes_wrd j hj18 hj0, wordsS] at hw
   obtain ⟨wid, woff, wk, rfl, hwm, hwk, hwlo, hwhi⟩ := hw
   have hE13 := hE.trans (hE2.trans hE3)
   have hm3 := hE13.get hp hm
   have hjl : j < headsL.length := hj18
   have htk : headsL.take (j + 1) = headsL.take j ++ [headsL.getD j []] := by
    rw [List.take_add_one, List.getElem?_eq_getElem hjl, List.getD, List.getElem?_eq_getElem hjl]; rfl
   have hne : headsL.getD j [] ≠ [] := by
    have : ∀ j, j < 18 → 0 < j → headsL.getD j [] ≠ [] := by decide
    exact this j hj18 hj0
   by_cases heq : headsL.getD j [] = k.text
   ·have b1 : (headsL.getD j [] == k.text) = true := beq_iff_eq.2 heq
    have hfind : kindT k.text = some j := by
     unfold kindT
     refine findIdx_at (x := headsL.getD j []) ?_ ?_ hnone
     ·rw [List.getD, List.getElem?_eq_getElem hjl]; rfl
     ·rw [Bool.and_eq_true]; exact ⟨by rw [Bool.not_eq_true', List.isEmpty_eq_false_iff]; exact hne, b1⟩
    rw [hfind]
    simp -dsimp (disch := first | omega | (apply DrawYes.mk; decide +kernel)) only [go_sem, s0, s3, i2, hm3, ht, b1, List.map_cons]
    repeat refine And.intro (by omega) ?_
    exact ⟨rfl, hE13⟩
   ·have b1 : (headsL.getD j [] == k.text) = false := beq_eq_false_iff_ne.2 heq
    simp -dsimp (disch := first | omega | (apply DrawYes.mk; decide +kernel)) only [go_sem, s0, s3, i2, hm3, ht, b1, List.map_cons]
    repeat refine And.intro (by omega) ?_
    refine ⟨j + 1, ⟨hE13, by omega, by omega, rfl, ?_⟩, by omega⟩
    intro x hx
    rw [htk] at hx
    rcases List.mem_append.1 hx with hx | hx
    ·exact hnone x hx
    ·simp only [List.mem_singleton] at hx; subst hx; rw [b1, Bool.and_false]
  ·have i2 : ¬ (j : Int) ≤ 17 := by omega
   have hj2 : j = 18 := by omega
   subst hj2
   have hfind : kindT k.text = none := findIdx_no (fun x hx => hnone x (by simpa [headsL] using hx))
   rw [hfind]
   simp -dsimp (disch := first | omega | (apply DrawYes.mk; decide +kernel)) only [go_sem, s0, s3, i2]
   exact ⟨rfl, hE⟩
 ·have i1 : ((k.kind : Int) != 1) = true := by simp; omega
  rw [if_neg h1]
  simp -dsimp (disch := first | omega | (apply DrawYes.mk; decide +kernel)) only [go_sem, hm, ht, i1]
  exact ⟨by omega, Ext.refl⟩
end Go.Proofs.YtcknfhhbijlobaaGreatDoor.D
