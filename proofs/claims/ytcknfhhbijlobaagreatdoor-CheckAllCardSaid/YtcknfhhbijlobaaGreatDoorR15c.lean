import Derived.Test.YtcknfhhbijlobaaGreatDoorR15b
namespace Go.Proofs.YtcknfhhbijlobaaGreatDoor.D
open Go
set_option linter.unusedVariables false
set_option linter.unusedSimpArgs false
set_option maxRecDepth 100000
def restK (kd : Nat) : List (List UInt8) := if kd = 5 ∨ kd = 6 then [[123]] else []
theorem parts_split : ∀ kd, kd < 18 → ∀ j, j < (partsL.getD kd []).length → (partsL.getD kd [])[j]? = some [123] → (partsL.getD kd []).drop j = restK kd := by decide
theorem parts_end : ∀ kd, kd < 18 → [123] ∉ partsL.getD kd [] → restK kd = [] := by decide
theorem parts_len : ∀ kd, kd < 18 → (partsL.getD kd []).length ≤ 5 := by decide
def cntT (kd : Nat) : Nat := ((partsL.getD kd []).filter fun p => decide (isText p)).length
theorem parts_cnt : ∀ kd, kd < 18 → cntT kd + to0 kd ≤ 3 := by decide
theorem IsSn.lower {lo lo' : Nat} {H : DH} {e sz : Nat} {v : DV} {es : List DV} (h : IsSn lo H e sz v es) (hl : lo' ≤ lo) : IsSn lo' H e sz v es := by
 obtain ⟨id, off, k, h1, h2, h3, h4, h5⟩ := h
 exact ⟨id, off, k, h1, h2, h3, Nat.le_trans hl h4, h5⟩
theorem rwordsK_ok {p id off i fr kd : Nat} {all : List Tok} {rowv : DV} {H : DH} (hp : p < H.next) (hm : H.m p = some (rdC id off all i rowv 0 fr)) (hT : TokOk (all.drop i)) (hl : all.length < 10000) (hk0 : 0 < kd) (hk : kd < 18) :
  WC cfg 82 [.ptr p 0, .int .i64 kd] H fun v H' => Frm [p] H H' ∧ ∃ ws n wv i' e' fr', v = .tup [wv, .int .i64 (n : Nat)] ∧ IsSn H.next H' 9 1 wv (ws.map .str) ∧ ws.length ≤ cntT kd ∧ H'.m p = some (rdC id off all i' rowv e' fr') ∧ i ≤ i' ∧ Wos kd all i fr (restK kd) ws n i' e' fr' := by
 refine WC_of (show Has cfg 82 83 [.tmp 4, .tmp 5] _ from ⟨by kernel_rfl, Tryz.f82, Tryz.func82, rfl, rfl, rfl, by kernel_rfl⟩) (by simp) ?_
 simp -dsimp (disch := first | omega | (apply DrawYes.mk; decide +kernel)) only [go_sem]
 refine call (rshape_ok hk) ?_
 rintro _ H1 ⟨rfl, hE1⟩
 have hs := (shapes_at kd hk).1
 simp -dsimp (disch := first | omega | (apply DrawYes.mk; decide +kernel)) only [go_sem]
 refine call (rwords_ok (by omega)) ?_
 rintro wv H2 ⟨hE2, hw⟩
 rw [shapes_wrd kd hk hk0, wordsS] at hw
 have hwl := fun H' => hw.len (H' := H') und_38
 rw [List.length_map, List.length_cons] at hwl
 obtain ⟨wid, woff, wk, rfl, hwm, hwk, hwlo, hwhi⟩ := hw
 have hE := hE1.trans hE2
 have hm2 := hE.get hp hm
 have hpl := parts_len kd hk
 have hle := hE.le
 simp -dsimp (disch := first | omega | (apply DrawYes.mk; decide +kernel)) only [go_sem]
 generalize hP : partsL.getD kd [] = parts at *
 have hcnt := parts_cnt kd hk
 refine Y_loop (α := Nat × List (List UInt8) × Nat × Nat × Nat × Nat) (fun x σ H' => Frm [p] H H' ∧ x.1 ≤ parts.length ∧ x.2.1.length ≤ x.1 ∧ x.2.1.length + ((parts.drop x.1).filter fun p => decide (isText p)).length ≤ cntT kd ∧ H'.m p = some (rdC id off all x.2.2.2.1 rowv x.2.2.2.2.1 x.2.2.2.2.2) ∧ Wos kd all i fr (parts.drop x.1) x.2.1 x.2.2.1 x.2.2.2.1 x.2.2.2.2.1 x.2.2.2.2.2 ∧ [123] ∉ parts.take x.1 ∧ i ≤ x.2.2.2.1 ∧ σ 0 = .ptr p 0 ∧ σ 6 = .sl wid 1 woff ((headsL.getD kd [] :: parts).map .str) ∧ IsSn H.next H' 9 1 (σ 7) (x.2.1.map .str) ∧ σ 8 = .int .i64 x.2.2.1 ∧ σ 9 = .int .i64 (x.1 + 1 : Nat)) (fun x => parts.length - x.1) (0, [], 0, i, 0, fr) ?_ ?_
 ·simp -dsimp (disch := first | omega | (apply DrawYes.mk; decide +kernel)) only [go_sem]
  refine ⟨(Frm.ext hE).new, Nat.zero_le _, by unfold cntT; rw [hP]; simp, ?_, .inl ⟨rfl, rfl, hT, fun deep pos => by rw [hP]; rfl⟩, by simp, Nat.le_refl _, IsSn.new.lower (by omega)⟩
  rw [if_neg (by omega), hm2]
 rintro ⟨j, ws, n, i', e', fr'⟩ σ H3 ⟨hF, hj, hwj, hc3, hm3, hW, hno, hii, s0, s6, ho, s8, s9⟩
 dsimp only at hj hwj hc3 hm3 hW hno hii s8 s9 ho
 obtain ⟨k, hki, hil⟩ := hW.tok
 have hp2 : p < H3.next := Nat.lt_of_lt_of_le hp hF.le
 generalize hs7 : σ 7 = ov at ho
 have s7 := hs7
 by_cases hjl : j < parts.length
 ·have i0 : ((j + 1 : Nat) : Int) < parts.length + 1 := by omega
  have hg : parts[j]? = some parts[j] := List.getElem?_eq_getElem hjl
  have hdr : parts.drop j = parts[j] :: parts.drop (j + 1) := List.drop_eq_getElem_cons hjl
  generalize parts[j] = q at hg hdr
  have hgm : ((headsL.getD kd [] :: parts).map DV.str)[j + 1]? = some (.str q) := by rw [List.map_cons, List.getElem?_cons_succ, List.getElem?_map, hg]; rfl
  rw [hdr] at hW hc3
  have htn : (((j + 1 : Nat) : Int)).toNat = j + 1 := by omega
  have hlf : (((headsL.getD kd [] :: parts).map DV.str).length : Int) = parts.length + 1 := by simp
  rw [List.filter_cons] at hc3
  have ffl : (0 : Nat) = 0 := rfl
  have htk : q ≠ [123] → [123] ∉ parts.take (j + 1) := by
   intro h
   rw [List.take_add_one, hg, List.mem_append]
   rintro (h2 | h2)
   ·exact hno h2
   ·simp at h2; exact h h2.symm
  by_cases e1 : q = [110]
  ·subst e1
   have hpne : ([110] : List UInt8) ≠ [123] := by decide
   have hxt : isText [110] := by decide
   rw [if_pos (by decide), List.length_cons] at hc3
   have c110 : (([110] : List UInt8) == [110]) = true := rfl
   have c119 : (([110] : List UInt8) == [119]) = false := rfl
   have c116 : (([110] : List UInt8) == [116]) = false := rfl
   have c105 : (([110] : List UInt8) == [105]) = false := rfl
   have c123 : (([110] : List UInt8) == [123]) = false := rfl
   simp -dsimp (disch := first | omega | (apply DrawYes.mk; decide +kernel)) only [go_sem, s0, s6, s7, s8, s9, i0, hgm, htn, hlf, c110, c119, c116, c105, c123]
   repeat refine And.intro (by omega) ?_
   refine call (rrtake_ok (kd := 1) hp2 hm3 hki (by omega)) ?_
   rintro _ H4 ⟨rfl, hF4, hm4⟩
   have ho4 := ho.frm hF4 hm3
   simp -dsimp (disch := first | omega | (apply DrawYes.mk; decide +kernel)) only [go_sem, s0, s6, s7, s8, s9, i0, hgm, htn, hlf, c110, c119, c116, c105, c123]
   refine appn und_38 size_9 bytes_9 und_38 zero_9 rfl rfl (by decide) (ho4.ext Ext.refl.new) rfl (by simp only [List.length_map, List.length_cons, List.length_nil]; omega) (by simp only [List.length_map, List.length_cons, List.length_nil]; omega) ?_
   intro v' H5 ho5 hs5
   have hF5 := hs5.frmn (ho4.ext Ext.refl.new) (hF.trans hF4).new
   have hlt4 : p < H4.next := Nat.lt_of_lt_of_le hp2 hF4.le
   simp -dsimp (disch := first | omega | (apply DrawYes.mk; decide +kernel)) only [go_sem, s0, s6, s7, s8, s9, i0, hgm, htn, hlf, c110, c119, c116, c105, c123]
   repeat refine And.intro (by omega) ?_
   by_cases hg2 : e' = 0 ∧ k.kind = 1
   ·rw [if_pos hg2] at ho5 hm4
    obtain ⟨rfl, hkk⟩ := hg2
    refine ⟨(j + 1, ws ++ [k.text], n, i' + 1, 0, fr'), ⟨hF5, by simp only; omega, by simp only [List.length_append, List.length_cons, List.length_nil]; omega, by simp only [List.length_append, List.length_cons, List.length_nil]; omega, hs5.keepn (ho4.ext Ext.refl.new) (Nat.lt_succ_of_lt hlt4) (by rw [new_m, if_neg (Nat.ne_of_lt hlt4)]; exact hm4), ?_, htk hpne, by simp only; omega, by rw [List.map_append]; exact ho5, rfl, rfl⟩, by simp only; omega⟩
    exact hW.text hki (fun deep => by unfold mustE; simp [hkk]) hpne hxt (by omega)
   rw [if_neg hg2] at ho5 hm4
   by_cases he : e' = 0
   ·subst he
    have hkk : ¬ k.kind = 1 := fun h => hg2 ⟨rfl, h⟩
    refine ⟨(j + 1, ws ++ [[]], n, i', 20, k.pos), ⟨hF5, by simp only; omega, by simp only [List.length_append, List.length_cons, List.length_nil]; omega, by simp only [List.length_append, List.length_cons, List.length_nil]; omega, hs5.keepn (ho4.ext Ext.refl.new) (Nat.lt_succ_of_lt hlt4) (by rw [new_m, if_neg (Nat.ne_of_lt hlt4)]; exact hm4), ?_, htk hpne, by simp only; omega, by rw [List.map_append]; exact ho5, rfl, rfl⟩, by simp only; omega⟩
    exact hW.bad hki (fun deep => by unfold mustE; simp [hkk]) _ _ _
   ·rw [if_neg he, if_neg he] at hm4
    refine ⟨(j + 1, ws ++ [[]], n, i', e', fr'), ⟨hF5, by simp only; omega, by simp only [List.length_append, List.length_cons, List.length_nil]; omega, by simp only [List.length_append, List.length_cons, List.length_nil]; omega, hs5.keepn (ho4.ext Ext.refl.new) (Nat.lt_succ_of_lt hlt4) (by rw [new_m, if_neg (Nat.ne_of_lt hlt4)]; exact hm4), ?_, htk hpne, by simp only; omega, by rw [List.map_append]; exact ho5, rfl, rfl⟩, by simp only; omega⟩
    exact hW.err he _ _ _
  by_cases e2 : q = [119]
  ·subst e2
   have hpne : ([119] : List UInt8) ≠ [123] := by decide
   have hxt : isText [119] := by decide
   rw [if_pos (by decide), List.length_cons] at hc3
   have c110 : (([119] : List UInt8) == [110]) = false := rfl
   have c119 : (([119] : List UInt8) == [119]) = true := rfl
   have c116 : (([119] : List UInt8) == [116]) = false := rfl
   have c105 : (([119] : List UInt8) == [105]) = false := rfl
   have c123 : (([119] : List UInt8) == [123]) = false := rfl
   have q1 : ∀ (K : DV → DH → Prop) (b : Later K), WK cfg 47 [.ptr p 0, .int .i64 1, .str [99, 97, 112]] H3 b = K (.bool (decide (k.kind = 1 ∧ k.text = [99, 97, 112]))) H3 := fun K b => rris_eq (kd := 1) hp2 hm3 hki
   have q2 : ∀ (K : DV → DH → Prop) (b : Later K), WK cfg 47 [.ptr p 0, .int .i64 1, .str [99, 111, 100, 101]] H3 b = K (.bool (decide (k.kind = 1 ∧ k.text = [99, 111, 100, 101]))) H3 := fun K b => rris_eq (kd := 1) hp2 hm3 hki
   have q3 : ∀ (K : DV → DH → Prop) (b : Later K), WK cfg 47 [.ptr p 0, .int .i64 1, .str [116, 101, 120, 116]] H3 b = K (.bool (decide (k.kind = 1 ∧ k.text = [116, 101, 120, 116]))) H3 := fun K b => rris_eq (kd := 1) hp2 hm3 hki
   by_cases hw3 : k.kind = 1 ∧ k.text ∈ wordsW
   ·obtain ⟨hkk, hin⟩ := hw3
    have hor := hin
    simp only [wordsW, List.mem_cons, List.not_mem_nil, or_false] at hor
    rcases hor with htx | htx | htx
    ·have d1 : decide (k.kind = 1 ∧ k.text = [99, 97, 112]) = true := by rw [decide_eq_true_eq]; exact ⟨hkk, htx⟩
     have d2 : decide (k.kind = 1 ∧ k.text = [99, 111, 100, 101]) = false := by rw [decide_eq_false_iff_not, htx]; exact fun h => absurd h.2 (by decide)
     have d3 : decide (k.kind = 1 ∧ k.text = [116, 101, 120, 116]) = false := by rw [decide_eq_false_iff_not, htx]; exact fun h => absurd h.2 (by decide)
     simp -dsimp (disch := first | omega | (apply DrawYes.mk; decide +kernel)) only [go_sem, s0, s6, s7, s8, s9, i0, hgm, htn, hlf, c110, c119, c116, c105, c123, q1, q2, q3, d1, d2, d3]
     repeat refine And.intro (by omega) ?_
     refine call (rrtake_ok (kd := 1) hp2 hm3 hki (by omega)) ?_
     rintro _ H4 ⟨rfl, hF4, hm4⟩
     have ho4 := ho.frm hF4 hm3
     simp -dsimp (disch := first | omega | (apply DrawYes.mk; decide +kernel)) only [go_sem, s0, s6, s7, s8, s9, i0, hgm, htn, hlf, c110, c119, c116, c105, c123, q1, q2, q3, d1, d2, d3]
     refine appn und_38 size_9 bytes_9 und_38 zero_9 rfl rfl (by decide) (ho4.ext Ext.refl.new) rfl (by simp only [List.length_map, List.length_cons, List.length_nil]; omega) (by simp only [List.length_map, List.length_cons, List.length_nil]; omega) ?_
     intro v' H5 ho5 hs5
     have hF5 := hs5.frmn (ho4.ext Ext.refl.new) (hF.trans hF4).new
     have hlt4 : p < H4.next := Nat.lt_of_lt_of_le hp2 hF4.le
     simp -dsimp (disch := first | omega | (apply DrawYes.mk; decide +kernel)) only [go_sem, s0, s6, s7, s8, s9, i0, hgm, htn, hlf, c110, c119, c116, c105, c123, q1, q2, q3, d1, d2, d3]
     repeat refine And.intro (by omega) ?_
     by_cases he : e' = 0
     ·subst he
      rw [if_pos ⟨rfl, hkk⟩] at ho5 hm4
      refine ⟨(j + 1, ws ++ [k.text], n, i' + 1, 0, fr'), ⟨hF5, by simp only; omega, by simp only [List.length_append, List.length_cons, List.length_nil]; omega, by simp only [List.length_append, List.length_cons, List.length_nil]; omega, hs5.keepn (ho4.ext Ext.refl.new) (Nat.lt_succ_of_lt hlt4) (by rw [new_m, if_neg (Nat.ne_of_lt hlt4)]; exact hm4), ?_, htk hpne, by simp only; omega, by rw [List.map_append]; exact ho5, rfl, rfl⟩, by simp only; omega⟩
      exact hW.text hki (fun deep => by unfold mustE; simp [hkk, hin]) hpne hxt (by omega)
     ·rw [if_neg (show ¬ (e' = 0 ∧ k.kind = 1) from fun h => he h.1)] at ho5 hm4
      rw [if_neg he, if_neg he] at hm4
      refine ⟨(j + 1, ws ++ [[]], n, i', e', fr'), ⟨hF5, by simp only; omega, by simp only [List.length_append, List.length_cons, List.length_nil]; omega, by simp only [List.length_append, List.length_cons, List.length_nil]; omega, hs5.keepn (ho4.ext Ext.refl.new) (Nat.lt_succ_of_lt hlt4) (by rw [new_m, if_neg (Nat.ne_of_lt hlt4)]; exact hm4), ?_, htk hpne, by simp only; omega, by rw [List.map_append]; exact ho5, rfl, rfl⟩, by simp only; omega⟩
      exact hW.err he _ _ _
    ·have d1 : decide (k.kind = 1 ∧ k.text = [99, 97, 112]) = false := by rw [decide_eq_false_iff_not, htx]; exact fun h => absurd h.2 (by decide)
     have d2 : decide (k.kind = 1 ∧ k.text = [99, 111, 100, 101]) = true := by rw [decide_eq_true_eq]; exact ⟨hkk, htx⟩
     have d3 : decide (k.kind = 1 ∧ k.text = [116, 101, 120, 116]) = false := by rw [decide_eq_false_iff_not, htx]; exact fun h => absurd h.2 (by decide)
     simp -dsimp (disch := first | omega | (apply DrawYes.mk; decide +kernel)) only [go_sem, s0, s6, s7, s8, s9, i0, hgm, htn, hlf, c110, c119, c116, c105, c123, q1, q2, q3, d1, d2, d3]
     repeat refine And.intro (by omega) ?_
     refine call (rrtake_ok (kd := 1) hp2 hm3 hki (by omega)) ?_
     rintro _ H4 ⟨rfl, hF4, hm4⟩
     have ho4 := ho.frm hF4 hm3
     simp -dsimp (disch := first | omega | (apply DrawYes.mk; decide +kernel)) only [go_sem, s0, s6, s7, s8, s9, i0, hgm, htn, hlf, c110, c119, c116, c105, c123, q1, q2, q3, d1, d2, d3]
     refine appn und_38 size_9 bytes_9 und_38 zero_9 rfl rfl (by decide) (ho4.ext Ext.refl.new) rfl (by simp only [List.length_map, List.length_cons, List.length_nil]; omega) (by simp only [List.length_map, List.length_cons, List.length_nil]; omega) ?_
     intro v' H5 ho5 hs5
     have hF5 := hs5.frmn (ho4.ext Ext.refl.new) (hF.trans hF4).new
     have hlt4 : p < H4.next := Nat.lt_of_lt_of_le hp2 hF4.le
     simp -dsimp (disch := first | omega | (apply DrawYes.mk; decide +kernel)) only [go_sem, s0, s6, s7, s8, s9, i0, hgm, htn, hlf, c110, c119, c116, c105, c123, q1, q2, q3, d1, d2, d3]
     repeat refine And.intro (by omega) ?_
     by_cases he : e' = 0
     ·subst he
      rw [if_pos ⟨rfl, hkk⟩] at ho5 hm4
      refine ⟨(j + 1, ws ++ [k.text], n, i' + 1, 0, fr'), ⟨hF5, by simp only; omega, by simp only [List.length_append, List.length_cons, List.length_nil]; omega, by simp only [List.length_append, List.length_cons, List.length_nil]; omega, hs5.keepn (ho4.ext Ext.refl.new) (Nat.lt_succ_of_lt hlt4) (by rw [new_m, if_neg (Nat.ne_of_lt hlt4)]; exact hm4), ?_, htk hpne, by simp only; omega, by rw [List.map_append]; exact ho5, rfl, rfl⟩, by simp only; omega⟩
      exact hW.text hki (fun deep => by unfold mustE; simp [hkk, hin]) hpne hxt (by omega)
     ·rw [if_neg (show ¬ (e' = 0 ∧ k.kind = 1) from fun h => he h.1)] at ho5 hm4
      rw [if_neg he, if_neg he] at hm4
      refine ⟨(j + 1, ws ++ [[]], n, i', e', fr'), ⟨hF5, by simp only; omega, by simp only [List.length_append, List.length_cons, List.length_nil]; omega, by simp only [List.length_append, List.length_cons, List.length_nil]; omega, hs5.keepn (ho4.ext Ext.refl.new) (Nat.lt_succ_of_lt hlt4) (by rw [new_m, if_neg (Nat.ne_of_lt hlt4)]; exact hm4), ?_, htk hpne, by simp only; omega, by rw [List.map_append]; exact ho5, rfl, rfl⟩, by simp only; omega⟩
      exact hW.err he _ _ _
    ·have d1 : decide (k.kind = 1 ∧ k.text = [99, 97, 112]) = false := by rw [decide_eq_false_iff_not, htx]; exact fun h => absurd h.2 (by decide)
     have d2 : decide (k.kind = 1 ∧ k.text = [99, 111, 100, 101]) = false := by rw [decide_eq_false_iff_not, htx]; exact fun h => absurd h.2 (by decide)
     have d3 : decide (k.kind = 1 ∧ k.text = [116, 101, 120, 116]) = true := by rw [decide_eq_true_eq]; exact ⟨hkk, htx⟩
     simp -dsimp (disch := first | omega | (apply DrawYes.mk; decide +kernel)) only [go_sem, s0, s6, s7, s8, s9, i0, hgm, htn, hlf, c110, c119, c116, c105, c123, q1, q2, q3, d1, d2, d3]
     repeat refine And.intro (by omega) ?_
     refine call (rrtake_ok (kd := 1) hp2 hm3 hki (by omega)) ?_
     rintro _ H4 ⟨rfl, hF4, hm4⟩
     have ho4 := ho.frm hF4 hm3
     simp -dsimp (disch := first | omega | (apply DrawYes.mk; decide +kernel)) only [go_sem, s0, s6, s7, s8, s9, i0, hgm, htn, hlf, c110, c119, c116, c105, c123, q1, q2, q3, d1, d2, d3]
     refine appn und_38 size_9 bytes_9 und_38 zero_9 rfl rfl (by decide) (ho4.ext Ext.refl.new) rfl (by simp only [List.length_map, List.length_cons, List.length_nil]; omega) (by simp only [List.length_map, List.length_cons, List.length_nil]; omega) ?_
     intro v' H5 ho5 hs5
     have hF5 := hs5.frmn (ho4.ext Ext.refl.new) (hF.trans hF4).new
     have hlt4 : p < H4.next := Nat.lt_of_lt_of_le hp2 hF4.le
     simp -dsimp (disch := first | omega | (apply DrawYes.mk; decide +kernel)) only [go_sem, s0, s6, s7, s8, s9, i0, hgm, htn, hlf, c110, c119, c116, c105, c123, q1, q2, q3, d1, d2, d3]
     repeat refine And.intro (by omega) ?_
     by_cases he : e' = 0
     ·subst he
      rw [if_pos ⟨rfl, hkk⟩] at ho5 hm4
      refine ⟨(j + 1, ws ++ [k.text], n, i' + 1, 0, fr'), ⟨hF5, by simp only; omega, by simp only [List.length_append, List.length_cons, List.length_nil]; omega, by simp only [List.length_append, List.length_cons, List.length_nil]; omega, hs5.keepn (ho4.ext Ext.refl.new) (Nat.lt_succ_of_lt hlt4) (by rw [new_m, if_neg (Nat.ne_of_lt hlt4)]; exact hm4), ?_, htk hpne, by simp only; omega, by rw [List.map_append]; exact ho5, rfl, rfl⟩, by simp only; omega⟩
      exact hW.text hki (fun deep => by unfold mustE; simp [hkk, hin]) hpne hxt (by omega)
     ·rw [if_neg (show ¬ (e' = 0 ∧ k.kind = 1) from fun h => he h.1)] at ho5 hm4
      rw [if_neg he, if_neg he] at hm4
      refine ⟨(j + 1, ws ++ [[]], n, i', e', fr'), ⟨hF5, by simp only; omega, by simp only [List.length_append, List.length_cons, List.length_nil]; omega, by simp only [List.length_append, List.length_cons, List.length_nil]; omega, hs5.keepn (ho4.ext Ext.refl.new) (Nat.lt_succ_of_lt hlt4) (by rw [new_m, if_neg (Nat.ne_of_lt hlt4)]; exact hm4), ?_, htk hpne, by simp only; omega, by rw [List.map_append]; exact ho5, rfl, rfl⟩, by simp only; omega⟩
      exact hW.err he _ _ _
   ·have d1 : decide (k.kind = 1 ∧ k.text = [99, 97, 112]) = false := by rw [decide_eq_false_iff_not]; exact fun h => hw3 ⟨h.1, by simp [wordsW, h.2]⟩
    have d2 : decide (k.kind = 1 ∧ k.text = [99, 111, 100, 101]) = false := by rw [decide_eq_false_iff_not]; exact fun h => hw3 ⟨h.1, by simp [wordsW, h.2]⟩
    have d3 : decide (k.kind = 1 ∧ k.text = [116, 101, 120, 116]) = false := by rw [decide_eq_false_iff_not]; exact fun h => hw3 ⟨h.1, by simp [wordsW, h.2]⟩
    simp -dsimp (disch := first | omega | (apply DrawYes.mk; decide +kernel)) only [go_sem, s0, s6, s7, s8, s9, i0, hgm, htn, hlf, c110, c119, c116, c105, c123, q1, q2, q3, d1, d2, d3]
    repeat refine And.intro (by omega) ?_
    refine call (rrfail_ok hp2 hm3 hki) ?_
    rintro _ H6 ⟨rfl, hF6, hm6⟩
    have ho6 := ho.frm hF6 hm3
    have hp6 : p < H6.next := Nat.lt_of_lt_of_le hp2 hF6.le
    have he2 : (if e' = 0 then 20 else e') ≠ 0 := by split <;> omega
    simp -dsimp (disch := first | omega | (apply DrawYes.mk; decide +kernel)) only [go_sem, s0, s6, s7, s8, s9, i0, hgm, htn, hlf, c110, c119, c116, c105, c123, q1, q2, q3, d1, d2, d3]
    refine call (rrtake_ok (kd := 1) hp6 hm6 hki (by omega)) ?_
    rintro _ H4 ⟨rfl, hF4, hm4⟩
    rw [if_neg (show ¬ ((if e' = 0 then 20 else e') = 0 ∧ k.kind = 1) from fun h => he2 h.1), if_neg he2, if_neg he2] at hm4
    rw [if_neg (show ¬ ((if e' = 0 then 20 else e') = 0 ∧ k.kind = 1) from fun h => he2 h.1)]
    have ho4 := ho6.frm hF4 hm6
    replace hF4 := hF6.trans hF4
    simp -dsimp (disch := first | omega | (apply DrawYes.mk; decide +kernel)) only [go_sem, s0, s6, s7, s8, s9, i0, hgm, htn, hlf, c110, c119, c116, c105, c123, q1, q2, q3, d1, d2, d3]
    refine appn und_38 size_9 bytes_9 und_38 zero_9 rfl rfl (by decide) (ho4.ext Ext.refl.new) rfl (by simp only [List.length_map, List.length_cons, List.length_nil]; omega) (by simp only [List.length_map, List.length_cons, List.length_nil]; omega) ?_
    intro v' H5 ho5 hs5
    have hF5 := hs5.frmn (ho4.ext Ext.refl.new) (hF.trans hF4).new
    have hlt4 : p < H4.next := Nat.lt_of_lt_of_le hp2 hF4.le
    simp -dsimp (disch := first | omega | (apply DrawYes.mk; decide +kernel)) only [go_sem, s0, s6, s7, s8, s9, i0, hgm, htn, hlf, c110, c119, c116, c105, c123, q1, q2, q3, d1, d2, d3]
    repeat refine And.intro (by omega) ?_
    by_cases he : e' = 0
    ·subst he
     rw [if_pos rfl, if_pos rfl] at hm4
     refine ⟨(j + 1, ws ++ [[]], n, i', 20, k.pos), ⟨hF5, by simp only; omega, by simp only [List.length_append, List.length_cons, List.length_nil]; omega, by simp only [List.length_append, List.length_cons, List.length_nil]; omega, hs5.keepn (ho4.ext Ext.refl.new) (Nat.lt_succ_of_lt hlt4) (by rw [new_m, if_neg (Nat.ne_of_lt hlt4)]; exact hm4), ?_, htk hpne, by simp only; omega, by rw [List.map_append]; exact ho5, rfl, rfl⟩, by simp only; omega⟩
     exact hW.bad hki (fun deep => by unfold mustE; rw [if_neg (by decide), if_pos rfl, if_neg hw3]) _ _ _
    ·rw [if_neg he, if_neg he] at hm4
     refine ⟨(j + 1, ws ++ [[]], n, i', e', fr'), ⟨hF5, by simp only; omega, by simp only [List.length_append, List.length_cons, List.length_nil]; omega, by simp only [List.length_append, List.length_cons, List.length_nil]; omega, hs5.keepn (ho4.ext Ext.refl.new) (Nat.lt_succ_of_lt hlt4) (by rw [new_m, if_neg (Nat.ne_of_lt hlt4)]; exact hm4), ?_, htk hpne, by simp only; omega, by rw [List.map_append]; exact ho5, rfl, rfl⟩, by simp only; omega⟩
     exact hW.err he _ _ _
  by_cases e3 : q = [116]
  ·subst e3
   have hpne : ([116] : List UInt8) ≠ [123] := by decide
   have hxt : isText [116] := by decide
   rw [if_pos (by decide), List.length_cons] at hc3
   have c110 : (([116] : List UInt8) == [110]) = false := rfl
   have c119 : (([116] : List UInt8) == [119]) = false := rfl
   have c116 : (([116] : List UInt8) == [116]) = true := rfl
   have c105 : (([116] : List UInt8) == [105]) = false := rfl
   have c123 : (([116] : List UInt8) == [123]) = false := rfl
   simp -dsimp (disch := first | omega | (apply DrawYes.mk; decide +kernel)) only [go_sem, s0, s6, s7, s8, s9, i0, hgm, htn, hlf, c110, c119, c116, c105, c123]
   repeat refine And.intro (by omega) ?_
   refine call (rrtake_ok (kd := 3) hp2 hm3 hki (by omega)) ?_
   rintro _ H4 ⟨rfl, hF4, hm4⟩
   have ho4 := ho.frm hF4 hm3
   simp -dsimp (disch := first | omega | (apply DrawYes.mk; decide +kernel)) only [go_sem, s0, s6, s7, s8, s9, i0, hgm, htn, hlf, c110, c119, c116, c105, c123]
   refine appn und_38 size_9 bytes_9 und_38 zero_9 rfl rfl (by decide) (ho4.ext Ext.refl.new) rfl (by simp only [List.length_map, List.length_cons, List.length_nil]; omega) (by simp only [List.length_map, List.length_cons, List.length_nil]; omega) ?_
   intro v' H5 ho5 hs5
   have hF5 := hs5.frmn (ho4.ext Ext.refl.new) (hF.trans hF4).new
   have hlt4 : p < H4.next := Nat.lt_of_lt_of_le hp2 hF4.le
   simp -dsimp (disch := first | omega | (apply DrawYes.mk; decide +kernel)) only [go_sem, s0, s6, s7, s8, s9, i0, hgm, htn, hlf, c110, c119, c116, c105, c123]
   repeat refine And.intro (by omega) ?_
   by_cases hg2 : e' = 0 ∧ k.kind = 3
   ·rw [if_pos hg2] at ho5 hm4
    obtain ⟨rfl, hkk⟩ := hg2
    refine ⟨(j + 1, ws ++ [k.text], n, i' + 1, 0, fr'), ⟨hF5, by simp only; omega, by simp only [List.length_append, List.length_cons, List.length_nil]; omega, by simp only [List.length_append, List.length_cons, List.length_nil]; omega, hs5.keepn (ho4.ext Ext.refl.new) (Nat.lt_succ_of_lt hlt4) (by rw [new_m, if_neg (Nat.ne_of_lt hlt4)]; exact hm4), ?_, htk hpne, by simp only; omega, by rw [List.map_append]; exact ho5, rfl, rfl⟩, by simp only; omega⟩
    exact hW.text hki (fun deep => by unfold mustE; simp [hkk]) hpne hxt (by omega)
   rw [if_neg hg2] at ho5 hm4
   by_cases he : e' = 0
   ·subst he
    have hkk : ¬ k.kind = 3 := fun h => hg2 ⟨rfl, h⟩
    refine ⟨(j + 1, ws ++ [[]], n, i', 20, k.pos), ⟨hF5, by simp only; omega, by simp only [List.length_append, List.length_cons, List.length_nil]; omega, by simp only [List.length_append, List.length_cons, List.length_nil]; omega, hs5.keepn (ho4.ext Ext.refl.new) (Nat.lt_succ_of_lt hlt4) (by rw [new_m, if_neg (Nat.ne_of_lt hlt4)]; exact hm4), ?_, htk hpne, by simp only; omega, by rw [List.map_append]; exact ho5, rfl, rfl⟩, by simp only; omega⟩
    exact hW.bad hki (fun deep => by unfold mustE; simp [hkk]) _ _ _
   ·rw [if_neg he, if_neg he] at hm4
    refine ⟨(j + 1, ws ++ [[]], n, i', e', fr'), ⟨hF5, by simp only; omega, by simp only [List.length_append, List.length_cons, List.length_nil]; omega, by simp only [List.length_append, List.length_cons, List.length_nil]; omega, hs5.keepn (ho4.ext Ext.refl.new) (Nat.lt_succ_of_lt hlt4) (by rw [new_m, if_neg (Nat.ne_of_lt hlt4)]; exact hm4), ?_, htk hpne, by simp only; omega, by rw [List.map_append]; exact ho5, rfl, rfl⟩, by simp only; omega⟩
    exact hW.err he _ _ _
  by_cases e4 : q = [105]
  ·subst e4
   have hpne : ([105] : List UInt8) ≠ [123] := by decide
   rw [if_neg (by decide)] at hc3
   have c110 : (([105] : List UInt8) == [110]) = false := rfl
   have c119 : (([105] : List UInt8) == [119]) = false := rfl
   have c116 : (([105] : List UInt8) == [116]) = false := rfl
   have c105 : (([105] : List UInt8) == [105]) = true := rfl
   have c123 : (([105] : List UInt8) == [123]) = false := rfl
   simp -dsimp (disch := first | omega | (apply DrawYes.mk; decide +kernel)) only [go_sem, s0, s6, s7, s8, s9, i0, hgm, htn, hlf, c110, c119, c116, c105, c123]
   repeat refine And.intro (by omega) ?_
   refine call (rrtake_ok (kd := 2) hp2 hm3 hki (by omega)) ?_
   rintro _ H4 ⟨rfl, hF4, hm4⟩
   have ho4 := ho.frm hF4 hm3
   simp -dsimp (disch := first | omega | (apply DrawYes.mk; decide +kernel)) only [go_sem, s0, s6, s7, s8, s9, i0, hgm, htn, hlf, c110, c119, c116, c105, c123]
   by_cases hg2 : e' = 0 ∧ k.kind = 2
   ·rw [if_pos hg2] at hm4 ⊢
    obtain ⟨rfl, hkk⟩ := hg2
    obtain ⟨u1, u2, u3⟩ := hW.tg hki hkk
    refine call (rnumber_ok u1 u2 u3) ?_
    rintro _ _ ⟨rfl, rfl⟩
    simp -dsimp (disch := first | omega | (apply DrawYes.mk; decide +kernel)) only [go_sem, s0, s6, s7, s8, s9, i0, hgm, htn, hlf, c110, c119, c116, c105, c123]
    repeat refine And.intro (by omega) ?_
    refine ⟨(j + 1, ws, numD k.text, i' + 1, 0, fr'), ⟨hF.trans hF4, by simp only; omega, by simp only; omega, by simp only; omega, hm4, ?_, htk hpne, by simp only; omega, ho4, rfl, rfl⟩, by simp only; omega⟩
    exact hW.int hki (fun deep => by unfold mustE; simp [hkk])
   ·rw [if_neg hg2] at hm4 ⊢
    refine call rnumber_no ?_
    rintro _ _ ⟨rfl, rfl⟩
    simp -dsimp (disch := first | omega | (apply DrawYes.mk; decide +kernel)) only [go_sem, s0, s6, s7, s8, s9, i0, hgm, htn, hlf, c110, c119, c116, c105, c123]
    repeat refine And.intro (by omega) ?_
    by_cases he : e' = 0
    ·subst he
     have hkk : ¬ k.kind = 2 := fun h => hg2 ⟨rfl, h⟩
     refine ⟨(j + 1, ws, 0, i', 20, k.pos), ⟨hF.trans hF4, by simp only; omega, by simp only; omega, by simp only; omega, hm4, ?_, htk hpne, by simp only; omega, ho4, rfl, rfl⟩, by simp only; omega⟩
     exact hW.bad hki (fun deep => by unfold mustE; simp [hkk]) _ _ _
    ·rw [if_neg he, if_neg he] at hm4
     refine ⟨(j + 1, ws, 0, i', e', fr'), ⟨hF.trans hF4, by simp only; omega, by simp only; omega, by simp only; omega, hm4, ?_, htk hpne, by simp only; omega, ho4, rfl, rfl⟩, by simp only; omega⟩
     exact hW.err he _ _ _
  by_cases e5 : q = [123]
  ·subst e5
   have c110 : (([123] : List UInt8) == [110]) = false := rfl
   have c119 : (([123] : List UInt8) == [119]) = false := rfl
   have c116 : (([123] : List UInt8) == [116]) = false := rfl
   have c105 : (([123] : List UInt8) == [105]) = false := rfl
   have c123 : (([123] : List UInt8) == [123]) = true := rfl
   simp -dsimp (disch := first | omega | (apply DrawYes.mk; decide +kernel)) only [go_sem, s0, s6, s7, s8, s9, i0, hgm, htn, hlf, c110, c119, c116, c105, c123]
   repeat refine And.intro (by omega) ?_
   refine ⟨ws, n, ov, i', e', fr', rfl, ho, by omega, hm3, hii, ?_⟩
   have := parts_split kd hk j (by rw [hP]; exact hjl) (by rw [hP]; exact hg)
   rw [← this, hP, hdr]; exact hW
  have c110 : (q == [110]) = false := beq_eq_false_iff_ne.2 e1
  have c119 : (q == [119]) = false := beq_eq_false_iff_ne.2 e2
  have c116 : (q == [116]) = false := beq_eq_false_iff_ne.2 e3
  have c105 : (q == [105]) = false := beq_eq_false_iff_ne.2 e4
  have c123 : (q == [123]) = false := beq_eq_false_iff_ne.2 e5
  have hxt : ¬ isText q := fun h => h.elim e1 fun h => h.elim e2 e3
  have hpne : q ≠ [123] := e5
  have hmu : ∀ deep, mustE q deep k = if k.kind = 4 ∧ k.text = q then 0 else 20 := fun deep => by
   unfold mustE
   rw [if_neg e1, if_neg e2, if_neg e3, if_neg e4, if_neg (fun h => e5 h.1)]
  rw [if_neg (by simpa using hxt)] at hc3
  simp -dsimp (disch := first | omega | (apply DrawYes.mk; decide +kernel)) only [go_sem, s0, s6, s7, s8, s9, i0, hgm, htn, hlf, c110, c119, c116, c105, c123]
  repeat refine And.intro (by omega) ?_
  refine call (rrsign_ok hp2 hm3 hki (by omega)) ?_
  rintro _ H4 ⟨rfl, hF4, hm4⟩
  have ho4 := ho.frm hF4 hm3
  simp -dsimp (disch := first | omega | (apply DrawYes.mk; decide +kernel)) only [go_sem, s0, s6, s7, s8, s9, i0, hgm, htn, hlf, c110, c119, c116, c105, c123]
  repeat refine And.intro (by omega) ?_
  by_cases hg2 : e' = 0 ∧ k.kind = 4 ∧ k.text = q
  ·rw [if_pos hg2] at hm4
   obtain ⟨rfl, hkk⟩ := hg2
   refine ⟨(j + 1, ws, n, i' + 1, 0, fr'), ⟨hF.trans hF4, by simp only; omega, by simp only; omega, by simp only; omega, hm4, ?_, htk hpne, by simp only; omega, ho4, rfl, rfl⟩, by simp only; omega⟩
   exact hW.sign hki (fun deep => by rw [hmu, if_pos hkk]) hpne hxt e4
  ·rw [if_neg hg2] at hm4
   by_cases he : e' = 0
   ·subst he
    have hkk : ¬ (k.kind = 4 ∧ k.text = q) := fun h => hg2 ⟨rfl, h⟩
    refine ⟨(j + 1, ws, n, i', 20, k.pos), ⟨hF.trans hF4, by simp only; omega, by simp only; omega, by simp only; omega, hm4, ?_, htk hpne, by simp only; omega, ho4, rfl, rfl⟩, by simp only; omega⟩
    exact hW.bad hki (fun deep => by rw [hmu, if_neg hkk]) _ _ _
   ·rw [if_neg he, if_neg he] at hm4
    refine ⟨(j + 1, ws, n, i', e', fr'), ⟨hF.trans hF4, by simp only; omega, by simp only; omega, by simp only; omega, hm4, ?_, htk hpne, by simp only; omega, ho4, rfl, rfl⟩, by simp only; omega⟩
    exact hW.err he _ _ _
 ·have i0 : ¬ ((j + 1 : Nat) : Int) < parts.length + 1 := by omega
  have hjE : j = parts.length := by omega
  have hlf : (((headsL.getD kd [] :: parts).map DV.str).length : Int) = parts.length + 1 := by simp
  simp -dsimp (disch := first | omega | (apply DrawYes.mk; decide +kernel)) only [go_sem, s0, s6, s7, s8, s9, i0, hlf]
  refine ⟨hF, ws, n, ov, i', e', fr', rfl, ho, by omega, hm3, hii, ?_⟩
  rw [hjE, List.take_length] at hno
  rw [hjE, List.drop_length] at hW
  have := parts_end kd hk (by rw [hP]; exact hno)
  rw [this]; exact hW
end Go.Proofs.YtcknfhhbijlobaaGreatDoor.D
