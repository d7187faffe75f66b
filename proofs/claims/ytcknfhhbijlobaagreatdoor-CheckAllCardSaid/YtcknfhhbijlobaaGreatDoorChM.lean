import Derived.Test.YtcknfhhbijlobaaGreatDoorChC
namespace Go.Proofs.YtcknfhhbijlobaaGreatDoor.D
open Go
set_option linter.unusedVariables false
set_option linter.unusedSimpArgs false
set_option maxRecDepth 100000
theorem ckk1_ok {H : DH} {p md b : Nat} {R : List Stm} {stmv topv lv sv ev : DV} {es : List DV} {labels sets seen : List (List UInt8)} {x : List UInt8} (h : CkS H p md R stmv topv lv sv ev es labels sets seen) (hb : H.m b = some (.cells 83 [.ptr p 0])) :
  WC cfg 90 [.str x, .ptr b 0] H fun v H' => v = .bool (!decide (x ∈ sets)) ∧ Ext H H' := by
 refine WC_of (show Has cfg 90 11 [.tmp 3] _ from ⟨by kernel_rfl, Tryz.f90, Tryz.func90, rfl, rfl, rfl, by kernel_rfl⟩) (by simp) ?_
 have hm := h.obj
 simp -dsimp (disch := first | omega | (apply DrawYes.mk; decide +kernel)) only [go_sem, hm, hb]
 refine call (sCont_ok (by have := h.sl; omega) h.set) ?_
 rintro _ _ ⟨rfl, rfl⟩
 simp -dsimp (disch := first | omega | (apply DrawYes.mk; decide +kernel)) only [go_sem]
 exact Ext.refl
theorem ckknown_ok {H : DH} {p md : Nat} {R : List Stm} {stmv topv lv sv ev : DV} {es : List DV} {labels sets seen : List (List UInt8)} {s : Stm} {d : DV} (h : CkS H p md R stmv topv lv sv ev es labels sets seen) (hd : StmV s d) (hts : ∀ t ∈ textsL s, t.length < 1000000) :
  WC cfg 60 [.ptr p 0, d] H fun v H' => v = .bool (knownB sets s) ∧ Ext H H' := by
 refine WC_of (show Has cfg 60 31 [.tmp 4] _ from ⟨by kernel_rfl, Tryz.f60, Tryz.func60, rfl, rfl, rfl, by kernel_rfl⟩) (by simp) ?_
 have hd0 := hd
 obtain ⟨vl, vm, rfl, hl, hmm⟩ := hd
 obtain ⟨l1, l2, _⟩ := hl.facts
 obtain ⟨m1, m2, _⟩ := hmm.facts
 simp -dsimp (disch := first | omega | (apply DrawYes.mk; decide +kernel)) only [go_sem, l1, l2, m1, m2]
 refine call (cktexts_ok hd0) ?_
 rintro tv H1 ⟨hts1, hE1⟩
 have hle1 := hE1.le
 simp only [new_next] at hle1
 have hE : Ext H H1 := Ext.refl.new.new.trans hE1
 have hbx : H1.m H.next = some (.cells 83 [.ptr p 0]) := hE1.get (by simp only [new_next]; omega) (by rw [new_m, if_neg (by simp only [new_next]; omega), new_m, if_pos rfl])
 have hlen := fun H' => hts1.len (H := H') (t := 38) und_38
 rw [List.length_map] at hlen
 unfold knownB
 have hl4 : (textsL s).length ≤ 2 := by unfold textsL; repeat' split
                                        all_goals simp
 generalize textsL s = ts at *
 simp -dsimp (disch := first | omega | (apply DrawYes.mk; decide +kernel)) only [go_sem, hlen]
 refine Y_loop (α := Nat) (fun k σ H' => Ext H1 H' ∧ k ≤ ts.length ∧ (∀ t ∈ ts.take k, namesB sets t = true) ∧ σ 2 = .ptr H.next 0 ∧ σ 11 = tv ∧ σ 12 = .int .i64 ts.length ∧ σ 13 = .int .i64 k) (fun k => ts.length - k) 0 ?_ ?_
 ·simp -dsimp (disch := first | omega | (apply DrawYes.mk; decide +kernel)) only [go_sem]
  exact ⟨Ext.refl, Nat.zero_le _, by simp⟩
 rintro k σ H2 ⟨hE2, hk, hall, s2, s11, s12, s13⟩
 by_cases hlt : k < ts.length
 ·have i0 : (k : Int) < ts.length := by omega
  obtain ⟨id, off, rfl⟩ : ∃ id off, tv = .sl id 1 off (ts.map .str) := by
   rcases hts1 with ⟨_, h⟩ | h
   ·rw [List.map_eq_nil_iff] at h; rw [h] at hlt; simp at hlt
   ·exact h
  have hgl : ts[k]? = some ts[k] := List.getElem?_eq_getElem hlt
  have hmem : ts[k] ∈ ts := List.getElem_mem hlt
  have htk : ts.take (k + 1) = ts.take k ++ [ts[k]] := by rw [List.take_add_one, hgl]; rfl
  generalize ts[k] = t at hgl hmem htk
  have hgm : (ts.map DV.str)[k]? = some (.str t) := by rw [List.getElem?_map, hgl]; rfl
  simp -dsimp (disch := first | omega | (apply DrawYes.mk; decide +kernel)) only [go_sem, s2, s11, s12, s13, i0, hgm]
  refine And.intro (by omega) ?_
  refine call (vnames_ok (hts t hmem)) ?_
  rintro _ H3 ⟨hE3, nv, rfl, hns⟩
  have hno : namesB sets t = false → ts.all (namesB sets) = false := by
   intro h
   rw [List.all_eq_false]
   exact ⟨t, hmem, by rw [h]; decide⟩
  cases hn : namesL t with
  | none =>
   have hb : namesB sets t = false := by unfold namesB; rw [hn]
   simp -dsimp (disch := first | omega | (apply DrawYes.mk; decide +kernel)) only [go_sem, s2, s11, s12, s13, namesV]
   exact ⟨by rw [hno hb], ((hE.trans hE2).trans hE3)⟩
  | some ns =>
   obtain ⟨hsl, hnl⟩ := hns ns hn
   have htl := hts t hmem
   have hb : namesB sets t = !(ns.any fun n => !decide (n ∈ sets)) := by unfold namesB; rw [hn]
   simp -dsimp (disch := first | omega | (apply DrawYes.mk; decide +kernel)) only [go_sem, s2, s11, s12, s13, namesV]
   refine call (sFunc_ok (l := ns) (f := fun n => !decide (n ∈ sets)) (a := []) (c := [.ptr H.next 0]) (by omega) hsl.slv (fun x hx H4 hE4 => ckk1_ok (h.ext (((hE.trans hE2).trans hE3).trans hE4)) (((hE2.trans hE3).trans hE4).get (by omega) hbx))) ?_
   rintro _ H4 ⟨rfl, hE4⟩
   cases hany : (ns.any fun n => !decide (n ∈ sets)) with
   | true =>
    rw [hany] at hb
    simp -dsimp (disch := first | omega | (apply DrawYes.mk; decide +kernel)) only [go_sem, s2, s11, s12, s13]
    exact ⟨by rw [hno hb], ((hE.trans hE2).trans hE3).trans hE4⟩
   | false =>
    rw [hany] at hb
    simp -dsimp (disch := first | omega | (apply DrawYes.mk; decide +kernel)) only [go_sem, s2, s11, s12, s13]
    refine ⟨k + 1, ⟨(hE2.trans hE3).trans hE4, by omega, ?_, rfl⟩, by omega⟩
    intro y hy
    rw [htk] at hy
    rcases List.mem_append.1 hy with hy | hy
    ·exact hall y hy
    ·simp only [List.mem_singleton] at hy; subst hy; exact hb
 ·have i0 : ¬ (k : Int) < ts.length := by omega
  simp -dsimp (disch := first | omega | (apply DrawYes.mk; decide +kernel)) only [go_sem, s2, s11, s12, s13, i0]
  rw [List.take_of_length_le (by omega)] at hall
  exact ⟨by rw [List.all_eq_true.2 hall], hE.trans hE2⟩
theorem ckm1_ok {H : DH} {p md b n : Nat} {R : List Stm} {stmv topv lv sv ev : DV} {es : List DV} {labels sets seen : List (List UInt8)} (h : CkS H p md R stmv topv lv sv ev es labels sets seen) (hb : H.m b = some (.cells 83 [.ptr p 0])) (hn : n < R.length) :
  WC cfg 85 [.int .i64 n, .ptr b 0] H fun v H' => v = .bool (decide ((R.getD n stm00).kind ≠ 3)) ∧ Ext H H' := by
 refine WC_of (show Has cfg 85 14 [.tmp 3] _ from ⟨by kernel_rfl, Tryz.f85, Tryz.func85, rfl, rfl, rfl, by kernel_rfl⟩) (by simp) ?_
 have hm := h.obj
 have hg : R[n]? = some (R.getD n stm00) := by rw [List.getElem?_eq_getElem hn, List.getD, List.getElem?_eq_getElem hn]; rfl
 generalize R.getD n stm00 = s at hg
 obtain ⟨d, hgd, vl, vm, rfl, hl, hmm⟩ := h.all.get hg
 obtain ⟨id, off, rfl⟩ : ∃ id off, stmv = .sl id 8 off es := by
  rcases h.stm with ⟨_, h⟩ | h
  ·rw [h] at hgd; simp at hgd
  ·exact h
 obtain ⟨l1, l2, _⟩ := hl.facts
 obtain ⟨m1, m2, _⟩ := hmm.facts
 simp -dsimp (disch := first | omega | (apply DrawYes.mk; decide +kernel)) only [go_sem, hm, hb, hgd, l1, l2, m1, m2]
 refine ⟨by omega, ?_, Ext.refl⟩
 congr 1
 rw [Bool.eq_iff_iff]; simp; omega
theorem IntsV.slv {l : List Nat} {v : DV} (h : IntsV l v) : SlV 1 v (l.map intV) := by
 rcases h with ⟨h1, h2⟩ | h
 ·exact .inl ⟨h1, by rw [h2]; rfl⟩
 ·exact .inr h
theorem ckmode_ok {H : DH} {p md : Nat} {R : List Stm} {stmv topv lv sv ev : DV} {es : List DV} {labels sets seen : List (List UInt8)} {s : Stm} {d : DV} (h : CkS H p md R stmv topv lv sv ev es labels sets seen) (hd : StmV s d) (hsl : ∀ n ∈ s.l, n < R.length) (hsl2 : s.l.length < 1000000) :
  WC cfg 55 [.ptr p 0, d] H fun v H' => v = .bool (modeB md R s) ∧ Ext H H' := by
 refine WC_of (show Has cfg 55 60 [.tmp 4] _ from ⟨by kernel_rfl, Tryz.f55, Tryz.func55, rfl, rfl, rfl, by kernel_rfl⟩) (by simp) ?_
 obtain ⟨vl, vm, rfl, hl, hmm⟩ := hd
 obtain ⟨l1, l2, _⟩ := hl.facts
 obtain ⟨m1, m2, _⟩ := hmm.facts
 have yb : ¬ H.next = H.next + 1 := by omega
 have yb2 : ¬ H.next = H.next + 1 + 1 := by omega
 have yb3 : ¬ H.next = H.next + 1 + 1 + 1 := by omega
 have yb4 : ¬ H.next + 1 = H.next + 1 + 1 := by omega
 have yb5 : ¬ H.next + 1 = H.next + 1 + 1 + 1 := by omega
 have hE0 : ∀ o o', Ext H ((H.new o).new o') := fun o o' => Ext.refl.new.new
 have of1 : ∀ (o o' : DObj) (x : Nat), WC cfg 84 [.ptr p 0, .sl (H.next + 2) 1 0 [.int .i64 x]] (((H.new o).new o').new (.tip 3 1 true)) fun v H' => v = .bool (decide (md ∈ [x])) ∧ H' = (((H.new o).new o').new (.tip 3 1 true)) := fun o o' x => ckof_ok (l := [x]) (h.ext (hE0 o o').new) (by simp)
 have of2 : ∀ (o o' : DObj), WC cfg 84 [.ptr p 0, .sl (H.next + 2) 1 0 [.int .i64 1, .int .i64 2]] (((H.new o).new o').new (.tip 3 2 true)) fun v H' => v = .bool (decide (md ∈ [1, 2])) ∧ H' = (((H.new o).new o').new (.tip 3 2 true)) := fun o o' => ckof_ok (l := [1, 2]) (h.ext (hE0 o o').new) (by simp)
 by_cases e8 : s.kind = 8
 ·have hv : modeB md R s = decide (md ∈ [1]) := by unfold modeB; simp [e8]
  rw [hv]
  have b8 : ((s.kind : Int) == 8) = true := by simp; omega
  have b9 : ((s.kind : Int) == 9) = false := by simp; omega
  have b10 : ((s.kind : Int) == 10) = false := by simp; omega
  have b11 : ((s.kind : Int) == 11) = false := by simp; omega
  have b7 : ((s.kind : Int) == 7) = false := by simp; omega
  have b6 : ((s.kind : Int) == 6) = false := by simp; omega
  simp -dsimp (disch := first | omega | (apply DrawYes.mk; decide +kernel)) only [go_sem, l1, l2, m1, m2, yb, yb2, yb3, yb4, yb5, b8, b9, b10, b11, b7, b6]
  refine call (of1 _ _ 1) ?_
  rintro _ _ ⟨rfl, rfl⟩
  simp -dsimp (disch := first | omega | (apply DrawYes.mk; decide +kernel)) only [go_sem]
  exact Ext.refl.new.new.new
 by_cases e9 : s.kind = 9
 ·have hv : modeB md R s = decide (md ∈ [2]) := by unfold modeB; simp [e9]
  rw [hv]
  have b8 : ((s.kind : Int) == 8) = false := by simp; omega
  have b9 : ((s.kind : Int) == 9) = true := by simp; omega
  have b10 : ((s.kind : Int) == 10) = false := by simp; omega
  have b11 : ((s.kind : Int) == 11) = false := by simp; omega
  have b7 : ((s.kind : Int) == 7) = false := by simp; omega
  have b6 : ((s.kind : Int) == 6) = false := by simp; omega
  simp -dsimp (disch := first | omega | (apply DrawYes.mk; decide +kernel)) only [go_sem, l1, l2, m1, m2, yb, yb2, yb3, yb4, yb5, b8, b9, b10, b11, b7, b6]
  refine call (of1 _ _ 2) ?_
  rintro _ _ ⟨rfl, rfl⟩
  simp -dsimp (disch := first | omega | (apply DrawYes.mk; decide +kernel)) only [go_sem]
  exact Ext.refl.new.new.new
 by_cases e10 : s.kind = 10
 ·have hv : modeB md R s = decide (md ∈ [3]) := by unfold modeB; simp [e10]
  rw [hv]
  have b8 : ((s.kind : Int) == 8) = false := by simp; omega
  have b9 : ((s.kind : Int) == 9) = false := by simp; omega
  have b10 : ((s.kind : Int) == 10) = true := by simp; omega
  have b11 : ((s.kind : Int) == 11) = false := by simp; omega
  have b7 : ((s.kind : Int) == 7) = false := by simp; omega
  have b6 : ((s.kind : Int) == 6) = false := by simp; omega
  simp -dsimp (disch := first | omega | (apply DrawYes.mk; decide +kernel)) only [go_sem, l1, l2, m1, m2, yb, yb2, yb3, yb4, yb5, b8, b9, b10, b11, b7, b6]
  refine call (of1 _ _ 3) ?_
  rintro _ _ ⟨rfl, rfl⟩
  simp -dsimp (disch := first | omega | (apply DrawYes.mk; decide +kernel)) only [go_sem]
  exact Ext.refl.new.new.new
 by_cases e11 : s.kind = 11
 ·have hv : modeB md R s = decide (md ∈ [3]) := by unfold modeB; simp [e11]
  rw [hv]
  have b8 : ((s.kind : Int) == 8) = false := by simp; omega
  have b9 : ((s.kind : Int) == 9) = false := by simp; omega
  have b10 : ((s.kind : Int) == 10) = false := by simp; omega
  have b11 : ((s.kind : Int) == 11) = true := by simp; omega
  have b7 : ((s.kind : Int) == 7) = false := by simp; omega
  have b6 : ((s.kind : Int) == 6) = false := by simp; omega
  simp -dsimp (disch := first | omega | (apply DrawYes.mk; decide +kernel)) only [go_sem, l1, l2, m1, m2, yb, yb2, yb3, yb4, yb5, b8, b9, b10, b11, b7, b6]
  refine call (of1 _ _ 3) ?_
  rintro _ _ ⟨rfl, rfl⟩
  simp -dsimp (disch := first | omega | (apply DrawYes.mk; decide +kernel)) only [go_sem]
  exact Ext.refl.new.new.new
 by_cases e7 : s.kind = 7
 ·have hv : modeB md R s = ((decide (s.s ∈ [plainW, loginW, cramW]) && decide (md ∈ [1, 2])) || (decide (s.s = apopW) && decide (md ∈ [2]))) := by unfold modeB; simp [e7]
  rw [hv]
  have b8 : ((s.kind : Int) == 8) = false := by simp; omega
  have b9 : ((s.kind : Int) == 9) = false := by simp; omega
  have b10 : ((s.kind : Int) == 10) = false := by simp; omega
  have b11 : ((s.kind : Int) == 11) = false := by simp; omega
  have b7 : ((s.kind : Int) == 7) = true := by simp; omega
  have b6 : ((s.kind : Int) == 6) = false := by simp; omega
  simp -dsimp (disch := first | omega | (apply DrawYes.mk; decide +kernel)) only [go_sem, l1, l2, m1, m2, yb, yb2, yb3, yb4, yb5, b8, b9, b10, b11, b7, b6]
  refine call (sCont_ok (l := [plainW, loginW, cramW]) (by decide) (.inr ⟨_, _, rfl⟩)) ?_
  rintro _ _ ⟨rfl, rfl⟩
  by_cases hp1 : s.s ∈ [plainW, loginW, cramW]
  ·have d1 : decide (s.s ∈ [plainW, loginW, cramW]) = true := decide_eq_true hp1
   rw [d1]
   simp -dsimp (disch := first | omega | (apply DrawYes.mk; decide +kernel)) only [go_sem, l1, l2, m1, m2, yb, yb2, yb3, yb4, yb5, b8, b9, b10, b11, b7, b6]
   refine call (ckof_ok (l := [1, 2]) (h.ext Ext.refl.new.new.new.new) (by simp)) ?_
   rintro _ _ ⟨rfl, rfl⟩
   by_cases h12 : md ∈ [1, 2]
   ·rw [decide_eq_true h12]
    simp -dsimp (disch := first | omega | (apply DrawYes.mk; decide +kernel)) only [go_sem, l1, l2, m1, m2, yb, yb2, yb3, yb4, yb5]
    exact Ext.refl.new.new.new.new
   ·rw [decide_eq_false h12]
    have hap : s.s ≠ apopW := fun hh => by rw [hh] at hp1; exact absurd hp1 (by decide)
    have c1 : (s.s == [97, 112, 111, 112]) = false := beq_eq_false_iff_ne.2 hap
    rw [decide_eq_false hap]
    simp -dsimp (disch := first | omega | (apply DrawYes.mk; decide +kernel)) only [go_sem, l1, l2, m1, m2, yb, yb2, yb3, yb4, yb5, c1]
    exact ⟨by simp, Ext.refl.new.new.new.new⟩
  ·have d1 : decide (s.s ∈ [plainW, loginW, cramW]) = false := decide_eq_false hp1
   rw [d1]
   by_cases hap : s.s = apopW
   ·have c1 : (s.s == [97, 112, 111, 112]) = true := beq_iff_eq.2 hap
    rw [decide_eq_true hap]
    simp -dsimp (disch := first | omega | (apply DrawYes.mk; decide +kernel)) only [go_sem, l1, l2, m1, m2, yb, yb2, yb3, yb4, yb5, b8, b9, b10, b11, b7, b6, c1]
    refine call (ckof_ok (l := [2]) (h.ext Ext.refl.new.new.new.new) (by simp)) ?_
    rintro _ _ ⟨rfl, rfl⟩
    simp -dsimp (disch := first | omega | (apply DrawYes.mk; decide +kernel)) only [go_sem]
    exact ⟨by simp, Ext.refl.new.new.new.new⟩
   ·have c1 : (s.s == [97, 112, 111, 112]) = false := beq_eq_false_iff_ne.2 hap
    rw [decide_eq_false hap]
    simp -dsimp (disch := first | omega | (apply DrawYes.mk; decide +kernel)) only [go_sem, l1, l2, m1, m2, yb, yb2, yb3, yb4, yb5, b8, b9, b10, b11, b7, b6, c1]
    exact ⟨by simp, Ext.refl.new.new.new⟩
 by_cases e6 : s.kind = 6
 ·have hv : modeB md R s = (decide (md ∈ [1, 2]) && !(s.l.any fun n => decide ((R.getD n stm00).kind ≠ 3))) := by unfold modeB; simp [e6]
  rw [hv]
  have b8 : ((s.kind : Int) == 8) = false := by simp; omega
  have b9 : ((s.kind : Int) == 9) = false := by simp; omega
  have b10 : ((s.kind : Int) == 10) = false := by simp; omega
  have b11 : ((s.kind : Int) == 11) = false := by simp; omega
  have b7 : ((s.kind : Int) == 7) = false := by simp; omega
  have b6 : ((s.kind : Int) == 6) = true := by simp; omega
  simp -dsimp (disch := first | omega | (apply DrawYes.mk; decide +kernel)) only [go_sem, l1, l2, m1, m2, yb, yb2, yb3, yb4, yb5, b8, b9, b10, b11, b7, b6]
  refine call (of2 _ _) ?_
  rintro _ _ ⟨rfl, rfl⟩
  by_cases h12 : md ∈ [1, 2]
  ·rw [decide_eq_true h12]
   simp -dsimp (disch := first | omega | (apply DrawYes.mk; decide +kernel)) only [go_sem, l1, l2, m1, m2, yb, yb2, yb3, yb4, yb5]
   refine call (iFunc_ok (l := s.l) (f := fun n => decide ((R.getD n stm00).kind ≠ 3)) (a := []) (c := [.ptr H.next 0]) (by omega) hl.slv (fun x hx H4 hE4 => WC_mono (ckm1_ok (h.ext (Ext.trans Ext.refl.new.new.new hE4)) (hE4.get (by simp only [new_next]; omega) (by rw [new_m, if_neg (by simp only [new_next]; omega), new_m, if_neg (by simp only [new_next]; omega), new_m, if_pos rfl])) (hsl x hx)) fun _ _ h => h)) ?_
   rintro _ H4 ⟨rfl, hE4⟩
   simp -dsimp (disch := first | omega | (apply DrawYes.mk; decide +kernel)) only [go_sem]
   exact Ext.trans Ext.refl.new.new.new hE4
  ·rw [decide_eq_false h12]
   simp -dsimp (disch := first | omega | (apply DrawYes.mk; decide +kernel)) only [go_sem, l1, l2, m1, m2, yb, yb2, yb3, yb4, yb5]
   exact ⟨by simp, Ext.refl.new.new.new⟩
 have hv : modeB md R s = true := by unfold modeB; simp [e8, e9, e10, e11, e7, e6]
 rw [hv]
 have b8 : ((s.kind : Int) == 8) = false := by simp; omega
 have b9 : ((s.kind : Int) == 9) = false := by simp; omega
 have b10 : ((s.kind : Int) == 10) = false := by simp; omega
 have b11 : ((s.kind : Int) == 11) = false := by simp; omega
 have b7 : ((s.kind : Int) == 7) = false := by simp; omega
 have b6 : ((s.kind : Int) == 6) = false := by simp; omega
 simp -dsimp (disch := first | omega | (apply DrawYes.mk; decide +kernel)) only [go_sem, l1, l2, m1, m2, yb, yb2, yb3, yb4, yb5, b8, b9, b10, b11, b7, b6]
 exact Ext.refl.new.new
end Go.Proofs.YtcknfhhbijlobaaGreatDoor.D
