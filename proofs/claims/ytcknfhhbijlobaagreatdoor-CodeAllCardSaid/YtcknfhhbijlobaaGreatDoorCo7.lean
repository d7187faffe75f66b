import Derived.Test.YtcknfhhbijlobaaGreatDoorCo6
namespace Go.Proofs.YtcknfhhbijlobaaGreatDoor.D
open Go
set_option linter.unusedVariables false
set_option linter.unusedSimpArgs false
set_option maxRecDepth 100000
theorem toOf_app (a b : List (List UInt8 × Nat)) (x : List UInt8) : toOf (a ++ b) x = (toOf a x).orElse fun _ => toOf b x := by
 unfold toOf
 rw [List.find?_append]
 cases List.find? (fun q => q.1 == x) a <;> rfl
def findS (R : List Stm) (f : Nat) (s : Stm) (p : Nat) (x : List UInt8) : Option Nat :=
 if s.kind = 13 then (if s.s = x then some p else none) else (toOf (labL R f s.l (p + 1)) x).orElse fun _ => toOf (labL R f s.m (p + 2 + szL R f s.l)) x
theorem lab_nil {R : List Stm} {f p : Nat} {x : List UInt8} : toOf (labL R f [] p) x = none := rfl
theorem lab_find {R : List Stm} (hfin : ∀ s ∈ R, fineS s) {f n p : Nat} {s : Stm} {x : List UInt8} (hn : R[n]? = some s) : toOf (labN R (f + 1) n p) x = findS R f s p x := by
 obtain ⟨f1, f2, f3, f4⟩ := hfin s (List.mem_of_getElem? hn)
 rw [labN]
 simp only [hn]
 have hd : rowB (rawN R f) (labN R f) = labL R f := rfl
 have hd2 : rowR (rawN R f) = rawL R f := rfl
 simp only [hd, hd2]
 unfold labS findS
 by_cases k13 : s.kind = 13
 ·simp [k13, toOf, List.find?_cons]
  by_cases h : s.s = x
  ·simp [h]
  ·simp [h, show (s.s == x) = false by simp [h]]
 by_cases k6 : s.kind = 6
 ·simp [k6, f4 (by omega), lab_nil]
 by_cases k5 : s.kind = 5
 ·by_cases hm : s.m = []
  ·simp [k5, hm, lab_nil]
  ·simp [k5, hm, toOf_app, raw_sz hfin]
 ·simp [k13, k6, k5, f3 (by omega) (by omega), f4 (by omega), lab_nil]; rfl
def findV (o : Option Nat) : DV := .int .i64 (match o with | some k => (k : Int) | none => -1)
def FindOk (R : List Stm) (f : Nat) : Prop := ∀ {H : DH} {md fr : Nat} {stmv topv : DV} {l : List Nat} {lv : DV} {x : List UInt8}, RowS R stmv → topv.one = true → IntsV l lv → l.length < 1000000 → (∀ c ∈ l, c < f ∧ c < R.length) → fr < 3000000 → (l ≠ [] → fr + szL R f l < 1000000) → x.length < 1000000 →
 WC cfg 121 [.agg [.int .i64 md, stmv, topv], lv, .int .i64 fr, .str x] H fun v H' => v = findV (toOf (labL R f l fr) x) ∧ Ext H H'
theorem rfind_ok {R : List Stm} (hT : TreeR R) {f : Nat} (hst : ∀ g, f = g + 1 → FindOk R g) : FindOk R f := by
 intro H md fr stmv topv l lv x hs ht hl hl6 hc hfr hsz hx
 refine WC_of (show Has cfg 121 70 [.tmp 8] _ from ⟨by kernel_rfl, Tryz.f121, Tryz.func121, rfl, rfl, rfl, by kernel_rfl⟩) (by simp) ?_
 obtain ⟨e1, e2, e3⟩ := hl.facts
 have hs1 := hs.one
 simp -dsimp (disch := first | omega | (apply DrawYes.mk; decide +kernel)) only [go_sem, e3, hs1, ht]
 refine Y_loop (α := Nat) (fun k σ H' => k ≤ l.length ∧ Ext H H' ∧ H'.m H.next = some (.cells 27 [.int .i64 md, stmv, topv]) ∧ H.next < H'.next ∧ toOf (labL R f (l.take k) fr) x = none ∧ σ 1 = lv ∧ σ 2 = .int .i64 (fr + szL R f (l.take k) : Nat) ∧ σ 3 = .str x ∧ σ 4 = .ptr H.next 0 ∧ σ 9 = .int .i64 k) (fun k => l.length - k) 0 ?_ ?_
 ·simp -dsimp (disch := first | omega | (apply DrawYes.mk; decide +kernel)) only [go_sem]
  refine ⟨Nat.zero_le _, Ext.refl.new, Nat.lt_succ_self _, rfl, ?_⟩
  simp [szL, rawL, rowR]
 rintro k σ H2 ⟨hk, hE, hm, hn, hno, s1, s2, s3, s4, s9⟩
 by_cases hlt : k < l.length
 ·have i0 : (k : Int) < l.length := by omega
  have hg : l[k]? = some l[k] := List.getElem?_eq_getElem hlt
  have hin : l[k] ∈ l := List.getElem_mem _
  generalize l[k] = n at hg hin
  obtain ⟨hn1, hn2⟩ := hc n hin
  obtain ⟨g, rfl⟩ : ∃ g, f = g + 1 := ⟨f - 1, by omega⟩
  rcases hl with ⟨rfl, rfl⟩ | ⟨id, off, rfl⟩
  ·simp at hlt
  have hgv : (l.map intV)[k]? = some (.int .i64 n) := by rw [List.getElem?_map, hg]; rfl
  have hRn : R[n]? = some R[n] := List.getElem?_eq_getElem hn2
  have hmem := List.getElem_mem hn2
  have hstep := szL_step hT.fin (f := g) hg hRn
  have hle := szL_le (R := R) (f := g + 1) (l := l) (k + 1)
  have hlab : toOf (labL R (g + 1) (l.take (k + 1)) fr) x = findS R g R[n] (fr + szL R (g + 1) (l.take k)) x := by
   rw [labL_step hg, toOf_app, hno, lab_find hT.fin hRn, raw_sz hT.fin]; rfl
  have hown := hT.own n _ hRn
  have hfs := hT.fin _ hmem
  have hlen := hT.len _ hmem
  have hfound : ∀ q, findS R g R[n] (fr + szL R (g + 1) (l.take k)) x = some q → toOf (labL R (g + 1) l fr) x = some q := fun q hq => by
   have e2 : labL R (g + 1) l fr = labL R (g + 1) (l.take (k + 1)) fr ++ labL R (g + 1) (l.drop (k + 1)) (fr + (rawL R (g + 1) (l.take (k + 1)) fr).length) := by
    unfold labL rawL; rw [← rowB_app, List.take_append_drop]
   rw [e2, toOf_app, hlab, hq]; rfl
  obtain ⟨sid, soff, es, vl, vm, rfl, hgd, hvl, hvm⟩ := hs.get hRn
  generalize R[n] = s at *
  obtain ⟨v1, v2, v3⟩ := hvl.facts
  obtain ⟨w1, w2, w3⟩ := hvm.facts
  have y0 : ¬ H.next = H2.next := by omega
  have y1 : ¬ H2.next = H.next := by omega
  simp -dsimp (disch := first | omega | (apply DrawYes.mk; decide +kernel)) only [go_sem, s1, s2, s3, s4, s9, i0, hgv, hm, e3, y0, y1]
  refine Y_float [(1, 9, 9), (5, 9, 9), (7, 9, 9)] (by decide +kernel) ?_
  have hl0 : l ≠ [] := by rintro rfl; simp at hlt
  have hsz' := hsz hl0
  have hcl : ∀ c ∈ s.l, c < g ∧ c < R.length := fun c hc => by have := hown c (by simp [hc]); omega
  have hcm : ∀ c ∈ s.m, c < g ∧ c < R.length := fun c hc => by have := hown c (by simp [hc]); omega
  have hbl : s.l ≠ [] → fr + szL R (g + 1) (l.take k) + 1 + szL R g s.l + (if s.m = [] then 0 else 1 + szL R g s.m) < 1000000 := fun h => by
   have h56 : s.kind = 5 ∨ s.kind = 6 := by
    refine Classical.byContradiction fun hh => h (hfs.2.2.1 ?_ ?_) <;> omega
   have h13 : ¬ s.kind = 13 := by omega
   have := hsz (by rintro rfl; simp at hlt)
   unfold szS at hstep
   rw [if_neg h13, if_pos h56] at hstep
   omega
  have hbm : s.m ≠ [] → fr + szL R (g + 1) (l.take k) + 2 + szL R g s.l + szL R g s.m < 1000000 := fun h => by
   have h5 : s.kind = 5 := Classical.byContradiction fun hh => h (hfs.2.2.2 hh)
   unfold szS at hstep
   rw [if_neg (by omega), if_pos (.inl h5), if_neg h] at hstep
   omega
  have hss : szS R g s < 1000000 := by omega
  have hsl : szL R g s.l < 1000000 := by
   by_cases h : s.l = []
   ·rw [h]; show ([] : List Raw).length < _; decide
   ·have := hbl h; omega
  by_cases k13 : s.kind = 13
  ·have b0 : ((s.kind : Int) == 13) = true := by simp; omega
   simp -dsimp (disch := first | omega | (apply DrawYes.mk; decide +kernel)) only [go_sem, s1, s2, s3, s4, s9, i0, hgv, hm, e3, y0, y1, hgd, v1, v2, w1, w2, b0]
   refine ⟨by omega, by omega, fun hxx => ⟨by rw [hfound _ (by unfold findS; rw [if_pos k13, if_pos hxx])]; rfl, hE.trans (Ext.refl.new.set (Nat.le_refl _))⟩, fun hxx => ?_⟩
   have e1 : ((fr + szL R (g + 1) (l.take k) : Nat) : Int) + 1 = ((fr + szL R (g + 1) (l.take k) + 1 : Nat) : Int) := by omega
   rw [e1]
   refine call (hst g rfl hs ht hvl hlen.2.1 hcl (by omega) (fun h => by have := hbl h; omega) hx) ?_
   rintro _ H4 ⟨rfl, hE4⟩
   have hle4 := hE4.le
   simp only [set_next, new_next] at hle4
   have q1 := hE4.get (b := H2.next) (by simp only [set_next, new_next]; omega) set_at
   have q0 : H4.m H.next = some (.cells 27 [.int .i64 md, .sl sid 8 soff es, topv]) := hE4.get (b := H.next) (by simp only [set_next, new_next]; omega) (by rw [set_ne y0, new_old hn]; exact hm)
   have hEx : Ext H H4 := (hE.trans (Ext.refl.new.set (Nat.le_refl _))).trans hE4
   cases ho1 : toOf (labL R g s.l (fr + szL R (g + 1) (l.take k) + 1)) x with
   | some q =>
    have j0 : (0 : Int) ≤ q := by omega
    simp only [findV]
    simp -dsimp (disch := first | omega | (apply DrawYes.mk; decide +kernel)) only [go_sem, j0]
    exact ⟨by rw [hfound q (by unfold findS; rw [if_pos k13]; exact absurd ho1 (by rw [hfs.2.2.1 (by omega) (by omega), lab_nil]; simp))], hEx⟩
   | none =>
    simp only [findV]
    have j0 : ¬ (0 : Int) ≤ -1 := by omega
    simp -dsimp (disch := first | omega | (apply DrawYes.mk; decide +kernel)) only [go_sem, j0]
    refine Y_float [(0, 9, 11), (2, 9, 11)] (by decide +kernel) ?_
    simp -dsimp (disch := first | omega | (apply DrawYes.mk; decide +kernel)) only [go_sem, s1, s2, s3, s4, s9, q1, q0, w1, w2, v1, v2]
    refine call (szAll_ok hT g hs ht hvl hlen.2.1 hcl hsl) ?_
    rintro _ H5 ⟨rfl, hE5⟩
    have hle5 := hE5.le
    have p1 := hE5.get (b := H2.next) (by omega) q1
    have p0 := hE5.get (b := H.next) (by omega) q0
    simp -dsimp (disch := first | omega | (apply DrawYes.mk; decide +kernel)) only [go_sem, s1, s2, s3, s4, s9, p1, p0, q1, q0, w1, w2, v1, v2]
    have e2 : ((fr + szL R (g + 1) (l.take k) : Nat) : Int) + 2 + (szL R g s.l : Nat) = ((fr + szL R (g + 1) (l.take k) + 2 + szL R g s.l : Nat) : Int) := by omega
    rw [e2]
    refine call (hst g rfl hs ht hvm hlen.2.2 hcm (by omega) hbm hx) ?_
    rintro _ H6 ⟨rfl, hE6⟩
    have hle6 := hE6.le
    have r0 := hE6.get (b := H.next) (by omega) p0
    have hEy : Ext H H6 := (hEx.trans hE5).trans hE6
    cases ho2 : toOf (labL R g s.m (fr + szL R (g + 1) (l.take k) + 2 + szL R g s.l)) x with
    | some q =>
     have j0 : (0 : Int) ≤ q := by omega
     simp only [findV]
     simp -dsimp (disch := first | omega | (apply DrawYes.mk; decide +kernel)) only [go_sem, j0]
     exact ⟨by rw [hfound q (by unfold findS; rw [if_pos k13]; exact absurd ho2 (by rw [hfs.2.2.2 (by omega), lab_nil]; simp))], hEy⟩
    | none =>
     simp only [findV]
     have j0 : ¬ (0 : Int) ≤ -1 := by omega
     simp -dsimp (disch := first | omega | (apply DrawYes.mk; decide +kernel)) only [go_sem, j0, s1, s2, s3, s4, s9, r0, hgv, ht]
     refine ⟨by omega, ?_⟩
     refine call (sz_ok hT (szAll_ok hT g) hs ht hRn hn1 hss) ?_
     rintro _ H7 ⟨rfl, hE7⟩
     have hle7 := hE7.le
     simp -dsimp (disch := first | omega | (apply DrawYes.mk; decide +kernel)) only [go_sem, s1, s2, s3, s4, s9]
     refine ⟨k + 1, ⟨by omega, hEy.trans hE7, hE7.get (by omega) r0, by omega, ?_, by congr 1; omega, by congr 1⟩, by omega⟩
     rw [hlab]
     unfold findS
     rw [if_pos k13, if_neg hxx]
  ·have b0 : ((s.kind : Int) == 13) = false := by simp; omega
   simp -dsimp (disch := first | omega | (apply DrawYes.mk; decide +kernel)) only [go_sem, s1, s2, s3, s4, s9, i0, hgv, hm, e3, y0, y1, hgd, v1, v2, w1, w2, b0]
   refine ⟨by omega, by omega, ?_⟩
   have e1 : ((fr + szL R (g + 1) (l.take k) : Nat) : Int) + 1 = ((fr + szL R (g + 1) (l.take k) + 1 : Nat) : Int) := by omega
   rw [e1]
   refine call (hst g rfl hs ht hvl hlen.2.1 hcl (by omega) (fun h => by have := hbl h; omega) hx) ?_
   rintro _ H4 ⟨rfl, hE4⟩
   have hle4 := hE4.le
   simp only [set_next, new_next] at hle4
   have q1 := hE4.get (b := H2.next) (by simp only [set_next, new_next]; omega) set_at
   have q0 : H4.m H.next = some (.cells 27 [.int .i64 md, .sl sid 8 soff es, topv]) := hE4.get (b := H.next) (by simp only [set_next, new_next]; omega) (by rw [set_ne y0, new_old hn]; exact hm)
   have hEx : Ext H H4 := (hE.trans (Ext.refl.new.set (Nat.le_refl _))).trans hE4
   cases ho1 : toOf (labL R g s.l (fr + szL R (g + 1) (l.take k) + 1)) x with
   | some q =>
    have j0 : (0 : Int) ≤ q := by omega
    simp only [findV]
    simp -dsimp (disch := first | omega | (apply DrawYes.mk; decide +kernel)) only [go_sem, j0]
    exact ⟨by rw [hfound q (by unfold findS; rw [if_neg k13]; rw [ho1]; rfl)], hEx⟩
   | none =>
    simp only [findV]
    have j0 : ¬ (0 : Int) ≤ -1 := by omega
    simp -dsimp (disch := first | omega | (apply DrawYes.mk; decide +kernel)) only [go_sem, j0]
    refine Y_float [(0, 9, 11), (2, 9, 11)] (by decide +kernel) ?_
    simp -dsimp (disch := first | omega | (apply DrawYes.mk; decide +kernel)) only [go_sem, s1, s2, s3, s4, s9, q1, q0, w1, w2, v1, v2]
    refine call (szAll_ok hT g hs ht hvl hlen.2.1 hcl hsl) ?_
    rintro _ H5 ⟨rfl, hE5⟩
    have hle5 := hE5.le
    have p1 := hE5.get (b := H2.next) (by omega) q1
    have p0 := hE5.get (b := H.next) (by omega) q0
    simp -dsimp (disch := first | omega | (apply DrawYes.mk; decide +kernel)) only [go_sem, s1, s2, s3, s4, s9, p1, p0, q1, q0, w1, w2, v1, v2]
    have e2 : ((fr + szL R (g + 1) (l.take k) : Nat) : Int) + 2 + (szL R g s.l : Nat) = ((fr + szL R (g + 1) (l.take k) + 2 + szL R g s.l : Nat) : Int) := by omega
    rw [e2]
    refine call (hst g rfl hs ht hvm hlen.2.2 hcm (by omega) hbm hx) ?_
    rintro _ H6 ⟨rfl, hE6⟩
    have hle6 := hE6.le
    have r0 := hE6.get (b := H.next) (by omega) p0
    have hEy : Ext H H6 := (hEx.trans hE5).trans hE6
    cases ho2 : toOf (labL R g s.m (fr + szL R (g + 1) (l.take k) + 2 + szL R g s.l)) x with
    | some q =>
     have j0 : (0 : Int) ≤ q := by omega
     simp only [findV]
     simp -dsimp (disch := first | omega | (apply DrawYes.mk; decide +kernel)) only [go_sem, j0]
     exact ⟨by rw [hfound q (by unfold findS; rw [if_neg k13]; rw [ho1]; exact ho2)], hEy⟩
    | none =>
     simp only [findV]
     have j0 : ¬ (0 : Int) ≤ -1 := by omega
     simp -dsimp (disch := first | omega | (apply DrawYes.mk; decide +kernel)) only [go_sem, j0, s1, s2, s3, s4, s9, r0, hgv, ht]
     refine ⟨by omega, ?_⟩
     refine call (sz_ok hT (szAll_ok hT g) hs ht hRn hn1 hss) ?_
     rintro _ H7 ⟨rfl, hE7⟩
     have hle7 := hE7.le
     simp -dsimp (disch := first | omega | (apply DrawYes.mk; decide +kernel)) only [go_sem, s1, s2, s3, s4, s9]
     refine ⟨k + 1, ⟨by omega, hEy.trans hE7, hE7.get (by omega) r0, by omega, ?_, by congr 1; omega, by congr 1⟩, by omega⟩
     rw [hlab]
     unfold findS
     rw [if_neg k13, ho1]
     exact ho2
 ·have hkk : k = l.length := by omega
  have i0 : ¬ (k : Int) < l.length := by omega
  subst hkk
  rw [List.take_length] at hno
  simp -dsimp (disch := first | omega | (apply DrawYes.mk; decide +kernel)) only [go_sem, s1, s2, s3, s4, s9, i0, e3]
  rw [hno]
  exact ⟨rfl, hE⟩
theorem findAll_ok {R : List Stm} (hT : TreeR R) : ∀ f, FindOk R f
 | 0 => rfind_ok hT fun g h => by cases h
 | f + 1 => rfind_ok hT fun g h => by
  obtain rfl : f = g := by omega
  exact findAll_ok hT f
end Go.Proofs.YtcknfhhbijlobaaGreatDoor.D
