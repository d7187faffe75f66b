import Derived.Test.YtcknfhhbijlobaaGreatDoorMH
namespace Go.Proofs.YtcknfhhbijlobaaGreatDoor.D
open Go
set_option linter.unusedVariables false
set_option linter.unusedSimpArgs false
set_option maxRecDepth 100000
def szL (R : List Stm) (f : Nat) (l : List Nat) : Nat := (rawL R f l 0).length
def szS (R : List Stm) (f : Nat) (s : Stm) : Nat := if s.kind = 13 then 0 else if s.kind = 5 ∨ s.kind = 6 then 1 + szL R f s.l + (if s.m = [] then 0 else 1 + szL R f s.m) else 1
theorem raw_sz {R : List Stm} (hfin : ∀ s ∈ R, fineS s) (f : Nat) (l : List Nat) (p : Nat) : (rawL R f l p).length = szL R f l := by
 have h1 := cnt_raw hfin (fun _ => true) f l p
 have h2 := cnt_raw hfin (fun _ => true) f l 0
 rw [← h2] at h1
 simpa [szL] using h1
theorem rawS_sz {R : List Stm} (hfin : ∀ s ∈ R, fineS s) {s : Stm} (hs : fineS s) (f p : Nat) : (rawS (rawL R f) s p).length = szS R f s := by
 obtain ⟨f1, f2, f3, f4⟩ := hs
 unfold rawS szS
 by_cases k13 : s.kind = 13
 ·simp [k13]
 by_cases k14 : s.kind = 14
 ·simp [k14]
 by_cases k15 : s.kind = 15
 ·simp [k15]
 by_cases k6 : s.kind = 6
 ·simp [k6, f4 (by omega), raw_sz hfin]; omega
 by_cases k5 : s.kind = 5
 ·by_cases hm : s.m = []
  ·simp [k5, hm, raw_sz hfin]; omega
  ·simp [k5, hm, raw_sz hfin]; omega
 ·simp [k13, k14, k15, k6, k5]
theorem szL_step {R : List Stm} (hfin : ∀ s ∈ R, fineS s) {f : Nat} {l : List Nat} {k n : Nat} {s : Stm} (h : l[k]? = some n) (hs : R[n]? = some s) : szL R (f + 1) (l.take (k + 1)) = szL R (f + 1) (l.take k) + szS R f s := by
 unfold szL
 rw [rawL_step h, List.length_append, rawN]
 simp only [hs]
 have := rawS_sz hfin (hfin s (List.mem_of_getElem? hs)) f (0 + (rawL R (f + 1) (l.take k) 0).length)
 exact congrArg _ this
theorem szL_le {R : List Stm} {f : Nat} {l : List Nat} (k : Nat) : szL R f (l.take k) ≤ szL R f l := by
 have e1 : rawL R f l 0 = rawL R f (l.take k) 0 ++ rawL R f (l.drop k) (0 + (rawL R f (l.take k) 0).length) := by
  unfold rawL; rw [← rowR_app, List.take_append_drop]
 unfold szL
 rw [e1, List.length_append]; omega
def RowS (R : List Stm) (stmv : DV) : Prop := ∃ es, ((stmv = .nils ∧ es = []) ∨ ∃ id off, stmv = .sl id 8 off es) ∧ All2 StmV R es
theorem RowS.one {R : List Stm} {stmv : DV} (h : RowS R stmv) : stmv.one = true := by
 obtain ⟨es, hes, _⟩ := h; exact slv_one hes
theorem RowS.get {R : List Stm} {stmv : DV} (h : RowS R stmv) {n : Nat} {s : Stm} (hn : R[n]? = some s) : ∃ id off es vl vm, stmv = .sl id 8 off es ∧ es[n]? = some (.agg [.int .i64 s.kind, .str s.s, .str s.t, .str s.u, .int .i64 s.n, .int .i64 s.at_, vl, vm]) ∧ IntsV s.l vl ∧ IntsV s.m vm := by
 obtain ⟨es, hes, hall⟩ := h
 obtain ⟨d, hgd, vl, vm, rfl, h1, h2⟩ := hall.get hn
 rcases hes with ⟨rfl, rfl⟩ | ⟨id, off, rfl⟩
 ·simp at hgd
 ·exact ⟨id, off, es, vl, vm, rfl, hgd, h1, h2⟩
structure TreeR (R : List Stm) : Prop where
 fin : ∀ s ∈ R, fineS s
 len : ∀ s ∈ R, s.s.length < 1000000 ∧ s.l.length < 1000000 ∧ s.m.length < 1000000
 own : ∀ (i : Nat) (s : Stm), R[i]? = some s → ∀ n ∈ s.l ++ s.m, n < i
def SzsOk (R : List Stm) (f : Nat) : Prop := ∀ {H : DH} {md : Nat} {stmv topv : DV} {l : List Nat} {lv : DV}, RowS R stmv → topv.one = true → IntsV l lv → l.length < 1000000 → (∀ c ∈ l, c < f ∧ c < R.length) → szL R f l < 1000000 →
 WC cfg 122 [.agg [.int .i64 md, stmv, topv], lv] H fun v H' => v = .int .i64 (szL R f l) ∧ Ext H H'
def SzOk (R : List Stm) (f : Nat) : Prop := ∀ {H : DH} {md : Nat} {stmv topv : DV} {n : Nat} {s : Stm}, RowS R stmv → topv.one = true → R[n]? = some s → n < f + 1 → szS R f s < 1000000 →
 WC cfg 135 [.agg [.int .i64 md, stmv, topv], .int .i64 n] H fun v H' => v = .int .i64 (szS R f s) ∧ Ext H H'
theorem szs_ok {R : List Stm} (hT : TreeR R) {f : Nat} (hst : ∀ g, f = g + 1 → SzOk R g) : SzsOk R f := by
 intro H md stmv topv l lv hs ht hl hl6 hc hsz
 refine WC_of (show Has cfg 122 22 [.tmp 4] _ from ⟨by kernel_rfl, Tryz.f122, Tryz.func122, rfl, rfl, rfl, by kernel_rfl⟩) (by simp) ?_
 obtain ⟨e1, e2, e3⟩ := hl.facts
 have hs1 := hs.one
 simp -dsimp (disch := first | omega | (apply DrawYes.mk; decide +kernel)) only [go_sem, e3, hs1, ht]
 refine Y_loop (α := Nat) (fun k σ H' => k ≤ l.length ∧ Ext H H' ∧ H'.m H.next = some (.cells 27 [.int .i64 md, stmv, topv]) ∧ H.next < H'.next ∧ σ 1 = lv ∧ σ 2 = .ptr H.next 0 ∧ σ 5 = .int .i64 (szL R f (l.take k)) ∧ σ 6 = .int .i64 k) (fun k => l.length - k) 0 ?_ ?_
 ·simp -dsimp (disch := first | omega | (apply DrawYes.mk; decide +kernel)) only [go_sem]
  refine ⟨Nat.zero_le _, Ext.refl.new, Nat.lt_succ_self _, ?_⟩
  simp [szL, rawL, rowR]
 rintro k σ H2 ⟨hk, hE, hm, hn, s1, s2, s5, s6⟩
 by_cases hlt : k < l.length
 ·have i0 : (k : Int) < l.length := by omega
  have hg : l[k]? = some l[k] := List.getElem?_eq_getElem hlt
  have hin : l[k] ∈ l := List.getElem_mem _
  generalize l[k] = n at hg hin
  obtain ⟨hn1, hn2⟩ := hc n hin
  obtain ⟨g, rfl⟩ : ∃ g, f = g + 1 := ⟨f - 1, by omega⟩
  rcases hl with ⟨rfl, rfl⟩ | ⟨id, off, rfl⟩
  ·simp at hlt
  have hgv : (l.map intV)[k]? = some (.int .i64 n) := by rw [List.getElem?_map, hg]; rfl
  have hRn : R[n]? = some R[n] := List.getElem?_eq_getElem hn2
  have hstep := szL_step hT.fin (f := g) hg hRn
  have hle := szL_le (R := R) (f := g + 1) (l := l) (k + 1)
  simp -dsimp (disch := first | omega | (apply DrawYes.mk; decide +kernel)) only [go_sem, s1, s2, s5, s6, i0, hgv, hm, e3]
  refine ⟨by omega, ?_⟩
  refine call (hst g rfl hs ht hRn hn1 (by omega)) ?_
  rintro _ H3 ⟨rfl, hE3⟩
  have hle3 := hE3.le
  simp -dsimp (disch := first | omega | (apply DrawYes.mk; decide +kernel)) only [go_sem, s1, s2, s5, s6, i0]
  refine ⟨k + 1, ⟨by omega, hE.trans hE3, hE3.get hn hm, by omega, ?_, by congr 1⟩, by omega⟩
  congr 1; omega
 ·have hkk : k = l.length := by omega
  have i0 : ¬ (k : Int) < l.length := by omega
  subst hkk
  simp -dsimp (disch := first | omega | (apply DrawYes.mk; decide +kernel)) only [go_sem, s1, s2, s5, s6, i0, e3]
  exact hE
theorem sz_ok {R : List Stm} (hT : TreeR R) {f : Nat} (hw : SzsOk R f) : SzOk R f := by
 intro H md stmv topv n s hs ht hn hnf hsz
 refine WC_of (show Has cfg 135 36 [.tmp 4] _ from ⟨by kernel_rfl, Tryz.f135, Tryz.func135, rfl, rfl, rfl, by kernel_rfl⟩) (by simp) ?_
 obtain ⟨id, off, es, vl, vm, rfl, hg, hvl, hvm⟩ := hs.get hn
 have hmem : s ∈ R := List.mem_of_getElem? hn
 obtain ⟨f1, f2, f3, f4⟩ := hT.fin s hmem
 obtain ⟨l1, l2, l3⟩ := hT.len s hmem
 have hown := hT.own n s hn
 have hnl : n < R.length := (List.getElem?_eq_some_iff.1 hn).1
 obtain ⟨v1, v2, v3⟩ := hvl.facts
 obtain ⟨w1, w2, w3⟩ := hvm.facts
 have y0 : ¬ H.next = H.next + 1 := by omega
 have y1 : ¬ H.next + 1 = H.next := by omega
 unfold szS at hsz ⊢
 by_cases k13 : s.kind = 13
 ·have b0 : ((s.kind : Int) == 13) = true := by simp; omega
  rw [if_pos k13]
  simp -dsimp (disch := first | omega | (apply DrawYes.mk; decide +kernel)) only [go_sem, hg, ht, v1, v2, w1, w2, b0, y0, y1]
  exact ⟨by omega, Ext.refl.new.new.set (by omega)⟩
 have b13 : ((s.kind : Int) == 13) = false := by simp; omega
 rw [if_neg k13] at hsz ⊢
 by_cases k56 : s.kind = 5 ∨ s.kind = 6
 ·rw [if_pos k56] at hsz ⊢
  have hcl : ∀ c ∈ s.l, c < f ∧ c < R.length := fun c hc => by have := hown c (by simp [hc]); omega
  have hcm : ∀ c ∈ s.m, c < f ∧ c < R.length := fun c hc => by have := hown c (by simp [hc]); omega
  have hE0 : Ext H (((H.new (.cells 27 [.int .i64 md, .sl id 8 off es, topv])).new (.cells 40 [.int .i64 0, .str [], .str [], .str [], .int .i64 0, .int .i64 0, .nils, .nils])).set (H.next + 1) (.cells 40 [.int .i64 s.kind, .str s.s, .str s.t, .str s.u, .int .i64 s.n, .int .i64 s.at_, vl, vm])) := Ext.refl.new.new.set (by omega)
  by_cases hm0 : s.m = []
  ·rw [if_pos hm0] at hsz ⊢
   have i0 : ¬ (0 : Int) < s.m.length := by simp [hm0]
   rcases k56 with k5 | k6
   ·have b5 : ((s.kind : Int) == 5) = true := by simp; omega
    simp -dsimp (disch := first | omega | (apply DrawYes.mk; decide +kernel)) only [go_sem, hg, ht, v1, v2, w1, w2, b13, b5, y0, y1]
    refine ⟨by omega, ?_⟩
    refine call (hw hs ht hvl l2 hcl (by omega)) ?_
    rintro _ H3 ⟨rfl, hE⟩
    have hle := hE.le
    simp only [set_next, new_next] at hle
    have q1 := hE.get (b := H.next + 1) (by simp only [set_next, new_next]; omega) set_at
    simp -dsimp (disch := first | omega | (apply DrawYes.mk; decide +kernel)) only [go_sem, q1, w3, i0]
    exact ⟨by congr 1, hE0.trans hE⟩
   ·have b5 : ((s.kind : Int) == 5) = false := by simp; omega
    have b6 : ((s.kind : Int) == 6) = true := by simp; omega
    simp -dsimp (disch := first | omega | (apply DrawYes.mk; decide +kernel)) only [go_sem, hg, ht, v1, v2, w1, w2, b13, b5, b6, y0, y1]
    refine ⟨by omega, ?_⟩
    refine call (hw hs ht hvl l2 hcl (by omega)) ?_
    rintro _ H3 ⟨rfl, hE⟩
    have hle := hE.le
    simp only [set_next, new_next] at hle
    have q1 := hE.get (b := H.next + 1) (by simp only [set_next, new_next]; omega) set_at
    simp -dsimp (disch := first | omega | (apply DrawYes.mk; decide +kernel)) only [go_sem, q1, w3, i0]
    exact ⟨by congr 1, hE0.trans hE⟩
  ·rw [if_neg hm0] at hsz ⊢
   have k5 : s.kind = 5 := by
    rcases k56 with h | h
    ·exact h
    ·exact absurd (f4 (by omega)) hm0
   have hmp : 0 < s.m.length := List.length_pos_iff.2 hm0
   have i0 : (0 : Int) < s.m.length := by omega
   have b5 : ((s.kind : Int) == 5) = true := by simp; omega
   simp -dsimp (disch := first | omega | (apply DrawYes.mk; decide +kernel)) only [go_sem, hg, ht, v1, v2, w1, w2, b13, b5, y0, y1]
   refine ⟨by omega, ?_⟩
   refine call (hw hs ht hvl l2 hcl (by omega)) ?_
   rintro _ H3 ⟨rfl, hE⟩
   have hle := hE.le
   simp only [set_next, new_next] at hle
   have q1 := hE.get (b := H.next + 1) (by simp only [set_next, new_next]; omega) set_at
   have q0 := hE.get (b := H.next) (by simp only [set_next, new_next]; omega) (by rw [set_ne (by omega), new_old (by simp only [new_next]; omega), new_at rfl])
   simp -dsimp (disch := first | omega | (apply DrawYes.mk; decide +kernel)) only [go_sem, q1, q0, w3, i0]
   refine call (hw hs ht hvm l3 hcm (by omega)) ?_
   rintro _ H4 ⟨rfl, hE4⟩
   simp -dsimp (disch := first | omega | (apply DrawYes.mk; decide +kernel)) only [go_sem]
   exact ⟨by congr 1; omega, (hE0.trans hE).trans hE4⟩
 ·rw [if_neg k56] at hsz ⊢
  have b5 : ((s.kind : Int) == 5) = false := by simp; omega
  have b6 : ((s.kind : Int) == 6) = false := by simp; omega
  simp -dsimp (disch := first | omega | (apply DrawYes.mk; decide +kernel)) only [go_sem, hg, ht, v1, v2, w1, w2, b13, b5, b6, y0, y1]
  exact ⟨by omega, Ext.refl.new.new.set (by omega)⟩
theorem szAll_ok {R : List Stm} (hT : TreeR R) : ∀ f, SzsOk R f
 | 0 => szs_ok hT fun g h => by cases h
 | f + 1 => szs_ok hT fun g h => by
  obtain rfl : f = g := by omega
  exact sz_ok hT (szAll_ok hT f)
end Go.Proofs.YtcknfhhbijlobaaGreatDoor.D
