import Derived.Test.YtcknfhhbijlobaaGreatDoorCo8
import Derived.Test.YtcknfhhbijlobaaGreatDoorCoS
import Derived.Test.YtcknfhhbijlobaaGreatDoorCh21
namespace Go.Proofs.YtcknfhhbijlobaaGreatDoor.D
open Go
set_option linter.unusedVariables false
set_option linter.unusedSimpArgs false
set_option maxRecDepth 100000
theorem GoodP.tree {md : Nat} {R : List Stm} {top : List Nat} (h : GoodP md R top) : TreeR R := by
 have hC := h.ofC
 exact ⟨h.wi.fin, fun s hs => (hC.fin s hs).2, h.wi.own⟩
theorem GoodP.topR {md : Nat} {R : List Stm} {top : List Nat} {topv : DV} (h : GoodP md R top) (hv : IntsV top topv) : TopR R top topv := by
 refine ⟨hv, by have := h.tl; omega, fun c hc => ⟨h.wi.lt (l := top) (by simp) hc, h.wi.lt (l := top) (by simp) hc⟩, ?_, fun s hs hk => ?_⟩
 ·have := raw_le h.wi 0; have := h.len; unfold szL; omega
 ·obtain ⟨i, hi, rfl⟩ := List.mem_iff_getElem.1 hs
  exact lab_there h.wi ((names17_ok h.chk (List.getElem?_eq_getElem hi)).goes hk)
theorem opsP_EV {R : List Stm} {top : List Nat} : EV (labL R R.length top 0) (rawL R R.length top 0) ++ [oprV endO] = (opsP R top).map oprV := by
 simp [EV, opsP]
theorem rof_ok {H : DH} {md m : Nat} {stmv topv : DV} {R : List Stm} {top : List Nat} (hP : PrgV R top stmv topv) (h : GoodP m R top) :
  WC cfg 65 [.agg [.int .i64 md, stmv, topv]] H fun v H' => SlV 6 v ((opsP R top).map oprV) ∧ Ext H H' := by
 refine WC_of (show Has cfg 65 10 [.tmp 2] _ from ⟨by kernel_rfl, Tryz.f65, Tryz.func65, rfl, rfl, rfl, by kernel_rfl⟩) (by simp) ?_
 obtain ⟨a1, a2, a3⟩ := hP.two
 simp -dsimp (disch := first | omega | (apply DrawYes.mk; decide +kernel)) only [go_sem, a1, a2]
 have htop := h.topR hP.2
 refine call (@opsAll_ok R h.tree top R.length (H.new (.cells 27 [.int .i64 md, stmv, topv])) md 0 stmv topv top topv hP.1 htop hP.2 htop.len htop.lt (by omega) (fun _ => by have := htop.sz; omega)) ?_
 rintro v H2 ⟨hv, hE⟩
 simp -dsimp (disch := first | omega | (apply DrawYes.mk; decide +kernel)) only [go_sem]
 have hl := raw_le h.wi 0
 have hlen := h.len
 refine app_one (lo := H.next + 1) (hv.ext Ext.refl.new) (by rw [EV_len]; omega) ?_
 intro v' H3 hs3 hsame
 simp -dsimp (disch := first | omega | (apply DrawYes.mk; decide +kernel)) only [go_sem]
 rw [← opsP_EV]
 refine ⟨hs3.slv, ?_⟩
 have hE0 : Ext H H2 := Ext.refl.new.trans hE
 refine hsame.extn ((hv.ext Ext.refl.new).lower (by simp only [new_next]; omega)) hE0.new
theorem rsrc_ok {s : List UInt8} {H : DH} (hs : s.length < 1000000) : WC cfg 36 [.str s] H fun v H' => Ext H H' ∧
  ∃ ov, v = .tup [ov, .int .i64 (checkS s).mode, .int .i64 (checkS s).at_, .int .i64 (checkS s).e] ∧ SlV 6 ov ((opsR (checkS s)).map oprV) := by
 refine WC_of (show Has cfg 36 23 [.tmp 2, .tmp 3, .tmp 4, .tmp 5] _ from ⟨by kernel_rfl, Tryz.f36, Tryz.func36, rfl, rfl, rfl, by kernel_rfl⟩) (by simp) ?_
 simp -dsimp (disch := first | omega | (apply DrawYes.mk; decide +kernel)) only [go_sem]
 refine call (rsource17_ok hs) ?_
 rintro _ H1 ⟨hE, stmv, topv, rfl, hP⟩
 obtain ⟨a1, a2, a3⟩ := hP.two
 by_cases he : (checkS s).e = 0
 ·have hg := goodP_of he
  rw [opsR_0 he, checkS_fine he]
  have j0 : (((checkS s).e : Int) != 0) = false := by simp; omega
  simp -dsimp (disch := first | omega | (apply DrawYes.mk; decide +kernel)) only [go_sem, a1, a2, j0]
  refine Y_float [(3, 0, 1)] (by decide +kernel) ?_
  simp -dsimp (disch := first | omega | (apply DrawYes.mk; decide +kernel)) only [go_sem, a1, a2]
  refine call (rof_ok hP hg) ?_
  rintro v2 H2 ⟨hv2, hE2⟩
  have q1 := hE2.get (b := H1.next) (by simp only [set_next, new_next]; omega) set_at
  simp -dsimp (disch := first | omega | (apply DrawYes.mk; decide +kernel)) only [go_sem, a1, a2, q1]
  exact ⟨(hE.trans (Ext.refl.new.set (Nat.le_refl _))).trans hE2, _, by rw [he]; rfl, hv2⟩
 ·rw [opsR_n he, checkS_bad he]
  have j0 : (((checkS s).e : Int) != 0) = true := by simp; omega
  simp -dsimp (disch := first | omega | (apply DrawYes.mk; decide +kernel)) only [go_sem, a1, a2, j0]
  exact ⟨hE.trans (Ext.refl.new.set (Nat.le_refl _)), _, rfl, .inl ⟨rfl, rfl⟩⟩
theorem same18_ok {a b : DV} {l : List Opr} {H : DH} (ha : SlV 6 a (l.map oprV)) (hb : SlV 6 b (l.map oprV)) (hl : l.length < 1000000) :
  WC cfg 37 [a, b] H fun v H' => v = .bool true ∧ H' = H := by
 refine WC_of (show Has cfg 37 26 [.tmp 4] _ from ⟨by kernel_rfl, Tryz.f37, Tryz.func37, rfl, rfl, rfl, by kernel_rfl⟩) (by simp) ?_
 have e1 := fun H' => ha.len (H := H') und_51
 have e2 := fun H' => hb.len (H := H') und_51
 simp only [List.length_map] at e1 e2
 have e0 : ((l.length : Int) != l.length) = false := by simp
 simp -dsimp (disch := first | omega | (apply DrawYes.mk; decide +kernel)) only [go_sem, e1, e2, e0]
 refine Y_loop (α := Nat) (fun k σ H' => k ≤ l.length ∧ H' = H ∧ σ 0 = a ∧ σ 1 = b ∧ σ 5 = .int .i64 k) (fun k => l.length - k) 0 ?_ ?_
 ·simp -dsimp (disch := first | omega | (apply DrawYes.mk; decide +kernel)) only [go_sem]
  exact Nat.zero_le _
 rintro k σ H2 ⟨hk, rfl, s0, s1, s5⟩
 by_cases hlt : k < l.length
 ·have i0 : (k : Int) < l.length := by omega
  have hg : l[k]? = some l[k] := List.getElem?_eq_getElem hlt
  generalize l[k] = o at hg
  have hgv : (l.map oprV)[k]? = some (.agg [.int .i64 o.kind, .str o.s, .str o.t, .str o.u, .int .i64 o.n, .int .i64 o.to]) := by rw [List.getElem?_map, hg]; rfl
  rcases ha with ⟨_, h0⟩ | ⟨i1, o1, rfl⟩
  ·rw [List.map_eq_nil_iff] at h0; rw [h0] at hlt; simp at hlt
  rcases hb with ⟨_, h0⟩ | ⟨i2, o2, rfl⟩
  ·rw [List.map_eq_nil_iff] at h0; rw [h0] at hlt; simp at hlt
  have hq : cellsEq [1, 2, 2, 2, 1, 1] [.int .i64 o.kind, .str o.s, .str o.t, .str o.u, .int .i64 o.n, .int .i64 o.to] [.int .i64 o.kind, .str o.s, .str o.t, .str o.u, .int .i64 o.n, .int .i64 o.to] = some true := by simp [cellsEq, cellEq]
  simp -dsimp (disch := first | omega | (apply DrawYes.mk; decide +kernel)) only [go_sem, s0, s1, s5, i0, e1, hgv, hq]
  exact ⟨by omega, by omega, k + 1, ⟨by omega, by congr 1⟩, by omega⟩
 ·have hkk : k = l.length := by omega
  have i0 : ¬ (k : Int) < l.length := by omega
  subst hkk
  simp -dsimp (disch := first | omega | (apply DrawYes.mk; decide +kernel)) only [go_sem, s0, s1, s5, i0, e1]
end Go.Proofs.YtcknfhhbijlobaaGreatDoor.D
