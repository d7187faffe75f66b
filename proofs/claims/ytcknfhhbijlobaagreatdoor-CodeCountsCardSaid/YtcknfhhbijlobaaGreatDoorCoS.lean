import Derived.Test.YtcknfhhbijlobaaGreatDoorMH
namespace Go.Proofs.YtcknfhhbijlobaaGreatDoor.D
open Go
set_option linter.unusedVariables false
set_option linter.unusedSimpArgs false
set_option maxRecDepth 100000
theorem opsP_len {md : Nat} {R : List Stm} {top : List Nat} (h : GoodP md R top) : (opsP R top).length ≤ 201 := by
 have := raw_le h.wi 0; have := h.len
 simp [opsP]; omega
def opsR (r : PR) : List Opr := if r.e = 0 then opsP r.R r.top else []
theorem opsR_0 {r : PR} (h : r.e = 0) : opsR r = opsP r.R r.top := if_pos h
theorem opsR_n {r : PR} (h : r.e ≠ 0) : opsR r = [] := if_neg h
theorem checkS_bad {s : List UInt8} (h : (checkS s).e ≠ 0) : (checkS s).mode = 0 := by
 unfold checkS checkR at h ⊢
 split
 ·rfl
 ·split
  ·rfl
  ·rename_i h1 h2
   rw [if_neg h1, if_neg h2] at h
   exact absurd rfl h
theorem checkS_fine {s : List UInt8} (h : (checkS s).e = 0) : (checkS s).at_ = 0 := by
 unfold checkS checkR at h ⊢
 split
 ·rename_i h1; rw [if_pos h1] at h; exact absurd h h1
 ·split
  ·rename_i h1 h2; rw [if_neg h1, if_pos h2] at h; exact absurd h h2
  ·rfl
theorem csrc_ok {s : List UInt8} {H : DH} (hs : s.length < 1000000) : WC cfg 35 [.str s] H fun v H' => Ext H H' ∧
  ∃ ov, v = .tup [ov, .int .i64 (checkS s).mode, .int .i64 (checkS s).at_, .int .i64 (checkS s).e] ∧ SlV 6 ov ((opsR (checkS s)).map oprV) := by
 refine WC_of (show Has cfg 35 23 [.tmp 2, .tmp 3, .tmp 4, .tmp 5] _ from ⟨by kernel_rfl, Tryz.f35, Tryz.func35, rfl, rfl, rfl, by kernel_rfl⟩) (by simp) ?_
 simp -dsimp (disch := first | omega | (apply DrawYes.mk; decide +kernel)) only [go_sem]
 refine call (csource_ok hs) ?_
 rintro _ H1 ⟨hE, stmv, topv, rfl, hP⟩
 obtain ⟨a1, a2, a3⟩ := hP.two
 by_cases he : (checkS s).e = 0
 ·have hg := goodP_of he
  rw [opsR_0 he, checkS_fine he]
  have j0 : (((checkS s).e : Int) != 0) = false := by simp; omega
  simp -dsimp (disch := first | omega | (apply DrawYes.mk; decide +kernel)) only [go_sem, a1, a2, j0]
  refine Y_float [(3, 0, 1)] (by decide +kernel) ?_
  simp -dsimp (disch := first | omega | (apply DrawYes.mk; decide +kernel)) only [go_sem, a1, a2]
  refine call (of_ok hP hg.ofC) ?_
  rintro _ H2 ⟨rfl, hE2⟩
  have q1 := hE2.get (b := H1.next) (by simp only [set_next, new_next]; omega) set_at
  simp -dsimp (disch := first | omega | (apply DrawYes.mk; decide +kernel)) only [go_sem, a1, a2, q1]
  exact ⟨(hE.trans (Ext.refl.new.set (Nat.le_refl _))).trans hE2, _, by rw [he]; rfl, .inr ⟨_, _, rfl⟩⟩
 ·rw [opsR_n he, checkS_bad he]
  have j0 : (((checkS s).e : Int) != 0) = true := by simp; omega
  simp -dsimp (disch := first | omega | (apply DrawYes.mk; decide +kernel)) only [go_sem, a1, a2, j0]
  exact ⟨hE.trans (Ext.refl.new.set (Nat.le_refl _)), _, rfl, .inl ⟨rfl, rfl⟩⟩
theorem coshort_ok {s : List UInt8} {H : DH} : WC cfg 34 [.str s] H fun v H' => v = .str (s.take 2100) ∧ H' = H := by
 refine WC_of (show Has cfg 34 9 [.tmp 2] _ from ⟨by kernel_rfl, Tryz.f34, Tryz.func34, rfl, rfl, rfl, by kernel_rfl⟩) (by simp) ?_
 by_cases hb : 2100 < s.length
 ·have i : 2100 < (s.length : Int) := by omega
  simp -dsimp (disch := first | omega | (apply DrawYes.mk; decide +kernel)) only [go_sem, i]
  omega
 ·have i : ¬ 2100 < (s.length : Int) := by omega
  simp -dsimp (disch := first | omega | (apply DrawYes.mk; decide +kernel)) only [go_sem, i]
  rw [List.take_of_length_le (by omega)]
theorem coshort_eq {s : List UInt8} {H : DH} {K : DV → DH → Prop} {b : Later K} : WK cfg 34 [.str s] H b = K (.str (s.take 2100)) H := WK_det coshort_ok
def coshownT : List UInt8 := [109, 111, 100, 101, 32, 115, 109, 116, 112, 59, 32, 108, 97, 98, 101, 108, 32, 97, 59, 32, 103, 111, 116, 111, 32, 97, 59]
theorem coshown_all : (checkS coshownT).mode = 1 ∧ (checkS coshownT).e = 0 ∧ opsR (checkS coshownT) = [⟨18, [], [], [], 0, 0⟩, endO] := ⟨by kernel_rfl, by kernel_rfl, by kernel_rfl⟩
theorem coshown_ok {H : DH} : WC cfg 33 [] H fun v H' => v = .bool true ∧ Ext H H' := by
 refine WC_of (show Has cfg 33 43 [.tmp 0] _ from ⟨by kernel_rfl, Tryz.f33, Tryz.func33, rfl, rfl, rfl, by kernel_rfl⟩) (by simp) ?_
 simp -dsimp (disch := first | omega | (apply DrawYes.mk; decide +kernel)) only [go_sem]
 refine call (csrc_ok (s := coshownT) (by decide)) ?_
 rintro _ H1 ⟨hE, ov, rfl, hs⟩
 obtain ⟨h1, h2, h3⟩ := coshown_all
 rw [h3] at hs
 simp only [List.map_cons, List.map_nil, oprV, endO] at hs
 rw [h1, h2]
 rcases hs with ⟨_, h⟩ | ⟨id, off, rfl⟩
 ·simp at h
 simp -dsimp (disch := first | omega | (apply DrawYes.mk; decide +kernel)) only [go_sem]
 exact hE
def RowS (R : List Stm) (stmv : DV) : Prop := ∃ es, ((stmv = .nils ∧ es = []) ∨ ∃ id off, stmv = .sl id 8 off es) ∧ All2 StmV R es
theorem RowS.one {R : List Stm} {stmv : DV} (h : RowS R stmv) : stmv.one = true := by
 obtain ⟨es, hes, _⟩ := h; exact slv_one hes
theorem RowS.get {R : List Stm} {stmv : DV} (h : RowS R stmv) {n : Nat} {s : Stm} (hn : R[n]? = some s) : ∃ id off es vl vm, stmv = .sl id 8 off es ∧ es[n]? = some (.agg [.int .i64 s.kind, .str s.s, .str s.t, .str s.u, .int .i64 s.n, .int .i64 s.at_, vl, vm]) ∧ IntsV s.l vl ∧ IntsV s.m vm := by
 obtain ⟨es, hes, hall⟩ := h
 obtain ⟨d, hgd, vl, vm, rfl, h1, h2⟩ := hall.get hn
 rcases hes with ⟨rfl, rfl⟩ | ⟨id, off, rfl⟩
 ·simp at hgd
 ·exact ⟨id, off, es, vl, vm, rfl, hgd, h1, h2⟩
theorem ia_arr {T : Tab} {t e : TypeId} {len sz : Nat} (h1 : T.und t = some (.array len e)) (h2 : T.size e = some sz) {b off : Nat} {k : IntKind} {i : Int} {K : DV → Prop} {q : Later K} :
  WD (indexAtD T t (.ptr b off) (.int k i)) q = (0 ≤ i ∧ i < len ∧ K (.ptr b (off + i.toNat * sz))) := by
 apply propext
 unfold indexAtD
 simp only [h1, h2]
 by_cases h : 0 ≤ i ∧ i < len
 ·rw [if_pos h]; simp [WD, h]
 ·rw [if_neg h]
  simp only [WD, false_iff]
  rintro ⟨a, b, _⟩
  exact h ⟨a, b⟩
end Go.Proofs.YtcknfhhbijlobaaGreatDoor.D
