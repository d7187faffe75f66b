import Derived.Test.YtcknfhhbijlobaaGreatDoorCoG
namespace Go.Proofs.YtcknfhhbijlobaaGreatDoor.D
open Go
set_option linter.unusedVariables false
set_option linter.unusedSimpArgs false
set_option maxRecDepth 100000
def upK (k : Nat) (R : List Stm) : Nat := (R.map fun s => (if s.kind = k then 1 else 0) + (if s.m = [] then 0 else if k = 18 then 1 else 0)).sum
def dnK (k : Nat) (l : List Opr) : Nat := l.countP fun o => o.kind == k
theorem sum_add (R : List Stm) (F G : Stm → Nat) : (R.map fun s => F s + G s).sum = (R.map F).sum + (R.map G).sum := by
 induction R with
 | nil => rfl
 | cons s R ih => simp only [List.map_cons, List.sum_cons, ih]; omega
theorem sum_congr {R : List Stm} {F G : Stm → Nat} (h : ∀ s ∈ R, F s = G s) : (R.map F).sum = (R.map G).sum := by
 rw [List.map_congr_left h]
theorem ops_cnt {md : Nat} {R : List Stm} {top : List Nat} (h : GoodP md R top) (k : Nat) : dnK k (opsP R top) = (R.map (ownN fun q => q == k)).sum + (if k = 19 then 1 else 0) := by
 have h1 := cnt_raw h.wi.fin (fun q => q == k) R.length top 0
 rw [trS_all h.wi] at h1
 unfold dnK opsP
 rw [List.countP_append, List.countP_map]
 have e : (fun o : Opr => o.kind == k) ∘ fixR (labL R R.length top 0) = fun r : Raw => r.o.kind == k := by
  funext r; show ((fixR _ r).kind == k) = _; rw [fix_kind]
 rw [e, h1]
 by_cases hk : k = 19
 ·subst hk; simp [endO]
 ·simp [endO, hk]; omega
theorem cnt_same {md : Nat} {R : List Stm} {top : List Nat} (h : GoodP md R top) {k : Nat} (h1 : 1 ≤ k) (h2 : k ≤ 17) (h3 : k ≠ 13) (h4 : k ≠ 14) : dnK k (opsP R top) = upK k R := by
 rw [ops_cnt h, if_neg (by omega), Nat.add_zero]
 refine sum_congr fun s hs => ?_
 obtain ⟨f1, f2, f3, f4⟩ := h.wi.fin s hs
 unfold ownN
 by_cases k13 : s.kind = 13
 ·have : ¬ s.kind = k := by omega
  rw [if_pos k13, if_neg this, f4 (by omega)]; rfl
 by_cases k14 : s.kind = 14
 ·have : ¬ s.kind = k := by omega
  have h18 : ((18 : Nat) == k) = false := by simp; omega
  rw [if_neg k13, if_pos k14, if_neg this, f4 (by omega)]; simp only [h18]; rfl
 by_cases k5 : s.kind = 5
 ·have h18 : ((18 : Nat) == k) = false := by simp; omega
  rw [if_neg k13, if_neg k14, if_pos k5]
  simp only [h18]
  have : ¬ k = 18 := by omega
  simp only [this, if_false, ite_self, Nat.add_zero, Bool.false_eq_true]
  by_cases hk : k = 5
  ·subst hk; simp [k5]
  ·simp [k5, show ¬ 5 = k by omega]
 ·rw [if_neg k13, if_neg k14, if_neg k5, f4 (by omega)]
  by_cases hk : s.kind = k
  ·simp [hk]
  ·simp [hk]
theorem cnt_jump {md : Nat} {R : List Stm} {top : List Nat} (h : GoodP md R top) : dnK 18 (opsP R top) = upK 18 R + upK 14 R := by
 rw [ops_cnt h, if_neg (by omega), Nat.add_zero]
 unfold upK
 rw [← sum_add]
 refine sum_congr fun s hs => ?_
 obtain ⟨f1, f2, f3, f4⟩ := h.wi.fin s hs
 unfold ownN
 by_cases k13 : s.kind = 13
 ·rw [f4 (by omega)]; simp [k13]
 by_cases k14 : s.kind = 14
 ·rw [f4 (by omega)]; simp [k14]
 by_cases k5 : s.kind = 5
 ·simp [k5]
 ·have : ¬ s.kind = 18 := by omega
  rw [f4 (by omega)]; simp [k13, k14, k5, this]
theorem cnt_end {md : Nat} {R : List Stm} {top : List Nat} (h : GoodP md R top) : dnK 19 (opsP R top) = 1 ∧ upK 19 R = 0 ∧ dnK 14 (opsP R top) = 0 := by
 have z : ∀ {F : Stm → Nat}, (∀ s ∈ R, F s = 0) → (R.map F).sum = 0 := fun {F} hz => by
  rw [sum_congr (G := fun _ => 0) hz]
  clear hz h
  induction R with
  | nil => rfl
  | cons s R ih => rw [List.map_cons, List.sum_cons, ih]
 refine ⟨?_, ?_, ?_⟩
 ·rw [ops_cnt h, z fun s hs => ?_]
  ·rfl
  ·obtain ⟨f1, f2, f3, f4⟩ := h.wi.fin s hs
   unfold ownN
   have : ¬ s.kind = 19 := by omega
   repeat' split
   all_goals simp_all
 ·refine z fun s hs => ?_
  obtain ⟨f1, f2, f3, f4⟩ := h.wi.fin s hs
  have : ¬ s.kind = 19 := by omega
  simp [this]
 ·rw [ops_cnt h, z fun s hs => ?_]
  ·rfl
  ·obtain ⟨f1, f2, f3, f4⟩ := h.wi.fin s hs
   unfold ownN
   repeat' split
   all_goals simp_all
def wantN (R : List Stm) : Nat := (R.map fun s => (if s.kind = 13 then 0 else 1) + (if s.m = [] then 0 else 1)).sum
theorem cnt_all {md : Nat} {R : List Stm} {top : List Nat} (h : GoodP md R top) : (opsP R top).length = 1 + wantN R := by
 have hl : (opsP R top).length = (rawL R R.length top 0).length + 1 := by simp [opsP]
 rw [hl, raw_len h.wi, wantN, sum_congr (G := fun s => (if s.kind = 13 then 0 else 1) + (if s.m = [] then 0 else 1)) fun s hs => ?_]
 ·omega
 ·obtain ⟨f1, f2, f3, f4⟩ := h.wi.fin s hs
  unfold ownN
  by_cases k13 : s.kind = 13
  ·rw [f4 (by omega)]; simp [k13]
  by_cases k14 : s.kind = 14
  ·rw [f4 (by omega)]; simp [k14]
  by_cases k5 : s.kind = 5
  ·simp [k5]
  ·rw [f4 (by omega)]; simp [k13, k14, k5]
end Go.Proofs.YtcknfhhbijlobaaGreatDoor.D
