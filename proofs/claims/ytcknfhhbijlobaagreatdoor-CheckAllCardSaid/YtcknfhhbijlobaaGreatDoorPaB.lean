import Derived.Test.YtcknfhhbijlobaaGreatDoorMG
namespace Go.Proofs.YtcknfhhbijlobaaGreatDoor.D
open Go
set_option linter.unusedVariables false
set_option linter.unusedSimpArgs false
set_option maxRecDepth 100000
theorem psh_ok {s : List UInt8} {H : DH} : WC cfg 15 [.str s] H fun v H' => v = .str (s.take 2100) ∧ H' = H := by
 refine WC_of (show Has cfg 15 9 [.tmp 2] _ from ⟨by kernel_rfl, Tryz.f15, Tryz.func15, rfl, rfl, rfl, by kernel_rfl⟩) (by simp) ?_
 by_cases hb : 2100 < s.length
 ·have i : 2100 < (s.length : Int) := by omega
  simp -dsimp (disch := first | omega | (apply DrawYes.mk; decide +kernel)) only [go_sem, i]
  omega
 ·have i : ¬ 2100 < (s.length : Int) := by omega
  simp -dsimp (disch := first | omega | (apply DrawYes.mk; decide +kernel)) only [go_sem, i]
  rw [List.take_of_length_le (by omega)]
theorem psh_eq {s : List UInt8} {H : DH} {K : DV → DH → Prop} {b : Later K} : WK cfg 15 [.str s] H b = K (.str (s.take 2100)) H := WK_det psh_ok
def shownT : List UInt8 := [109, 111, 100, 101, 32, 102, 116, 112, 59, 32, 105, 102, 32, 99, 97, 112, 32, 34, 97, 34, 32, 123, 32, 115, 116, 111, 112, 59, 32, 125]
theorem shown_all : parseAll shownT = ⟨3, [⟨17, [], [], [], 0, 23, [], []⟩, ⟨5, [99, 97, 112], [97], [], 0, 10, [0], []⟩], [1], 0, 0⟩ := by kernel_rfl
theorem parse_at {s : List UInt8} {md at_ e : Nat} {R : List Stm} {top : List Nat} {H : DH} (hr : parseAll s = ⟨md, R, top, at_, e⟩) (hs : s.length < 1000000) : WC cfg 16 [.str s] H fun v H' => Ext H H' ∧
  ∃ stmv topv, v = .tup [.agg [.int .i64 md, stmv, topv], .int .i64 at_, .int .i64 e] ∧ PrgV R top stmv topv := by
 have h := parse_ok (H := H) hs
 rw [hr] at h
 exact h
theorem pshown_ok {H : DH} : WC cfg 14 [] H fun v H' => v = .bool true ∧ Ext H H' := by
 refine WC_of (show Has cfg 14 55 [.tmp 0] _ from ⟨by kernel_rfl, Tryz.f14, Tryz.func14, rfl, rfl, rfl, by kernel_rfl⟩) (by simp) ?_
 simp -dsimp (disch := first | omega | (apply DrawYes.mk; decide +kernel)) only [go_sem]
 refine call (parse_at shown_all (by decide)) ?_
 rintro _ H1 ⟨hE, stmv, topv, rfl, ⟨es, hes, hst⟩, htop⟩
 cases hst with
 | cons h1 hst =>
 cases hst with
 | cons h2 hst =>
 cases hst
 obtain ⟨vl, vm, rfl, hl, hm⟩ := h1
 obtain ⟨vl2, vm2, rfl, hl2, hm2⟩ := h2
 rcases hes with ⟨_, hx⟩ | ⟨id, off, rfl⟩
 ·cases hx
 rcases htop with ⟨_, hx⟩ | ⟨id2, off2, rfl⟩
 ·cases hx
 rcases hl2 with ⟨_, hx⟩ | ⟨id3, off3, rfl⟩
 ·cases hx
 rw [show List.map intV [1] = [.int .i64 1] from rfl, show List.map intV [0] = [.int .i64 0] from rfl]
 have o1 : vl.one = true := by rcases hl with ⟨rfl, _⟩ | ⟨_, _, rfl⟩ <;> rfl
 have o2 : vm.one = true := by rcases hm with ⟨rfl, _⟩ | ⟨_, _, rfl⟩ <;> rfl
 have o3 : vm2.one = true := by rcases hm2 with ⟨rfl, _⟩ | ⟨_, _, rfl⟩ <;> rfl
 simp -dsimp (disch := first | omega | (apply DrawYes.mk; decide +kernel)) only [go_sem, o1, o2, o3]
 exact hE.new.set hE.le
end Go.Proofs.YtcknfhhbijlobaaGreatDoor.D
