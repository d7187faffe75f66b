import Derived.Test.YtcknfhhbijlobaaGreatDoorCo9
namespace Go.Proofs.YtcknfhhbijlobaaGreatDoor.D
open Go
set_option linter.unusedVariables false
set_option linter.unusedSimpArgs false
set_option maxRecDepth 100000
theorem codeAll_ok {s : List UInt8} {H : DH} (hs : s.length ≤ 9223372036854775807) : WC cfg 9 [.str s] H fun v H' => v = .bool true := by
 refine WC_of (show Has cfg 9 90 [.tmp 2] _ from ⟨by kernel_rfl, Tryz.f9, Tryz.func9, rfl, rfl, rfl, by kernel_rfl⟩) (by simp) ?_
 simp -dsimp (disch := first | omega | (apply DrawYes.mk; decide +kernel)) only [go_sem]
 refine call coshown_ok ?_
 rintro _ H1 ⟨rfl, hE1⟩
 simp -dsimp (disch := first | omega | (apply DrawYes.mk; decide +kernel)) only [go_sem, coshort_eq]
 have hlen : (s.take 2100).length ≤ 2100 := by rw [List.length_take]; omega
 generalize s.take 2100 = u at *
 refine call (csrc_ok (s := u) (by omega)) ?_
 rintro _ H2 ⟨hE2, ov, rfl, hov⟩
 simp -dsimp (disch := first | omega | (apply DrawYes.mk; decide +kernel)) only [go_sem]
 refine call (rsrc_ok (s := u) (by omega)) ?_
 rintro _ H3 ⟨hE3, rv, rfl, hrv⟩
 simp -dsimp (disch := first | omega | (apply DrawYes.mk; decide +kernel)) only [go_sem]
 have hl : (opsR (checkS u)).length < 1000000 := by
  by_cases he : (checkS u).e = 0
  ·rw [opsR_0 he]; have := opsP_len (goodP_of he); omega
  ·rw [opsR_n he]; decide
 refine call (same18_ok hov hrv hl) ?_
 rintro _ H4 ⟨rfl, rfl⟩
 simp -dsimp (disch := first | omega | (apply DrawYes.mk; decide +kernel)) only [go_sem]
 refine call (rsource17_ok (s := u) (by omega)) ?_
 rintro _ H5 ⟨hE5, stmv, topv, rfl, hP⟩
 obtain ⟨a1, a2, a3⟩ := hP.two
 by_cases he : (checkS u).e = 0
 ·have j0 : (((checkS u).e : Int) != 0) = false := by simp; omega
  have hg := goodP_of he
  simp -dsimp (disch := first | omega | (apply DrawYes.mk; decide +kernel)) only [go_sem, a1, a2, j0]
  refine call (of_ok hP hg.ofC) ?_
  rintro _ H6 ⟨rfl, hE6⟩
  simp -dsimp (disch := first | omega | (apply DrawYes.mk; decide +kernel)) only [go_sem]
  refine call (same18_ok (.inr ⟨_, _, rfl⟩) (by rw [← opsR_0 he]; exact hrv) (by have := opsP_len hg; omega)) ?_
  rintro _ H7 ⟨rfl, rfl⟩
  simp -dsimp (disch := first | omega | (apply DrawYes.mk; decide +kernel)) only [go_sem]
  done
 ·have j0 : (((checkS u).e : Int) != 0) = true := by simp; omega
  simp -dsimp (disch := first | omega | (apply DrawYes.mk; decide +kernel)) only [go_sem, a1, a2, j0]
  done
end Go.Proofs.YtcknfhhbijlobaaGreatDoor.D
