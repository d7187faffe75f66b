import Derived.Test.YtcknfhhbijlobaaGreatDoorCh16
namespace Go.Proofs.YtcknfhhbijlobaaGreatDoor.D
open Go
set_option linter.unusedVariables false
set_option linter.unusedSimpArgs false
set_option maxRecDepth 100000
theorem labelsL_add {l : List Stm} {s : Stm} : labelsL (l ++ [s]) = if s.kind = 13 then labelsL l ++ [s.s] else labelsL l := by
 unfold labelsL
 by_cases h : s.kind = 13
 ·rw [if_pos h]; simp [List.filter_append, h]
 ·rw [if_neg h]; simp [List.filter_append, h]
theorem setsL_add {l : List Stm} {s : Stm} : setsL (l ++ [s]) = if s.kind = 1 ∨ s.kind = 9 ∨ s.kind = 10 then setsL l ++ [s.s] else setsL l := by
 unfold setsL
 by_cases h : s.kind = 1 ∨ s.kind = 9 ∨ s.kind = 10
 ·rw [if_pos h]; simp [List.filter_append, h]
 ·rw [if_neg h]; simp [List.filter_append, h]
theorem checkL_all {md : Nat} {R : List Stm} {labels sets : List (List UInt8)} : ∀ (r d : List Stm), (checkL md R labels sets r (labelsL d)).2 = 0 → ∀ i s, r[i]? = some s → errB md R labels sets (labelsL (d ++ r.take i)) s = 0
 | [], d, _, i, s, h => by simp at h
 | x :: r, d, h, i, s, hi => by
  rw [checkL] at h
  by_cases he : errB md R labels sets (labelsL d) x = 0
  ·rw [if_neg (by omega)] at h
   have hl : (if x.kind = 13 then labelsL d ++ [x.s] else labelsL d) = labelsL (d ++ [x]) := labelsL_add.symm
   rw [hl] at h
   cases i with
   | zero => simp at hi; subst hi; simpa using he
   | succ i =>
    have := checkL_all r (d ++ [x]) h i s (by simpa using hi)
    rw [List.take_succ_cons]
    simpa using this
  ·rw [if_pos he] at h
   exact absurd h he
theorem check_all {md : Nat} {R : List Stm} (h : (checkP md R).2 = 0) {i : Nat} {s : Stm} (hi : R[i]? = some s) : errB md R (labelsL R) (setsL R) (labelsL (R.take i)) s = 0 := by
 have := checkL_all R [] h i s hi
 simpa using this
structure NamesOk (md : Nat) (R : List Stm) (i : Nat) (s : Stm) : Prop where
 once : s.kind = 13 → s.s ∉ labelsL (R.take i)
 goes : s.kind = 14 ∨ s.kind = 15 → s.s ∈ labelsL R
 codes : s.kind = 2 ∨ s.kind = 3 → codesB md s.t = true
 names : s.kind = 3 → ∃ l, namesL s.s = some l ∧ ∀ n ∈ l, n ∈ setsL R
theorem names17_ok {md : Nat} {R : List Stm} (h : (checkP md R).2 = 0) {i : Nat} {s : Stm} (hi : R[i]? = some s) : NamesOk md R i s := by
 have he := check_all h hi
 unfold errB at he
 repeat' split at he
 all_goals first | (cases he; done) | skip
 rename_i h1 h2 h3 h4 h5 h6
 rw [Bool.not_eq_false] at h3 h4 h5 h6
 refine ⟨fun hk => ?_, fun hk => ?_, fun hk => ?_, fun hk => ?_⟩
 ·unfold onceB at h4
  simpa [hk] using h4
 ·unfold thereB at h5
  rcases hk with hk | hk <;> simpa [hk] using h5
 ·unfold codesK at h3
  rwa [if_pos (by omega)] at h3
 ·unfold knownB textsL at h6
  rw [if_pos (by omega)] at h6
  simp only [List.all_cons, List.all_nil, Bool.and_true] at h6
  unfold namesB at h6
  split at h6
  ·cases h6
  ·rename_i l hl
   refine ⟨l, hl, ?_⟩
   simpa using h6
def IsSi (H : DH) (e sz id : Nat) (v : DV) (es : List DV) : Prop := ∃ off k, v = .sl id sz off es ∧ H.m id = some (.tip e k true) ∧ k = off + es.length ∧ id < H.next
theorem IsSi.keep {H H' : DH} {e sz id : Nat} {v : DV} {es : List DV} (h : IsSi H e sz id v es) (hn : H.next ≤ H'.next) (hm : H'.m id = H.m id) : IsSi H' e sz id v es := by
 obtain ⟨off, k, h1, h2, h3, h4⟩ := h
 exact ⟨off, k, h1, by rw [hm]; exact h2, h3, Nat.lt_of_lt_of_le h4 hn⟩
theorem IsSi.ext {H H' : DH} {e sz id : Nat} {v : DV} {es : List DV} (h : IsSi H e sz id v es) (x : Ext H H') : IsSi H' e sz id v es := by
 have h4 := h
 obtain ⟨_, _, _, _, _, h4⟩ := h4
 exact h.keep x.le (x.same _ h4)
end Go.Proofs.YtcknfhhbijlobaaGreatDoor.D
