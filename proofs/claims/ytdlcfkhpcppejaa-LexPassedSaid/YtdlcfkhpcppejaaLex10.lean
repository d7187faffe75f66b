import Derived.Test.YtdlcfkhpcppejaaLexP
namespace Go.Proofs.Ytdlcfkhpcppejaa.D
open Go
set_option linter.unusedVariables false
set_option linter.unusedSimpArgs false
set_option maxRecDepth 100000

/-- What is ahead changes the places alone. -/
theorem passed_law {x y s : List UInt8} (hx : (10 : UInt8) ∉ x) (hxl : x.length ≤ 100) (hy : ∀ c ∈ y, c ∈ blanksL) (hyl : y.length ≤ 15) (hs : s.length ≤ 900) :
    (∃ p e, p ≤ 900 ∧ e ≠ 0 ∧ lexAll s = ([], p, e) ∧ ((e = 4 ∧ lexAll (35 :: x ++ [10] ++ y ++ s) = ([], 0, 4)) ∨ (e ≠ 4 ∧ lexAll (35 :: x ++ [10] ++ y ++ s) = ([], p + (35 :: x ++ [10] ++ y).length, e)))) ∨
    (∃ A, (∀ t ∈ A, t.pos ≤ 900) ∧ A.length ≤ 401 ∧ 0 < A.length ∧ lexAll s = (A, 0, 0) ∧ lexAll (35 :: x ++ [10] ++ y ++ s) = (A.map (Tok.sh (35 :: x ++ [10] ++ y).length), 0, 0)) := by
  obtain ⟨g, hg⟩ : ∃ g, g = (35 :: x ++ [10] ++ y).length := ⟨_, rfl⟩
  have hgl : g ≤ 117 := by rw [hg]; simp; omega
  have hl : (35 :: x ++ [10] ++ y ++ s).length = g + s.length := by rw [List.length_append, ← hg]
  rw [lexAll_un (s := s) (by omega), lexAll_un (s := 35 :: x ++ [10] ++ y ++ s) (by omega), un_gap hx hy, hl, ← hg]
  have e3 : un s (0 + g) = _ := un_shift s.length s 0 g (Nat.le_refl _)
  rw [Nat.zero_add] at e3
  have e4 := un_err s.length s 0
  have e6 := un_pos s.length s 0
  have e7 := un_posT s.length s 0 (Nat.le_refl _)
  rw [e3]
  generalize un s 0 = S at e4 e6 e7
  obtain ⟨ts, es⟩ := S
  simp only at e4 e6 e7
  simp only [capped, List.length_nil, Nat.zero_add, List.nil_append, List.length_map]
  by_cases h : 400 < ts.length
  · exact .inl ⟨0, 4, by decide, by decide, by rw [if_pos h], .inl ⟨rfl, by rw [if_pos h]⟩⟩
  cases es with
  | some pe =>
    obtain ⟨p, e⟩ := pe
    have he := e4 p e (Nat.le_refl _) rfl
    exact .inl ⟨p, e, by have := e6 p e (Nat.le_refl _) rfl; omega, he.1, by rw [if_neg h], .inr ⟨he.2, by rw [if_neg h]; rfl⟩⟩
  | none =>
    refine .inr ⟨ts ++ [⟨0, [], s.length⟩], ?_, by simp; omega, by simp, by rw [if_neg h], ?_⟩
    · intro t ht
      rcases List.mem_append.1 ht with ht | ht
      · have := e7 t ht; omega
      · simp at ht; subst ht; exact hs
    · rw [if_neg h]
      simp [Tok.sh]
      omega
end Go.Proofs.Ytdlcfkhpcppejaa.D
