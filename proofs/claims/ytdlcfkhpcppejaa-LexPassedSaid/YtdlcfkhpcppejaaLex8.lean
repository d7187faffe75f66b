import Derived.Test.YtdlcfkhpcppejaaLexJ
import Derived.Test.YtdlcfkhpcppejaaLex7
namespace Go.Proofs.Ytdlcfkhpcppejaa.D
open Go
set_option linter.unusedVariables false
set_option linter.unusedSimpArgs false
set_option maxRecDepth 100000

theorem un_err : ∀ (m : Nat) (s : List UInt8) (a p e : Nat), s.length ≤ m → (un s a).2 = some (p, e) → e ≠ 0 ∧ e ≠ 4
  | m, [], a, p, e, _, h => by cases h
  | 0, c :: r, a, p, e, h, _ => by simp at h
  | m + 1, c :: r, a, p, e, h, he => by
    have hn := nxt_n (c := c) (r := r)
    simp only [List.length_cons] at h
    rw [un_cons] at he
    cases hx : nxt c r with
    | err x =>
      simp only [hx] at he
      cases he
      unfold nxt at hx
      repeat' split at hx
      all_goals first
        | (cases hx; done)
        | (cases hx; exact ⟨by decide, by decide⟩)
    | skip n =>
      simp only [hx, Nx.n] at hn he
      exact un_err m _ _ _ _ (by simp; omega) he
    | tok k t n =>
      simp only [hx, Nx.n] at hn he
      exact un_err m _ _ _ _ (by simp; omega) he
theorem un_pos : ∀ (m : Nat) (s : List UInt8) (a p e : Nat), s.length ≤ m → (un s a).2 = some (p, e) → p ≤ a + s.length
  | m, [], a, p, e, _, h => by cases h
  | 0, c :: r, a, p, e, h, _ => by simp at h
  | m + 1, c :: r, a, p, e, h, he => by
    have hn := nxt_n (c := c) (r := r)
    simp only [List.length_cons] at h ⊢
    rw [un_cons] at he
    cases hx : nxt c r with
    | err x =>
      simp only [hx] at he
      cases he
      omega
    | skip n =>
      simp only [hx, Nx.n] at hn he
      have := un_pos m _ _ _ _ (by simp; omega) he
      simp at this; omega
    | tok k t n =>
      simp only [hx, Nx.n] at hn he
      have := un_pos m _ _ _ _ (by simp; omega) he
      simp at this; omega
theorem un_posT : ∀ (m : Nat) (s : List UInt8) (a : Nat), s.length ≤ m → ∀ x ∈ (un s a).1, x.pos ≤ a + s.length
  | m, [], a, _ => by rw [un_nil]; simp
  | 0, c :: r, a, h => by simp at h
  | m + 1, c :: r, a, h => by
    have hn := nxt_n (c := c) (r := r)
    simp only [List.length_cons] at h ⊢
    rw [un_cons]
    cases hx : nxt c r with
    | err x => simp
    | skip n =>
      simp only [hx, Nx.n] at hn ⊢
      intro x hm
      have := un_posT m _ _ (by simp; omega) x hm
      simp at this; omega
    | tok k t n =>
      simp only [hx, Nx.n] at hn ⊢
      intro x hm
      rcases List.mem_cons.1 hm with rfl | hm
      · simp only; omega
      · have := un_posT m _ _ (by simp; omega) x hm
        simp at this; omega
/-- What the tokens of two texts with a newline between are. -/
theorem joins_law {s t : List UInt8} (hs : s.length ≤ 900) (ht : t.length ≤ 900) :
    (∃ p e, e ≠ 0 ∧ lexAll s = ([], p, e) ∧ lexAll (s ++ [10] ++ t) = ([], p, e)) ∨
    (∃ A, A.length ≤ 401 ∧ 0 < A.length ∧ lexAll s = (A, 0, 0) ∧
      ((∃ p e, p ≤ 900 ∧ e ≠ 0 ∧ lexAll t = ([], p, e) ∧ ((lexAll (s ++ [10] ++ t) = ([], 0, 4) ∧ (e = 4 ∨ 1 < A.length)) ∨ (e ≠ 4 ∧ lexAll (s ++ [10] ++ t) = ([], p + s.length + 1, e)))) ∨
       (∃ B, (∀ x ∈ B, x.pos ≤ 900) ∧ B.length ≤ 401 ∧ 0 < B.length ∧ lexAll t = (B, 0, 0) ∧
         ((402 < A.length + B.length ∧ lexAll (s ++ [10] ++ t) = ([], 0, 4)) ∨
          (A.length + B.length ≤ 402 ∧ lexAll (s ++ [10] ++ t) = (A.take (A.length - 1) ++ B.map (Tok.sh (s.length + 1)), 0, 0)))))) := by
  have hj : (s ++ [10] ++ t).length ≤ 2000 := by simp; omega
  rw [lexAll_un hj, lexAll_un (s := s) (by omega), lexAll_un (s := t) (by omega)]
  have e1 : s ++ [10] ++ t = s ++ 10 :: t := by simp
  have e2 : un (s ++ 10 :: t) 0 = _ := un_join t s.length s 0 (Nat.le_refl _)
  have e3 : un t (0 + (s.length + 1)) = _ := un_shift t.length t 0 (s.length + 1) (Nat.le_refl _)
  have e4 := un_err s.length s 0
  have e5 := un_err t.length t 0
  have e6 := un_pos t.length t 0
  have e7 := un_posT t.length t 0 (Nat.le_refl _)
  rw [e1, e2]
  rw [show 0 + s.length + 1 = 0 + (s.length + 1) by omega, e3]
  generalize un s 0 = S at e4
  generalize un t 0 = U at e5 e6 e7
  obtain ⟨ts, es⟩ := S
  obtain ⟨tt, et⟩ := U
  simp only at e4 e5 e6 e7
  cases es with
  | some pe =>
    obtain ⟨p, e⟩ := pe
    left
    simp only [capped, List.length_nil, Nat.zero_add]
    by_cases h : 400 < ts.length
    · exact ⟨0, 4, by decide, by rw [if_pos h], by rw [if_pos h]⟩
    · exact ⟨p, e, (e4 p e (Nat.le_refl _) rfl).1, by rw [if_neg h], by rw [if_neg h]⟩
  | none =>
    simp only [capped, List.length_nil, Nat.zero_add, List.nil_append, List.length_append, List.length_map]
    by_cases h : 400 < ts.length
    · exact .inl ⟨0, 4, by decide, by rw [if_pos h], by rw [if_pos (by omega)]⟩
    right
    refine ⟨ts ++ [⟨0, [], s.length⟩], by simp; omega, by simp, by rw [if_neg h], ?_⟩
    cases et with
    | some pe =>
      obtain ⟨p, e⟩ := pe
      left
      by_cases h2 : 400 < tt.length
      · exact ⟨0, 4, by decide, by decide, by rw [if_pos h2], .inl ⟨by rw [if_pos (by omega)], .inl rfl⟩⟩
      · refine ⟨p, e, by have := e6 p e (Nat.le_refl _) rfl; omega, (e5 p e (Nat.le_refl _) rfl).1, by rw [if_neg h2], ?_⟩
        by_cases h3 : 400 < ts.length + tt.length
        · exact .inl ⟨by rw [if_pos h3], .inr (by simp; omega)⟩
        · exact .inr ⟨(e5 p e (Nat.le_refl _) rfl).2, by rw [if_neg h3]; rfl⟩
    | none =>
      by_cases h2 : 400 < tt.length
      · exact .inl ⟨0, 4, by decide, by decide, by rw [if_pos h2], .inl ⟨by rw [if_pos (by omega)], .inl rfl⟩⟩
      right
      refine ⟨tt ++ [⟨0, [], t.length⟩], ?_, by simp; omega, by simp, by rw [if_neg h2], ?_⟩
      · intro x hx
        rcases List.mem_append.1 hx with hx | hx
        · have := e7 x hx; omega
        · simp at hx; subst hx; exact ht
      by_cases h3 : 400 < ts.length + tt.length
      · exact .inl ⟨by simp; omega, by rw [if_pos h3]⟩
      · refine .inr ⟨by simp; omega, ?_⟩
        rw [if_neg h3]
        simp [Tok.sh]
        omega
end Go.Proofs.Ytdlcfkhpcppejaa.D
