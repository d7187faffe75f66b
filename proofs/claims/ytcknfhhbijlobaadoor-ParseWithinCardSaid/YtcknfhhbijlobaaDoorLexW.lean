/- The tokens of texts that are made of parts: in plain Lean. -/
import Derived.Test.YtcknfhhbijlobaaDoorLexJ
namespace Go.Proofs.YtcknfhhbijlobaaDoor.D
open Go
set_option linter.unusedVariables false
set_option linter.unusedSimpArgs false

def push (t : Tok) (u : List Tok × Option (Nat × Nat)) : List Tok × Option (Nat × Nat) := (t :: u.1, u.2)
theorem tw_app {p : UInt8 → Bool} {x : UInt8} {t : List UInt8} (hx : p x = false) : ∀ {w : List UInt8}, (∀ c ∈ w, p c = true) → (w ++ x :: t).takeWhile p = w
  | [], _ => by simp [List.takeWhile_cons, hx]
  | c :: w, h => by
    rw [List.cons_append, List.takeWhile_cons, if_pos (h c (by simp)), tw_app hx fun d hd => h d (by simp [hd])]
theorem runL_all {set w t : List UInt8} {x : UInt8} (hx : x ∉ set) (hw : ∀ c ∈ w, c ∈ set) : runL (w ++ x :: t) set = w.length := by
  rw [runL_tw, tw_app (by simpa using hx) (fun c hc => by simpa using hw c hc)]
theorem small_not_blank : ∀ c ∈ smallL, c ∉ blanksL ∧ c.toNat ≠ 35 := by decide
theorem digit_not : ∀ c ∈ digitsL, c ∉ blanksL ∧ c.toNat ≠ 35 ∧ c ∉ smallL := by decide
theorem sign_not : ∀ c ∈ signsL, c ∉ blanksL ∧ c.toNat ≠ 35 ∧ c ∉ smallL ∧ c ∉ digitsL ∧ c.toNat ≠ 34 := by decide
theorem un_word {w t : List UInt8} {x : UInt8} {a : Nat} (h0 : w ≠ []) (hw : ∀ c ∈ w, c ∈ smallL) (hl : w.length ≤ 12) (hx : x ∉ wordsL) :
    un (w ++ x :: t) a = push ⟨1, w, a⟩ (un (x :: t) (a + w.length)) := by
  cases w with
  | nil => exact absurd rfl h0
  | cons c w =>
    have hc := hw c (by simp)
    have hr := runL_all (t := t) hx (fun d hd => small_words (hw d hd))
    rw [List.cons_append] at hr
    have hn : nxt c (w ++ x :: t) = .tok 1 (c :: w) (c :: w).length := by
      unfold nxt
      rw [if_neg (small_not_blank c hc).1, if_neg (small_not_blank c hc).2, if_pos hc, hr, if_neg (by omega)]
      congr 1
      rw [← List.cons_append]; simp
    rw [List.cons_append, un_cons, hn]
    simp only
    rw [← List.cons_append]
    simp [push]
theorem un_digits {w t : List UInt8} {x : UInt8} {a : Nat} (h0 : w ≠ []) (hw : ∀ c ∈ w, c ∈ digitsL) (hl : w.length ≤ 9) (hx : x ∉ digitsL) :
    un (w ++ x :: t) a = push ⟨2, w, a⟩ (un (x :: t) (a + w.length)) := by
  cases w with
  | nil => exact absurd rfl h0
  | cons c w =>
    have hc := hw c (by simp)
    have hr := runL_all (t := t) hx hw
    rw [List.cons_append] at hr
    have hn : nxt c (w ++ x :: t) = .tok 2 (c :: w) (c :: w).length := by
      unfold nxt
      rw [if_neg (digit_not c hc).1, if_neg (digit_not c hc).2.1, if_neg (digit_not c hc).2.2, if_pos hc, hr, if_neg (by omega)]
      congr 1
      rw [← List.cons_append]; simp
    rw [List.cons_append, un_cons, hn]
    simp only
    rw [← List.cons_append]
    simp [push]
theorem un_sign {c : UInt8} {t : List UInt8} {a : Nat} (hc : c ∈ signsL) : un (c :: t) a = push ⟨4, [c], a⟩ (un t (a + 1)) := by
  have h := sign_not c hc
  have hn : nxt c t = .tok 4 [c] 1 := by
    unfold nxt
    rw [if_neg h.1, if_neg h.2.1, if_neg h.2.2.1, if_neg h.2.2.2.1, if_neg h.2.2.2.2, if_pos hc]
  rw [un_cons, hn]
  rfl
theorem un_space {t : List UInt8} {a : Nat} : un (32 :: t) a = un t (a + 1) := un_blank (by decide)
theorem un_quote {s q t : List UInt8} {a : Nat} (h : quoteL s = some q) : un (q ++ t) a = push ⟨3, s, a⟩ (un t (a + q.length)) := by
  unfold quoteL at h
  split at h
  · cases h
  rename_i ht
  rw [qz_eq] at h
  split at h
  · rename_i hall
    cases h
    have hqd : qd [] (s.flatMap enc1 ++ 34 :: t) 1 = some (s, 1 + (s.flatMap enc1).length + 1) := by
      rw [qd_all s [] _ _ hall, qd_cons, if_pos (by decide), if_pos (by simp; omega)]
      simp
    have hn : nxt 34 (s.flatMap enc1 ++ 34 :: t) = .tok 3 s (1 + (s.flatMap enc1).length + 1) := by
      unfold nxt
      rw [if_neg (by decide), if_neg (by decide), if_neg (by decide), if_neg (by decide), if_pos (by decide), hqd]
    have e1 : [34] ++ s.flatMap enc1 ++ [34] ++ t = 34 :: (s.flatMap enc1 ++ 34 :: t) := by simp
    rw [e1, un_cons, hn]
    simp only
    have hd : (34 :: (s.flatMap enc1 ++ 34 :: t)).drop (1 + (s.flatMap enc1).length + 1) = t := by
      rw [show 1 + (s.flatMap enc1).length + 1 = ((s.flatMap enc1).length + 1) + 1 by omega, List.drop_succ_cons, List.drop_append]
      simp
    rw [hd]
    have hl : ([34] ++ s.flatMap enc1 ++ [34]).length = 1 + (s.flatMap enc1).length + 1 := by simp; omega
    rw [hl]
    rfl
  · cases h
end Go.Proofs.YtcknfhhbijlobaaDoor.D
