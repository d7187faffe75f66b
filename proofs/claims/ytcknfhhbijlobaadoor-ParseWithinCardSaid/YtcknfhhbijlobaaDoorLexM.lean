/- The lexer's plain law: what it computes, in plain Lean. -/
import Derived.Test.YtcknfhhbijlobaaDoorDLib
import Derived.Test.YtcknfhhbijlobaaDoorLex3
namespace Go.Proofs.YtcknfhhbijlobaaDoor.D
open Go
set_option linter.unusedVariables false
set_option linter.unusedSimpArgs false

structure Tok where
  kind : Nat
  text : List UInt8
  pos : Nat
  deriving DecidableEq
def Tok.dv (t : Tok) : DV := .agg [.int .i64 t.kind, .str t.text, .int .i64 t.pos]
def blanksL : List UInt8 := [32, 9, 10, 13]
def smallL : List UInt8 := [97, 98, 99, 100, 101, 102, 103, 104, 105, 106, 107, 108, 109, 110, 111, 112, 113, 114, 115, 116, 117, 118, 119, 120, 121, 122]
def digitsL : List UInt8 := [48, 49, 50, 51, 52, 53, 54, 55, 56, 57]
def wordsL : List UInt8 := smallL ++ digitsL ++ [95]
def signsL : List UInt8 := [123, 125, 59, 61]
def runL (s set : List UInt8) : Nat := s.length - (s.dropWhile fun b => set.contains b).length
inductive Nx where
  | skip (n : Nat)
  | tok (k : Nat) (t : List UInt8) (n : Nat)
  | err (e : Nat)
def nxt (c : UInt8) (r : List UInt8) : Nx :=
  if c ∈ blanksL then .skip (runL (c :: r) blanksL)
  else if c.toNat = 35 then .skip ((c :: r).takeWhile (· != 10)).length
  else if c ∈ smallL then (if 12 < runL (c :: r) wordsL then .err 13 else .tok 1 ((c :: r).take (runL (c :: r) wordsL)) (runL (c :: r) wordsL))
  else if c ∈ digitsL then (if 9 < runL (c :: r) digitsL then .err 12 else .tok 2 ((c :: r).take (runL (c :: r) digitsL)) (runL (c :: r) digitsL))
  else if c.toNat = 34 then (match qd [] r 1 with
    | some (t, n) => .tok 3 t n
    | none => .err 11)
  else if c ∈ signsL then .tok 4 [c] 1
  else .err 10
/-- From a place on: behind these tokens. -/
def scan : Nat → List UInt8 → Nat → List Tok → List Tok × Nat × Nat
  | 0, _, _, _ => ([], 0, 0)
  | f + 1, [], at_, l => (l ++ [⟨0, [], at_⟩], 0, 0)
  | f + 1, c :: r, at_, l => match nxt c r with
    | .skip n => scan f ((c :: r).drop n) (at_ + n) l
    | .err e => ([], at_, e)
    | .tok k t n => if 400 ≤ l.length then ([], 0, 4) else scan f ((c :: r).drop n) (at_ + n) (l ++ [⟨k, t, at_⟩])
def lexAll (s : List UInt8) : List Tok × Nat × Nat := if 2000 < s.length then ([], 0, 4) else scan (s.length + 1) s 0 []
theorem runL_pos {c : UInt8} {r set : List UInt8} (h : c ∈ set) : 0 < runL (c :: r) set := by
  unfold runL
  have h1 : set.contains c = true := by simpa using h
  simp only [List.dropWhile, h1]
  have := dropWhile_len (fun b => set.contains b) r
  rw [List.length_cons]; omega
theorem runL_le {s set : List UInt8} : runL s set ≤ s.length := by unfold runL; omega
theorem qd_n : ∀ (m : Nat) (r acc : List UInt8) (n : Nat) (t : List UInt8) (k : Nat), r.length ≤ m → qd acc r n = some (t, k) → n < k ∧ k ≤ n + r.length
  | 0, [], acc, n, t, k, _, h => by rw [qd.eq_def] at h; cases h
  | m + 1, [], acc, n, t, k, _, h => by rw [qd.eq_def] at h; cases h
  | m + 1, c :: r, acc, n, t, k, hm, h => by
    rw [qd_cons] at h
    simp only [List.length_cons] at hm ⊢
    split at h
    · split at h
      · cases h; omega
      · cases h
    · split at h
      · cases h
      · split at h
        · cases r with
          | nil => cases h
          | cons d r' =>
            simp only at h
            simp only [List.length_cons] at hm ⊢
            cases he : esc d with
            | none => simp [he] at h
            | some x =>
              simp only [he] at h
              have := qd_n m r' _ _ _ _ (by omega) h
              omega
        · have := qd_n m r _ _ _ _ (by omega) h
          omega
theorem small_words {c : UInt8} (h : c ∈ smallL) : c ∈ wordsL := by unfold wordsL; simp [h]
def Nx.n : Nx → Nat
  | .skip n => n
  | .tok _ _ n => n
  | .err _ => 1
theorem nxt_n {c : UInt8} {r : List UInt8} : 0 < (nxt c r).n ∧ (nxt c r).n ≤ r.length + 1 := by
  have hr : ∀ set, runL (c :: r) set ≤ r.length + 1 := fun set => by simpa using runL_le (s := c :: r) (set := set)
  unfold nxt
  by_cases h1 : c ∈ blanksL
  · rw [if_pos h1]; exact ⟨runL_pos h1, hr _⟩
  rw [if_neg h1]
  by_cases h2 : c.toNat = 35
  · rw [if_pos h2]
    have hc : c = 35 := by rw [← UInt8.toNat_inj]; exact h2
    subst hc
    have := (List.takeWhile_sublist (fun b : UInt8 => b != 10) (l := r)).length_le
    simp [List.takeWhile_cons, Nx.n]
    exact this
  rw [if_neg h2]
  by_cases h3 : c ∈ smallL
  · rw [if_pos h3]
    by_cases h : 12 < runL (c :: r) wordsL
    · rw [if_pos h]; exact ⟨Nat.one_pos, by simp [Nx.n]⟩
    · rw [if_neg h]; exact ⟨runL_pos (small_words h3), hr _⟩
  rw [if_neg h3]
  by_cases h4 : c ∈ digitsL
  · rw [if_pos h4]
    by_cases h : 9 < runL (c :: r) digitsL
    · rw [if_pos h]; exact ⟨Nat.one_pos, by simp [Nx.n]⟩
    · rw [if_neg h]; exact ⟨runL_pos h4, hr _⟩
  rw [if_neg h4]
  by_cases h5 : c.toNat = 34
  · rw [if_pos h5]
    cases hq : qd [] r 1 with
    | none => exact ⟨Nat.one_pos, by simp [Nx.n]⟩
    | some p =>
      obtain ⟨t, n⟩ := p
      have := qd_n _ r _ _ _ _ (Nat.le_refl _) hq
      simp only [Nx.n]
      exact ⟨by omega, by omega⟩
  rw [if_neg h5]
  by_cases h : c ∈ signsL
  · rw [if_pos h]; simp [Nx.n]
  · rw [if_neg h]; simp [Nx.n]
theorem scan_fuel : ∀ (f g : Nat) (s : List UInt8) (a : Nat) (l : List Tok), s.length < f → s.length < g → scan f s a l = scan g s a l := by
  intro f
  induction f with
  | zero => intro g s a l h; omega
  | succ f ih =>
    intro g s a l h hg
    cases g with
    | zero => omega
    | succ g =>
      cases s with
      | nil => rfl
      | cons c r =>
        have hn := nxt_n (c := c) (r := r)
        simp only [List.length_cons] at h hg
        rw [scan, scan]
        cases hx : nxt c r with
        | err e => rfl
        | skip n =>
          simp only [hx, Nx.n] at hn ⊢
          exact ih _ _ _ _ (by simp; omega) (by simp; omega)
        | tok k t n =>
          simp only [hx, Nx.n] at hn ⊢
          rw [ih g ((c :: r).drop n) (a + n) _ (by simp; omega) (by simp; omega)]
/-- From a place on, with fuel enough. -/
def scanT (s : List UInt8) (a : Nat) (l : List Tok) : List Tok × Nat × Nat := scan (s.length + 1) s a l
theorem scanT_nil {a : Nat} {l : List Tok} : scanT [] a l = (l ++ [⟨0, [], a⟩], 0, 0) := rfl
theorem scanT_cons {c : UInt8} {r : List UInt8} {a : Nat} {l : List Tok} : scanT (c :: r) a l = match nxt c r with
    | .skip n => scanT ((c :: r).drop n) (a + n) l
    | .err e => ([], a, e)
    | .tok k t n => if 400 ≤ l.length then ([], 0, 4) else scanT ((c :: r).drop n) (a + n) (l ++ [⟨k, t, a⟩]) := by
  have hn := nxt_n (c := c) (r := r)
  unfold scanT
  rw [List.length_cons, scan]
  cases hx : nxt c r with
  | err e => rfl
  | skip n =>
    simp only [hx, Nx.n] at hn ⊢
    exact scan_fuel _ _ _ _ _ (by simp; omega) (by omega)
  | tok k t n =>
    simp only [hx, Nx.n] at hn ⊢
    rw [scan_fuel (r.length + 1) (((c :: r).drop n).length + 1) _ _ _ (by simp; omega) (by omega)]
theorem lexAll_eq {s : List UInt8} (h : ¬ 2000 < s.length) : lexAll s = scanT s 0 [] := by unfold lexAll; rw [if_neg h]; rfl
end Go.Proofs.YtcknfhhbijlobaaDoor.D
