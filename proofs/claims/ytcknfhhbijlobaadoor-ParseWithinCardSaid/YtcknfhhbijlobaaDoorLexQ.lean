/- What was quoted is one token: in plain Lean. -/
import Derived.Test.YtcknfhhbijlobaaDoorLexK
namespace Go.Proofs.YtcknfhhbijlobaaDoor.D
open Go
set_option linter.unusedVariables false
set_option linter.unusedSimpArgs false

def enc1 (c : UInt8) : List UInt8 := match unesc c with
  | some x => [92, x]
  | none => [c]
def okc (c : UInt8) : Bool := (unesc c).isSome || (32 ≤ c.toNat && c.toNat ≤ 126)
theorem qz_eq : ∀ (r acc : List UInt8), qz acc r = if r.all okc = true then some (acc ++ r.flatMap enc1 ++ [34]) else none
  | [], acc => by simp [qz]
  | c :: r, acc => by
    rw [qz]
    cases hu : unesc c with
    | some x =>
      simp only [qz_eq r, List.all_cons, List.flatMap_cons]
      have : okc c = true := by simp [okc, hu]
      rw [this, Bool.true_and]
      simp [enc1, hu]
    | none =>
      simp only
      by_cases hb : c.toNat < 32 ∨ 126 < c.toNat
      · rw [if_pos hb]
        have : okc c = false := by simp [okc, hu]; omega
        simp [this]
      · rw [if_neg hb, qz_eq r]
        have : okc c = true := by simp [okc, hu]; omega
        simp [List.all_cons, this, enc1, hu]
theorem esc_unesc {c x : UInt8} (h : unesc c = some x) : esc x = some c := by
  unfold unesc at h
  split at h
  · rename_i e; cases h; subst e; rfl
  split at h
  · rename_i e; cases h; subst e; rfl
  split at h
  · rename_i e; cases h; subst e; rfl
  split at h
  · rename_i e; cases h; subst e; rfl
  split at h
  · rename_i e; cases h; subst e; rfl
  cases h
theorem unesc_none {c : UInt8} (h : unesc c = none) : c.toNat ≠ 92 ∧ c.toNat ≠ 34 := by
  constructor
  · intro e
    have : c = 92 := by rw [← UInt8.toNat_inj]; exact e
    subst this; cases h
  · intro e
    have : c = 34 := by rw [← UInt8.toNat_inj]; exact e
    subst this; cases h
theorem qd_one {c : UInt8} (hc : okc c = true) (acc r : List UInt8) (n : Nat) : qd acc (enc1 c ++ r) n = qd (acc ++ [c]) r (n + (enc1 c).length) := by
  unfold enc1
  cases hu : unesc c with
  | some x =>
    simp only [List.cons_append, List.nil_append, qd_cons, List.length_cons, List.length_nil]
    rw [if_neg (by decide), if_neg (by decide), if_pos (by decide), esc_unesc hu]
  | none =>
    obtain ⟨h1, h2⟩ := unesc_none hu
    simp [okc, hu] at hc
    simp only [List.cons_append, List.nil_append, qd_cons, List.length_cons, List.length_nil]
    rw [if_neg h2, if_neg (by omega), if_neg h1]
theorem qd_all : ∀ (t acc r : List UInt8) (n : Nat), t.all okc = true → qd acc (t.flatMap enc1 ++ r) n = qd (acc ++ t) r (n + (t.flatMap enc1).length)
  | [], acc, r, n, _ => by simp
  | c :: t, acc, r, n, h => by
    simp only [List.all_cons, Bool.and_eq_true] at h
    rw [List.flatMap_cons, List.append_assoc, qd_one h.1, qd_all t _ _ _ h.2]
    simp [Nat.add_assoc]
theorem dw_rep : ∀ (g : Nat) (x : List UInt8), (List.replicate g (32 : UInt8) ++ 34 :: x).dropWhile (fun b => blanksL.contains b) = 34 :: x
  | 0, x => by rfl
  | g + 1, x => by
    rw [List.replicate_succ, List.cons_append, List.dropWhile_cons]
    rw [if_pos (by decide), dw_rep g x]
theorem drop_run {s set : List UInt8} : s.drop (runL s set) = s.dropWhile fun b => set.contains b := by
  unfold runL
  have h := List.takeWhile_append_dropWhile (p := fun b => set.contains b) (l := s)
  have hl := congrArg List.length h
  rw [List.length_append] at hl
  have : s.length - (s.dropWhile fun b => set.contains b).length = (s.takeWhile fun b => set.contains b).length := by omega
  rw [this]
  have d := List.drop_left' (l₁ := s.takeWhile fun b => set.contains b) (l₂ := s.dropWhile fun b => set.contains b) rfl
  rw [h] at d
  exact d
theorem scan_blanks {g : Nat} {x : List UInt8} {l : List Tok} : scanT (List.replicate g 32 ++ 34 :: x) 0 l = scanT (34 :: x) g l := by
  cases g with
  | zero => rfl
  | succ g =>
    rw [List.replicate_succ, List.cons_append, scanT_cons]
    have hn : nxt 32 (List.replicate g 32 ++ 34 :: x) = .skip (runL (32 :: (List.replicate g 32 ++ 34 :: x)) blanksL) := by
      unfold nxt; rw [if_pos (by decide)]
    rw [hn]
    simp only
    rw [drop_run]
    have h1 := dw_rep (g + 1) x
    rw [List.replicate_succ, List.cons_append] at h1
    rw [h1]
    congr 1
    unfold runL
    rw [h1]
    simp; omega
theorem quotes_law {t q : List UInt8} {g : Nat} (hg : g ≤ 15) (h : quoteL t = some q) : lexAll (List.replicate g 32 ++ q ++ [59]) = ([⟨3, t, g⟩, ⟨4, [59], g + q.length⟩, ⟨0, [], g + q.length + 1⟩], 0, 0) ∧ q.length ≤ 202 := by
  unfold quoteL at h
  split at h
  · cases h
  rename_i ht
  rw [qz_eq] at h
  split at h
  · rename_i hall
    cases h
    have hlen : ∀ t : List UInt8, (t.flatMap enc1).length ≤ 2 * t.length := by
      intro t
      induction t with
      | nil => simp
      | cons c t ih =>
        rw [List.flatMap_cons, List.length_append, List.length_cons]
        have : (enc1 c).length ≤ 2 := by unfold enc1; split <;> simp
        omega
    have hl := hlen t
    have hq : ([34] ++ t.flatMap enc1 ++ [34]).length ≤ 202 := by rw [List.length_append, List.length_append]; simp only [List.length_cons, List.length_nil]; omega
    refine ⟨?_, hq⟩
    rw [lexAll_eq (by rw [List.length_append, List.length_append, List.length_replicate]; simp only [List.length_cons, List.length_nil]; omega)]
    have e1 : List.replicate g 32 ++ ([34] ++ t.flatMap enc1 ++ [34]) ++ [59] = List.replicate g 32 ++ 34 :: (t.flatMap enc1 ++ [34, 59]) := by simp
    rw [e1, scan_blanks, scanT_cons]
    have hqd : qd [] (t.flatMap enc1 ++ [34, 59]) 1 = some (t, 1 + (t.flatMap enc1).length + 1) := by
      rw [qd_all t [] _ _ hall, qd_cons, if_pos (by decide), if_pos (by simp; omega)]
      simp
    have hn : nxt 34 (t.flatMap enc1 ++ [34, 59]) = .tok 3 t (1 + (t.flatMap enc1).length + 1) := by
      unfold nxt
      rw [if_neg (by decide), if_neg (by decide), if_neg (by decide), if_neg (by decide), if_pos (by decide), hqd]
    rw [hn]
    simp only
    rw [if_neg (by simp)]
    have hd : (34 :: (t.flatMap enc1 ++ [34, 59])).drop (1 + (t.flatMap enc1).length + 1) = [59] := by
      rw [show 1 + (t.flatMap enc1).length + 1 = ((t.flatMap enc1).length + 1) + 1 by omega, List.drop_succ_cons, List.drop_append]
      simp
    rw [hd, scanT_cons]
    have hs : nxt 59 [] = .tok 4 [59] 1 := by rfl
    rw [hs]
    simp only
    rw [if_neg (by simp)]
    simp only [List.drop_succ_cons, List.drop_zero, scanT_nil]
    simp
    omega
  · cases h
end Go.Proofs.YtcknfhhbijlobaaDoor.D
