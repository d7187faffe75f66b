/- The tokens without the bound on how many, of joined texts: in plain Lean. -/
import Derived.Test.YtcknfhhbijlobaaDoorLexQ
namespace Go.Proofs.YtcknfhhbijlobaaDoor.D
open Go
set_option linter.unusedVariables false
set_option linter.unusedSimpArgs false

def unF : Nat → List UInt8 → Nat → List Tok × Option (Nat × Nat)
  | 0, _, _ => ([], none)
  | f + 1, [], _ => ([], none)
  | f + 1, c :: r, a => match nxt c r with
    | .skip n => unF f ((c :: r).drop n) (a + n)
    | .err e => ([], some (a, e))
    | .tok k t n => (⟨k, t, a⟩ :: (unF f ((c :: r).drop n) (a + n)).1, (unF f ((c :: r).drop n) (a + n)).2)
def un (s : List UInt8) (a : Nat) : List Tok × Option (Nat × Nat) := unF (s.length + 1) s a
theorem unF_fuel : ∀ (f g : Nat) (s : List UInt8) (a : Nat), s.length < f → s.length < g → unF f s a = unF g s a := by
  intro f
  induction f with
  | zero => intro g s a h; omega
  | succ f ih =>
    intro g s a h hg
    cases g with
    | zero => omega
    | succ g =>
      cases s with
      | nil => rfl
      | cons c r =>
        have hn := nxt_n (c := c) (r := r)
        simp only [List.length_cons] at h hg
        rw [unF, unF]
        cases hx : nxt c r with
        | err e => rfl
        | skip n =>
          simp only [hx, Nx.n] at hn ⊢
          exact ih _ _ _ (by simp; omega) (by simp; omega)
        | tok k t n =>
          simp only [hx, Nx.n] at hn ⊢
          rw [ih g ((c :: r).drop n) (a + n) (by simp; omega) (by simp; omega)]
theorem un_nil {a : Nat} : un [] a = ([], none) := rfl
theorem un_cons {c : UInt8} {r : List UInt8} {a : Nat} : un (c :: r) a = match nxt c r with
    | .skip n => un ((c :: r).drop n) (a + n)
    | .err e => ([], some (a, e))
    | .tok k t n => (⟨k, t, a⟩ :: (un ((c :: r).drop n) (a + n)).1, (un ((c :: r).drop n) (a + n)).2) := by
  have hn := nxt_n (c := c) (r := r)
  unfold un
  rw [List.length_cons, unF]
  cases hx : nxt c r with
  | err e => rfl
  | skip n =>
    simp only [hx, Nx.n] at hn ⊢
    exact unF_fuel _ _ _ _ (by simp; omega) (by omega)
  | tok k t n =>
    simp only [hx, Nx.n] at hn ⊢
    rw [unF_fuel (r.length + 1) (((c :: r).drop n).length + 1) _ _ (by simp; omega) (by omega)]
/-- What the bound makes of it. -/
def capped (l : List Tok) (z : Nat) (u : List Tok × Option (Nat × Nat)) : List Tok × Nat × Nat :=
  if 400 < l.length + u.1.length then ([], 0, 4) else match u.2 with
    | none => (l ++ u.1 ++ [⟨0, [], z⟩], 0, 0)
    | some (p, e) => ([], p, e)
theorem scan_un : ∀ (m : Nat) (s : List UInt8) (a : Nat) (l : List Tok), s.length ≤ m → l.length ≤ 400 → scanT s a l = capped l (a + s.length) (un s a)
  | m, [], a, l, _, hl => by
    rw [scanT_nil, un_nil]
    simp only [capped, List.length_nil, Nat.add_zero]
    rw [if_neg (by omega)]
    simp
  | 0, c :: r, a, l, h, _ => by simp at h
  | m + 1, c :: r, a, l, h, hl => by
    have hn := nxt_n (c := c) (r := r)
    simp only [List.length_cons] at h
    rw [scanT_cons, un_cons]
    cases hx : nxt c r with
    | err e =>
      simp only [capped, List.length_nil, Nat.add_zero]
      rw [if_neg (by omega)]
    | skip n =>
      simp only [hx, Nx.n] at hn ⊢
      rw [scan_un m _ _ _ (by simp; omega) hl]
      congr 1
      simp; omega
    | tok k t n =>
      simp only [hx, Nx.n] at hn ⊢
      by_cases h4 : 400 ≤ l.length
      · rw [if_pos h4]
        unfold capped
        rw [if_pos (by simp; omega)]
      · rw [if_neg h4, scan_un m _ _ _ (by simp; omega) (by simp; omega)]
        unfold capped
        have e1 : (l ++ [(⟨k, t, a⟩ : Tok)]).length = l.length + 1 := by simp
        simp only [List.length_cons, List.length_drop]
        rw [e1]
        have e2 : a + n + (r.length + 1 - n) = a + (r.length + 1) := by omega
        rw [e2]
        have e3 : l.length + 1 + (un (List.drop n (c :: r)) (a + n)).1.length = l.length + ((un (List.drop n (c :: r)) (a + n)).1.length + 1) := by omega
        rw [e3]
        simp
theorem lexAll_un {s : List UInt8} (h : s.length ≤ 2000) : lexAll s = capped [] s.length (un s 0) := by
  rw [lexAll_eq (by omega), scan_un s.length s 0 [] (Nat.le_refl _) (by simp), Nat.zero_add]

def Tok.sh (d : Nat) (t : Tok) : Tok := { t with pos := t.pos + d }
theorem un_shift : ∀ (m : Nat) (s : List UInt8) (a d : Nat), s.length ≤ m → un s (a + d) = ((un s a).1.map (Tok.sh d), (un s a).2.map fun p => (p.1 + d, p.2))
  | m, [], a, d, _ => rfl
  | 0, c :: r, a, d, h => by simp at h
  | m + 1, c :: r, a, d, h => by
    have hn := nxt_n (c := c) (r := r)
    simp only [List.length_cons] at h
    rw [un_cons, un_cons]
    cases hx : nxt c r with
    | err e => rfl
    | skip n =>
      simp only [hx, Nx.n] at hn ⊢
      rw [show a + d + n = a + n + d by omega, un_shift m _ _ _ (by simp; omega)]
    | tok k t n =>
      simp only [hx, Nx.n] at hn ⊢
      rw [show a + d + n = a + n + d by omega, un_shift m _ _ _ (by simp; omega)]
      rfl
theorem runL_tw {s set : List UInt8} : runL s set = (s.takeWhile fun b => set.contains b).length := by
  have h := congrArg List.length (List.takeWhile_append_dropWhile (p := fun b => set.contains b) (l := s))
  rw [List.length_append] at h
  unfold runL; omega
theorem un_dw : ∀ (s : List UInt8) (a : Nat), un (s.dropWhile fun b => blanksL.contains b) (a + runL s blanksL) = un s a
  | [], a => rfl
  | c :: r, a => by
    by_cases hc : c ∈ blanksL
    · have hn : nxt c r = .skip (runL (c :: r) blanksL) := by unfold nxt; rw [if_pos hc]
      rw [un_cons (c := c) (r := r), hn]
      simp only
      rw [drop_run]
    · have h1 : blanksL.contains c = false := by simpa using hc
      have e1 : (c :: r).dropWhile (fun b => blanksL.contains b) = c :: r := by rw [List.dropWhile_cons, if_neg (by rw [h1]; simp)]
      have e2 : runL (c :: r) blanksL = 0 := by rw [runL_tw, List.takeWhile_cons, if_neg (by rw [h1]; simp)]; rfl
      rw [e1, e2]; rfl
theorem un_blank {c : UInt8} {r : List UInt8} {a : Nat} (hc : c ∈ blanksL) : un (c :: r) a = un r (a + 1) := by
  have h1 : blanksL.contains c = true := by simpa using hc
  rw [← un_dw (c :: r) a, ← un_dw r (a + 1)]
  have e1 : (c :: r).dropWhile (fun b => blanksL.contains b) = r.dropWhile (fun b => blanksL.contains b) := by rw [List.dropWhile_cons, if_pos h1]
  have e2 : runL (c :: r) blanksL = runL r blanksL + 1 := by rw [runL_tw, runL_tw, List.takeWhile_cons, if_pos h1]; rfl
  rw [e1, e2]
  congr 1
  omega
theorem tw_stop {p : UInt8 → Bool} {x : UInt8} (hx : p x = false) (t : List UInt8) : ∀ s : List UInt8, (s ++ x :: t).takeWhile p = s.takeWhile p
  | [] => by simp [List.takeWhile_cons, hx]
  | a :: s => by
    rw [List.cons_append, List.takeWhile_cons, List.takeWhile_cons]
    split
    · rw [tw_stop hx t s]
    · rfl
theorem qd_stop (t : List UInt8) : ∀ (m : Nat) (r acc : List UInt8) (n : Nat), r.length ≤ m → qd acc (r ++ 10 :: t) n = qd acc r n
  | m, [], acc, n, _ => by
    rw [List.nil_append, qd_cons, if_neg (by decide), if_pos (by decide), qd.eq_def]
  | 0, c :: r, acc, n, h => by simp at h
  | m + 1, c :: r, acc, n, h => by
    simp only [List.length_cons] at h
    rw [List.cons_append, qd_cons, qd_cons]
    split
    · rfl
    split
    · rfl
    split
    · cases r with
      | nil =>
        simp only [List.nil_append]
        have : esc 10 = none := rfl
        rw [this]
      | cons d r' =>
        simp only [List.cons_append, List.length_cons] at h ⊢
        cases esc d with
        | none => rfl
        | some x => exact qd_stop t m r' _ _ (by omega)
    · exact qd_stop t m r _ _ (by omega)
theorem run_stop {set s t : List UInt8} (h : set.contains (10 : UInt8) = false) : runL (s ++ 10 :: t) set = runL s set := by
  rw [runL_tw, runL_tw, tw_stop (p := fun b => set.contains b) h]
theorem nxt_stop {c : UInt8} {r t : List UInt8} (hc : c ∉ blanksL) : nxt c (r ++ 10 :: t) = nxt c r := by
  have e : ∀ set : List UInt8, set.contains (10 : UInt8) = false → runL (c :: (r ++ 10 :: t)) set = runL (c :: r) set := fun set h => by
    rw [← List.cons_append, run_stop h]
  have tk : ∀ n, n ≤ r.length + 1 → (c :: (r ++ 10 :: t)).take n = (c :: r).take n := fun n hn => by
    rw [← List.cons_append, List.take_append_of_le_length (by simpa using hn)]
  have hr : ∀ set, runL (c :: r) set ≤ r.length + 1 := fun set => by simpa using runL_le (s := c :: r) (set := set)
  unfold nxt
  rw [if_neg hc, if_neg hc, e wordsL (by decide), e digitsL (by decide), tk _ (hr _), tk _ (hr _), qd_stop t r.length r _ _ (Nat.le_refl _), ← List.cons_append, tw_stop (p := fun b => b != 10) (by decide)]
theorem un_join (t : List UInt8) : ∀ (m : Nat) (s : List UInt8) (a : Nat), s.length ≤ m → un (s ++ 10 :: t) a = match un s a with
    | (ts, some e) => (ts, some e)
    | (ts, none) => (ts ++ (un t (a + s.length + 1)).1, (un t (a + s.length + 1)).2)
  | m, [], a, _ => by
    rw [List.nil_append, un_blank (by decide), un_nil]
    simp
  | 0, c :: r, a, h => by simp at h
  | m + 1, c :: r, a, h => by
    simp only [List.length_cons] at h ⊢
    by_cases hc : c ∈ blanksL
    · rw [List.cons_append, un_blank hc, un_blank hc, un_join t m r _ (by omega)]
      rw [show a + 1 + r.length + 1 = a + (r.length + 1) + 1 by omega]
    · have hn := nxt_n (c := c) (r := r)
      rw [List.cons_append, un_cons, un_cons, nxt_stop hc]
      cases hx : nxt c r with
      | err e => rfl
      | skip n =>
        simp only [hx, Nx.n] at hn ⊢
        rw [← List.cons_append, List.drop_append_of_le_length (by simpa using hn.2), un_join t m _ _ (by simp; omega)]
        have : a + n + ((c :: r).drop n).length + 1 = a + (r.length + 1) + 1 := by simp; omega
        rw [this]
      | tok k x n =>
        simp only [hx, Nx.n] at hn ⊢
        rw [← List.cons_append, List.drop_append_of_le_length (by simpa using hn.2), un_join t m _ _ (by simp; omega)]
        have : a + n + ((c :: r).drop n).length + 1 = a + (r.length + 1) + 1 := by simp; omega
        rw [this]
        generalize un (List.drop n (c :: r)) (a + n) = u
        obtain ⟨u1, u2⟩ := u
        cases u2 <;> rfl
end Go.Proofs.YtcknfhhbijlobaaDoor.D
