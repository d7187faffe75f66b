import Derived.Test.YtcknfhhbijlobaaGreatDoorChQ
namespace Go.Proofs.YtcknfhhbijlobaaGreatDoor.D
open Go
set_option linter.unusedVariables false
set_option linter.unusedSimpArgs false
set_option maxRecDepth 100000
theorem qd_len : ∀ (m : Nat) (r acc : List UInt8) (n : Nat) (t : List UInt8) (k : Nat), r.length ≤ m → qd acc r n = some (t, k) → t.length ≤ 100
 | 0, [], acc, n, t, k, _, h => by rw [qd.eq_def] at h; cases h
 | m + 1, [], acc, n, t, k, _, h => by rw [qd.eq_def] at h; cases h
 | m + 1, c :: r, acc, n, t, k, hm, h => by
  rw [qd_cons] at h
  simp only [List.length_cons] at hm
  split at h
  ·split at h
   ·cases h; assumption
   ·cases h
  ·split at h
   ·cases h
   ·split at h
    ·cases r with
     | nil => cases h
     | cons d r' =>
      simp only at h
      split at h
      ·cases h
      ·simp only [List.length_cons] at hm
       exact qd_len m r' _ _ _ _ (by omega) h
    ·exact qd_len m r _ _ _ _ (by omega) h
theorem nxt_len {c : UInt8} {r : List UInt8} {k n : Nat} {t : List UInt8} (h : nxt c r = .tok k t n) : t.length ≤ 100 := by
 unfold nxt at h
 split at h
 ·cases h
 ·split at h
  ·cases h
  ·split at h
   ·split at h
    ·cases h
    ·cases h; rw [List.length_take]; omega
   ·split at h
    ·split at h
     ·cases h
     ·cases h; rw [List.length_take]; omega
    ·split at h
     ·split at h
      ·rename_i hq
       cases h; exact qd_len _ _ _ _ _ _ (Nat.le_refl _) hq
      ·cases h
     ·split at h
      ·cases h; simp
      ·cases h
def K100 (ts : List Tok) : Prop := ∀ k ∈ ts, k.text.length ≤ 100
theorem scan_len : ∀ (f : Nat) (s : List UInt8) (a : Nat) (l ts : List Tok) (p e : Nat), K100 l → scan f s a l = (ts, p, e) → K100 ts
 | 0, s, a, l, ts, p, e, hl, h => by rw [scan] at h; cases h; intro k hk; cases hk
 | f + 1, [], a, l, ts, p, e, hl, h => by
  rw [scan] at h
  cases h
  intro k hk
  rcases List.mem_append.1 hk with hk | hk
  ·exact hl k hk
  ·simp at hk; subst hk; simp
 | f + 1, c :: r, a, l, ts, p, e, hl, h => by
  rw [scan] at h
  cases hq : nxt c r with
  | skip n => rw [hq] at h; exact scan_len f _ _ _ _ _ _ hl h
  | err e' => rw [hq] at h; cases h; intro k hk; cases hk
  | tok k t n =>
   rw [hq] at h
   simp only at h
   split at h
   ·cases h; intro k hk; cases hk
   ·refine scan_len f _ _ _ _ _ _ (fun k' hk => ?_) h
    rcases List.mem_append.1 hk with hk | hk
    ·exact hl k' hk
    ·simp at hk; subst hk; exact nxt_len hq
theorem lex_len (s : List UInt8) : K100 (lexAll s).1 := by
 obtain ⟨⟨ts, p, e⟩, hq⟩ : ∃ q, lexAll s = q := ⟨_, rfl⟩
 rw [hq]
 unfold lexAll at hq
 split at hq
 ·cases hq; intro k hk; cases hk
 ·exact scan_len _ _ _ _ _ _ _ (fun k hk => by cases hk) hq
def T100 (s : Stm) : Prop := s.s.length ≤ 100 ∧ s.t.length ≤ 100 ∧ s.u.length ≤ 100
theorem putP_T {p : List UInt8} {to : Nat} {s : Stm} {w : List UInt8} (h : T100 s) (hw : w.length ≤ 100) : T100 (putP p to s w) := by
 obtain ⟨h1, h2, h3⟩ := h
 unfold putP
 split
 ·split
  ·exact ⟨hw, h2, h3⟩
  ·exact ⟨h1, hw, h3⟩
  ·exact ⟨h1, h2, hw⟩
 ·split
  ·exact ⟨h1, h2, h3⟩
  ·exact ⟨h1, h2, h3⟩
theorem wordsP_T : ∀ (w : List (List UInt8)) (no : Nat) (s : Stm) (to : Nat) (ts : List Tok), T100 s → K100 ts → match wordsP w no s to ts with | .bad _ _ => True | .whole u t => T100 u ∧ K100 t | .opens u t => T100 u ∧ K100 t
 | [], no, s, to, ts, hs, ht => by simp [wordsP, hs, ht]
 | p :: w, no, s, to, [], hs, ht => by simp [wordsP]
 | p :: w, no, s, to, k :: ts, hs, ht => by
  rw [wordsP]
  have ht' : K100 ts := fun x hx => ht x (by simp [hx])
  by_cases h1 : mustE p no k ≠ 0
  ·rw [if_pos h1]; trivial
  ·rw [if_neg h1]
   by_cases h2 : p = [123]
   ·rw [if_pos h2]; exact ⟨hs, ht'⟩
   ·rw [if_neg h2]
    exact wordsP_T w no _ _ ts (putP_T hs (ht k (by simp))) ht'
structure PT100 (st : PSt) : Prop where
 ts : K100 st.ts
 R : ∀ s ∈ st.R, T100 s
 os : ∀ f ∈ st.os, T100 f.s
theorem addOs_T {n : Nat} : ∀ {os : List Fr}, (∀ f ∈ os, T100 f.s) → ∀ f ∈ addOs n os, T100 f.s
 | [], h, f, hf => by simp [addOs] at hf
 | [g], h, f, hf => by
  simp only [addOs, List.mem_singleton] at hf
  subst hf
  have := h g (by simp)
  split <;> exact this
 | g :: g2 :: r, h, f, hf => by
  simp only [addOs, List.mem_cons] at hf
  rcases hf with rfl | hf
  ·exact h _ (by simp)
  ·exact addOs_T (os := g2 :: r) (fun x hx => h x (by simp [List.mem_cons.1 hx])) f (by simpa [List.mem_cons] using hf)
theorem wholeP_T {st : PSt} {s : Stm} (h : PT100 st) (hs : T100 s) : PT100 (wholeP st s) := by
 refine ⟨h.ts, fun x hx => ?_, addOs_T h.os⟩
 rcases List.mem_append.1 hx with hx | hx
 ·exact h.R x hx
 ·simp at hx; subst hx; exact hs
def Out100 : PSt ⊕ PRes → Prop
 | .inl st => PT100 st
 | .inr (.ok R _) => ∀ s ∈ R, T100 s
 | .inr (.bad _ _) => True
theorem oneP_T {st : PSt} {k : Tok} {ts : List Tok} (h : PT100 st) (ht : K100 ts) : Out100 (oneP st k ts) := by
 unfold oneP
 split
 ·trivial
 ·rename_i kd hk
  have := wordsP_T (partsL.getD kd []) st.os.length ⟨kd, [], [], [], 0, k.pos, [], []⟩ (if kd = 2 then 1 else 0) ts ⟨by simp, by simp, by simp⟩ ht
  split
  ·trivial
  ·rename_i s ts' hw
   rw [hw] at this
   exact wholeP_T ⟨this.2, h.R, h.os⟩ this.1
  ·rename_i s ts' hw
   rw [hw] at this
   refine ⟨this.2, h.R, fun f hf => ?_⟩
   rcases List.mem_append.1 hf with hf | hf
   ·exact h.os f hf
   ·simp at hf; subst hf; exact this.1
theorem closeP_T {st : PSt} {f : Fr} {ts : List Tok} (h : PT100 st) (ht : K100 ts) (hf : T100 f.s) : Out100 (closeP st f ts) := by
 have hd : ∀ g ∈ st.os.dropLast, T100 g.s := fun g hg => h.os g (List.dropLast_subset _ hg)
 unfold closeP
 split
 ·split
  ·split
   ·trivial
   ·refine ⟨fun x hx => ht x (by simp [hx]), h.R, fun g hg => ?_⟩
    rcases List.mem_append.1 hg with hg | hg
    ·exact hd g hg
    ·simp at hg; subst hg; exact hf
  ·exact wholeP_T ⟨ht, h.R, hd⟩ hf
 ·exact wholeP_T ⟨ht, h.R, hd⟩ hf
theorem stepP_T {st : PSt} (h : PT100 st) : Out100 (stepP st) := by
 unfold stepP
 obtain ⟨ts, R, top, os⟩ := st
 cases ts with
 | nil => trivial
 | cons k ts =>
  have ht : K100 ts := fun x hx => h.ts x (by simp [hx])
  simp only
  split
  ·split
   ·exact h.R
   ·exact oneP_T h ht
  ·rename_i f hl
   split
   ·exact closeP_T h ht (h.os f (List.mem_of_getLast? hl))
   ·exact oneP_T h ht
theorem goP_T : ∀ (n : Nat) (st : PSt), PT100 st → match goP n st with | .ok R _ => ∀ s ∈ R, T100 s | .bad _ _ => True
 | 0, st, h => trivial
 | n + 1, st, h => by
  rw [goP]
  have := stepP_T h
  cases hs : stepP st with
  | inl st' => rw [hs] at this; exact goP_T n st' this
  | inr r => rw [hs] at this; cases r <;> exact this
theorem parse_T (s : List UInt8) : ∀ x ∈ (parseAll s).R, T100 x := by
 have hl := lex_len s
 unfold parseAll
 split
 ·unfold parseTs
  generalize (lexAll s).1 = ts at hl
  cases hh : headP ts with
  | inr p => intro x hx; cases hx
  | inl q =>
   obtain ⟨md, ts'⟩ := q
   have ht : K100 ts' := by
    unfold headP at hh
    repeat' split at hh
    all_goals first | (cases hh; done) | (cases hh; exact fun x hx => hl x (by simp [hx]))
   simp only
   have := goP_T (ts'.length + 1) ⟨ts', [], [], []⟩ ⟨ht, (fun x hx => by cases hx), (fun x hx => by cases hx)⟩
   unfold runP
   cases hg : goP (ts'.length + 1) ⟨ts', [], [], []⟩ with
   | ok R top =>
    simp only [hg] at this
    intro x hx
    unfold finP at hx
    simp only at hx
    split at hx
    ·cases hx
    ·exact this x hx
   | bad p e => intro x hx; cases hx
 ·intro x hx; cases hx
theorem parse_fine (s : List UInt8) : FineR (parseAll s).R := by
 obtain ⟨n1, n2, n3⟩ := parse_lens s
 have ht := parse_T s
 refine ⟨by omega, fun x hx => ?_⟩
 obtain ⟨t1, t2, t3⟩ := ht x hx
 obtain ⟨m1, m2⟩ := n3 x hx
 refine ⟨fun n hn => ?_, by omega, by omega, by omega, by omega⟩
 by_cases he : (parseAll s).e = 0
 ·obtain ⟨hW, _⟩ := parse_within he
  obtain ⟨i, hi, hxi⟩ := List.mem_iff_getElem.1 hx
  have hown := hW.own i x (by rw [List.getElem?_eq_getElem hi, hxi]) n (by simp [hn])
  omega
 ·obtain ⟨_, h2, _⟩ := parse_none he
  rw [h2] at hx; cases hx
end Go.Proofs.YtcknfhhbijlobaaGreatDoor.D
