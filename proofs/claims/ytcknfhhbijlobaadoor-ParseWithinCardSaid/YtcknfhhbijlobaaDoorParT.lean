/- What tokens look like; the parser's plain model, put together. -/
import Derived.Test.YtcknfhhbijlobaaDoorPar9
import Derived.Test.YtcknfhhbijlobaaDoorLex4
namespace Go.Proofs.YtcknfhhbijlobaaDoor.D
open Go
set_option linter.unusedVariables false
set_option linter.unusedSimpArgs false
set_option maxRecDepth 100000

theorem runL_take {s set : List UInt8} : s.take (runL s set) = s.takeWhile fun b => set.contains b := by
  have h : s = s.takeWhile (fun b => set.contains b) ++ s.dropWhile (fun b => set.contains b) := (List.takeWhile_append_dropWhile ..).symm
  have hl : runL s set = (s.takeWhile fun b => set.contains b).length := by
    have := congrArg List.length h
    rw [List.length_append] at this
    unfold runL; omega
  rw [hl, take_tw]
theorem tw_mem {α : Type} {p : α → Bool} : ∀ {s : List α} {b : α}, b ∈ s.takeWhile p → p b = true
  | [], b, h => by simp at h
  | a :: s, b, h => by
    rw [List.takeWhile_cons] at h
    split at h
    · rename_i ha
      rcases List.mem_cons.1 h with h | h
      · subst h; exact ha
      · exact tw_mem h
    · simp at h
instance (b : UInt8) : Decidable (isDig b) := by unfold isDig; exact inferInstance
theorem digits_dig : ∀ b ∈ digitsL, isDig b := by decide
def TG (t : Tok) : Prop := t.kind = 2 → (∀ b ∈ t.text, isDig b) ∧ 0 < t.text.length ∧ t.text.length ≤ 9
theorem nxt_tok {c : UInt8} {r : List UInt8} {k n a : Nat} {t : List UInt8} (h : nxt c r = .tok k t n) : k ≠ 0 ∧ TG ⟨k, t, a⟩ := by
  unfold nxt at h
  split at h
  · cases h
  · split at h
    · cases h
    · split at h
      · split at h
        · cases h
        · cases h; exact ⟨by decide, fun h => by cases h⟩
      · split at h
        · rename_i hd
          split at h
          · cases h
          · rename_i h9
            cases h
            refine ⟨by decide, fun _ => ⟨fun b hb => ?_, ?_, ?_⟩⟩
            · rw [runL_take] at hb
              have := tw_mem hb
              exact digits_dig b (by simpa using this)
            · have h1 := runL_pos (r := r) hd
              have h2 := runL_le (s := c :: r) (set := digitsL)
              simp only [List.length_take]; omega
            · simp only [List.length_take]; omega
        · split at h
          · split at h
            · cases h; exact ⟨by decide, fun h => by cases h⟩
            · cases h
          · split at h
            · cases h; exact ⟨by decide, fun h => by cases h⟩
            · cases h
theorem nxt_err {c : UInt8} {r : List UInt8} {e : Nat} (h : nxt c r = .err e) : e ≠ 0 := by
  unfold nxt at h
  repeat' split at h
  all_goals first | (cases h; done) | (cases h; decide)
theorem scan_tok : ∀ (f : Nat) (s : List UInt8) (a : Nat) (l ts : List Tok) (p : Nat), s.length < f → (∀ t ∈ l, TG t) → l.length ≤ 400 → scan f s a l = (ts, p, 0) → (∀ t ∈ ts, TG t) ∧ ts.length ≤ 401 ∧ p = 0 ∧ ∃ e, ts.getLast? = some e ∧ e.kind = 0
  | 0, s, a, l, ts, p, hf, _, _, _ => by omega
  | f + 1, [], a, l, ts, p, hf, hl, hn, h => by
    rw [scan] at h
    cases h
    refine ⟨fun t ht => ?_, by simp; omega, rfl, _, by simp; rfl, rfl⟩
    rcases List.mem_append.1 ht with ht | ht
    · exact hl t ht
    · simp at ht; subst ht; exact fun h => by cases h
  | f + 1, c :: r, a, l, ts, p, hf, hl, hn, h => by
    rw [scan] at h
    have hx := nxt_n (c := c) (r := r)
    simp only [List.length_cons] at hf
    cases hq : nxt c r with
    | skip n =>
      rw [hq] at h hx
      simp only [Nx.n] at h hx
      exact scan_tok f _ _ _ _ _ (by simp; omega) hl hn h
    | err e =>
      rw [hq] at h
      simp only [Prod.mk.injEq] at h
      exact absurd h.2.2 (nxt_err hq)
    | tok k t n =>
      rw [hq] at h hx
      simp only [Nx.n] at h hx
      split at h
      · simp at h
      · refine scan_tok f _ _ _ _ _ (by simp; omega) (fun u hu => ?_) (by simp; omega) h
        rcases List.mem_append.1 hu with hu | hu
        · exact hl u hu
        · simp at hu; subst hu; exact (nxt_tok hq).2
theorem lex_tok {s : List UInt8} {ts : List Tok} {p : Nat} (h : lexAll s = (ts, p, 0)) : TokOk ts ∧ p = 0 := by
  unfold lexAll at h
  split at h
  · simp at h
  · obtain ⟨h1, h2, h3, h4⟩ := scan_tok _ _ _ _ _ _ (Nat.lt_succ_self _) (by simp) (by simp) h
    exact ⟨⟨h4, h1, by omega⟩, h3⟩
theorem scan_bad : ∀ (f : Nat) (s : List UInt8) (a : Nat) (l ts : List Tok) (p e : Nat), scan f s a l = (ts, p, e) → e ≠ 0 → ts = []
  | 0, s, a, l, ts, p, e, h, he => by rw [scan] at h; cases h; rfl
  | f + 1, [], a, l, ts, p, e, h, he => by rw [scan] at h; cases h; exact absurd rfl he
  | f + 1, c :: r, a, l, ts, p, e, h, he => by
    rw [scan] at h
    split at h
    · exact scan_bad f _ _ _ _ _ _ h he
    · cases h; rfl
    · split at h
      · cases h; rfl
      · exact scan_bad f _ _ _ _ _ _ h he

/- The parser's plain model, put together. -/
def modeWord : List UInt8 := [109, 111, 100, 101]
def headP : List Tok → (Nat × List Tok) ⊕ Nat
  | [] => .inr 0
  | k :: r => if k.kind = 1 ∧ k.text = modeWord then (match r with
      | [] => .inr 0
      | k2 :: r2 => if k2.kind = 1 ∧ k2.text ∈ modeW then (match r2 with
          | [] => .inr 0
          | k3 :: r3 => if k3.kind = 4 ∧ k3.text = [59] then .inl (modeL k2.text, r3) else .inr k3.pos)
        else .inr k2.pos)
    else .inr k.pos
structure PR where
  mode : Nat
  R : List Stm
  top : List Nat
  at_ : Nat
  e : Nat
def finP (md : Nat) : PRes → PR
  | .ok R top => if 100 < R.length then ⟨0, [], [], 0, 4⟩ else ⟨md, R, top, 0, 0⟩
  | .bad p e => ⟨0, [], [], p, e⟩
def parseTs (ts : List Tok) : PR :=
  match headP ts with
  | .inr pos => ⟨0, [], [], pos, 20⟩
  | .inl (md, ts') => finP md (runP ⟨ts', [], [], []⟩)
def parseAll (src : List UInt8) : PR := if (lexAll src).2.2 = 0 then parseTs (lexAll src).1 else ⟨0, [], [], (lexAll src).2.1, (lexAll src).2.2⟩

/- Each step takes a token. -/
theorem wordsP_len : ∀ (w : List (List UInt8)) (no : Nat) (s : Stm) (to : Nat) (ts : List Tok), match wordsP w no s to ts with | .bad _ _ => True | .whole _ t => t.length ≤ ts.length | .opens _ t => t.length ≤ ts.length
  | [], no, s, to, ts => by simp [wordsP]
  | p :: w, no, s, to, [] => by simp [wordsP]
  | p :: w, no, s, to, k :: ts => by
    rw [wordsP]
    by_cases h1 : mustE p no k ≠ 0
    · rw [if_pos h1]; trivial
    · rw [if_neg h1]
      by_cases h2 : p = [123]
      · rw [if_pos h2]; simp
      · rw [if_neg h2]
        have := wordsP_len w no (putP p to s k.text) (if isText p then to + 1 else to) ts
        generalize wordsP w no (putP p to s k.text) (if isText p then to + 1 else to) ts = W at this
        cases W <;> simp at this ⊢ <;> omega
theorem stepP_len {st st' : PSt} (h : stepP st = .inl st') : st'.ts.length < st.ts.length := by
  unfold stepP at h
  obtain ⟨ts, R, top, os⟩ := st
  cases ts with
  | nil => cases h
  | cons k ts =>
    simp only at h
    have one : oneP ⟨k :: ts, R, top, os⟩ k ts = .inl st' → st'.ts.length < (k :: ts).length := by
      intro h
      unfold oneP at h
      split at h
      · cases h
      · rename_i kd hk
        have := wordsP_len (partsL.getD kd []) os.length ⟨kd, [], [], [], 0, k.pos, [], []⟩ (if kd = 2 then 1 else 0) ts
        simp only at h
        split at h
        · cases h
        · rename_i s ts' hw
          rw [hw] at this
          cases h
          simp [wholeP] at this ⊢; omega
        · rename_i s ts' hw
          rw [hw] at this
          cases h
          simp at this ⊢; omega
    have cl : ∀ f, closeP ⟨k :: ts, R, top, os⟩ f ts = .inl st' → st'.ts.length < (k :: ts).length := by
      intro f h
      unfold closeP at h
      split at h
      · split at h
        · split at h
          · cases h
          · cases h; simp; omega
        · cases h; simp [wholeP]
      · cases h; simp [wholeP]
    split at h
    · split at h
      · cases h
      · exact one h
    · split at h
      · exact cl _ h
      · exact one h
theorem goP_fuel : ∀ (n m : Nat) (st : PSt), st.ts.length < n → st.ts.length < m → goP n st = goP m st
  | 0, m, st, h, _ => by omega
  | n + 1, 0, st, _, h => by omega
  | n + 1, m + 1, st, h1, h2 => by
    rw [goP, goP]
    cases hs : stepP st with
    | inl st' =>
      have := stepP_len hs
      exact goP_fuel n m st' (by omega) (by omega)
    | inr r => rfl
theorem runP_step {st : PSt} : runP st = match stepP st with | .inl st' => runP st' | .inr r => r := by
  unfold runP
  rw [goP]
  cases hs : stepP st with
  | inl st' =>
    have := stepP_len hs
    exact goP_fuel _ _ _ (by omega) (by omega)
  | inr r => rfl

/- What holds along the way. -/
structure StOk (st : PSt) : Prop where
  tok : TokOk st.ts
  rl : st.R.length + st.ts.length ≤ 1000
  ol : st.os.length + st.ts.length ≤ 1000
  top : st.top.length ≤ st.R.length
  os : ∀ f ∈ st.os, f.s.l.length ≤ st.R.length ∧ f.s.m.length ≤ st.R.length
theorem StOk.bnd {st : PSt} (h : StOk st) : Bnd st.R st.top st.os := ⟨by have := h.rl; omega, h.top, h.os, by have := h.ol; omega⟩
theorem wordsP_ok : ∀ (w : List (List UInt8)) (no : Nat) (s : Stm) (to : Nat) (ts : List Tok), TokOk ts → match wordsP w no s to ts with | .bad _ _ => True | .whole u t => TokOk t ∧ t.length ≤ ts.length ∧ u.l = s.l ∧ u.m = s.m | .opens u t => TokOk t ∧ t.length ≤ ts.length ∧ u.l = s.l ∧ u.m = s.m
  | [], no, s, to, ts, h => by simp [wordsP, h]
  | p :: w, no, s, to, [], h => by simp [wordsP]
  | p :: w, no, s, to, k :: ts, h => by
    rw [wordsP]
    by_cases h1 : mustE p no k ≠ 0
    · rw [if_pos h1]; trivial
    · rw [if_neg h1]
      have ht := h.tail (mustE_kind (by simpa using h1))
      by_cases h2 : p = [123]
      · rw [if_pos h2]; exact ⟨ht, by simp, rfl, rfl⟩
      · rw [if_neg h2]
        have hlm : (putP p to s k.text).l = s.l ∧ (putP p to s k.text).m = s.m := by
          unfold putP
          split
          · split <;> exact ⟨rfl, rfl⟩
          · split <;> exact ⟨rfl, rfl⟩
        have := wordsP_ok w no (putP p to s k.text) (if isText p then to + 1 else to) ts ht
        rw [hlm.1, hlm.2] at this
        generalize wordsP w no (putP p to s k.text) (if isText p then to + 1 else to) ts = W at this
        cases W
        · trivial
        · exact ⟨this.1, by simp; omega, this.2.2⟩
        · exact ⟨this.1, by simp; omega, this.2.2⟩
theorem addOs_len (n : Nat) : ∀ os : List Fr, (addOs n os).length = os.length
  | [] => rfl
  | [f] => by simp only [addOs]; split <;> rfl
  | f :: g :: r => by simp only [addOs, List.length_cons]; rw [addOs_len n (g :: r)]; rfl
theorem addOs_bnd (n m : Nat) : ∀ os : List Fr, (∀ f ∈ os, f.s.l.length ≤ m ∧ f.s.m.length ≤ m) → ∀ f ∈ addOs n os, f.s.l.length ≤ m + 1 ∧ f.s.m.length ≤ m + 1
  | [], h, f, hf => by simp [addOs] at hf
  | [g], h, f, hf => by
    have := h g (by simp)
    simp only [addOs, List.mem_singleton] at hf
    subst hf
    split <;> simp <;> omega
  | g :: g2 :: r, h, f, hf => by
    simp only [addOs, List.mem_cons] at hf
    rcases hf with hf | hf
    · subst hf; have := h f (by simp); omega
    · exact addOs_bnd n m (g2 :: r) (fun x hx => h x (by simp at hx ⊢; exact .inr hx)) f hf
theorem whole_ok {st : PSt} {s : Stm} (h : TokOk st.ts) (rl : st.R.length + st.ts.length + 1 ≤ 1000) (ol : st.os.length + st.ts.length ≤ 1000) (top : st.top.length ≤ st.R.length) (os : ∀ f ∈ st.os, f.s.l.length ≤ st.R.length ∧ f.s.m.length ≤ st.R.length) : StOk (wholeP st s) where
  tok := h
  rl := by simp [wholeP]; omega
  ol := by simp only [wholeP, addOs_len]; exact ol
  top := by simp only [wholeP, List.length_append, List.length_cons, List.length_nil]; split <;> simp <;> omega
  os := fun f hf => by simp only [wholeP, List.length_append, List.length_cons, List.length_nil] at hf ⊢; exact addOs_bnd _ _ _ os f hf
theorem stepP_ok {st st' : PSt} (h : StOk st) (hs : stepP st = .inl st') : StOk st' := by
  obtain ⟨ts, R, top, os⟩ := st
  obtain ⟨h1, h2, h3, h4, h5⟩ := h
  simp only at h1 h2 h3 h4 h5
  unfold stepP at hs
  cases ts with
  | nil => cases hs
  | cons k ts =>
    simp only at hs
    simp only [List.length_cons] at h2 h3
    have one : oneP ⟨k :: ts, R, top, os⟩ k ts = .inl st' → StOk st' := by
      intro h
      by_cases hk1 : k.kind = 1
      · cases hkt : kindT k.text with
        | none => simp only [oneP, if_pos hk1, hkt] at h; cases h
        | some kd =>
          rw [oneP_eq hk1 hkt] at h
          have := wordsP_ok (partsL.getD kd []) os.length ⟨kd, [], [], [], 0, k.pos, [], []⟩ (if kd = 2 then 1 else 0) ts (h1.tail (by omega))
          generalize wordsP (partsL.getD kd []) os.length ⟨kd, [], [], [], 0, k.pos, [], []⟩ (if kd = 2 then 1 else 0) ts = W at this h
          cases W with
          | bad p e => cases h
          | whole s t =>
            cases h
            exact whole_ok this.1 (by simp only; omega) (by simp only; omega) h4 h5
          | opens s t =>
            cases h
            refine ⟨this.1, by simp only; omega, by simp; omega, h4, fun f hf => ?_⟩
            rcases List.mem_append.1 hf with hf | hf
            · exact h5 f hf
            · simp at hf; subst hf; simp [this.2.2.1, this.2.2.2]
      · simp only [oneP, if_neg hk1] at h; cases h
    split at hs
    · split at hs
      · cases hs
      · exact one hs
    · rename_i f hf
      split at hs
      · rename_i hcl
        have htk := h1.tail (by omega)
        have hdl : ∀ g ∈ os.dropLast, g ∈ os := fun g hg => List.dropLast_subset os hg
        have hfm : f ∈ os := List.mem_of_getLast? hf
        unfold closeP at hs
        split at hs
        · rename_i k1 k2 ts2
          split at hs
          · rename_i hc
            split at hs
            · cases hs
            · rename_i hm
              cases hs
              have ht2 := htk.tail (by rw [hc.2.2.1]; decide)
              have ht3 := ht2.tail (mustE_kind (by simpa using hm))
              have hc2 : (k1 :: k2 :: ts2).length = ts2.length + 2 := rfl
              have hol : 0 < os.length := by
                cases os with
                | nil => cases hfm
                | cons a l => simp
              refine ⟨ht3, by simp only; omega, by simp; omega, h4, fun g hg => ?_⟩
              rcases List.mem_append.1 hg with hg | hg
              · exact h5 g (hdl g hg)
              · simp at hg; subst hg; exact h5 f hfm
          · cases hs
            have hc2 : (k1 :: k2 :: ts2).length = ts2.length + 2 := rfl
            exact whole_ok htk (by simp only; omega) (by simp; omega) h4 fun g hg => h5 g (hdl g hg)
        · cases hs
          exact whole_ok htk (by simp only; omega) (by simp; omega) h4 fun g hg => h5 g (hdl g hg)
      · exact one hs

theorem wordsP_bad : ∀ (w : List (List UInt8)) (no : Nat) (s : Stm) (to : Nat) (ts : List Tok) (p e : Nat), TokOk ts → wordsP w no s to ts = .bad p e → e ≠ 0
  | [], no, s, to, ts, p, e, h, hw => by simp [wordsP] at hw
  | q :: w, no, s, to, [], p, e, h, hw => by obtain ⟨_, h1, _⟩ := h.last; simp at h1
  | q :: w, no, s, to, k :: ts, p, e, h, hw => by
    rw [wordsP] at hw
    by_cases h1 : mustE q no k ≠ 0
    · rw [if_pos h1] at hw; cases hw; exact h1
    · rw [if_neg h1] at hw
      by_cases h2 : q = [123]
      · rw [if_pos h2] at hw; cases hw
      · rw [if_neg h2] at hw
        exact wordsP_bad w no _ _ ts p e (h.tail (mustE_kind (by simpa using h1))) hw
theorem oneP_bad {st : PSt} {k : Tok} {ts : List Tok} {p e : Nat} (h : TokOk (k :: ts)) (ho : oneP st k ts = .inr (.bad p e)) : e ≠ 0 := by
  obtain ⟨ts0, R, top, os⟩ := st
  by_cases hk1 : k.kind = 1
  · cases hkt : kindT k.text with
    | none => simp only [oneP, if_pos hk1, hkt] at ho; cases ho; decide
    | some kd =>
      rw [oneP_eq hk1 hkt] at ho
      cases hw : wordsP (partsL.getD kd []) os.length ⟨kd, [], [], [], 0, k.pos, [], []⟩ (if kd = 2 then 1 else 0) ts with
      | bad p' e' =>
        rw [hw] at ho
        cases ho
        exact wordsP_bad _ _ _ _ _ _ _ (h.tail (by omega)) hw
      | whole s t => rw [hw] at ho; cases ho
      | opens s t => rw [hw] at ho; cases ho
  · simp only [oneP, if_neg hk1] at ho; cases ho; decide
theorem closeP_bad {st : PSt} {f : Fr} {ts : List Tok} {p e : Nat} (ho : closeP st f ts = .inr (.bad p e)) : e ≠ 0 := by
  unfold closeP at ho
  split at ho
  · split at ho
    · split at ho
      · rename_i h; cases ho; exact h
      · cases ho
    · cases ho
  · cases ho
theorem oneP_nok {st : PSt} {k : Tok} {ts : List Tok} {R : List Stm} {top : List Nat} : oneP st k ts ≠ .inr (.ok R top) := by
  intro h
  unfold oneP at h
  split at h
  · cases h
  · split at h <;> cases h
end Go.Proofs.YtcknfhhbijlobaaDoor.D
