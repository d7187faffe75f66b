import Derived.Test.YtcknfhhbijlobaaDoorParF
import Derived.Test.YtcknfhhbijlobaaDoorPaMo
/- Scripts, one behind the other: in plain Lean. -/
namespace Go.Proofs.YtcknfhhbijlobaaDoor.D
open Go
set_option linter.unusedVariables false
set_option linter.unusedSimpArgs false
set_option maxRecDepth 100000

def shS (N d : Nat) (s : Stm) : Stm := { s with at_ := s.at_ + d, l := s.l.map (· + N), m := s.m.map (· + N) }
def shF (N d : Nat) (f : Fr) : Fr := { f with s := shS N d f.s }
def shP (R1 : List Stm) (T1 : List Nat) (d : Nat) (st : PSt) : PSt := ⟨st.ts.map (Tok.sh d), R1 ++ st.R.map (shS R1.length d), T1 ++ st.top.map (· + R1.length), st.os.map (shF R1.length d)⟩
theorem mustE_sh {p : List UInt8} {no d : Nat} {k : Tok} : mustE p no (Tok.sh d k) = mustE p no k := rfl
theorem putP_sh {N d : Nat} {p w : List UInt8} {to : Nat} {s : Stm} : putP p to (shS N d s) w = shS N d (putP p to s w) := by
  unfold putP
  split
  · split <;> rfl
  · split <;> rfl
theorem wordsP_sh (N d : Nat) : ∀ (w : List (List UInt8)) (no : Nat) (s : Stm) (to : Nat) (ts : List Tok), match wordsP w no s to ts with
    | .bad _ _ => True
    | .whole u t => wordsP w no (shS N d s) to (ts.map (Tok.sh d)) = .whole (shS N d u) (t.map (Tok.sh d))
    | .opens u t => wordsP w no (shS N d s) to (ts.map (Tok.sh d)) = .opens (shS N d u) (t.map (Tok.sh d))
  | [], no, s, to, ts => by simp [wordsP]
  | p :: w, no, s, to, [] => by simp [wordsP]
  | p :: w, no, s, to, k :: ts => by
    rw [List.map_cons, wordsP, wordsP, mustE_sh]
    by_cases h1 : mustE p no k ≠ 0
    · rw [if_pos h1]; trivial
    · rw [if_neg h1, if_neg h1]
      by_cases h2 : p = [123]
      · rw [if_pos h2, if_pos h2]
      · rw [if_neg h2, if_neg h2]
        have := wordsP_sh N d w no (putP p to s k.text) (if isText p then to + 1 else to) ts
        have e : putP p to (shS N d s) (Tok.sh d k).text = shS N d (putP p to s k.text) := putP_sh
        rw [e]
        exact this
theorem addOs_sh (N d n : Nat) : ∀ os : List Fr, (addOs n os).map (shF N d) = addOs (n + N) (os.map (shF N d))
  | [] => rfl
  | [f] => by
    simp only [addOs, List.map_cons, List.map_nil]
    cases hf : f.other
    · simp [shF, shS, hf]
    · simp [shF, shS, hf]
  | f :: g :: r => by
    have ih := addOs_sh N d n (g :: r)
    simp only [addOs, List.map_cons] at ih ⊢
    rw [ih]
theorem wholeP_sh {R1 : List Stm} {T1 : List Nat} {d : Nat} {st : PSt} {s : Stm} : wholeP (shP R1 T1 d st) (shS R1.length d s) = shP R1 T1 d (wholeP st s) := by
  obtain ⟨ts, R, top, os⟩ := st
  unfold wholeP shP
  have e : (R1 ++ R.map (shS R1.length d)).length = R.length + R1.length := by simp; omega
  simp only [e, addOs_sh, List.map_append, List.map_cons, List.map_nil, List.append_assoc, List.isEmpty_map]
  congr 1
  split
  · simp
  · rfl
theorem oneP_sh {R1 : List Stm} {T1 : List Nat} {d : Nat} {st st' : PSt} {k : Tok} {ts : List Tok} (h : oneP st k ts = .inl st') : oneP (shP R1 T1 d st) (Tok.sh d k) (ts.map (Tok.sh d)) = .inl (shP R1 T1 d st') := by
  unfold oneP at h ⊢
  have ek : (if (Tok.sh d k).kind = 1 then kindT (Tok.sh d k).text else none) = (if k.kind = 1 then kindT k.text else none) := rfl
  rw [ek]
  cases hk : (if k.kind = 1 then kindT k.text else none) with
  | none => rw [hk] at h; cases h
  | some kd =>
    rw [hk] at h
    simp only at h ⊢
    have el : (shP R1 T1 d st).os.length = st.os.length := by simp [shP]
    have hw := wordsP_sh R1.length d (partsL.getD kd []) st.os.length ⟨kd, [], [], [], 0, k.pos, [], []⟩ (if kd = 2 then 1 else 0) ts
    have es : shS R1.length d ⟨kd, [], [], [], 0, k.pos, [], []⟩ = ⟨kd, [], [], [], 0, (Tok.sh d k).pos, [], []⟩ := rfl
    rw [es] at hw
    rw [el]
    cases hx : wordsP (partsL.getD kd []) st.os.length ⟨kd, [], [], [], 0, k.pos, [], []⟩ (if kd = 2 then 1 else 0) ts with
    | bad p e => rw [hx] at h; cases h
    | whole u t =>
      rw [hx] at h hw
      simp only at h hw
      cases h
      rw [hw]
      simp only
      rw [← wholeP_sh]
      rfl
    | opens u t =>
      rw [hx] at h hw
      simp only at h hw
      cases h
      rw [hw]
      simp [shP, shF]
theorem closeP_sh {R1 : List Stm} {T1 : List Nat} {d : Nat} {st st' : PSt} {f : Fr} {ts : List Tok} (h : closeP st f ts = .inl st') : closeP (shP R1 T1 d st) (shF R1.length d f) (ts.map (Tok.sh d)) = .inl (shP R1 T1 d st') := by
  have whole : wholeP { shP R1 T1 d st with ts := ts.map (Tok.sh d), os := (shP R1 T1 d st).os.dropLast } (shF R1.length d f).s = shP R1 T1 d (wholeP { st with ts := ts, os := st.os.dropLast } f.s) := by
    rw [← wholeP_sh]
    simp [shP, shF, List.map_dropLast]
  match ts with
  | [] =>
    simp only [closeP, List.map_nil] at h ⊢
    cases h
    exact congrArg Sum.inl whole
  | [k] =>
    simp only [closeP, List.map_nil, List.map_cons] at h ⊢
    cases h
    exact congrArg Sum.inl whole
  | k :: k2 :: ts2 =>
    simp only [closeP, List.map_cons] at h ⊢
    by_cases hc : f.s.kind = 5 ∧ f.other = false ∧ k.kind = 1 ∧ k.text = elseW
    · rw [if_pos hc] at h
      rw [if_pos (show (shF R1.length d f).s.kind = 5 ∧ (shF R1.length d f).other = false ∧ (Tok.sh d k).kind = 1 ∧ (Tok.sh d k).text = elseW from hc)]
      have el : (shP R1 T1 d st).os.length = st.os.length := by simp [shP]
      rw [mustE_sh, el]
      by_cases hm : mustE [123] (st.os.length - 1) k2 ≠ 0
      · rw [if_pos hm] at h; cases h
      · rw [if_neg hm] at h ⊢
        cases h
        simp [shP, shF, List.map_dropLast]
    · rw [if_neg hc] at h
      rw [if_neg (show ¬ ((shF R1.length d f).s.kind = 5 ∧ (shF R1.length d f).other = false ∧ (Tok.sh d k).kind = 1 ∧ (Tok.sh d k).text = elseW) from hc)]
      cases h
      exact congrArg Sum.inl whole
theorem stepP_sh {R1 : List Stm} {T1 : List Nat} {d : Nat} {st st' : PSt} (h : stepP st = .inl st') : stepP (shP R1 T1 d st) = .inl (shP R1 T1 d st') := by
  obtain ⟨ts, R, top, os⟩ := st
  cases ts with
  | nil => simp [stepP] at h
  | cons k ts =>
    unfold stepP at h ⊢
    have et : (shP R1 T1 d ⟨k :: ts, R, top, os⟩).ts = Tok.sh d k :: ts.map (Tok.sh d) := rfl
    have eo : (shP R1 T1 d ⟨k :: ts, R, top, os⟩).os.getLast? = (os.getLast?).map (shF R1.length d) := by simp [shP, List.getLast?_map]
    rw [et, eo]
    simp only at h ⊢
    cases hl : os.getLast? with
    | none =>
      rw [hl] at h
      simp only [Option.map_none] at h ⊢
      by_cases hk : k.kind = 0
      · rw [if_pos hk] at h; cases h
      · rw [if_neg hk] at h
        rw [if_neg (show ¬ (Tok.sh d k).kind = 0 from hk)]
        exact oneP_sh h
    | some f =>
      rw [hl] at h
      simp only [Option.map_some] at h ⊢
      by_cases hc : k.kind = 4 ∧ k.text = [125]
      · rw [if_pos hc] at h; rw [if_pos (show (Tok.sh d k).kind = 4 ∧ (Tok.sh d k).text = [125] from hc)]; exact closeP_sh h
      · rw [if_neg hc] at h; rw [if_neg (show ¬ ((Tok.sh d k).kind = 4 ∧ (Tok.sh d k).text = [125]) from hc)]; exact oneP_sh h
theorem stepP_ok_inv {st : PSt} {R : List Stm} {T : List Nat} (h : stepP st = .inr (.ok R T)) : (∃ k ts, st.ts = k :: ts ∧ k.kind = 0) ∧ st.os = [] ∧ R = st.R ∧ T = st.top := by
  have h2 := step_ok_end h
  refine ⟨?_, h2⟩
  obtain ⟨ts, R', top, os⟩ := st
  simp only at h2
  obtain ⟨rfl, rfl, rfl⟩ := h2
  cases ts with
  | nil => simp [stepP] at h
  | cons k ts =>
    unfold stepP at h
    simp only [List.getLast?_nil] at h
    by_cases hk : k.kind = 0
    · exact ⟨k, ts, rfl, hk⟩
    · rw [if_neg hk] at h
      exact absurd h oneP_nok
theorem goP_sh {R1 : List Stm} {T1 : List Nat} {d : Nat} : ∀ (n : Nat) (st : PSt) (R : List Stm) (T : List Nat), goP n st = .ok R T → goP n (shP R1 T1 d st) = .ok (R1 ++ R.map (shS R1.length d)) (T1 ++ T.map (· + R1.length))
  | 0, st, R, T, h => by cases h
  | n + 1, st, R, T, h => by
    rw [goP] at h ⊢
    cases hs : stepP st with
    | inl st' =>
      rw [hs] at h
      rw [stepP_sh hs]
      exact goP_sh n st' R T h
    | inr r =>
      rw [hs] at h
      simp only at h
      subst h
      obtain ⟨⟨k, ts, h1, h2⟩, h3, rfl, rfl⟩ := stepP_ok_inv hs
      have : stepP (shP R1 T1 d st) = .inr (.ok (R1 ++ st.R.map (shS R1.length d)) (T1 ++ st.top.map (· + R1.length))) := by
        unfold stepP
        have et : (shP R1 T1 d st).ts = Tok.sh d k :: ts.map (Tok.sh d) := by simp [shP, h1]
        have eo : (shP R1 T1 d st).os = [] := by simp [shP, h3]
        rw [et]
        simp only [eo, List.getLast?_nil]
        rw [if_pos (show (Tok.sh d k).kind = 0 from h2)]
        rfl
      rw [this]
theorem runP_sh {R1 : List Stm} {T1 : List Nat} {d : Nat} {ts : List Tok} {R : List Stm} {T : List Nat} (h : runP ⟨ts, [], [], []⟩ = .ok R T) : runP ⟨ts.map (Tok.sh d), R1, T1, []⟩ = .ok (R1 ++ R.map (shS R1.length d)) (T1 ++ T.map (· + R1.length)) := by
  have := goP_sh (R1 := R1) (T1 := T1) (d := d) _ _ _ _ h
  unfold runP
  simpa [shP] using this
/- What stands ahead. -/
theorem wordsP_pre (e : Tok) (he : e.kind = 0) (X : List Tok) : ∀ (w : List (List UInt8)) (no : Nat) (s : Stm) (to : Nat) (ts : List Tok), (∀ t ∈ ts, t.kind ≠ 0) → match wordsP w no s to (ts ++ [e]) with
    | .bad _ _ => True
    | .whole u t => ∃ ts', t = ts' ++ [e] ∧ (∀ t ∈ ts', t.kind ≠ 0) ∧ wordsP w no s to (ts ++ X) = .whole u (ts' ++ X)
    | .opens u t => ∃ ts', t = ts' ++ [e] ∧ (∀ t ∈ ts', t.kind ≠ 0) ∧ wordsP w no s to (ts ++ X) = .opens u (ts' ++ X)
  | [], no, s, to, ts, h => by simp only [wordsP]; exact ⟨ts, rfl, h, rfl⟩
  | p :: w, no, s, to, [], h => by
    rw [List.nil_append, wordsP]
    by_cases h1 : mustE p no e ≠ 0
    · rw [if_pos h1]; trivial
    · exact absurd he (mustE_kind (by simpa using h1))
  | p :: w, no, s, to, k :: ts, h => by
    rw [List.cons_append, List.cons_append, wordsP, wordsP]
    have h' : ∀ t ∈ ts, t.kind ≠ 0 := fun t ht => h t (by simp [ht])
    by_cases h1 : mustE p no k ≠ 0
    · rw [if_pos h1]; trivial
    · rw [if_neg h1, if_neg h1]
      by_cases h2 : p = [123]
      · rw [if_pos h2, if_pos h2]
        exact ⟨ts, rfl, h', rfl⟩
      · rw [if_neg h2, if_neg h2]
        exact wordsP_pre e he X w no (putP p to s k.text) (if isText p then to + 1 else to) ts h'
theorem oneP_pre {e : Tok} (he : e.kind = 0) {X ts : List Tok} {k : Tok} {R : List Stm} {top : List Nat} {os : List Fr} {st' : PSt} (hts : ∀ t ∈ ts, t.kind ≠ 0) (h : oneP ⟨k :: (ts ++ [e]), R, top, os⟩ k (ts ++ [e]) = .inl st') :
    ∃ ts', st'.ts = ts' ++ [e] ∧ (∀ t ∈ ts', t.kind ≠ 0) ∧ oneP ⟨k :: (ts ++ X), R, top, os⟩ k (ts ++ X) = .inl { st' with ts := ts' ++ X } := by
  unfold oneP at h ⊢
  cases hk : (if k.kind = 1 then kindT k.text else none) with
  | none => rw [hk] at h; cases h
  | some kd =>
    rw [hk] at h
    simp only at h ⊢
    have hw := wordsP_pre e he X (partsL.getD kd []) os.length ⟨kd, [], [], [], 0, k.pos, [], []⟩ (if kd = 2 then 1 else 0) ts hts
    cases hx : wordsP (partsL.getD kd []) os.length ⟨kd, [], [], [], 0, k.pos, [], []⟩ (if kd = 2 then 1 else 0) (ts ++ [e]) with
    | bad p e => rw [hx] at h; cases h
    | whole u t =>
      rw [hx] at h hw
      simp only at h hw
      obtain ⟨ts', rfl, h1, h2⟩ := hw
      cases h
      rw [h2]
      exact ⟨ts', rfl, h1, rfl⟩
    | opens u t =>
      rw [hx] at h hw
      simp only at h hw
      obtain ⟨ts', rfl, h1, h2⟩ := hw
      cases h
      rw [h2]
      exact ⟨ts', rfl, h1, rfl⟩
theorem closeP_pre {e x : Tok} (he : e.kind = 0) {X ts : List Tok} {f : Fr} {k : Tok} {R : List Stm} {top : List Nat} {os : List Fr} {st' : PSt} (hx : x.kind = 1 → x.text ≠ elseW) (hts : ∀ t ∈ ts, t.kind ≠ 0) (h : closeP ⟨k :: (ts ++ [e]), R, top, os⟩ f (ts ++ [e]) = .inl st') :
    ∃ ts', st'.ts = ts' ++ [e] ∧ (∀ t ∈ ts', t.kind ≠ 0) ∧ closeP ⟨k :: (ts ++ x :: X), R, top, os⟩ f (ts ++ x :: X) = .inl { st' with ts := ts' ++ x :: X } := by
  match ts with
  | [] =>
    simp only [closeP, List.nil_append] at h ⊢
    cases h
    refine ⟨[], rfl, by simp, ?_⟩
    cases X with
    | nil => rfl
    | cons y X =>
      simp only
      rw [if_neg (fun hc => hx hc.2.2.1 hc.2.2.2)]
      rfl
  | [a] =>
    simp only [closeP, List.cons_append, List.nil_append] at h ⊢
    by_cases hc : f.s.kind = 5 ∧ f.other = false ∧ a.kind = 1 ∧ a.text = elseW
    · rw [if_pos hc] at h
      by_cases hm : mustE [123] (os.length - 1) e ≠ 0
      · rw [if_pos hm] at h; cases h
      · exact absurd he (mustE_kind (by simpa using hm))
    · rw [if_neg hc] at h ⊢
      cases h
      exact ⟨[a], rfl, hts, rfl⟩
  | a :: b :: ts =>
    simp only [closeP, List.cons_append] at h ⊢
    by_cases hc : f.s.kind = 5 ∧ f.other = false ∧ a.kind = 1 ∧ a.text = elseW
    · rw [if_pos hc] at h ⊢
      by_cases hm : mustE [123] (os.length - 1) b ≠ 0
      · rw [if_pos hm] at h; cases h
      · rw [if_neg hm] at h ⊢
        cases h
        exact ⟨ts, rfl, fun t ht => hts t (by simp [ht]), rfl⟩
    · rw [if_neg hc] at h ⊢
      cases h
      exact ⟨a :: b :: ts, rfl, hts, rfl⟩
theorem goP_pre {e x : Tok} (he : e.kind = 0) {X : List Tok} (hx : x.kind = 1 → x.text ≠ elseW) : ∀ (n : Nat) (ts : List Tok) (R : List Stm) (top : List Nat) (os : List Fr) (R1 : List Stm) (T1 : List Nat), (∀ t ∈ ts, t.kind ≠ 0) → goP n ⟨ts ++ [e], R, top, os⟩ = .ok R1 T1 → runP ⟨ts ++ x :: X, R, top, os⟩ = runP ⟨x :: X, R1, T1, []⟩
  | 0, ts, R, top, os, R1, T1, hts, h => by cases h
  | n + 1, ts, R, top, os, R1, T1, hts, h => by
    rw [goP] at h
    cases hs : stepP ⟨ts ++ [e], R, top, os⟩ with
    | inr r =>
      rw [hs] at h
      simp only at h
      subst h
      obtain ⟨⟨k, ts2, h1, h2⟩, h3, rfl, rfl⟩ := stepP_ok_inv hs
      simp only at h1 h3
      subst h3
      cases ts with
      | nil => rfl
      | cons a ts => simp at h1; obtain ⟨rfl, _⟩ := h1; exact absurd h2 (hts a (by simp))
    | inl st' =>
      rw [hs] at h
      simp only at h
      have hstep : ∃ ts', st'.ts = ts' ++ [e] ∧ (∀ t ∈ ts', t.kind ≠ 0) ∧ stepP ⟨ts ++ x :: X, R, top, os⟩ = .inl { st' with ts := ts' ++ x :: X } := by
        cases ts with
        | nil =>
          unfold stepP at hs
          simp only [List.nil_append] at hs
          cases hl : os.getLast? with
          | none =>
            rw [hl] at hs
            simp only at hs
            rw [if_pos he] at hs; cases hs
          | some f =>
            rw [hl] at hs
            simp only at hs
            rw [if_neg (by rw [he]; simp)] at hs
            unfold oneP at hs
            rw [if_neg (by rw [he]; decide)] at hs
            cases hs
        | cons k ts =>
          have hts' : ∀ t ∈ ts, t.kind ≠ 0 := fun t ht => hts t (by simp [ht])
          unfold stepP at hs ⊢
          simp only [List.cons_append] at hs ⊢
          cases hl : os.getLast? with
          | none =>
            rw [hl] at hs
            simp only at hs ⊢
            rw [if_neg (hts k (by simp))] at hs ⊢
            exact oneP_pre he hts' hs
          | some f =>
            rw [hl] at hs
            simp only at hs ⊢
            by_cases hc : k.kind = 4 ∧ k.text = [125]
            · rw [if_pos hc] at hs ⊢; exact closeP_pre he hx hts' hs
            · rw [if_neg hc] at hs ⊢; exact oneP_pre he hts' hs
      obtain ⟨ts', h1, h2, h3⟩ := hstep
      obtain ⟨ts0, R', top', os'⟩ := st'
      simp only at h1
      subst h1
      rw [runP_step, h3]
      exact goP_pre he hx n ts' R' top' os' R1 T1 h2 h
theorem un_kind : ∀ (m : Nat) (s : List UInt8) (a : Nat), s.length ≤ m → ∀ t ∈ (un s a).1, t.kind ≠ 0
  | m, [], a, _, t, ht => by rw [un_nil] at ht; cases ht
  | 0, c :: r, a, h, t, ht => by simp at h
  | m + 1, c :: r, a, h, t, ht => by
    have hn := nxt_n (c := c) (r := r)
    simp only [List.length_cons] at h
    rw [un_cons] at ht
    cases hx : nxt c r with
    | err e => rw [hx] at ht; cases ht
    | skip n =>
      rw [hx] at ht
      simp only [hx, Nx.n] at hn
      exact un_kind m _ _ (by simp; omega) t ht
    | tok k x n =>
      rw [hx] at ht
      simp only [hx, Nx.n] at hn
      rcases List.mem_cons.1 ht with rfl | ht
      · exact (nxt_tok (a := a) hx).1
      · exact un_kind m _ _ (by simp; omega) t ht
theorem un_err : ∀ (m : Nat) (s : List UInt8) (a : Nat) (p e : Nat), s.length ≤ m → (un s a).2 = some (p, e) → e ≠ 0
  | m, [], a, p, e, _, h => by rw [un_nil] at h; cases h
  | 0, c :: r, a, p, e, h, _ => by simp at h
  | m + 1, c :: r, a, p, e, hl, h => by
    have hn := nxt_n (c := c) (r := r)
    simp only [List.length_cons] at hl
    rw [un_cons] at h
    cases hx : nxt c r with
    | err e => rw [hx] at h; cases h; exact nxt_err hx
    | skip n =>
      rw [hx] at h
      simp only [hx, Nx.n] at hn
      exact un_err m _ _ _ _ (by simp; omega) h
    | tok k x n =>
      rw [hx] at h
      simp only [hx, Nx.n] at hn
      exact un_err m _ _ _ _ (by simp; omega) h
def begL (w : List UInt8) : List UInt8 := modeSp ++ w ++ [59]
def begT (w : List UInt8) : List Tok := [⟨1, modeWord, 0⟩, ⟨1, w, 5⟩, ⟨4, [59], 5 + w.length⟩]
theorem modeW_facts : ∀ w ∈ modeW, w ≠ [] ∧ w.head! ∈ smallL ∧ (∀ c ∈ w.tail, c ∈ wordsL) ∧ w.length ≤ 4 := by decide
theorem begL_len {w : List UInt8} : (begL w).length = 6 + w.length := by simp [begL, modeSp]; omega
theorem un_beg {w x : List UInt8} (hw : w ∈ modeW) : un (begL w ++ x) 0 = (begT w ++ (un x (6 + w.length)).1, (un x (6 + w.length)).2) := by
  obtain ⟨h0, hn, hn2, hl⟩ := modeW_facts w hw
  have e : begL w ++ x = modeWord ++ 32 :: (w ++ 59 :: x) := by simp [begL, modeSp, modeWord]
  rw [e, un_word (by decide) (by decide) (by decide) (by decide), un_space]
  have hname : un (w ++ 59 :: x) (0 + modeWord.length + 1) = push ⟨1, w, 0 + modeWord.length + 1⟩ (un (59 :: x) (0 + modeWord.length + 1 + w.length)) := by
    cases w with
    | nil => exact absurd rfl h0
    | cons c w => exact un_name hn hn2 (by simp at hl; omega) (by decide)
  rw [hname, un_sign (by decide)]
  have : 0 + modeWord.length + 1 + w.length + 1 = 6 + w.length := by simp [modeWord]; omega
  rw [this]
  rfl
theorem headP_beg {w : List UInt8} (hw : w ∈ modeW) (ts : List Tok) : headP (begT w ++ ts) = .inl (modeL w, ts) := by
  unfold headP begT
  simp [hw]
theorem parse_beg_ok {w x : List UInt8} (hw : w ∈ modeW) (hl : x.length ≤ 1900) (he : (parseAll (begL w ++ x)).e = 0) :
    ∃ R T, (un x (6 + w.length)).2 = none ∧ 3 + (un x (6 + w.length)).1.length ≤ 400 ∧ runP ⟨(un x (6 + w.length)).1 ++ [⟨0, [], (begL w ++ x).length⟩], [], [], []⟩ = .ok R T ∧ R.length ≤ 100 ∧ parseAll (begL w ++ x) = ⟨modeL w, R, T, 0, 0⟩ := by
  have hwl := (modeW_facts w hw).2.2.2
  have hL : (begL w ++ x).length ≤ 2000 := by rw [List.length_append, begL_len]; omega
  have hlx := lexAll_un hL
  rw [un_beg hw] at hlx
  have hpa : parseAll (begL w ++ x) = if (lexAll (begL w ++ x)).2.2 = 0 then parseTs (lexAll (begL w ++ x)).1 else ⟨0, [], [], (lexAll (begL w ++ x)).2.1, (lexAll (begL w ++ x)).2.2⟩ := rfl
  generalize hu : un x (6 + w.length) = u at hlx
  obtain ⟨u1, u2⟩ := u
  unfold capped at hlx
  by_cases h4 : 400 < ([] : List Tok).length + (begT w ++ u1).length
  · rw [if_pos h4] at hlx
    rw [hlx] at hpa
    rw [hpa] at he
    cases he
  rw [if_neg h4] at hlx
  cases u2 with
  | some pe =>
    obtain ⟨p, e⟩ := pe
    simp only at hlx
    have hne := un_err _ _ _ p e (Nat.le_refl _) (by rw [hu])
    rw [hlx] at hpa
    simp only [if_neg hne] at hpa
    rw [hpa] at he
    exact absurd he hne
  | none =>
    simp only [List.nil_append] at hlx
    rw [hlx] at hpa
    simp only [if_true] at hpa
    unfold parseTs at hpa
    rw [List.append_assoc, headP_beg hw] at hpa
    simp only at hpa
    have ht := (lex_tok hlx).1
    rw [List.append_assoc] at ht
    have ht' := headP_tok ht (headP_beg hw _)
    cases hr : runP ⟨u1 ++ [⟨0, [], (begL w ++ x).length⟩], [], [], []⟩ with
    | bad p e =>
      rw [hr] at hpa
      rw [hpa] at he
      exact absurd he (goP_bad _ _ _ _ (StOk.start ht') (Nat.lt_succ_self _) hr)
    | ok R T =>
      rw [hr] at hpa
      unfold finP at hpa
      by_cases h100 : 100 < R.length
      · simp only [if_pos h100] at hpa
        rw [hpa] at he; cases he
      · simp only [if_neg h100] at hpa
        refine ⟨R, T, rfl, ?_, rfl, by omega, hpa⟩
        show 3 + u1.length ≤ 400
        rw [List.length_append] at h4
        have : (begT w).length = 3 := rfl
        simp only [List.length_nil] at h4
        omega
theorem no_else {ts : List Tok} {k : Tok} {R : List Stm} {T : List Nat} (h : runP ⟨k :: ts, [], [], []⟩ = .ok R T) : k.kind = 1 → k.text ≠ elseW := by
  intro hk he
  rw [runP_step] at h
  have : stepP ⟨k :: ts, [], [], []⟩ = .inr (.bad k.pos 20) := by
    unfold stepP
    simp only [List.getLast?_nil]
    rw [if_neg (by omega)]
    unfold oneP
    rw [if_pos hk, he]
    rfl
  rw [this] at h
  cases h
theorem joins {w s t : List UInt8} (hw : w ∈ modeW) (hs : s.length ≤ 900) (ht : t.length ≤ 900) (he : (parseAll (begL w ++ s)).e = 0) (hf : (parseAll (begL w ++ t)).e = 0) :
    ((parseAll (begL w ++ (s ++ 10 :: t))).e = 4 ∧ ((lexAll (begL w ++ (s ++ 10 :: t))).1 = [] ∨ 100 < (parseAll (begL w ++ s)).R.length + (parseAll (begL w ++ t)).R.length)) ∨
    ((parseAll (begL w ++ (s ++ 10 :: t))).e = 0 ∧ (parseAll (begL w ++ (s ++ 10 :: t))).R = (parseAll (begL w ++ s)).R ++ (parseAll (begL w ++ t)).R.map (shS (parseAll (begL w ++ s)).R.length (s.length + 1)) ∧ (parseAll (begL w ++ (s ++ 10 :: t))).top = (parseAll (begL w ++ s)).top ++ (parseAll (begL w ++ t)).top.map (· + (parseAll (begL w ++ s)).R.length)) := by
  obtain ⟨R1, T1, hs1, hs2, hs3, hs4, hs5⟩ := parse_beg_ok hw (by omega) he
  obtain ⟨R2, T2, ht1, ht2, ht3, ht4, ht5⟩ := parse_beg_ok hw (by omega) hf
  rw [hs5, ht5]
  have hwl := (modeW_facts w hw).2.2.2
  have hL : (begL w ++ (s ++ 10 :: t)).length ≤ 2000 := by rw [List.length_append, List.length_append, List.length_cons, begL_len]; omega
  have hlx := lexAll_un hL
  rw [un_beg hw, un_join t s.length s _ (Nat.le_refl _)] at hlx
  have hk1 := un_kind s.length s (6 + w.length) (Nat.le_refl _)
  have hsh := un_shift t.length t (6 + w.length) (s.length + 1) (Nat.le_refl _)
  rw [show 6 + w.length + (s.length + 1) = 6 + w.length + s.length + 1 by omega] at hsh
  rw [hsh] at hlx
  generalize hus : un s (6 + w.length) = us at *
  generalize hut : un t (6 + w.length) = ut at *
  obtain ⟨us1, us2⟩ := us
  obtain ⟨ut1, ut2⟩ := ut
  simp only at hs1 hs2 hs3 ht1 ht2 ht3 hlx hk1
  subst hs1 ht1
  simp only [Option.map_none] at hlx
  have hpa : parseAll (begL w ++ (s ++ 10 :: t)) = if (lexAll (begL w ++ (s ++ 10 :: t))).2.2 = 0 then parseTs (lexAll (begL w ++ (s ++ 10 :: t))).1 else ⟨0, [], [], (lexAll (begL w ++ (s ++ 10 :: t))).2.1, (lexAll (begL w ++ (s ++ 10 :: t))).2.2⟩ := rfl
  unfold capped at hlx
  by_cases h4 : 400 < ([] : List Tok).length + (begT w ++ (us1 ++ ut1.map (Tok.sh (s.length + 1)))).length
  · rw [if_pos h4] at hlx
    rw [hlx] at hpa ⊢
    rw [hpa]
    exact .inl ⟨rfl, .inl rfl⟩
  rw [if_neg h4] at hlx
  simp only [List.nil_append] at hlx
  rw [hlx] at hpa ⊢
  simp only [if_true] at hpa
  unfold parseTs at hpa
  rw [List.append_assoc, headP_beg hw] at hpa
  simp only at hpa
  have hX : us1 ++ ut1.map (Tok.sh (s.length + 1)) ++ [⟨0, [], (begL w ++ (s ++ 10 :: t)).length⟩] = us1 ++ (ut1 ++ [(⟨0, [], (begL w ++ t).length⟩ : Tok)]).map (Tok.sh (s.length + 1)) := by
    rw [List.map_append, List.append_assoc]
    congr 2
    simp only [List.map_cons, List.map_nil, Tok.sh, List.length_append, List.length_cons]
    congr 2
    omega
  rw [hX] at hpa
  obtain ⟨x, X, hxX⟩ : ∃ x X, ut1 ++ [(⟨0, [], (begL w ++ t).length⟩ : Tok)] = x :: X := by
    cases ut1 with
    | nil => exact ⟨_, _, rfl⟩
    | cons a l => exact ⟨_, _, rfl⟩
  have hrun2 := runP_sh (R1 := R1) (T1 := T1) (d := s.length + 1) ht3
  rw [hxX] at hpa ht3 hrun2
  have hel := no_else ht3
  have hpre := goP_pre (e := ⟨0, [], (begL w ++ s).length⟩) rfl (x := Tok.sh (s.length + 1) x) (X := X.map (Tok.sh (s.length + 1))) hel _ us1 [] [] [] R1 T1 hk1 hs3
  rw [List.map_cons] at hpa hrun2
  rw [hpre, hrun2] at hpa
  unfold finP at hpa
  simp only at hpa
  have hlen : (R1 ++ R2.map (shS R1.length (s.length + 1))).length = R1.length + R2.length := by simp
  by_cases h100 : 100 < (R1 ++ R2.map (shS R1.length (s.length + 1))).length
  · rw [if_pos h100] at hpa
    rw [hpa]
    exact .inl ⟨rfl, .inr (by simp only; omega)⟩
  · rw [if_neg h100] at hpa
    rw [hpa]
    exact .inr ⟨rfl, rfl, rfl⟩
end Go.Proofs.YtcknfhhbijlobaaDoor.D
