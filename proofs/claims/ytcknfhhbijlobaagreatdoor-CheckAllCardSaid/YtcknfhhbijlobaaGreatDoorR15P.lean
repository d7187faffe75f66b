import Derived.Test.YtcknfhhbijlobaaGreatDoorR01
namespace Go.Proofs.YtcknfhhbijlobaaGreatDoor.D
open Go
set_option linter.unusedVariables false
set_option linter.unusedSimpArgs false
set_option maxRecDepth 100000
def ownF (f : Fr) : List Nat := if f.other = true then f.s.m else f.s.l
def setF (f : Fr) (l : List Nat) : Fr := if f.other = true then { f with s := { f.s with m := l } } else { f with s := { f.s with l := l } }
def oneRun (st : PSt) (k : Tok) (ts : List Tok) : PRes := match oneP st k ts with
 | .inl st' => runP st'
 | .inr r => r
def closeRun (st : PSt) (f : Fr) (ts : List Tok) : PRes := match closeP st f ts with
 | .inl st' => runP st'
 | .inr r => r
theorem setF_own (f : Fr) (l : List Nat) : ownF (setF f l) = l := by
 obtain ⟨s, o⟩ := f
 cases o <;> rfl
theorem setF_set (f : Fr) (l l' : List Nat) : setF (setF f l) l' = setF f l' := by
 obtain ⟨s, o⟩ := f
 cases o <;> rfl
theorem setF_same (f : Fr) : setF f (ownF f) = f := by
 obtain ⟨s, o⟩ := f
 cases o <;> rfl
theorem rin_one {k : Tok} {ts : List Tok} {R : List Stm} {top : List Nat} {os : List Fr} {f : Fr} :
  runP ⟨k :: ts, R, top, os ++ [f]⟩ = if k.kind = 4 ∧ k.text = [125] then closeRun ⟨k :: ts, R, top, os ++ [f]⟩ f ts else oneRun ⟨k :: ts, R, top, os ++ [f]⟩ k ts := by
 rw [runP_step]
 unfold stepP
 simp only [List.getLast?_append, List.getLast?_singleton, Option.some_or]
 by_cases h : k.kind = 4 ∧ k.text = [125]
 ·rw [if_pos h, if_pos h]; rfl
 ·rw [if_neg h, if_neg h]; rfl
theorem run_top {k : Tok} {ts : List Tok} {R : List Stm} {top : List Nat} :
  runP ⟨k :: ts, R, top, []⟩ = if k.kind = 0 then .ok R top else oneRun ⟨k :: ts, R, top, []⟩ k ts := by
 rw [runP_step]
 unfold stepP
 simp only [List.getLast?_nil]
 by_cases h : k.kind = 0
 ·rw [if_pos h, if_pos h]
 ·rw [if_neg h, if_neg h]; rfl
theorem whole_in {ts : List Tok} {R : List Stm} {top : List Nat} {os : List Fr} {f : Fr} {s : Stm} :
  wholeP ⟨ts, R, top, os ++ [f]⟩ s = ⟨ts, R ++ [s], top, os ++ [setF f (ownF f ++ [R.length])]⟩ := by
 unfold wholeP
 simp only [addOs_last]
 have he : (os ++ [f]).isEmpty = false := by cases os <;> rfl
 rw [he]
 obtain ⟨s, o⟩ := f
 cases o <;> rfl
theorem whole_top {ts : List Tok} {R : List Stm} {top : List Nat} {s : Stm} : wholeP ⟨ts, R, top, []⟩ s = ⟨ts, R ++ [s], top ++ [R.length], []⟩ := rfl
def OneBad (deep : Nat) (k : Tok) (r : List Tok) (R : List Stm) (pos e : Nat) : Prop := ∀ top os, os.length = deep → oneRun ⟨k :: r, R, top, os⟩ k r = .bad pos e
def OneOk (deep : Nat) (k : Tok) (r : List Tok) (R : List Stm) (ts' : List Tok) (R' : List Stm) (s : Stm) : Prop := ∀ top os, os.length = deep → oneRun ⟨k :: r, R, top, os⟩ k r = runP (wholeP ⟨ts', R', top, os⟩ s)
def BlkAt (deep : Nat) (ts : List Tok) (R : List Stm) (ts' : List Tok) (R' : List Stm) (out : List Nat) : Prop := ∀ top os f, os.length = deep → ownF f = [] → runP ⟨ts, R, top, os ++ [f]⟩ = runP ⟨ts', R', top, os ++ [setF f out]⟩
def BlkBad (deep : Nat) (ts : List Tok) (R : List Stm) (pos e : Nat) : Prop := ∀ top os f, os.length = deep → ownF f = [] → runP ⟨ts, R, top, os ++ [f]⟩ = .bad pos e
def BlkOk (deep : Nat) (ts : List Tok) (R : List Stm) (ts' : List Tok) (R' : List Stm) (out : List Nat) : Prop := ∃ k, k.kind = 4 ∧ k.text = [125] ∧ BlkAt deep ts R (k :: ts') R' out
theorem BlkAt.start {deep : Nat} {ts : List Tok} {R : List Stm} : BlkAt deep ts R ts R [] := fun top os f _ h => by rw [← h, setF_same]
theorem BlkAt.bad {deep : Nat} {ts r : List Tok} {R R' : List Stm} {out : List Nat} {k : Tok} {p e : Nat} (h : BlkAt deep ts R (k :: r) R' out) (hk : ¬ (k.kind = 4 ∧ k.text = [125])) (h1 : OneBad (deep + 1) k r R' p e) : BlkBad deep ts R p e := fun top os f hl hf => by
 rw [h top os f hl hf, rin_one, if_neg hk]
 exact h1 top _ (by simp [hl])
theorem BlkAt.next {deep : Nat} {ts r ts' : List Tok} {R R' R'' : List Stm} {out : List Nat} {k : Tok} {s : Stm} (h : BlkAt deep ts R (k :: r) R' out) (hk : ¬ (k.kind = 4 ∧ k.text = [125])) (h1 : OneOk (deep + 1) k r R' ts' R'' s) : BlkAt deep ts R ts' (R'' ++ [s]) (out ++ [R''.length]) := fun top os f hl hf => by
 rw [h top os f hl hf, rin_one, if_neg hk, h1 top _ (by simp [hl]), whole_in, setF_own, setF_set]
theorem one_none {deep : Nat} {k : Tok} {r : List Tok} {R : List Stm} (h : (if k.kind = 1 then kindT k.text else none) = none) : OneBad deep k r R k.pos 20 := fun top os hl => by
 unfold oneRun oneP
 rw [h]
theorem oneRun_kind {k : Tok} {r : List Tok} {R : List Stm} {top : List Nat} {os : List Fr} {kd : Nat} (h1 : k.kind = 1) (h2 : kindT k.text = some kd) :
  oneRun ⟨k :: r, R, top, os⟩ k r = match wordsP (partsL.getD kd []) os.length ⟨kd, [], [], [], 0, k.pos, [], []⟩ (if kd = 2 then 1 else 0) r with
   | .bad p e => .bad p e
   | .whole s ts' => runP (wholeP ⟨ts', R, top, os⟩ s)
   | .opens s ts' => runP ⟨ts', R, top, os ++ [⟨s, false⟩]⟩ := by
 unfold oneRun oneP
 rw [if_pos h1, h2]
 simp only
 generalize wordsP (partsL.getD kd []) os.length ⟨kd, [], [], [], 0, k.pos, [], []⟩ (if kd = 2 then 1 else 0) r = W
 cases W <;> rfl
def stm0 (kd : Nat) (k : Tok) : Stm := ⟨kd, [], [], [], 0, k.pos, [], []⟩
theorem one_wbad {deep : Nat} {k : Tok} {r : List Tok} {R : List Stm} {kd p e : Nat} (h1 : k.kind = 1) (h2 : kindT k.text = some kd) (h : wordsP (partsL.getD kd []) deep (stm0 kd k) (if kd = 2 then 1 else 0) r = .bad p e) : OneBad deep k r R p e := fun top os hl => by
 unfold stm0 at h
 rw [oneRun_kind h1 h2, hl, h]
theorem one_whole {deep : Nat} {k : Tok} {r ts' : List Tok} {R : List Stm} {kd : Nat} {s : Stm} (h1 : k.kind = 1) (h2 : kindT k.text = some kd) (h : wordsP (partsL.getD kd []) deep (stm0 kd k) (if kd = 2 then 1 else 0) r = .whole s ts') : OneOk deep k r R ts' R s := fun top os hl => by
 unfold stm0 at h
 rw [oneRun_kind h1 h2, hl, h]
theorem one_blk_bad {deep : Nat} {k : Tok} {r ts' : List Tok} {R : List Stm} {kd p e : Nat} {s : Stm} (h1 : k.kind = 1) (h2 : kindT k.text = some kd) (h : wordsP (partsL.getD kd []) deep (stm0 kd k) (if kd = 2 then 1 else 0) r = .opens s ts') (hs : s.l = []) (hb : BlkBad deep ts' R p e) : OneBad deep k r R p e := fun top os hl => by
 unfold stm0 at h
 rw [oneRun_kind h1 h2, hl, h]
 exact hb top os ⟨s, false⟩ hl hs
theorem close_no {k : Tok} {ts : List Tok} {R : List Stm} {top : List Nat} {os : List Fr} {f : Fr} (h : ¬ (f.s.kind = 5 ∧ f.other = false ∧ ∃ k2 r, ts = k2 :: r ∧ k2.kind = 1 ∧ k2.text = elseW)) :
  closeRun ⟨k :: ts, R, top, os ++ [f]⟩ f ts = runP (wholeP ⟨ts, R, top, os⟩ f.s) := by
 unfold closeRun closeP
 simp only [List.dropLast_concat]
 match ts with
 | [] => rfl
 | [_] => rfl
 | k1 :: k2 :: r =>
  simp only
  rw [if_neg]
  rintro ⟨a, b, c, d⟩
  exact h ⟨a, b, _, _, rfl, c, d⟩
theorem close_else {k k1 k2 : Tok} {ts : List Tok} {R : List Stm} {top : List Nat} {os : List Fr} {f : Fr} (h1 : f.s.kind = 5) (h2 : f.other = false) (h3 : k1.kind = 1) (h4 : k1.text = elseW) :
  closeRun ⟨k :: k1 :: k2 :: ts, R, top, os ++ [f]⟩ f (k1 :: k2 :: ts) = if mustE [123] os.length k2 ≠ 0 then .bad k2.pos (mustE [123] os.length k2) else runP ⟨ts, R, top, os ++ [{ f with other := true }]⟩ := by
 unfold closeRun closeP
 simp only [List.dropLast_concat]
 rw [if_pos ⟨h1, h2, h3, h4⟩]
 have : (os ++ [f]).length - 1 = os.length := by simp
 rw [this]
 by_cases h : mustE [123] os.length k2 ≠ 0
 ·rw [if_pos h, if_pos h]
 ·rw [if_neg h, if_neg h]
theorem one_blk {deep : Nat} {k : Tok} {r ts' ts2 : List Tok} {R R' : List Stm} {kd : Nat} {s : Stm} {out : List Nat} (h1 : k.kind = 1) (h2 : kindT k.text = some kd) (h : wordsP (partsL.getD kd []) deep (stm0 kd k) (if kd = 2 then 1 else 0) r = .opens s ts') (hs : s.l = []) (hb : BlkOk deep ts' R ts2 R' out)
  (hn : ¬ (s.kind = 5 ∧ ∃ k2 r, ts2 = k2 :: r ∧ k2.kind = 1 ∧ k2.text = elseW)) : OneOk deep k r R ts2 R' { s with l := out } := fun top os hl => by
 unfold stm0 at h
 obtain ⟨kc, hk1, hk2, hb⟩ := hb
 rw [oneRun_kind h1 h2, hl, h]
 simp only
 rw [hb top os ⟨s, false⟩ hl hs, rin_one, if_pos ⟨hk1, hk2⟩, close_no]
 ·rfl
 ·rintro ⟨a, _, b⟩
  exact hn ⟨a, b⟩
theorem one_else_bad {deep : Nat} {k k1 k2 : Tok} {r ts' ts2 : List Tok} {R R' : List Stm} {kd : Nat} {s : Stm} {out : List Nat} (h1 : k.kind = 1) (h2 : kindT k.text = some kd) (h : wordsP (partsL.getD kd []) deep (stm0 kd k) (if kd = 2 then 1 else 0) r = .opens s ts') (hs : s.l = []) (hb : BlkOk deep ts' R (k1 :: k2 :: ts2) R' out)
  (hk : s.kind = 5) (h3 : k1.kind = 1) (h4 : k1.text = elseW) (hm : mustE [123] deep k2 ≠ 0) : OneBad deep k r R k2.pos (mustE [123] deep k2) := fun top os hl => by
 unfold stm0 at h
 obtain ⟨kc, hk1, hk2, hb⟩ := hb
 rw [oneRun_kind h1 h2, hl, h]
 simp only
 rw [hb top os ⟨s, false⟩ hl hs, rin_one, if_pos ⟨hk1, hk2⟩, close_else (by exact hk) rfl h3 h4, hl, if_pos hm]
theorem one_else_bad2 {deep : Nat} {k k1 k2 : Tok} {r ts' ts2 : List Tok} {R R' : List Stm} {kd p e : Nat} {s : Stm} {out : List Nat} (h1 : k.kind = 1) (h2 : kindT k.text = some kd) (h : wordsP (partsL.getD kd []) deep (stm0 kd k) (if kd = 2 then 1 else 0) r = .opens s ts') (hs : s.l = []) (hb : BlkOk deep ts' R (k1 :: k2 :: ts2) R' out)
  (hk : s.kind = 5) (h3 : k1.kind = 1) (h4 : k1.text = elseW) (hm : mustE [123] deep k2 = 0) (hsm : s.m = []) (hb2 : BlkBad deep ts2 R' p e) : OneBad deep k r R p e := fun top os hl => by
 unfold stm0 at h
 obtain ⟨kc, hk1, hk2, hb⟩ := hb
 rw [oneRun_kind h1 h2, hl, h]
 simp only
 rw [hb top os ⟨s, false⟩ hl hs, rin_one, if_pos ⟨hk1, hk2⟩, close_else (by exact hk) rfl h3 h4, hl, if_neg (by omega)]
 exact hb2 top os ⟨{ s with l := out }, true⟩ hl hsm
theorem one_else {deep : Nat} {k k1 k2 : Tok} {r ts' ts2 ts3 : List Tok} {R R' R'' : List Stm} {kd : Nat} {s : Stm} {out out2 : List Nat} (h1 : k.kind = 1) (h2 : kindT k.text = some kd) (h : wordsP (partsL.getD kd []) deep (stm0 kd k) (if kd = 2 then 1 else 0) r = .opens s ts') (hs : s.l = []) (hb : BlkOk deep ts' R (k1 :: k2 :: ts2) R' out)
  (hk : s.kind = 5) (h3 : k1.kind = 1) (h4 : k1.text = elseW) (hm : mustE [123] deep k2 = 0) (hsm : s.m = []) (hb2 : BlkOk deep ts2 R' ts3 R'' out2) : OneOk deep k r R ts3 R'' { s with l := out, m := out2 } := fun top os hl => by
 unfold stm0 at h
 obtain ⟨kc, hk1, hk2, hb⟩ := hb
 obtain ⟨kd2, hk3, hk4, hb2⟩ := hb2
 rw [oneRun_kind h1 h2, hl, h]
 simp only
 rw [hb top os ⟨s, false⟩ hl hs, rin_one, if_pos ⟨hk1, hk2⟩, close_else (by exact hk) rfl h3 h4, hl, if_neg (by omega)]
 refine (hb2 top os ⟨{ s with l := out }, true⟩ hl hsm).trans ?_
 rw [rin_one, if_pos ⟨hk3, hk4⟩, close_no]
 ·rfl
 ·rintro ⟨_, a, _⟩
  cases a
def stW (kd pos : Nat) (ws : List (List UInt8)) (n : Nat) : Stm := if kd = 2 then ⟨kd, [], ws.getD 0 [], ws.getD 1 [], n, pos, [], []⟩ else ⟨kd, ws.getD 0 [], ws.getD 1 [], ws.getD 2 [], n, pos, [], []⟩
theorem stW_zero (kd : Nat) (k : Tok) : stW kd k.pos [] 0 = stm0 kd k := by
 unfold stW stm0
 split <;> rfl
theorem stW_text {kd pos n : Nat} {ws : List (List UInt8)} {p w : List UInt8} (hp : isText p) (hl : ws.length + (if kd = 2 then 1 else 0) ≤ 2) : putP p ((if kd = 2 then 1 else 0) + ws.length) (stW kd pos ws n) w = stW kd pos (ws ++ [w]) n := by
 unfold putP
 rw [if_pos hp]
 unfold stW
 by_cases h : kd = 2
 ·simp only [if_pos h] at hl ⊢
  match ws, hl with
  | [], _ => rfl
  | [a], _ => rfl
  | a :: b :: c, hl => simp at hl
 ·simp only [if_neg h] at hl ⊢
  match ws, hl with
  | [], _ => rfl
  | [a], _ => rfl
  | [a, b], _ => rfl
  | a :: b :: c :: d, hl => simp at hl
theorem stW_int {kd pos n to : Nat} {ws : List (List UInt8)} {w : List UInt8} : putP [105] to (stW kd pos ws n) w = stW kd pos ws (numD w) := by
 unfold putP
 rw [if_neg (by decide), if_pos rfl]
 unfold stW
 split <;> rfl
theorem stW_none {kd pos n to : Nat} {ws : List (List UInt8)} {p w : List UInt8} (h1 : ¬ isText p) (h2 : p ≠ [105]) : putP p to (stW kd pos ws n) w = stW kd pos ws n := by
 unfold putP
 rw [if_neg h1, if_neg h2]
end Go.Proofs.YtcknfhhbijlobaaGreatDoor.D
