import Derived.Test.YtcknfhhbijlobaaGreatDoorChS
import Derived.Test.YtcknfhhbijlobaaGreatDoorCh10
import Derived.Test.YtcknfhhbijlobaaGreatDoorMG
/- CheckCodes: the plain law. -/
namespace Go.Proofs.YtcknfhhbijlobaaGreatDoor.D
open Go
set_option linter.unusedVariables false
set_option linter.unusedSimpArgs false
set_option maxRecDepth 100000

def okP (c : UInt8) : Prop := 32 ≤ c.toNat ∧ c.toNat ≤ 126
theorem okP_okc {c : UInt8} (h : okP c) : okc c = true := by
  unfold okc; unfold okP at h; simp [h]
theorem quoteL_some {s : List UInt8} (h : ∀ c ∈ s, okP c) (hl : s.length ≤ 40) : ∃ q, quoteL s = some q ∧ q.length ≤ 202 := by
  have hall : s.all okc = true := List.all_eq_true.2 fun c hc => okP_okc (h c hc)
  refine ⟨[34] ++ s.flatMap enc1 ++ [34], ?_, ?_⟩
  · unfold quoteL
    rw [if_neg (by omega), qz_eq, if_pos hall]
  · have hlen : ∀ t : List UInt8, (t.flatMap enc1).length ≤ 2 * t.length := by
      intro t
      induction t with
      | nil => simp
      | cons c t ih =>
        rw [List.flatMap_cons, List.length_append, List.length_cons]
        have : (enc1 c).length ≤ 2 := by unfold enc1; split <;> simp
        omega
    have := hlen s
    rw [List.length_append, List.length_append]; simp only [List.length_cons, List.length_nil]; omega
def begL (w : List UInt8) : List UInt8 := [109, 111, 100, 101, 32] ++ w ++ [59]
def begT (w : List UInt8) : List Tok := [⟨1, modeWord, 0⟩, ⟨1, w, 5⟩, ⟨4, [59], 5 + w.length⟩]
theorem modeW_facts : ∀ w ∈ modeW, w ≠ [] ∧ w.head! ∈ smallL ∧ (∀ c ∈ w.tail, c ∈ wordsL) ∧ w.length ≤ 4 := by decide
theorem begL_len {w : List UInt8} : (begL w).length = 6 + w.length := by simp [begL]; omega
theorem un_beg {w x : List UInt8} (hw : w ∈ modeW) : un (begL w ++ x) 0 = (begT w ++ (un x (6 + w.length)).1, (un x (6 + w.length)).2) := by
  obtain ⟨h0, hn, hn2, hl⟩ := modeW_facts w hw
  have e : begL w ++ x = modeWord ++ 32 :: (w ++ 59 :: x) := by simp [begL, modeWord]
  rw [e, un_word (by decide) (by decide) (by decide) (by decide), un_space]
  have hname : un (w ++ 59 :: x) (0 + modeWord.length + 1) = push ⟨1, w, 0 + modeWord.length + 1⟩ (un (59 :: x) (0 + modeWord.length + 1 + w.length)) := by
    cases w with
    | nil => exact absurd rfl h0
    | cons c w => exact un_name hn hn2 (by simp at hl; omega) (by decide)
  rw [hname, un_sign (by decide)]
  have : 0 + modeWord.length + 1 + w.length + 1 = 6 + w.length := by simp [modeWord]; omega
  rw [this]
  rfl
theorem headP_beg {w : List UInt8} (hw : w ∈ modeW) (ts : List Tok) : headP (begT w ++ ts) = .inl (modeL w, ts) := by
  unfold headP begT
  simp [hw]
/-- The tokens of a text behind its first words are its own. -/
theorem parse_beg {w x : List UInt8} {l : List Tok} (hw : w ∈ modeW) (hl : x.length ≤ 1900) (hn : l.length ≤ 300) (h : un x (6 + w.length) = (l, none)) : parseAll (begL w ++ x) = finP (modeL w) (runP ⟨l ++ [⟨0, [], 6 + w.length + x.length⟩], [], [], []⟩) := by
  obtain ⟨_, _, _, hwl⟩ := modeW_facts w hw
  have hlen : (begL w ++ x).length = 6 + w.length + x.length := by rw [List.length_append, begL_len]
  have hlx := lexAll_un (s := begL w ++ x) (by omega)
  rw [un_beg hw, h] at hlx
  unfold capped at hlx
  have hb : (begT w).length = 3 := rfl
  rw [if_neg (by rw [List.length_append]; simp only [List.length_nil]; omega)] at hlx
  simp only [List.nil_append] at hlx
  rw [hlen] at hlx
  unfold parseAll
  rw [hlx]
  simp only [if_true]
  unfold parseTs
  rw [List.append_assoc, headP_beg hw]
def modeN (m : Nat) : List UInt8 := [[115, 109, 116, 112], [112, 111, 112, 51], [102, 116, 112]].getD m []
theorem modeN_facts : ∀ m, m < 3 → modeN m ∈ modeW ∧ modeL (modeN m) = m + 1 := by decide
def stT (k : Nat) (q : List UInt8) : List UInt8 := match k with
  | 0 => [103, 114, 101, 101, 116, 32] ++ q ++ [59]
  | 1 => [115, 101, 110, 100, 32, 34, 120, 34, 32] ++ q ++ [59]
  | _ => [105, 102, 32, 99, 111, 100, 101, 32] ++ q ++ [32, 123, 125]
def stS (k : Nat) (c : List UInt8) (P : Nat) : Stm := match k with
  | 0 => ⟨2, [], c, [], 0, P, [], []⟩
  | 1 => ⟨3, [120], c, [], 0, P, [], []⟩
  | _ => ⟨5, code4, c, [], 0, P, [], []⟩
theorem st_len {k : Nat} {q : List UInt8} : (stT k q).length ≤ q.length + 20 := by
  unfold stT
  split <;> simp
theorem st_parse {w c q : List UInt8} {k : Nat} (hw : w ∈ modeW) (hq : quoteL c = some q) (hl : q.length ≤ 202) : parseAll (begL w ++ stT k q) = ⟨modeL w, [stS k c (6 + w.length)], [0], 0, 0⟩ := by
  have hlen := st_len (k := k) (q := q)
  have hx : quoteL [120] = some [34, 120, 34] := by decide
  match k with
  | 0 =>
    have e : stT 0 q = [103, 114, 101, 101, 116] ++ 32 :: (q ++ 59 :: []) := by simp [stT]
    have hu : un (stT 0 q) (6 + w.length) = ([⟨1, [103, 114, 101, 101, 116], 6 + w.length⟩, ⟨3, c, 6 + w.length + 5 + 1⟩, ⟨4, [59], 6 + w.length + 5 + 1 + q.length⟩], none) := by
      rw [e, un_word (by decide) (by decide) (by decide) (by decide), un_space, un_quote hq, un_sign (by decide), un_nil]; rfl
    rw [parse_beg hw (by omega) (by simp only [List.length_cons, List.length_nil]; omega) hu]; rfl
  | 1 =>
    have e : stT 1 q = [115, 101, 110, 100] ++ 32 :: ([34, 120, 34] ++ 32 :: (q ++ 59 :: [])) := by simp [stT]
    have hu : un (stT 1 q) (6 + w.length) = ([⟨1, [115, 101, 110, 100], 6 + w.length⟩, ⟨3, [120], 6 + w.length + 4 + 1⟩, ⟨3, c, 6 + w.length + 4 + 1 + 3 + 1⟩, ⟨4, [59], 6 + w.length + 4 + 1 + 3 + 1 + q.length⟩], none) := by
      rw [e, un_word (by decide) (by decide) (by decide) (by decide), un_space, un_quote hx, un_space, un_quote hq, un_sign (by decide), un_nil]; rfl
    rw [parse_beg hw (by omega) (by simp only [List.length_cons, List.length_nil]; omega) hu]; rfl
  | k + 2 =>
    have e : stT (k + 2) q = [105, 102] ++ 32 :: ([99, 111, 100, 101] ++ 32 :: (q ++ 32 :: 123 :: 125 :: [])) := by simp [stT]
    have hu : un (stT (k + 2) q) (6 + w.length) = ([⟨1, [105, 102], 6 + w.length⟩, ⟨1, code4, 6 + w.length + 2 + 1⟩, ⟨3, c, 6 + w.length + 2 + 1 + 4 + 1⟩, ⟨4, [123], 6 + w.length + 2 + 1 + 4 + 1 + q.length + 1⟩, ⟨4, [125], 6 + w.length + 2 + 1 + 4 + 1 + q.length + 1 + 1⟩], none) := by
      rw [e, un_word (by decide) (by decide) (by decide) (by decide), un_space, un_word (by decide) (by decide) (by decide) (by decide), un_space, un_quote hq, un_space, un_sign (by decide), un_sign (by decide), un_nil]; rfl
    rw [parse_beg hw (by omega) (by simp only [List.length_cons, List.length_nil]; omega) hu]; rfl
theorem st_err {md k P : Nat} {c : List UInt8} {labels sets seen : List (List UInt8)} : errB md [stS k c P] labels sets seen (stS k c P) = if codesB md c = false then 34 else 0 := by
  have hn : namesL [120] = some [] := by rfl
  match k with
  | 0 =>
    have h : codesK md (stS 0 c P) = codesB md c := rfl
    unfold errB; rw [h]; rfl
  | 1 =>
    have h : codesK md (stS 1 c P) = codesB md c := rfl
    have h2 : knownB sets (stS 1 c P) = true := by
      show ([[120]] : List (List UInt8)).all (namesB sets) = true
      simp only [List.all_cons, List.all_nil, Bool.and_true]
      unfold namesB; rw [hn]; rfl
    unfold errB; rw [h, h2]; rfl
  | k + 2 =>
    have h : codesK md (stS (k + 2) c P) = codesB md c := by
      show (decide (code4 ≠ code4) || codesB md c) = codesB md c
      simp
    unfold errB; rw [h]; rfl
theorem st_check {w c q : List UInt8} {k : Nat} (hw : w ∈ modeW) (hq : quoteL c = some q) (hl : q.length ≤ 202) : (checkS (begL w ++ stT k q)).e = if codesB (modeL w) c = false then 34 else 0 := by
  unfold checkS checkR
  rw [st_parse hw hq hl]
  simp only [ne_eq, not_true_eq_false, if_false]
  unfold checkP
  rw [checkL, st_err]
  by_cases h : codesB (modeL w) c = false
  · rw [if_pos h]
    rfl
  · rw [if_neg h]
    rfl
end Go.Proofs.YtcknfhhbijlobaaGreatDoor.D
