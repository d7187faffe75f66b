import Derived.Test.YtcknfhhbijlobaaDoorPaS
/- ParseShapes: the plain law. -/
namespace Go.Proofs.YtcknfhhbijlobaaDoor.D
open Go
set_option linter.unusedVariables false
set_option linter.unusedSimpArgs false
set_option maxRecDepth 100000

def nameW : List UInt8 := [110, 97, 109, 101]
def codeW : List UInt8 := [99, 111, 100, 101]
def partX (q1 q2 d p : List UInt8) (tx : Nat) : List UInt8 :=
  if p = [110] then nameW else if p = [119] then codeW else if p = [105] then d else if p = [116] then (if 0 < tx then q2 else q1) else if p = [123] then [123, 32, 125] else p
def srcW (q1 q2 d : List UInt8) : List (List UInt8) → Nat → List UInt8
  | [], _ => []
  | p :: r, tx => 32 :: (partX q1 q2 d p tx ++ srcW q1 q2 d r (if p = [116] then tx + 1 else tx))
def wordsS (k : Nat) : List (List UInt8) := headsL.getD k [] :: partsL.getD k []
theorem shapes_wrd : ∀ k, k < 18 → 0 < k → wrd [] (shapeL k) = wordsS k := by decide
def ftpB : List UInt8 := [109, 111, 100, 101, 32, 102, 116, 112, 59]
def stmK (k : Nat) (a b : List UInt8) (n : Nat) : Stm :=
  match k with
  | 1 => ⟨1, nameW, a, [], 0, 10, [], []⟩
  | 2 => ⟨2, [], a, [], 0, 10, [], []⟩
  | 3 => ⟨3, a, b, [], 0, 10, [], []⟩
  | 4 => ⟨4, a, b, [], 0, 10, [], []⟩
  | 5 => ⟨5, codeW, a, [], 0, 10, [], []⟩
  | 6 => ⟨6, [], [], [], n, 10, [], []⟩
  | 7 => ⟨7, nameW, a, b, 0, 10, [], []⟩
  | 8 => ⟨8, a, b, [], 0, 10, [], []⟩
  | 9 => ⟨9, nameW, a, b, 0, 10, [], []⟩
  | 10 => ⟨10, nameW, a, [], 0, 10, [], []⟩
  | 11 => ⟨11, a, b, [], 0, 10, [], []⟩
  | 12 => ⟨12, [], [], [], n, 10, [], []⟩
  | 13 => ⟨13, nameW, [], [], 0, 10, [], []⟩
  | 14 => ⟨14, nameW, [], [], 0, 10, [], []⟩
  | 15 => ⟨15, nameW, [], [], 0, 10, [], []⟩
  | 16 => ⟨16, a, [], [], 0, 10, [], []⟩
  | 17 => ⟨17, [], [], [], 0, 10, [], []⟩
  | _ => ⟨0, [], [], [], 0, 0, [], []⟩
theorem ftp_beg : ftpB = begL [102, 116, 112] := rfl
/-- The tokens of a text behind its first words are its own. -/
theorem parse_toks {x : List UInt8} {l : List Tok} (hl : x.length ≤ 1900) (hn : l.length ≤ 300) (h : un x 9 = (l, none)) : parseAll (ftpB ++ x) = finP 3 (runP ⟨l ++ [⟨0, [], 9 + x.length⟩], [], [], []⟩) := by
  have hL : (ftpB ++ x).length ≤ 2000 := by rw [List.length_append]; have : ftpB.length = 9 := rfl; omega
  have hlx := lexAll_un hL
  rw [ftp_beg, un_beg (by decide)] at hlx
  have h9 : 6 + ([102, 116, 112] : List UInt8).length = 9 := rfl
  rw [h9, h] at hlx
  have hlen : (begL [102, 116, 112] ++ x).length = 9 + x.length := by rw [List.length_append, begL_len]; rfl
  unfold capped at hlx
  have hb : (begT [102, 116, 112]).length = 3 := rfl
  rw [if_neg (by rw [List.length_append]; simp only [List.length_nil]; omega)] at hlx
  simp only [List.nil_append] at hlx
  rw [hlen] at hlx
  rw [ftp_beg]
  unfold parseAll
  rw [hlx]
  simp only [if_true]
  unfold parseTs
  rw [List.append_assoc, headP_beg (by decide)]
  rfl
def tokX (a b d p : List UInt8) (tx P : Nat) : Tok :=
  if p = [110] then ⟨1, nameW, P⟩ else if p = [119] then ⟨1, codeW, P⟩ else if p = [105] then ⟨2, d, P⟩ else if p = [116] then ⟨3, if 0 < tx then b else a, P⟩ else if p = [61] then ⟨4, [61], P⟩ else ⟨1, p, P⟩
def toksW (a b q1 q2 d : List UInt8) : List (List UInt8) → Nat → Nat → List Tok
  | [], _, _ => []
  | p :: r, tx, P => tokX a b d p tx (P + 1) :: toksW a b q1 q2 d r (if p = [116] then tx + 1 else tx) (P + 1 + (partX q1 q2 d p tx).length)
def goodW (p : List UInt8) : Prop := p = [110] ∨ p = [119] ∨ p = [105] ∨ p = [116] ∨ p = [61] ∨ (p ≠ [123] ∧ p ≠ [] ∧ (∀ c ∈ p, c ∈ smallL) ∧ p.length ≤ 12)
instance (p : List UInt8) : Decidable (goodW p) := by unfold goodW; exact inferInstance
theorem sp_words : (32 : UInt8) ∉ wordsL := by decide
theorem sp_digits : (32 : UInt8) ∉ digitsL := by decide
theorem un_part {a b q1 q2 d p y : List UInt8} {tx P : Nat} (h1 : quoteL a = some q1) (h2 : quoteL b = some q2) (hd : d ≠ []) (hdd : ∀ c ∈ d, c ∈ digitsL) (hl : d.length ≤ 9) (hp : goodW p) :
    un (partX q1 q2 d p tx ++ 32 :: y) P = push (tokX a b d p tx P) (un (32 :: y) (P + (partX q1 q2 d p tx).length)) := by
  unfold partX tokX
  by_cases e1 : p = [110]
  · rw [if_pos e1, if_pos e1]; exact un_word (by decide) (by decide) (by decide) sp_words
  rw [if_neg e1, if_neg e1]
  by_cases e2 : p = [119]
  · rw [if_pos e2, if_pos e2]; exact un_word (by decide) (by decide) (by decide) sp_words
  rw [if_neg e2, if_neg e2]
  by_cases e3 : p = [105]
  · rw [if_pos e3, if_pos e3]; exact un_digits hd hdd hl sp_digits
  rw [if_neg e3, if_neg e3]
  by_cases e4 : p = [116]
  · rw [if_pos e4, if_pos e4]
    by_cases ht : 0 < tx
    · rw [if_pos ht, if_pos ht]; exact un_quote h2
    · rw [if_neg ht, if_neg ht]; exact un_quote h1
  rw [if_neg e4, if_neg e4]
  by_cases e5 : p = [61]
  · subst e5
    rw [if_neg (by decide), if_pos rfl]
    exact un_sign (by decide)
  rw [if_neg e5]
  unfold goodW at hp
  simp only [e1, e2, e3, e4, e5, false_or] at hp
  rw [if_neg hp.1]
  exact un_word hp.2.1 hp.2.2.1 hp.2.2.2 sp_words
theorem un_srcW {a b q1 q2 d : List UInt8} (h1 : quoteL a = some q1) (h2 : quoteL b = some q2) (hd : d ≠ []) (hdd : ∀ c ∈ d, c ∈ digitsL) (hl : d.length ≤ 9) (y : List UInt8) : ∀ (ws : List (List UInt8)) (tx P : Nat), (∀ p ∈ ws, goodW p) →
    un (srcW q1 q2 d ws tx ++ 32 :: y) P = (toksW a b q1 q2 d ws tx P ++ (un (32 :: y) (P + (srcW q1 q2 d ws tx).length)).1, (un (32 :: y) (P + (srcW q1 q2 d ws tx).length)).2)
  | [], tx, P, _ => by simp [srcW, toksW]
  | p :: r, tx, P, hg => by
    have hp := hg p (by simp)
    have ih := un_srcW h1 h2 hd hdd hl y r (if p = [116] then tx + 1 else tx) (P + 1 + (partX q1 q2 d p tx).length) (fun x hx => hg x (by simp [hx]))
    have hshape : ∃ z, srcW q1 q2 d r (if p = [116] then tx + 1 else tx) ++ 32 :: y = 32 :: z := by
      cases r with
      | nil => exact ⟨_, rfl⟩
      | cons w r => exact ⟨_, rfl⟩
    obtain ⟨z, hz⟩ := hshape
    have e : srcW q1 q2 d (p :: r) tx ++ 32 :: y = 32 :: (partX q1 q2 d p tx ++ 32 :: z) := by
      rw [srcW, List.cons_append, List.append_assoc, hz]
    rw [e, un_space, un_part h1 h2 hd hdd hl hp, ← hz, ih]
    have el : P + (srcW q1 q2 d (p :: r) tx).length = P + 1 + (partX q1 q2 d p tx).length + (srcW q1 q2 d r (if p = [116] then tx + 1 else tx)).length := by
      rw [srcW, List.length_cons, List.length_append]; omega
    rw [el, toksW]
    rfl
def frontS (k : Nat) : List (List UInt8) := (wordsS k).dropLast
def openK (k : Nat) : Bool := k == 5 || k == 6
theorem words_front : ∀ k, k < 18 → 0 < k → wordsS k = frontS k ++ [if openK k then [123] else [59]] := by decide
theorem front_good : ∀ k, k < 18 → 0 < k → ∀ p ∈ frontS k, goodW p := by decide
theorem front_len : ∀ k, k < 18 → 0 < k → (frontS k).length ≤ 5 := by decide
theorem srcW_app (q1 q2 d : List UInt8) (last : List UInt8) (hlast : last = [123] ∨ last = [59]) : ∀ (ws : List (List UInt8)) (tx : Nat), srcW q1 q2 d (ws ++ [last]) tx = srcW q1 q2 d ws tx ++ 32 :: (if last = [123] then [123, 32, 125] else [59])
  | [], tx => by
    rcases hlast with rfl | rfl
    · simp [srcW, partX]
    · simp [srcW, partX]
  | p :: r, tx => by
    rw [List.cons_append, srcW, srcW, srcW_app q1 q2 d last hlast r, List.cons_append, List.append_assoc]
theorem run_k {a b q1 q2 d : List UInt8} {x y z : Nat} : ∀ k, k < 18 → 0 < k → runP ⟨toksW a b q1 q2 d (frontS k) 0 9 ++ (if openK k then [⟨4, [123], x⟩, ⟨4, [125], y⟩] else [⟨4, [59], x⟩]) ++ [⟨0, [], z⟩], [], [], []⟩ = .ok [stmK k a b (numD d)] [0]
  | 0, _, h => by omega
  | 1, _, _ => by rfl
  | 2, _, _ => by rfl
  | 3, _, _ => by rfl
  | 4, _, _ => by rfl
  | 5, _, _ => by rfl
  | 6, _, _ => by rfl
  | 7, _, _ => by rfl
  | 8, _, _ => by rfl
  | 9, _, _ => by rfl
  | 10, _, _ => by rfl
  | 11, _, _ => by rfl
  | 12, _, _ => by rfl
  | 13, _, _ => by rfl
  | 14, _, _ => by rfl
  | 15, _, _ => by rfl
  | 16, _, _ => by rfl
  | 17, _, _ => by rfl
  | k + 18, h, _ => by omega
theorem bad_k {a b q1 q2 d : List UInt8} {x z : Nat} : ∀ k, k < 18 → 0 < k → runP ⟨toksW a b q1 q2 d (frontS k) 0 9 ++ (if openK k then [⟨4, [123], x⟩] else []) ++ [⟨0, [], z⟩], [], [], []⟩ = .bad z 20
  | 0, _, h => by omega
  | 1, _, _ => by rfl
  | 2, _, _ => by rfl
  | 3, _, _ => by rfl
  | 4, _, _ => by rfl
  | 5, _, _ => by rfl
  | 6, _, _ => by rfl
  | 7, _, _ => by rfl
  | 8, _, _ => by rfl
  | 9, _, _ => by rfl
  | 10, _, _ => by rfl
  | 11, _, _ => by rfl
  | 12, _, _ => by rfl
  | 13, _, _ => by rfl
  | 14, _, _ => by rfl
  | 15, _, _ => by rfl
  | 16, _, _ => by rfl
  | 17, _, _ => by rfl
  | k + 18, h, _ => by omega
theorem toksW_len {a b q1 q2 d : List UInt8} : ∀ (ws : List (List UInt8)) (tx P : Nat), (toksW a b q1 q2 d ws tx P).length = ws.length
  | [], _, _ => rfl
  | p :: r, tx, P => by rw [toksW, List.length_cons, toksW_len r, List.length_cons]
theorem partX_len {q1 q2 d p : List UInt8} {tx : Nat} (h1 : q1.length ≤ 202) (h2 : q2.length ≤ 202) (hd : d.length ≤ 9) (hp : p.length ≤ 12) : (partX q1 q2 d p tx).length ≤ 202 := by
  unfold partX
  have e1 : nameW.length = 4 := rfl
  have e2 : codeW.length = 4 := rfl
  have e3 : ([123, 32, 125] : List UInt8).length = 3 := rfl
  split
  · omega
  split
  · omega
  split
  · omega
  split
  · split <;> omega
  split <;> omega
theorem srcW_len {q1 q2 d : List UInt8} (h1 : q1.length ≤ 202) (h2 : q2.length ≤ 202) (hd : d.length ≤ 9) : ∀ (ws : List (List UInt8)) (tx : Nat), (∀ p ∈ ws, p.length ≤ 12) → (srcW q1 q2 d ws tx).length ≤ 203 * ws.length
  | [], _, _ => by simp [srcW]
  | p :: r, tx, h => by
    have hp := partX_len (tx := tx) h1 h2 hd (h p (by simp))
    have ih := srcW_len h1 h2 hd r (if p = [116] then tx + 1 else tx) (fun x hx => h x (by simp [hx]))
    rw [srcW, List.length_cons, List.length_append, List.length_cons]
    omega
theorem words_short : ∀ k, k < 18 → 0 < k → ∀ p ∈ wordsS k, p.length ≤ 12 := by decide
theorem words_count : ∀ k, k < 18 → 0 < k → (wordsS k).length ≤ 6 := by decide
theorem words_some : ∀ k, k < 18 → 0 < k → wordsS k ≠ [] := by decide
def lastK (k : Nat) : List UInt8 := if openK k then [123, 32, 125] else [59]
theorem srcW_front (q1 q2 d : List UInt8) {k : Nat} (hk : k < 18) (h0 : 0 < k) : srcW q1 q2 d (wordsS k) 0 = srcW q1 q2 d (frontS k) 0 ++ 32 :: lastK k := by
  rw [words_front k hk h0, srcW_app q1 q2 d _ (by split <;> simp)]
  unfold lastK
  cases openK k <;> rfl
theorem shapes_whole {a b q1 q2 d : List UInt8} {k : Nat} (hk : k < 18) (h0 : 0 < k) (h1 : quoteL a = some q1) (h2 : quoteL b = some q2) (hq1 : q1.length ≤ 202) (hq2 : q2.length ≤ 202) (hd : d ≠ []) (hdd : ∀ c ∈ d, c ∈ digitsL) (hl : d.length ≤ 9) :
    parseAll (ftpB ++ srcW q1 q2 d (wordsS k) 0) = ⟨3, [stmK k a b (numD d)], [0], 0, 0⟩ := by
  have hlen := srcW_len hq1 hq2 hl (wordsS k) 0 (words_short k hk h0)
  have hc := words_count k hk h0
  have hfl := front_len k hk h0
  have hrun := fun x y z => run_k (a := a) (b := b) (q1 := q1) (q2 := q2) (d := d) (x := x) (y := y) (z := z) k hk h0
  have hf := srcW_front q1 q2 d hk h0
  have hu := fun y => un_srcW h1 h2 hd hdd hl y (frontS k) 0 9 (front_good k hk h0)
  have hu2 := hu (lastK k)
  rw [← hf] at hu2
  cases ho : openK k with
  | true =>
    rw [ho] at hrun
    have e : lastK k = [123, 32, 125] := by unfold lastK; rw [ho]; rfl
    rw [e, un_space, un_sign (by decide), un_space, un_sign (by decide), un_nil] at hu2
    simp only [push] at hu2
    rw [parse_toks (by omega) (by rw [List.length_append, toksW_len]; simp only [List.length_cons, List.length_nil]; omega) hu2]
    have := hrun
    simp only [if_true] at this
    rw [this]
    rfl
  | false =>
    rw [ho] at hrun
    have e : lastK k = [59] := by unfold lastK; rw [ho]; rfl
    rw [e, un_space, un_sign (by decide), un_nil] at hu2
    simp only [push] at hu2
    rw [parse_toks (by omega) (by rw [List.length_append, toksW_len]; simp only [List.length_cons, List.length_nil]; omega) hu2]
    have := fun x => hrun x 0
    simp only [Bool.false_eq_true, if_false] at this
    rw [this]
    rfl
theorem shapes_cut {a b q1 q2 d : List UInt8} {k : Nat} (hk : k < 18) (h0 : 0 < k) (h1 : quoteL a = some q1) (h2 : quoteL b = some q2) (hq1 : q1.length ≤ 202) (hq2 : q2.length ≤ 202) (hd : d ≠ []) (hdd : ∀ c ∈ d, c ∈ digitsL) (hl : d.length ≤ 9) :
    ∃ z, parseAll (ftpB ++ (srcW q1 q2 d (wordsS k) 0).take ((srcW q1 q2 d (wordsS k) 0).length - 1)) = ⟨0, [], [], z, 20⟩ := by
  have hlen := srcW_len hq1 hq2 hl (wordsS k) 0 (words_short k hk h0)
  have hc := words_count k hk h0
  have hfl := front_len k hk h0
  have hrun := fun x z => bad_k (a := a) (b := b) (q1 := q1) (q2 := q2) (d := d) (x := x) (z := z) k hk h0
  have hf := srcW_front q1 q2 d hk h0
  have hu := fun y => un_srcW h1 h2 hd hdd hl y (frontS k) 0 9 (front_good k hk h0)
  cases ho : openK k with
  | true =>
    rw [ho] at hrun
    have e : lastK k = [123, 32, 125] := by unfold lastK; rw [ho]; rfl
    have ht : (srcW q1 q2 d (wordsS k) 0).take ((srcW q1 q2 d (wordsS k) 0).length - 1) = srcW q1 q2 d (frontS k) 0 ++ 32 :: [123, 32] := by
      rw [hf, e, List.length_append, List.take_append, List.take_of_length_le (by simp only [List.length_cons, List.length_nil]; omega)]
      simp only [List.length_cons, List.length_nil]
      rw [show (srcW q1 q2 d (frontS k) 0).length + (0 + 1 + 1 + 1 + 1) - 1 - (srcW q1 q2 d (frontS k) 0).length = 3 from by omega]
      rfl
    have hu2 := hu [123, 32]
    rw [← ht] at hu2
    rw [un_space, un_sign (by decide), un_space, un_nil] at hu2
    simp only [push] at hu2
    rw [parse_toks (by rw [List.length_take]; omega) (by rw [List.length_append, toksW_len]; simp only [List.length_cons, List.length_nil]; omega) hu2]
    have := hrun
    simp only [if_true] at this
    rw [this]
    exact ⟨_, rfl⟩
  | false =>
    rw [ho] at hrun
    have e : lastK k = [59] := by unfold lastK; rw [ho]; rfl
    have ht : (srcW q1 q2 d (wordsS k) 0).take ((srcW q1 q2 d (wordsS k) 0).length - 1) = srcW q1 q2 d (frontS k) 0 ++ 32 :: [] := by
      rw [hf, e, List.length_append, List.take_append, List.take_of_length_le (by simp only [List.length_cons, List.length_nil]; omega)]
      simp only [List.length_cons, List.length_nil]
      rw [show (srcW q1 q2 d (frontS k) 0).length + (0 + 1 + 1) - 1 - (srcW q1 q2 d (frontS k) 0).length = 1 from by omega]
      rfl
    have hu2 := hu []
    rw [← ht] at hu2
    rw [un_space, un_nil] at hu2
    rw [parse_toks (by rw [List.length_take]; omega) (by rw [List.length_append, toksW_len]; simp only [List.length_nil]; omega) hu2]
    have := fun x => hrun x
    simp only [Bool.false_eq_true, if_false] at this
    rw [this 0]
    exact ⟨_, rfl⟩
end Go.Proofs.YtcknfhhbijlobaaDoor.D
