/- D: plain lemmas for contracts. -/
import Derived.Test.YtcknfhhbijlobaaDoorDSym2
import Derived.Lib.Bytealg
namespace Go.Proofs.YtcknfhhbijlobaaDoor.D
open Go
set_option linter.unusedVariables false
set_option linter.unusedSimpArgs false

theorem ba_at {s : List UInt8} {i : Nat} (h : i < s.length) : (⟨s.toArray⟩ : ByteArray).get! i = s[i] := by
  simp [ByteArray.get!, h]
theorem decode_lo {s : List UInt8} {i : Nat} (h : i < s.length) (hb : s[i].toNat < 128) : Utf8.decode ⟨s.toArray⟩ i = (s[i].toNat, 1) := by
  have : (⟨s.toArray⟩ : ByteArray).get! (i + 0) = s[i] := ba_at h
  simp only [Utf8.decode, this]
  rw [if_pos hb]
theorem decode_hi {s : List UInt8} {i : Nat} (h : i < s.length) (hb : ¬ s[i].toNat < 128) : 128 ≤ (Utf8.decode ⟨s.toArray⟩ i).1 := by
  have : (⟨s.toArray⟩ : ByteArray).get! (i + 0) = s[i] := ba_at h
  simp only [Utf8.decode, this]
  rw [if_neg hb]
  repeat' split
  all_goals first
    | (simp [Utf8.runeError]; done)
    | (rename_i h; simp only [Bool.and_eq_true, decide_eq_true_eq, ge_iff_le] at h; simp only; omega)
    | (rename_i h; simp only [ge_iff_le] at h; simp only; omega)
theorem decode_in {s set : List UInt8} {k : Nat} (hset : ∀ b ∈ set, b.toNat < 128) (h : k < s.length) : (set.any fun d => d.toNat == (Utf8.decode ⟨s.toArray⟩ k).1) = set.contains s[k] ∧ (set.contains s[k] = true → (Utf8.decode ⟨s.toArray⟩ k).2 = 1) := by
  by_cases hb : s[k].toNat < 128
  · rw [decode_lo h hb]
    refine ⟨?_, fun _ => rfl⟩
    rw [List.contains_eq_any_beq]
    congr 1
    funext d
    rw [Bool.eq_iff_iff]
    simp only [beq_iff_eq]
    constructor
    · intro h; exact (UInt8.toNat_inj.1 h).symm
    · rintro rfl; rfl
  · have h2 := decode_hi h hb
    have h3 : set.contains s[k] = false := by
      rw [Bool.eq_false_iff]
      intro hc
      exact hb (hset _ (by simpa using hc))
    refine ⟨?_, fun hc => by rw [h3] at hc; cases hc⟩
    rw [h3, List.any_eq_false]
    intro d hd
    have := hset d hd
    simp only [beq_iff_eq]
    omega
theorem dropWhile_at {α : Type} {p : α → Bool} : ∀ {s : List α} {k : Nat} (hk : k < s.length), (∀ b ∈ s.take k, p b = true) → p s[k] = false → s.dropWhile p = s.drop k
  | a :: s, 0, hk, _, h2 => by simp at h2; simp [List.dropWhile, h2]
  | a :: s, k + 1, hk, h1, h2 => by
    simp only [List.take_succ_cons, List.mem_cons, forall_eq_or_imp] at h1
    simp only [List.dropWhile, h1.1, List.drop_succ_cons]
    exact dropWhile_at (by simpa using hk) h1.2 (by simpa using h2)
theorem dropWhile_all {α : Type} {p : α → Bool} : ∀ {s : List α}, (∀ b ∈ s, p b = true) → s.dropWhile p = []
  | [], _ => rfl
  | a :: s, h => by
    simp only [List.mem_cons, forall_eq_or_imp] at h
    simp only [List.dropWhile, h.1]
    exact dropWhile_all h.2
theorem dropWhile_len {α : Type} (p : α → Bool) : ∀ s : List α, (s.dropWhile p).length ≤ s.length
  | [] => Nat.le_refl _
  | a :: s => by
    simp only [List.dropWhile]
    split
    · have := dropWhile_len p s; simp; omega
    · exact Nat.le_refl _
theorem idx_mem {s : List UInt8} {c : UInt8} (h : c ∈ s) : Lib.indexByte s c = ((s.takeWhile (· != c)).length : Nat) := by
  induction s with
  | nil => cases h
  | cons b s ih =>
    unfold Lib.indexByte
    by_cases hb : b = c
    · simp [hb]
    · have hm : c ∈ s := by rcases List.mem_cons.1 h with h | h; exact absurd h.symm hb; exact h
      rw [if_neg (by simpa using hb), ih hm]
      have : ¬ ((((s.takeWhile (· != c)).length : Nat) : Int) == -1) = true := by simp
      rw [if_neg this]
      simp [List.takeWhile_cons, hb]
theorem idx_not {s : List UInt8} {c : UInt8} (h : c ∉ s) : Lib.indexByte s c = -1 := by
  induction s with
  | nil => rfl
  | cons b s ih =>
    simp only [List.mem_cons, not_or] at h
    unfold Lib.indexByte
    rw [if_neg (by simpa using fun e => h.1 e.symm), ih h.2]
    rfl
theorem idx_ge {s : List UInt8} {c : UInt8} : 0 ≤ Lib.indexByte s c ↔ c ∈ s := by
  constructor
  · intro h
    refine Classical.byContradiction fun hn => ?_
    rw [idx_not hn] at h
    omega
  · intro h; rw [idx_mem h]; omega
theorem idx_ge' {s : List UInt8} {c : UInt8} : (0 ≤ Lib.indexByte s c) = (c ∈ s) := propext idx_ge
theorem bytesOf_map : ∀ s : List UInt8, bytesOf (s.map byteDV) = some s
  | [] => rfl
  | a :: s => by
    show (match bytesOf (s.map byteDV) with | some l => some (UInt8.ofNat ((a.toNat : Int).toNat) :: l) | none => none) = _
    rw [bytesOf_map s]; simp
theorem idx_lt {s : List UInt8} {c : UInt8} : Lib.indexByte s c < s.length ∨ s = [] := by
  by_cases h : c ∈ s
  · rw [idx_mem h]
    refine .inl ?_
    have : (s.takeWhile (· != c)).length < s.length := by
      induction s with
      | nil => cases h
      | cons b s ih =>
        rw [List.takeWhile_cons]
        split
        · rename_i hb
          simp at hb
          rcases List.mem_cons.1 h with h | h
          · exact absurd h.symm hb
          · have := ih h; simp; omega
        · simp
    omega
  · rw [idx_not h]
    cases s with
    | nil => exact .inr rfl
    | cons a l => exact .inl (by simp; omega)
theorem u8_back (c : UInt8) : (((c.toNat : Nat) : Int).toNat).toUInt8 = c := by simp
theorem take_tw {α : Type} (p : α → Bool) : ∀ s : List α, s.take (s.takeWhile p).length = s.takeWhile p
  | [] => rfl
  | a :: s => by
    rw [List.takeWhile_cons]
    split
    · simp [take_tw p s]
    · rfl
theorem tw_all {α : Type} {p : α → Bool} : ∀ {s : List α}, (∀ b ∈ s, p b = true) → s.takeWhile p = s
  | [], _ => rfl
  | a :: s, h => by
    simp only [List.mem_cons, forall_eq_or_imp] at h
    rw [List.takeWhile_cons, if_pos h.1, tw_all h.2]
theorem tw_not {s : List UInt8} {c : UInt8} (h : c ∉ s) : s.takeWhile (· != c) = s := tw_all fun b hb => by
  simp only [bne_iff_ne, ne_eq]; rintro rfl; exact h hb
end Go.Proofs.YtcknfhhbijlobaaDoor.D
