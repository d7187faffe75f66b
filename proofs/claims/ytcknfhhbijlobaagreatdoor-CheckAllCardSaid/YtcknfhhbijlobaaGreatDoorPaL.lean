import Derived.Test.YtcknfhhbijlobaaGreatDoorParF
import Derived.Test.YtcknfhhbijlobaaGreatDoorPaV
namespace Go.Proofs.YtcknfhhbijlobaaGreatDoor.D
open Go
set_option linter.unusedVariables false
set_option linter.unusedSimpArgs false
set_option maxRecDepth 100000
theorem forget {P : Sg → Prop} {σ : Sg} (I : Sg → Prop) (h : I σ) (k : ∀ σ, I σ → P σ) : P σ := k σ h
theorem inc_ge {l : List Nat} (h : l.Pairwise (· < ·)) : ∀ (k n : Nat), l[k]? = some n → k ≤ n
 | 0, n, _ => Nat.zero_le _
 | k + 1, n, hn => by
  obtain ⟨h2, e2⟩ := List.getElem?_eq_some_iff.1 hn
  have ih := inc_ge h k l[k] (List.getElem?_eq_getElem (by omega))
  have := List.pairwise_iff_getElem.1 h k (k + 1) (by omega) h2 (by omega)
  omega
theorem inc_len {l : List Nat} {N : Nat} (h : l.Pairwise (· < ·)) (hl : ∀ n ∈ l, n < N) : l.length ≤ N := by
 rcases Nat.lt_or_ge N l.length with h1 | h1
 ·have hx : l[N]? = some l[N] := List.getElem?_eq_getElem h1
  have h2 := inc_ge h _ _ hx
  have h3 := hl _ (List.mem_of_getElem? hx)
  omega
 ·exact h1
theorem parse_lens (s : List UInt8) : (parseAll s).R.length ≤ 100 ∧ (parseAll s).top.length ≤ 100 ∧ ∀ x ∈ (parseAll s).R, x.l.length ≤ 100 ∧ x.m.length ≤ 100 := by
 by_cases he : (parseAll s).e = 0
 ·obtain ⟨hW, _, _, h100⟩ := parse_within he
  refine ⟨h100, Nat.le_trans (inc_len (hW.inc _ (by simp)) fun n hn => hW.lt (l := (parseAll s).top) (by simp) hn) h100, fun x hx => ?_⟩
  have h1 : x.l ∈ allL (parseAll s).R := List.mem_flatMap.2 ⟨x, hx, by simp⟩
  have h2 : x.m ∈ allL (parseAll s).R := List.mem_flatMap.2 ⟨x, hx, by simp⟩
  exact ⟨Nat.le_trans (inc_len (hW.inc x.l (by simp [h1])) fun n hn => hW.lt (l := x.l) (by simp [h1]) hn) h100, Nat.le_trans (inc_len (hW.inc x.m (by simp [h2])) fun n hn => hW.lt (l := x.m) (by simp [h2]) hn) h100⟩
 ·obtain ⟨_, h2, h3⟩ := parse_none he
  rw [h2, h3]
  simp
end Go.Proofs.YtcknfhhbijlobaaGreatDoor.D
