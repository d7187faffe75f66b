/- What is ahead of a text and is none: in plain Lean. -/
import Derived.Test.YtdlcfkhpcppejaaLex9
namespace Go.Proofs.Ytdlcfkhpcppejaa.D
open Go
set_option linter.unusedVariables false
set_option linter.unusedSimpArgs false

theorem un_blanks : ∀ (z s : List UInt8) (a : Nat), (∀ c ∈ z, c ∈ blanksL) → un (z ++ s) a = un s (a + z.length)
  | [], s, a, _ => rfl
  | c :: z, s, a, h => by
    rw [List.cons_append, un_blank (h c (List.mem_cons_self ..)), un_blanks z s _ fun c hc => h c (List.mem_cons_of_mem _ hc), List.length_cons]
    congr 1
    omega
theorem un_gap {x y s : List UInt8} (hx : (10 : UInt8) ∉ x) (hy : ∀ c ∈ y, c ∈ blanksL) : un (35 :: x ++ [10] ++ y ++ s) 0 = un s (35 :: x ++ [10] ++ y).length := by
  have e : 35 :: x ++ [10] ++ y ++ s = 35 :: (x ++ 10 :: (y ++ s)) := by simp
  rw [e, un_cons]
  have hn : nxt 35 (x ++ 10 :: (y ++ s)) = .skip (x.length + 1) := by
    unfold nxt
    rw [if_neg (by decide), if_pos (by decide)]
    rw [List.takeWhile_cons, if_pos (by decide), tw_stop (p := fun b => b != 10) (by decide), tw_not hx]
    rfl
  rw [hn]
  simp only
  have hd : (35 :: (x ++ 10 :: (y ++ s))).drop (x.length + 1) = 10 :: (y ++ s) := by
    rw [List.drop_succ_cons, List.drop_left' rfl]
  rw [hd, un_blank (by decide), un_blanks y s _ hy]
  congr 1
  simp; omega
end Go.Proofs.Ytdlcfkhpcppejaa.D
