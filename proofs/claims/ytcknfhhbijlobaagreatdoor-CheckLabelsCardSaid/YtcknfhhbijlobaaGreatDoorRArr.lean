import Derived.OpenShut
import Derived.ChangeMaps5
import Derived.Test.YtcknfhhbijlobaaGreatDoorMD
/- Arrays by value as a row's arguments: of two strings, of two bools. -/
namespace Go.Proofs.YtcknfhhbijlobaaGreatDoor.D
open Go Go.ChangeShapes Go.WideShapes Go.RowKit
set_option linter.unusedVariables false
set_option linter.unusedSimpArgs false

section
variable {H : Type} {enc : TypeId × Value → H} {P : Program} {w : World} {b b0 : Nat} {r : Reach} {sp : Nat → Bool} {held : Bool} {t e : TypeId} {v : Value} {d : DataW H} {ps : List MemPlace}
theorem two_of {α : Type} : ∀ {l : List α}, l.length = 2 → ∃ x y, l = [x, y]
  | [x, y], _ => ⟨x, y, rfl⟩
theorem open_agg2 (ht : P.underlying t = some (.array 2 e)) (ct : P.cellsOf t = 2) (ce : P.cellsOf e = 1) (hval : Value.okWide P w r b0 t v) (hd : DataW.Trod enc P w b sp held t v d ps) :
    ∃ c0 c1 y0 y1 m, v = .agg #[c0, c1] ∧ d = .agg [y0.1, y1.1] ∧ ps = y0.2 ++ y1.2 ∧ DataW.trod enc P w b sp held m e [c0] = some y0 ∧ DataW.trod enc P w b sp held m e [c1] = some y1 := by
  obtain ⟨cs, rfl, hsz, _⟩ : ∃ cs, v = .agg cs ∧ cs.size = P.cellsOf t ∧ Row.okWide P w r b0 t cs := by
    simpa [Value.okWide, ht] using hval
  rw [ct] at hsz
  obtain ⟨l⟩ := cs
  obtain ⟨c0, c1, rfl⟩ := two_of (by simpa using hsz)
  obtain ⟨fuel, hf⟩ := hd
  obtain ⟨xs, m, _, hx, _, hl, hel⟩ := DataW.trod_array ht hf
  obtain ⟨y0, y1, rfl⟩ := two_of hl
  have g0 := hel 0 (by decide)
  have g1 := hel 1 (by decide)
  simp [ce, Value.cells] at g0 g1
  simp only [Prod.mk.injEq] at hx
  exact ⟨c0, c1, y0, y1, m, rfl, by simpa using hx.1, by simpa using hx.2, g0, g1⟩
theorem open_s2 (ht : P.underlying t = some (.array 2 e)) (he : P.underlying e = some .string) (ct : P.cellsOf t = 2) (ce : P.cellsOf e = 1) (hval : Value.okWide P w r b0 t v) (hd : DataW.Trod enc P w b sp held t v d ps) :
    ∃ s0 s1 : ByteArray, v = .agg #[.string s0, .string s1] ∧ d = .agg [.lit (.string s0.data.toList), .lit (.string s1.data.toList)] ∧ ps = [] ∧ s0.size ≤ maxLen ∧ s1.size ≤ maxLen := by
  obtain ⟨c0, c1, y0, y1, m, rfl, rfl, rfl, g0, g1⟩ := open_agg2 ht ct ce hval hd
  obtain ⟨s0, h0, x0, z0⟩ := DataW.trod_string he g0
  obtain ⟨s1, h1, x1, z1⟩ := DataW.trod_string he g1
  simp at h0 h1
  subst h0 h1 x0 x1
  exact ⟨s0, s1, rfl, rfl, rfl, z0, z1⟩
theorem shut_s2 {s0 s1 : ByteArray} (ht : P.underlying t = some (.array 2 e)) (he : P.underlying e = some .string) (ct : P.cellsOf t = 2) (ce : P.cellsOf e = 1) (h0 : s0.size ≤ maxLen) (h1 : s1.size ≤ maxLen) :
    DataW.Trod enc P w b sp held t (.agg #[.string s0, .string s1]) (.agg [.lit (.string s0.data.toList), .lit (.string s1.data.toList)]) [] :=
  ⟨2, by simp [DataW.trod, Value.cells, ht, he, ct, ce, h0, h1, show List.range 2 = [0, 1] from rfl]⟩
theorem open_o2 (ht : P.underlying t = some (.array 2 e)) (he : P.underlying e = some .bool) (ct : P.cellsOf t = 2) (ce : P.cellsOf e = 1) (hval : Value.okWide P w r b0 t v) (hd : DataW.Trod enc P w b sp held t v d ps) :
    ∃ s0 s1 : Bool, v = .agg #[.bool s0, .bool s1] ∧ d = .agg [.lit (.bool s0), .lit (.bool s1)] ∧ ps = [] := by
  obtain ⟨c0, c1, y0, y1, m, rfl, rfl, rfl, g0, g1⟩ := open_agg2 ht ct ce hval hd
  obtain ⟨s0, h0, x0⟩ := DataW.trod_bool he g0
  obtain ⟨s1, h1, x1⟩ := DataW.trod_bool he g1
  simp at h0 h1
  subst h0 h1 x0 x1
  exact ⟨s0, s1, rfl, rfl, rfl⟩
theorem shut_o2 {s0 s1 : Bool} (ht : P.underlying t = some (.array 2 e)) (he : P.underlying e = some .bool) (ct : P.cellsOf t = 2) (ce : P.cellsOf e = 1) :
    DataW.Trod enc P w b sp held t (.agg #[.bool s0, .bool s1]) (.agg [.lit (.bool s0), .lit (.bool s1)]) [] :=
  ⟨2, by simp [DataW.trod, Value.cells, ht, he, ct, ce, show List.range 2 = [0, 1] from rfl]⟩
end
theorem agg_two {G : Ghost} {d0 d1 : DV} {v0 v1 : Value} (h0 : V G d0 v0) (h1 : V G d1 v1) : V G (.agg [d0, d1]) (.agg #[v0, v1]) := by
  have : V G (.agg [d0, d1]) (.agg [v0, v1].toArray) := by
    refine .agg rfl fun i d v hd hv => ?_
    match i, hd, hv with
    | 0, hd, hv => cases hd; cases hv; exact h0
    | 1, hd, hv => cases hd; cases hv; exact h1
    | i + 2, hd, hv => cases hd
  exact this
end Go.Proofs.YtcknfhhbijlobaaGreatDoor.D
