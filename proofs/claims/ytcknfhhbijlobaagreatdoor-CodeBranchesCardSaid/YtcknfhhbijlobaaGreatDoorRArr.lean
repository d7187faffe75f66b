import Derived.OpenShut
import Derived.ChangeMaps5
import Derived.Test.YtcknfhhbijlobaaGreatDoorMD
namespace Go.Proofs.YtcknfhhbijlobaaGreatDoor.D
open Go Go.ChangeShapes Go.WideShapes Go.RowKit
set_option linter.unusedVariables false
set_option linter.unusedSimpArgs false
section
variable {H : Type} {enc : TypeId × Value → H} {P : Program} {w : World} {b b0 : Nat} {r : Reach} {sp : Nat → Bool} {held : Bool} {t e : TypeId} {v : Value} {d : DataW H} {ps : List MemPlace}
theorem three_of {α : Type} : ∀ {l : List α}, l.length = 3 → ∃ x y z, l = [x, y, z]
 | [x, y, z], _ => ⟨x, y, z, rfl⟩
theorem open_agg3 (ht : P.underlying t = some (.array 3 e)) (ct : P.cellsOf t = 3) (ce : P.cellsOf e = 1) (hval : Value.okWide P w r b0 t v) (hd : DataW.Trod enc P w b sp held t v d ps) :
  ∃ c0 c1 c2 y0 y1 y2 m, v = .agg #[c0, c1, c2] ∧ d = .agg [y0.1, y1.1, y2.1] ∧ ps = y0.2 ++ (y1.2 ++ y2.2) ∧ DataW.trod enc P w b sp held m e [c0] = some y0 ∧ DataW.trod enc P w b sp held m e [c1] = some y1 ∧ DataW.trod enc P w b sp held m e [c2] = some y2 := by
 obtain ⟨cs, rfl, hsz, _⟩ : ∃ cs, v = .agg cs ∧ cs.size = P.cellsOf t ∧ Row.okWide P w r b0 t cs := by
  simpa [Value.okWide, ht] using hval
 rw [ct] at hsz
 obtain ⟨l⟩ := cs
 obtain ⟨c0, c1, c2, rfl⟩ := three_of (by simpa using hsz)
 obtain ⟨fuel, hf⟩ := hd
 obtain ⟨xs, m, _, hx, _, hl, hel⟩ := DataW.trod_array ht hf
 obtain ⟨y0, y1, y2, rfl⟩ := three_of hl
 have g0 := hel 0 (by decide)
 have g1 := hel 1 (by decide)
 have g2 := hel 2 (by decide)
 simp [ce, Value.cells] at g0 g1 g2
 simp only [Prod.mk.injEq] at hx
 exact ⟨c0, c1, c2, y0, y1, y2, m, rfl, by simpa using hx.1, by simpa using hx.2, g0, g1, g2⟩
theorem open_b3 (ht : P.underlying t = some (.array 3 e)) (he : P.underlying e = some (.int .u8)) (ct : P.cellsOf t = 3) (ce : P.cellsOf e = 1) (hval : Value.okWide P w r b0 t v) (hd : DataW.Trod enc P w b sp held t v d ps) :
  ∃ n0 n1 n2 : Int, v = .agg #[.int .u8 n0, .int .u8 n1, .int .u8 n2] ∧ d = .agg [.lit (.int .u8 n0), .lit (.int .u8 n1), .lit (.int .u8 n2)] ∧ ps = [] ∧ (Lit.int .u8 n0).wf = true ∧ (Lit.int .u8 n1).wf = true ∧ (Lit.int .u8 n2).wf = true := by
 obtain ⟨c0, c1, c2, y0, y1, y2, m, rfl, rfl, rfl, g0, g1, g2⟩ := open_agg3 ht ct ce hval hd
 obtain ⟨n0, h0, x0, z0⟩ := DataW.trod_int he g0
 obtain ⟨n1, h1, x1, z1⟩ := DataW.trod_int he g1
 obtain ⟨n2, h2, x2, z2⟩ := DataW.trod_int he g2
 simp at h0 h1 h2
 subst h0 h1 h2 x0 x1 x2
 exact ⟨n0, n1, n2, rfl, rfl, rfl, z0, z1, z2⟩
theorem shut_b3 {n0 n1 n2 : Int} (ht : P.underlying t = some (.array 3 e)) (he : P.underlying e = some (.int .u8)) (ct : P.cellsOf t = 3) (ce : P.cellsOf e = 1) (h0 : (Lit.int .u8 n0).wf = true) (h1 : (Lit.int .u8 n1).wf = true) (h2 : (Lit.int .u8 n2).wf = true) :
  DataW.Trod enc P w b sp held t (.agg #[.int .u8 n0, .int .u8 n1, .int .u8 n2]) (.agg [.lit (.int .u8 n0), .lit (.int .u8 n1), .lit (.int .u8 n2)]) [] :=
 ⟨2, by simp [DataW.trod, Value.cells, ht, he, ct, ce, h0, h1, h2, show List.range 3 = [0, 1, 2] from rfl]⟩
end
theorem agg_three {G : Ghost} {d0 d1 d2 : DV} {v0 v1 v2 : Value} (h0 : V G d0 v0) (h1 : V G d1 v1) (h2 : V G d2 v2) : V G (.agg [d0, d1, d2]) (.agg #[v0, v1, v2]) := by
 have : V G (.agg [d0, d1, d2]) (.agg [v0, v1, v2].toArray) := by
  refine .agg rfl fun i d v hd hv => ?_
  match i, hd, hv with
  | 0, hd, hv => cases hd; cases hv; exact h0
  | 1, hd, hv => cases hd; cases hv; exact h1
  | 2, hd, hv => cases hd; cases hv; exact h2
  | i + 3, hd, hv => cases hd
 exact this
end Go.Proofs.YtcknfhhbijlobaaGreatDoor.D
