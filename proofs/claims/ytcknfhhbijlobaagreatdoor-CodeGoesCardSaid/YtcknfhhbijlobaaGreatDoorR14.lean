import Derived.Test.YtcknfhhbijlobaaGreatDoorMG
namespace Go.Proofs.YtcknfhhbijlobaaGreatDoor.D
open Go
set_option linter.unusedVariables false
set_option linter.unusedSimpArgs false
set_option maxRecDepth 100000
def IsSn (lo : Nat) (H : DH) (e sz : Nat) (v : DV) (es : List DV) : Prop := ∃ id off k, v = .sl id sz off es ∧ H.m id = some (.tip e k true) ∧ k = off + es.length ∧ lo ≤ id ∧ id < H.next
theorem IsSn.sl {lo : Nat} {H : DH} {e sz : Nat} {v : DV} {es : List DV} (h : IsSn lo H e sz v es) (hne : es ≠ []) : IsSl lo H e sz v es := by
 obtain ⟨id, off, k, h1, h2, h3, h4, h5⟩ := h
 exact .inr ⟨id, off, k, h1, h2, h3, h4, h5, hne⟩
theorem IsSn.ext {lo : Nat} {H H' : DH} {e sz : Nat} {v : DV} {es : List DV} (h : IsSn lo H e sz v es) (x : Ext H H') : IsSn lo H' e sz v es := by
 obtain ⟨id, off, k, h1, h2, h3, h4, h5⟩ := h
 exact ⟨id, off, k, h1, by rw [x.same id h5, h2], h3, h4, Nat.lt_of_lt_of_le h5 x.le⟩
theorem IsSn.one {lo : Nat} {H : DH} {e sz : Nat} {v : DV} {es : List DV} (h : IsSn lo H e sz v es) : v.cells = [v] ∧ v.one = true := by
 obtain ⟨id, off, k, rfl, _⟩ := h; exact ⟨rfl, rfl⟩
theorem IsSn.len {lo : Nat} {H H' : DH} {e sz : Nat} {v : DV} {es : List DV} {T : Tab} {t : TypeId} (h : IsSn lo H e sz v es) (ht : T.und t = some (.slice e)) : lenD T H' t v = some (.int .i64 es.length) := by
 obtain ⟨id, off, k, rfl, _⟩ := h; simp [lenD, ht]
theorem IsSn.new {H : DH} {e sz : Nat} {es : List DV} : IsSn H.next (H.new (.tip e es.length true)) e sz (.sl H.next sz 0 es) es := ⟨_, _, _, rfl, if_pos rfl, by omega, Nat.le_refl _, Nat.lt_succ_self _⟩
end Go.Proofs.YtcknfhhbijlobaaGreatDoor.D
