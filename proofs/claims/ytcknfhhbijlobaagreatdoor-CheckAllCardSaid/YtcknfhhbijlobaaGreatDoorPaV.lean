import Derived.Test.YtcknfhhbijlobaaGreatDoorPaB
namespace Go.Proofs.YtcknfhhbijlobaaGreatDoor.D
open Go
set_option linter.unusedVariables false
set_option linter.unusedSimpArgs false
set_option maxRecDepth 100000
theorem slv_one {v : DV} {es : List DV} {sz : Nat} (h : (v = .nils ∧ es = []) ∨ ∃ id off, v = .sl id sz off es) : v.one = true := by
 rcases h with ⟨rfl, rfl⟩ | ⟨id, off, rfl⟩ <;> rfl
theorem slv_len {v : DV} {es : List DV} {sz : Nat} {T : Tab} {H : DH} {t e : TypeId} (h : (v = .nils ∧ es = []) ∨ ∃ id off, v = .sl id sz off es) (ht : T.und t = some (.slice e)) : lenD T H t v = some (.int .i64 es.length) := by
 rcases h with ⟨rfl, rfl⟩ | ⟨id, off, rfl⟩ <;> simp [lenD, ht]
theorem PrgV.two {R : List Stm} {top : List Nat} {stmv topv : DV} (h : PrgV R top stmv topv) : stmv.one = true ∧ topv.one = true ∧ ∀ H, lenD cfg.T H 24 stmv = some (.int .i64 R.length) := by
 obtain ⟨⟨es, hes, hst⟩, htop⟩ := h
 have htop' : (topv = .nils ∧ top.map intV = []) ∨ ∃ id off, topv = .sl id 1 off (top.map intV) := by
  rcases htop with ⟨rfl, rfl⟩ | h
  ·exact .inl ⟨rfl, rfl⟩
  ·exact .inr h
 exact ⟨slv_one hes, slv_one htop', fun H => by rw [slv_len hes und_24, hst.len]⟩
theorem IsSl.other {lo lo' : Nat} {H H' : DH} {e sz e' sz' : Nat} {v v' : DV} {es es' : List DV} (h : IsSl lo H e sz v es) (x : Same v' H H') (h' : IsSl lo' H e' sz' v' es') (hne : e ≠ e') : IsSl lo H' e sz v es := by
 refine h.keep x.le fun id hid => ?_
 obtain ⟨g1, g2, k, g3⟩ := h.tip id hid
 refine x.same id g2 fun id' sz2 off2 es2 hv => ?_
 rintro rfl
 subst hv
 obtain ⟨_, _, k', g3'⟩ := h'.tip id (by simp [slid])
 rw [g3] at g3'
 cases g3'
 exact hne rfl
theorem IntsV.facts {l : List Nat} {v : DV} (h : IntsV l v) : v.one = true ∧ v.cells = [v] ∧ ∀ H, lenD cfg.T H 25 v = some (.int .i64 l.length) := by
 rcases h with ⟨rfl, rfl⟩ | ⟨id, off, rfl⟩
 ·exact ⟨rfl, rfl, fun H => slv_len (sz := 1) (.inl ⟨rfl, rfl⟩) und_25⟩
 ·exact ⟨rfl, rfl, fun H => by rw [slv_len (.inr ⟨id, off, rfl⟩) und_25, List.length_map]⟩
end Go.Proofs.YtcknfhhbijlobaaGreatDoor.D
