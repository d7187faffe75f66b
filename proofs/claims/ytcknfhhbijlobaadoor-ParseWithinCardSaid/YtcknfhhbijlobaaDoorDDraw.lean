/- D: regions that draw their order: the text's order serves for every order. -/
import Derived.Test.YtcknfhhbijlobaaDoorDSound
namespace Go.Proofs.YtcknfhhbijlobaaDoor.D
open Go
set_option linter.unusedVariables false
set_option linter.unusedSimpArgs false

section
variable {P : Program} {T : Tab}

theorem opd_congr {σ σ' : Nat → DV} {x : Operand} (h : ∀ t, x = .tmp t → σ t = σ' t) : opd σ x = opd σ' x := by
  cases x <;> simp [opd]
  exact h _ rfl
theorem opds_congr {σ σ' : Nat → DV} : ∀ {xs : List Operand}, (∀ t, Operand.tmp t ∈ xs → σ t = σ' t) → opds σ xs = opds σ' xs
  | [], _ => rfl
  | x :: xs, h => by
    simp only [opds]
    rw [opd_congr fun t e => h t (by simp [e]), opds_congr fun t ht => h t (by simp [ht])]
theorem opdParts_congr {σ σ' : Nat → DV} : ∀ {xs : List (Nat × Operand)}, (∀ t, Operand.tmp t ∈ xs.map (·.2) → σ t = σ' t) → opdParts σ xs = opdParts σ' xs
  | [], _ => rfl
  | (i, x) :: xs, h => by
    simp only [opdParts]
    rw [opd_congr fun t e => h t (by simp [e]), opdParts_congr fun t ht => h t (by simp at ht ⊢; exact .inr ht)]

theorem evalOp_congr {E : Orc} {o : Op} {σ σ' : Nat → DV} {H : DH} (h : ∀ t, Operand.tmp t ∈ o.operands.toList → σ t = σ' t) : evalOp T E o σ H = evalOp T E o σ' H := by
  cases o <;> simp only [evalOp] <;> simp only [Op.operands] at h
  case move x => rw [opd_congr fun t e => h t (by simp [e])]
  case assign x => rw [opd_congr fun t e => h t (by simp [e])]
  case pick c x y =>
    rw [opd_congr (x := c) fun t e => h t (by simp [e])]
    have e1 : opd σ x = opd σ' x := opd_congr fun t e => h t (by simp [e])
    have e2 : opd σ y = opd σ' y := opd_congr fun t e => h t (by simp [e])
    split
    · rename_i t _
      cases t
      · simp [e2]
      · simp [e1]
    · rfl
  case box e x => rw [opd_congr fun t e => h t (by simp [e])]
  case build t ps => rw [opdParts_congr fun t e => h t (by simpa using e)]
  case buildSlice t n ps => rw [opdParts_congr fun t e => h t (by simpa using e)]
  case load t x => rw [opd_congr fun t e => h t (by simp [e])]
  case store t x y => rw [opd_congr (x := x) fun t e => h t (by simp [e]), opd_congr (x := y) fun t e => h t (by simp [e])]
  case nilCheck x => rw [opd_congr fun t e => h t (by simp [e])]
  case binOp op t x y yt => rw [opd_congr (x := x) fun t e => h t (by simp [e]), opd_congr (x := y) fun t e => h t (by simp [e])]
  case unOp op t x => rw [opd_congr fun t e => h t (by simp [e])]
  case convert s d x => rw [opd_congr fun t e => h t (by simp [e])]
  case slice t x lo hi mx =>
    rw [opd_congr (x := x) fun t e => h t (by simp [e])]
    have e1 : optOpd σ lo = optOpd σ' lo := by
      cases lo with
      | none => rfl
      | some l => simp only [optOpd]; rw [opd_congr fun t e => h t (by simp [e])]
    have e2 : optOpd σ hi = optOpd σ' hi := by
      cases hi with
      | none => rfl
      | some l => simp only [optOpd]; rw [opd_congr fun t e => h t (by simp [e])]
    rw [e1, e2]
  case fieldAddr s x f => rw [opd_congr fun t e => h t (by simp [e])]
  case field s x f => rw [opd_congr fun t e => h t (by simp [e])]
  case indexAddr t x i => rw [opd_congr (x := x) fun t e => h t (by simp [e]), opd_congr (x := i) fun t e => h t (by simp [e])]
  case index t x i => rw [opd_congr (x := x) fun t e => h t (by simp [e]), opd_congr (x := i) fun t e => h t (by simp [e])]
  case extract x i => rw [opd_congr fun t e => h t (by simp [e])]
  case makeFunc f x y =>
    rw [opds_congr (xs := x.toList) fun t e => h t (by simp at e ⊢; exact .inl e), opds_congr (xs := y.toList) fun t e => h t (by simp at e ⊢; exact .inr e)]
  case makeSlice t x y => rw [opd_congr (x := x) fun t e => h t (by simp [e]), opd_congr (x := y) fun t e => h t (by simp [e])]
  case call c =>
    simp only [Call.operands] at h
    unfold callD
    rw [opds_congr (xs := c.args.toList) fun t e => h t (by simp at e ⊢; exact .inr e)]
    cases hc : c.callee with
    | value f => simp only [hc] at h ⊢; rw [opd_congr (x := f) fun t e => h t (by simp [e])]
    | builtin b => rfl
    | invoke r m => rfl
  case range t x => rw [opd_congr fun t e => h t (by simp [e])]
  case next x b => rw [opd_congr fun t e => h t (by simp [e])]
  all_goals rfl

theorem mem_reads {ops : Array Oper} {o : Oper} {t : Tmp} (h : Operand.tmp t ∈ o.op.operands.toList) : t ∈ reads ops o :=
  List.mem_append_left _ (List.mem_filterMap.2 ⟨.tmp t, h, rfl⟩)

theorem wantedD_congr {ops : Array Oper} {o : Oper} {σ σ' : Nat → DV} (h : ∀ t ∈ reads ops o, σ t = σ' t) : wantedD ops o σ = wantedD ops o σ' := by
  unfold wantedD
  cases hg : o.guard with
  | none => rfl
  | some jw =>
    obtain ⟨j, w⟩ := jw
    simp only
    cases hd : (ops[j]?).bind (·.dst) with
    | none => rfl
    | some d =>
      simp only
      rw [h d (List.mem_append_right _ (by simp [hg, hd]))]

theorem pure_heap {E : Orc} {o : Op} {σ : Nat → DV} {H H' : DH} {v : DV} (hp : isPure o = true) (h : evalOp T E o σ H = some (v, H')) : H' = H ∧ ∀ H2, evalOp T E o σ H2 = some (v, H2) := by
  have map1 : ∀ {x : Option DV} {H H' : DH}, x.map (·, H) = some (v, H') → H' = H ∧ x = some v := by
    intro x H H' hx
    cases x with
    | none => cases hx
    | some u => have := Prod.mk.inj (Option.some.inj hx); exact ⟨this.2.symm, congrArg some this.1⟩
  cases o <;> (first | (simp [isPure] at hp; done) | skip)
  case move x => obtain ⟨h1, h2⟩ := map1 h; exact ⟨h1, fun H2 => by simp [evalOp, h2]⟩
  case assign x => obtain ⟨h1, h2⟩ := map1 h; exact ⟨h1, fun H2 => by simp [evalOp, h2]⟩
  case pick c x y =>
    simp only [evalOp] at h ⊢
    split at h
    · rename_i t e; obtain ⟨h1, h2⟩ := map1 h; exact ⟨h1, fun H2 => by simp [h2]⟩
    · cases h
  case build t ps =>
    simp only [evalOp] at h ⊢
    split at h
    · rename_i l e; obtain ⟨h1, h2⟩ := map1 h; exact ⟨h1, fun H2 => by simp [h2]⟩
    · cases h
  case nilCheck x =>
    simp only [evalOp] at h ⊢
    split at h <;> first
      | (cases h; done)
      | (have := Prod.mk.inj (Option.some.inj h); exact ⟨this.2.symm, fun H2 => by simp [this.1]⟩)
  case binOp op t x y yt =>
    simp only [evalOp] at h ⊢
    split at h
    · rename_i a b e1 e2; obtain ⟨h1, h2⟩ := map1 h; exact ⟨h1, fun H2 => by simp [h2]⟩
    · cases h
  case unOp op t x =>
    simp only [evalOp] at h ⊢
    split at h
    · obtain ⟨h1, h2⟩ := map1 h; exact ⟨h1, fun H2 => by simp [h2]⟩
    · cases h
  case slice t x lo hi mx =>
    simp only [evalOp] at h ⊢
    split at h
    · split at h
      · obtain ⟨h1, h2⟩ := map1 h; exact ⟨h1, fun H2 => by simp [h2]⟩
      · cases h
    · cases h
  case fieldAddr s x f =>
    simp only [evalOp] at h ⊢
    split at h
    · obtain ⟨h1, h2⟩ := map1 h; exact ⟨h1, fun H2 => by simp [h2]⟩
    · cases h
  case field s x f =>
    simp only [evalOp] at h ⊢
    split at h
    · obtain ⟨h1, h2⟩ := map1 h; exact ⟨h1, fun H2 => by simp [h2]⟩
    · cases h
  case indexAddr t x i =>
    simp only [evalOp] at h ⊢
    split at h
    · obtain ⟨h1, h2⟩ := map1 h; exact ⟨h1, fun H2 => by simp [h2]⟩
    · cases h
  case index t x i =>
    simp only [evalOp] at h ⊢
    split at h
    · obtain ⟨h1, h2⟩ := map1 h; exact ⟨h1, fun H2 => by simp [h2]⟩
    · cases h
  case extract x i =>
    simp only [evalOp] at h ⊢
    split at h
    · obtain ⟨h1, h2⟩ := map1 h; exact ⟨h1, fun H2 => by simp [h2]⟩
    · cases h
  case makeFunc f x y =>
    simp only [evalOp] at h ⊢
    split at h
    · have := Prod.mk.inj (Option.some.inj h); exact ⟨this.2.symm, fun H2 => by simp [this.1]⟩
    · cases h
  case call c =>
    obtain ⟨callee, args, ts⟩ := c
    cases callee with
    | value f => simp [isPure] at hp
    | invoke r m => simp [isPure] at hp
    | builtin b =>
      cases b <;> simp [isPure] at hp
      all_goals
        simp only [evalOp, callD] at h ⊢
        cases ha : opds σ args.toList with
        | none => simp [ha] at h
        | some as =>
          simp only [ha] at h ⊢
          match as, h with
          | [], h => simp [builtinD] at h
          | [a], h =>
            first
              | (simp [builtinD] at h; done)
              | (simp only [builtinD] at h ⊢
                 cases hm : dataD a with
                 | none => simp [hm] at h
                 | some u =>
                   simp only [hm, Option.some.injEq, Prod.mk.injEq] at h
                   exact ⟨h.2.symm, fun H2 => by simp [h.1]⟩)
          | _ :: _ :: _ :: _, h => simp [builtinD] at h
          | [a, b], h =>
            first
              | (simp [builtinD] at h; done)
              | (simp only [builtinD] at h ⊢
                 cases hm : maxD a b with
                 | none => simp [hm] at h
                 | some u =>
                   simp only [hm, Option.some.injEq, Prod.mk.injEq] at h
                   exact ⟨h.2.symm, fun H2 => by simp [h.1]⟩)
              | (simp only [builtinD] at h ⊢
                 cases hm : minD a b with
                 | none => simp [hm] at h
                 | some u =>
                   simp only [hm, Option.some.injEq, Prod.mk.injEq] at h
                   exact ⟨h.2.symm, fun H2 => by simp [h.1]⟩)

theorem read_heap {E : Orc} {o : Op} {σ : Nat → DV} {H H' : DH} {v : DV} (hp : isRead o = true) (h : evalOp T E o σ H = some (v, H')) : H' = H := by
  cases o <;> (first | (simp [isRead] at hp; done) | skip)
  case load t x =>
    simp only [evalOp] at h
    split at h
    · rename_i u e
      cases hl : loadD T t u H with
      | none => simp [hl] at h
      | some y => simp only [hl, Option.map_some, Option.some.injEq, Prod.mk.injEq] at h; exact h.2.symm
    · cases h
  case call c =>
    obtain ⟨callee, args, ts⟩ := c
    cases callee with
    | value f => simp [isRead] at hp
    | invoke r m => simp [isRead] at hp
    | builtin b =>
      cases b <;> simp [isRead] at hp
      simp only [evalOp, callD] at h
      cases ha : opds σ args.toList with
      | none => simp [ha] at h
      | some as =>
        simp only [ha] at h
        match hts : ts.toList, as, h with
        | [], _, h => simp [builtinD] at h
        | _ :: _, [], h => simp [builtinD] at h
        | _ :: _, _ :: _ :: _, h => simp [builtinD] at h
        | t :: _, [x], h =>
          simp only [builtinD] at h
          cases hl : lenD T H t x with
          | none => simp [hl] at h
          | some u =>
            simp only [hl, Option.some.injEq, Prod.mk.injEq] at h
            exact h.2.symm
end
end Go.Proofs.YtcknfhhbijlobaaDoor.D
