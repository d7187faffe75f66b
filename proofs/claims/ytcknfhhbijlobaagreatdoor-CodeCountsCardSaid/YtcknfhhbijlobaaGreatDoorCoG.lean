import Derived.Test.YtcknfhhbijlobaaGreatDoorCoS
namespace Go.Proofs.YtcknfhhbijlobaaGreatDoor.D
open Go
set_option linter.unusedVariables false
set_option linter.unusedSimpArgs false
set_option maxRecDepth 100000
def RawG (X : List Raw) (p e : Nat) : Prop := ∀ (j : Nat) (r : Raw), X[j]? = some r → r.o.kind ≠ 13 ∧ r.o.kind ≠ 14 ∧ r.o.kind ≠ 19 ∧ 1 ≤ r.o.kind ∧ r.o.kind ≤ 18 ∧
 (r.lab ≠ none → r.o.kind = 18 ∨ r.o.kind = 15) ∧
 (r.lab = none → r.o.to ≤ e ∧ (r.o.kind ≠ 18 → r.o.kind ≠ 15 → r.o.kind ≠ 5 → r.o.kind ≠ 6 → r.o.to = 0) ∧ (r.o.kind = 5 ∨ r.o.kind = 6 → p + j < r.o.to) ∧
  (r.o.kind = 6 → r.o.to ≤ p + X.length ∧ ∀ (j' : Nat) (r' : Raw), j < j' → p + j' < r.o.to → X[j']? = some r' → r'.o.kind = 3))
theorem RawG.nil {p e : Nat} : RawG [] p e := fun j r h => by simp at h
theorem RawG.mono {X : List Raw} {p e e' : Nat} (h : RawG X p e) (he : e ≤ e') : RawG X p e' := fun j r hr => by
 obtain ⟨h1, h2, h3, h4, h5, h6, h7⟩ := h j r hr
 exact ⟨h1, h2, h3, h4, h5, h6, fun hl => ⟨Nat.le_trans (h7 hl).1 he, (h7 hl).2⟩⟩
theorem RawG.app {X Y : List Raw} {p e : Nat} (h : RawG X p e) (k : RawG Y (p + X.length) e) : RawG (X ++ Y) p e := by
 intro j r hr
 rcases Nat.lt_or_ge j X.length with hj | hj
 ·rw [List.getElem?_append_left hj] at hr
  obtain ⟨h1, h2, h3, h4, h5, h6, h7⟩ := h j r hr
  refine ⟨h1, h2, h3, h4, h5, h6, fun hl => ?_⟩
  obtain ⟨g1, g2, g3, g4⟩ := h7 hl
  refine ⟨g1, g2, g3, fun h6' => ⟨by have := (g4 h6').1; simp; omega, fun j' r' hj' hto hr' => ?_⟩⟩
  have := (g4 h6').1
  rw [List.getElem?_append_left (by omega)] at hr'
  exact (g4 h6').2 j' r' hj' hto hr'
 ·rw [List.getElem?_append_right hj] at hr
  obtain ⟨h1, h2, h3, h4, h5, h6, h7⟩ := k (j - X.length) r hr
  refine ⟨h1, h2, h3, h4, h5, h6, fun hl => ?_⟩
  obtain ⟨g1, g2, g3, g4⟩ := h7 hl
  refine ⟨g1, g2, fun hh => by have := g3 hh; omega, fun h6' => ⟨by have := (g4 h6').1; simp; omega, fun j' r' hj' hto hr' => ?_⟩⟩
  rw [List.getElem?_append_right (by omega)] at hr'
  exact (g4 h6').2 (j' - X.length) r' (by omega) (by omega) hr'
theorem RawG.cons {r : Raw} {X : List Raw} {p e : Nat} (k : RawG X (p + 1) e) (h1 : r.o.kind ≠ 13 ∧ r.o.kind ≠ 14 ∧ r.o.kind ≠ 19 ∧ 1 ≤ r.o.kind ∧ r.o.kind ≤ 18) (h2 : r.lab ≠ none → r.o.kind = 18 ∨ r.o.kind = 15)
  (h3 : r.lab = none → r.o.to ≤ e ∧ (r.o.kind ≠ 18 → r.o.kind ≠ 15 → r.o.kind ≠ 5 → r.o.kind ≠ 6 → r.o.to = 0) ∧ (r.o.kind = 5 ∨ r.o.kind = 6 → p < r.o.to) ∧ (r.o.kind = 6 → r.o.to ≤ p + 1 + X.length ∧ ∀ (j' : Nat) (r' : Raw), p + 1 + j' < r.o.to → X[j']? = some r' → r'.o.kind = 3)) : RawG (r :: X) p e := by
 intro j r' hr
 cases j with
 | zero =>
  simp at hr
  subst hr
  refine ⟨h1.1, h1.2.1, h1.2.2.1, h1.2.2.2.1, h1.2.2.2.2, h2, fun hl => ?_⟩
  obtain ⟨g1, g2, g3, g4⟩ := h3 hl
  refine ⟨g1, g2, g3, fun h6 => ⟨by have := (g4 h6).1; simp; omega, fun j' r' hj' hto hr' => ?_⟩⟩
  obtain ⟨q, rfl⟩ : ∃ q, j' = q + 1 := ⟨j' - 1, by omega⟩
  exact (g4 h6).2 q r' (by omega) (by simpa using hr')
 | succ j =>
  obtain ⟨h1, h2, h3, h4, h5, h6, h7⟩ := k j r' (by simpa using hr)
  refine ⟨h1, h2, h3, h4, h5, h6, fun hl => ?_⟩
  obtain ⟨g1, g2, g3, g4⟩ := h7 hl
  refine ⟨g1, g2, fun hh => by have := g3 hh; omega, fun h6' => ⟨by have := (g4 h6').1; simp; omega, fun j' r' hj' hto hr' => ?_⟩⟩
  obtain ⟨q, rfl⟩ : ∃ q, j' = q + 1 := ⟨j' - 1, by omega⟩
  exact (g4 h6').2 q r' (by omega) (by omega) (by simpa using hr')
theorem raw_sends {R : List Stm} {f : Nat} : ∀ (l : List Nat) (p : Nat), (∀ n ∈ l, ∃ s, R[n]? = some s ∧ s.kind = 3) → ∀ r ∈ rawL R f l p, r.o.kind = 3
 | [], p, _, r, hr => by simp [rawL, rowR] at hr
 | n :: l, p, h, r, hr => by
  have e : rawL R f (n :: l) p = rawN R f n p ++ rawL R f l (p + (rawN R f n p).length) := rfl
  rw [e, List.mem_append] at hr
  rcases hr with hr | hr
  ·obtain ⟨s, hs, hk⟩ := h n (by simp)
   cases f with
   | zero => simp [rawN] at hr
   | succ f =>
    rw [rawN] at hr
    simp [hs, rawS, hk] at hr
    rw [hr]
  ·exact raw_sends l _ (fun x hx => h x (by simp [hx])) r hr
theorem raw_good {R : List Stm} (hfin : ∀ s ∈ R, fineS s) (hsend : ∀ s ∈ R, s.kind = 6 → ∀ n ∈ s.l, ∃ t, R[n]? = some t ∧ t.kind = 3) : ∀ (f : Nat) (l : List Nat) (p : Nat), RawG (rawL R f l p) p (p + (rawL R f l p).length)
 | 0, l, p => by
  have : rawL R 0 l p = [] := by
   unfold rawL
   induction l generalizing p with
   | nil => rfl
   | cons n l ih => show [] ++ rowR (rawN R 0) l _ = []; rw [ih]; rfl
  rw [this]; exact .nil
 | f + 1, [], p => .nil
 | f + 1, n :: l, p => by
  have e : rawL R (f + 1) (n :: l) p = rawN R (f + 1) n p ++ rawL R (f + 1) l (p + (rawN R (f + 1) n p).length) := rfl
  have ih2 := raw_good hfin hsend (f + 1) l (p + (rawN R (f + 1) n p).length)
  rw [e]
  refine RawG.app (RawG.mono (e := p + (rawN R (f + 1) n p).length) ?_ (by simp)) (ih2.mono (by simp; omega))
  rw [rawN]
  cases hR : R[n]? with
  | none => exact .nil
  | some s =>
   have hmem := List.mem_of_getElem? hR
   obtain ⟨f1, f2, f3, f4⟩ := hfin s hmem
   have ih := fun l p => raw_good hfin hsend f l p
   have hd : rowR (rawN R f) = rawL R f := rfl
   simp only [hd]
   by_cases k13 : s.kind = 13
   ·have : rawS (rawL R f) s p = [] := by simp [rawS, k13]
    rw [this]; exact .nil
   by_cases k14 : s.kind = 14
   ·have : rawS (rawL R f) s p = [⟨⟨18, [], [], [], 0, 0⟩, some s.s⟩] := by simp [rawS, k14]
    rw [this]
    exact RawG.cons .nil (by simp) (by simp) (by simp)
   by_cases k15 : s.kind = 15
   ·have : rawS (rawL R f) s p = [⟨⟨15, [], [], [], 0, 0⟩, some s.s⟩] := by simp [rawS, k15]
    rw [this]
    exact RawG.cons .nil (by simp) (by simp) (by simp)
   by_cases k6 : s.kind = 6
   ·have : rawS (rawL R f) s p = ⟨⟨6, [], [], [], s.n, p + 1 + (rawL R f s.l (p + 1)).length⟩, none⟩ :: rawL R f s.l (p + 1) := by simp [rawS, k6]
    rw [this]
    refine RawG.cons ((ih s.l (p + 1)).mono (by simp; omega)) (by simp) (by simp) fun _ => ⟨by simp; omega, by simp, by simp; omega, fun _ => ⟨by simp, fun j' r' _ hr' => ?_⟩⟩
    exact raw_sends s.l (p + 1) (hsend s hmem k6) r' (List.mem_of_getElem? hr')
   by_cases k5 : s.kind = 5
   ·by_cases hm : s.m = []
    ·have : rawS (rawL R f) s p = ⟨⟨5, s.s, s.t, [], 0, p + 1 + (rawL R f s.l (p + 1)).length⟩, none⟩ :: rawL R f s.l (p + 1) := by simp [rawS, k5, hm]
     rw [this]
     exact RawG.cons ((ih s.l (p + 1)).mono (by simp; omega)) (by simp) (by simp) fun _ => ⟨by simp; omega, by simp, by simp; omega, by simp⟩
    ·have : rawS (rawL R f) s p = ⟨⟨5, s.s, s.t, [], 0, p + 2 + (rawL R f s.l (p + 1)).length⟩, none⟩ :: (rawL R f s.l (p + 1) ++
       ⟨⟨18, [], [], [], 0, p + 2 + (rawL R f s.l (p + 1)).length + (rawL R f s.m (p + 2 + (rawL R f s.l (p + 1)).length)).length⟩, none⟩ :: rawL R f s.m (p + 2 + (rawL R f s.l (p + 1)).length)) := by simp [rawS, k5, hm]
     rw [this]
     refine RawG.cons (RawG.app ((ih s.l (p + 1)).mono (by simp; omega)) (RawG.cons ?_ (by simp) (by simp) fun _ => ⟨by simp; omega, by simp, by simp, by simp⟩)) (by simp) (by simp) fun _ => ⟨by simp; omega, by simp, by simp; omega, by simp⟩
     have := ih s.m (p + 2 + (rawL R f s.l (p + 1)).length)
     have e2 : p + 1 + (rawL R f s.l (p + 1)).length + 1 = p + 2 + (rawL R f s.l (p + 1)).length := by omega
     rw [e2]
     exact this.mono (by simp; omega)
   ·have : rawS (rawL R f) s p = [⟨⟨s.kind, s.s, s.t, s.u, s.n, 0⟩, none⟩] := by simp [rawS, k5, k6, k13, k14, k15]
    rw [this]
    exact RawG.cons .nil ⟨k13, k14, by simp only; omega, f1, by simp only; omega⟩ (by simp) fun _ => ⟨by simp, by simp, fun h => by simp only at h; omega, fun h => absurd h k6⟩
 termination_by f l => (f, l.length)
theorem lab_le {R : List Stm} : ∀ (f : Nat) (l : List Nat) (p : Nat), ∀ q ∈ labL R f l p, q.2 ≤ p + (rawL R f l p).length
 | 0, l, p, q, h => by
  have : labL R 0 l p = [] := by
   clear h
   unfold labL
   induction l generalizing p with
   | nil => rfl
   | cons n l ih => show [] ++ rowB (rawN R 0) (labN R 0) l _ = []; rw [ih]; rfl
  rw [this] at h; cases h
 | f + 1, [], p, q, h => by simp [labL, rowB] at h
 | f + 1, n :: l, p, q, h => by
  have e : rawL R (f + 1) (n :: l) p = rawN R (f + 1) n p ++ rawL R (f + 1) l (p + (rawN R (f + 1) n p).length) := rfl
  have e' : labL R (f + 1) (n :: l) p = labN R (f + 1) n p ++ labL R (f + 1) l (p + (rawN R (f + 1) n p).length) := rfl
  rw [e', List.mem_append] at h
  rw [e, List.length_append]
  rcases h with h | h
  ·have key : q.2 ≤ p + (rawN R (f + 1) n p).length := by
    rw [labN] at h
    rw [rawN]
    cases hR : R[n]? with
    | none => simp [hR] at h
    | some s =>
     simp only [hR] at h
     have hd : rowR (rawN R f) = rawL R f := rfl
     have hd' : rowB (rawN R f) (labN R f) = labL R f := rfl
     simp only [hd, hd'] at h ⊢
     unfold labS at h
     unfold rawS
     by_cases k13 : s.kind = 13
     ·simp [k13] at h; simp [h]
     by_cases k6 : s.kind = 6
     ·simp [k6] at h
      have := lab_le f s.l (p + 1) q h
      simp [k6]; omega
     by_cases k5 : s.kind = 5
     ·by_cases hm : s.m = []
      ·simp [k5, hm] at h
       have := lab_le f s.l (p + 1) q h
       simp [k5, hm]; omega
      ·simp [k5, hm] at h
       rcases h with h | h
       ·have := lab_le f s.l (p + 1) q h
        simp [k5, hm]; omega
       ·have := lab_le f s.m _ q h
        simp [k5, hm]; omega
     ·simp [k13, k6, k5] at h
   omega
  ·have := lab_le (f + 1) l _ q h
   omega
 termination_by f l => (f, l.length)
structure OpG (ops : List Opr) (i : Nat) (o : Opr) : Prop where
 to : o.to < ops.length
 no : o.kind ≠ 18 → o.kind ≠ 15 → o.kind ≠ 5 → o.kind ≠ 6 → o.to = 0
 k : o.kind ≠ 13 ∧ o.kind ≠ 14 ∧ 1 ≤ o.kind ∧ o.kind ≤ 19
 fin : o.kind = 19 ↔ i + 1 = ops.length
 on : o.kind = 5 ∨ o.kind = 6 → i < o.to
 pipe : o.kind = 6 → ∀ (k : Nat) (o' : Opr), i < k → k < o.to → ops[k]? = some o' → o'.kind = 3
theorem fix_kind (ls : List (List UInt8 × Nat)) (r : Raw) : (fixR ls r).kind = r.o.kind := by unfold fixR; cases r.lab <;> rfl
theorem ops_good {md : Nat} {R : List Stm} {top : List Nat} (h : GoodP md R top) {i : Nat} {o : Opr} (hi : (opsP R top)[i]? = some o) : OpG (opsP R top) i o := by
 have hsend : ∀ s ∈ R, s.kind = 6 → ∀ n ∈ s.l, ∃ t, R[n]? = some t ∧ t.kind = 3 := by
  intro s hs k6 n hn
  obtain ⟨j, hj, rfl⟩ := List.mem_iff_getElem.1 hs
  have he := check_all h.chk (List.getElem?_eq_getElem hj)
  unfold errB at he
  split at he
  ·cases he
  ·rename_i hm
   have hn2 : n < R.length := h.wi.lt (l := R[j].l) (by have : R[j].l ∈ allL R := List.mem_flatMap.2 ⟨R[j], hs, by simp⟩; simp [this]) hn
   refine ⟨R[n], List.getElem?_eq_getElem hn2, ?_⟩
   unfold modeB at hm
   simp [k6] at hm
   have := hm.2 n hn
   rw [List.getElem?_eq_getElem hn2] at this
   simpa using this
 have hG := raw_good h.wi.fin hsend R.length top 0
 have hlen : (opsP R top).length = (rawL R R.length top 0).length + 1 := by simp [opsP]
 have hlab := lab_le (R := R) R.length top 0
 rcases Nat.lt_or_ge i (rawL R R.length top 0).length with hlt | hge
 ·unfold opsP at hi
  rw [List.getElem?_append_left (by simpa using hlt), List.getElem?_map] at hi
  obtain ⟨r, hr, rfl⟩ : ∃ r, (rawL R R.length top 0)[i]? = some r ∧ fixR (labL R R.length top 0) r = o := by
   rw [List.getElem?_eq_getElem hlt] at hi ⊢
   exact ⟨_, rfl, by simpa using hi⟩
  obtain ⟨h1, h2, h3, h4, h5, h6, h7⟩ := hG i r hr
  have hk := fix_kind (labL R R.length top 0) r
  cases hl : r.lab with
  | none =>
   have ho : fixR (labL R R.length top 0) r = r.o := by unfold fixR; rw [hl]
   obtain ⟨g1, g2, g3, g4⟩ := h7 hl
   rw [ho]
   refine ⟨by rw [hlen]; omega, g2, ⟨h1, h2, h4, by omega⟩, ⟨fun h => absurd h h3, fun h => by rw [hlen] at h; omega⟩, fun hh => by have := g3 hh; omega, fun h6' k o' hk1 hk2 ho' => ?_⟩
   have h4' := g4 h6'
   have hkl : k < (rawL R R.length top 0).length := by omega
   unfold opsP at ho'
   rw [List.getElem?_append_left (by simpa using hkl), List.getElem?_map, List.getElem?_eq_getElem hkl] at ho'
   simp only [Option.map_some, Option.some.injEq] at ho'
   rw [← ho', fix_kind]
   exact h4'.2 k _ hk1 (by omega) (List.getElem?_eq_getElem hkl)
  | some x =>
   have hk2 := h6 (by rw [hl]; simp)
   have hto : (fixR (labL R R.length top 0) r).to ≤ (rawL R R.length top 0).length := by
    unfold fixR
    rw [hl]
    simp only
    unfold toOf
    cases hf : List.find? (fun q => q.1 == x) (labL R R.length top 0) with
    | none => simp
    | some q => have := hlab q (List.mem_of_find?_eq_some hf); simp; omega
   refine ⟨by rw [hlen]; omega, fun a b => by rw [hk] at a b; omega, by rw [hk]; exact ⟨h1, h2, h4, by omega⟩, ⟨fun h => by rw [hk] at h; exact absurd h h3, fun h => by rw [hlen] at h; omega⟩, fun hh => by rw [hk] at hh; omega, fun hh => by rw [hk] at hh; omega⟩
 ·have hi2 : i = (rawL R R.length top 0).length := by
   have := (List.getElem?_eq_some_iff.1 hi).1
   rw [hlen] at this; omega
  unfold opsP at hi
  rw [List.getElem?_append_right (by simpa using hge)] at hi
  simp [hi2] at hi
  subst hi
  exact ⟨by rw [hlen]; simp [endO], by simp [endO], by simp [endO], by rw [hlen, hi2]; simp [endO], by simp [endO], by simp [endO]⟩
end Go.Proofs.YtcknfhhbijlobaaGreatDoor.D
