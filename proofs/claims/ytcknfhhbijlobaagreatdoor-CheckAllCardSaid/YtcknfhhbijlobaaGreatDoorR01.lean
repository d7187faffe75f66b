import Derived.Test.YtcknfhhbijlobaaGreatDoorR14
namespace Go.Proofs.YtcknfhhbijlobaaGreatDoor.D
open Go
set_option linter.unusedVariables false
set_option linter.unusedSimpArgs false
set_option maxRecDepth 100000
def wrd (cur : List UInt8) : List UInt8 → List (List UInt8)
 | [] => if cur = [] then [] else [cur]
 | c :: r => if c = 32 ∨ c = 9 then (if cur = [] then wrd [] r else cur :: wrd [] r) else wrd (cur ++ [c]) r
theorem rwords_ok {s : List UInt8} {H : DH} (hs : s.length < 1000000) : WC cfg 112 [.str s] H fun v H' => Ext H H' ∧ IsSn H.next H' 9 1 v ((wrd [] s).map .str) := by
 refine WC_of (show Has cfg 112 42 [.tmp 2] _ from ⟨by kernel_rfl, Tryz.f112, Tryz.func112, rfl, rfl, rfl, by kernel_rfl⟩) (by simp) ?_
 simp -dsimp (disch := first | omega | (apply DrawYes.mk; decide +kernel)) only [go_sem]
 refine Y_loop (α := Nat × Nat × List (List UInt8)) (fun k σ H' => Ext H H' ∧ σ 0 = .str s ∧ σ 5 = .int .i64 k.1 ∧ σ 4 = .int .i64 k.2.1 ∧ IsSn H.next H' 9 1 (σ 3) (k.2.2.map .str) ∧ k.1 ≤ s.length + 1 ∧ k.2.2.length ≤ k.1 ∧ ((k.1 ≤ s.length ∧ k.2.1 ≤ k.1 ∧ k.2.2 ++ wrd ((s.take k.1).drop k.2.1) (s.drop k.1) = wrd [] s) ∨ (k.1 = s.length + 1 ∧ k.2.2 = wrd [] s))) (fun k => s.length + 1 - k.1) (0, 0, []) ?_ ?_
 ·simp -dsimp (disch := first | omega | (apply DrawYes.mk; decide +kernel)) only [go_sem]
  exact ⟨Ext.refl.new, IsSn.new, .inl (Nat.zero_le _)⟩
 rintro ⟨i, f, out⟩ σ H1 ⟨hE, h0, h5, h4, ho, hi, hol, hc⟩
 dsimp only at h5 h4 ho hi hol hc
 rcases hc with ⟨hi2, hf, hw⟩ | ⟨rfl, hw⟩
 ·have i1 : (i : Int) ≤ s.length := by omega
  have hcur : ∀ c, s[i]? = some c → (s.take (i + 1)).drop f = (s.take i).drop f ++ [c] := by
   intro c hg
   rw [List.take_add_one, hg, List.drop_append_of_le_length (by rw [List.length_take]; omega)]
   rfl
  have hcl : ((s.take i).drop f).length = i - f := by rw [List.length_drop, List.length_take]; omega
  have brk : (i = s.length ∨ ∃ c, s[i]? = some c ∧ (c = 32 ∨ c = 9)) → ∀ out', out' = (if f < i then out ++ [(s.take i).drop f] else out) → (i + 1 ≤ s.length ∧ i + 1 ≤ i + 1 ∧ out' ++ wrd ((s.take (i + 1)).drop (i + 1)) (s.drop (i + 1)) = wrd [] s) ∨ (i + 1 = s.length + 1 ∧ out' = wrd [] s) := by
   intro h out' ho'
   have hcn : (((s.take i).drop f) = []) = ¬ f < i := by
    rw [← List.length_eq_zero_iff, hcl]; simp; omega
   rcases h with h | ⟨c, hg, hb⟩
   ·refine .inr ⟨by omega, ?_⟩
    rw [show s.drop i = [] from List.drop_eq_nil_of_le (by omega), wrd.eq_def] at hw
    simp only at hw
    rw [ho', ← hw]
    by_cases hfi : f < i
    ·rw [if_pos hfi, if_neg (by rw [hcn]; simpa using hfi)]
    ·rw [if_neg hfi, if_pos (by rw [hcn]; exact hfi)]; simp
   ·have hil : i < s.length := (List.getElem?_eq_some_iff.1 hg).1
    refine .inl ⟨by omega, by omega, ?_⟩
    have hd : s.drop i = c :: s.drop (i + 1) := by
     rw [List.drop_eq_getElem_cons hil, (List.getElem?_eq_some_iff.1 hg).2]
    rw [hd, wrd, if_pos hb] at hw
    have hz : (s.take (i + 1)).drop (i + 1) = [] := List.drop_eq_nil_of_le (by rw [List.length_take]; omega)
    rw [hz, ho', ← hw]
    by_cases hfi : f < i
    ·rw [if_pos hfi, if_neg (by rw [hcn]; simpa using hfi)]; simp
    ·rw [if_neg hfi, if_pos (by rw [hcn]; exact hfi)]
  by_cases hil : i < s.length
  ·have i2 : (i : Int) < s.length := by omega
   have hg : s[i]? = some s[i] := List.getElem?_eq_getElem hil
   have hd : s.drop i = s[i] :: s.drop (i + 1) := List.drop_eq_getElem_cons hil
   generalize s[i] = c at hg hd
   have hbk : c = 32 ∨ c = 9 → ∀ out', out' = (if f < i then out ++ [(s.take i).drop f] else out) → (i + 1 ≤ s.length ∧ i + 1 ≤ i + 1 ∧ out' ++ wrd ((s.take (i + 1)).drop (i + 1)) (s.drop (i + 1)) = wrd [] s) ∨ (i + 1 = s.length + 1 ∧ out' = wrd [] s) := fun h => brk (.inr ⟨c, hg, h⟩)
   by_cases c32 : c.toNat = 32
   ·have hbk2 := hbk (.inl (UInt8.toNat_inj.1 c32))
    have b1 : ((c.toNat : Int) != 32) = false := by simp; omega
    by_cases hfi : f < i
    ·have j1 : (f : Int) < i := by omega
     simp -dsimp (disch := first | omega | (apply DrawYes.mk; decide +kernel)) only [go_sem, h0, h5, h4, i1, i2, hg, b1, j1]
     repeat refine And.intro (by omega) ?_
     refine appn und_38 size_9 bytes_9 und_38 zero_9 rfl rfl (by decide) (ho.ext Ext.refl.new) rfl (by simp only [List.length_map, List.length_cons, List.length_nil]; omega) (by simp only [List.length_map, List.length_cons, List.length_nil]; omega) ?_
     intro v' H4 ho4 hs4
     simp -dsimp (disch := first | omega | (apply DrawYes.mk; decide +kernel)) only [go_sem, h0, h5, h4]
     refine ⟨(i + 1, i + 1, out ++ [(s.take i).drop f]), ⟨hs4.extn (ho.ext Ext.refl.new) hE.new, rfl, rfl, by rw [List.map_append]; exact ho4, by simp only; omega, by rw [List.length_append]; simp only [List.length_cons, List.length_nil]; omega, hbk2 _ (by rw [if_pos hfi])⟩, by simp only; omega⟩
    ·have j1 : ¬ (f : Int) < i := by omega
     simp -dsimp (disch := first | omega | (apply DrawYes.mk; decide +kernel)) only [go_sem, h0, h5, h4, i1, i2, hg, b1, j1]
     repeat refine And.intro (by omega) ?_
     exact ⟨(i + 1, i + 1, out), ⟨hE, rfl, rfl, ho, by simp only; omega, by simp only; omega, hbk2 _ (by rw [if_neg hfi])⟩, by simp only; omega⟩
   ·by_cases c9 : c.toNat = 9
    ·have hbk2 := hbk (.inr (UInt8.toNat_inj.1 c9))
     have b1 : ((c.toNat : Int) != 32) = true := by simp; omega
     have b2 : ((c.toNat : Int) != 9) = false := by simp; omega
     by_cases hfi : f < i
     ·have j1 : (f : Int) < i := by omega
      simp -dsimp (disch := first | omega | (apply DrawYes.mk; decide +kernel)) only [go_sem, h0, h5, h4, i1, i2, hg, b1, b2, j1]
      repeat refine And.intro (by omega) ?_
      refine appn und_38 size_9 bytes_9 und_38 zero_9 rfl rfl (by decide) (ho.ext Ext.refl.new) rfl (by simp only [List.length_map, List.length_cons, List.length_nil]; omega) (by simp only [List.length_map, List.length_cons, List.length_nil]; omega) ?_
      intro v' H4 ho4 hs4
      simp -dsimp (disch := first | omega | (apply DrawYes.mk; decide +kernel)) only [go_sem, h0, h5, h4]
      refine ⟨(i + 1, i + 1, out ++ [(s.take i).drop f]), ⟨hs4.extn (ho.ext Ext.refl.new) hE.new, rfl, rfl, by rw [List.map_append]; exact ho4, by simp only; omega, by rw [List.length_append]; simp only [List.length_cons, List.length_nil]; omega, hbk2 _ (by rw [if_pos hfi])⟩, by simp only; omega⟩
     ·have j1 : ¬ (f : Int) < i := by omega
      simp -dsimp (disch := first | omega | (apply DrawYes.mk; decide +kernel)) only [go_sem, h0, h5, h4, i1, i2, hg, b1, b2, j1]
      repeat refine And.intro (by omega) ?_
      exact ⟨(i + 1, i + 1, out), ⟨hE, rfl, rfl, ho, by simp only; omega, by simp only; omega, hbk2 _ (by rw [if_neg hfi])⟩, by simp only; omega⟩
    ·have b1 : ((c.toNat : Int) != 32) = true := by simp; omega
     have b2 : ((c.toNat : Int) != 9) = true := by simp; omega
     simp -dsimp (disch := first | omega | (apply DrawYes.mk; decide +kernel)) only [go_sem, h0, h5, h4, i1, i2, hg, b1, b2]
     refine ⟨by omega, by omega, (i + 1, f, out), ⟨hE, rfl, rfl, ho, by simp only; omega, by simp only; omega, .inl ⟨by simp only; omega, by simp only; omega, ?_⟩⟩, by simp only; omega⟩
     simp only
     rw [hcur c hg, ← hw, hd, wrd, if_neg]
     rintro (rfl | rfl)
     ·exact c32 rfl
     ·exact c9 rfl
  ·have hbk2 := brk (.inl (by omega))
   have i2 : ¬ (i : Int) < s.length := by omega
   by_cases hfi : f < i
   ·have j1 : (f : Int) < i := by omega
    simp -dsimp (disch := first | omega | (apply DrawYes.mk; decide +kernel)) only [go_sem, h0, h5, h4, i1, i2, j1]
    repeat refine And.intro (by omega) ?_
    refine appn und_38 size_9 bytes_9 und_38 zero_9 rfl rfl (by decide) (ho.ext Ext.refl.new) rfl (by simp only [List.length_map, List.length_cons, List.length_nil]; omega) (by simp only [List.length_map, List.length_cons, List.length_nil]; omega) ?_
    intro v' H4 ho4 hs4
    simp -dsimp (disch := first | omega | (apply DrawYes.mk; decide +kernel)) only [go_sem, h0, h5, h4]
    refine ⟨(i + 1, i + 1, out ++ [(s.take i).drop f]), ⟨hs4.extn (ho.ext Ext.refl.new) hE.new, rfl, rfl, by rw [List.map_append]; exact ho4, by simp only; omega, by rw [List.length_append]; simp only [List.length_cons, List.length_nil]; omega, hbk2 _ (by rw [if_pos hfi])⟩, by simp only; omega⟩
   ·have j1 : ¬ (f : Int) < i := by omega
    simp -dsimp (disch := first | omega | (apply DrawYes.mk; decide +kernel)) only [go_sem, h0, h5, h4, i1, i2, j1]
    repeat refine And.intro (by omega) ?_
    exact ⟨(i + 1, i + 1, out), ⟨hE, rfl, rfl, ho, by simp only; omega, by simp only; omega, hbk2 _ (by rw [if_neg hfi])⟩, by simp only; omega⟩
 ·have i1 : ¬ ((s.length + 1 : Nat) : Int) ≤ s.length := by omega
  simp -dsimp (disch := first | omega | (apply DrawYes.mk; decide +kernel)) only [go_sem, h0, h5, h4, i1]
  exact ⟨hE, by rw [← hw]; exact ho⟩
def wordsS (k : Nat) : List (List UInt8) := headsL.getD k [] :: partsL.getD k []
theorem shapes_wrd : ∀ k, k < 18 → 0 < k → wrd [] (shapeL k) = wordsS k := by decide
end Go.Proofs.YtcknfhhbijlobaaGreatDoor.D
