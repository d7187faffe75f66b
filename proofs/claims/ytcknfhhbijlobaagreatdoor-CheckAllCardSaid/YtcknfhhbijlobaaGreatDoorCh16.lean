import Derived.Test.YtcknfhhbijlobaaGreatDoorChS
import Derived.Test.YtcknfhhbijlobaaGreatDoorCh10
namespace Go.Proofs.YtcknfhhbijlobaaGreatDoor.D
open Go
set_option linter.unusedVariables false
set_option linter.unusedSimpArgs false
set_option maxRecDepth 100000
def letB (c : UInt8) (b : Bool) : Bool := smB c || (!b && (dgB c || decide (c.toNat = 95)))
theorem rlet_ok {c : UInt8} {b : Bool} {H : DH} : WC cfg 97 [byteDV c, .bool b] H fun v H' => v = .bool (letB c b) ∧ H' = H := by
 refine WC_of (show Has cfg 97 27 [.tmp 4] _ from ⟨by kernel_rfl, Tryz.f97, Tryz.func97, rfl, rfl, rfl, by kernel_rfl⟩) (by simp) ?_
 unfold letB smB dgB
 by_cases h1 : 97 ≤ c.toNat
 ·have j1 : 97 ≤ (c.toNat : Int) := by omega
  by_cases h2 : c.toNat ≤ 122
  ·have j2 : (c.toNat : Int) ≤ 122 := by omega
   simp -dsimp (disch := first | omega | (apply DrawYes.mk; decide +kernel)) only [go_sem, j1, j2]
   simp [h1, h2]
  ·have j2 : ¬ (c.toNat : Int) ≤ 122 := by omega
   have j3 : 48 ≤ (c.toNat : Int) := by omega
   have j4 : ¬ (c.toNat : Int) ≤ 57 := by omega
   have j5 : ((c.toNat : Int) == 95) = false := by simp; omega
   cases b <;> simp -dsimp (disch := first | omega | (apply DrawYes.mk; decide +kernel)) only [go_sem, j1, j2, j3, j4, j5] <;> (simp [h1, h2]; try omega)
 ·have j1 : ¬ 97 ≤ (c.toNat : Int) := by omega
  cases b
  ·by_cases h3 : 48 ≤ c.toNat
   ·have j3 : 48 ≤ (c.toNat : Int) := by omega
    by_cases h4 : c.toNat ≤ 57
    ·have j4 : (c.toNat : Int) ≤ 57 := by omega
     simp -dsimp (disch := first | omega | (apply DrawYes.mk; decide +kernel)) only [go_sem, j1, j3, j4]
     simp [h1, h3, h4]
    ·have j4 : ¬ (c.toNat : Int) ≤ 57 := by omega
     simp -dsimp (disch := first | omega | (apply DrawYes.mk; decide +kernel)) only [go_sem, j1, j3, j4]
     simp [h1, h3, h4]
     rw [Bool.eq_iff_iff]; simp; omega
   ·have j3 : ¬ 48 ≤ (c.toNat : Int) := by omega
    simp -dsimp (disch := first | omega | (apply DrawYes.mk; decide +kernel)) only [go_sem, j1, j3]
    simp [h1, h3]
    rw [Bool.eq_iff_iff]; simp; omega
  ·simp -dsimp (disch := first | omega | (apply DrawYes.mk; decide +kernel)) only [go_sem, j1]
   simp [h1]
theorem let_first {c : UInt8} : letB c true = true ↔ c ∈ smallL := by
 unfold letB; rw [← small_nat]; simp
theorem let_next {c : UInt8} : letB c false = true ↔ c ∈ wordsL := by
 unfold letB; rw [word_nat]; simp
theorem rlet_eq {c : UInt8} {b : Bool} {H : DH} {K : DV → DH → Prop} {l : Later K} : WK cfg 97 [.int .u8 (c.toNat : Int), .bool b] H l = K (.bool (letB c b)) H := WK_det rlet_ok
theorem goT_skip {c : UInt8} {r : List UInt8} {acc : List (List UInt8)} (hc : c ≠ 36) : goT (c :: r) acc = goT r acc := by
 rw [goT_step, goT_step (t := r)]
 have e : (36 ∉ c :: r) = (36 ∉ r) := by rw [List.mem_cons]; simp [Ne.symm hc]
 simp only [e]
 have e2 : ((c :: r).takeWhile (· != 36)) = c :: r.takeWhile (· != 36) := by rw [List.takeWhile_cons, if_pos (by simpa using hc)]
 rw [e2, List.length_cons, List.drop_succ_cons]
theorem goT_sign {r : List UInt8} {acc : List (List UInt8)} : goT (36 :: r) acc = match nameCut r with
   | none => none
   | some (nm, r) => goT r (if nm = [36] then acc else acc ++ [nm]) := by
 rw [goT_step, if_neg (by simp)]
 rfl
theorem goT_nil {acc : List (List UInt8)} : goT [] acc = some acc := by rw [goT_step, if_pos (by simp)]
theorem name16 {t : List UInt8} {a k : Nat} (h1 : a + 1 ≤ k) (h2 : k ≤ t.length) (hl : ∀ i d, a + 1 ≤ i → i < k → t[i]? = some d → letB d (decide (i = a + 1)) = true) (he : ∀ d, t[k]? = some d → letB d (decide (k = a + 1)) = false) :
  nameCut (t.drop (a + 1)) = if a + 1 < k then some ((t.take k).drop (a + 1), t.drop k) else if t[k]? = some 36 then some ([36], t.drop (k + 1)) else none := by
 by_cases hlt : a + 1 < k
 ·rw [if_pos hlt]
  have hg : t[a + 1]? = some t[a + 1] := List.getElem?_eq_getElem (by omega)
  have hd : t.drop (a + 1) = t[a + 1] :: t.drop (a + 1 + 1) := List.drop_eq_getElem_cons (by omega)
  generalize t[a + 1] = d at hg hd
  have hs : d ∈ smallL := let_first.1 (by have := hl (a + 1) d (Nat.le_refl _) hlt hg; rwa [decide_eq_true rfl] at this)
  have h36 : d ≠ 36 := by rintro rfl; revert hs; decide
  have hn : ((t.drop (a + 1)).takeWhile fun d => wordsL.contains d).length = k - (a + 1) := by
   refine tw_at _ _ (fun i x hi hx => ?_) (by rw [List.length_drop]; omega) (fun x hx => ?_)
   ·rw [List.getElem?_drop] at hx
    by_cases h0 : i = 0
    ·subst h0
     rw [Nat.add_zero, hg] at hx
     cases hx
     simpa using small_words hs
    ·have := hl _ x (by omega) (by omega) hx
     rw [decide_eq_false (by omega), let_next] at this
     simpa using this
   ·rw [List.getElem?_drop, show a + 1 + (k - (a + 1)) = k by omega] at hx
    have := he x hx
    rw [decide_eq_false (by omega)] at this
    rw [Bool.eq_false_iff]; intro h
    rw [let_next.2 (by simpa using h)] at this; cases this
  have e1 : ((t.drop (a + 1)).takeWhile fun d => wordsL.contains d) = (t.drop (a + 1)).take (k - (a + 1)) := by
   rw [← hn]; exact List.prefix_iff_eq_take.1 (List.takeWhile_prefix _)
  have e2 : ((t.drop (a + 1)).dropWhile fun d => wordsL.contains d) = (t.drop (a + 1)).drop (k - (a + 1)) := by
   have h := List.takeWhile_append_dropWhile (p := fun d => wordsL.contains d) (l := t.drop (a + 1))
   rw [e1] at h
   exact List.append_cancel_left (h.trans (List.take_append_drop _ _).symm)
  rw [hd, nameCut, if_neg h36, if_pos hs, ← hd, e1, e2, List.drop_drop, show a + 1 + (k - (a + 1)) = k by omega, List.drop_take]
 ·rw [if_neg hlt]
  obtain rfl : k = a + 1 := by omega
  cases hg : t[a + 1]? with
  | none =>
   rw [if_neg (by simp), List.drop_eq_nil_of_le (by simpa using hg)]; rfl
  | some d =>
   have hb : a + 1 < t.length := (List.getElem?_eq_some_iff.1 hg).1
   have hd : t.drop (a + 1) = d :: t.drop (a + 1 + 1) := by rw [List.drop_eq_getElem_cons hb, (List.getElem?_eq_some_iff.1 hg).2]
   have hs : d ∉ smallL := fun h => by
    have := he d hg
    rw [decide_eq_true rfl, let_first.2 h] at this; cases this
   rw [hd, nameCut]
   by_cases h36 : d = 36
   ·subst h36; rw [if_pos rfl, if_pos rfl]
   ·rw [if_neg h36, if_neg hs, if_neg (by simpa using h36)]
def prtD (p : List UInt8 × Bool) : DV := .agg [.str p.1, .bool p.2]
def nmsL (l : List (List UInt8 × Bool)) : List (List UInt8) := (l.filter (·.2)).map (·.1)
theorem nmsL_add {l : List (List UInt8 × Bool)} {t : List UInt8} {b : Bool} : nmsL (l ++ [(t, b)]) = if b then nmsL l ++ [t] else nmsL l := by
 unfold nmsL; cases b <;> simp
theorem rparts_ok {t : List UInt8} {H : DH} (ht : t.length < 1000000) : WC cfg 64 [.str t] H fun v H' => Ext H H' ∧
  ∃ pv, v = .tup [pv, .bool (namesL t).isSome] ∧ ∃ ps : List (List UInt8 × Bool), SlV 2 pv (ps.map prtD) ∧ ps.length ≤ t.length ∧ ∀ l, namesL t = some l → nmsL ps = l := by
 refine WC_of (show Has cfg 64 76 [.tmp 2, .tmp 3] _ from ⟨by kernel_rfl, Tryz.f64, Tryz.func64, rfl, rfl, rfl, by kernel_rfl⟩) (by simp) ?_
 simp -dsimp (disch := first | omega | (apply DrawYes.mk; decide +kernel)) only [go_sem]
 unfold namesL
 refine Y_loop (α := Nat × List (List UInt8 × Bool)) (fun x σ H' => Ext H H' ∧ σ 0 = .str t ∧ σ 5 = .int .i64 x.1 ∧ IsSn H.next H' 96 2 (σ 4) (x.2.map prtD) ∧ x.1 ≤ t.length ∧ x.2.length ≤ x.1 ∧ goT t [] = goT (t.drop x.1) (nmsL x.2)) (fun x => t.length - x.1) (0, []) ?_ ?_
 ·simp -dsimp (disch := first | omega | (apply DrawYes.mk; decide +kernel)) only [go_sem]
  exact ⟨Ext.refl.new, IsSn.new, Nat.zero_le _, rfl⟩
 rintro ⟨a, ps⟩ σ H1 ⟨hE, s0, s5, ho, ha, hps, hgo⟩
 dsimp only at s5 ho ha hps hgo
 by_cases hlt : a < t.length
 ·have i0 : (a : Int) < t.length := by omega
  have hg : t[a]? = some t[a] := List.getElem?_eq_getElem hlt
  have hd : t.drop a = t[a] :: t.drop (a + 1) := List.drop_eq_getElem_cons hlt
  generalize t[a] = c at hg hd
  rw [hd] at hgo
  by_cases hc : c.toNat = 36
  ·have b1 : ((c.toNat : Int) != 36) = false := by simp; omega
   obtain rfl : c = 36 := UInt8.toNat_inj.1 hc
   rw [goT_sign] at hgo
   have i1 : ((a + 1 : Nat) : Int) ≤ t.length := by omega
   simp -dsimp (disch := first | omega | (apply DrawYes.mk; decide +kernel)) only [go_sem, s0, s5, i0, hg, b1]
   repeat refine And.intro (by omega) ?_
   refine Y_loop (α := Nat) (fun k σ' H' => H' = H1 ∧ a + 1 ≤ k ∧ k ≤ t.length ∧ (∀ i d, a + 1 ≤ i → i < k → t[i]? = some d → letB d (decide (i = a + 1)) = true) ∧ σ' 0 = .str t ∧ σ' 5 = .int .i64 a ∧ σ' 4 = σ 4 ∧ σ' 6 = .int .i64 k) (fun k => t.length - k) (a + 1) ?_ ?_
   ·simp -dsimp (disch := first | omega | (apply DrawYes.mk; decide +kernel)) only [go_sem, s0, s5]
    exact ⟨by omega, by omega, fun i d h1 h2 => by omega, rfl⟩
   rintro k σ2 H2 ⟨rfl, hk1, hk2, hlet, r0, r5, r4, r6⟩
   have hcond : (∃ d, t[k]? = some d ∧ letB d (decide (k = a + 1)) = true) ∨ (∀ d, t[k]? = some d → letB d (decide (k = a + 1)) = false) := by
    cases h : t[k]? with
    | none => right; intro d hd'; cases hd'
    | some d =>
     cases h2 : letB d (decide (k = a + 1)) with
     | true => left; exact ⟨d, rfl, h2⟩
     | false => right; intro d' h'; cases h'; exact h2
   have hdec : ((k : Int) == (a : Int) + 1) = decide (k = a + 1) := by rw [Bool.eq_iff_iff]; simp; omega
   have q1 : ¬ (a : Int) + 1 < k ∨ (a : Int) + 1 < k := by omega
   rcases hcond with ⟨d, hgd, hb⟩ | hno
   ·have hkl : k < t.length := (List.getElem?_eq_some_iff.1 hgd).1
    have i2 : (k : Int) < t.length := by omega
    simp -dsimp (disch := first | omega | (apply DrawYes.mk; decide +kernel)) only [go_sem, r0, r5, r4, r6, i2, hgd, hdec, rlet_eq, hb]
    repeat refine And.intro (by omega) ?_
    refine ⟨k + 1, ⟨by omega, by omega, ?_, rfl⟩, by omega⟩
    intro i x h1 h2 h3
    by_cases hik : i = k
    ·subst hik; rw [hgd] at h3; cases h3; exact hb
    ·exact hlet i x h1 (by omega) h3
   ·rw [name16 hk1 hk2 hlet hno] at hgo
    by_cases hak : a + 1 < k
    ·rw [if_pos hak] at hgo
     have i3 : (a : Int) + 1 < k := by omega
     dsimp only at hgo
     have hne : ¬ (t.take k).drop (a + 1) = [36] := by
      intro h
      have hg1 : t[a + 1]? = some t[a + 1] := List.getElem?_eq_getElem (by omega)
      have h3 := hlet (a + 1) _ (Nat.le_refl _) hak hg1
      rw [decide_eq_true rfl, let_first] at h3
      have h4 : ((t.take k).drop (a + 1))[0]? = some t[a + 1] := by rw [List.getElem?_drop, List.getElem?_take, if_pos (by omega)]; exact hg1
      rw [h] at h4
      simp at h4
      rw [← h4] at h3; revert h3; decide
     rw [if_neg hne] at hgo
     have i1 : (a : Int) + 1 ≤ k := by omega
     cases hgk : t[k]? with
     | none =>
      have hkl : t.length ≤ k := by simpa using hgk
      have i2 : ¬ (k : Int) < t.length := by omega
      simp -dsimp (disch := first | omega | (apply DrawYes.mk; decide +kernel)) only [go_sem, r0, r5, r4, r6, i2, i3, i1]
      repeat refine And.intro (by omega) ?_
      rw [show ((a : Int) + 1).toNat = a + 1 by omega]
      refine appn und_92 size_96 bytes_96 und_92 zero_96 rfl rfl (by decide) (ho.ext Ext.refl.new) rfl (by simp only [List.length_map, List.length_cons, List.length_nil]; omega) (by simp only [List.length_map, List.length_cons, List.length_nil]; omega) ?_
      intro v' H4 ho4 hs4
      simp -dsimp (disch := first | omega | (apply DrawYes.mk; decide +kernel)) only [go_sem, r0, r5, r4, r6]
      repeat refine And.intro (by omega) ?_
      refine ⟨(k, ps ++ [((t.take k).drop (a + 1), true)]), ⟨hs4.extn (ho.ext Ext.refl.new) hE.new, rfl, by rw [List.map_append]; exact ho4, by simp only; omega, by rw [List.length_append]; simp only [List.length_cons, List.length_nil]; omega, ?_⟩, by simp only; omega⟩
      simp only
      rw [nmsL_add]; exact hgo
     | some d =>
      have hkl : k < t.length := (List.getElem?_eq_some_iff.1 hgk).1
      have i2 : (k : Int) < t.length := by omega
      have hb := hno d hgk
      simp -dsimp (disch := first | omega | (apply DrawYes.mk; decide +kernel)) only [go_sem, r0, r5, r4, r6, i2, hgk, hdec, rlet_eq, hb, i3, i1]
      repeat refine And.intro (by omega) ?_
      rw [show ((a : Int) + 1).toNat = a + 1 by omega]
      refine appn und_92 size_96 bytes_96 und_92 zero_96 rfl rfl (by decide) (ho.ext Ext.refl.new) rfl (by simp only [List.length_map, List.length_cons, List.length_nil]; omega) (by simp only [List.length_map, List.length_cons, List.length_nil]; omega) ?_
      intro v' H4 ho4 hs4
      simp -dsimp (disch := first | omega | (apply DrawYes.mk; decide +kernel)) only [go_sem, r0, r5, r4, r6]
      repeat refine And.intro (by omega) ?_
      refine ⟨(k, ps ++ [((t.take k).drop (a + 1), true)]), ⟨hs4.extn (ho.ext Ext.refl.new) hE.new, rfl, by rw [List.map_append]; exact ho4, by simp only; omega, by rw [List.length_append]; simp only [List.length_cons, List.length_nil]; omega, ?_⟩, by simp only; omega⟩
      simp only
      rw [nmsL_add]; exact hgo
    ·rw [if_neg hak] at hgo
     have i3 : ¬ (a : Int) + 1 < k := by omega
     cases hgk : t[k]? with
     | none =>
      have hkl : t.length ≤ k := by simpa using hgk
      have i2 : ¬ (k : Int) < t.length := by omega
      have i4 : (t.length : Int) ≤ k := by omega
      rw [hgk, if_neg (by simp)] at hgo
      dsimp only at hgo
      simp -dsimp (disch := first | omega | (apply DrawYes.mk; decide +kernel)) only [go_sem, r0, r5, r4, r6, i2, i3, i4]
      exact ⟨hE, _, by rw [hgo]; rfl, [], .inl ⟨rfl, rfl⟩, Nat.zero_le _, fun l h => by rw [hgo] at h; cases h⟩
     | some d =>
      have hkl : k < t.length := (List.getElem?_eq_some_iff.1 hgk).1
      have i2 : (k : Int) < t.length := by omega
      have i4 : ¬ (t.length : Int) ≤ k := by omega
      have hb := hno d hgk
      by_cases h36 : d.toNat = 36
      ·obtain rfl : d = 36 := UInt8.toNat_inj.1 h36
       rw [hgk, if_pos rfl] at hgo
       dsimp only at hgo
       rw [if_pos rfl] at hgo
       have b2 : ((UInt8.toNat 36 : Int) != 36) = false := by simp
       simp -dsimp (disch := first | omega | (apply DrawYes.mk; decide +kernel)) only [go_sem, r0, r5, r4, r6, i2, hgk, hdec, rlet_eq, hb, i3, i4, b2]
       repeat refine And.intro (by omega) ?_
       refine appn und_92 size_96 bytes_96 und_92 zero_96 rfl rfl (by decide) (ho.ext Ext.refl.new) rfl (by simp only [List.length_map, List.length_cons, List.length_nil]; omega) (by simp only [List.length_map, List.length_cons, List.length_nil]; omega) ?_
       intro v' H4 ho4 hs4
       simp -dsimp (disch := first | omega | (apply DrawYes.mk; decide +kernel)) only [go_sem, r0, r5, r4, r6]
       repeat refine And.intro (by omega) ?_
       refine ⟨(k + 1, ps ++ [([36], false)]), ⟨hs4.extn (ho.ext Ext.refl.new) hE.new, rfl, by rw [List.map_append]; exact ho4, by simp only; omega, by rw [List.length_append]; simp only [List.length_cons, List.length_nil]; omega, ?_⟩, by simp only; omega⟩
       simp only
       rw [nmsL_add]; exact hgo
      ·rw [hgk, if_neg (by intro h; cases h; exact h36 rfl)] at hgo
       dsimp only at hgo
       have b2 : ((d.toNat : Int) != 36) = true := by simp; omega
       simp -dsimp (disch := first | omega | (apply DrawYes.mk; decide +kernel)) only [go_sem, r0, r5, r4, r6, i2, hgk, hdec, rlet_eq, hb, i3, i4, b2]
       refine And.intro (by omega) (And.intro (by omega) ?_)
       exact ⟨hE, _, by rw [hgo]; rfl, [], .inl ⟨rfl, rfl⟩, Nat.zero_le _, fun l h => by rw [hgo] at h; cases h⟩
  ·have b1 : ((c.toNat : Int) != 36) = true := by simp; omega
   rw [goT_skip (by intro h; subst h; exact hc rfl)] at hgo
   simp -dsimp (disch := first | omega | (apply DrawYes.mk; decide +kernel)) only [go_sem, s0, s5, i0, hg, b1]
   repeat refine And.intro (by omega) ?_
   refine appn und_92 size_96 bytes_96 und_92 zero_96 rfl rfl (by decide) (ho.ext Ext.refl.new) rfl (by simp only [List.length_map, List.length_cons, List.length_nil]; omega) (by simp only [List.length_map, List.length_cons, List.length_nil]; omega) ?_
   intro v' H4 ho4 hs4
   simp -dsimp (disch := first | omega | (apply DrawYes.mk; decide +kernel)) only [go_sem, s0, s5]
   repeat refine And.intro (by omega) ?_
   refine ⟨(a + 1, ps ++ [((t.take (a + 1)).drop a, false)]), ⟨hs4.extn (ho.ext Ext.refl.new) hE.new, rfl, by rw [List.map_append]; exact ho4, by simp only; omega, by rw [List.length_append]; simp only [List.length_cons, List.length_nil]; omega, ?_⟩, by simp only; omega⟩
   simp only
   rw [nmsL_add]; exact hgo
 ·have i0 : ¬ (a : Int) < t.length := by omega
  rw [List.drop_eq_nil_of_le (by omega), goT_nil] at hgo
  obtain ⟨id, off, kk, hk, _⟩ := ho
  simp -dsimp (disch := first | omega | (apply DrawYes.mk; decide +kernel)) only [go_sem, s0, s5, i0, hk]
  rw [hgo]
  exact ⟨hE, _, rfl, ps, .inr ⟨_, _, rfl⟩, by omega, fun l h => Option.some.inj h⟩
theorem nms_take {ps : List (List UInt8 × Bool)} {k : Nat} {t : List UInt8} {b : Bool} (h : ps[k]? = some (t, b)) : nmsL (ps.take (k + 1)) = if b then nmsL (ps.take k) ++ [t] else nmsL (ps.take k) := by
 rw [List.take_add_one, h]; exact nmsL_add
theorem rnames_ok {t : List UInt8} {H : DH} (ht : t.length < 1000000) : WC cfg 31 [.str t] H fun v H' => Ext H H' ∧
  ∃ nv, v = .tup [nv, .bool (namesL t).isSome] ∧ ∃ ns : List (List UInt8), SlV 1 nv (ns.map .str) ∧ ns.length ≤ t.length ∧ ∀ l, namesL t = some l → ns = l := by
 refine WC_of (show Has cfg 31 35 [.tmp 2, .tmp 3] _ from ⟨by kernel_rfl, Tryz.f31, Tryz.func31, rfl, rfl, rfl, by kernel_rfl⟩) (by simp) ?_
 simp -dsimp (disch := first | omega | (apply DrawYes.mk; decide +kernel)) only [go_sem]
 refine call (rparts_ok ht) ?_
 rintro _ H1 ⟨hE, pv, rfl, ps, hsl, hpl, hps⟩
 have hlen := fun H => hsl.len (H := H) und_92
 rw [List.length_map] at hlen
 have hone : pv.cells = [pv] ∧ pv.one = true := by rcases hsl with ⟨rfl, _⟩ | ⟨_, _, rfl⟩ <;> exact ⟨rfl, rfl⟩
 obtain ⟨c1, c2⟩ := hone
 generalize (namesL t).isSome = ok
 simp -dsimp (disch := first | omega | (apply DrawYes.mk; decide +kernel)) only [go_sem, c1, c2]
 refine Y_loop (α := Nat) (fun k σ H' => Ext H1 H' ∧ k ≤ ps.length ∧ σ 4 = pv ∧ σ 5 = .bool ok ∧ σ 7 = .int .i64 k ∧ IsSn H1.next H' 9 1 (σ 6) ((nmsL (ps.take k)).map .str) ∧ (nmsL (ps.take k)).length ≤ k) (fun k => ps.length - k) 0 ?_ ?_
 ·simp -dsimp (disch := first | omega | (apply DrawYes.mk; decide +kernel)) only [go_sem]
  exact ⟨Ext.refl.new, Nat.zero_le _, IsSn.new, Nat.le_refl _⟩
 rintro k σ H2 ⟨hE2, hk, s4, s5, s7, ho, hnl⟩
 by_cases hlt : k < ps.length
 ·have i0 : (k : Int) < ps.length := by omega
  obtain ⟨id, off, rfl⟩ : ∃ id off, pv = .sl id 2 off (ps.map prtD) := by
   rcases hsl with ⟨_, h⟩ | h
   ·rw [List.map_eq_nil_iff] at h; rw [h] at hlt; simp at hlt
   ·exact h
  have hgl : ps[k]? = some ps[k] := List.getElem?_eq_getElem hlt
  generalize ps[k] = q at hgl
  obtain ⟨w, b⟩ := q
  have hgm : (ps.map prtD)[k]? = some (.agg [.str w, .bool b]) := by rw [List.getElem?_map, hgl]; rfl
  have htk := nms_take hgl
  cases b with
  | false =>
   rw [if_neg (by decide)] at htk
   simp -dsimp (disch := first | omega | (apply DrawYes.mk; decide +kernel)) only [go_sem, s4, s5, s7, i0, hlen, hgm]
   repeat refine And.intro (by omega) ?_
   refine ⟨k + 1, ⟨hE2, by omega, rfl, by rw [htk]; exact ho, by rw [htk]; omega⟩, by omega⟩
  | true =>
   rw [if_pos rfl] at htk
   simp -dsimp (disch := first | omega | (apply DrawYes.mk; decide +kernel)) only [go_sem, s4, s5, s7, i0, hlen, hgm]
   repeat refine And.intro (by omega) ?_
   refine appn und_38 size_9 bytes_9 und_38 zero_9 rfl rfl (by decide) (ho.ext Ext.refl.new) rfl (by simp only [List.length_map, List.length_cons, List.length_nil]; omega) (by simp only [List.length_map, List.length_cons, List.length_nil]; omega) ?_
   intro v' H4 ho4 hs4
   simp -dsimp (disch := first | omega | (apply DrawYes.mk; decide +kernel)) only [go_sem, s4, s5, s7]
   repeat refine And.intro (by omega) ?_
   refine ⟨k + 1, ⟨hs4.extn (ho.ext Ext.refl.new) hE2.new, by omega, rfl, by rw [htk, List.map_append]; exact ho4, by rw [htk, List.length_append]; simp only [List.length_cons, List.length_nil]; omega⟩, by omega⟩
 ·have i0 : ¬ (k : Int) < ps.length := by omega
  obtain rfl : k = ps.length := by omega
  rw [List.take_length] at ho hnl
  obtain ⟨c1, c2⟩ := ho.one
  simp -dsimp (disch := first | omega | (apply DrawYes.mk; decide +kernel)) only [go_sem, s4, s5, s7, i0, hlen, c1, c2]
  exact ⟨hE.trans hE2, _, rfl, nmsL ps, ho.slv, by omega, hps⟩
end Go.Proofs.YtcknfhhbijlobaaGreatDoor.D
