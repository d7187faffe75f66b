import Derived.Test.YtcknfhhbijlobaaGreatDoorChL
namespace Go.Proofs.YtcknfhhbijlobaaGreatDoor.D
open Go
set_option linter.unusedVariables false
set_option linter.unusedSimpArgs false
set_option maxRecDepth 100000
def dig10 (c : UInt8) : Bool := decide (48 ≤ c.toNat) && decide (c.toNat ≤ 57)
theorem dig10_mem {c : UInt8} : dig10 c = digitsL.contains c := by
 rw [Bool.eq_iff_iff, List.contains_iff_mem]
 unfold dig10
 rw [Bool.and_eq_true, decide_eq_true_eq, decide_eq_true_eq]
 constructor
 ·rintro ⟨h1, h2⟩
  have : ∀ n, n < 58 → 48 ≤ n → UInt8.ofNat n ∈ digitsL := by decide
  have h3 := this c.toNat (by omega) h1
  rwa [UInt8.ofNat_toNat] at h3
 ·intro h
  exact digits_dig c h
theorem rdigit10_ok {c : UInt8} {H : DH} : WC cfg 96 [byteDV c] H fun v H' => v = .bool (dig10 c) ∧ H' = H := by
 refine WC_of (show Has cfg 96 9 [.tmp 2] _ from ⟨by kernel_rfl, Tryz.f96, Tryz.func96, rfl, rfl, rfl, by kernel_rfl⟩) (by simp) ?_
 unfold dig10
 by_cases h1 : 48 ≤ c.toNat
 ·have i1 : (48 : Int) ≤ c.toNat := by omega
  rw [decide_eq_true h1]
  simp -dsimp (disch := first | omega | (apply DrawYes.mk; decide +kernel)) only [go_sem, i1]
  congr 1
  rw [Bool.eq_iff_iff]; simp
  omega
 ·have i1 : ¬ (48 : Int) ≤ c.toNat := by omega
  rw [decide_eq_false h1]
  simp -dsimp (disch := first | omega | (apply DrawYes.mk; decide +kernel)) only [go_sem, i1]
  rfl
theorem rpattern_ok {md : Nat} {s : List UInt8} {H : DH} : WC cfg 63 [.int .i64 md, .str s] H fun v H' => v = .bool (patB md s) ∧ H' = H := by
 refine WC_of (show Has cfg 63 55 [.tmp 4] _ from ⟨by kernel_rfl, Tryz.f63, Tryz.func63, rfl, rfl, rfl, by kernel_rfl⟩) (by simp) ?_
 by_cases m2 : md = 2
 ·subst m2
  rw [patB_sign]
  by_cases q1 : s = [43]
  ·have c1 : (s == [43]) = true := beq_iff_eq.2 q1
   simp -dsimp (disch := first | omega | (apply DrawYes.mk; decide +kernel)) only [go_sem, c1]
   simp [q1]
  have c1 : (s == [43]) = false := beq_eq_false_iff_ne.2 q1
  by_cases q2 : s = [45]
  ·have c2 : (s == [45]) = true := beq_iff_eq.2 q2
   simp -dsimp (disch := first | omega | (apply DrawYes.mk; decide +kernel)) only [go_sem, c1, c2]
   simp [q2]
  have c2 : (s == [45]) = false := beq_eq_false_iff_ne.2 q2
  simp -dsimp (disch := first | omega | (apply DrawYes.mk; decide +kernel)) only [go_sem, c1, c2]
  congr 1
  rw [Bool.eq_iff_iff]; simp [q1, q2]
 ·have b2 : ((md : Int) == 2) = false := by simp; omega
  by_cases m13 : md = 1 ∨ md = 3
  ·rw [patB_num m13]
   have hm13 : (((md : Int) != 1) = false) ∨ (((md : Int) != 1) = true ∧ ((md : Int) != 3) = false) := by
    rcases m13 with h | h
    ·exact .inl (by simp; omega)
    ·exact .inr ⟨by simp; omega, by simp; omega⟩
   cases s with
   | nil =>
    have hv : (decide (([] : List UInt8).length ≤ 3) && numB []) = false := by rfl
    rw [hv]
    rcases hm13 with b1 | ⟨b1, b3⟩
    ·simp -dsimp (disch := first | omega | (apply DrawYes.mk; decide +kernel)) only [go_sem, b2, b1]
    ·simp -dsimp (disch := first | omega | (apply DrawYes.mk; decide +kernel)) only [go_sem, b2, b1, b3]
   | cons c r =>
    have hlen : (c :: r).length = r.length + 1 := rfl
    have k1 : ¬ ((r.length + 1 : Nat) : Int) < 1 := by omega
    by_cases hl3 : (c :: r).length ≤ 3
    ·rw [decide_eq_true hl3, Bool.true_and]
     rw [hlen] at hl3
     have k2 : ¬ (3 : Int) < ((r.length + 1 : Nat) : Int) := by omega
     by_cases hc : c ∈ firstL
     ·have hcc : 49 ≤ c.toNat ∧ c.toNat ≤ 53 := by
       have : ∀ x ∈ firstL, 49 ≤ x.toNat ∧ x.toNat ≤ 53 := by decide
       exact this c hc
      have k3 : ¬ (c.toNat : Int) < 49 := by omega
      have k4 : ¬ (53 : Int) < c.toNat := by omega
      have hcf : firstL.contains c = true := by simpa using hc
      have hnv : numB (c :: r) = (c :: r).all fun d => digitsL.contains d := by
       show (firstL.contains c && (c :: r).all fun d => digitsL.contains d) = _
       rw [hcf, Bool.true_and]
      rw [hnv]
      rcases hm13 with b1 | ⟨b1, b3⟩
      ·simp -dsimp (disch := first | omega | (apply DrawYes.mk; decide +kernel)) only [go_sem, b2, b1, k1, k2, k3, k4]
       have ht : ∃ t, t = c :: r := ⟨_, rfl⟩
       obtain ⟨t, ht⟩ := ht
       have htl : t.length ≤ 3 := by rw [ht, hlen]; exact hl3
       rw [← ht]
       refine Y_loop (α := Nat) (fun k σ H' => H' = H ∧ k ≤ t.length ∧ (∀ d ∈ t.take k, digitsL.contains d = true) ∧ σ 1 = .str t ∧ σ 5 = .int .i64 k) (fun k => t.length - k) 0 ?_ ?_
       ·simp -dsimp (disch := first | omega | (apply DrawYes.mk; decide +kernel)) only [go_sem, ht]
        simp
       rintro k σ H1 ⟨rfl, hk, hall, s1, s5⟩
       by_cases hlt : k < t.length
       ·have i0 : (k : Int) < t.length := by omega
        have hg : t[k]? = some t[k] := List.getElem?_eq_getElem hlt
        have hmem : t[k] ∈ t := List.getElem_mem hlt
        generalize t[k] = d at hg hmem
        simp -dsimp (disch := first | omega | (apply DrawYes.mk; decide +kernel)) only [go_sem, s1, s5, i0, hg]
        repeat refine And.intro (by omega) ?_
        refine call rdigit10_ok ?_
        rintro _ _ ⟨rfl, rfl⟩
        rw [dig10_mem]
        cases hd : digitsL.contains d with
        | true =>
         simp -dsimp (disch := first | omega | (apply DrawYes.mk; decide +kernel)) only [go_sem, s1, s5, i0]
         repeat refine And.intro (by omega) ?_
         refine ⟨k + 1, ⟨by omega, ?_, rfl⟩, by omega⟩
         intro x hx
         rw [List.take_add_one, hg] at hx
         rcases List.mem_append.1 hx with hx | hx
         ·exact hall x hx
         ·simp only [Option.toList_some, List.mem_singleton] at hx; subst hx; exact hd
        | false =>
         simp -dsimp (disch := first | omega | (apply DrawYes.mk; decide +kernel)) only [go_sem, s1, s5, i0]
         have : (t.all fun d => digitsL.contains d) = false := by rw [List.all_eq_false]; exact ⟨d, hmem, by rw [hd]; decide⟩
         rw [this]
       ·have i0 : ¬ (k : Int) < t.length := by omega
        simp -dsimp (disch := first | omega | (apply DrawYes.mk; decide +kernel)) only [go_sem, s1, s5, i0]
        rw [List.take_of_length_le (by omega)] at hall
        rw [List.all_eq_true.2 hall]
      ·simp -dsimp (disch := first | omega | (apply DrawYes.mk; decide +kernel)) only [go_sem, b2, b1, b3, k1, k2, k3, k4]
       have ht : ∃ t, t = c :: r := ⟨_, rfl⟩
       obtain ⟨t, ht⟩ := ht
       have htl : t.length ≤ 3 := by rw [ht, hlen]; exact hl3
       rw [← ht]
       refine Y_loop (α := Nat) (fun k σ H' => H' = H ∧ k ≤ t.length ∧ (∀ d ∈ t.take k, digitsL.contains d = true) ∧ σ 1 = .str t ∧ σ 5 = .int .i64 k) (fun k => t.length - k) 0 ?_ ?_
       ·simp -dsimp (disch := first | omega | (apply DrawYes.mk; decide +kernel)) only [go_sem, ht]
        simp
       rintro k σ H1 ⟨rfl, hk, hall, s1, s5⟩
       by_cases hlt : k < t.length
       ·have i0 : (k : Int) < t.length := by omega
        have hg : t[k]? = some t[k] := List.getElem?_eq_getElem hlt
        have hmem : t[k] ∈ t := List.getElem_mem hlt
        generalize t[k] = d at hg hmem
        simp -dsimp (disch := first | omega | (apply DrawYes.mk; decide +kernel)) only [go_sem, s1, s5, i0, hg]
        repeat refine And.intro (by omega) ?_
        refine call rdigit10_ok ?_
        rintro _ _ ⟨rfl, rfl⟩
        rw [dig10_mem]
        cases hd : digitsL.contains d with
        | true =>
         simp -dsimp (disch := first | omega | (apply DrawYes.mk; decide +kernel)) only [go_sem, s1, s5, i0]
         repeat refine And.intro (by omega) ?_
         refine ⟨k + 1, ⟨by omega, ?_, rfl⟩, by omega⟩
         intro x hx
         rw [List.take_add_one, hg] at hx
         rcases List.mem_append.1 hx with hx | hx
         ·exact hall x hx
         ·simp only [Option.toList_some, List.mem_singleton] at hx; subst hx; exact hd
        | false =>
         simp -dsimp (disch := first | omega | (apply DrawYes.mk; decide +kernel)) only [go_sem, s1, s5, i0]
         have : (t.all fun d => digitsL.contains d) = false := by rw [List.all_eq_false]; exact ⟨d, hmem, by rw [hd]; decide⟩
         rw [this]
       ·have i0 : ¬ (k : Int) < t.length := by omega
        simp -dsimp (disch := first | omega | (apply DrawYes.mk; decide +kernel)) only [go_sem, s1, s5, i0]
        rw [List.take_of_length_le (by omega)] at hall
        rw [List.all_eq_true.2 hall]
     ·have hcc : (c.toNat : Int) < 49 ∨ (¬ (c.toNat : Int) < 49 ∧ (53 : Int) < c.toNat) := by
       have : ∀ n, n < 54 → 49 ≤ n → UInt8.ofNat n ∈ firstL := by decide
       by_cases h1 : c.toNat < 49
       ·exact .inl (by omega)
       ·by_cases h2 : 53 < c.toNat
        ·exact .inr ⟨by omega, by omega⟩
        ·have := this c.toNat (by omega) (by omega)
         rw [UInt8.ofNat_toNat] at this
         exact absurd this hc
      have hv : numB (c :: r) = false := by
       show (firstL.contains c && (c :: r).all fun d => digitsL.contains d) = false
       rw [show firstL.contains c = false by simpa using hc, Bool.false_and]
      rw [hv]
      rcases hcc with k3 | ⟨k3, k4⟩
      ·rcases hm13 with b1 | ⟨b1, b3⟩
       ·simp -dsimp (disch := first | omega | (apply DrawYes.mk; decide +kernel)) only [go_sem, b2, b1, k1, k2, k3]
       ·simp -dsimp (disch := first | omega | (apply DrawYes.mk; decide +kernel)) only [go_sem, b2, b1, b3, k1, k2, k3]
      ·rcases hm13 with b1 | ⟨b1, b3⟩
       ·simp -dsimp (disch := first | omega | (apply DrawYes.mk; decide +kernel)) only [go_sem, b2, b1, k1, k2, k3, k4]
       ·simp -dsimp (disch := first | omega | (apply DrawYes.mk; decide +kernel)) only [go_sem, b2, b1, b3, k1, k2, k3, k4]
    ·rw [decide_eq_false hl3, Bool.false_and]
     rw [hlen] at hl3
     have k2 : (3 : Int) < ((r.length + 1 : Nat) : Int) := by omega
     rcases hm13 with b1 | ⟨b1, b3⟩
     ·simp -dsimp (disch := first | omega | (apply DrawYes.mk; decide +kernel)) only [go_sem, b2, b1, k1, k2]
     ·simp -dsimp (disch := first | omega | (apply DrawYes.mk; decide +kernel)) only [go_sem, b2, b1, b3, k1, k2]
  ·have b1 : ((md : Int) != 1) = true := by simp; omega
   have b3 : ((md : Int) != 3) = true := by simp; omega
   have hpf : patB md s = false := by unfold patB; rw [if_neg m13, if_neg m2]
   simp -dsimp (disch := first | omega | (apply DrawYes.mk; decide +kernel)) only [go_sem, b1, b2, b3]
   rw [hpf]
theorem rsplit_ok {s : List UInt8} {H : DH} (hs : s.length < 1000000) : WC cfg 62 [.str s] H fun v H' => Ext H H' ∧ IsSn H.next H' 9 1 v ((splitC s 44).map .str) := by
 refine WC_of (show Has cfg 62 33 [.tmp 2] _ from ⟨by kernel_rfl, Tryz.f62, Tryz.func62, rfl, rfl, rfl, by kernel_rfl⟩) (by simp) ?_
 simp -dsimp (disch := first | omega | (apply DrawYes.mk; decide +kernel)) only [go_sem]
 refine Y_loop (α := Nat × Nat × List (List UInt8)) (fun x σ H' => Ext H H' ∧ σ 0 = .str s ∧ σ 5 = .int .i64 x.1 ∧ σ 4 = .int .i64 x.2.1 ∧ IsSn H.next H' 9 1 (σ 3) (x.2.2.map .str) ∧ x.1 ≤ s.length + 1 ∧ x.2.2.length ≤ x.1 ∧ ((x.1 ≤ s.length ∧ x.2.1 ≤ x.1 ∧ 44 ∉ (s.take x.1).drop x.2.1 ∧ x.2.2 ++ splitC (s.drop x.2.1) 44 = splitC s 44) ∨ (x.1 = s.length + 1 ∧ x.2.2 = splitC s 44))) (fun x => s.length + 1 - x.1) (0, 0, []) ?_ ?_
 ·simp -dsimp (disch := first | omega | (apply DrawYes.mk; decide +kernel)) only [go_sem]
  exact ⟨Ext.refl.new, IsSn.new, .inl (by simp)⟩
 rintro ⟨i, f, out⟩ σ H1 ⟨hE, h0, h5, h4, ho, hi, hol, hc⟩
 dsimp only at h5 h4 ho hi hol hc
 rcases hc with ⟨hi2, hf, hno, hw⟩ | ⟨rfl, hw⟩
 ·have i1 : (i : Int) ≤ s.length := by omega
  have hpart : (s.take i).drop f ++ s.drop i = s.drop f := by
   conv => rhs; rw [← List.take_append_drop i s]
   rw [List.drop_append_of_le_length (by rw [List.length_take]; omega)]
  by_cases hil : i < s.length
  ·have b0 : ((i : Int) == s.length) = false := by simp; omega
   have hg : s[i]? = some s[i] := List.getElem?_eq_getElem hil
   have hd : s.drop i = s[i] :: s.drop (i + 1) := List.drop_eq_getElem_cons hil
   generalize s[i] = c at hg hd
   have htk : (s.take (i + 1)).drop f = (s.take i).drop f ++ [c] := by
    rw [List.take_add_one, hg, List.drop_append_of_le_length (by rw [List.length_take]; omega)]; rfl
   by_cases hcc : c.toNat = 44
   ·have hc44 : c = 44 := UInt8.toNat_inj.1 hcc
    have b1 : ((c.toNat : Int) == 44) = true := by simp; omega
    rw [← hpart, hd, hc44, splitC_app hno] at hw
    simp -dsimp (disch := first | omega | (apply DrawYes.mk; decide +kernel)) only [go_sem, h0, h5, h4, i1, b0, hg, b1]
    repeat refine And.intro (by omega) ?_
    refine appn und_38 size_9 bytes_9 und_38 zero_9 rfl rfl (by decide) (ho.ext Ext.refl.new) rfl (by simp only [List.length_map, List.length_cons, List.length_nil]; omega) (by simp only [List.length_map, List.length_cons, List.length_nil]; omega) ?_
    intro v' H4 ho4 hs4
    simp -dsimp (disch := first | omega | (apply DrawYes.mk; decide +kernel)) only [go_sem, h0, h5, h4]
    repeat refine And.intro (by omega) ?_
    refine ⟨(i + 1, i + 1, out ++ [(s.take i).drop f]), ⟨hs4.extn (ho.ext Ext.refl.new) hE.new, rfl, rfl, by rw [List.map_append]; exact ho4, by simp only; omega, by rw [List.length_append]; simp only [List.length_cons, List.length_nil]; omega, .inl ⟨by simp only; omega, Nat.le_refl _, ?_, ?_⟩⟩, by simp only; omega⟩
    ·simp only
     rw [List.drop_eq_nil_of_le (by rw [List.length_take]; omega)]; simp
    ·simp only
     rw [List.append_assoc]; exact hw
   ·have b1 : ((c.toNat : Int) == 44) = false := by simp; omega
    simp -dsimp (disch := first | omega | (apply DrawYes.mk; decide +kernel)) only [go_sem, h0, h5, h4, i1, b0, hg, b1]
    repeat refine And.intro (by omega) ?_
    refine ⟨(i + 1, f, out), ⟨hE, rfl, rfl, ho, by simp only; omega, by simp only; omega, .inl ⟨by simp only; omega, by simp only; omega, ?_, hw⟩⟩, by simp only; omega⟩
    simp only
    rw [htk, List.mem_append]
    rintro (h | h)
    ·exact hno h
    ·simp at h; exact hcc (by rw [← h]; rfl)
  ·have hiE : i = s.length := by omega
   have b0 : ((i : Int) == s.length) = true := by simp; omega
   have hlast : (s.take i).drop f = s.drop f := by rw [hiE, List.take_length]
   rw [hlast] at hno
   rw [splitC_not hno] at hw
   simp -dsimp (disch := first | omega | (apply DrawYes.mk; decide +kernel)) only [go_sem, h0, h5, h4, i1, b0]
   repeat refine And.intro (by omega) ?_
   refine appn und_38 size_9 bytes_9 und_38 zero_9 rfl rfl (by decide) (ho.ext Ext.refl.new) rfl (by simp only [List.length_map, List.length_cons, List.length_nil]; omega) (by simp only [List.length_map, List.length_cons, List.length_nil]; omega) ?_
   intro v' H4 ho4 hs4
   simp -dsimp (disch := first | omega | (apply DrawYes.mk; decide +kernel)) only [go_sem, h0, h5, h4]
   repeat refine And.intro (by omega) ?_
   refine ⟨(i + 1, i + 1, out ++ [(s.take i).drop f]), ⟨hs4.extn (ho.ext Ext.refl.new) hE.new, rfl, rfl, by rw [List.map_append]; exact ho4, by simp only; omega, by rw [List.length_append]; simp only [List.length_cons, List.length_nil]; omega, .inr ⟨by simp only; omega, ?_⟩⟩, by simp only; omega⟩
   simp only
   rw [hlast]; exact hw
 ·have i1 : ¬ ((s.length + 1 : Nat) : Int) ≤ s.length := by omega
  simp -dsimp (disch := first | omega | (apply DrawYes.mk; decide +kernel)) only [go_sem, h0, h5, h4, i1]
  exact ⟨hE, by rw [← hw]; exact ho⟩
theorem rcodes_ok {md : Nat} {s : List UInt8} {H : DH} (hs : s.length < 1000000) : WC cfg 30 [.int .i64 md, .str s] H fun v H' => v = .bool (codesB md s) ∧ Ext H H' := by
 refine WC_of (show Has cfg 30 24 [.tmp 4] _ from ⟨by kernel_rfl, Tryz.f30, Tryz.func30, rfl, rfl, rfl, by kernel_rfl⟩) (by simp) ?_
 simp -dsimp (disch := first | omega | (apply DrawYes.mk; decide +kernel)) only [go_sem]
 refine call (rsplit_ok hs) ?_
 rintro pv H1 ⟨hE, hp⟩
 have hpl := splitC_two (s := s) (c := 44)
 unfold codesB
 generalize splitC s 44 = ps at *
 have hln := fun H' => hp.len (H' := H') und_38
 rw [List.length_map] at hln
 obtain ⟨id, off, kk, rfl, _⟩ := hp
 simp -dsimp (disch := first | omega | (apply DrawYes.mk; decide +kernel)) only [go_sem]
 refine Y_loop (α := Nat) (fun k σ H' => H' = H1 ∧ k ≤ ps.length ∧ (∀ p ∈ ps.take k, patB md p = true) ∧ σ 0 = .int .i64 md ∧ σ 5 = .sl id 1 off (ps.map .str) ∧ σ 6 = .int .i64 k) (fun k => ps.length - k) 0 ?_ ?_
 ·simp -dsimp (disch := first | omega | (apply DrawYes.mk; decide +kernel)) only [go_sem]
  exact ⟨Nat.zero_le _, by simp⟩
 rintro k σ H2 ⟨rfl, hk, hall, s0, s5, s6⟩
 by_cases hlt : k < ps.length
 ·have i0 : (k : Int) < ps.length := by omega
  have hgl : ps[k]? = some ps[k] := List.getElem?_eq_getElem hlt
  have hmem : ps[k] ∈ ps := List.getElem_mem hlt
  generalize ps[k] = q at hgl hmem
  have hgm : (ps.map DV.str)[k]? = some (.str q) := by rw [List.getElem?_map, hgl]; rfl
  simp -dsimp (disch := first | omega | (apply DrawYes.mk; decide +kernel)) only [go_sem, s0, s5, s6, i0, hln, hgm]
  repeat refine And.intro (by omega) ?_
  refine call rpattern_ok ?_
  rintro _ _ ⟨rfl, rfl⟩
  cases hq : patB md q with
  | true =>
   simp -dsimp (disch := first | omega | (apply DrawYes.mk; decide +kernel)) only [go_sem, s0, s5, s6, i0]
   repeat refine And.intro (by omega) ?_
   refine ⟨k + 1, ⟨by omega, ?_, rfl⟩, by omega⟩
   intro x hx
   rw [List.take_add_one, hgl] at hx
   rcases List.mem_append.1 hx with hx | hx
   ·exact hall x hx
   ·simp only [Option.toList_some, List.mem_singleton] at hx; subst hx; exact hq
  | false =>
   simp -dsimp (disch := first | omega | (apply DrawYes.mk; decide +kernel)) only [go_sem, s0, s5, s6, i0]
   have : ps.all (patB md) = false := by rw [List.all_eq_false]; exact ⟨q, hmem, by rw [hq]; decide⟩
   exact ⟨by rw [this], hE⟩
 ·have i0 : ¬ (k : Int) < ps.length := by omega
  simp -dsimp (disch := first | omega | (apply DrawYes.mk; decide +kernel)) only [go_sem, s0, s5, s6, i0, hln]
  rw [List.take_of_length_le (by omega)] at hall
  exact ⟨by rw [List.all_eq_true.2 hall], hE⟩
end Go.Proofs.YtcknfhhbijlobaaGreatDoor.D
