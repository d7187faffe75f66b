import Derived.Test.YtcknfhhbijlobaaGreatDoorR14
namespace Go.Proofs.YtcknfhhbijlobaaGreatDoor.D
open Go
set_option linter.unusedVariables false
set_option linter.unusedSimpArgs false
set_option maxRecDepth 100000
def asL (f : List UInt8) : List DV := (List.range 256).map fun b => .bool (f.any fun c => c.toNat == b)
theorem asL_len {f : List UInt8} : (asL f).length = 256 := by unfold asL; simp
theorem asL_nil : asL [] = List.replicate 256 (.bool false) := by rfl
theorem asL_get {f : List UInt8} {c : UInt8} : (asL f)[c.toNat]? = some (.bool (f.contains c)) := by
 have hc := c.toNat_lt
 unfold asL
 rw [List.getElem?_map, List.getElem?_range (by omega)]
 simp only [Option.map_some, Option.some.injEq, DV.bool.injEq]
 rw [Bool.eq_iff_iff]
 simp only [List.any_eq_true, beq_iff_eq, List.contains_iff_mem]
 constructor
 ·rintro ⟨d, hd, he⟩
  rw [← UInt8.toNat_inj.1 he]; exact hd
 ·intro h; exact ⟨c, h, rfl⟩
theorem asL_push {f : List UInt8} {c : UInt8} : (asL f).take c.toNat ++ [.bool true] ++ (asL f).drop (c.toNat + 1) = asL (f ++ [c]) := by
 have hc := c.toNat_lt
 apply List.ext_getElem?
 intro i
 rw [List.append_assoc]
 rcases Nat.lt_trichotomy i c.toNat with h | h | h
 ·rw [List.getElem?_append_left (by rw [List.length_take, asL_len]; omega), List.getElem?_take_of_lt h]
  unfold asL
  rw [List.getElem?_map, List.getElem?_map, List.getElem?_range (by omega)]
  simp only [Option.map_some, List.any_append, List.any_cons, List.any_nil, Bool.or_false]
  rw [show (c.toNat == i) = false from by simp; omega, Bool.or_false]
 ·subst h
  rw [List.getElem?_append_right (by rw [List.length_take, asL_len]; omega), List.length_take, asL_len]
  unfold asL
  rw [List.getElem?_map, List.getElem?_range (by omega), show c.toNat - min c.toNat 256 = 0 by omega]
  simp
 ·rw [List.getElem?_append_right (by rw [List.length_take, asL_len]; omega), List.length_take, asL_len, List.getElem?_append_right (by simp; omega), List.getElem?_drop]
  simp only [List.length_cons, List.length_nil]
  rw [show c.toNat + 1 + (i - min c.toNat 256 - (0 + 1)) = i by omega]
  unfold asL
  rw [List.getElem?_map, List.getElem?_map]
  rcases Nat.lt_or_ge i 256 with h2 | h2
  ·rw [List.getElem?_range h2]
   simp only [Option.map_some, List.any_append, List.any_cons, List.any_nil, Bool.or_false]
   rw [show (c.toNat == i) = false from by simp; omega, Bool.or_false]
  ·rw [List.getElem?_eq_none (by simpa using h2)]; rfl
theorem asL_ones {f : List UInt8} : (asL f).all DV.one = true := by
 unfold asL
 rw [List.all_eq_true]
 intro x hx
 obtain ⟨b, _, rfl⟩ := List.mem_map.1 hx
 rfl
theorem ia_as {b off : Nat} {k : IntKind} {i : Int} {K : DV → Prop} {l : Later K} (h0 : 0 ≤ i) (h1 : i < 256) : WD (indexAtD cfg.T 182 (.ptr b off) (.int k i)) l = K (.ptr b (off + i.toNat)) := by
 have hs : cfg.T.size 4 = some 1 := by kernel_rfl
 simp only [indexAtD, und_182, hs]
 rw [if_pos ⟨h0, by omega⟩, Nat.mul_one]
 rfl
theorem zero_as : cfg.T.zero 182 = some (.agg (List.replicate 256 (.bool false))) := by kernel_rfl
theorem ascont_ok {b : Nat} {f : List UInt8} {c : UInt8} {H : DH} (hm : H.m b = some (.cells 182 (asL f))) : WC cfg 170 [.ptr b 0, byteDV c] H fun v H' => v = .bool (f.contains c) ∧ H' = H := by
 refine WC_of (show Has cfg 170 10 [.tmp 4] _ from ⟨by kernel_rfl, Tryz.f170, Tryz.func170, rfl, rfl, rfl, by kernel_rfl⟩) (by simp) ?_
 have hc := c.toNat_lt
 have h1 : ((asL f).drop c.toNat).head? = some (.bool (f.contains c)) := by rw [List.head?_drop, asL_get]
 simp -dsimp (disch := first | omega | (apply DrawYes.mk; decide +kernel)) only [go_sem, ia_as, hm, h1]
theorem mkas_ok {f : List UInt8} {H : DH} (hf : ∀ c ∈ f, c.toNat < 128) (hl : f.length < 1000000) : WC cfg 153 [.str f] H fun v H' => v = .tup [.agg (asL f), .bool true] ∧ Ext H H' := by
 refine WC_of (show Has cfg 153 21 [.cell 2 182, .tmp 3] _ from ⟨by kernel_rfl, Tryz.f153, Tryz.func153, rfl, rfl, rfl, by kernel_rfl⟩) (by simp) ?_
 simp -dsimp (disch := first | omega | (apply DrawYes.mk; decide +kernel)) only [go_sem, zero_as]
 refine And.intro (by rfl) ?_
 refine Y_loop (α := Nat) (fun k σ H' => k ≤ f.length ∧ Ext H H' ∧ H'.m H.next = some (.cells 182 (asL (f.take k))) ∧ σ 0 = .str f ∧ σ 2 = .ptr H.next 0 ∧ σ 4 = .int .i64 k) (fun k => f.length - k) 0 ?_ ?_
 ·simp -dsimp (disch := first | omega | (apply DrawYes.mk; decide +kernel)) only [go_sem]
  exact ⟨Nat.zero_le _, Ext.refl.new, by rw [asL_nil]⟩
 rintro k σ H1 ⟨hk, hE, hm, s0, s2, s4⟩
 by_cases hlt : k < f.length
 ·have i0 : (k : Int) < f.length := by omega
  have hg : f[k]? = some f[k] := List.getElem?_eq_getElem hlt
  have hc := hf f[k] (List.getElem_mem hlt)
  have htk : f.take (k + 1) = f.take k ++ [f[k]] := by rw [List.take_add_one, hg]; rfl
  generalize f[k] = c at hg hc htk
  have j1 : ¬ 128 ≤ (c.toNat : Int) := by omega
  have hp := asL_push (f := f.take k) (c := c)
  have hla := asL_len (f := f.take k)
  simp -dsimp (disch := first | omega | (apply DrawYes.mk; decide +kernel)) only [go_sem, s0, s2, s4, i0, hg, j1, ia_as, hp, hla, hm]
  repeat refine And.intro (by omega) ?_
  exact ⟨k + 1, ⟨by omega, hE.set (Nat.le_refl _), by rw [htk], rfl⟩, by omega⟩
 ·have i0 : ¬ (k : Int) < f.length := by omega
  have hkE : k = f.length := by omega
  subst hkE
  rw [List.take_length] at hm
  have hla := asL_len (f := f)
  have hlo := asL_ones (f := f)
  have htk : (asL f).take 256 = asL f := List.take_of_length_le (by rw [hla]; decide)
  have hdk : (asL f).drop 256 = [] := List.drop_of_length_le (by rw [hla]; decide)
  simp -dsimp (disch := first | omega | (apply DrawYes.mk; decide +kernel)) only [go_sem, s0, s2, s4, i0, hla, hlo, hm, htk, hdk]
  exact hE.set (Nat.le_refl _)
theorem trimL_ok {b : Nat} {f s : List UInt8} {H : DH} (hm : H.m b = some (.cells 182 (asL f))) (hs : s.length < 1000000) : WC cfg 154 [.str s, .ptr b 0] H fun v H' => v = .str (s.dropWhile fun c => f.contains c) ∧ H' = H := by
 refine WC_of (show Has cfg 154 16 [.tmp 4] _ from ⟨by kernel_rfl, Tryz.f154, Tryz.func154, rfl, rfl, rfl, by kernel_rfl⟩) (by simp) ?_
 simp -dsimp (disch := first | omega | (apply DrawYes.mk; decide +kernel)) only [go_sem]
 refine Y_loop (α := List UInt8) (fun t σ H' => H' = H ∧ (t.dropWhile fun c => f.contains c) = (s.dropWhile fun c => f.contains c) ∧ t.length ≤ s.length ∧ σ 0 = .str t ∧ σ 1 = .ptr b 0) (fun t => t.length) s ?_ ?_
 ·simp -dsimp (disch := first | omega | (apply DrawYes.mk; decide +kernel)) only [go_sem]
  exact Nat.le_refl _
 rintro t σ H1 ⟨rfl, ht, htl, s0, s1⟩
 cases t with
 | nil =>
  have i0 : ¬ (0 : Int) < (([] : List UInt8).length : Int) := by simp
  simp -dsimp (disch := first | omega | (apply DrawYes.mk; decide +kernel)) only [go_sem, s0, s1]
  rw [← ht]; rfl
 | cons c r =>
  have i0 : (0 : Int) < ((r.length + 1 : Nat) : Int) := by omega
  have g1 : Int.toNat 1 = 1 := rfl
  simp -dsimp (disch := first | omega | (apply DrawYes.mk; decide +kernel)) only [go_sem, s0, s1, i0]
  refine call (ascont_ok hm) ?_
  rintro _ _ ⟨rfl, rfl⟩
  by_cases hc : c ∈ f
  ·have d1 : f.contains c = true := by simpa using hc
   rw [d1]
   simp -dsimp (disch := first | omega | (apply DrawYes.mk; decide +kernel)) only [go_sem, s0, s1, i0, g1]
   repeat refine And.intro (by first | omega | (simp only [List.length_cons]; omega)) ?_
   refine ⟨r, ⟨?_, ?_, rfl⟩, Nat.lt_succ_self _⟩
   ·rw [← ht, List.dropWhile_cons, if_pos d1]
   ·have : (c :: r).length ≤ s.length := htl
    rw [List.length_cons] at this; omega
  ·have d1 : f.contains c = false := by simpa using hc
   rw [d1]
   simp -dsimp (disch := first | omega | (apply DrawYes.mk; decide +kernel)) only [go_sem, s0, s1, i0]
   rw [← ht, List.dropWhile_cons, if_neg (by rw [d1]; decide)]
def trimRL (f s : List UInt8) : List UInt8 := (s.reverse.dropWhile fun c => f.contains c).reverse
theorem trimRL_last {f t : List UInt8} {c : UInt8} : trimRL f (t ++ [c]) = if f.contains c = true then trimRL f t else t ++ [c] := by
 unfold trimRL
 rw [List.reverse_append]
 simp only [List.reverse_cons, List.reverse_nil, List.nil_append, List.cons_append]
 rw [List.dropWhile_cons]
 by_cases h : f.contains c = true
 ·rw [if_pos h, if_pos h]
 ·rw [if_neg h, if_neg h]; simp
theorem trimR_ok {b : Nat} {f s : List UInt8} {H : DH} (hm : H.m b = some (.cells 182 (asL f))) (hs : s.length < 1000000) : WC cfg 155 [.str s, .ptr b 0] H fun v H' => v = .str (trimRL f s) ∧ H' = H := by
 refine WC_of (show Has cfg 155 22 [.tmp 4] _ from ⟨by kernel_rfl, Tryz.f155, Tryz.func155, rfl, rfl, rfl, by kernel_rfl⟩) (by simp) ?_
 simp -dsimp (disch := first | omega | (apply DrawYes.mk; decide +kernel)) only [go_sem]
 refine Y_loop (α := List UInt8) (fun t σ H' => H' = H ∧ trimRL f t = trimRL f s ∧ t.length ≤ s.length ∧ σ 0 = .str t ∧ σ 1 = .ptr b 0) (fun t => t.length) s ?_ ?_
 ·simp -dsimp (disch := first | omega | (apply DrawYes.mk; decide +kernel)) only [go_sem]
  exact Nat.le_refl _
 rintro t σ H1 ⟨rfl, ht, htl, s0, s1⟩
 rcases nil_or_last t with rfl | ⟨t, c, rfl⟩
 ·simp -dsimp (disch := first | omega | (apply DrawYes.mk; decide +kernel)) only [go_sem, s0, s1]
  rw [← ht]; rfl
 ·have hlen : (t ++ [c]).length = t.length + 1 := by simp
  rw [hlen] at htl
  have i0 : (0 : Int) < ((t.length + 1 : Nat) : Int) := by omega
  have g1 : (((t.length + 1 : Nat) : Int) - 1).toNat = t.length := by omega
  have g2 : (t ++ [c])[t.length]? = some c := by simp
  have g3 : (t ++ [c]).take t.length = t := by simp
  simp -dsimp (disch := first | omega | (apply DrawYes.mk; decide +kernel)) only [go_sem, s0, s1, i0, hlen, g1, g2, g3]
  refine And.intro (by omega) ?_
  refine call (ascont_ok hm) ?_
  rintro _ _ ⟨rfl, rfl⟩
  rw [trimRL_last] at ht
  by_cases hc : c ∈ f
  ·have d1 : f.contains c = true := by simpa using hc
   rw [d1]
   rw [if_pos d1] at ht
   simp -dsimp (disch := first | omega | (apply DrawYes.mk; decide +kernel)) only [go_sem, s0, s1, i0, hlen, g1, g2, g3]
   repeat refine And.intro (by omega) ?_
   exact ⟨t, ⟨ht, by omega, rfl⟩, Nat.lt_succ_self _⟩
  ·have d1 : f.contains c = false := by simpa using hc
   rw [d1]
   rw [if_neg (by rw [d1]; decide)] at ht
   simp -dsimp (disch := first | omega | (apply DrawYes.mk; decide +kernel)) only [go_sem, s0, s1, i0]
   rw [← ht]
theorem dw_nil {p : UInt8 → Bool} : ∀ {s : List UInt8}, s.dropWhile p = [] ↔ ∀ c ∈ s, p c = true
 | [] => by simp
 | c :: r => by
  rw [List.dropWhile_cons]
  by_cases h : p c = true
  ·rw [if_pos h, dw_nil]; simp [h]
  ·rw [if_neg h]; simp [h]
theorem trim_nil {f s : List UInt8} : ((trimRL f s).dropWhile fun c => f.contains c) = [] ↔ ∀ c ∈ s, c ∈ f := by
 rw [dw_nil]
 unfold trimRL
 constructor
 ·intro h c hc
  have hsplit : s.reverse = (s.reverse.takeWhile fun c => f.contains c) ++ (s.reverse.dropWhile fun c => f.contains c) := (List.takeWhile_append_dropWhile ..).symm
  have hc2 : c ∈ s.reverse := List.mem_reverse.2 hc
  rw [hsplit] at hc2
  rcases List.mem_append.1 hc2 with h1 | h1
  ·simpa using tw_mem h1
  ·simpa using h c (List.mem_reverse.2 h1)
 ·intro h c hc
  have h1 : c ∈ s.reverse := (List.dropWhile_sublist _).mem (List.mem_reverse.1 hc)
  simpa using h c (List.mem_reverse.1 h1)
theorem trimLeft_ok {f s : List UInt8} {H : DH} (hf : ∀ c ∈ f, c.toNat < 128) (hl : 1 < f.length) (hl2 : f.length < 1000000) (hs : s.length < 1000000) : WC cfg 160 [.str s, .str f] H fun v H' => v = .str (s.dropWhile fun c => f.contains c) ∧ Ext H H' := by
 refine WC_of (show Has cfg 160 37 [.tmp 4] _ from ⟨by kernel_rfl, Tryz.f160, Tryz.func160, rfl, rfl, rfl, by kernel_rfl⟩) (by simp) ?_
 have hfn : (f == []) = false := by
  cases f with
  | nil => simp at hl
  | cons c r => rfl
 have hl1 : ((f.length : Int) == 1) = false := by simp; omega
 by_cases hsn : s = []
 ·subst hsn
  simp -dsimp (disch := first | omega | (apply DrawYes.mk; decide +kernel)) only [go_sem]
  exact ⟨rfl, Ext.refl⟩
 have b1 : (s == []) = false := beq_eq_false_iff_ne.2 hsn
 simp -dsimp (disch := first | omega | (apply DrawYes.mk; decide +kernel)) only [go_sem, b1, hfn, hl1]
 refine call (mkas_ok hf hl2) ?_
 rintro _ H1 ⟨rfl, hE1⟩
 have hlo := asL_ones (f := f)
 have hla := asL_len (f := f)
 have hdk : (List.replicate 256 (DV.bool false)).drop 256 = [] := by rfl
 simp -dsimp (disch := first | omega | (apply DrawYes.mk; decide +kernel)) only [go_sem, zero_as, hla, hlo, hdk]
 refine And.intro (by rfl) ?_
 refine And.intro (by rw [List.length_replicate]; decide) ?_
 refine call (trimL_ok (b := H1.next) (by rw [set_m, if_pos rfl]) hs) ?_
 rintro _ _ ⟨rfl, rfl⟩
 simp -dsimp (disch := first | omega | (apply DrawYes.mk; decide +kernel)) only [go_sem]
 exact (hE1.new).set hE1.le
theorem trim_ok {f s : List UInt8} {H : DH} (hf : ∀ c ∈ f, c.toNat < 128) (hl : 1 < f.length) (hl2 : f.length < 1000000) (hs : s.length < 1000000) : WC cfg 133 [.str s, .str f] H fun v H' => v = .str ((trimRL f s).dropWhile fun c => f.contains c) ∧ Ext H H' := by
 refine WC_of (show Has cfg 133 43 [.tmp 4] _ from ⟨by kernel_rfl, Tryz.f133, Tryz.func133, rfl, rfl, rfl, by kernel_rfl⟩) (by simp) ?_
 have hfn : (f == []) = false := by
  cases f with
  | nil => simp at hl
  | cons c r => rfl
 have hl1 : ((f.length : Int) == 1) = false := by simp; omega
 by_cases hsn : s = []
 ·subst hsn
  simp -dsimp (disch := first | omega | (apply DrawYes.mk; decide +kernel)) only [go_sem]
  exact ⟨rfl, Ext.refl⟩
 have b1 : (s == []) = false := beq_eq_false_iff_ne.2 hsn
 simp -dsimp (disch := first | omega | (apply DrawYes.mk; decide +kernel)) only [go_sem, b1, hfn, hl1]
 refine call (mkas_ok hf hl2) ?_
 rintro _ H1 ⟨rfl, hE1⟩
 have hlo := asL_ones (f := f)
 have hla := asL_len (f := f)
 have hdk : (List.replicate 256 (DV.bool false)).drop 256 = [] := by rfl
 simp -dsimp (disch := first | omega | (apply DrawYes.mk; decide +kernel)) only [go_sem, zero_as, hla, hlo, hdk]
 refine And.intro (by rfl) ?_
 refine And.intro (by rw [List.length_replicate]; decide) ?_
 refine call (trimR_ok (b := H1.next) (by rw [set_m, if_pos rfl]) hs) ?_
 rintro _ Hx ⟨rfl, hHx⟩
 rw [hHx]; clear hHx Hx
 have htl : (trimRL f s).length ≤ s.length := by
  unfold trimRL
  rw [List.length_reverse]
  have := dropWhile_len (fun c => f.contains c) s.reverse
  rw [List.length_reverse] at this
  exact this
 simp -dsimp (disch := first | omega | (apply DrawYes.mk; decide +kernel)) only [go_sem]
 refine call (trimL_ok (b := H1.next) (by rw [set_m, if_pos rfl]) (by omega)) ?_
 rintro _ _ ⟨rfl, rfl⟩
 simp -dsimp (disch := first | omega | (apply DrawYes.mk; decide +kernel)) only [go_sem]
 exact (hE1.new).set hE1.le
end Go.Proofs.YtcknfhhbijlobaaGreatDoor.D
