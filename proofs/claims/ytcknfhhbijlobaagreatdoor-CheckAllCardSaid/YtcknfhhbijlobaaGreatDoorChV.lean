import Derived.Test.YtcknfhhbijlobaaGreatDoorChL
namespace Go.Proofs.YtcknfhhbijlobaaGreatDoor.D
open Go
set_option linter.unusedVariables false
set_option linter.unusedSimpArgs false
set_option maxRecDepth 100000
def nameCut : List UInt8 → Option (List UInt8 × List UInt8)
 | [] => none
 | c :: r => if c = 36 then some ([36], r) else if c ∈ smallL then some ((c :: r).takeWhile (fun d => wordsL.contains d), (c :: r).dropWhile fun d => wordsL.contains d) else none
def goN : Nat → List UInt8 → List (List UInt8) → Option (List (List UInt8))
 | 0, _, _ => none
 | f + 1, t, acc => if 36 ∉ t then some acc else match nameCut (t.drop ((t.takeWhile (· != 36)).length + 1)) with
   | none => none
   | some (nm, r) => goN f r (if nm = [36] then acc else acc ++ [nm])
def goT (t : List UInt8) (acc : List (List UInt8)) : Option (List (List UInt8)) := goN (t.length + 1) t acc
def namesL (t : List UInt8) : Option (List (List UInt8)) := goT t []
theorem nameCut_len {t nm r : List UInt8} (h : nameCut t = some (nm, r)) : r.length < t.length := by
 cases t with
 | nil => cases h
 | cons c s =>
  rw [nameCut] at h
  split at h
  ·cases h; simp
  ·split at h
   ·rename_i hc
    cases h
    rw [List.dropWhile_cons, if_pos (by simpa using small_words hc)]
    have := dropWhile_len (fun d => wordsL.contains d) s
    simp only [List.length_cons]; omega
   ·cases h
theorem goN_fuel : ∀ (f g : Nat) (t : List UInt8) (acc : List (List UInt8)), t.length < f → t.length < g → goN f t acc = goN g t acc
 | 0, g, t, acc, h, _ => by omega
 | f + 1, 0, t, acc, _, h => by omega
 | f + 1, g + 1, t, acc, h1, h2 => by
  rw [goN, goN]
  by_cases h : 36 ∉ t
  ·rw [if_pos h, if_pos h]
  ·rw [if_neg h, if_neg h]
   cases hc : nameCut (t.drop ((t.takeWhile (· != 36)).length + 1)) with
   | none => rfl
   | some q =>
    obtain ⟨nm, r⟩ := q
    have := nameCut_len hc
    rw [List.length_drop] at this
    exact goN_fuel f g r _ (by omega) (by omega)
theorem goT_step {t : List UInt8} {acc : List (List UInt8)} : goT t acc = if 36 ∉ t then some acc else match nameCut (t.drop ((t.takeWhile (· != 36)).length + 1)) with
   | none => none
   | some (nm, r) => goT r (if nm = [36] then acc else acc ++ [nm]) := by
 unfold goT
 rw [goN]
 by_cases h : 36 ∉ t
 ·rw [if_pos h, if_pos h]
 ·rw [if_neg h, if_neg h]
  cases hc : nameCut (t.drop ((t.takeWhile (· != 36)).length + 1)) with
  | none => rfl
  | some q =>
   obtain ⟨nm, r⟩ := q
   have := nameCut_len hc
   rw [List.length_drop] at this
   exact goN_fuel _ _ r _ (by omega) (by omega)
theorem cutW0_ok {s : List UInt8} {c : UInt8} {H : DH} (hs : s.length < 9223372036854775807) : WC cfg 102 [.str s, .str [c]] H fun v H' => v = (if c ∈ s then .tup [.str (s.takeWhile (· != c)), .str (s.drop ((s.takeWhile (· != c)).length + 1)), .bool true] else .tup [.str s, .str [], .bool false]) ∧ H' = H := by
 refine WC_of (show Has cfg 102 23 [.tmp 4, .tmp 5, .tmp 6] _ from ⟨by kernel_rfl, Tryz.f102, Tryz.func102, rfl, rfl, rfl, by kernel_rfl⟩) (by simp) ?_
 simp -dsimp (disch := first | omega | (apply DrawYes.mk; decide +kernel)) only [go_sem]
 refine call index1_ok ?_
 rintro _ _ ⟨rfl, rfl⟩
 have hl := idx_lt (s := s) (c := c)
 simp -dsimp (disch := first | omega | (apply DrawYes.mk; decide +kernel)) only [go_sem]
 refine ⟨fun h => ?_, fun h => ?_⟩
 ·have h' := h
  rw [idx_ge'] at h'
  have hlt : Lib.indexByte s c < s.length := by rcases hl with hl | rfl; exact hl; cases h'
  rw [wrap_i64 (by omega) (by omega)]
  refine ⟨⟨h, by omega⟩, ⟨by omega, by omega⟩, ?_⟩
  rw [if_pos h', idx_mem h', Int.toNat_natCast, take_tw]
  congr 3
 ·rw [idx_ge'] at h
  rw [if_neg h]
theorem cutW_ok {s : List UInt8} {c : UInt8} {H : DH} (hs : s.length < 9223372036854775807) : WC cfg 70 [.str s, .str [c]] H fun v H' => v = (if c ∈ s then .tup [.str (s.takeWhile (· != c)), .str (s.drop ((s.takeWhile (· != c)).length + 1)), .bool true] else .tup [.str s, .str [], .bool false]) ∧ H' = H := by
 refine WC_of (show Has cfg 70 13 [.tmp 4, .tmp 5, .tmp 6] _ from ⟨by kernel_rfl, Tryz.f70, Tryz.func70, rfl, rfl, rfl, by kernel_rfl⟩) (by simp) ?_
 simp -dsimp (disch := first | omega | (apply DrawYes.mk; decide +kernel)) only [go_sem]
 refine call (cutW0_ok hs) ?_
 rintro _ _ ⟨rfl, rfl⟩
 by_cases h : c ∈ s
 ·rw [if_pos h]
  simp -dsimp (disch := first | omega | (apply DrawYes.mk; decide +kernel)) only [go_sem]
 ·rw [if_neg h]
  simp -dsimp (disch := first | omega | (apply DrawYes.mk; decide +kernel)) only [go_sem]
theorem hasPre0_ok {s : List UInt8} {c : UInt8} {H : DH} : WC cfg 173 [.str s, .str [c]] H fun v H' => v = .bool (s.head? == some c) ∧ H' = H := by
 refine WC_of (show Has cfg 173 18 [.tmp 4] _ from ⟨by kernel_rfl, Tryz.f173, Tryz.func173, rfl, rfl, rfl, by kernel_rfl⟩) (by simp) ?_
 cases s with
 | nil => simp -dsimp (disch := first | omega | (apply DrawYes.mk; decide +kernel)) only [go_sem]; rfl
 | cons d r =>
  have i0 : (1 : Int) ≤ ((r.length + 1 : Nat) : Int) := by omega
  simp -dsimp (disch := first | omega | (apply DrawYes.mk; decide +kernel)) only [go_sem, i0]
  congr 1
  rw [Bool.eq_iff_iff]; simp
theorem hasPre_ok {s : List UInt8} {c : UInt8} {H : DH} : WC cfg 158 [.str s, .str [c]] H fun v H' => v = .bool (s.head? == some c) ∧ H' = H := by
 refine WC_of (show Has cfg 158 8 [.tmp 4] _ from ⟨by kernel_rfl, Tryz.f158, Tryz.func158, rfl, rfl, rfl, by kernel_rfl⟩) (by simp) ?_
 simp -dsimp (disch := first | omega | (apply DrawYes.mk; decide +kernel)) only [go_sem]
 refine call hasPre0_ok ?_
 rintro _ _ ⟨rfl, rfl⟩
 simp -dsimp (disch := first | omega | (apply DrawYes.mk; decide +kernel)) only [go_sem]
theorem contains1_ok {s : List UInt8} {c : UInt8} {H : DH} : WC cfg 159 [.str s, .str [c]] H fun v H' => v = .bool (decide (c ∈ s)) ∧ H' = H := by
 refine WC_of (show Has cfg 159 9 [.tmp 4] _ from ⟨by kernel_rfl, Tryz.f159, Tryz.func159, rfl, rfl, rfl, by kernel_rfl⟩) (by simp) ?_
 simp -dsimp (disch := first | omega | (apply DrawYes.mk; decide +kernel)) only [go_sem, sindex_eq]
 have := idx_ge (s := s) (c := c)
 by_cases h : c ∈ s
 ·rw [decide_eq_true h, decide_eq_true (this.2 h)]
 ·rw [decide_eq_false h, decide_eq_false (fun h2 => h (this.1 h2))]
def nameV : Option (List UInt8 × List UInt8) → DV
 | some (nm, r) => .tup [.str nm, .str r, .bool true]
 | none => .tup [.str [], .str [], .bool false]
theorem vcut_ok {t : List UInt8} {H : DH} (ht : t.length < 1000000) : WC cfg 134 [.str t] H fun v H' => v = nameV (nameCut t) ∧ Ext H H' := by
 refine WC_of (show Has cfg 134 29 [.tmp 2, .tmp 3, .tmp 4] _ from ⟨by kernel_rfl, Tryz.f134, Tryz.func134, rfl, rfl, rfl, by kernel_rfl⟩) (by simp) ?_
 simp -dsimp (disch := first | omega | (apply DrawYes.mk; decide +kernel)) only [go_sem]
 refine call hasPre_ok ?_
 rintro _ _ ⟨rfl, rfl⟩
 have g1 : Int.toNat 1 = 1 := rfl
 cases t with
 | nil =>
  have b0 : (([] : List UInt8).head? == some 36) = false := rfl
  rw [b0]
  simp -dsimp (disch := first | omega | (apply DrawYes.mk; decide +kernel)) only [go_sem]
  exact ⟨rfl, Ext.refl⟩
 | cons c r =>
  by_cases h36 : c = 36
  ·have b0 : ((c :: r).head? == some 36) = true := by simp [h36]
   rw [b0]
   simp -dsimp (disch := first | omega | (apply DrawYes.mk; decide +kernel)) only [go_sem, g1]
   repeat refine And.intro (by omega) ?_
   refine ⟨?_, Ext.refl⟩
   rw [nameCut, if_pos h36]; rfl
  ·have b0 : ((c :: r).head? == some 36) = false := by simp [h36]
   have b1 : ((c :: r) == []) = false := rfl
   rw [b0]
   simp -dsimp (disch := first | omega | (apply DrawYes.mk; decide +kernel)) only [go_sem, b1, g1]
   repeat refine And.intro (by omega) ?_
   refine call contains1_ok ?_
   rintro _ _ ⟨rfl, rfl⟩
   by_cases hc : c ∈ smallL
   ·have d1 : decide (c ∈ ([97, 98, 99, 100, 101, 102, 103, 104, 105, 106, 107, 108, 109, 110, 111, 112, 113, 114, 115, 116, 117, 118, 119, 120, 121, 122] : List UInt8)) = true := decide_eq_true hc
    simp -dsimp (disch := first | omega | (apply DrawYes.mk; decide +kernel)) only [go_sem, d1]
    refine call (trimLeft_ok (f := wordsL) words128 (by decide) (by decide) ht) ?_
    rintro _ H1 ⟨rfl, hE⟩
    have hdl := dropWhile_len (fun d => wordsL.contains d) (c :: r)
    have hsum := congrArg List.length (List.takeWhile_append_dropWhile (p := fun d => wordsL.contains d) (l := c :: r))
    rw [List.length_append, List.length_cons] at hsum
    simp -dsimp (disch := first | omega | (apply DrawYes.mk; decide +kernel)) only [go_sem]
    have hw : IntKind.i64.wrap (((r.length + 1 : Nat) : Int) - (((c :: r).dropWhile fun d => wordsL.contains d).length : Nat)) = (((c :: r).takeWhile fun d => wordsL.contains d).length : Nat) := by
     simp only [List.length_cons] at ht
     rw [wrap_i64 (by omega) (by omega)]; omega
    rw [hw, Int.toNat_natCast, take_tw]
    refine ⟨⟨by omega, by omega⟩, ?_, hE⟩
    rw [nameCut, if_neg h36, if_pos hc]; rfl
   ·have d1 : decide (c ∈ ([97, 98, 99, 100, 101, 102, 103, 104, 105, 106, 107, 108, 109, 110, 111, 112, 113, 114, 115, 116, 117, 118, 119, 120, 121, 122] : List UInt8)) = false := decide_eq_false hc
    simp -dsimp (disch := first | omega | (apply DrawYes.mk; decide +kernel)) only [go_sem, d1]
    refine ⟨?_, Ext.refl⟩
    rw [nameCut, if_neg h36, if_neg hc]; rfl
theorem vplain_ok {x : DV} {H : DH} : WC cfg 118 [x] H fun v H' => v = .tup [] ∧ H' = H := by
 refine WC_of (show Has cfg 118 2 [] _ from ⟨by kernel_rfl, Tryz.f118, Tryz.func118, rfl, rfl, rfl, by kernel_rfl⟩) (by simp) ?_
 simp -dsimp (disch := first | omega | (apply DrawYes.mk; decide +kernel)) only [go_sem]
theorem vname_ok {x : List UInt8} {b lo : Nat} {lv : DV} {acc : List (List UInt8)} {H0 H : DH} (hE : Ext H0 H) (hb : H0.next ≤ b) (hb2 : b < H.next) (hm : H.m b = some (.cells 38 [lv])) (hl : IsSl H0.next H 9 1 lv (acc.map .str)) (ha : acc.length < 1000000) :
  WC cfg 119 [.str x, .ptr b 0] H fun v H' => v = .bool true ∧ Ext H0 H' ∧ b < H'.next ∧ ∃ lv', H'.m b = some (.cells 38 [lv']) ∧ IsSl H0.next H' 9 1 lv' ((acc ++ [x]).map .str) := by
 refine WC_of (show Has cfg 119 8 [.tmp 3] _ from ⟨by kernel_rfl, Tryz.f119, Tryz.func119, rfl, rfl, rfl, by kernel_rfl⟩) (by simp) ?_
 obtain ⟨c1, c2⟩ := hl.one
 simp -dsimp (disch := first | omega | (apply DrawYes.mk; decide +kernel)) only [go_sem, hm, c1, c2]
 have hle := hE.le
 have hn0 : ¬ b = H.next := by omega
 have hlN : IsSl H0.next (H.new (.tip 9 1 true)) 9 1 lv (acc.map .str) := hl.keep (Nat.le_succ _) (fun y hy => by obtain ⟨_, y2, _⟩ := hl.tip y hy; rw [new_m, if_neg (Nat.ne_of_lt y2)])
 refine app2 (lo := H0.next) (es := acc.map .str) (new := [.str x]) und_38 size_9 bytes_9 und_38 zero_9 rfl rfl (by decide) hlN rfl (by simp) (by simp only [new_next]; omega) (by simp; omega) (by simp; omega) ?_
 intro lv2 H2 i2 hs2 hn2 hf2 hi2 ho2
 simp only [new_next] at hn2
 have hi2b : i2 ≠ b ∧ H0.next ≤ i2 := by
  rcases ho2 with g | g
  ·obtain ⟨g1, _, k, g3⟩ := hl.tip i2 (by rw [g]; simp)
   exact ⟨fun h => (by subst h; rw [hm] at g3; cases g3), g1⟩
  ·rw [g]; simp only [new_next]; omega
 have hm2 : H2.m b = some (.cells 38 [lv]) := by rw [hf2 b (fun h => hi2b.1 h.symm), new_m, if_neg hn0]; exact hm
 obtain ⟨c3, c4⟩ := hs2.one
 simp -dsimp (disch := first | omega | (apply DrawYes.mk; decide +kernel)) only [go_sem, hm2, c3, c4]
 refine ⟨⟨by simp only [set_next]; omega, fun j hj => ?_⟩, by omega, ?_⟩
 ·rw [set_m, if_neg (by omega), hf2 j (by omega), new_m, if_neg (by omega)]
  exact hE.same j hj
 ·rw [List.map_append]
  refine ⟨lv2, rfl, hs2.keep (Nat.le_refl _) (fun y hy => ?_)⟩
  rw [set_m, if_neg]
  rintro rfl
  obtain ⟨_, _, k8, h8⟩ := hs2.tip _ hy
  rw [hm2] at h8; cases h8
theorem veach_ok {t : List UInt8} {b : Nat} {H0 H : DH} (hE : Ext H0 H) (hb : H0.next ≤ b) (hb2 : b < H.next) (hm : H.m b = some (.cells 38 [.nils])) (ht : t.length < 1000000) :
  WC cfg 117 [.str t, .fn (.func 118) [] [], .fn (.func 119) [] [.ptr b 0]] H fun v H' => Ext H0 H' ∧ match namesL t with
   | none => v = .bool false
   | some l => v = .bool true ∧ ∃ lv, H'.m b = some (.cells 38 [lv]) ∧ IsSl H0.next H' 9 1 lv (l.map .str) ∧ l.length ≤ t.length := by
 refine WC_of (show Has cfg 117 45 [.tmp 6] _ from ⟨by kernel_rfl, Tryz.f117, Tryz.func117, rfl, rfl, rfl, by kernel_rfl⟩) (by simp) ?_
 simp -dsimp (disch := first | omega | (apply DrawYes.mk; decide +kernel)) only [go_sem]
 refine Y_loop (α := List UInt8 × List (List UInt8) × DV) (fun x σ H' => Ext H0 H' ∧ b < H'.next ∧ H'.m b = some (.cells 38 [x.2.2]) ∧ IsSl H0.next H' 9 1 x.2.2 (x.2.1.map .str) ∧ x.2.1.length + x.1.length ≤ t.length ∧ goT x.1 x.2.1 = namesL t ∧ σ 0 = .str x.1 ∧ σ 1 = .fn (.func 118) [] [] ∧ σ 2 = .fn (.func 119) [] [.ptr b 0]) (fun x => x.1.length) (t, [], .nils) ?_ ?_
 ·simp -dsimp (disch := first | omega | (apply DrawYes.mk; decide +kernel)) only [go_sem]
  exact ⟨hE, hb2, hm, .inl ⟨rfl, rfl⟩, Nat.le_refl _, rfl⟩
 rintro ⟨u, acc, lv⟩ σ H1 ⟨hE1, hb1, hm1, hl1, hlen, hgo, s0, s1, s2⟩
 dsimp only at hlen hgo
 rw [goT_step] at hgo
 simp -dsimp (disch := first | omega | (apply DrawYes.mk; decide +kernel)) only [go_sem, s0, s1, s2]
 refine call (cutW_ok (by omega)) ?_
 rintro _ Hx ⟨rfl, hHx⟩
 rw [hHx]; clear hHx Hx
 by_cases h36 : 36 ∈ u
 ·rw [if_pos h36]
  rw [if_neg (by simpa using h36)] at hgo
  simp -dsimp (disch := first | omega | (apply DrawYes.mk; decide +kernel)) only [go_sem, s0, s1, s2]
  refine call vplain_ok ?_
  rintro _ Hx ⟨rfl, hHx⟩
  rw [hHx]; clear hHx Hx
  have htw : (u.takeWhile (· != 36)).length < u.length := (splitC_at h36).2.1
  simp -dsimp (disch := first | omega | (apply DrawYes.mk; decide +kernel)) only [go_sem, s0, s1, s2]
  refine call (vcut_ok (by rw [List.length_drop]; omega)) ?_
  rintro _ H2 ⟨rfl, hE2⟩
  have hb2' : b < H2.next := Nat.lt_of_lt_of_le hb1 hE2.le
  have hm2 := hE2.get hb1 hm1
  have hl2 : IsSl H0.next H2 9 1 lv (acc.map .str) := hl1.keep hE2.le (fun y hy => by obtain ⟨_, y2, _⟩ := hl1.tip y hy; exact hE2.same y y2)
  cases hc : nameCut (u.drop ((u.takeWhile (· != 36)).length + 1)) with
  | none =>
   rw [hc] at hgo
   rw [← hgo]
   simp -dsimp (disch := first | omega | (apply DrawYes.mk; decide +kernel)) only [go_sem, s0, s1, s2, nameV]
   exact hE1.trans hE2
  | some q =>
   obtain ⟨nm, r⟩ := q
   rw [hc] at hgo
   dsimp only at hgo
   have hrl := nameCut_len hc
   rw [List.length_drop] at hrl
   by_cases hsg : nm = [36]
   ·rw [if_pos hsg] at hgo
    have b1 : (nm == [36]) = true := beq_iff_eq.2 hsg
    simp -dsimp (disch := first | omega | (apply DrawYes.mk; decide +kernel)) only [go_sem, s0, s1, s2, nameV, b1]
    refine call vplain_ok ?_
    rintro _ Hx ⟨rfl, hHx⟩
    rw [hHx]; clear hHx Hx
    simp -dsimp (disch := first | omega | (apply DrawYes.mk; decide +kernel)) only [go_sem, s0, s1, s2]
    exact ⟨(r, acc, lv), ⟨hE1.trans hE2, hb2', hm2, hl2, by simp only; omega, hgo, rfl⟩, by simp only; omega⟩
   ·rw [if_neg hsg] at hgo
    have b1 : (nm == [36]) = false := beq_eq_false_iff_ne.2 hsg
    simp -dsimp (disch := first | omega | (apply DrawYes.mk; decide +kernel)) only [go_sem, s0, s1, s2, nameV, b1]
    refine call (vname_ok (lo := H0.next) (hE1.trans hE2) hb hb2' hm2 hl2 (by omega)) ?_
    rintro _ H3 ⟨rfl, hE3, hb3, lv3, hm3, hl3⟩
    simp -dsimp (disch := first | omega | (apply DrawYes.mk; decide +kernel)) only [go_sem, s0, s1, s2]
    exact ⟨(r, acc ++ [nm], lv3), ⟨hE3, hb3, hm3, hl3, by simp only [List.length_append, List.length_cons, List.length_nil]; omega, hgo, rfl⟩, by simp only; omega⟩
 ·rw [if_neg h36]
  rw [if_pos h36] at hgo
  rw [← hgo]
  simp -dsimp (disch := first | omega | (apply DrawYes.mk; decide +kernel)) only [go_sem, s0, s1, s2]
  refine call vplain_ok ?_
  rintro _ Hx ⟨rfl, hHx⟩
  rw [hHx]; clear hHx Hx
  simp -dsimp (disch := first | omega | (apply DrawYes.mk; decide +kernel)) only [go_sem, s0, s1, s2]
  exact ⟨hE1, lv, hm1, hl1, by omega⟩
def namesV (lv : DV) : Option (List (List UInt8)) → DV
 | some _ => .tup [lv, .bool true]
 | none => .tup [.nils, .bool false]
theorem vnames_ok {t : List UInt8} {H : DH} (ht : t.length < 1000000) : WC cfg 89 [.str t] H fun v H' => Ext H H' ∧ ∃ lv, v = namesV lv (namesL t) ∧ ∀ l, namesL t = some l → IsSl H.next H' 9 1 lv (l.map .str) ∧ l.length ≤ t.length := by
 refine WC_of (show Has cfg 89 12 [.tmp 2, .tmp 3] _ from ⟨by kernel_rfl, Tryz.f89, Tryz.func89, rfl, rfl, rfl, by kernel_rfl⟩) (by simp) ?_
 simp -dsimp (disch := first | omega | (apply DrawYes.mk; decide +kernel)) only [go_sem]
 refine call (veach_ok (b := H.next) (H0 := H) Ext.refl.new (Nat.le_refl _) (Nat.lt_succ_self _) (by rw [new_m, if_pos rfl]) ht) ?_
 rintro v H1 ⟨hE, hv⟩
 cases hn : namesL t with
 | none =>
  rw [hn] at hv
  dsimp only at hv
  subst hv
  simp -dsimp (disch := first | omega | (apply DrawYes.mk; decide +kernel)) only [go_sem]
  exact ⟨hE, .nils, rfl⟩
 | some l =>
  rw [hn] at hv
  obtain ⟨rfl, lv, hm, hl, hlen⟩ := hv
  obtain ⟨c1, c2⟩ := hl.one
  simp -dsimp (disch := first | omega | (apply DrawYes.mk; decide +kernel)) only [go_sem, hm, c1, c2]
  refine ⟨hE, lv, rfl, fun l' h => ?_⟩
  obtain rfl : l = l' := by first | exact Option.some.inj h | exact h
  exact ⟨hl, hlen⟩
end Go.Proofs.YtcknfhhbijlobaaGreatDoor.D
