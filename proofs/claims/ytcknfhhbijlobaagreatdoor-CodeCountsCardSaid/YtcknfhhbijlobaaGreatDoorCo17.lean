import Derived.Test.YtcknfhhbijlobaaGreatDoorCo15
import Derived.Test.YtcknfhhbijlobaaGreatDoorCh21
namespace Go.Proofs.YtcknfhhbijlobaaGreatDoor.D
open Go
set_option linter.unusedVariables false
set_option linter.unusedSimpArgs false
set_option maxRecDepth 100000
def kcells (K : Nat → Int) : List DV := (List.range 20).map fun k => .int .i64 (K k)
theorem kc_len (K : Nat → Int) : (kcells K).length = 20 := by simp [kcells]
theorem kc_get (K : Nat → Int) {k : Nat} (h : k < 20) : (kcells K)[k]? = some (.int .i64 (K k)) := by
 unfold kcells
 rw [List.getElem?_map, List.getElem?_range h]; rfl
theorem kc_drop (K : Nat → Int) {k : Nat} (h : k < 20) : (kcells K).drop k = .int .i64 (K k) :: (kcells K).drop (k + 1) := by
 have hl : k < (kcells K).length := by rw [kc_len]; exact h
 rw [List.drop_eq_getElem_cons hl]
 congr 1
 have := kc_get K h
 rw [List.getElem?_eq_getElem hl] at this
 exact Option.some.inj this
theorem kc_set (K : Nat → Int) {k : Nat} (h : k < 20) (v : Int) : (kcells K).take k ++ [.int .i64 v] ++ (kcells K).drop (k + 1) = kcells (fun j => if j = k then v else K j) := by
 apply List.ext_getElem?
 intro j
 have hl := kc_len K
 by_cases hj : j < 20
 ·rw [kc_get _ hj]
  rcases Nat.lt_trichotomy j k with h1 | h1 | h1
  ·rw [List.append_assoc, List.getElem?_append_left (by rw [List.length_take, hl]; omega), List.getElem?_take, if_pos h1, kc_get K hj, if_neg (by omega)]
  ·subst h1
   rw [List.append_assoc, List.getElem?_append_right (by rw [List.length_take, hl]; omega), List.length_take, hl, if_pos rfl]
   rw [show j - min j 20 = 0 by omega]; rfl
  ·rw [List.getElem?_append_right (by rw [List.length_append, List.length_take, hl]; simp; omega), List.length_append, List.length_take, hl, List.getElem?_drop, if_neg (by omega)]
   simp only [List.length_cons, List.length_nil]
   rw [show k + 1 + (j - (min k 20 + (0 + 1))) = j by omega, kc_get K hj]
 ·rw [List.getElem?_eq_none, List.getElem?_eq_none]
  ·rw [kc_len]; omega
  ·rw [List.length_append, List.length_append, List.length_take, List.length_drop, hl]; simp; omega
theorem upK_take {R : List Stm} {k : Nat} {s : Stm} (h : R[k]? = some s) (j : Nat) : upK j (R.take (k + 1)) = upK j (R.take k) + ((if s.kind = j then 1 else 0) + (if s.m = [] then 0 else if j = 18 then 1 else 0)) := by
 unfold upK
 rw [List.take_add_one, h]
 simp
theorem wantN_take {R : List Stm} {k : Nat} {s : Stm} (h : R[k]? = some s) : wantN (R.take (k + 1)) = wantN (R.take k) + ((if s.kind = 13 then 0 else 1) + (if s.m = [] then 0 else 1)) := by
 unfold wantN
 rw [List.take_add_one, h]
 simp
theorem dnK_take {l : List Opr} {k : Nat} {o : Opr} (h : l[k]? = some o) (j : Nat) : dnK j (l.take (k + 1)) = dnK j (l.take k) + (if o.kind = j then 1 else 0) := by
 unfold dnK
 rw [List.take_add_one, h, List.countP_append]
 simp [List.countP_cons]
theorem upK_le (j : Nat) (R : List Stm) : upK j R ≤ 2 * R.length := sum_le fun s => by repeat' split
                                                                                       all_goals omega
theorem wantN_le (R : List Stm) : wantN R ≤ 2 * R.length := sum_le fun s => by repeat' split
                                                                               all_goals omega
theorem dnK_le (j : Nat) (l : List Opr) : dnK j l ≤ l.length := List.countP_le_length
theorem codeCounts_ok {s : List UInt8} {H : DH} (hs : s.length ≤ 9223372036854775807) : WC cfg 11 [.str s] H fun v H' => v = .bool true := by
 refine WC_of (show Has cfg 11 126 [.tmp 2] _ from ⟨by kernel_rfl, Tryz.f11, Tryz.func11, rfl, rfl, rfl, by kernel_rfl⟩) (by simp) ?_
 simp -dsimp (disch := first | omega | (apply DrawYes.mk; decide +kernel)) only [go_sem]
 refine call coshown_ok ?_
 rintro _ H1 ⟨rfl, hE1⟩
 simp -dsimp (disch := first | omega | (apply DrawYes.mk; decide +kernel)) only [go_sem, coshort_eq]
 have hlen : (s.take 2100).length ≤ 2100 := by rw [List.length_take]; omega
 generalize s.take 2100 = u at *
 refine call (rsource17_ok (s := u) (by omega)) ?_
 rintro _ H2 ⟨hE2, stmv, topv, rfl, hP⟩
 obtain ⟨a1, a2, a3⟩ := hP.two
 by_cases he : (checkS u).e ≠ 0
 ·have j0 : (((checkS u).e : Int) != 0) = true := by simp; omega
  simp -dsimp (disch := first | omega | (apply DrawYes.mk; decide +kernel)) only [go_sem, a1, a2, j0]
 have he' : (checkS u).e = 0 := by simpa using he
 have j0 : (((checkS u).e : Int) != 0) = false := by simp; omega
 have hg := goodP_of he'
 simp -dsimp (disch := first | omega | (apply DrawYes.mk; decide +kernel)) only [go_sem, a1, a2, j0]
 refine call (of_ok hP hg.ofC) ?_
 rintro _ H3 ⟨rfl, hE3⟩
 have hle3 := hE3.le
 simp only [set_next, new_next] at hle3
 have q4 := hE3.get (b := H2.next) (by simp only [set_next, new_next]; omega) set_at
 have hgood := fun i o => @ops_good _ _ _ hg i o
 have hsame := fun k => @cnt_same _ _ _ hg k
 have hjump := cnt_jump hg
 obtain ⟨hend1, hend2, hend3⟩ := cnt_end hg
 have hall := cnt_all hg
 have hol : (opsP (checkS u).R (checkS u).top).length ≤ 201 := opsP_len hg
 have hfin := hg.wi.fin
 have hRl := hg.len
 have hml := hg.ll
 have hRS : RowS (checkS u).R stmv := hP.1
 generalize opsP (checkS u).R (checkS u).top = ops at *
 generalize (checkS u).R = R at *
 have ia := fun {b off : Nat} {k : IntKind} {i : Int} {K : DV → Prop} {q : Later K} => @ia_arr cfg.T 58 3 20 1 und_58 size_3 b off k i K q
 simp -dsimp (disch := first | omega | (apply DrawYes.mk; decide +kernel)) only [go_sem, a1, a2, q4, ia]
 have y0 : ¬ H2.next = H3.next := by omega
 have y1 : ¬ H3.next = H2.next := by omega
 generalize (checkS u).mode = md at *
 refine Y_loop (α := Nat) (fun k σ H' => k ≤ R.length ∧ H3.next < H'.next ∧ H'.m H2.next = some (.cells 27 [.int .i64 md, stmv, topv]) ∧ H'.m H3.next = some (.cells 58 (kcells fun j => (upK j (R.take k) : Nat))) ∧ σ 3 = .bool true ∧ σ 4 = .ptr H2.next 0 ∧ σ 7 = .sl 0 6 0 (ops.map oprV) ∧ σ 8 = .int .i64 (1 + wantN (R.take k) : Nat) ∧ σ 9 = .ptr H3.next 0 ∧ σ 10 = .int .i64 k) (fun k => R.length - k) 0 ?_ ?_
 ·simp -dsimp (disch := first | omega | (apply DrawYes.mk; decide +kernel)) only [go_sem]
  refine ⟨Nat.zero_le _, by omega, ?_, ?_, ?_⟩
  ·rw [if_neg y0, if_neg y0]; exact q4
  ·rfl
  ·rfl
 rintro k σ H4 ⟨hk, hn, hm2, hm3, s3, s4, s7, s8, s9, s10⟩
 by_cases hlt : k < R.length
 ·have i0 : (k : Int) < R.length := by omega
  have hgk : R[k]? = some R[k] := List.getElem?_eq_getElem hlt
  have hmem : R[k] ∈ R := List.getElem_mem _
  generalize R[k] = x at hgk hmem
  obtain ⟨id, off, es, vl, vm, rfl, hgd, hvl, hvm⟩ := hRS.get hgk
  obtain ⟨v1, v2, v3⟩ := hvl.facts
  obtain ⟨w1, w2, w3⟩ := hvm.facts
  obtain ⟨f1, f2, f3, f4⟩ := hfin x hmem
  have hup := upK_take hgk
  have hwn := wantN_take hgk
  have hwl := wantN_le (R.take k)
  rw [List.length_take] at hwl
  have hul := fun j => upK_le j (R.take k)
  simp only [List.length_take] at hul
  have z0 : ¬ H2.next = H4.next := by omega
  have z1 : ¬ H3.next = H4.next := by omega
  have z2 : ¬ H4.next = H3.next := by omega
  have kd := kc_drop (fun j => (upK j (R.take k) : Nat)) (k := x.kind) (by omega)
  have klen := kc_len (fun j => (upK j (R.take k) : Nat))
  have hul1 := hul x.kind
  have hul2 := hul 18
  have ks := kc_set (fun j => (upK j (R.take k) : Nat)) (k := x.kind) (by omega) ((upK x.kind (R.take k) : Nat) + 1)
  have hcase : ∀ v : Bool, v = decide (x.kind = 13) → (((x.kind : Int) != 13) = !v) := fun v hv => by
   subst hv
   by_cases h : x.kind = 13
   ·simp [h]
   ·simp [h]; omega
  by_cases hm0 : x.m = []
  ·have i1 : ¬ (0 : Int) < x.m.length := by simp [hm0]
   have hup' : ∀ j, upK j (R.take (k + 1)) = upK j (R.take k) + (if x.kind = j then 1 else 0) := fun j => by rw [hup, if_pos hm0, Nat.add_zero]
   have hkc : (kcells fun j => if j = x.kind then ((upK x.kind (R.take k) : Nat) : Int) + 1 else ((upK j (R.take k) : Nat) : Int)) = kcells fun j => ((upK j (R.take (k + 1)) : Nat) : Int) := by
    congr 1; funext j; rw [hup']
    by_cases hj : j = x.kind
    ·subst hj; simp
    ·rw [if_neg hj, if_neg (fun h => hj h.symm)]; simp
   by_cases k13 : x.kind = 13
   ·have b13 : ((x.kind : Int) != 13) = false := by simp [k13]
    simp -dsimp (disch := first | omega | (apply DrawYes.mk; decide +kernel)) only [go_sem, s3, s4, s7, s8, s9, s10, i0, hm2, hm3, a3, hgd, v1, v2, w1, w2, z0, z1, z2, y0, y1, ia, kd, klen, ks, Nat.mul_one, b13, w3, i1]
    exact ⟨by omega, by omega, by omega, by omega, by omega, by omega, k + 1, ⟨by omega, by omega, by rw [hkc], by rw [hwn, if_pos k13, if_pos hm0]; rfl, by congr 1⟩, by omega⟩
   ·have b13 : ((x.kind : Int) != 13) = true := by simp; omega
    simp -dsimp (disch := first | omega | (apply DrawYes.mk; decide +kernel)) only [go_sem, s3, s4, s7, s8, s9, s10, i0, hm2, hm3, a3, hgd, v1, v2, w1, w2, z0, z1, z2, y0, y1, ia, kd, klen, ks, Nat.mul_one, b13, w3, i1]
    exact ⟨by omega, by omega, by omega, by omega, by omega, by omega, k + 1, ⟨by omega, by omega, by rw [hkc], by rw [hwn, if_neg k13, if_pos hm0]; congr 1, by congr 1⟩, by omega⟩
  ·have hmp : 0 < x.m.length := List.length_pos_iff.2 hm0
   have i1 : (0 : Int) < x.m.length := by omega
   have k5 : x.kind = 5 := Classical.byContradiction fun hh => hm0 (f4 hh)
   have b13 : ((x.kind : Int) != 13) = true := by simp; omega
   have kd2 := kc_drop (fun j => if j = x.kind then ((upK x.kind (R.take k) : Nat) : Int) + 1 else ((upK j (R.take k) : Nat) : Int)) (k := 18) (by omega)
   have klen2 := kc_len (fun j => if j = x.kind then ((upK x.kind (R.take k) : Nat) : Int) + 1 else ((upK j (R.take k) : Nat) : Int))
   have h18 : ¬ 18 = x.kind := by omega
   simp -dsimp (disch := first | omega | (apply DrawYes.mk; decide +kernel)) only [go_sem, s3, s4, s7, s8, s9, s10, i0, hm2, hm3, a3, hgd, v1, v2, w1, w2, z0, z1, z2, y0, y1, ia, kd, klen, ks, Nat.mul_one, b13, w3, i1, kd2, klen2, h18]
   have ks2 := kc_set (fun j => if j = x.kind then ((upK x.kind (R.take k) : Nat) : Int) + 1 else ((upK j (R.take k) : Nat) : Int)) (k := 18) (by omega) (((upK 18 (R.take k) : Nat) : Int) + 1)
   simp only [Nat.reduceAdd] at ks2
   rw [ks2]
   have hkc : (kcells fun j => if j = 18 then ((upK 18 (R.take k) : Nat) : Int) + 1 else if j = x.kind then ((upK x.kind (R.take k) : Nat) : Int) + 1 else ((upK j (R.take k) : Nat) : Int)) = kcells fun j => ((upK j (R.take (k + 1)) : Nat) : Int) := by
    congr 1; funext j; rw [hup, if_neg hm0]
    by_cases hj : j = 18
    ·subst hj; simp [show ¬ x.kind = 18 by omega]
    ·rw [if_neg hj, if_neg hj]
     by_cases hj2 : j = x.kind
     ·subst hj2; simp
     ·rw [if_neg hj2, if_neg (fun h => hj2 h.symm)]; simp
   rw [hkc]
   exact ⟨by omega, by omega, by omega, by omega, by omega, by omega, k + 1, ⟨by omega, by omega, rfl, by rw [hwn, if_neg (by omega), if_neg hm0]; congr 1, by congr 1⟩, by omega⟩
 ·have hkk : k = R.length := by omega
  have i0 : ¬ (k : Int) < R.length := by omega
  subst hkk
  rw [List.take_length] at hm3 s8
  simp -dsimp (disch := first | omega | (apply DrawYes.mk; decide +kernel)) only [go_sem, s3, s4, s7, s8, s9, s10, i0, hm2, a3]
  have hlo : ∀ H', lenD cfg.T H' 51 (.sl 0 6 0 (ops.map oprV)) = some (.int .i64 ops.length) := fun H' => by simp [lenD, und_51]
  have hul := fun j => upK_le j R
  have hwl := wantN_le R
  refine Y_loop (α := Nat) (fun i σ H' => i ≤ ops.length ∧ H'.m H3.next = some (.cells 58 (kcells fun j => (upK j R : Nat) - (dnK j (ops.take i) : Nat))) ∧ σ 3 = .bool true ∧ σ 7 = .sl 0 6 0 (ops.map oprV) ∧ σ 8 = .int .i64 (1 + wantN R : Nat) ∧ σ 9 = .ptr H3.next 0 ∧ σ 12 = .int .i64 i) (fun i => ops.length - i) 0 ?_ ?_
  ·simp -dsimp (disch := first | omega | (apply DrawYes.mk; decide +kernel)) only [go_sem, s3, s7, s8, s9]
   refine ⟨Nat.zero_le _, ?_⟩
   rw [hm3]
   have : (fun j => ((upK j R : Nat) : Int)) = fun j => ((upK j R : Nat) : Int) - (dnK j (ops.take 0) : Nat) := by funext j; simp [dnK]
   rw [this]
   rfl
  clear s3 s4 s7 s8 s9 s10 hm2 hm3 hn hk hlt
  rintro i σ H5 ⟨hi, hm3, s3, s7, s8, s9, s12⟩
  have hdl := fun j => dnK_le j (ops.take i)
  simp only [List.length_take] at hdl
  by_cases hlt : i < ops.length
  ·have i1 : (i : Int) < ops.length := by omega
   have hgo : ops[i]? = some ops[i] := List.getElem?_eq_getElem hlt
   generalize ops[i] = o at hgo
   obtain ⟨_, _, ⟨_, _, g5, g6⟩, _⟩ := hgood i o hgo
   have hgv : (ops.map oprV)[i]? = some (.agg [.int .i64 o.kind, .str o.s, .str o.t, .str o.u, .int .i64 o.n, .int .i64 o.to]) := by rw [List.getElem?_map, hgo]; rfl
   have j1 : ¬ (o.kind : Int) < 1 := by omega
   have j2 : ¬ (19 : Int) < o.kind := by omega
   have hul1 := hul o.kind
   have hdl1 := hdl o.kind
   have kd := kc_drop (fun j => ((upK j R : Nat) : Int) - (dnK j (ops.take i) : Nat)) (k := o.kind) (by omega)
   have klen := kc_len (fun j => ((upK j R : Nat) : Int) - (dnK j (ops.take i) : Nat))
   have ks := kc_set (fun j => ((upK j R : Nat) : Int) - (dnK j (ops.take i) : Nat)) (k := o.kind) (by omega) (((upK o.kind R : Nat) : Int) - (dnK o.kind (ops.take i) : Nat) - 1)
   simp -dsimp (disch := first | omega | (apply DrawYes.mk; decide +kernel)) only [go_sem, s3, s7, s8, s9, s12, i1, hlo, hgv, j1, j2, hm3, ia, kd, klen, ks, Nat.mul_one]
   have hkc : (kcells fun j => if j = o.kind then ((upK o.kind R : Nat) : Int) - (dnK o.kind (ops.take i) : Nat) - 1 else ((upK j R : Nat) : Int) - (dnK j (ops.take i) : Nat)) = kcells fun j => ((upK j R : Nat) : Int) - (dnK j (ops.take (i + 1)) : Nat) := by
    congr 1; funext j; rw [dnK_take hgo]
    by_cases hj : j = o.kind
    ·subst hj; simp; omega
    ·rw [if_neg hj, if_neg (fun h => hj h.symm)]; simp
   rw [hkc]
   exact ⟨by omega, by omega, by omega, by omega, by omega, by omega, by omega, by omega, i + 1, ⟨by omega, rfl, by congr 1⟩, by omega⟩
  ·have hkk : i = ops.length := by omega
   have i1 : ¬ (i : Int) < ops.length := by omega
   subst hkk
   rw [List.take_length] at hm3
   simp -dsimp (disch := first | omega | (apply DrawYes.mk; decide +kernel)) only [go_sem, s3, s7, s8, s9, s12, i1, hlo]
   have hdl := fun j => dnK_le j ops
   have klen := kc_len (fun j => ((upK j R : Nat) : Int) - (dnK j ops : Nat))
   refine Y_loop (α := Nat) (fun k σ H' => 1 ≤ k ∧ k ≤ 18 ∧ H'.m H3.next = some (.cells 58 (kcells fun j => (upK j R : Nat) - (dnK j ops : Nat))) ∧ σ 3 = .bool true ∧ σ 7 = .sl 0 6 0 (ops.map oprV) ∧ σ 8 = .int .i64 (1 + wantN R : Nat) ∧ σ 9 = .ptr H3.next 0 ∧ σ 13 = .int .i64 k) (fun k => 18 - k) 1 ?_ ?_
   ·simp -dsimp (disch := first | omega | (apply DrawYes.mk; decide +kernel)) only [go_sem, s3, s7, s8, s9]
    exact hm3
   clear s3 s7 s8 s9 s12 hm3
   rintro k σ H6 ⟨hk1, hk2, hm3, s3, s7, s8, s9, s13⟩
   by_cases hk : k ≤ 17
   ·have i2 : (k : Int) ≤ 17 := by omega
    have kd := kc_drop (fun j => ((upK j R : Nat) : Int) - (dnK j ops : Nat)) (k := k) (by omega)
    by_cases h34 : k = 13 ∨ k = 14
    ·obtain ⟨bl, hbl⟩ : ∃ bl : Bool, ((((upK k R : Nat) : Int) - (dnK k ops : Nat)) != 0) = bl := ⟨_, rfl⟩
     rcases h34 with rfl | rfl
     ·cases bl
      ·simp -dsimp (disch := first | omega | (apply DrawYes.mk; decide +kernel)) only [go_sem, s3, s7, s8, s9, s13, i2, hm3, ia, kd, klen, Nat.mul_one, hbl]
       exact ⟨14, ⟨by omega, by omega, rfl⟩, by omega⟩
      ·simp -dsimp (disch := first | omega | (apply DrawYes.mk; decide +kernel)) only [go_sem, s3, s7, s8, s9, s13, i2, hm3, ia, kd, klen, Nat.mul_one, hbl]
       exact ⟨14, ⟨by omega, by omega, rfl⟩, by omega⟩
     ·cases bl
      ·simp -dsimp (disch := first | omega | (apply DrawYes.mk; decide +kernel)) only [go_sem, s3, s7, s8, s9, s13, i2, hm3, ia, kd, klen, Nat.mul_one, hbl]
       exact ⟨15, ⟨by omega, by omega, rfl⟩, by omega⟩
      ·simp -dsimp (disch := first | omega | (apply DrawYes.mk; decide +kernel)) only [go_sem, s3, s7, s8, s9, s13, i2, hm3, ia, kd, klen, Nat.mul_one, hbl]
       exact ⟨15, ⟨by omega, by omega, rfl⟩, by omega⟩
    ·have hz := hsame k hk1 hk (by omega) (by omega)
     have hbl : ((((upK k R : Nat) : Int) - (dnK k ops : Nat)) != 0) = false := by rw [hz]; simp
     simp -dsimp (disch := first | omega | (apply DrawYes.mk; decide +kernel)) only [go_sem, s3, s7, s8, s9, s13, i2, hm3, ia, kd, klen, Nat.mul_one, hbl]
     exact ⟨by omega, by omega, k + 1, ⟨by omega, by omega, by congr 1⟩, by omega⟩
   ·have hkk : k = 18 := by omega
    have i2 : ¬ (k : Int) ≤ 17 := by omega
    have kd18 := kc_drop (fun j => ((upK j R : Nat) : Int) - (dnK j ops : Nat)) (k := 18) (by omega)
    have kd14 := kc_drop (fun j => ((upK j R : Nat) : Int) - (dnK j ops : Nat)) (k := 14) (by omega)
    have kd19 := kc_drop (fun j => ((upK j R : Nat) : Int) - (dnK j ops : Nat)) (k := 19) (by omega)
    have e1 : ((ops.length : Int) == ((1 + wantN R : Nat) : Int)) = true := by rw [hall]; simp
    have e2 : ((((upK 18 R : Nat) : Int) - (dnK 18 ops : Nat) + (((upK 14 R : Nat) : Int) - (dnK 14 ops : Nat))) == 0) = true := by rw [hjump, hend3]; simp; omega
    have e3 : ((((upK 19 R : Nat) : Int) - (dnK 19 ops : Nat)) == -1) = true := by rw [hend1, hend2]; rfl
    simp -dsimp (disch := first | omega | (apply DrawYes.mk; decide +kernel)) only [go_sem, s3, s7, s8, s9, s13, i2, hm3, ia, kd18, kd14, kd19, klen, Nat.mul_one, hlo, e1, e2, e3]
end Go.Proofs.YtcknfhhbijlobaaGreatDoor.D
