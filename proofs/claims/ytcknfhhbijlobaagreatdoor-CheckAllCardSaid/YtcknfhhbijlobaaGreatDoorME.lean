import Derived.Test.YtcknfhhbijlobaaGreatDoorDSeat
import Derived.Test.YtcknfhhbijlobaaGreatDoorMD
namespace Go.Proofs.YtcknfhhbijlobaaGreatDoor.D
open Go
set_option linter.unusedVariables false
set_option linter.unusedSimpArgs false
set_option maxRecDepth 100000
theorem run_ok {s set r : List UInt8} {H : DH} (h : ∀ H, WC cfg 101 [.str s, .str set] H fun v H' => v = .str r ∧ Ext H H') (hl : r.length ≤ s.length) (hs : s.length < 9223372036854775808) :
 WC cfg 69 [.str s, .str set] H fun v H' => v = .int .i64 (s.length - r.length) ∧ Ext H H' := by
 refine WC_of (show Has cfg 69 12 [.tmp 4] _ from ⟨by kernel_rfl, Tryz.f69, Tryz.func69, rfl, rfl, rfl, by kernel_rfl⟩) (by simp) ?_
 simp -dsimp (disch := first | omega | (apply DrawYes.mk; decide +kernel)) only [go_sem]
 refine call (h H) ?_
 rintro _ H' ⟨rfl, hE⟩
 simp -dsimp (disch := first | omega | (apply DrawYes.mk; decide +kernel)) only [go_sem]
 exact hE
theorem cutLeft_ok {s set : List UInt8} {H : DH} (hset : ∀ b ∈ set, b.toNat < 128) : WC cfg 101 [.str s, .str set] H fun v H' => v = .str (s.dropWhile fun b => set.contains b) ∧ Ext H H' := by
 refine WC_of (show Has cfg 101 32 [.tmp 4] _ from ⟨by kernel_rfl, Tryz.f101, Tryz.func101, rfl, rfl, rfl, by kernel_rfl⟩) (by simp) ?_
 simp -dsimp (disch := first | omega | (apply DrawYes.mk; decide +kernel)) only [go_sem]
 refine Y_loop (α := Nat) (fun k σ H' => k ≤ s.length ∧ (∀ b ∈ s.take k, set.contains b = true) ∧ Ext H H' ∧ σ 0 = .str s ∧ σ 1 = .str set ∧ ∃ b, σ 11 = .ptr b 0 ∧ H.next ≤ b ∧ b < H'.next ∧ H'.m b = some (.iter s k)) (fun k => s.length - k) 0 ?_ ?_
 ·refine ⟨Nat.zero_le _, by simp, Ext.refl.new, ?_⟩
  simp -dsimp (disch := first | omega | (apply DrawYes.mk; decide +kernel)) only [go_sem]
  refine ⟨_, rfl, ?_⟩
  simp [new_m, new_next]
 ·rintro k σ H1 ⟨hk, htk, hE, h0, h1, b, hb, hbl, hbn, hm⟩
  simp -dsimp (disch := first | omega | (apply DrawYes.mk; decide +kernel)) only [go_sem, h0, h1, hb, hm]
  refine ⟨fun hlt => ?_, fun hlt => ?_⟩
  ·refine Y_loop (α := Nat) (fun j σ H' => j ≤ set.length ∧ σ 7 = .bool ((set.take j).any fun d => d.toNat == (Utf8.decode ⟨s.toArray⟩ k).1) ∧ Ext H H' ∧ σ 0 = .str s ∧ σ 1 = .str set ∧ σ 5 = .int .i64 k ∧ σ 6 = .int .i32 (Utf8.decode ⟨s.toArray⟩ k).1 ∧ σ 11 = .ptr b 0 ∧ b < H'.next ∧ H'.m b = some (.iter s (k + (Utf8.decode ⟨s.toArray⟩ k).2)) ∧ ∃ c, σ 17 = .ptr c 0 ∧ b < c ∧ c < H'.next ∧ H'.m c = some (.iter set j)) (fun j => set.length - j) 0 ?_ ?_
   ·simp -dsimp (disch := first | omega | (apply DrawYes.mk; decide +kernel)) only [go_sem, h0, h1, hb, hm]
    simp [new_m, new_next, set_m, set_next, Nat.ne_of_lt hbn, hbn, Nat.lt_succ_of_lt hbn]
    exact (hE.set hbl).new
   ·rintro j σ H2 ⟨hj, h7, hE2, h0, h1, h5, h6, hb, hbn, hm, c, hc, hcb, hcn, hm2⟩
    have hcb2 : c ≠ b := by omega
    have step : j < set.length → (set.take (j + 1)).any (fun d => d.toNat == (Utf8.decode ⟨s.toArray⟩ k).1) = ((set.take j).any (fun d => d.toNat == (Utf8.decode ⟨s.toArray⟩ k).1) || ((Utf8.decode ⟨set.toArray⟩ j).1 == (Utf8.decode ⟨s.toArray⟩ k).1)) ∧ (Utf8.decode ⟨set.toArray⟩ j).2 = 1 := by
     intro hj
     rw [decode_lo hj (hset _ (List.getElem_mem hj)), List.take_add_one, List.getElem?_eq_getElem hj, List.any_append]
     simp
    cases hq : (set.take j).any fun d => d.toNat == (Utf8.decode ⟨s.toArray⟩ k).1 with
    | true =>
     simp -dsimp (disch := first | omega | (apply DrawYes.mk; decide +kernel)) only [go_sem, h0, h1, h5, hb, hc, hm2, h7, h6, hq]
     refine ⟨fun hj => ?_, fun hj => ?_⟩
     ·obtain ⟨s1, s2⟩ := step hj
      refine ⟨j + 1, ⟨by omega, by rw [s1, hq]; rfl, hE2.set (by omega), hbn, ?_, c, rfl, hcb, hcn, by rw [if_pos rfl, s2]⟩, by omega⟩
      rw [if_neg (Ne.symm hcb2), hm]
     ·have hall : set.take j = set := List.take_of_length_le (by omega)
      obtain ⟨d1, d2⟩ := decode_in hset hlt
      rw [hall, d1] at hq
      rw [d2 hq] at hm
      refine ⟨k + 1, ⟨by omega, ?_, hE2, b, rfl, hbl, hbn, hm⟩, by omega⟩
      rw [List.take_add_one, List.getElem?_eq_getElem hlt]
      intro x hx
      rcases List.mem_append.1 hx with hx | hx
      ·exact htk x hx
      ·simp at hx; subst hx; exact hq
    | false =>
     simp -dsimp (disch := first | omega | (apply DrawYes.mk; decide +kernel)) only [go_sem, h0, h1, h5, hb, hc, hm2, h7, h6, hq]
     refine ⟨fun hj => ?_, fun hj => ?_⟩
     ·obtain ⟨s1, s2⟩ := step hj
      refine ⟨j + 1, ⟨by omega, ?_, hE2.set (by omega), hbn, ?_, c, rfl, hcb, hcn, by rw [if_pos rfl, s2]⟩, by omega⟩
      ·rw [s1, hq, Bool.false_or, Bool.beq_comm]
       congr 1
       rw [Bool.eq_iff_iff]; simp only [beq_iff_eq]; omega
      ·rw [if_neg (Ne.symm hcb2), hm]
     ·have hall : set.take j = set := List.take_of_length_le (by omega)
      obtain ⟨d1, d2⟩ := decode_in hset hlt
      rw [hall, d1] at hq
      exact ⟨⟨by omega, by omega⟩, by rw [dropWhile_at hlt htk hq], hE2⟩
  ·refine ⟨?_, hE⟩
   rw [List.take_of_length_le (by omega)] at htk
   rw [dropWhile_all htk]
end Go.Proofs.YtcknfhhbijlobaaGreatDoor.D
namespace Go.Proofs.YtcknfhhbijlobaaGreatDoor.D
open Go
set_option linter.unusedVariables false
set_option linter.unusedSimpArgs false
set_option maxRecDepth 100000
theorem indexByte0_ok {s : List UInt8} {c : UInt8} {H : DH} : WC cfg 100 [.str s, byteDV c] H fun v H' => v = .int .i64 (Lib.indexByte s c) ∧ H' = H := by
 refine WC_of (show Has cfg 100 8 [.tmp 4] _ from ⟨by kernel_rfl, Tryz.f100, Tryz.func100, rfl, rfl, rfl, by kernel_rfl⟩) (by simp) ?_
 simp -dsimp (disch := first | omega | (apply DrawYes.mk; decide +kernel)) only [go_sem]
 refine call (K := fun v H' => v = .int .i64 (Lib.indexByte s c) ∧ H' = H) ((WC_ext rfl).2 ⟨_, _, rfl, by rw [u8_back], rfl⟩) ?_
 rintro _ _ ⟨rfl, rfl⟩
 simp -dsimp (disch := first | omega | (apply DrawYes.mk; decide +kernel)) only [go_sem]
theorem indexByte_ok {s : List UInt8} {c : UInt8} {H : DH} : WC cfg 68 [.str s, byteDV c] H fun v H' => v = .int .i64 (Lib.indexByte s c) ∧ H' = H := by
 refine WC_of (show Has cfg 68 8 [.tmp 4] _ from ⟨by kernel_rfl, Tryz.f68, Tryz.func68, rfl, rfl, rfl, by kernel_rfl⟩) (by simp) ?_
 simp -dsimp (disch := first | omega | (apply DrawYes.mk; decide +kernel)) only [go_sem]
 refine call indexByte0_ok ?_
 rintro _ _ ⟨rfl, rfl⟩
 simp -dsimp (disch := first | omega | (apply DrawYes.mk; decide +kernel)) only [go_sem]
theorem index1_ok {s : List UInt8} {c : UInt8} {H : DH} : WC cfg 125 [.str s, .str [c]] H fun v H' => v = .int .i64 (Lib.indexByte s c) ∧ H' = H := by
 refine WC_of (show Has cfg 125 143 [.tmp 4] _ from ⟨by kernel_rfl, Tryz.f125, Tryz.func125, rfl, rfl, rfl, by kernel_rfl⟩) (by simp) ?_
 simp -dsimp (disch := first | omega | (apply DrawYes.mk; decide +kernel)) only [go_sem]
 refine ⟨?_, fun _ => call indexByte0_ok ?_⟩
 ·rintro rfl; simp [Lib.indexByte]
 rintro _ _ ⟨rfl, rfl⟩
 simp -dsimp (disch := first | omega | (apply DrawYes.mk; decide +kernel)) only [go_sem]
theorem cut0_ok {s : List UInt8} {c : UInt8} {H : DH} (hs : s.length < 9223372036854775807) : WC cfg 102 [.str s, .str [c]] H fun v H' => (∃ x b, v = .tup [.str (s.takeWhile (· != c)), x, b]) ∧ H' = H := by
 refine WC_of (show Has cfg 102 23 [.tmp 4, .tmp 5, .tmp 6] _ from ⟨by kernel_rfl, Tryz.f102, Tryz.func102, rfl, rfl, rfl, by kernel_rfl⟩) (by simp) ?_
 simp -dsimp (disch := first | omega | (apply DrawYes.mk; decide +kernel)) only [go_sem]
 refine call index1_ok ?_
 rintro _ _ ⟨rfl, rfl⟩
 have hl := idx_lt (s := s) (c := c)
 simp -dsimp (disch := first | omega | (apply DrawYes.mk; decide +kernel)) only [go_sem]
 refine ⟨fun h => ?_, fun h => ?_⟩
 ·have h' := h
  rw [idx_ge'] at h'
  have hlt : Lib.indexByte s c < s.length := by rcases hl with hl | rfl; exact hl; cases h'
  rw [wrap_i64 (by omega) (by omega)]
  refine ⟨⟨h, by omega⟩, ⟨by omega, by omega⟩, .str (s.drop (Lib.indexByte s c + 1).toNat), .bool true, ?_⟩
  rw [idx_mem h', Int.toNat_natCast, take_tw]
 ·rw [idx_ge'] at h
  exact ⟨_, _, by rw [tw_not h]⟩
theorem cut_ok {s : List UInt8} {c : UInt8} {H : DH} (hs : s.length < 9223372036854775807) : WC cfg 70 [.str s, .str [c]] H fun v H' => (∃ x b, v = .tup [.str (s.takeWhile (· != c)), x, b]) ∧ H' = H := by
 refine WC_of (show Has cfg 70 13 [.tmp 4, .tmp 5, .tmp 6] _ from ⟨by kernel_rfl, Tryz.f70, Tryz.func70, rfl, rfl, rfl, by kernel_rfl⟩) (by simp) ?_
 simp -dsimp (disch := first | omega | (apply DrawYes.mk; decide +kernel)) only [go_sem]
 refine call (cut0_ok hs) ?_
 rintro _ _ ⟨⟨x, b, rfl⟩, rfl⟩
 simp -dsimp (disch := first | omega | (apply DrawYes.mk; decide +kernel)) only [go_sem]
 exact ⟨_, _, rfl⟩
def Bld (lo : Nat) (H : DH) (b : Nat) (s : List UInt8) : Prop :=
 ∃ a buf, H.m b = some (.cells 143 [a, buf]) ∧ (a = .nilp ∨ a = .ptr b 0) ∧ IsSl lo H 5 1 buf (s.map byteDV) ∧ lo ≤ b ∧ b < H.next
structure Keep (lo b : Nat) (H H' : DH) : Prop where
 le : H.next ≤ H'.next
 low : ∀ i, i < lo → H'.m i = H.m i
 rest : ∀ i o, i < H.next → i ≠ b → H.m i = some o → (∀ T n c, o ≠ .tip T n c) → H'.m i = some o
theorem lies_b : cfg.T.lies 143 2 0 143 = true := by kernel_rfl
theorem copyCheck_ok {lo b : Nat} {s : List UInt8} {H : DH} (h : Bld lo H b s) : WC cfg 126 [.ptr b 0] H fun v H' => Bld lo H' b s ∧ Keep lo b H H' := by
 obtain ⟨a, buf, h1, h2, h3, h4, h5⟩ := h
 refine WC_of (show Has cfg 126 20 [] _ from ⟨by kernel_rfl, Tryz.f126, Tryz.func126, rfl, rfl, rfl, by kernel_rfl⟩) (by simp) ?_
 rcases h2 with rfl | rfl
 ·simp -dsimp (disch := first | omega | (apply DrawYes.mk; decide +kernel)) only [go_sem, h1, convD, lies_b]
  refine call (K := fun v H' => v = .ptr b 0 ∧ H' = H) ((WC_ext rfl).2 ⟨_, _, rfl, rfl, rfl⟩) ?_
  rintro _ _ ⟨rfl, rfl⟩
  simp -dsimp (disch := first | omega | (apply DrawYes.mk; decide +kernel)) only [go_sem, h1, convD, lies_b]
  refine ⟨⟨_, _, by rw [set_m, if_pos rfl], .inr rfl, h3.set h1 (by simp), h4, h5⟩, ⟨Nat.le_refl _, fun i hi => ?_, fun i o hi hne ho _ => ?_⟩⟩
  ·rw [set_m, if_neg (by omega)]
  ·rw [set_m, if_neg hne, ho]
 ·simp -dsimp (disch := first | omega | (apply DrawYes.mk; decide +kernel)) only [go_sem, h1, convD, lies_b]
  exact ⟨⟨_, _, h1, .inr rfl, h3, h4, h5⟩, ⟨Nat.le_refl _, fun i hi => rfl, fun i o hi hne ho _ => ho⟩⟩
theorem writeByte_ok {lo b : Nat} {s : List UInt8} {c : UInt8} {H : DH} (h : Bld lo H b s) (hs : s.length < 1000000) : WC cfg 105 [.ptr b 0, byteDV c] H fun v H' => Bld lo H' b (s ++ [c]) ∧ Keep lo b H H' := by
 refine WC_of (show Has cfg 105 17 [.tmp 4] _ from ⟨by kernel_rfl, Tryz.f105, Tryz.func105, rfl, rfl, rfl, by kernel_rfl⟩) (by simp) ?_
 simp -dsimp (disch := first | omega | (apply DrawYes.mk; decide +kernel)) only [go_sem]
 refine call (copyCheck_ok h) ?_
 rintro _ H1 ⟨⟨a, buf, h1, h2, h3, h4, h5⟩, hk⟩
 simp -dsimp (disch := first | omega | (apply DrawYes.mk; decide +kernel)) only [go_sem, h1, byteDV]
 refine app (lo := lo) (es := s.map byteDV) (new := [byteDV c]) und_141 size_5 bytes_5 und_141 zero_5 rfl rfl (by omega) h3.new rfl (by simp only [new_next]; omega) (by simp; omega) (by simp; omega) ?_
 intro v' H3 hs3 hsm
 obtain ⟨hc, ho⟩ := hs3.one
 have hb3 : H3.m b = some (.cells 143 [a, buf]) := hsm.keep h3.new (by simp only [new_next]; omega) (by rw [new_m, if_neg (by omega), h1]) (by simp)
 simp -dsimp (disch := first | omega | (apply DrawYes.mk; decide +kernel)) only [go_sem, hb3, hc, ho]
 refine ⟨⟨_, _, by rw [set_m, if_pos rfl], h2, ?_, h4, ?_⟩, ⟨?_, fun i hi => ?_, fun i o hi hne hoo hn => ?_⟩⟩
 ·simpa using hs3.set hb3 (by simp)
 ·have := hsm.le; simp only [new_next] at this; simp only [set_next]; omega
 ·have := hsm.le; have := hk.le; simp only [new_next] at *; simp only [set_next]; omega
 ·rw [set_m, if_neg (by omega)]
  rw [hsm.same i (by simp only [new_next]; omega), new_m, if_neg (by omega), hk.low i hi]
  rintro id sz off es rfl
  rcases h3 with ⟨h3, _⟩ | ⟨id', off', k, h3, _, _, h6, _⟩ <;> cases h3
  omega
 ·rw [set_m, if_neg hne]
  have := hk.le
  exact hsm.keep h3.new (by simp only [new_next]; omega) (by rw [new_m, if_neg (by omega)]; exact hk.rest i o hi hne hoo hn) hn
theorem bstring_ok {lo b : Nat} {s : List UInt8} {H : DH} (h : Bld lo H b s) (hs : s.length < 1000000) : WC cfg 104 [.ptr b 0] H fun v H' => v = .str s ∧ H' = H := by
 obtain ⟨a, buf, h1, h2, h3, h4, h5⟩ := h
 refine WC_of (show Has cfg 104 14 [.tmp 2] _ from ⟨by kernel_rfl, Tryz.f104, Tryz.func104, rfl, rfl, rfl, by kernel_rfl⟩) (by simp) ?_
 rcases h3 with ⟨rfl, h3⟩ | ⟨id, off, k, rfl, h3, h6, h7, h8, h9⟩
 ·simp -dsimp (disch := first | omega | (apply DrawYes.mk; decide +kernel)) only [go_sem, h1, unsafeStrD]
  rw [List.map_eq_nil_iff] at h3; rw [h3]
 ·simp -dsimp (disch := first | omega | (apply DrawYes.mk; decide +kernel)) only [go_sem, h1, h3, dt_sl h9, unsafeStrD, bytesOf_map]
  simp at h6
  simp [h6]
  omega
theorem blen_ok {lo b : Nat} {s : List UInt8} {H : DH} (h : Bld lo H b s) : WC cfg 103 [.ptr b 0] H fun v H' => v = .int .i64 s.length ∧ H' = H := by
 obtain ⟨a, buf, h1, h2, h3, h4, h5⟩ := h
 refine WC_of (show Has cfg 103 8 [.tmp 2] _ from ⟨by kernel_rfl, Tryz.f103, Tryz.func103, rfl, rfl, rfl, by kernel_rfl⟩) (by simp) ?_
 simp -dsimp (disch := first | omega | (apply DrawYes.mk; decide +kernel)) only [go_sem, h1, h3.len und_141]
 rw [List.length_map]
end Go.Proofs.YtcknfhhbijlobaaGreatDoor.D
namespace Go.Proofs.YtcknfhhbijlobaaGreatDoor.D
open Go
set_option linter.unusedVariables false
set_option linter.unusedSimpArgs false
set_option maxRecDepth 100000
def splitC : List UInt8 → UInt8 → List (List UInt8)
 | [], _ => [[]]
 | b :: s, c => if b = c then [] :: splitC s c else match splitC s c with | p :: r => (b :: p) :: r | [] => [[b]]
def wordsB (s : List UInt8) : List (List UInt8) := (splitC s 32).filter fun w => !w.isEmpty
theorem splitC_not {c : UInt8} : ∀ {s : List UInt8}, c ∉ s → splitC s c = [s]
 | [], _ => rfl
 | b :: s, h => by
  simp only [List.mem_cons, not_or] at h
  simp only [splitC]
  rw [if_neg (fun e => h.1 e.symm), splitC_not h.2]
theorem splitC_app {c : UInt8} {y : List UInt8} : ∀ {x : List UInt8}, c ∉ x → splitC (x ++ c :: y) c = x :: splitC y c
 | [], _ => by simp [splitC]
 | b :: x, h => by
  simp only [List.mem_cons, not_or] at h
  simp only [List.cons_append, splitC]
  rw [if_neg (fun e => h.1 e.symm), splitC_app h.2]
theorem splitC_at {c : UInt8} {s : List UInt8} (h : c ∈ s) : splitC s c = s.takeWhile (· != c) :: splitC (s.drop ((s.takeWhile (· != c)).length + 1)) c ∧ (s.takeWhile (· != c)).length < s.length ∧ s.count c = (s.drop ((s.takeWhile (· != c)).length + 1)).count c + 1 := by
 induction s with
 | nil => cases h
 | cons b s ih =>
  by_cases hb : b = c
  ·subst hb; simp [splitC]
  ·have hm : c ∈ s := by
    rcases List.mem_cons.1 h with h | h
    ·exact absurd h.symm hb
    ·exact h
   obtain ⟨i1, i2, i3⟩ := ih hm
   have ht : (b :: s).takeWhile (· != c) = b :: s.takeWhile (· != c) := by simp [hb]
   rw [ht]
   refine ⟨?_, by simp; omega, ?_⟩
   ·simp only [splitC]
    rw [if_neg hb, i1]
    simp
   ·rw [List.count_cons, if_neg (by simpa using hb), i3]
    simp
theorem count_ok {s : List UInt8} {c : UInt8} {H : DH} : WC cfg 141 [.str s, .str [c]] H fun v H' => v = .int .i64 (s.count c : Nat) ∧ H' = H := by
 refine WC_of (show Has cfg 141 34 [.tmp 4] _ from ⟨by kernel_rfl, Tryz.f141, Tryz.func141, rfl, rfl, rfl, by kernel_rfl⟩) (by simp) ?_
 simp -dsimp (disch := first | omega | (apply DrawYes.mk; decide +kernel)) only [go_sem]
 refine call ((WC_ext (C := cfg) (e := extCount) (by kernel_rfl)).2 ⟨_, _, rfl, ?_⟩) fun v H' h => h
 simp [Lib.countByte]
 simp -dsimp (disch := first | omega | (apply DrawYes.mk; decide +kernel)) only [go_sem]
theorem count_eq {s : List UInt8} {c : UInt8} {H : DH} {K : DV → DH → Prop} {b : Later K} : WK cfg 141 [.str s, .str [c]] H b = K (.int .i64 (s.count c : Nat)) H := WK_det count_ok
theorem sindex_ok {s : List UInt8} {c : UInt8} {H : DH} : WC cfg 142 [.str s, .str [c]] H fun v H' => v = .int .i64 (Lib.indexByte s c) ∧ H' = H := by
 refine WC_of (show Has cfg 142 8 [.tmp 4] _ from ⟨by kernel_rfl, Tryz.f142, Tryz.func142, rfl, rfl, rfl, by kernel_rfl⟩) (by simp) ?_
 simp -dsimp (disch := first | omega | (apply DrawYes.mk; decide +kernel)) only [go_sem]
 refine call index1_ok ?_
 rintro _ _ ⟨rfl, rfl⟩
 simp -dsimp (disch := first | omega | (apply DrawYes.mk; decide +kernel)) only [go_sem]
theorem sindex_eq {s : List UInt8} {c : UInt8} {H : DH} {K : DV → DH → Prop} {b : Later K} : WK cfg 142 [.str s, .str [c]] H b = K (.int .i64 (Lib.indexByte s c)) H := WK_det sindex_ok
theorem flat_one {l : List DV} (h : ∀ x ∈ l, x.one = true) : flat l = l := by
 induction l with
 | nil => rfl
 | cons a l ih =>
  have ha := h a (by simp)
  simp only [flat]
  rw [ih fun x hx => h x (by simp [hx])]
  cases a <;> first | rfl | (simp [DV.one] at ha)
theorem flat_strs (n : Nat) : flat (List.replicate n (.str [])) = List.replicate n (.str []) := flat_one fun x hx => by rw [List.mem_replicate] at hx; rw [hx.2]; rfl
theorem replace_ok {s : List UInt8} {c d : UInt8} {H : DH} (h : c ∉ s) : WC cfg 107 [.str s, .str [c], .str [d]] H fun v H' => v = .str s ∧ H' = H := by
 refine WC_of (show Has cfg 107 11 [.tmp 6] _ from ⟨by kernel_rfl, Tryz.f107, Tryz.func107, rfl, rfl, rfl, by kernel_rfl⟩) (by simp) ?_
 simp -dsimp (disch := first | omega | (apply DrawYes.mk; decide +kernel)) only [go_sem]
 refine call (K := fun v H' => v = .str s ∧ H' = H) ?_ ?_
 ·refine WC_of (show Has cfg 128 104 [.tmp 8] _ from ⟨by kernel_rfl, Tryz.f128, Tryz.func128, rfl, rfl, rfl, by kernel_rfl⟩) (by simp) ?_
  have h0 : s.count c = 0 := List.count_eq_zero.2 h
  by_cases hcd : ([c] : List UInt8) = [d]
  ·simp -dsimp (disch := first | omega | (apply DrawYes.mk; decide +kernel)) only [go_sem, hcd]
  ·simp -dsimp (disch := first | omega | (apply DrawYes.mk; decide +kernel)) only [go_sem, hcd, count_eq, h0]
 ·rintro _ _ ⟨rfl, rfl⟩
  simp -dsimp (disch := first | omega | (apply DrawYes.mk; decide +kernel)) only [go_sem]
theorem row_put {n : Nat} {ps : List (List UInt8)} {v : DV} (h : ps.length ≤ n) : List.take ps.length (ps.map DV.str ++ List.replicate (n + 1 - ps.length) (.str [])) ++ [v] ++ List.drop (ps.length + 1) (ps.map DV.str ++ List.replicate (n + 1 - ps.length) (.str [])) = ps.map DV.str ++ v :: List.replicate (n - ps.length) (.str []) := by
 have hl : (ps.map DV.str).length = ps.length := by simp
 have e1 : List.take ps.length (ps.map DV.str ++ List.replicate (n + 1 - ps.length) (.str [])) = ps.map DV.str := by rw [← hl, List.take_left]
 have e2 : List.drop (ps.length + 1) (ps.map DV.str ++ List.replicate (n + 1 - ps.length) (.str [])) = List.replicate (n - ps.length) (DV.str []) := by
  rw [← List.drop_drop, ← hl, List.drop_left, List.drop_replicate, hl]
  congr 1; omega
 rw [e1, e2]
 simp
theorem genSplit_ok {s : List UInt8} {c : UInt8} {H : DH} (hs : s.length < 100000000) : WC cfg 127 [.str s, .str [c], .int .i64 0, .int .i64 (-1)] H fun v H' => Ext H H' ∧ ∃ id cs, H.next ≤ id ∧ id < H'.next ∧ v = .hs id 1 0 (splitC s c).length ∧ H'.m id = some (.row 9 cs) ∧ cs.take (splitC s c).length = (splitC s c).map DV.str := by
 refine WC_of (show Has cfg 127 66 [.tmp 8] _ from ⟨by kernel_rfl, Tryz.f127, Tryz.func127, rfl, rfl, rfl, by kernel_rfl⟩) (by simp) ?_
 have hcnt : s.count c ≤ s.length := List.count_le_length
 have hmin : ¬ ((s.length : Int) + 1 < (s.count c : Nat) + 1) := by omega
 simp -dsimp (disch := first | omega | (apply DrawYes.mk; decide +kernel)) only [go_sem, count_eq, hmin]
 refine mk_sl und_38 size_9 bytes_9 zero_9 rfl (by decide) rfl (by omega) (by omega) (by omega) (by omega) ?_
 have ht : ((s.count c : Nat) + 1 : Int).toNat = s.count c + 1 := by omega
 simp -dsimp (disch := first | omega | (apply DrawYes.mk; decide +kernel)) only [go_sem, ht, flat_strs]
 refine Y_loop (α := List (List UInt8) × List UInt8) (fun a σ H' => Ext H H' ∧ H.next < H'.next ∧ H'.m H.next = some (.row 9 (a.1.map DV.str ++ List.replicate (s.count c + 1 - a.1.length) (.str []))) ∧ a.1.length + a.2.count c = s.count c ∧ a.1 ++ splitC a.2 c = splitC s c ∧ a.2.length ≤ s.length ∧
  σ 0 = .str a.2 ∧ σ 1 = .str [c] ∧ σ 2 = .int .i64 0 ∧ σ 3 = .int .i64 (s.count c : Nat) ∧ σ 9 = .hs H.next 1 0 (s.count c + 1) ∧ σ 10 = .int .i64 a.1.length) (fun a => a.2.length) ([], s) ?_ ?_
 ·simp -dsimp (disch := first | omega | (apply DrawYes.mk; decide +kernel)) only [go_sem, ht]
  refine ⟨Ext.refl.new, by omega, by simp, Nat.le_refl _, ?_⟩
  congr 1; omega
 rintro ⟨ps, t⟩ σ H1 ⟨hE, hn, hm, hk, hq, htl, g0, g1, g2, g3, g9, g10⟩
 simp only at hm hk hq htl g0 g10
 by_cases hc : c ∈ t
 ·obtain ⟨i1, i2, i3⟩ := splitC_at hc
  have k0 : (ps.length : Int) < s.count c := by omega
  have k1 : ¬ (((t.takeWhile (· != c)).length : Nat) : Int) < 0 := by omega
  have e1 : t.take (t.takeWhile (· != c)).length = t.takeWhile (· != c) := take_tw _ t
  have hrp : ∀ v, _ := fun v => row_put (n := s.count c) (ps := ps) (v := v) (by omega)
  have hlen : (ps.map DV.str ++ List.replicate (s.count c + 1 - ps.length) (DV.str [])).length = s.count c + 1 := by simp; omega
  have t1 : ((((t.takeWhile (· != c)).length : Nat) : Int) + 0).toNat = (t.takeWhile (· != c)).length := by omega
  have t2 : ((((t.takeWhile (· != c)).length : Nat) : Int) + 1).toNat = (t.takeWhile (· != c)).length + 1 := by omega
  simp -dsimp (disch := first | omega | (apply DrawYes.mk; decide +kernel)) only [go_sem, g0, g1, g2, g3, g9, g10, k0, sindex_eq, idx_mem hc, k1, hm, Nat.mul_one, hrp, hlen, t1, t2, e1]
  refine ⟨⟨by omega, by omega⟩, by omega, by omega, by omega, ⟨by omega, by omega⟩, (ps ++ [t.takeWhile (· != c)], t.drop ((t.takeWhile (· != c)).length + 1)), ⟨hE.set (Nat.le_refl _), hn, ?_, ?_, ?_, ?_, rfl, ?_⟩, ?_⟩
  ·simp only [List.length_append, List.map_append, List.map_cons, List.map_nil, List.length_cons, List.length_nil, List.append_assoc, List.cons_append, List.nil_append]; congr 4; omega
  ·simp only [List.length_append, List.length_cons, List.length_nil]; omega
  ·rw [← hq, i1]; simp
  ·simp; omega
  ·simp
  ·simp; omega
 ·have k2 : t.count c = 0 := List.count_eq_zero.2 hc
  have k0 : ¬ (ps.length : Int) < s.count c := by omega
  have hrp : ∀ v, _ := fun v => row_put (n := s.count c) (ps := ps) (v := v) (by omega)
  have hlen : (ps.map DV.str ++ List.replicate (s.count c + 1 - ps.length) (DV.str [])).length = s.count c + 1 := by simp; omega
  have t1 : ((ps.length : Int) + 1).toNat - 0 = ps.length + 1 := by omega
  rw [splitC_not hc] at hq
  have hsl : (splitC s c).length = ps.length + 1 := by rw [← hq]; simp
  simp -dsimp (disch := first | omega | (apply DrawYes.mk; decide +kernel)) only [go_sem, g0, g1, g2, g3, g9, g10, k0, hm, Nat.mul_one, hrp, hlen, t1, hsl]
  refine ⟨by omega, by omega, by omega, ⟨by omega, by omega⟩, hE.set (Nat.le_refl _), H.next, _, Nat.le_refl _, hn, rfl, if_pos rfl, ?_⟩
  have hl : (ps.map DV.str).length = ps.length := by simp
  rw [List.take_append, hl, List.take_of_length_le (by simp), show ps.length + 1 - ps.length = 1 by omega, ← hq]
  simp
theorem splitC_two {s : List UInt8} {c : UInt8} : (splitC s c).length ≤ s.length + 1 := by
 induction s with
 | nil => simp [splitC]
 | cons b s ih =>
  simp only [splitC]
  split
  ·simp; omega
  ·cases h : splitC s c with
   | nil => simp
   | cons p r => rw [h] at ih; simp at ih ⊢; omega
theorem split_ok {s : List UInt8} {c : UInt8} {H : DH} (hs : s.length < 100000000) : WC cfg 106 [.str s, .str [c]] H fun v H' => Ext H H' ∧ ∃ id cs, H.next ≤ id ∧ id < H'.next ∧ v = .hs id 1 0 (splitC s c).length ∧ H'.m id = some (.row 9 cs) ∧ cs.take (splitC s c).length = (splitC s c).map DV.str := by
 refine WC_of (show Has cfg 106 8 [.tmp 4] _ from ⟨by kernel_rfl, Tryz.f106, Tryz.func106, rfl, rfl, rfl, by kernel_rfl⟩) (by simp) ?_
 simp -dsimp (disch := first | omega | (apply DrawYes.mk; decide +kernel)) only [go_sem]
 refine call (genSplit_ok hs) ?_
 rintro v H' h
 simp -dsimp (disch := first | omega | (apply DrawYes.mk; decide +kernel)) only [go_sem]
 exact h
theorem words_ok {s : List UInt8} {H : DH} (hs : s.length < 100000000) (h9 : (9 : UInt8) ∉ s) : WC cfg 77 [.str s] H fun v H' => Ext H H' ∧ IsSl H.next H' 9 1 v ((wordsB s).map DV.str) := by
 refine WC_of (show Has cfg 77 22 [.tmp 2] _ from ⟨by kernel_rfl, Tryz.f77, Tryz.func77, rfl, rfl, rfl, by kernel_rfl⟩) (by simp) ?_
 simp -dsimp (disch := first | omega | (apply DrawYes.mk; decide +kernel)) only [go_sem]
 refine call (replace_ok h9) ?_
 rintro _ _ ⟨rfl, rfl⟩
 simp -dsimp (disch := first | omega | (apply DrawYes.mk; decide +kernel)) only [go_sem]
 refine call (split_ok hs) ?_
 rintro _ H1 ⟨hE, id, cs, hi1, hi2, rfl, hm, hcs⟩
 have hle := splitC_two (s := s) (c := 32)
 have hwl : ∀ k, ((((splitC s 32).take k).filter fun w => !w.isEmpty)).length ≤ k := fun k => Nat.le_trans (List.length_filter_le _ _) (by simp; omega)
 simp -dsimp (disch := first | omega | (apply DrawYes.mk; decide +kernel)) only [go_sem]
 refine Y_loop (α := Nat) (fun k σ H' => Ext H1 H' ∧ k ≤ (splitC s 32).length ∧ IsSl H1.next H' 9 1 (σ 3) ((((splitC s 32).take k).filter fun w => !w.isEmpty).map DV.str) ∧ σ 8 = .hs id 1 0 (splitC s 32).length ∧ σ 9 = .int .i64 (splitC s 32).length ∧ σ 10 = .int .i64 k) (fun k => (splitC s 32).length - k) 0 ?_ ?_
 ·simp -dsimp (disch := first | omega | (apply DrawYes.mk; decide +kernel)) only [go_sem]
  exact ⟨Ext.refl, Nat.zero_le _, .inl ⟨rfl, rfl⟩⟩
 rintro k σ H2 ⟨hE2, hk, hsl, g8, g9, g10⟩
 have hm2 := hE2.get hi2 hm
 by_cases hlt : k < (splitC s 32).length
 ·have k0 : (k : Int) < (splitC s 32).length := by omega
  have hd : List.drop k cs = DV.str (splitC s 32)[k] :: List.drop (k + 1) cs := by
   have h1 : cs[k]? = some (DV.str (splitC s 32)[k]) := by
    have : ((splitC s 32).map DV.str)[k]? = some (DV.str (splitC s 32)[k]) := by simp [hlt]
    rw [← hcs, List.getElem?_take, if_pos hlt] at this; exact this
   rw [List.drop_eq_getElem?_toList_append, h1]; rfl
  have htk : (splitC s 32).take (k + 1) = (splitC s 32).take k ++ [(splitC s 32)[k]] := by rw [List.take_add_one, List.getElem?_eq_getElem hlt]; rfl
  generalize (splitC s 32)[k] = w at hd htk
  simp -dsimp (disch := first | omega | (apply DrawYes.mk; decide +kernel)) only [go_sem, g8, g9, g10, k0, hm2, Nat.mul_one, hd]
  refine ⟨by omega, fun hw => ⟨k + 1, ⟨hE2, by omega, ?_, by simp⟩, by omega⟩, fun hw => ?_⟩
  ·rw [htk, List.filter_append, hw]; simpa using hsl
  have hkk := hwl k
  refine app (lo := H1.next) (es := _) (new := [.str w]) und_38 size_9 bytes_9 und_38 zero_9 rfl rfl (by omega) hsl.new rfl (by have := hE2.le; simp only [new_next]; omega) (by simp; omega) (by simp; omega) ?_
  intro v' H3 hs3 hsm
  simp -dsimp (disch := first | omega | (apply DrawYes.mk; decide +kernel)) only [go_sem, g8, g9, g10, k0]
  refine ⟨k + 1, ⟨hsm.ext hsl.new hE2.new, by omega, ?_, by simp⟩, by omega⟩
  rw [htk, List.filter_append]
  simpa [hw] using hs3
 ·have k0 : ¬ (k : Int) < (splitC s 32).length := by omega
  simp -dsimp (disch := first | omega | (apply DrawYes.mk; decide +kernel)) only [go_sem, g8, g9, g10, k0]
  refine ⟨hE.trans hE2, ?_⟩
  rw [List.take_of_length_le (by omega)] at hsl
  exact hsl.low hE.le
end Go.Proofs.YtcknfhhbijlobaaGreatDoor.D
namespace Go.Proofs.YtcknfhhbijlobaaGreatDoor.D
open Go
set_option linter.unusedVariables false
set_option linter.unusedSimpArgs false
set_option maxRecDepth 100000
def numD (s : List UInt8) : Nat := s.foldl (fun n b => n * 10 + (b.toNat - 48)) 0
def isDig (b : UInt8) : Prop := 48 ≤ b.toNat ∧ b.toNat ≤ 57
theorem numD_lt : ∀ (s : List UInt8) (n : Nat), (∀ b ∈ s, isDig b) → s.foldl (fun n b => n * 10 + (b.toNat - 48)) n < (n + 1) * 10 ^ s.length
 | [], n, _ => by simp
 | b :: s, n, h => by
  have hb := h b (by simp)
  have := numD_lt s (n * 10 + (b.toNat - 48)) fun x hx => h x (by simp [hx])
  simp only [List.foldl_cons, List.length_cons, Nat.pow_succ]
  refine Nat.lt_of_lt_of_le this ?_
  unfold isDig at hb
  have : n * 10 + (b.toNat - 48) + 1 ≤ (n + 1) * 10 := by omega
  calc _ ≤ ((n + 1) * 10) * 10 ^ s.length := Nat.mul_le_mul_right _ this
   _ = _ := by rw [Nat.mul_assoc, Nat.mul_comm 10]
theorem atoi0_ok {s : List UInt8} {H : DH} (hd : ∀ b ∈ s, isDig b) (h0 : 0 < s.length) (h9 : s.length ≤ 9) : WC cfg 129 [.str s] H fun v H' => v = .tup [.int .i64 (numD s), .nili] ∧ Ext H H' := by
 refine WC_of (show Has cfg 129 77 [.tmp 2, .tmp 3] _ from ⟨by kernel_rfl, Tryz.f129, Tryz.func129, rfl, rfl, rfl, by kernel_rfl⟩) (by simp) ?_
 have k0 : 0 < (s.length : Int) := by omega
 have k1 : (s.length : Int) < 19 := by omega
 obtain ⟨b0, hb0⟩ : ∃ b, s[0]? = some b := ⟨s[0], List.getElem?_eq_getElem h0⟩
 have hbd := hd b0 (List.mem_of_getElem? hb0)
 unfold isDig at hbd
 have k2 : ((b0.toNat : Int) == 45) = false := by simp; omega
 have k3 : ((b0.toNat : Int) == 43) = false := by simp; omega
 have k4 : s.length < 9223372036854775808 := by omega
 simp -dsimp (disch := first | omega | (apply DrawYes.mk; decide +kernel)) only [go_sem, k0, k1, hb0, k2, k3, k4, List.length_map]
 refine Y_loop (α := Nat) (fun k σ H' => Ext H H' ∧ k ≤ s.length ∧ σ 5 = .str s ∧ σ 6 = .int .i64 (numD (s.take k)) ∧ σ 47 = .sl H.next 1 0 (s.map byteDV) ∧ σ 48 = .int .i64 s.length ∧ σ 49 = .int .i64 k) (fun k => s.length - k) 0 ?_ ?_
 ·simp -dsimp (disch := first | omega | (apply DrawYes.mk; decide +kernel)) only [go_sem, List.length_map]
  exact ⟨Ext.refl.new, Nat.zero_le _, rfl⟩
 rintro k σ H1 ⟨hE, hk, g5, g6, g47, g48, g49⟩
 by_cases hlt : k < s.length
 ·have q0 : (k : Int) < s.length := by omega
  have hg : s[k]? = some s[k] := List.getElem?_eq_getElem hlt
  have hgm : (s.map byteDV)[k]? = some (.int .u8 s[k].toNat) := by rw [List.getElem?_map, hg]; rfl
  have hdk := hd s[k] (List.getElem_mem hlt)
  have hst : numD (s.take (k + 1)) = numD (s.take k) * 10 + (s[k].toNat - 48) := by
   rw [List.take_add_one, hg]; simp only [numD, Option.toList_some, List.foldl_append, List.foldl_cons, List.foldl_nil]
  have hb := numD_lt (s.take k) 0 fun b hb => hd b (List.mem_of_mem_take hb)
  have hb2 : numD (s.take k) < 10 ^ 9 := by
   refine Nat.lt_of_lt_of_le hb ?_
   rw [Nat.zero_add, Nat.one_mul]
   exact Nat.pow_le_pow_right (by decide) (by simp; omega)
  generalize s[k] = c at hg hgm hdk hst
  unfold isDig at hdk
  have q1 : ¬ (9 : Int) < (c.toNat : Int) - 48 := by omega
  simp -dsimp (disch := first | omega | (apply DrawYes.mk; decide +kernel)) only [go_sem, g5, g6, g47, g48, g49, q0, hgm, q1]
  refine ⟨by omega, k + 1, ⟨hE, by omega, ?_, rfl⟩, by omega⟩
  rw [hst]; congr 1; omega
 ·have q0 : ¬ (k : Int) < s.length := by omega
  rw [List.take_of_length_le (by omega)] at g6
  simp -dsimp (disch := first | omega | (apply DrawYes.mk; decide +kernel)) only [go_sem, g5, g6, g47, g48, g49, q0, hb0, k2, k3]
  exact hE
theorem atoi_ok {s : List UInt8} {H : DH} (hd : ∀ b ∈ s, isDig b) (h0 : 0 < s.length) (h9 : s.length ≤ 9) : WC cfg 108 [.str s] H fun v H' => v = .tup [.int .i64 (numD s), .nili] ∧ Ext H H' := by
 refine WC_of (show Has cfg 108 18 [.tmp 2, .tmp 3] _ from ⟨by kernel_rfl, Tryz.f108, Tryz.func108, rfl, rfl, rfl, by kernel_rfl⟩) (by simp) ?_
 simp -dsimp (disch := first | omega | (apply DrawYes.mk; decide +kernel)) only [go_sem]
 refine call (atoi0_ok hd h0 h9) ?_
 rintro _ H1 ⟨rfl, hE⟩
 simp -dsimp (disch := first | omega | (apply DrawYes.mk; decide +kernel)) only [go_sem]
 exact hE
theorem number_ok {s : List UInt8} {H : DH} (hd : ∀ b ∈ s, isDig b) (h0 : 0 < s.length) (h9 : s.length ≤ 9) : WC cfg 78 [.str s, .int .i64 999999999] H fun v H' => v = .tup [.int .i64 (numD s), .bool true] ∧ Ext H H' := by
 refine WC_of (show Has cfg 78 39 [.tmp 4, .tmp 5] _ from ⟨by kernel_rfl, Tryz.f78, Tryz.func78, rfl, rfl, rfl, by kernel_rfl⟩) (by simp) ?_
 have hb := numD_lt s 0 hd
 have hb2 : numD s < 10 ^ 9 := by
  refine Nat.lt_of_lt_of_le hb ?_
  rw [Nat.zero_add, Nat.one_mul]
  exact Nat.pow_le_pow_right (by decide) h9
 simp -dsimp (disch := first | omega | (apply DrawYes.mk; decide +kernel)) only [go_sem]
 refine Y_loop (α := Nat) (fun k σ H' => Ext H H' ∧ k ≤ s.length ∧ H.next < H'.next ∧ H'.m H.next = some (.iter s k) ∧ σ 0 = .str s ∧ σ 1 = .int .i64 999999999 ∧ σ 11 = .ptr H.next 0) (fun k => s.length - k) 0 ?_ ?_
 ·simp -dsimp (disch := first | omega | (apply DrawYes.mk; decide +kernel)) only [go_sem]
  exact ⟨Ext.refl.new, Nat.zero_le _, by omega⟩
 rintro k σ H1 ⟨hE, hk, hn, hm, g0, g1, g11⟩
 by_cases hlt : k < s.length
 ·have hdk := hd s[k] (List.getElem_mem hlt)
  have hdec := decode_lo hlt (by unfold isDig at hdk; omega)
  generalize s[k] = c at hdk hdec
  unfold isDig at hdk
  have q1 : ¬ (c.toNat : Int) < 48 := by omega
  have q2 : ¬ 57 < (c.toNat : Int) := by omega
  simp -dsimp (disch := first | omega | (apply DrawYes.mk; decide +kernel)) only [go_sem, g0, g1, g11, hm, hlt, hdec, q1, q2]
  exact ⟨k + 1, ⟨hE.set (Nat.le_refl _), by omega, hn, rfl⟩, by omega⟩
 ·have q1 : ¬ 9 < (s.length : Int) := by omega
  have q2 : ¬ 999999999 < (numD s : Int) := by omega
  simp -dsimp (disch := first | omega | (apply DrawYes.mk; decide +kernel)) only [go_sem, g0, g1, g11, hm, hlt]
  refine call (atoi_ok hd h0 h9) ?_
  rintro _ H2 ⟨rfl, hE2⟩
  simp -dsimp (disch := first | omega | (apply DrawYes.mk; decide +kernel)) only [go_sem, g0, g1, g11, q1, q2]
  exact hE.trans hE2
end Go.Proofs.YtcknfhhbijlobaaGreatDoor.D
namespace Go.Proofs.YtcknfhhbijlobaaGreatDoor.D
open Go
set_option linter.unusedVariables false
set_option linter.unusedSimpArgs false
set_option maxRecDepth 100000
theorem Bld.new {H : DH} : Bld H.next (H.new (.cells 143 [.nilp, .nils])) H.next [] :=
 ⟨_, _, by rw [new_m, if_pos rfl], .inl rfl, .inl ⟨rfl, rfl⟩, Nat.le_refl _, Nat.lt_succ_self _⟩
theorem Keep.ext {b : Nat} {H0 H H' : DH} (x : Ext H0 H) (k : Keep H0.next b H H') : Ext H0 H' := ⟨Nat.le_trans x.le k.le, fun i hi => (k.low i hi).trans (x.same i hi)⟩
def esc (d : UInt8) : Option UInt8 := if d = 92 then some 92 else if d = 34 then some 34 else if d = 110 then some 10 else if d = 114 then some 13 else if d = 116 then some 9 else none
def qd (acc : List UInt8) : List UInt8 → Nat → Option (List UInt8 × Nat)
 | [], _ => none
 | c :: r, n => if c.toNat = 34 then (if acc.length ≤ 100 then some (acc, n + 1) else none)
  else if c.toNat < 32 ∨ 126 < c.toNat then none
  else if c.toNat = 92 then match r with
   | [] => none
   | d :: r' => match esc d with
    | none => none
    | some x => qd (acc ++ [x]) r' (n + 2)
  else qd (acc ++ [c]) r (n + 1)
theorem qd_cons {acc : List UInt8} {c : UInt8} {r : List UInt8} {n : Nat} : qd acc (c :: r) n = if c.toNat = 34 then (if acc.length ≤ 100 then some (acc, n + 1) else none)
  else if c.toNat < 32 ∨ 126 < c.toNat then none
  else if c.toNat = 92 then match r with
   | [] => none
   | d :: r' => match esc d with
    | none => none
    | some x => qd (acc ++ [x]) r' (n + 2)
  else qd (acc ++ [c]) r (n + 1) := by
 rw [qd.eq_def]
def qdV : Option (List UInt8 × Nat) → DV
 | some (t, n) => .tup [.str t, .int .i64 n]
 | none => .tup [.str [], .int .i64 (-1)]
theorem esc_idx (d : UInt8) : (∃ (x : UInt8) (k : Nat), esc d = some x ∧ Lib.indexByte [92, 34, 110, 114, 116] d = (k : Int) ∧ ([92, 34, 10, 13, 9] : List UInt8)[k]? = some x) ∨ (esc d = none ∧ Lib.indexByte [92, 34, 110, 114, 116] d = -1) := by
 by_cases h1 : d = 92
 ·subst h1; exact .inl ⟨92, 0, rfl, rfl, rfl⟩
 by_cases h2 : d = 34
 ·subst h2; exact .inl ⟨34, 1, rfl, rfl, rfl⟩
 by_cases h3 : d = 110
 ·subst h3; exact .inl ⟨10, 2, rfl, rfl, rfl⟩
 by_cases h4 : d = 114
 ·subst h4; exact .inl ⟨13, 3, rfl, rfl, rfl⟩
 by_cases h5 : d = 116
 ·subst h5; exact .inl ⟨9, 4, rfl, rfl, rfl⟩
 exact .inr ⟨by simp [esc, h1, h2, h3, h4, h5], idx_not (by simp [h1, h2, h3, h4, h5])⟩
theorem quoted_ok {s : List UInt8} {H : DH} (hs : s.length < 1000000) : WC cfg 71 [.str s] H fun v H' => v = qdV (qd [] (s.drop 1) 1) ∧ Ext H H' := by
 refine WC_of (show Has cfg 71 57 [.tmp 2, .tmp 3] _ from ⟨by kernel_rfl, Tryz.f71, Tryz.func71, rfl, rfl, rfl, by kernel_rfl⟩) (by simp) ?_
 simp -dsimp (disch := first | omega | (apply DrawYes.mk; decide +kernel)) only [go_sem]
 refine Y_loop (α := List UInt8 × Nat) (fun a σ H' => σ 0 = .str s ∧ σ 4 = .ptr H.next 0 ∧ σ 5 = .int .i64 a.2 ∧ a.2 ≤ s.length + 1 ∧ a.1.length < a.2 ∧ Bld H.next H' H.next a.1 ∧ Ext H H' ∧ qd a.1 (s.drop a.2) a.2 = qd [] (s.drop 1) 1) (fun a => s.length + 1 - a.2) ([], 1) ?_ ?_
 ·simp -dsimp (disch := first | omega | (apply DrawYes.mk; decide +kernel)) only [go_sem]
  exact ⟨Bld.new, Ext.refl.new⟩
 ·rintro ⟨acc, k⟩ σ H1 ⟨h0, h4, h5, hk, ha, hb, hE, hq⟩
  simp only at h0 h4 h5 hk ha hb hq
  by_cases hlt : k < s.length
  ·have hg : s[k]? = some s[k] := List.getElem?_eq_getElem hlt
   have hi : (k : Int) < s.length := by omega
   rw [List.drop_eq_getElem_cons hlt] at hq
   generalize s[k] = c at hg hq
   by_cases c1 : c.toNat = 34
   ·have i1 : ((c.toNat : Int) == 34) = true := by simp; omega
    simp -dsimp (disch := first | omega | (apply DrawYes.mk; decide +kernel)) only [go_sem, h0, h4, h5, hi, hg, i1]
    refine ⟨by omega, call (blen_ok hb) ?_⟩
    rintro _ _ ⟨rfl, rfl⟩
    rw [qd_cons, if_pos c1] at hq
    by_cases c2 : acc.length ≤ 100
    ·have i2 : (acc.length : Int) ≤ 100 := by omega
     simp -dsimp (disch := first | omega | (apply DrawYes.mk; decide +kernel)) only [go_sem, h0, h4, h5, hi, hg, i1, i2]
     refine call (bstring_ok hb (by omega)) ?_
     rintro _ _ ⟨rfl, rfl⟩
     simp -dsimp (disch := first | omega | (apply DrawYes.mk; decide +kernel)) only [go_sem, h0, h4, h5, hi, hg, i1, i2]
     rw [if_pos c2] at hq
     exact ⟨by rw [← hq]; rfl, hE⟩
    ·have i2 : ¬ (acc.length : Int) ≤ 100 := by omega
     simp -dsimp (disch := first | omega | (apply DrawYes.mk; decide +kernel)) only [go_sem, h0, h4, h5, hi, hg, i1, i2]
     rw [if_neg c2] at hq
     exact ⟨by rw [← hq]; rfl, hE⟩
   ·have i1 : ((c.toNat : Int) == 34) = false := by simp; omega
    rw [qd_cons, if_neg c1] at hq
    by_cases c2 : c.toNat < 32
    ·have i2 : (c.toNat : Int) < 32 := by omega
     rw [if_pos (.inl c2)] at hq
     simp -dsimp (disch := first | omega | (apply DrawYes.mk; decide +kernel)) only [go_sem, h0, h4, h5, hi, hg, i1, i2]
     exact ⟨by omega, by rw [← hq]; rfl, hE⟩
    ·have i2 : ¬ (c.toNat : Int) < 32 := by omega
     by_cases c3 : 126 < c.toNat
     ·have i3 : 126 < (c.toNat : Int) := by omega
      rw [if_pos (.inr c3)] at hq
      simp -dsimp (disch := first | omega | (apply DrawYes.mk; decide +kernel)) only [go_sem, h0, h4, h5, hi, hg, i1, i2, i3]
      exact ⟨by omega, by rw [← hq]; rfl, hE⟩
     ·have i3 : ¬ 126 < (c.toNat : Int) := by omega
      rw [if_neg (by omega)] at hq
      by_cases c4 : c.toNat = 92
      ·have i4 : ((c.toNat : Int) == 92) = true := by simp; omega
       rw [if_pos c4] at hq
       by_cases hlt2 : k + 1 < s.length
       ·have hg2 : s[k + 1]? = some s[k + 1] := List.getElem?_eq_getElem hlt2
        have hi2 : (k : Int) + 1 < s.length := by omega
        rw [List.drop_eq_getElem_cons hlt2] at hq
        generalize s[k + 1] = d at hg2 hq
        have ht : ((k : Int) + 1).toNat = k + 1 := by omega
        simp -dsimp (disch := first | omega | (apply DrawYes.mk; decide +kernel)) only [go_sem, h0, h4, h5, hi, hg, i1, i2, i3, i4, hi2, ht, hg2]
        refine ⟨by omega, by omega, call indexByte_ok ?_⟩
        rintro _ _ ⟨rfl, rfl⟩
        rcases esc_idx d with ⟨x, j, e1, e2, e3⟩ | ⟨e1, e2⟩
        ·have i5 : ¬ (j : Int) < 0 := by omega
         rw [e2]
         simp only [e1] at hq
         simp -dsimp (disch := first | omega | (apply DrawYes.mk; decide +kernel)) only [go_sem, h0, h4, h5, hi, hg, i1, i2, i3, i4, hi2, ht, hg2, i5, e3]
         refine ⟨by omega, call (writeByte_ok hb (by omega)) ?_⟩
         rintro _ H2 ⟨hb2, hk2⟩
         simp -dsimp (disch := first | omega | (apply DrawYes.mk; decide +kernel)) only [go_sem, h0, h4, h5, hi, hg, i1, i2, i3, i4, hi2, ht, hg2, i5, e3]
         exact ⟨(acc ++ [x], k + 2), ⟨by simp only; congr 1, by simp only; omega, by simp; omega, hb2, hk2.ext hE, hq⟩, by simp only; omega⟩
        ·rw [e2]
         simp only [e1] at hq
         simp -dsimp (disch := first | omega | (apply DrawYes.mk; decide +kernel)) only [go_sem, h0, h4, h5, hi, hg, i1, i2, i3, i4, hi2, ht, hg2]
         exact ⟨by rw [← hq]; rfl, hE⟩
       ·have hi2 : ¬ (k : Int) + 1 < s.length := by omega
        simp -dsimp (disch := first | omega | (apply DrawYes.mk; decide +kernel)) only [go_sem, h0, h4, h5, hi, hg, i1, i2, i3, i4, hi2]
        rw [List.drop_of_length_le (by omega)] at hq
        exact ⟨by omega, by rw [← hq]; rfl, hE⟩
      ·have i4 : ((c.toNat : Int) == 92) = false := by simp; omega
       rw [if_neg c4] at hq
       simp -dsimp (disch := first | omega | (apply DrawYes.mk; decide +kernel)) only [go_sem, h0, h4, h5, hi, hg, i1, i2, i3, i4]
       refine ⟨by omega, call (writeByte_ok hb (by omega)) ?_⟩
       rintro _ H2 ⟨hb2, hk2⟩
       simp -dsimp (disch := first | omega | (apply DrawYes.mk; decide +kernel)) only [go_sem, h0, h4, h5, hi, hg, i1, i2, i3, i4]
       exact ⟨(acc ++ [c], k + 1), ⟨rfl, by simp only; omega, by simp; omega, hb2, hk2.ext hE, hq⟩, by simp only; omega⟩
  ·have hi : ¬ (k : Int) < s.length := by omega
   simp -dsimp (disch := first | omega | (apply DrawYes.mk; decide +kernel)) only [go_sem, h0, h4, h5, hi]
   rw [List.drop_of_length_le (by omega)] at hq
   exact ⟨by rw [← hq]; rfl, hE⟩
end Go.Proofs.YtcknfhhbijlobaaGreatDoor.D
namespace Go.Proofs.YtcknfhhbijlobaaGreatDoor.D
open Go
set_option linter.unusedVariables false
set_option linter.unusedSimpArgs false
structure Tok where
 kind : Nat
 text : List UInt8
 pos : Nat
 deriving DecidableEq
def Tok.dv (t : Tok) : DV := .agg [.int .i64 t.kind, .str t.text, .int .i64 t.pos]
def blanksL : List UInt8 := [32, 9, 10, 13]
def smallL : List UInt8 := [97, 98, 99, 100, 101, 102, 103, 104, 105, 106, 107, 108, 109, 110, 111, 112, 113, 114, 115, 116, 117, 118, 119, 120, 121, 122]
def digitsL : List UInt8 := [48, 49, 50, 51, 52, 53, 54, 55, 56, 57]
def wordsL : List UInt8 := smallL ++ digitsL ++ [95]
def signsL : List UInt8 := [123, 125, 59, 61]
def runL (s set : List UInt8) : Nat := s.length - (s.dropWhile fun b => set.contains b).length
inductive Nx where
 | skip (n : Nat)
 | tok (k : Nat) (t : List UInt8) (n : Nat)
 | err (e : Nat)
def nxt (c : UInt8) (r : List UInt8) : Nx :=
 if c ∈ blanksL then .skip (runL (c :: r) blanksL)
 else if c.toNat = 35 then .skip ((c :: r).takeWhile (· != 10)).length
 else if c ∈ smallL then (if 12 < runL (c :: r) wordsL then .err 13 else .tok 1 ((c :: r).take (runL (c :: r) wordsL)) (runL (c :: r) wordsL))
 else if c ∈ digitsL then (if 9 < runL (c :: r) digitsL then .err 12 else .tok 2 ((c :: r).take (runL (c :: r) digitsL)) (runL (c :: r) digitsL))
 else if c.toNat = 34 then (match qd [] r 1 with
  | some (t, n) => .tok 3 t n
  | none => .err 11)
 else if c ∈ signsL then .tok 4 [c] 1
 else .err 10
def scan : Nat → List UInt8 → Nat → List Tok → List Tok × Nat × Nat
 | 0, _, _, _ => ([], 0, 0)
 | f + 1, [], at_, l => (l ++ [⟨0, [], at_⟩], 0, 0)
 | f + 1, c :: r, at_, l => match nxt c r with
  | .skip n => scan f ((c :: r).drop n) (at_ + n) l
  | .err e => ([], at_, e)
  | .tok k t n => if 400 ≤ l.length then ([], 0, 4) else scan f ((c :: r).drop n) (at_ + n) (l ++ [⟨k, t, at_⟩])
def lexAll (s : List UInt8) : List Tok × Nat × Nat := if 2000 < s.length then ([], 0, 4) else scan (s.length + 1) s 0 []
theorem runL_pos {c : UInt8} {r set : List UInt8} (h : c ∈ set) : 0 < runL (c :: r) set := by
 unfold runL
 have h1 : set.contains c = true := by simpa using h
 simp only [List.dropWhile, h1]
 have := dropWhile_len (fun b => set.contains b) r
 rw [List.length_cons]; omega
theorem runL_le {s set : List UInt8} : runL s set ≤ s.length := by unfold runL; omega
theorem qd_n : ∀ (m : Nat) (r acc : List UInt8) (n : Nat) (t : List UInt8) (k : Nat), r.length ≤ m → qd acc r n = some (t, k) → n < k ∧ k ≤ n + r.length
 | 0, [], acc, n, t, k, _, h => by rw [qd.eq_def] at h; cases h
 | m + 1, [], acc, n, t, k, _, h => by rw [qd.eq_def] at h; cases h
 | m + 1, c :: r, acc, n, t, k, hm, h => by
  rw [qd_cons] at h
  simp only [List.length_cons] at hm ⊢
  split at h
  ·split at h
   ·cases h; omega
   ·cases h
  ·split at h
   ·cases h
   ·split at h
    ·cases r with
     | nil => cases h
     | cons d r' =>
      simp only at h
      simp only [List.length_cons] at hm ⊢
      cases he : esc d with
      | none => simp [he] at h
      | some x =>
       simp only [he] at h
       have := qd_n m r' _ _ _ _ (by omega) h
       omega
    ·have := qd_n m r _ _ _ _ (by omega) h
     omega
theorem small_words {c : UInt8} (h : c ∈ smallL) : c ∈ wordsL := by unfold wordsL; simp [h]
def Nx.n : Nx → Nat
 | .skip n => n
 | .tok _ _ n => n
 | .err _ => 1
theorem nxt_n {c : UInt8} {r : List UInt8} : 0 < (nxt c r).n ∧ (nxt c r).n ≤ r.length + 1 := by
 have hr : ∀ set, runL (c :: r) set ≤ r.length + 1 := fun set => by simpa using runL_le (s := c :: r) (set := set)
 unfold nxt
 by_cases h1 : c ∈ blanksL
 ·rw [if_pos h1]; exact ⟨runL_pos h1, hr _⟩
 rw [if_neg h1]
 by_cases h2 : c.toNat = 35
 ·rw [if_pos h2]
  have hc : c = 35 := by rw [← UInt8.toNat_inj]; exact h2
  subst hc
  have := (List.takeWhile_sublist (fun b : UInt8 => b != 10) (l := r)).length_le
  simp [List.takeWhile_cons, Nx.n]
  exact this
 rw [if_neg h2]
 by_cases h3 : c ∈ smallL
 ·rw [if_pos h3]
  by_cases h : 12 < runL (c :: r) wordsL
  ·rw [if_pos h]; exact ⟨Nat.one_pos, by simp [Nx.n]⟩
  ·rw [if_neg h]; exact ⟨runL_pos (small_words h3), hr _⟩
 rw [if_neg h3]
 by_cases h4 : c ∈ digitsL
 ·rw [if_pos h4]
  by_cases h : 9 < runL (c :: r) digitsL
  ·rw [if_pos h]; exact ⟨Nat.one_pos, by simp [Nx.n]⟩
  ·rw [if_neg h]; exact ⟨runL_pos h4, hr _⟩
 rw [if_neg h4]
 by_cases h5 : c.toNat = 34
 ·rw [if_pos h5]
  cases hq : qd [] r 1 with
  | none => exact ⟨Nat.one_pos, by simp [Nx.n]⟩
  | some p =>
   obtain ⟨t, n⟩ := p
   have := qd_n _ r _ _ _ _ (Nat.le_refl _) hq
   simp only [Nx.n]
   exact ⟨by omega, by omega⟩
 rw [if_neg h5]
 by_cases h : c ∈ signsL
 ·rw [if_pos h]; simp [Nx.n]
 ·rw [if_neg h]; simp [Nx.n]
theorem scan_fuel : ∀ (f g : Nat) (s : List UInt8) (a : Nat) (l : List Tok), s.length < f → s.length < g → scan f s a l = scan g s a l := by
 intro f
 induction f with
 | zero => intro g s a l h; omega
 | succ f ih =>
  intro g s a l h hg
  cases g with
  | zero => omega
  | succ g =>
   cases s with
   | nil => rfl
   | cons c r =>
    have hn := nxt_n (c := c) (r := r)
    simp only [List.length_cons] at h hg
    rw [scan, scan]
    cases hx : nxt c r with
    | err e => rfl
    | skip n =>
     simp only [hx, Nx.n] at hn ⊢
     exact ih _ _ _ _ (by simp; omega) (by simp; omega)
    | tok k t n =>
     simp only [hx, Nx.n] at hn ⊢
     rw [ih g ((c :: r).drop n) (a + n) _ (by simp; omega) (by simp; omega)]
def scanT (s : List UInt8) (a : Nat) (l : List Tok) : List Tok × Nat × Nat := scan (s.length + 1) s a l
theorem scanT_nil {a : Nat} {l : List Tok} : scanT [] a l = (l ++ [⟨0, [], a⟩], 0, 0) := rfl
theorem scanT_cons {c : UInt8} {r : List UInt8} {a : Nat} {l : List Tok} : scanT (c :: r) a l = match nxt c r with
  | .skip n => scanT ((c :: r).drop n) (a + n) l
  | .err e => ([], a, e)
  | .tok k t n => if 400 ≤ l.length then ([], 0, 4) else scanT ((c :: r).drop n) (a + n) (l ++ [⟨k, t, a⟩]) := by
 have hn := nxt_n (c := c) (r := r)
 unfold scanT
 rw [List.length_cons, scan]
 cases hx : nxt c r with
 | err e => rfl
 | skip n =>
  simp only [hx, Nx.n] at hn ⊢
  exact scan_fuel _ _ _ _ _ (by simp; omega) (by omega)
 | tok k t n =>
  simp only [hx, Nx.n] at hn ⊢
  rw [scan_fuel (r.length + 1) (((c :: r).drop n).length + 1) _ _ _ (by simp; omega) (by omega)]
theorem lexAll_eq {s : List UInt8} (h : ¬ 2000 < s.length) : lexAll s = scanT s 0 [] := by unfold lexAll; rw [if_neg h]; rfl
end Go.Proofs.YtcknfhhbijlobaaGreatDoor.D
namespace Go.Proofs.YtcknfhhbijlobaaGreatDoor.D
open Go
set_option linter.unusedVariables false
set_option linter.unusedSimpArgs false
set_option maxRecDepth 100000
theorem indexByte_eq {s : List UInt8} {c : UInt8} {H : DH} {K : DV → DH → Prop} {b : Later K} : WK cfg 68 [.str s, .int .u8 c.toNat] H b = K (.int .i64 (Lib.indexByte s c)) H := WK_det indexByte_ok
theorem runL_ok {s set : List UInt8} {H : DH} (hset : ∀ b ∈ set, b.toNat < 128) (hs : s.length < 9223372036854775808) :
  WC cfg 69 [.str s, .str set] H fun v H' => v = .int .i64 (runL s set) ∧ Ext H H' := by
 have hl := dropWhile_len (fun b => set.contains b) s
 refine WC_mono (run_ok (fun H => cutLeft_ok hset) hl hs) ?_
 rintro v H' ⟨rfl, hE⟩
 refine ⟨?_, hE⟩
 unfold runL
 congr 1
 omega
theorem blanks128 : ∀ b ∈ blanksL, b.toNat < 128 := by decide
theorem words128 : ∀ b ∈ wordsL, b.toNat < 128 := by decide
theorem digits128 : ∀ b ∈ digitsL, b.toNat < 128 := by decide
theorem all_ok {s : List UInt8} {H : DH} (hs : s.length < 1000000) : WC cfg 40 [.str s] H fun v H' => Ext H H' ∧ ∃ v', v = .tup [v', .int .i64 (lexAll s).2.1, .int .i64 (lexAll s).2.2] ∧ IsSl H.next H' 71 3 v' ((lexAll s).1.map Tok.dv) := by
 refine WC_of (show Has cfg 40 111 [.tmp 2, .tmp 3, .tmp 4] _ from ⟨by kernel_rfl, Tryz.f40, Tryz.func40, rfl, rfl, rfl, by kernel_rfl⟩) (by simp) ?_
 by_cases hbig : 2000 < s.length
 ·have hi : 2000 < (s.length : Int) := by omega
  simp -dsimp (disch := first | omega | (apply DrawYes.mk; decide +kernel)) only [go_sem, hi]
  simp only [lexAll, if_pos hbig]
  exact ⟨Ext.refl, _, rfl, .inl ⟨rfl, rfl⟩⟩
 ·have hi : ¬ 2000 < (s.length : Int) := by omega
  rw [lexAll_eq hbig]
  simp -dsimp (disch := first | omega | (apply DrawYes.mk; decide +kernel)) only [go_sem, hi]
  refine Y_loop (α := Nat × List Tok) (fun a σ H' => σ 0 = .str s ∧ σ 6 = .int .i64 a.1 ∧ a.1 ≤ s.length ∧ IsSl H.next H' 71 3 (σ 5) (a.2.map Tok.dv) ∧ Ext H H' ∧ a.2.length ≤ 400 ∧ scanT (s.drop a.1) a.1 a.2 = scanT s 0 []) (fun a => s.length - a.1) (0, []) ?_ ?_
  ·simp -dsimp (disch := first | omega | (apply DrawYes.mk; decide +kernel)) only [go_sem]
   exact ⟨Nat.zero_le _, .inl ⟨rfl, rfl⟩, Ext.refl⟩
  ·rintro ⟨at_, l⟩ σ H1 ⟨h0, h6, hk, hl, hE, h400, hq⟩
   simp only at h0 h6 hk hl h400 hq
   cases hd : s.drop at_ with
   | nil =>
    have hge : s.length ≤ at_ := List.drop_eq_nil_iff.1 hd
    have hi2 : ¬ (at_ : Int) < s.length := by omega
    have hae : at_ = s.length := by omega
    subst hae
    simp -dsimp (disch := first | omega | (apply DrawYes.mk; decide +kernel)) only [go_sem, h0, h6, hi2]
    rw [hd, scanT_nil] at hq
    refine app (lo := H.next) (es := l.map Tok.dv) (new := [Tok.dv ⟨0, [], s.length⟩]) und_62 size_71 bytes_71 und_62 zero_71 rfl rfl (by omega) hl.new rfl (by have := hE.le; simp only [new_next]; omega) (by simp; omega) (by simp; omega) ?_
    intro v' H3 hs3 hsm
    simp -dsimp (disch := first | omega | (apply DrawYes.mk; decide +kernel)) only [go_sem]
    rw [← hq]
    exact ⟨hsm.ext hl.new hE.new, _, rfl, by simpa using hs3⟩
   | cons c r =>
    have hlen : at_ + (r.length + 1) = s.length := by
     have := congrArg List.length hd
     simp at this; omega
    have hi2 : (at_ : Int) < s.length := by omega
    rw [hd, scanT_cons] at hq
    have hn := nxt_n (c := c) (r := r)
    have hdrop : ∀ n, (c :: r).drop n = s.drop (at_ + n) := fun n => by rw [← hd, List.drop_drop]
    have hb1 : (H1.next : Nat) < H1.next + 1 := Nat.lt_succ_self _
    unfold nxt at hq hn
    have hln : ∀ H', lenD cfg.T H' 62 (σ 5) = some (.int .i64 l.length) := fun H' => by rw [hl.len und_62, List.length_map]
    by_cases c1 : c ∈ blanksL
    ·have i1 : 0 ≤ Lib.indexByte [32, 9, 10, 13] c := idx_ge.2 c1
     rw [if_pos c1] at hq hn
     simp -dsimp (disch := first | omega | (apply DrawYes.mk; decide +kernel)) only [go_sem, h0, h6, hi2, hd, indexByte_eq, i1]
     refine ⟨⟨by omega, by omega⟩, call (runL_ok (set := blanksL) blanks128 (by simp; omega)) ?_⟩
     rintro _ H2 ⟨rfl, hE2⟩
     have hx : ((at_ : Int) + runL (c :: r) blanksL) = ((at_ + runL (c :: r) blanksL : Nat) : Int) := by omega
     simp only [Nx.n] at hn hq
     simp -dsimp (disch := first | omega | (apply DrawYes.mk; decide +kernel)) only [go_sem, h0, h6, hx]
     refine ⟨(at_ + runL (c :: r) blanksL, l), ⟨rfl, by simp only; omega, (hl.new.set (by rw [new_m, if_pos rfl]) (by simp)).ext hE2, hE.trans (Ext.refl.new.set (Nat.le_refl _) |>.trans hE2), h400, ?_⟩, by simp only; omega⟩
     simp only
     rw [← hdrop]; exact hq
    ·have i1 : ¬ 0 ≤ Lib.indexByte [32, 9, 10, 13] c := fun h => c1 (idx_ge.1 h)
     rw [if_neg c1] at hq hn
     by_cases c2 : c.toNat = 35
     ·have i2 : ((c.toNat : Int) == 35) = true := by simp; omega
      rw [if_pos c2] at hq hn
      simp -dsimp (disch := first | omega | (apply DrawYes.mk; decide +kernel)) only [go_sem, h0, h6, hi2, hd, indexByte_eq, i1, i2]
      refine ⟨⟨by omega, by omega⟩, call (cut_ok (by simp; omega)) ?_⟩
      rintro _ _ ⟨⟨x, y, rfl⟩, rfl⟩
      simp only [Nx.n] at hn hq
      have hx : ((at_ : Int) + ((c :: r).takeWhile (· != 10)).length) = ((at_ + ((c :: r).takeWhile (· != 10)).length : Nat) : Int) := by omega
      simp -dsimp (disch := first | omega | (apply DrawYes.mk; decide +kernel)) only [go_sem, h0, h6, hx]
      refine ⟨(at_ + ((c :: r).takeWhile (· != 10)).length, l), ⟨rfl, by simp only; omega, hl.new.set (by rw [new_m, if_pos rfl]) (by simp), hE.trans (Ext.refl.new.set (Nat.le_refl _)), h400, ?_⟩, by simp only; omega⟩
      simp only
      rw [← hdrop]; exact hq
     have i2 : ((c.toNat : Int) == 35) = false := by simp; omega
     rw [if_neg c2] at hq hn
     by_cases c3 : c ∈ smallL
     ·have i3 : 0 ≤ Lib.indexByte [97, 98, 99, 100, 101, 102, 103, 104, 105, 106, 107, 108, 109, 110, 111, 112, 113, 114, 115, 116, 117, 118, 119, 120, 121, 122] c := idx_ge.2 c3
      rw [if_pos c3] at hq hn
      simp -dsimp (disch := first | omega | (apply DrawYes.mk; decide +kernel)) only [go_sem, h0, h6, hi2, hd, indexByte_eq, i1, i2, i3]
      refine ⟨⟨by omega, by omega⟩, call (runL_ok (set := wordsL) words128 (by simp; omega)) ?_⟩
      rintro _ H2 ⟨rfl, hE2⟩
      have ht : H2.m H1.next = some (.cells 71 [.int .i64 0, .str [], .int .i64 at_]) := hE2.get (by simp [set_next, new_next]) (by rw [set_m, if_pos rfl])
      have hl2 := (hl.new.set (o' := .cells 71 [.int .i64 0, .str [], .int .i64 at_]) (by rw [new_m, if_pos rfl]) (by simp)).ext hE2
      have hE3 : Ext H H2 := hE.trans (Ext.refl.new.set (Nat.le_refl _) |>.trans hE2)
      have hb2 : H1.next < H2.next := Nat.lt_of_lt_of_le (by simp [set_next, new_next]) hE2.le
      by_cases h12 : 12 < runL (c :: r) wordsL
      ·have j1 : 12 < (runL (c :: r) wordsL : Int) := by omega
       rw [if_pos h12] at hq
       simp -dsimp (disch := first | omega | (apply DrawYes.mk; decide +kernel)) only [go_sem, h0, h6, ht, j1]
       exact ⟨hE3.set hE.le, _, by rw [← hq]; rfl, .inl ⟨rfl, by rw [← hq]; rfl⟩⟩
      ·have j1 : ¬ 12 < (runL (c :: r) wordsL : Int) := by omega
       rw [if_neg h12] at hq hn
       by_cases h4 : 400 ≤ l.length
       ·have j2 : 400 ≤ (l.length : Int) := by omega
        simp only [if_pos h4] at hq
        simp -dsimp (disch := first | omega | (apply DrawYes.mk; decide +kernel)) only [go_sem, h0, h6, ht, j1, j2, hln]
        exact ⟨hE3.set hE.le, _, by rw [← hq]; rfl, .inl ⟨rfl, by rw [← hq]; rfl⟩⟩
       ·have j2 : ¬ 400 ≤ (l.length : Int) := by omega
        simp only [if_neg h4] at hq
        simp only [Nx.n] at hn
        have j3 : (runL (c :: r) wordsL : Int) ≤ (r.length : Int) + 1 := by omega
        have hx : ((at_ : Int) + runL (c :: r) wordsL) = ((at_ + runL (c :: r) wordsL : Nat) : Int) := by omega
        simp -dsimp (disch := first | omega | (apply DrawYes.mk; decide +kernel)) only [go_sem, h0, h6, ht, j1, j2, j3, hln]
        refine ⟨by omega, app (lo := H.next) (es := l.map Tok.dv) (new := [Tok.dv ⟨1, (c :: r).take (runL (c :: r) wordsL), at_⟩]) und_62 size_71 bytes_71 und_62 zero_71 rfl rfl (by omega) ((hl2.set ht (by simp)).setc (by rw [set_m, if_pos rfl])).new rfl (by have := hE3.le; simp only [new_next, set_next]; omega) (by simp; omega) (by simp; omega) ?_⟩
        intro v' H4 hs4 hsm
        simp -dsimp (disch := first | omega | (apply DrawYes.mk; decide +kernel)) only [go_sem, h0, h6, hx]
        refine ⟨(at_ + runL (c :: r) wordsL, l ++ [⟨1, (c :: r).take (runL (c :: r) wordsL), at_⟩]), ⟨rfl, by simp only; omega, by simpa using hs4, hsm.ext ((hl2.set ht (by simp)).setc (by rw [set_m, if_pos rfl])).new ((hE3.set hE.le).set hE.le).new, by simp; omega, ?_⟩, by simp only; omega⟩
        simp only
        rw [← hdrop]; exact hq
     have i3 : ¬ 0 ≤ Lib.indexByte [97, 98, 99, 100, 101, 102, 103, 104, 105, 106, 107, 108, 109, 110, 111, 112, 113, 114, 115, 116, 117, 118, 119, 120, 121, 122] c := fun h => c3 (idx_ge.1 h)
     rw [if_neg c3] at hq hn
     by_cases c4 : c ∈ digitsL
     ·have i4 : 0 ≤ Lib.indexByte [48, 49, 50, 51, 52, 53, 54, 55, 56, 57] c := idx_ge.2 c4
      rw [if_pos c4] at hq hn
      simp -dsimp (disch := first | omega | (apply DrawYes.mk; decide +kernel)) only [go_sem, h0, h6, hi2, hd, indexByte_eq, i1, i2, i3, i4]
      refine ⟨⟨by omega, by omega⟩, call (runL_ok (set := digitsL) digits128 (by simp; omega)) ?_⟩
      rintro _ H2 ⟨rfl, hE2⟩
      have ht : H2.m H1.next = some (.cells 71 [.int .i64 0, .str [], .int .i64 at_]) := hE2.get (by simp [set_next, new_next]) (by rw [set_m, if_pos rfl])
      have hl2 := (hl.new.set (o' := .cells 71 [.int .i64 0, .str [], .int .i64 at_]) (by rw [new_m, if_pos rfl]) (by simp)).ext hE2
      have hE3 : Ext H H2 := hE.trans (Ext.refl.new.set (Nat.le_refl _) |>.trans hE2)
      have hb2 : H1.next < H2.next := Nat.lt_of_lt_of_le (by simp [set_next, new_next]) hE2.le
      by_cases h12 : 9 < runL (c :: r) digitsL
      ·have j1 : 9 < (runL (c :: r) digitsL : Int) := by omega
       rw [if_pos h12] at hq
       simp -dsimp (disch := first | omega | (apply DrawYes.mk; decide +kernel)) only [go_sem, h0, h6, ht, j1]
       exact ⟨hE3.set hE.le, _, by rw [← hq]; rfl, .inl ⟨rfl, by rw [← hq]; rfl⟩⟩
      ·have j1 : ¬ 9 < (runL (c :: r) digitsL : Int) := by omega
       rw [if_neg h12] at hq hn
       by_cases h4 : 400 ≤ l.length
       ·have j2 : 400 ≤ (l.length : Int) := by omega
        simp only [if_pos h4] at hq
        simp -dsimp (disch := first | omega | (apply DrawYes.mk; decide +kernel)) only [go_sem, h0, h6, ht, j1, j2, hln]
        exact ⟨hE3.set hE.le, _, by rw [← hq]; rfl, .inl ⟨rfl, by rw [← hq]; rfl⟩⟩
       ·have j2 : ¬ 400 ≤ (l.length : Int) := by omega
        simp only [if_neg h4] at hq
        simp only [Nx.n] at hn
        have j3 : (runL (c :: r) digitsL : Int) ≤ (r.length : Int) + 1 := by omega
        have hx : ((at_ : Int) + runL (c :: r) digitsL) = ((at_ + runL (c :: r) digitsL : Nat) : Int) := by omega
        simp -dsimp (disch := first | omega | (apply DrawYes.mk; decide +kernel)) only [go_sem, h0, h6, ht, j1, j2, j3, hln]
        refine ⟨by omega, app (lo := H.next) (es := l.map Tok.dv) (new := [Tok.dv ⟨2, (c :: r).take (runL (c :: r) digitsL), at_⟩]) und_62 size_71 bytes_71 und_62 zero_71 rfl rfl (by omega) ((hl2.set ht (by simp)).setc (by rw [set_m, if_pos rfl])).new rfl (by have := hE3.le; simp only [new_next, set_next]; omega) (by simp; omega) (by simp; omega) ?_⟩
        intro v' H4 hs4 hsm
        simp -dsimp (disch := first | omega | (apply DrawYes.mk; decide +kernel)) only [go_sem, h0, h6, hx]
        refine ⟨(at_ + runL (c :: r) digitsL, l ++ [⟨2, (c :: r).take (runL (c :: r) digitsL), at_⟩]), ⟨rfl, by simp only; omega, by simpa using hs4, hsm.ext ((hl2.set ht (by simp)).setc (by rw [set_m, if_pos rfl])).new ((hE3.set hE.le).set hE.le).new, by simp; omega, ?_⟩, by simp only; omega⟩
        simp only
        rw [← hdrop]; exact hq
     have i4 : ¬ 0 ≤ Lib.indexByte [48, 49, 50, 51, 52, 53, 54, 55, 56, 57] c := fun h => c4 (idx_ge.1 h)
     rw [if_neg c4] at hq hn
     by_cases c5 : c.toNat = 34
     ·have i5 : ((c.toNat : Int) == 34) = true := by simp; omega
      rw [if_pos c5] at hq hn
      simp -dsimp (disch := first | omega | (apply DrawYes.mk; decide +kernel)) only [go_sem, h0, h6, hi2, hd, indexByte_eq, i1, i2, i3, i4, i5]
      refine ⟨⟨by omega, by omega⟩, call (quoted_ok (by simp; omega)) ?_⟩
      rintro _ H2 ⟨rfl, hE2⟩
      have ht : H2.m H1.next = some (.cells 71 [.int .i64 3, .str [], .int .i64 at_]) := hE2.get (by simp [set_next, new_next]) (by rw [set_m, if_pos rfl])
      have hl1 := (hl.new (o := .cells 71 [.int .i64 0, .str [], .int .i64 0])).setc (o' := .cells 71 [.int .i64 0, .str [], .int .i64 at_]) (by rw [new_m, if_pos rfl])
      have hl2 := (hl1.setc (o' := .cells 71 [.int .i64 3, .str [], .int .i64 at_]) (by rw [set_m, if_pos rfl])).ext hE2
      have hE3 : Ext H H2 := hE.trans (((Ext.refl.new.set (Nat.le_refl _)).set (Nat.le_refl _)).trans hE2)
      have hb2 : H1.next < H2.next := Nat.lt_of_lt_of_le (by simp [set_next, new_next]) hE2.le
      simp only [List.drop_succ_cons, List.drop_zero]
      cases hqd : qd [] r 1 with
      | none =>
       simp only [hqd] at hq
       simp -dsimp (disch := first | omega | (apply DrawYes.mk; decide +kernel)) only [go_sem, h0, h6, ht, qdV, hln]
       exact ⟨hE3.set hE.le, _, by rw [← hq]; rfl, .inl ⟨rfl, by rw [← hq]; rfl⟩⟩
      | some p =>
       obtain ⟨t, n⟩ := p
       simp only [hqd, Nx.n] at hq hn
       have j1 : ¬ (n : Int) < 0 := by omega
       by_cases h4 : 400 ≤ l.length
       ·have j2 : 400 ≤ (l.length : Int) := by omega
        simp only [if_pos h4] at hq
        simp -dsimp (disch := first | omega | (apply DrawYes.mk; decide +kernel)) only [go_sem, h0, h6, ht, qdV, j1, j2, hln]
        exact ⟨hE3.set hE.le, _, by rw [← hq]; rfl, .inl ⟨rfl, by rw [← hq]; rfl⟩⟩
       ·have j2 : ¬ 400 ≤ (l.length : Int) := by omega
        simp only [if_neg h4] at hq
        have hx : ((at_ : Int) + n) = ((at_ + n : Nat) : Int) := by omega
        simp -dsimp (disch := first | omega | (apply DrawYes.mk; decide +kernel)) only [go_sem, h0, h6, ht, qdV, j1, j2, hln]
        refine app (lo := H.next) (es := l.map Tok.dv) (new := [Tok.dv ⟨3, t, at_⟩]) und_62 size_71 bytes_71 und_62 zero_71 rfl rfl (by omega) (hl2.set ht (by simp)).new rfl (by have := hE3.le; simp only [new_next, set_next]; omega) (by simp; omega) (by simp; omega) ?_
        intro v' H4 hs4 hsm
        simp -dsimp (disch := first | omega | (apply DrawYes.mk; decide +kernel)) only [go_sem, h0, h6, hx]
        refine ⟨(at_ + n, l ++ [⟨3, t, at_⟩]), ⟨rfl, by simp only; omega, by simpa using hs4, hsm.ext (hl2.set ht (by simp)).new (hE3.set hE.le).new, by simp; omega, ?_⟩, by simp only; omega⟩
        simp only
        rw [← hdrop]; exact hq
     have i5 : ((c.toNat : Int) == 34) = false := by simp; omega
     rw [if_neg c5] at hq hn
     by_cases c6 : c ∈ signsL
     ·have i6 : 0 ≤ Lib.indexByte [123, 125, 59, 61] c := idx_ge.2 c6
      rw [if_pos c6] at hq hn
      have hl1 := (hl.new (o := .cells 71 [.int .i64 0, .str [], .int .i64 0])).setc (o' := .cells 71 [.int .i64 0, .str [], .int .i64 at_]) (by rw [new_m, if_pos rfl])
      have hl2 := hl1.setc (o' := .cells 71 [.int .i64 4, .str [], .int .i64 at_]) (by rw [set_m, if_pos rfl])
      have hE3 := ((hE.new (o := .cells 71 [.int .i64 0, .str [], .int .i64 0])).set (o := .cells 71 [.int .i64 0, .str [], .int .i64 at_]) hE.le).set (o := .cells 71 [.int .i64 4, .str [], .int .i64 at_]) hE.le
      by_cases h4 : 400 ≤ l.length
      ·have j2 : 400 ≤ (l.length : Int) := by omega
       simp only [if_pos h4] at hq
       simp -dsimp (disch := first | omega | (apply DrawYes.mk; decide +kernel)) only [go_sem, h0, h6, hi2, hd, indexByte_eq, i1, i2, i3, i4, i5, i6, j2, hln]
       exact ⟨⟨by omega, by omega⟩, hE3, _, by rw [← hq]; rfl, .inl ⟨rfl, by rw [← hq]; rfl⟩⟩
      ·have j2 : ¬ 400 ≤ (l.length : Int) := by omega
       simp only [if_neg h4] at hq
       have hx : ((at_ : Int) + 1) = ((at_ + 1 : Nat) : Int) := by omega
       simp -dsimp (disch := first | omega | (apply DrawYes.mk; decide +kernel)) only [go_sem, h0, h6, hi2, hd, indexByte_eq, i1, i2, i3, i4, i5, i6, j2, hln]
       refine ⟨⟨by omega, by omega⟩, by omega, app (lo := H.next) (es := l.map Tok.dv) (new := [Tok.dv ⟨4, [c], at_⟩]) und_62 size_71 bytes_71 und_62 zero_71 rfl rfl (by omega) (hl2.setc (by rw [set_m, if_pos rfl])).new rfl (by have := hE3.le; simp only [new_next, set_next] at *; omega) (by simp; omega) (by simp; omega) ?_⟩
       intro v' H4 hs4 hsm
       simp -dsimp (disch := first | omega | (apply DrawYes.mk; decide +kernel)) only [go_sem, h0, h6, hx]
       refine ⟨(at_ + 1, l ++ [⟨4, [c], at_⟩]), ⟨rfl, by simp only; omega, by simpa using hs4, hsm.ext (hl2.setc (by rw [set_m, if_pos rfl])).new (hE3.set hE.le).new, by simp; omega, ?_⟩, by simp only; omega⟩
       simp only
       rw [← hdrop]; exact hq
     ·have i6 : ¬ 0 ≤ Lib.indexByte [123, 125, 59, 61] c := fun h => c6 (idx_ge.1 h)
      rw [if_neg c6] at hq hn
      simp -dsimp (disch := first | omega | (apply DrawYes.mk; decide +kernel)) only [go_sem, h0, h6, hi2, hd, indexByte_eq, i1, i2, i3, i4, i5, i6]
      exact ⟨⟨by omega, by omega⟩, hE.new.set hE.le, _, by rw [← hq]; rfl, .inl ⟨rfl, by rw [← hq]; rfl⟩⟩
end Go.Proofs.YtcknfhhbijlobaaGreatDoor.D
