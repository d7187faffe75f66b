import Derived.Test.YtcknfhhbijlobaaGreatDoorMG
namespace Go.Proofs.YtcknfhhbijlobaaGreatDoor.D
open Go
set_option linter.unusedVariables false
set_option linter.unusedSimpArgs false
set_option maxRecDepth 100000
def smB (c : UInt8) : Bool := decide (97 ≤ c.toNat) && decide (c.toNat ≤ 122)
def dgB (c : UInt8) : Bool := decide (48 ≤ c.toNat) && decide (c.toNat ≤ 57)
theorem rsmall_ok {c : UInt8} {H : DH} : WC cfg 110 [byteDV c] H fun v H' => v = .bool (smB c) ∧ H' = H := by
 refine WC_of (show Has cfg 110 9 [.tmp 2] _ from ⟨by kernel_rfl, Tryz.f110, Tryz.func110, rfl, rfl, rfl, by kernel_rfl⟩) (by simp) ?_
 unfold smB
 by_cases h1 : 97 ≤ c.toNat
 ·have j1 : 97 ≤ (c.toNat : Int) := by omega
  simp -dsimp (disch := first | omega | (apply DrawYes.mk; decide +kernel)) only [go_sem, j1]
  simp [h1]; omega
 ·have j1 : ¬ 97 ≤ (c.toNat : Int) := by omega
  simp -dsimp (disch := first | omega | (apply DrawYes.mk; decide +kernel)) only [go_sem, j1]
  simp [h1]
theorem rdigit_ok {c : UInt8} {H : DH} : WC cfg 111 [byteDV c] H fun v H' => v = .bool (dgB c) ∧ H' = H := by
 refine WC_of (show Has cfg 111 9 [.tmp 2] _ from ⟨by kernel_rfl, Tryz.f111, Tryz.func111, rfl, rfl, rfl, by kernel_rfl⟩) (by simp) ?_
 unfold dgB
 by_cases h1 : 48 ≤ c.toNat
 ·have j1 : 48 ≤ (c.toNat : Int) := by omega
  simp -dsimp (disch := first | omega | (apply DrawYes.mk; decide +kernel)) only [go_sem, j1]
  simp [h1]; omega
 ·have j1 : ¬ 48 ≤ (c.toNat : Int) := by omega
  simp -dsimp (disch := first | omega | (apply DrawYes.mk; decide +kernel)) only [go_sem, j1]
  simp [h1]
theorem rsmall_eq {c : UInt8} {H : DH} {K : DV → DH → Prop} {b : Later K} : WK cfg 110 [.int .u8 (c.toNat : Int)] H b = K (.bool (smB c)) H := WK_det rsmall_ok
theorem rdigit_eq {c : UInt8} {H : DH} {K : DV → DH → Prop} {b : Later K} : WK cfg 111 [.int .u8 (c.toNat : Int)] H b = K (.bool (dgB c)) H := WK_det rdigit_ok
theorem esc_nat {c : UInt8} : esc c = if c.toNat = 92 then some 92 else if c.toNat = 34 then some 34 else if c.toNat = 110 then some 10 else if c.toNat = 114 then some 13 else if c.toNat = 116 then some 9 else none := by
 unfold esc
 have e : ∀ n : UInt8, (c = n) = (c.toNat = n.toNat) := fun n => by rw [UInt8.toNat_inj]
 simp only [e]
 rfl
theorem rturned_ok {c : UInt8} {H : DH} : WC cfg 131 [byteDV c] H fun v H' => v = byteDV ((esc c).getD 0) ∧ H' = H := by
 refine WC_of (show Has cfg 131 14 [.tmp 2] _ from ⟨by kernel_rfl, Tryz.f131, Tryz.func131, rfl, rfl, rfl, by kernel_rfl⟩) (by simp) ?_
 rw [esc_nat]
 by_cases h1 : c.toNat = 92
 ·have j1 : (c.toNat : Int) = 92 := by omega
  simp -dsimp (disch := first | omega | (apply DrawYes.mk; decide +kernel)) only [go_sem, j1, if_pos h1]
  rfl
 by_cases h2 : c.toNat = 34
 ·have j1 : ¬ (c.toNat : Int) = 92 := by omega
  have j2 : (c.toNat : Int) = 34 := by omega
  simp -dsimp (disch := first | omega | (apply DrawYes.mk; decide +kernel)) only [go_sem, j1, j2, if_neg h1, if_pos h2]
  rfl
 have j1 : ¬ (c.toNat : Int) = 92 := by omega
 have j2 : ¬ (c.toNat : Int) = 34 := by omega
 by_cases h3 : c.toNat = 110
 ·have j3 : (c.toNat : Int) = 110 := by omega
  simp -dsimp (disch := first | omega | (apply DrawYes.mk; decide +kernel)) only [go_sem, j1, j2, j3, if_neg h1, if_neg h2, if_pos h3]
  rfl
 have j3 : ¬ (c.toNat : Int) = 110 := by omega
 by_cases h4 : c.toNat = 114
 ·have j4 : (c.toNat : Int) = 114 := by omega
  simp -dsimp (disch := first | omega | (apply DrawYes.mk; decide +kernel)) only [go_sem, j1, j2, j3, j4, if_neg h1, if_neg h2, if_neg h3, if_pos h4]
  rfl
 have j4 : ¬ (c.toNat : Int) = 114 := by omega
 by_cases h5 : c.toNat = 116
 ·have j5 : (c.toNat : Int) = 116 := by omega
  simp -dsimp (disch := first | omega | (apply DrawYes.mk; decide +kernel)) only [go_sem, j1, j2, j3, j4, j5, if_neg h1, if_neg h2, if_neg h3, if_neg h4, if_pos h5]
  rfl
 ·have j5 : ¬ (c.toNat : Int) = 116 := by omega
  simp -dsimp (disch := first | omega | (apply DrawYes.mk; decide +kernel)) only [go_sem, j1, j2, j3, j4, j5, if_neg h1, if_neg h2, if_neg h3, if_neg h4, if_neg h5]
  rfl
theorem tw_at {p : UInt8 → Bool} : ∀ (l : List UInt8) (n : Nat), (∀ i c, i < n → l[i]? = some c → p c = true) → n ≤ l.length → (∀ c, l[n]? = some c → p c = false) → (l.takeWhile p).length = n
 | [], n, _, hn, _ => by simp at hn; simp [hn]
 | c :: l, 0, _, _, h => by rw [List.takeWhile_cons, h c rfl]; rfl
 | c :: l, n + 1, h1, h2, h3 => by
  rw [List.takeWhile_cons, h1 0 c (by omega) rfl]
  simp only [if_true, List.length_cons]
  rw [tw_at l n (fun i d hi hd => h1 (i + 1) d (by omega) (by simpa using hd)) (by simpa using h2) (fun d hd => h3 d (by simpa using hd))]
theorem blank_nat {c : UInt8} : c ∈ blanksL ↔ c.toNat = 32 ∨ c.toNat = 9 ∨ c.toNat = 10 ∨ c.toNat = 13 := by
 unfold blanksL
 have e : ∀ n : UInt8, (c = n) = (c.toNat = n.toNat) := fun n => by rw [UInt8.toNat_inj]
 simp only [List.mem_cons, List.not_mem_nil, or_false, e]
 rfl
theorem un_hash {c : UInt8} {r : List UInt8} {a n : Nat} (hc : c.toNat = 35) (hn : ((c :: r).takeWhile (· != 10)).length = n) : un (c :: r) a = un ((c :: r).drop n) (a + n) := by
 have hb : c ∉ blanksL := by rw [blank_nat]; omega
 have hx : nxt c r = .skip n := by
  unfold nxt
  rw [if_neg hb, if_pos hc, hn]
 rw [un_cons, hx]
theorem rpassed_ok {s : List UInt8} {a : Nat} {H : DH} (hs : s.length < 1000000) (ha : a ≤ s.length) : WC cfg 79 [.str s, .int .i64 a] H fun v H' => H' = H ∧ ∃ j : Nat, v = .int .i64 j ∧ a ≤ j ∧ j ≤ s.length ∧ un (s.drop j) j = un (s.drop a) a ∧ ∀ c, s[j]? = some c → c ∉ blanksL ∧ c.toNat ≠ 35 := by
 refine WC_of (show Has cfg 79 50 [.tmp 4] _ from ⟨by kernel_rfl, Tryz.f79, Tryz.func79, rfl, rfl, rfl, by kernel_rfl⟩) (by simp) ?_
 simp -dsimp (disch := first | omega | (apply DrawYes.mk; decide +kernel)) only [go_sem]
 refine Y_loop (α := Nat) (fun j σ H' => H' = H ∧ σ 0 = .str s ∧ σ 1 = .int .i64 j ∧ a ≤ j ∧ j ≤ s.length ∧ un (s.drop j) j = un (s.drop a) a) (fun j => s.length - j) a ?_ ?_
 ·simp -dsimp (disch := first | omega | (apply DrawYes.mk; decide +kernel)) only [go_sem]
  exact ⟨Nat.le_refl _, ha⟩
 rintro j σ H' ⟨rfl, h0, h1, haj, hj, hu⟩
 by_cases hlt : j < s.length
 ·have i0 : (j : Int) < s.length := by omega
  have hg : s[j]? = some s[j] := List.getElem?_eq_getElem hlt
  have hd : s.drop j = s[j] :: s.drop (j + 1) := List.drop_eq_getElem_cons hlt
  generalize s[j] = c at hg hd
  by_cases c35 : c.toNat = 35
  ·have j1 : (c.toNat : Int) = 35 := by omega
   have b1 : ((c.toNat : Int) == 35) = true := by simp; omega
   simp -dsimp (disch := first | omega | (apply DrawYes.mk; decide +kernel)) only [go_sem, h0, h1, i0, hg, j1, b1]
   refine ⟨by omega, ?_⟩
   have end_ : ∀ k, j ≤ k → k ≤ s.length → (∀ i d, j ≤ i → i < k → s[i]? = some d → d.toNat ≠ 10) → (∀ d, s[k]? = some d → d.toNat = 10) → un (s.drop k) k = un (s.drop a) a := by
    intro k h1 h2 h3 h4
    rw [← hu, hd]
    have hn : ((c :: s.drop (j + 1)).takeWhile (· != 10)).length = k - j := by
     rw [← hd]
     refine tw_at _ _ (fun i d hi hx => ?_) (by rw [List.length_drop]; omega) (fun d hx => ?_)
     ·rw [List.getElem?_drop] at hx
      have := h3 (j + i) d (by omega) (by omega) hx
      have : d ≠ 10 := by rintro rfl; exact this rfl
      simpa using this
     ·rw [List.getElem?_drop, show j + (k - j) = k by omega] at hx
      have := h4 d hx
      have : d = 10 := UInt8.toNat_inj.1 this
      simp [this]
    rw [un_hash c35 hn, ← hd, List.drop_drop]
    rw [show j + (k - j) = k by omega]
   refine Y_loop (α := Nat) (fun k σ H'' => H'' = H' ∧ σ 0 = .str s ∧ σ 1 = .int .i64 k ∧ j ≤ k ∧ k ≤ s.length ∧ ∀ i d, j ≤ i → i < k → s[i]? = some d → d.toNat ≠ 10) (fun k => s.length - k) j ?_ ?_
   ·simp -dsimp (disch := first | omega | (apply DrawYes.mk; decide +kernel)) only [go_sem, h0, h1]
    exact ⟨Nat.le_refl _, hj, fun i d h1 h2 => by omega⟩
   clear h0 h1 σ
   rintro k σ H'' ⟨rfl, h0, h1, hjk, hk, hno⟩
   by_cases hkl : k < s.length
   ·have i1 : (k : Int) < s.length := by omega
    have hgk : s[k]? = some s[k] := List.getElem?_eq_getElem hkl
    generalize s[k] = d at hgk
    by_cases d10 : d.toNat = 10
    ·have j2 : (d.toNat : Int) = 10 := by omega
     have b2 : ((d.toNat : Int) != 10) = false := by simp; omega
     simp -dsimp (disch := first | omega | (apply DrawYes.mk; decide +kernel)) only [go_sem, h0, h1, i1, hgk, j2, b2]
     refine ⟨by omega, k, ⟨rfl, by omega, by omega, end_ k hjk hk (fun i e h2 h3 h4 => hno i e h2 h3 h4) (fun e he => by rw [hgk] at he; cases he; exact d10)⟩, ?_⟩
     have : k ≠ j := by rintro rfl; rw [hg] at hgk; cases hgk; omega
     omega
    ·have j2 : ¬ (d.toNat : Int) = 10 := by omega
     have b2 : ((d.toNat : Int) != 10) = true := by simp; omega
     simp -dsimp (disch := first | omega | (apply DrawYes.mk; decide +kernel)) only [go_sem, h0, h1, i1, hgk, j2, b2]
     refine ⟨by omega, k + 1, ⟨rfl, by omega, by omega, fun i e h2 h3 h4 => ?_⟩, by omega⟩
     by_cases hik : i = k
     ·subst hik; rw [hgk] at h4; cases h4; exact d10
     ·exact hno i e h2 (by omega) h4
   ·have i1 : ¬ (k : Int) < s.length := by omega
    simp -dsimp (disch := first | omega | (apply DrawYes.mk; decide +kernel)) only [go_sem, h0, h1, i1]
    exact ⟨k, ⟨rfl, by omega, by omega, end_ k hjk hk (fun i e h2 h3 h4 => hno i e h2 h3 h4) (fun e he => by rw [List.getElem?_eq_none (by omega)] at he; cases he)⟩, by omega⟩
  ·have j1 : ¬ (c.toNat : Int) = 35 := by omega
   have b1 : ((c.toNat : Int) == 35) = false := by simp; omega
   by_cases hbl : c ∈ blanksL
   ·have hu' := un_blank (r := s.drop (j + 1)) (a := j) hbl
    rw [← hd] at hu'
    have fin : ∃ a', (DV.int IntKind.i64 (j + 1) = DV.int IntKind.i64 (a' : Nat) ∧ a ≤ a' ∧ a' ≤ s.length ∧ un (s.drop a') a' = un (s.drop a) a) ∧ s.length - a' < s.length - j := ⟨j + 1, ⟨rfl, by omega, by omega, by rw [← hu']; exact hu⟩, by omega⟩
    rw [blank_nat] at hbl
    rcases hbl with hb | hb | hb | hb
    all_goals
     rw [show (c.toNat : Int) = _ from congrArg Nat.cast hb] at *
     simp -dsimp (disch := first | omega | (apply DrawYes.mk; decide +kernel)) only [go_sem, h0, h1, i0, hg, hb]
     repeat refine And.intro (by omega) ?_
     exact fin
   ·have hbl2 := hbl
    rw [blank_nat] at hbl2
    have k1 : ¬ (c.toNat : Int) = 32 := by omega
    have k2 : ¬ (c.toNat : Int) = 9 := by omega
    have k3 : ¬ (c.toNat : Int) = 10 := by omega
    have k4 : ¬ (c.toNat : Int) = 13 := by omega
    simp -dsimp (disch := first | omega | (apply DrawYes.mk; decide +kernel)) only [go_sem, h0, h1, i0, hg, j1, b1, k1, k2, k3, k4]
    repeat refine And.intro (by omega) ?_
    exact ⟨j, rfl, haj, hj, hu, fun d hd' => by rw [hg] at hd'; cases hd'; exact ⟨hbl, c35⟩⟩
 ·have i0 : ¬ (j : Int) < s.length := by omega
  simp -dsimp (disch := first | omega | (apply DrawYes.mk; decide +kernel)) only [go_sem, h0, h1, i0]
  exact ⟨j, rfl, haj, hj, hu, fun c hc => by rw [List.getElem?_eq_none (by omega)] at hc; cases hc⟩
def IsSn (lo : Nat) (H : DH) (e sz : Nat) (v : DV) (es : List DV) : Prop := ∃ id off k, v = .sl id sz off es ∧ H.m id = some (.tip e k true) ∧ k = off + es.length ∧ lo ≤ id ∧ id < H.next
theorem IsSn.sl {lo : Nat} {H : DH} {e sz : Nat} {v : DV} {es : List DV} (h : IsSn lo H e sz v es) (hne : es ≠ []) : IsSl lo H e sz v es := by
 obtain ⟨id, off, k, h1, h2, h3, h4, h5⟩ := h
 exact .inr ⟨id, off, k, h1, h2, h3, h4, h5, hne⟩
theorem IsSn.ext {lo : Nat} {H H' : DH} {e sz : Nat} {v : DV} {es : List DV} (h : IsSn lo H e sz v es) (x : Ext H H') : IsSn lo H' e sz v es := by
 obtain ⟨id, off, k, h1, h2, h3, h4, h5⟩ := h
 exact ⟨id, off, k, h1, by rw [x.same id h5, h2], h3, h4, Nat.lt_of_lt_of_le h5 x.le⟩
theorem IsSn.one {lo : Nat} {H : DH} {e sz : Nat} {v : DV} {es : List DV} (h : IsSn lo H e sz v es) : v.cells = [v] ∧ v.one = true := by
 obtain ⟨id, off, k, rfl, _⟩ := h; exact ⟨rfl, rfl⟩
theorem IsSn.len {lo : Nat} {H H' : DH} {e sz : Nat} {v : DV} {es : List DV} {T : Tab} {t : TypeId} (h : IsSn lo H e sz v es) (ht : T.und t = some (.slice e)) : lenD T H' t v = some (.int .i64 es.length) := by
 obtain ⟨id, off, k, rfl, _⟩ := h; simp [lenD, ht]
theorem IsSn.new {H : DH} {e sz : Nat} {es : List DV} : IsSn H.next (H.new (.tip e es.length true)) e sz (.sl H.next sz 0 es) es := ⟨_, _, _, rfl, if_pos rfl, by omega, Nat.le_refl _, Nat.lt_succ_self _⟩
theorem appn {T : Tab} {H : DH} {lo : Nat} {t u e : TypeId} {n by_ : Nat} {du : TypeDesc} {z : DV} {v x : DV} {es new : List DV} {K : DV → DH → Prop} {b : Later K} (h1 : T.und t = some (.slice e)) (h2 : T.size e = some n) (h3 : T.bytes e = some by_) (h4 : T.und u = some du) (h5 : T.zero e = some z)
  (h6 : srcOk du = true) (h7 : z.cells.length = n) (h8 : 0 < n) (hs : IsSn lo H e n v es) (hx : elemsOf n x = some new) (hb : (es.length + new.length) * by_ ≤ 140737488355328) (hb2 : es.length + new.length < 9223372036854775808)
  (k : ∀ v' H', IsSn lo H' e n v' (es ++ new) → Same v H H' → K v' H') : WX (appendD T t u v x H) b := by
 unfold appendD
 simp only [h1, h2, h3, h4, h5, hx]
 rw [if_pos ⟨h8, h6, h7⟩]
 obtain ⟨id, off, kk, rfl, g2, g3, g4, g5⟩ := hs
 simp only [g2]
 rw [if_pos (by simp only [true_and]; exact ⟨g3, hb, hb2⟩)]
 refine k _ _ ⟨id, off, kk + new.length, rfl, ?_, by simp; omega, g4, g5⟩ ⟨Nat.le_refl _, fun b hb hne => ?_⟩
 ·rw [set_m, if_pos rfl]
 ·rw [set_m, if_neg (hne id _ _ _ rfl)]
theorem Same.extn {v : DV} {H0 H H' : DH} {e sz : Nat} {es : List DV} (h : Same v H H') (hs : IsSn H0.next H e sz v es) (x : Ext H0 H) : Ext H0 H' := by
 refine ⟨Nat.le_trans x.le h.le, fun b hb => ?_⟩
 rw [h.same b (Nat.lt_of_lt_of_le hb x.le), x.same b hb]
 rintro id sz' off es' rfl
 obtain ⟨id', off', k, h1, h2, _, h4, _⟩ := hs
 cases h1; omega
def txV (a : Nat) : Option (List UInt8 × Nat) → DV
 | some (t, n) => .tup [.str t, .int .i64 (a + n : Nat), .int .i64 0]
 | none => .tup [.str [], .int .i64 0, .int .i64 11]
theorem rturned_eq {c : UInt8} {H : DH} {K : DV → DH → Prop} {b : Later K} : WK cfg 131 [.int .u8 (c.toNat : Int)] H b = K (byteDV ((esc c).getD 0)) H := WK_det rturned_ok
theorem esc_nz {c x : UInt8} (h : esc c = some x) : x.toNat ≠ 0 := by
 rw [esc_nat] at h
 repeat' split at h
 all_goals first | (cases h; decide) | cases h
theorem rtext_ok {s : List UInt8} {a : Nat} {H : DH} (hs : s.length < 1000000) (ha : a < s.length) : WC cfg 109 [.str s, .int .i64 a] H fun v H' => Ext H H' ∧ v = txV a (qd [] (s.drop (a + 1)) 1) := by
 refine WC_of (show Has cfg 109 55 [.tmp 4, .tmp 5, .tmp 6] _ from ⟨by kernel_rfl, Tryz.f109, Tryz.func109, rfl, rfl, rfl, by kernel_rfl⟩) (by simp) ?_
 simp -dsimp (disch := first | omega | (apply DrawYes.mk; decide +kernel)) only [go_sem]
 refine Y_loop (α := List UInt8 × Nat) (fun k σ H' => Ext H H' ∧ σ 0 = .str s ∧ σ 8 = .int .i64 k.2 ∧ IsSn H.next H' 5 1 (σ 7) (k.1.map byteDV) ∧ a + 1 ≤ k.2 ∧ k.2 ≤ s.length ∧ k.1.length ≤ k.2 ∧ qd k.1 (s.drop k.2) (k.2 - a) = qd [] (s.drop (a + 1)) 1) (fun k => s.length - k.2) ([], a + 1) ?_ ?_
 ·simp -dsimp (disch := first | omega | (apply DrawYes.mk; decide +kernel)) only [go_sem]
  refine ⟨Ext.refl.new, rfl, IsSn.new, Nat.le_refl _, by omega, ?_⟩
  rw [show a + 1 - a = 1 by omega]
 rintro ⟨acc, i⟩ σ H1 ⟨hE, h0, h8, ho, hai, hi, hl, hq⟩
 dsimp only at h8 ho hai hi hl hq
 by_cases hlt : i < s.length
 ·have i0 : (i : Int) < s.length := by omega
  have hg : s[i]? = some s[i] := List.getElem?_eq_getElem hlt
  have hd : s.drop i = s[i] :: s.drop (i + 1) := List.drop_eq_getElem_cons hlt
  generalize s[i] = c at hg hd
  rw [hd, qd_cons] at hq
  have holen : ∀ H, lenD cfg.T H 141 (σ 7) = some (.int .i64 acc.length) := fun H => by rw [ho.len und_141, List.length_map]
  by_cases c34 : c.toNat = 34
  ·rw [if_pos c34] at hq
   have j1 : (c.toNat : Int) = 34 := by omega
   have b1 : ((c.toNat : Int) == 34) = true := by simp; omega
   by_cases h100 : acc.length ≤ 100
   ·rw [if_pos h100] at hq
    have j2 : ¬ 100 < (acc.length : Int) := by omega
    obtain ⟨id7, off7, _, e7, _⟩ := ho
    have hbo : bytesOf (acc.map byteDV) = some acc := bytesOf_map acc
    rw [e7] at holen
    simp -dsimp (disch := first | omega | (apply DrawYes.mk; decide +kernel)) only [go_sem, h0, h8, i0, hg, j1, b1, holen, j2, e7, hbo]
    rw [← hq]
    refine ⟨by omega, hE, ?_⟩
    simp only [txV]
    rw [show a + (i - a + 1) = i + 1 by omega]
    rfl
   ·rw [if_neg h100] at hq
    have j2 : 100 < (acc.length : Int) := by omega
    simp -dsimp (disch := first | omega | (apply DrawYes.mk; decide +kernel)) only [go_sem, h0, h8, i0, hg, j1, b1, holen, j2]
    rw [← hq]
    exact ⟨by omega, hE, rfl⟩
  ·have j1 : ¬ (c.toNat : Int) = 34 := by omega
   have b1 : ((c.toNat : Int) == 34) = false := by simp; omega
   rw [if_neg c34] at hq
   by_cases c32 : c.toNat < 32
   ·have j2 : (c.toNat : Int) < 32 := by omega
    rw [if_pos (.inl c32)] at hq
    simp -dsimp (disch := first | omega | (apply DrawYes.mk; decide +kernel)) only [go_sem, h0, h8, i0, hg, j1, b1, j2]
    rw [← hq]
    exact ⟨by omega, hE, rfl⟩
   have j2 : ¬ (c.toNat : Int) < 32 := by omega
   by_cases c126 : 126 < c.toNat
   ·have j3 : 126 < (c.toNat : Int) := by omega
    rw [if_pos (.inr c126)] at hq
    simp -dsimp (disch := first | omega | (apply DrawYes.mk; decide +kernel)) only [go_sem, h0, h8, i0, hg, j1, b1, j2, j3]
    rw [← hq]
    exact ⟨by omega, hE, rfl⟩
   have j3 : ¬ 126 < (c.toNat : Int) := by omega
   rw [if_neg (by omega)] at hq
   by_cases c92 : c.toNat = 92
   ·rw [if_pos c92] at hq
    have j4 : (c.toNat : Int) = 92 := by omega
    have b4 : ((c.toNat : Int) == 92) = true := by simp; omega
    by_cases hlt2 : i + 1 < s.length
    ·have i2 : ¬ (s.length : Int) ≤ (i : Int) + 1 := by omega
     have hg2 : s[i + 1]? = some s[i + 1] := List.getElem?_eq_getElem hlt2
     have hd2 : s.drop (i + 1) = s[i + 1] :: s.drop (i + 2) := List.drop_eq_getElem_cons hlt2
     generalize s[i + 1] = d at hg2 hd2
     rw [hd2] at hq
     simp only at hq
     have tn : ((i : Int) + 1).toNat = i + 1 := by omega
     cases he : esc d with
     | none =>
      rw [he] at hq
      simp only at hq
      have hz : (((none : Option UInt8).getD 0).toNat : Int) = 0 := rfl
      simp -dsimp (disch := first | omega | (apply DrawYes.mk; decide +kernel)) only [go_sem, h0, h8, i0, hg, j1, b1, j2, j3, j4, b4, i2, tn, hg2, rturned_eq, he, hz]
      rw [← hq]
      exact ⟨by omega, by omega, hE, rfl⟩
     | some x =>
      rw [he] at hq
      simp only at hq
      have hxz := esc_nz he
      have bx : ((x.toNat : Int) == 0) = false := by simp; omega
      have bx2 : ¬ (x.toNat : Int) = 0 := by omega
      simp -dsimp (disch := first | omega | (apply DrawYes.mk; decide +kernel)) only [go_sem, h0, h8, i0, hg, j1, b1, j2, j3, j4, b4, i2, tn, hg2, rturned_eq, he, bx, bx2, Option.getD_some]
      refine ⟨by omega, by omega, ?_⟩
      refine appn und_141 size_5 bytes_5 und_141 zero_5 rfl rfl (by decide) (ho.ext Ext.refl.new) rfl (by simp only [List.length_map, List.length_cons, List.length_nil]; omega) (by simp only [List.length_map, List.length_cons, List.length_nil]; omega) ?_
      intro v' H4 ho4 hs4
      simp -dsimp (disch := first | omega | (apply DrawYes.mk; decide +kernel)) only [go_sem, h0, h8]
      refine ⟨(acc ++ [x], i + 2), ⟨hs4.extn (ho.ext Ext.refl.new) hE.new, by norm_cast, by rw [List.map_append]; exact ho4, by simp only; omega, by simp only; omega, by simp only [List.length_append, List.length_cons, List.length_nil]; omega, ?_⟩, by simp only; omega⟩
      simp only
      rw [show i + 2 - a = i - a + 2 by omega]
      exact hq
    ·have i2 : (s.length : Int) ≤ (i : Int) + 1 := by omega
     have hd2 : s.drop (i + 1) = [] := List.drop_eq_nil_of_le (by omega)
     rw [hd2] at hq
     simp -dsimp (disch := first | omega | (apply DrawYes.mk; decide +kernel)) only [go_sem, h0, h8, i0, hg, j1, b1, j2, j3, j4, b4, i2]
     rw [← hq]
     exact ⟨by omega, hE, rfl⟩
   ·rw [if_neg c92] at hq
    have j4 : ¬ (c.toNat : Int) = 92 := by omega
    have b4 : ((c.toNat : Int) == 92) = false := by simp; omega
    simp -dsimp (disch := first | omega | (apply DrawYes.mk; decide +kernel)) only [go_sem, h0, h8, i0, hg, j1, b1, j2, j3, j4, b4]
    refine ⟨by omega, ?_⟩
    refine appn und_141 size_5 bytes_5 und_141 zero_5 rfl rfl (by decide) (ho.ext Ext.refl.new) rfl (by simp only [List.length_map, List.length_cons, List.length_nil]; omega) (by simp only [List.length_map, List.length_cons, List.length_nil]; omega) ?_
    intro v' H4 ho4 hs4
    simp -dsimp (disch := first | omega | (apply DrawYes.mk; decide +kernel)) only [go_sem, h0, h8]
    refine ⟨(acc ++ [c], i + 1), ⟨hs4.extn (ho.ext Ext.refl.new) hE.new, rfl, by rw [List.map_append]; exact ho4, by simp only; omega, by simp only; omega, by simp only [List.length_append, List.length_cons, List.length_nil]; omega, ?_⟩, by simp only; omega⟩
    simp only
    rw [show i + 1 - a = i - a + 1 by omega]
    exact hq
 ·have i0 : ¬ (i : Int) < s.length := by omega
  have hd : s.drop i = [] := List.drop_eq_nil_of_le (by omega)
  rw [hd, qd.eq_def] at hq
  simp -dsimp (disch := first | omega | (apply DrawYes.mk; decide +kernel)) only [go_sem, h0, h8, i0]
  rw [← hq]
  exact ⟨hE, rfl⟩
theorem small_nat {c : UInt8} : smB c = true ↔ c ∈ smallL := by
 unfold smB
 constructor
 ·intro h
  simp only [Bool.and_eq_true, decide_eq_true_eq] at h
  have hall : ∀ k, k < 26 → UInt8.ofNat (97 + k) ∈ smallL := by decide
  have := hall (c.toNat - 97) (by omega)
  rw [show 97 + (c.toNat - 97) = c.toNat by omega, UInt8.ofNat_toNat] at this
  exact this
 ·revert c
  have : ∀ c ∈ smallL, (decide (97 ≤ c.toNat) && decide (c.toNat ≤ 122)) = true := by decide
  exact fun {c} h => this c h
theorem digit_nat {c : UInt8} : dgB c = true ↔ c ∈ digitsL := by
 unfold dgB
 constructor
 ·intro h
  simp only [Bool.and_eq_true, decide_eq_true_eq] at h
  have hall : ∀ k, k < 10 → UInt8.ofNat (48 + k) ∈ digitsL := by decide
  have := hall (c.toNat - 48) (by omega)
  rw [show 48 + (c.toNat - 48) = c.toNat by omega, UInt8.ofNat_toNat] at this
  exact this
 ·revert c
  have : ∀ c ∈ digitsL, (decide (48 ≤ c.toNat) && decide (c.toNat ≤ 57)) = true := by decide
  exact fun {c} h => this c h
theorem sign_nat {c : UInt8} : c ∈ signsL ↔ c.toNat = 123 ∨ c.toNat = 125 ∨ c.toNat = 59 ∨ c.toNat = 61 := by
 unfold signsL
 have e : ∀ n : UInt8, (c = n) = (c.toNat = n.toNat) := fun n => by rw [UInt8.toNat_inj]
 simp only [List.mem_cons, List.not_mem_nil, or_false, e]
 rfl
theorem word_nat {c : UInt8} : c ∈ wordsL ↔ smB c = true ∨ dgB c = true ∨ c.toNat = 95 := by
 rw [small_nat, digit_nat]
 unfold wordsL
 have e : ∀ n : UInt8, (c = n) = (c.toNat = n.toNat) := fun n => by rw [UInt8.toNat_inj]
 simp only [List.mem_append, List.mem_cons, List.not_mem_nil, or_false, e]
 rw [or_assoc]
 rfl
theorem run_at {s r set : List UInt8} {c : UInt8} {a en : Nat} (hd : s.drop a = c :: r) (h1 : a ≤ en) (h2 : en ≤ s.length) (h3 : ∀ i d, a ≤ i → i < en → s[i]? = some d → d ∈ set) (h4 : ∀ d, s[en]? = some d → d ∉ set) : runL (c :: r) set = en - a := by
 rw [runL_tw, ← hd]
 refine tw_at _ _ (fun i d hi hx => ?_) (by rw [List.length_drop]; omega) (fun d hx => ?_)
 ·rw [List.getElem?_drop] at hx
  simpa using h3 (a + i) d (by omega) (by omega) hx
 ·rw [List.getElem?_drop, show a + (en - a) = en by omega] at hx
  simpa using h4 d hx
theorem cut_at {s r : List UInt8} {c : UInt8} {a en : Nat} (hd : s.drop a = c :: r) : (s.take en).drop a = (c :: r).take (en - a) := by
 rw [← hd, List.drop_take]
theorem rnext_ok {s r : List UInt8} {c : UInt8} {a : Nat} {H : DH} (hs : s.length < 1000000) (hd : s.drop a = c :: r) (hb : c ∉ blanksL) (h35 : c.toNat ≠ 35) : WC cfg 80 [.str s, .int .i64 a] H fun v H' => Ext H H' ∧ ∃ (tk : Tok) (en e : Nat), v = .tup [tk.dv, .int .i64 en, .int .i64 e] ∧ (∀ k t n, nxt c r = .tok k t n → tk = ⟨k, t, a⟩ ∧ en = a + n ∧ e = 0) ∧ (∀ e', nxt c r = .err e' → e = e') := by
 refine WC_of (show Has cfg 80 118 [.cell 4 71, .tmp 5, .tmp 6] _ from ⟨by kernel_rfl, Tryz.f80, Tryz.func80, rfl, rfl, rfl, by kernel_rfl⟩) (by simp) ?_
 have hla : a < s.length := by
  have := congrArg List.length hd
  simp only [List.length_drop, List.length_cons] at this; omega
 have hg : s[a]? = some c := by
  have := congrArg (fun l : List UInt8 => l[0]?) hd
  simpa [List.getElem?_drop] using this
 have i0 : (a : Int) < s.length := by omega
 by_cases c34 : c.toNat = 34
 ·have b1 : ((c.toNat : Int) == 34) = true := by simp; omega
  have j1 : (c.toNat : Int) = 34 := by omega
  simp -dsimp (disch := first | omega | (apply DrawYes.mk; decide +kernel)) only [go_sem, hg, i0, b1, j1]
  refine ⟨by omega, call (rtext_ok hs hla) ?_⟩
  rintro _ H1 ⟨hE1, rfl⟩
  have hr : s.drop (a + 1) = r := by rw [← List.drop_drop, hd]; rfl
  rw [hr]
  have h1 : c ∉ smallL := by rw [← small_nat]; unfold smB; simp; omega
  have h2 : c ∉ digitsL := by rw [← digit_nat]; unfold dgB; simp; omega
  have hE : Ext H H1 := Ext.refl.new.trans hE1
  have hp : H1.m H.next = some (.cells 71 [.int .i64 0, .str [], .int .i64 0]) := hE1.get (by simp [new_next]) (by rw [new_m, if_pos rfl])
  cases hq : qd [] r 1 with
  | none =>
   have hx : nxt c r = .err 11 := by
    unfold nxt
    rw [if_neg hb, if_neg h35, if_neg h1, if_neg h2, if_pos c34, hq]
   simp only [txV]
   simp -dsimp (disch := first | omega | (apply DrawYes.mk; decide +kernel)) only [go_sem, hp]
   exact ⟨hE.set (Nat.le_refl _), ⟨3, [], a⟩, 0, 11, rfl, fun k t n h => (by rw [hx] at h; cases h), fun e' h => (by rw [hx] at h; cases h; rfl)⟩
  | some p =>
   obtain ⟨t, n⟩ := p
   have hx : nxt c r = .tok 3 t n := by
    unfold nxt
    rw [if_neg hb, if_neg h35, if_neg h1, if_neg h2, if_pos c34, hq]
   simp only [txV]
   simp -dsimp (disch := first | omega | (apply DrawYes.mk; decide +kernel)) only [go_sem, hp]
   exact ⟨hE.set (Nat.le_refl _), ⟨3, t, a⟩, a + n, 0, rfl, fun k t n h => (by rw [hx] at h; cases h; exact ⟨rfl, rfl, rfl⟩), fun e' h => (by rw [hx] at h; cases h)⟩
 have b1 : ((c.toNat : Int) == 34) = false := by simp; omega
 have j1 : ¬ (c.toNat : Int) = 34 := by omega
 by_cases csm : c ∈ smallL
 ·have b2 : smB c = true := small_nat.2 csm
  simp -dsimp (disch := first | omega | (apply DrawYes.mk; decide +kernel)) only [go_sem, hg, i0, b1, j1, rsmall_eq, b2]
  refine ⟨by omega, ?_⟩
  refine Y_loop (α := Nat) (fun en σ H' => H' = H.new (.cells 71 [.int .i64 0, .str [], .int .i64 0]) ∧ σ 0 = .str s ∧ σ 1 = .int .i64 a ∧ σ 4 = .ptr H.next 0 ∧ σ 5 = .int .i64 0 ∧ σ 6 = .int .i64 0 ∧ σ 8 = .int .i64 en ∧ a ≤ en ∧ en ≤ s.length ∧ ∀ i d, a ≤ i → i < en → s[i]? = some d → d ∈ wordsL) (fun en => s.length - en) a ?_ ?_
  ·simp -dsimp (disch := first | omega | (apply DrawYes.mk; decide +kernel)) only [go_sem]
   exact ⟨Nat.le_refl _, by omega, fun i d h1 h2 => by omega⟩
  rintro en σ H' ⟨rfl, h0, h1, h4, h5, h6, h8, hae, hen, hall⟩
  have hx' : (∀ e, s[en]? = some e → e ∉ wordsL) → nxt c r = if 12 < en - a then .err 13 else .tok 1 ((c :: r).take (en - a)) (en - a) := by
   intro h
   unfold nxt
   rw [if_neg hb, if_neg h35, if_pos csm, run_at hd hae hen hall h]
  by_cases hlt : en < s.length
  ·have i1 : (en : Int) < s.length := by omega
   have hg2 : s[en]? = some s[en] := List.getElem?_eq_getElem hlt
   generalize s[en] = d at hg2
   have fin : d ∈ wordsL → ∃ a', (DV.int IntKind.i64 (en + 1) = DV.int IntKind.i64 (a' : Nat) ∧ a ≤ a' ∧ a' ≤ s.length ∧ ∀ i d, a ≤ i → i < a' → s[i]? = some d → d ∈ wordsL) ∧ s.length - a' < s.length - en := by
    intro hw
    refine ⟨en + 1, ⟨rfl, by omega, by omega, fun i e h2 h3 h4 => ?_⟩, by omega⟩
    by_cases hik : i = en
    ·subst hik; rw [hg2] at h4; cases h4; exact hw
    ·exact hall i e h2 (by omega) h4
   have hwn := word_nat (c := d)
   cases w1 : smB d with
   | true =>
    simp -dsimp (disch := first | omega | (apply DrawYes.mk; decide +kernel)) only [go_sem, h0, h1, h4, h5, h6, h8, i1, hg2, rsmall_eq, rdigit_eq, w1]
    exact ⟨by omega, fin (hwn.2 (.inl w1))⟩
   | false =>
    cases w2 : dgB d with
    | true =>
     simp -dsimp (disch := first | omega | (apply DrawYes.mk; decide +kernel)) only [go_sem, h0, h1, h4, h5, h6, h8, i1, hg2, rsmall_eq, rdigit_eq, w1, w2]
     exact ⟨by omega, by omega, fin (hwn.2 (.inr (.inl w2)))⟩
    | false =>
     by_cases w3 : d.toNat = 95
     ·have w3b : ((d.toNat : Int) == 95) = true := by simp; omega
      have w3i : (d.toNat : Int) = 95 := by omega
      simp -dsimp (disch := first | omega | (apply DrawYes.mk; decide +kernel)) only [go_sem, h0, h1, h4, h5, h6, h8, i1, hg2, rsmall_eq, rdigit_eq, w1, w2, w3b]
      exact ⟨by omega, by omega, by omega, fin (hwn.2 (.inr (.inr w3)))⟩
     ·have w3b : ((d.toNat : Int) == 95) = false := by simp; omega
      have w3i : ¬ (d.toNat : Int) = 95 := by omega
      simp -dsimp (disch := first | omega | (apply DrawYes.mk; decide +kernel)) only [go_sem, h0, h1, h4, h5, h6, h8, i1, hg2, rsmall_eq, rdigit_eq, w1, w2, w3b]
      have hx := hx' (fun e he => by rw [hg2] at he; cases he; rw [hwn, w1, w2]; simp; exact w3)
      refine ⟨by omega, by omega, by omega, ?_⟩
      refine ⟨fun h => ⟨Ext.refl.new.set (Nat.le_refl _), ⟨0, [], 0⟩, 0, 13, rfl, fun k t n h2 => ?_, fun e' h2 => ?_⟩, fun h => ⟨by omega, by omega, Ext.refl.new.set (Nat.le_refl _), ⟨1, _, a⟩, en, 0, rfl, fun k t n h2 => ?_, fun e' h2 => ?_⟩⟩
      ·rw [hx, if_pos (by omega)] at h2; cases h2
      ·rw [hx, if_pos (by omega)] at h2; cases h2; rfl
      ·rw [hx, if_neg (by omega)] at h2; cases h2; exact ⟨by rw [cut_at hd], by omega, rfl⟩
      ·rw [hx, if_neg (by omega)] at h2; cases h2
  ·have i1 : ¬ (en : Int) < s.length := by omega
   simp -dsimp (disch := first | omega | (apply DrawYes.mk; decide +kernel)) only [go_sem, h0, h1, h4, h5, h6, h8, i1]
   have hx := hx' (fun e he => by rw [List.getElem?_eq_none (by omega)] at he; cases he)
   refine ⟨fun h => ⟨Ext.refl.new.set (Nat.le_refl _), ⟨0, [], 0⟩, 0, 13, rfl, fun k t n h2 => ?_, fun e' h2 => ?_⟩, fun h => ⟨by omega, by omega, Ext.refl.new.set (Nat.le_refl _), ⟨1, _, a⟩, en, 0, rfl, fun k t n h2 => ?_, fun e' h2 => ?_⟩⟩
   ·rw [hx, if_pos (by omega)] at h2; cases h2
   ·rw [hx, if_pos (by omega)] at h2; cases h2; rfl
   ·rw [hx, if_neg (by omega)] at h2; cases h2; exact ⟨by rw [cut_at hd], by omega, rfl⟩
   ·rw [hx, if_neg (by omega)] at h2; cases h2
 have b2 : smB c = false := by rw [Bool.eq_false_iff]; exact fun h => csm (small_nat.1 h)
 by_cases cdg : c ∈ digitsL
 ·have b3 : dgB c = true := digit_nat.2 cdg
  simp -dsimp (disch := first | omega | (apply DrawYes.mk; decide +kernel)) only [go_sem, hg, i0, b1, j1, rsmall_eq, b2, rdigit_eq, b3]
  refine ⟨by omega, ?_⟩
  refine Y_loop (α := Nat) (fun en σ H' => H' = H.new (.cells 71 [.int .i64 0, .str [], .int .i64 0]) ∧ σ 0 = .str s ∧ σ 1 = .int .i64 a ∧ σ 4 = .ptr H.next 0 ∧ σ 5 = .int .i64 0 ∧ σ 6 = .int .i64 0 ∧ σ 8 = .int .i64 en ∧ a ≤ en ∧ en ≤ s.length ∧ ∀ i d, a ≤ i → i < en → s[i]? = some d → d ∈ digitsL) (fun en => s.length - en) a ?_ ?_
  ·simp -dsimp (disch := first | omega | (apply DrawYes.mk; decide +kernel)) only [go_sem]
   exact ⟨Nat.le_refl _, by omega, fun i d h1 h2 => by omega⟩
  rintro en σ H' ⟨rfl, h0, h1, h4, h5, h6, h8, hae, hen, hall⟩
  have hx' : (∀ e, s[en]? = some e → e ∉ digitsL) → nxt c r = if 9 < en - a then .err 12 else .tok 2 ((c :: r).take (en - a)) (en - a) := by
   intro h
   unfold nxt
   rw [if_neg hb, if_neg h35, if_neg csm, if_pos cdg, run_at hd hae hen hall h]
  by_cases hlt : en < s.length
  ·have i1 : (en : Int) < s.length := by omega
   have hg2 : s[en]? = some s[en] := List.getElem?_eq_getElem hlt
   generalize s[en] = d at hg2
   cases w2 : dgB d with
   | true =>
    simp -dsimp (disch := first | omega | (apply DrawYes.mk; decide +kernel)) only [go_sem, h0, h1, h4, h5, h6, h8, i1, hg2, rsmall_eq, rdigit_eq, w2]
    refine ⟨by omega, en + 1, ⟨rfl, by omega, by omega, fun i e h2 h3 h4 => ?_⟩, by omega⟩
    by_cases hik : i = en
    ·subst hik; rw [hg2] at h4; cases h4; exact digit_nat.1 w2
    ·exact hall i e h2 (by omega) h4
   | false =>
    simp -dsimp (disch := first | omega | (apply DrawYes.mk; decide +kernel)) only [go_sem, h0, h1, h4, h5, h6, h8, i1, hg2, rsmall_eq, rdigit_eq, w2]
    have hx := hx' (fun e he => by rw [hg2] at he; cases he; rw [← digit_nat, w2]; simp)
    refine ⟨by omega, ?_⟩
    refine ⟨fun h => ⟨Ext.refl.new.set (Nat.le_refl _), ⟨0, [], 0⟩, 0, 12, rfl, fun k t n h2 => ?_, fun e' h2 => ?_⟩, fun h => ⟨by omega, by omega, Ext.refl.new.set (Nat.le_refl _), ⟨2, _, a⟩, en, 0, rfl, fun k t n h2 => ?_, fun e' h2 => ?_⟩⟩
    ·rw [hx, if_pos (by omega)] at h2; cases h2
    ·rw [hx, if_pos (by omega)] at h2; cases h2; rfl
    ·rw [hx, if_neg (by omega)] at h2; cases h2; exact ⟨by rw [cut_at hd], by omega, rfl⟩
    ·rw [hx, if_neg (by omega)] at h2; cases h2
  ·have i1 : ¬ (en : Int) < s.length := by omega
   simp -dsimp (disch := first | omega | (apply DrawYes.mk; decide +kernel)) only [go_sem, h0, h1, h4, h5, h6, h8, i1]
   have hx := hx' (fun e he => by rw [List.getElem?_eq_none (by omega)] at he; cases he)
   refine ⟨fun h => ⟨Ext.refl.new.set (Nat.le_refl _), ⟨0, [], 0⟩, 0, 12, rfl, fun k t n h2 => ?_, fun e' h2 => ?_⟩, fun h => ⟨by omega, by omega, Ext.refl.new.set (Nat.le_refl _), ⟨2, _, a⟩, en, 0, rfl, fun k t n h2 => ?_, fun e' h2 => ?_⟩⟩
   ·rw [hx, if_pos (by omega)] at h2; cases h2
   ·rw [hx, if_pos (by omega)] at h2; cases h2; rfl
   ·rw [hx, if_neg (by omega)] at h2; cases h2; exact ⟨by rw [cut_at hd], by omega, rfl⟩
   ·rw [hx, if_neg (by omega)] at h2; cases h2
 have b3 : dgB c = false := by rw [Bool.eq_false_iff]; exact fun h => cdg (digit_nat.1 h)
 have hx0 : nxt c r = if c ∈ signsL then .tok 4 [c] 1 else .err 10 := by
  unfold nxt
  rw [if_neg hb, if_neg h35, if_neg csm, if_neg cdg, if_neg c34]
 have hcut : (s.take (a + 1)).drop a = [c] := by rw [cut_at hd, show a + 1 - a = 1 by omega]; rfl
 have hta : ((a : Int) + 1).toNat = a + 1 := by omega
 by_cases k0 : c.toNat = 123
 ·have l0 : ((c.toNat : Int) == 123) = true := by simp; omega
  have hx : nxt c r = .tok 4 [c] 1 := by rw [hx0, if_pos (sign_nat.2 (by omega))]
  simp -dsimp (disch := first | omega | (apply DrawYes.mk; decide +kernel)) only [go_sem, hg, i0, b1, j1, rsmall_eq, b2, rdigit_eq, b3, l0, hta, hcut]
  repeat refine And.intro (by omega) ?_
  exact ⟨Ext.refl.new.set (Nat.le_refl _), ⟨4, [c], a⟩, a + 1, 0, rfl, fun k t n h => (by rw [hx] at h; cases h; exact ⟨rfl, rfl, rfl⟩), fun e' h => (by rw [hx] at h; cases h)⟩
 have l0 : ((c.toNat : Int) == 123) = false := by simp; omega
 by_cases k1 : c.toNat = 125
 ·have l1 : ((c.toNat : Int) == 125) = true := by simp; omega
  have hx : nxt c r = .tok 4 [c] 1 := by rw [hx0, if_pos (sign_nat.2 (by omega))]
  simp -dsimp (disch := first | omega | (apply DrawYes.mk; decide +kernel)) only [go_sem, hg, i0, b1, j1, rsmall_eq, b2, rdigit_eq, b3, l0, l1, hta, hcut]
  repeat refine And.intro (by omega) ?_
  exact ⟨Ext.refl.new.set (Nat.le_refl _), ⟨4, [c], a⟩, a + 1, 0, rfl, fun k t n h => (by rw [hx] at h; cases h; exact ⟨rfl, rfl, rfl⟩), fun e' h => (by rw [hx] at h; cases h)⟩
 have l1 : ((c.toNat : Int) == 125) = false := by simp; omega
 by_cases k2 : c.toNat = 59
 ·have l2 : ((c.toNat : Int) == 59) = true := by simp; omega
  have hx : nxt c r = .tok 4 [c] 1 := by rw [hx0, if_pos (sign_nat.2 (by omega))]
  simp -dsimp (disch := first | omega | (apply DrawYes.mk; decide +kernel)) only [go_sem, hg, i0, b1, j1, rsmall_eq, b2, rdigit_eq, b3, l0, l1, l2, hta, hcut]
  repeat refine And.intro (by omega) ?_
  exact ⟨Ext.refl.new.set (Nat.le_refl _), ⟨4, [c], a⟩, a + 1, 0, rfl, fun k t n h => (by rw [hx] at h; cases h; exact ⟨rfl, rfl, rfl⟩), fun e' h => (by rw [hx] at h; cases h)⟩
 have l2 : ((c.toNat : Int) == 59) = false := by simp; omega
 by_cases k3 : c.toNat = 61
 ·have l3 : ((c.toNat : Int) == 61) = true := by simp; omega
  have hx : nxt c r = .tok 4 [c] 1 := by rw [hx0, if_pos (sign_nat.2 (by omega))]
  simp -dsimp (disch := first | omega | (apply DrawYes.mk; decide +kernel)) only [go_sem, hg, i0, b1, j1, rsmall_eq, b2, rdigit_eq, b3, l0, l1, l2, l3, hta, hcut]
  repeat refine And.intro (by omega) ?_
  exact ⟨Ext.refl.new.set (Nat.le_refl _), ⟨4, [c], a⟩, a + 1, 0, rfl, fun k t n h => (by rw [hx] at h; cases h; exact ⟨rfl, rfl, rfl⟩), fun e' h => (by rw [hx] at h; cases h)⟩
 have l3 : ((c.toNat : Int) == 61) = false := by simp; omega
 have hx : nxt c r = .err 10 := by rw [hx0, if_neg (by rw [sign_nat]; omega)]
 simp -dsimp (disch := first | omega | (apply DrawYes.mk; decide +kernel)) only [go_sem, hg, i0, b1, j1, rsmall_eq, b2, rdigit_eq, b3, l0, l1, l2, l3, hta, hcut]
 repeat refine And.intro (by omega) ?_
 exact ⟨Ext.refl.new.set (Nat.le_refl _), ⟨0, [], 0⟩, 0, 10, rfl, fun k t n h => (by rw [hx] at h; cases h), fun e' h => (by rw [hx] at h; cases h; rfl)⟩
theorem rall_ok {s : List UInt8} {H : DH} (hs : s.length < 1000000) : WC cfg 46 [.str s] H fun v H' => Ext H H' ∧ ∃ v', v = .tup [v', .int .i64 (lexAll s).2.1, .int .i64 (lexAll s).2.2] ∧ IsSl H.next H' 71 3 v' ((lexAll s).1.map Tok.dv) := by
 refine WC_of (show Has cfg 46 47 [.tmp 2, .tmp 3, .tmp 4] _ from ⟨by kernel_rfl, Tryz.f46, Tryz.func46, rfl, rfl, rfl, by kernel_rfl⟩) (by simp) ?_
 by_cases h2 : 2000 < s.length
 ·have i2 : 2000 < (s.length : Int) := by omega
  simp -dsimp (disch := first | omega | (apply DrawYes.mk; decide +kernel)) only [go_sem, i2]
  have e : lexAll s = ([], 0, 4) := by unfold lexAll; rw [if_pos h2]
  rw [e]
  exact ⟨Ext.refl, _, rfl, .inl ⟨rfl, rfl⟩⟩
 have i2 : ¬ 2000 < (s.length : Int) := by omega
 simp -dsimp (disch := first | omega | (apply DrawYes.mk; decide +kernel)) only [go_sem, i2]
 rw [lexAll_un (by omega)]
 refine call (rpassed_ok (a := 0) hs (Nat.zero_le _)) ?_
 rintro _ H1 ⟨rfl, j0, rfl, _, hj0, hu0, hb0⟩
 simp -dsimp (disch := first | omega | (apply DrawYes.mk; decide +kernel)) only [go_sem]
 refine Y_loop (α := Nat × List Tok) (fun k σ H' => Ext H H' ∧ σ 0 = .str s ∧ σ 6 = .int .i64 k.1 ∧ IsSn H.next H' 71 3 (σ 5) (k.2.map Tok.dv) ∧ k.1 ≤ s.length ∧ k.2.length ≤ 400 ∧ un s 0 = (k.2 ++ (un (s.drop k.1) k.1).1, (un (s.drop k.1) k.1).2) ∧ ∀ c, s[k.1]? = some c → c ∉ blanksL ∧ c.toNat ≠ 35) (fun k => s.length - k.1) (j0, []) ?_ ?_
 ·simp -dsimp (disch := first | omega | (apply DrawYes.mk; decide +kernel)) only [go_sem]
  exact ⟨Ext.refl.new, IsSn.new, hj0, hu0.symm, hb0⟩
 rintro ⟨a, T⟩ σ H1 ⟨hE, h0, h6, ho, ha, hT, hu, hb⟩
 dsimp only at h6 ho ha hT hu hb
 by_cases hlt : a < s.length
 ·have i0 : (a : Int) < s.length := by omega
  have hg : s[a]? = some s[a] := List.getElem?_eq_getElem hlt
  have hd : s.drop a = s[a] :: s.drop (a + 1) := List.drop_eq_getElem_cons hlt
  generalize s[a] = c at hg hd
  obtain ⟨hcb, hc35⟩ := hb c hg
  have hn := nxt_n (c := c) (r := s.drop (a + 1))
  rw [hd, un_cons] at hu
  simp -dsimp (disch := first | omega | (apply DrawYes.mk; decide +kernel)) only [go_sem, h0, h6, i0]
  refine call (rnext_ok hs hd hcb hc35) ?_
  rintro _ H2 ⟨hE2, tk, en, e, rfl, htok, herr⟩
  cases hx : nxt c (s.drop (a + 1)) with
  | skip n =>
   exfalso
   unfold nxt at hx
   rw [if_neg hcb, if_neg hc35] at hx
   repeat' split at hx
   all_goals cases hx
  | err e' =>
   obtain rfl := herr e' hx
   rw [hx] at hu
   simp only [List.append_nil] at hu
   have hcap : capped [] s.length (un s 0) = ([], a, e) := by
    rw [hu]; unfold capped; rw [if_neg (by simp; omega)]
   rw [hcap]
   have he : e ≠ 0 := nxt_err hx
   have he1 : ((e : Int) != 0) = true := by simp; omega
   simp -dsimp (disch := first | omega | (apply DrawYes.mk; decide +kernel)) only [go_sem, h0, h6, he1]
   exact ⟨⟨rfl, rfl⟩, (hE.trans hE2).new.set (hE.trans hE2).le, _, rfl, .inl ⟨rfl, rfl⟩⟩
  | tok k t n =>
   obtain ⟨rfl, rfl, rfl⟩ := htok k t n hx
   rw [hx] at hu
   simp only [hx, Nx.n] at hu hn
   by_cases h4 : 400 ≤ T.length
   ·have j4 : 400 ≤ (T.length : Int) := by omega
    have hcap : capped [] s.length (un s 0) = ([], 0, 4) := by
     rw [hu]; unfold capped; rw [if_pos (by simp; omega)]
    rw [hcap]
    have holen : ∀ H, lenD cfg.T H 62 (σ 5) = some (.int .i64 T.length) := fun H => by rw [ho.len und_62, List.length_map]
    simp -dsimp (disch := first | omega | (apply DrawYes.mk; decide +kernel)) only [go_sem, h0, h6, holen, j4]
    exact ⟨⟨rfl, rfl⟩, (hE.trans hE2).new.set (hE.trans hE2).le, _, rfl, .inl ⟨rfl, rfl⟩⟩
   ·have j4 : ¬ 400 ≤ (T.length : Int) := by omega
    have holen : ∀ H, lenD cfg.T H 62 (σ 5) = some (.int .i64 T.length) := fun H => by rw [ho.len und_62, List.length_map]
    simp -dsimp (disch := first | omega | (apply DrawYes.mk; decide +kernel)) only [go_sem, h0, h6, holen, j4, Tok.dv]
    have hx3 := ((Ext.refl (H := H2)).new (o := .cells 71 [.int .i64 0, .str [], .int .i64 0])).set (o := .cells 71 [.int .i64 k, .str t, .int .i64 a]) (Nat.le_refl H2.next) |>.new (o := .tip 71 1 true)
    refine appn und_62 size_71 bytes_71 und_62 zero_71 rfl rfl (by decide) ((ho.ext hE2).ext hx3) rfl (by simp only [List.length_map, List.length_cons, List.length_nil]; omega) (by simp only [List.length_map, List.length_cons, List.length_nil]; omega) ?_
    intro v' H4 ho4 hs4
    have hE4 := hs4.extn ((ho.ext hE2).ext hx3) ((hE.trans hE2).trans hx3)
    simp -dsimp (disch := first | omega | (apply DrawYes.mk; decide +kernel)) only [go_sem, h0, h6]
    refine call (rpassed_ok hs (by simp only [List.length_drop] at hn; omega)) ?_
    rintro _ H5 ⟨rfl, j, rfl, haj, hj, hu2, hb2⟩
    simp -dsimp (disch := first | omega | (apply DrawYes.mk; decide +kernel)) only [go_sem, h0, h6]
    refine ⟨(j, T ++ [⟨k, t, a⟩]), ⟨hE4, rfl, by rw [List.map_append]; exact ho4, hj, by simp; omega, ?_, hb2⟩, by simp only; omega⟩
    simp only
    rw [hu2, hu, ← hd, List.drop_drop]
    simp
 ·have i0 : ¬ (a : Int) < s.length := by omega
  have haE : a = s.length := by omega
  have hd : s.drop a = [] := List.drop_eq_nil_of_le (by omega)
  rw [hd, un_nil] at hu
  have hcap : capped [] s.length (un s 0) = (T ++ [⟨0, [], s.length⟩], 0, 0) := by
   rw [hu]; unfold capped; rw [if_neg (by simp; omega)]; simp
  rw [hcap]
  simp -dsimp (disch := first | omega | (apply DrawYes.mk; decide +kernel)) only [go_sem, h0, h6, i0]
  refine appn und_62 size_71 bytes_71 und_62 zero_71 rfl rfl (by decide) (ho.ext Ext.refl.new) rfl (by simp only [List.length_map, List.length_cons, List.length_nil]; omega) (by simp only [List.length_map, List.length_cons, List.length_nil]; omega) ?_
  intro v' H4 ho4 hs4
  simp -dsimp (disch := first | omega | (apply DrawYes.mk; decide +kernel)) only [go_sem]
  exact ⟨hs4.extn (ho.ext Ext.refl.new) hE.new, v', rfl, by rw [List.map_append]; exact ho4.sl (by simp)⟩
end Go.Proofs.YtcknfhhbijlobaaGreatDoor.D
