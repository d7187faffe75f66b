import Derived.Test.YtcknfhhbijlobaaGreatDoorR15a
namespace Go.Proofs.YtcknfhhbijlobaaGreatDoor.D
open Go
set_option linter.unusedVariables false
set_option linter.unusedSimpArgs false
set_option maxRecDepth 100000
theorem rnumber_no {H : DH} : WC cfg 113 [.str [], .int .i64 999999999] H fun v H' => v = .tup [.int .i64 0, .bool false] ∧ H' = H := by
 refine WC_of (show Has cfg 113 44 [.tmp 4, .tmp 5] _ from ⟨by kernel_rfl, Tryz.f113, Tryz.func113, rfl, rfl, rfl, by kernel_rfl⟩) (by simp) ?_
 simp -dsimp (disch := first | omega | (apply DrawYes.mk; decide +kernel)) only [go_sem]
theorem numD_take {s : List UInt8} {i : Nat} {c : UInt8} (h : s[i]? = some c) : numD (s.take (i + 1)) = numD (s.take i) * 10 + (c.toNat - 48) := by
 unfold numD
 rw [List.take_add_one, h, Option.toList_some, List.foldl_append]
 rfl
theorem numD_bound {s : List UInt8} (hd : ∀ b ∈ s, isDig b) (h9 : s.length ≤ 9) : numD s < 1000000000 := by
 have := numD_lt s 0 hd
 unfold numD
 have h2 : 10 ^ s.length ≤ 10 ^ 9 := Nat.pow_le_pow_right (by decide) h9
 omega
theorem rnumber_ok {s : List UInt8} {H : DH} (hd : ∀ b ∈ s, isDig b) (h0 : 0 < s.length) (h9 : s.length ≤ 9) : WC cfg 113 [.str s, .int .i64 999999999] H fun v H' => v = .tup [.int .i64 (numD s), .bool true] ∧ H' = H := by
 refine WC_of (show Has cfg 113 44 [.tmp 4, .tmp 5] _ from ⟨by kernel_rfl, Tryz.f113, Tryz.func113, rfl, rfl, rfl, by kernel_rfl⟩) (by simp) ?_
 have i0 : ¬ (s.length : Int) < 1 := by omega
 have i1 : ¬ (9 : Int) < s.length := by omega
 simp -dsimp (disch := first | omega | (apply DrawYes.mk; decide +kernel)) only [go_sem, i0, i1]
 refine Y_loop (α := Nat) (fun k σ H' => H' = H ∧ k ≤ s.length ∧ σ 0 = .str s ∧ σ 1 = .int .i64 999999999 ∧ σ 6 = .int .i64 (numD (s.take k)) ∧ σ 7 = .int .i64 k) (fun k => s.length - k) 0 ?_ ?_
 ·simp -dsimp (disch := first | omega | (apply DrawYes.mk; decide +kernel)) only [go_sem]
  simp [numD]
 rintro k σ H1 ⟨rfl, hk, s0, s1, s6, s7⟩
 by_cases hlt : k < s.length
 ·have j0 : (k : Int) < s.length := by omega
  have hg : s[k]? = some s[k] := List.getElem?_eq_getElem hlt
  have hdig := hd s[k] (List.getElem_mem hlt)
  generalize s[k] = c at hg hdig
  unfold isDig at hdig
  have hnt := numD_take hg
  have hbd := numD_bound (s := s.take (k + 1)) (fun b hb => hd b (List.mem_of_mem_take hb)) (by rw [List.length_take]; omega)
  have hbd0 := numD_bound (s := s.take k) (fun b hb => hd b (List.mem_of_mem_take hb)) (by rw [List.length_take]; omega)
  have j1 : ¬ (c.toNat : Int) < 48 := by omega
  have j2 : ¬ (57 : Int) < c.toNat := by omega
  simp -dsimp (disch := first | omega | (apply DrawYes.mk; decide +kernel)) only [go_sem, s0, s1, s6, s7, j0, hg, j1, j2]
  repeat refine And.intro (by omega) ?_
  refine ⟨k + 1, ⟨by omega, ?_, rfl⟩, by omega⟩
  rw [hnt]
  congr 1
  omega
 ·have j0 : ¬ (k : Int) < s.length := by omega
  have hks : k = s.length := by omega
  subst hks
  rw [List.take_length] at s6
  have hbd := numD_bound hd h9
  have j3 : ¬ (999999999 : Int) < numD s := by omega
  simp -dsimp (disch := first | omega | (apply DrawYes.mk; decide +kernel)) only [go_sem, s0, s1, s6, s7, j0, j3]
theorem IsSn.frm {lo : Nat} {H H' : DH} {e sz p : Nat} {v : DV} {es : List DV} {T : TypeId} {cs : List DV} (h : IsSn lo H e sz v es) (x : Frm [p] H H') (hm : H.m p = some (.cells T cs)) : IsSn lo H' e sz v es := by
 obtain ⟨id, off, k, h1, h2, h3, h4, h5⟩ := h
 refine ⟨id, off, k, h1, ?_, h3, h4, Nat.lt_of_lt_of_le h5 x.le⟩
 rw [x.same id h5 (fun hc => ?_)]
 ·exact h2
 ·simp at hc; subst hc; rw [hm] at h2; cases h2
theorem Same.frmn {S : List Nat} {v : DV} {H0 H H' : DH} {e sz : Nat} {es : List DV} (h : Same v H H') (hs : IsSn H0.next H e sz v es) (x : Frm S H0 H) : Frm S H0 H' := by
 refine ⟨Nat.le_trans x.le h.le, fun b hb hbs => ?_⟩
 rw [h.same b (Nat.lt_of_lt_of_le hb x.le), x.same b hb hbs]
 rintro id sz' off es' rfl
 obtain ⟨id', off', k, h1, h2, _, h4, _⟩ := hs
 cases h1; omega
theorem Same.keepn {v : DV} {H H' : DH} {lo e sz b : Nat} {es : List DV} {T : TypeId} {cs : List DV} (h : Same v H H') (hs : IsSn lo H e sz v es) (hb : b < H.next) (hm : H.m b = some (.cells T cs)) : H'.m b = some (.cells T cs) := by
 rw [h.same b hb, hm]
 rintro id sz' off es' rfl
 obtain ⟨id', off', k, h1, h2, _, h4, _⟩ := hs
 cases h1
 rintro rfl
 rw [hm] at h2; cases h2
def to0 (kd : Nat) : Nat := if kd = 2 then 1 else 0
def Wos (kd : Nat) (all : List Tok) (i fr : Nat) (rest : List (List UInt8)) (ws : List (List UInt8)) (n i' e' fr' : Nat) : Prop :=
 (e' = 0 ∧ fr' = fr ∧ TokOk (all.drop i') ∧ ∀ deep pos, wordsP (partsL.getD kd []) deep (stW kd pos [] 0) (to0 kd) (all.drop i) = wordsP rest deep (stW kd pos ws n) (to0 kd + ws.length) (all.drop i')) ∨
 (e' ≠ 0 ∧ i' < all.length ∧ ∀ deep pos, wordsP (partsL.getD kd []) deep (stW kd pos [] 0) (to0 kd) (all.drop i) = .bad fr' e')
theorem TokOk.at {all : List Tok} {i : Nat} (h : TokOk (all.drop i)) : ∃ k, all[i]? = some k ∧ all.drop i = k :: all.drop (i + 1) ∧ i < all.length := by
 obtain ⟨k, r, hk⟩ := h.ne
 have hi : i < all.length := by
  rcases Nat.lt_or_ge i all.length with h | h
  ·exact h
  ·rw [List.drop_eq_nil_of_le h] at hk; cases hk
 exact ⟨all[i], List.getElem?_eq_getElem hi, List.drop_eq_getElem_cons hi, hi⟩
theorem Wos.tok {kd : Nat} {all : List Tok} {i fr n i' e' fr' : Nat} {rest ws : List (List UInt8)} (h : Wos kd all i fr rest ws n i' e' fr') : ∃ k, all[i']? = some k ∧ i' < all.length := by
 rcases h with ⟨_, _, h, _⟩ | ⟨_, h, _⟩
 ·obtain ⟨k, h1, _, h2⟩ := h.at
  exact ⟨k, h1, h2⟩
 ·exact ⟨_, List.getElem?_eq_getElem h, h⟩
theorem Wos.err {kd : Nat} {all : List Tok} {i fr n i' e' fr' : Nat} {rest ws : List (List UInt8)} (h : Wos kd all i fr rest ws n i' e' fr') (he : e' ≠ 0) (rest' ws' : List (List UInt8)) (n' : Nat) : Wos kd all i fr rest' ws' n' i' e' fr' := by
 rcases h with ⟨h, _⟩ | h
 ·exact absurd h he
 ·exact .inr h
theorem Wos.bad {kd : Nat} {all : List Tok} {i fr n i' fr' : Nat} {p : List UInt8} {rest ws : List (List UInt8)} {k : Tok} (h : Wos kd all i fr (p :: rest) ws n i' 0 fr') (hk : all[i']? = some k) (hm : ∀ deep, mustE p deep k = 20) (rest' ws' : List (List UInt8)) (n' : Nat) : Wos kd all i fr rest' ws' n' i' 20 k.pos := by
 rcases h with ⟨_, _, ht, h⟩ | ⟨h, _⟩
 ·obtain ⟨k2, h1, h2, h3⟩ := ht.at
  rw [hk] at h1; cases h1
  refine .inr ⟨by decide, h3, fun deep pos => ?_⟩
  rw [h deep pos, h2, wordsP, if_pos (by rw [hm]; decide), hm]
 ·exact absurd rfl h
theorem Wos.next {kd : Nat} {all : List Tok} {i fr n n' i' fr' : Nat} {p : List UInt8} {rest ws ws' : List (List UInt8)} {k : Tok} (h : Wos kd all i fr (p :: rest) ws n i' 0 fr') (hk : all[i']? = some k) (hm : ∀ deep, mustE p deep k = 0) (hp : p ≠ [123])
  (hput : ∀ pos, putP p (to0 kd + ws.length) (stW kd pos ws n) k.text = stW kd pos ws' n') (hto : (if isText p then to0 kd + ws.length + 1 else to0 kd + ws.length) = to0 kd + ws'.length) : Wos kd all i fr rest ws' n' (i' + 1) 0 fr' := by
 rcases h with ⟨_, hfr, ht, h⟩ | ⟨h, _⟩
 ·obtain ⟨k2, h1, h2, h3⟩ := ht.at
  rw [hk] at h1; cases h1
  rw [h2] at ht
  refine .inl ⟨rfl, hfr, ht.tail (mustE_kind (hm 0)), fun deep pos => ?_⟩
  rw [h deep pos, h2, wordsP, if_neg (by rw [hm]; decide), if_neg hp, hput, hto]
 ·exact absurd rfl h
theorem Wos.text {kd : Nat} {all : List Tok} {i fr n i' fr' : Nat} {p : List UInt8} {rest ws : List (List UInt8)} {k : Tok} (h : Wos kd all i fr (p :: rest) ws n i' 0 fr') (hk : all[i']? = some k) (hm : ∀ deep, mustE p deep k = 0) (hp : p ≠ [123]) (hx : isText p) (hl : ws.length + to0 kd ≤ 2) :
  Wos kd all i fr rest (ws ++ [k.text]) n (i' + 1) 0 fr' :=
 h.next hk hm hp (fun pos => stW_text hx hl) (by rw [if_pos hx, List.length_append]; rfl)
theorem Wos.int {kd : Nat} {all : List Tok} {i fr n i' fr' : Nat} {rest ws : List (List UInt8)} {k : Tok} (h : Wos kd all i fr ([105] :: rest) ws n i' 0 fr') (hk : all[i']? = some k) (hm : ∀ deep, mustE [105] deep k = 0) :
  Wos kd all i fr rest ws (numD k.text) (i' + 1) 0 fr' :=
 h.next hk hm (by decide) (fun pos => stW_int) (by rw [if_neg (by decide)])
theorem Wos.sign {kd : Nat} {all : List Tok} {i fr n i' fr' : Nat} {p : List UInt8} {rest ws : List (List UInt8)} {k : Tok} (h : Wos kd all i fr (p :: rest) ws n i' 0 fr') (hk : all[i']? = some k) (hm : ∀ deep, mustE p deep k = 0) (hp : p ≠ [123]) (hx : ¬ isText p) (hi : p ≠ [105]) :
  Wos kd all i fr rest ws n (i' + 1) 0 fr' :=
 h.next hk hm hp (fun pos => stW_none hx hi) (by rw [if_neg hx])
theorem Wos.tg {kd : Nat} {all : List Tok} {i fr n i' fr' : Nat} {rest ws : List (List UInt8)} {k : Tok} (h : Wos kd all i fr rest ws n i' 0 fr') (hk : all[i']? = some k) (h2 : k.kind = 2) : (∀ b ∈ k.text, isDig b) ∧ 0 < k.text.length ∧ k.text.length ≤ 9 := by
 rcases h with ⟨_, _, ht, _⟩ | ⟨h, _⟩
 ·obtain ⟨k2, h1, h3, _⟩ := ht.at
  rw [hk] at h1; cases h1
  exact ht.ints k (by rw [h3]; simp) h2
 ·exact absurd rfl h
end Go.Proofs.YtcknfhhbijlobaaGreatDoor.D
