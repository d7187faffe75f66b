import Derived.Test.YtcknfhhbijlobaaGreatDoorMG
namespace Go.Proofs.YtcknfhhbijlobaaGreatDoor.D
open Go
set_option linter.unusedVariables false
set_option linter.unusedSimpArgs false
set_option maxRecDepth 100000
def allL (R : List Stm) : List (List Nat) := R.flatMap fun s => [s.l, s.m]
def allF (os : List Fr) : List (List Nat) := os.flatMap fun f => [f.s.l, f.s.m]
def fineS (s : Stm) : Prop := 1 ≤ s.kind ∧ s.kind ≤ 17 ∧ (s.kind ≠ 5 → s.kind ≠ 6 → s.l = []) ∧ (s.kind ≠ 5 → s.m = [])
structure Wi (R : List Stm) (top : List Nat) (os : List Fr) (x : List (List Nat)) : Prop where
 cnt : ∀ n, top.count n + (allL R).flatten.count n + (allF os).flatten.count n + x.flatten.count n = if n < R.length then 1 else 0
 inc : ∀ l ∈ top :: (allL R ++ allF os ++ x), l.Pairwise (· < ·)
 own : ∀ (i : Nat) (s : Stm), R[i]? = some s → ∀ n ∈ s.l ++ s.m, n < i
 fin : ∀ s ∈ R, fineS s
 fr : ∀ f ∈ os, fineS f.s ∧ (f.s.kind = 5 ∨ f.s.kind = 6) ∧ (f.other = true → f.s.kind = 5)
theorem allL_app (R S : List Stm) : allL (R ++ S) = allL R ++ allL S := by simp [allL]
theorem allF_app (R S : List Fr) : allF (R ++ S) = allF R ++ allF S := by simp [allF]
theorem mem_cnt {l : List Nat} {n : Nat} (h : n ∈ l) : 1 ≤ l.count n := List.count_pos_iff.2 h
theorem Wi.lt {R : List Stm} {top : List Nat} {os : List Fr} {x : List (List Nat)} (h : Wi R top os x) {l : List Nat} (hl : l ∈ top :: (allL R ++ allF os ++ x)) {n : Nat} (hn : n ∈ l) : n < R.length := by
 have hc := h.cnt n
 by_cases hlt : n < R.length
 ·exact hlt
 rw [if_neg hlt] at hc
 have hf : ∀ L : List (List Nat), l ∈ L → 1 ≤ L.flatten.count n := fun L hL => mem_cnt (List.mem_flatten.2 ⟨l, hL, hn⟩)
 rcases List.mem_cons.1 hl with rfl | hl
 ·have := mem_cnt hn; omega
 rcases List.mem_append.1 hl with hl | hl
 ·rcases List.mem_append.1 hl with hl | hl
  ·have := hf _ hl; omega
  ·have := hf _ hl; omega
 ·have := hf _ hl; omega
theorem pair_app {l : List Nat} {n : Nat} (h : l.Pairwise (· < ·)) (hl : ∀ m ∈ l, m < n) : (l ++ [n]).Pairwise (· < ·) := by
 rw [List.pairwise_append]
 exact ⟨h, by simp, fun a ha b hb => by simp at hb; subst hb; exact hl a ha⟩
theorem addOs_cnt (n k : Nat) : ∀ os : List Fr, os ≠ [] → (allF (addOs n os)).flatten.count k = (allF os).flatten.count k + if k = n then 1 else 0
 | [], h => absurd rfl h
 | [f], _ => by
  have e : ∀ l : List Nat, (l ++ [n]).count k = l.count k + if k = n then 1 else 0 := by
   intro l
   rw [List.count_append, List.count_singleton]
   by_cases h : k = n
   ·subst h; simp
   ·simp [h, Ne.symm h]
  simp only [addOs]
  split
  ·simp only [allF, List.flatMap_cons, List.flatMap_nil, List.flatten_append, List.flatten_cons, List.flatten_nil, List.count_append, List.append_nil, e, List.count_nil]; omega
  ·simp only [allF, List.flatMap_cons, List.flatMap_nil, List.flatten_append, List.flatten_cons, List.flatten_nil, List.count_append, List.append_nil, e, List.count_nil]; omega
 | f :: g :: r, _ => by
  have ih := addOs_cnt n k (g :: r) (by simp)
  simp only [addOs]
  have e : ∀ (f : Fr) (r : List Fr), allF (f :: r) = [f.s.l, f.s.m] ++ allF r := fun f r => rfl
  rw [e f (addOs n (g :: r)), e f (g :: r), List.flatten_append, List.flatten_append, List.count_append, List.count_append, ih]
  omega
theorem addOs_mem (n : Nat) : ∀ os : List Fr, ∀ l ∈ allF (addOs n os), l ∈ allF os ∨ ∃ l' ∈ allF os, l = l' ++ [n]
 | [], l, h => by simp [addOs] at h; exact .inl h
 | [f], l, h => by
  simp only [addOs] at h
  split at h
  ·simp [allF] at h ⊢; rcases h with rfl | rfl
   ·simp
   ·right; exact .inr rfl
  ·simp [allF] at h ⊢; rcases h with rfl | rfl
   ·right; exact .inl rfl
   ·simp
 | f :: g :: r, l, h => by
  have ih := addOs_mem n (g :: r) l
  have e : ∀ (f : Fr) (r : List Fr), allF (f :: r) = [f.s.l, f.s.m] ++ allF r := fun f r => rfl
  simp only [addOs] at h
  rw [e f (addOs n (g :: r)), List.mem_append] at h
  rw [e f (g :: r)]
  rcases h with h | h
  ·exact .inl (List.mem_append.2 (.inl h))
  ·rcases ih h with h2 | ⟨l', h2, h3⟩
   ·exact .inl (List.mem_append.2 (.inr h2))
   ·exact .inr ⟨l', List.mem_append.2 (.inr h2), h3⟩
def frOk (f : Fr) : Prop := fineS f.s ∧ (f.s.kind = 5 ∨ f.s.kind = 6) ∧ (f.other = true → f.s.kind = 5)
theorem addOs_fr (n : Nat) : ∀ os : List Fr, (∀ f ∈ os, frOk f) → ∀ f ∈ addOs n os, frOk f
 | [], h, f, hf => by simp [addOs] at hf
 | [g], h, f, hf => by
  have hg := h g (by simp)
  simp only [addOs, List.mem_singleton] at hf
  subst hf
  obtain ⟨⟨a, b, c, d⟩, hk, ho⟩ := hg
  split
  ·rename_i hot
   exact ⟨⟨a, b, c, fun h => absurd (ho hot) h⟩, hk, ho⟩
  ·refine ⟨⟨a, b, fun h1 h2 => ?_, d⟩, hk, ho⟩
   rcases hk with h | h
   ·exact absurd h h1
   ·exact absurd h h2
 | g :: g2 :: r, h, f, hf => by
  simp only [addOs, List.mem_cons] at hf
  rcases hf with rfl | hf
  ·exact h f (by simp)
  ·exact addOs_fr n (g2 :: r) (fun x hx => h x (by simp [hx])) f hf
theorem wi_whole {st : PSt} {s : Stm} (h : Wi st.R st.top st.os [s.l, s.m]) (hs : fineS s) : Wi (wholeP st s).R (wholeP st s).top (wholeP st s).os [] := by
 obtain ⟨ts, R, top, os⟩ := st
 unfold wholeP
 simp only at h ⊢
 have e1 : ∀ (l : List Nat) (n : Nat), (l ++ [R.length]).count n = l.count n + if n = R.length then 1 else 0 := by
  intro l n
  rw [List.count_append, List.count_singleton]
  by_cases h : n = R.length
  ·subst h; simp
  ·simp [h, Ne.symm h]
 have el : allL (R ++ [s]) = allL R ++ [s.l, s.m] := by rw [allL_app]; rfl
 have hown : ∀ (i : Nat) (u : Stm), (R ++ [s])[i]? = some u → ∀ n ∈ u.l ++ u.m, n < i := by
  intro i u hu n hn
  by_cases hi : i < R.length
  ·rw [List.getElem?_append_left hi] at hu
   exact h.own i u hu n hn
  ·rw [List.getElem?_append_right (by omega)] at hu
   have : i - R.length = 0 := by
    cases hq : i - R.length with
    | zero => rfl
    | succ q => rw [hq] at hu; simp at hu
   rw [this] at hu
   simp at hu
   subst hu
   have hlt : n < R.length := by
    rcases List.mem_append.1 hn with hn | hn
    ·exact h.lt (l := s.l) (by simp) hn
    ·exact h.lt (l := s.m) (by simp) hn
   omega
 have hfin : ∀ u ∈ R ++ [s], fineS u := by
  intro u hu
  rcases List.mem_append.1 hu with hu | hu
  ·exact h.fin u hu
  ·simp at hu; subst hu; exact hs
 cases os with
 | nil =>
  simp only [List.isEmpty_nil, if_true]
  refine ⟨fun n => ?_, fun l hl => ?_, hown, hfin, fun f hf => by simp [addOs] at hf⟩
  ·have hc := h.cnt n
   rw [e1, el, List.flatten_append, List.count_append]
   simp only [addOs, List.length_append, List.length_cons, List.length_nil, List.flatten_nil, List.count_nil, Nat.zero_add]
   by_cases h1 : n < R.length
   ·rw [if_pos h1] at hc; rw [if_neg (show ¬ n = R.length by omega), if_pos (show n < R.length + 1 by omega)]; omega
   ·rw [if_neg h1] at hc
    by_cases h2 : n = R.length
    ·rw [if_pos h2, if_pos (show n < R.length + 1 by omega)]; omega
    ·rw [if_neg h2, if_neg (show ¬ n < R.length + 1 by omega)]; omega
  ·rw [el] at hl
   simp only [List.mem_cons, List.mem_append, addOs, List.append_nil] at hl
   rcases hl with rfl | hl
   ·exact pair_app (h.inc top (by simp)) fun m hm => h.lt (l := top) (by simp) hm
   ·refine h.inc l ?_
    simp only [List.mem_cons, List.mem_append]
    rcases hl with (hl | hl) | hl
    ·exact .inr (.inl (.inl hl))
    ·rcases hl with hl | hl | hl
     ·exact .inr (.inr (.inl hl))
     ·exact .inr (.inr (.inr (.inl hl)))
     ·cases hl
    ·exact .inr (.inl (.inr hl))
 | cons g r =>
  simp only [List.isEmpty_cons, Bool.false_eq_true, if_false]
  refine ⟨fun n => ?_, fun l hl => ?_, hown, hfin, addOs_fr _ _ h.fr⟩
  ·have hc := h.cnt n
   rw [addOs_cnt _ _ _ (by simp), el, List.flatten_append, List.count_append]
   simp only [List.length_append, List.length_cons, List.length_nil, List.flatten_nil, List.count_nil, Nat.zero_add]
   by_cases h1 : n < R.length
   ·rw [if_pos h1] at hc; rw [if_neg (show ¬ n = R.length by omega), if_pos (show n < R.length + 1 by omega)]; omega
   ·rw [if_neg h1] at hc
    by_cases h2 : n = R.length
    ·rw [if_pos h2, if_pos (show n < R.length + 1 by omega)]; omega
    ·rw [if_neg h2, if_neg (show ¬ n < R.length + 1 by omega)]; omega
  ·rw [el] at hl
   have old : ∀ l, (l = top ∨ (l ∈ allL R ∨ l ∈ allF (g :: r)) ∨ l ∈ [s.l, s.m]) → l ∈ top :: (allL R ++ allF (g :: r) ++ [s.l, s.m]) := by
    intro l hl
    simp only [List.mem_cons (a := l) (b := top), List.mem_append]
    exact hl
   simp only [List.mem_cons (a := l) (b := top), List.mem_append, List.append_nil] at hl
   rcases hl with rfl | (hl | hl) | hl
   ·exact h.inc _ (old _ (.inl rfl))
   ·exact h.inc _ (old _ (.inr (.inl (.inl hl))))
   ·exact h.inc _ (old _ (.inr (.inr hl)))
   ·rcases addOs_mem _ _ _ hl with hl | ⟨l', hl', rfl⟩
    ·exact h.inc _ (old _ (.inr (.inl (.inr hl))))
    ·have hm := old l' (.inr (.inl (.inr hl')))
     exact pair_app (h.inc l' hm) fun m hm' => h.lt hm hm'
theorem wi_fresh {R : List Stm} {top : List Nat} {os : List Fr} (h : Wi R top os []) : Wi R top os [[], []] := by
 refine ⟨fun n => by simpa using h.cnt n, fun l hl => ?_, h.own, h.fin, h.fr⟩
 simp only [List.mem_cons, List.mem_append, List.append_nil] at hl
 rcases hl with rfl | (hl | hl) | hl
 ·exact h.inc _ (by simp)
 ·exact h.inc _ (by simp [hl])
 ·exact h.inc _ (by simp [hl])
 ·rcases hl with rfl | rfl | hl
  ·exact .nil
  ·exact .nil
  ·cases hl
theorem wi_pop {R : List Stm} {top : List Nat} {os : List Fr} {f : Fr} (h : Wi R top (os ++ [f]) []) : Wi R top os [f.s.l, f.s.m] := by
 refine ⟨fun n => ?_, fun l hl => h.inc l ?_, h.own, h.fin, fun g hg => h.fr g (by simp [hg])⟩
 ·have := h.cnt n
  rw [allF_app, List.flatten_append, List.count_append] at this
  have e : allF [f] = [f.s.l, f.s.m] := rfl
  rw [e] at this
  simp only [List.flatten_nil, List.count_nil] at this
  omega
 ·have e : allF [f] = [f.s.l, f.s.m] := rfl
  rw [allF_app, e]
  simp only [List.append_nil, List.append_assoc] at hl ⊢
  exact hl
theorem wi_push {R : List Stm} {top : List Nat} {os : List Fr} {f : Fr} (h : Wi R top os []) (hf : frOk f) (hl : f.s.l = []) (hm : f.s.m = []) : Wi R top (os ++ [f]) [] := by
 have e : allF [f] = [[], []] := by simp [allF, hl, hm]
 refine ⟨fun n => ?_, fun l hl => ?_, h.own, h.fin, fun g hg => ?_⟩
 ·have := h.cnt n
  rw [allF_app, List.flatten_append, List.count_append, e]
  simpa using this
 ·rw [allF_app, e] at hl
  have := (wi_fresh h).inc l
  simp only [List.append_nil, List.append_assoc] at hl this
  exact this hl
 ·rcases List.mem_append.1 hg with hg | hg
  ·exact h.fr g hg
  ·simp at hg; subst hg; exact hf
theorem wi_else {R : List Stm} {top : List Nat} {os : List Fr} {f : Fr} (h : Wi R top (os ++ [f]) []) (hk : f.s.kind = 5) : Wi R top (os ++ [{ f with other := true }]) [] := by
 have e : allF (os ++ [{ f with other := true }]) = allF (os ++ [f]) := by rw [allF_app, allF_app]; rfl
 refine ⟨fun n => by rw [e]; exact h.cnt n, fun l hl => h.inc l (by rw [e] at hl; exact hl), h.own, h.fin, fun g hg => ?_⟩
 rcases List.mem_append.1 hg with hg | hg
 ·exact h.fr g (by simp [hg])
 ·simp at hg; subst hg
  have := h.fr f (by simp)
  exact ⟨this.1, this.2.1, fun _ => hk⟩
theorem wordsP_kind : ∀ (w : List (List UInt8)) (no : Nat) (s : Stm) (to : Nat) (ts : List Tok), match wordsP w no s to ts with | .bad _ _ => True | .whole u t => u.kind = s.kind ∧ u.l = s.l ∧ u.m = s.m | .opens u t => u.kind = s.kind ∧ u.l = s.l ∧ u.m = s.m ∧ [123] ∈ w
 | [], no, s, to, ts => by simp [wordsP]
 | p :: w, no, s, to, [] => by simp [wordsP]
 | p :: w, no, s, to, k :: ts => by
  rw [wordsP]
  by_cases h1 : mustE p no k ≠ 0
  ·rw [if_pos h1]; trivial
  ·rw [if_neg h1]
   by_cases h2 : p = [123]
   ·rw [if_pos h2]; exact ⟨rfl, rfl, rfl, by simp [h2]⟩
   ·rw [if_neg h2]
    have hlm : (putP p to s k.text).kind = s.kind ∧ (putP p to s k.text).l = s.l ∧ (putP p to s k.text).m = s.m := by
     unfold putP
     split
     ·split <;> exact ⟨rfl, rfl, rfl⟩
     ·split <;> exact ⟨rfl, rfl, rfl⟩
    have := wordsP_kind w no (putP p to s k.text) (if isText p then to + 1 else to) ts
    rw [hlm.1, hlm.2.1, hlm.2.2] at this
    generalize wordsP w no (putP p to s k.text) (if isText p then to + 1 else to) ts = W at this
    cases W
    ·trivial
    ·exact this
    ·exact ⟨this.1, this.2.1, this.2.2.1, by simp [this.2.2.2]⟩
theorem parts_open : ∀ kd, kd < 18 → [123] ∈ partsL.getD kd [] → kd = 5 ∨ kd = 6 := by decide
theorem wi_one {st st' : PSt} {k : Tok} {ts : List Tok} (h : Wi st.R st.top st.os []) (ho : oneP st k ts = .inl st') : Wi st'.R st'.top st'.os [] := by
 unfold oneP at ho
 split at ho
 ·cases ho
 ·rename_i kd hk
  have hkd : 1 ≤ kd ∧ kd ≤ 17 := by
   split at hk
   ·have := kindT_lt hk; omega
   ·cases hk
  have hw := wordsP_kind (partsL.getD kd []) st.os.length ⟨kd, [], [], [], 0, k.pos, [], []⟩ (if kd = 2 then 1 else 0) ts
  split at ho
  ·cases ho
  ·rename_i s ts' hx
   rw [hx] at hw
   simp only at hw
   cases ho
   exact wi_whole (st := { st with ts := ts' }) (by rw [hw.2.1, hw.2.2]; exact wi_fresh h) ⟨by omega, by omega, fun _ _ => hw.2.1, fun _ => hw.2.2⟩
  ·rename_i s ts' hx
   rw [hx] at hw
   simp only at hw
   cases ho
   have := parts_open kd (by omega) hw.2.2.2
   exact wi_push h ⟨⟨by show 1 ≤ s.kind; omega, by show s.kind ≤ 17; omega, fun _ _ => hw.2.1, fun _ => hw.2.2.1⟩, by rw [hw.1]; exact this, fun h => by cases h⟩ hw.2.1 hw.2.2.1
theorem wi_close {st st' : PSt} {f : Fr} {ts : List Tok} (h : Wi st.R st.top st.os []) (hl : st.os.getLast? = some f) (ho : closeP st f ts = .inl st') : Wi st'.R st'.top st'.os [] := by
 obtain ⟨ts0, R, top, os⟩ := st
 simp only at h hl
 obtain ⟨os', rfl⟩ : ∃ os', os = os' ++ [f] := List.getLast?_eq_some_iff.1 hl
 have hf := (h.fr f (by simp)).1
 have whole : ∀ ts, Wi (wholeP ⟨ts, R, top, (os' ++ [f]).dropLast⟩ f.s).R (wholeP ⟨ts, R, top, (os' ++ [f]).dropLast⟩ f.s).top (wholeP ⟨ts, R, top, (os' ++ [f]).dropLast⟩ f.s).os [] := by
  intro ts
  rw [List.dropLast_concat]
  exact wi_whole (st := ⟨ts, R, top, os'⟩) (wi_pop h) hf
 unfold closeP at ho
 split at ho
 ·split at ho
  ·rename_i hc
   split at ho
   ·cases ho
   ·cases ho
    simp only [List.dropLast_concat]
    exact wi_else h hc.1
  ·cases ho; exact whole _
 ·cases ho; exact whole _
theorem wi_step {st st' : PSt} (h : Wi st.R st.top st.os []) (hs : stepP st = .inl st') : Wi st'.R st'.top st'.os [] := by
 unfold stepP at hs
 split at hs
 ·cases hs
 ·split at hs
  ·split at hs
   ·cases hs
   ·exact wi_one h hs
  ·rename_i f hf
   split at hs
   ·exact wi_close h hf hs
   ·exact wi_one h hs
theorem closeP_nok {st : PSt} {f : Fr} {ts : List Tok} {R : List Stm} {top : List Nat} : closeP st f ts ≠ .inr (.ok R top) := by
 intro h
 unfold closeP at h
 split at h
 ·split at h
  ·split at h <;> cases h
  ·cases h
 ·cases h
theorem step_ok_end {st : PSt} {R : List Stm} {top : List Nat} (hs : stepP st = .inr (.ok R top)) : st.os = [] ∧ R = st.R ∧ top = st.top := by
 unfold stepP at hs
 split at hs
 ·cases hs
 ·split at hs
  ·rename_i h0
   split at hs
   ·cases hs; exact ⟨by simpa using h0, rfl, rfl⟩
   ·exact absurd hs oneP_nok
  ·split at hs
   ·exact absurd hs closeP_nok
   ·exact absurd hs oneP_nok
theorem wi_go : ∀ (n : Nat) (st : PSt) (R : List Stm) (top : List Nat), Wi st.R st.top st.os [] → goP n st = .ok R top → Wi R top [] []
 | 0, st, R, top, h, hg => by cases hg
 | n + 1, st, R, top, h, hg => by
  rw [goP] at hg
  split at hg
  ·rename_i st' hs
   exact wi_go n st' R top (wi_step h hs) hg
  ·rename_i r hs
   subst hg
   obtain ⟨h1, rfl, rfl⟩ := step_ok_end hs
   rw [← h1]; exact h
theorem wi_nil : Wi [] [] [] [] := ⟨fun n => by simp [allL, allF], fun l hl => by simp [allL, allF] at hl; subst hl; exact .nil, fun i s h => by simp at h, fun s h => by simp at h, fun f h => by simp at h⟩
theorem modeL_in {t : List UInt8} (h : t ∈ modeW) : 1 ≤ modeL t ∧ modeL t ≤ 3 := by
 simp [modeW] at h
 rcases h with rfl | rfl | rfl <;> decide
theorem headP_mode {ts : List Tok} {md : Nat} {ts' : List Tok} (h : headP ts = .inl (md, ts')) : 1 ≤ md ∧ md ≤ 3 := by
 unfold headP at h
 split at h
 ·cases h
 ·split at h
  ·split at h
   ·cases h
   ·split at h
    ·rename_i hm
     split at h
     ·cases h
     ·split at h
      ·cases h; exact modeL_in hm.2
      ·cases h
    ·cases h
  ·cases h
theorem goP_bad : ∀ (n : Nat) (st : PSt) (p e : Nat), StOk st → st.ts.length < n → goP n st = .bad p e → e ≠ 0
 | 0, st, p, e, h, hl, hg => by omega
 | n + 1, st, p, e, h, hl, hg => by
  rw [goP] at hg
  split at hg
  ·rename_i st' hs
   have := stepP_len hs
   exact goP_bad n st' p e (stepP_ok h hs) (by omega) hg
  ·rename_i r hs
   subst hg
   obtain ⟨ts, R, top, os⟩ := st
   have ht := h.tok
   simp only at ht
   unfold stepP at hs
   cases ts with
   | nil => obtain ⟨_, h1, _⟩ := ht.last; simp at h1
   | cons k ts =>
    simp only at hs
    split at hs
    ·split at hs
     ·cases hs
     ·exact oneP_bad ht hs
    ·split at hs
     ·exact closeP_bad hs
     ·exact oneP_bad ht hs
theorem headP_tok {ts : List Tok} {md : Nat} {ts' : List Tok} (ht : TokOk ts) (h : headP ts = .inl (md, ts')) : TokOk ts' := by
 unfold headP at h
 split at h
 ·cases h
 ·rename_i k r
  split at h
  ·rename_i hk
   have ht := ht.tail (by omega)
   split at h
   ·cases h
   ·rename_i k2 r2
    split at h
    ·rename_i hm
     have ht := ht.tail (by omega)
     split at h
     ·cases h
     ·rename_i k3 r3
      split at h
      ·rename_i h3
       cases h; exact ht.tail (by omega)
      ·cases h
    ·cases h
  ·cases h
theorem StOk.start {ts : List Tok} (h : TokOk ts) : StOk ⟨ts, [], [], []⟩ := ⟨h, by have := h.len; simp; omega, by have := h.len; simp; omega, by simp, by simp⟩
theorem parse_within {s : List UInt8} (he : (parseAll s).e = 0) : Wi (parseAll s).R (parseAll s).top [] [] ∧ 1 ≤ (parseAll s).mode ∧ (parseAll s).mode ≤ 3 ∧ (parseAll s).R.length ≤ 100 := by
 unfold parseAll at he ⊢
 split
 ·rename_i h0
  rw [if_pos h0] at he
  have ht := (lex_tok (s := s) (ts := (lexAll s).1) (p := (lexAll s).2.1) (by rw [← h0])).1
  unfold parseTs at he ⊢
  cases hh : headP (lexAll s).1 with
  | inr p => simp only [hh] at he; cases he
  | inl p =>
   obtain ⟨md, ts'⟩ := p
   simp only [hh] at he ⊢
   have hm := headP_mode hh
   have ht' := headP_tok ht hh
   unfold finP at he ⊢
   cases hr : runP ⟨ts', [], [], []⟩ with
   | bad p e =>
    simp only [hr] at he
    exact absurd he (goP_bad _ _ _ _ (StOk.start ht') (Nat.lt_succ_self _) hr)
   | ok R top =>
    simp only [hr] at he ⊢
    split at he
    ·cases he
    ·rename_i h100
     rw [if_neg h100]
     exact ⟨wi_go _ _ _ _ wi_nil hr, hm.1, hm.2, by simp only; omega⟩
 ·rename_i h0
  rw [if_neg h0] at he
  exact absurd he h0
theorem parse_none {s : List UInt8} (he : (parseAll s).e ≠ 0) : (parseAll s).mode = 0 ∧ (parseAll s).R = [] ∧ (parseAll s).top = [] := by
 unfold parseAll at he ⊢
 split
 ·rename_i h0
  rw [if_pos h0] at he
  unfold parseTs at he ⊢
  cases hh : headP (lexAll s).1 with
  | inr p => exact ⟨rfl, rfl, rfl⟩
  | inl p =>
   obtain ⟨md, ts'⟩ := p
   simp only [hh] at he ⊢
   unfold finP at he ⊢
   cases hr : runP ⟨ts', [], [], []⟩ with
   | bad p e => exact ⟨rfl, rfl, rfl⟩
   | ok R top =>
    simp only [hr] at he ⊢
    split
    ·exact ⟨rfl, rfl, rfl⟩
    ·rename_i h100
     rw [if_neg h100] at he
     exact absurd rfl he
 ·exact ⟨rfl, rfl, rfl⟩
end Go.Proofs.YtcknfhhbijlobaaGreatDoor.D
