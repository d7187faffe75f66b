/- D: rules for what looks into values and into the heap. -/
import Derived.Test.YtcknfhhbijlobaaDoorDSym
namespace Go.Proofs.YtcknfhhbijlobaaDoor.D
open Go
set_option linter.unusedVariables false
set_option linter.unusedSimpArgs false

variable {T : Tab} {H : DH} {K : DV → Prop} {b : Later K}
def WN {K : Nat → Prop} (x : Option Nat) (b : Later K) : Prop := match x with | some v => K v | none => False
theorem WN_some {K : Nat → Prop} {b : Later K} {n : Nat} : WN (some n) b = K n := rfl
theorem WN_ifn {c : Prop} [Decidable c] {n : Nat} {K : Nat → Prop} {b : Later K} : WN (if c then some n else none) b = (c ∧ K n) := by
  apply propext; by_cases h : c <;> simp [h, WN]
def WE {K : DV → Prop} (x : Option DV) (b : Later K) : Prop := WD x b
def WBy {K : UInt8 → Prop} (x : Option UInt8) (b : Later K) : Prop := match x with | some v => K v | none => False
theorem WBy_some {K : UInt8 → Prop} {b : Later K} {c : UInt8} : WBy (some c) b = K c := rfl
theorem bound_none {d t : Nat} : boundD none d t = some d := rfl
theorem bound_some {k : IntKind} {i : Int} {d t : Nat} : boundD (some (.int k i)) d t = if 0 ≤ i ∧ i ≤ t then some i.toNat else none := rfl
theorem sl_str {t : TypeId} {s : List UInt8} {lo hi : Option DV} : WD (sliceD T t (.str s) lo hi) b = (T.und t = some .string ∧ WN (boundD hi s.length s.length) (.mk fun h => WN (boundD lo 0 h) (.mk fun l => K (.str ((s.take h).drop l))))) := by
  apply propext
  cases h : T.und t with
  | none => simp [sliceD, h, WD]
  | some d =>
    cases d with
    | string =>
      simp only [sliceD, h]
      cases boundD hi s.length s.length with
      | none => simp [WD, WN]
      | some h => simp only [WN_some]; cases boundD lo 0 h <;> simp [WD, WN]
    | _ => simp [sliceD, h, WD]
theorem sl_sl {t : TypeId} {id sz off : Nat} {es : List DV} {lo hi : Option DV} : WD (sliceD T t (.sl id sz off es) lo hi) b = (∃ e, T.und t = some (.slice e) ∧ T.size e = some sz ∧ WN (boundD hi es.length es.length) (.mk fun h => WN (boundD lo 0 h) (.mk fun l => K (.sl id sz (off + l) ((es.take h).drop l))))) := by
  apply propext
  cases h : T.und t with
  | none => simp [sliceD, h, WD]
  | some d =>
    cases d with
    | slice e =>
      simp only [sliceD, h]
      by_cases hs : T.size e = some sz
      · rw [if_pos hs]
        cases boundD hi es.length es.length with
        | none => simp [WD, WN, hs]
        | some h => simp only [WN_some]; cases boundD lo 0 h <;> simp [WD, WN, hs]
      · rw [if_neg hs]; simp [WD, hs]
    | _ => simp [sliceD, h, WD]
theorem ix_str {t : TypeId} {s : List UInt8} {k : IntKind} {i : Int} : WD (indexD T t (.str s) (.int k i)) b = (T.und t = some .string ∧ 0 ≤ i ∧ WBy s[i.toNat]? (.mk fun c => K (byteDV c))) := by
  apply propext
  cases h : T.und t with
  | none => simp [indexD, h, WD]
  | some d =>
    cases d with
    | string =>
      simp only [indexD, h]
      by_cases hi : 0 ≤ i
      · rw [if_pos hi]
        cases s[i.toNat]? <;> simp [WD, WBy, hi]
      · rw [if_neg hi]; simp [WD, hi]
    | _ => simp [indexD, h, WD]
def WIx {K : DV → Prop} (x : Option DV) (b : Later K) : Prop := match x with | some v => K (.ip v.cells) | none => False
theorem WIx_some {v : DV} : WIx (some v) b = K (.ip v.cells) := rfl
theorem ia_sl {t : TypeId} {id sz off : Nat} {es : List DV} {k : IntKind} {i : Int} : WD (indexAtD T t (.sl id sz off es) (.int k i)) b = (∃ e, T.und t = some (.slice e) ∧ T.size e = some sz ∧ 0 ≤ i ∧ WIx es[i.toNat]? b) := by
  apply propext
  cases h : T.und t with
  | none => simp [indexAtD, h, WD]
  | some d =>
    cases d with
    | slice e =>
      simp only [indexAtD, h]
      by_cases hs : T.size e = some sz ∧ 0 ≤ i
      · rw [if_pos hs]
        cases es[i.toNat]? <;> simp [WD, WIx, hs]
      · rw [if_neg hs]
        simp only [WD, false_iff, not_exists, not_and, Option.some.injEq, TypeDesc.slice.injEq]
        rintro e' rfl h1 h2
        exact absurd ⟨h1, h2⟩ hs
    | _ => simp [indexAtD, h, WD]
def WVa {K : DV → Prop} (d : Option TypeDesc) (n : Option Nat) (cs : Option (List DV)) (b : Later K) : Prop := match d, n, cs with
  | some d, some n, some cs => WD (takeVar (isAggD d) n cs) b
  | _, _, _ => False
theorem WVa_some {d : TypeDesc} {n : Nat} {cs : List DV} : WVa (some d) (some n) (some cs) b = WD (takeVar (isAggD d) n cs) b := rfl
theorem ld {t : TypeId} {a : DV} : WD (loadD T t a H) b = WVa (T.und t) (T.size t) (cellsAt H a) b := by
  unfold loadD WVa
  cases T.und t <;> cases T.size t <;> cases cellsAt H a <;> rfl
def cellsIn (o : Option DObj) (off : Nat) : Option (List DV) := match o with | some (.cells _ cs) => some (cs.drop off) | some (.row _ cs) => some (cs.drop off) | _ => none
theorem cells_ptr {i off : Nat} : cellsAt H (.ptr i off) = cellsIn (H.m i) off := rfl
theorem cells_ip {cs : List DV} : cellsAt H (.ip cs) = some cs := rfl
theorem cellsIn_row {t : TypeId} {cs : List DV} {off : Nat} : cellsIn (some (.row t cs)) off = some (cs.drop off) := rfl
theorem cellsIn_some {t : TypeId} {cs : List DV} {off : Nat} : cellsIn (some (.cells t cs)) off = some (cs.drop off) := rfl
def storeIn (n : Option Nat) (o : Option DObj) (off : Nat) (v : DV) : Option DObj := match n, o with
  | some n, some (.cells ty cs) => if v.cells.length = n ∧ off + n ≤ cs.length ∧ v.cells.all DV.one = true then some (.cells ty (cs.take off ++ v.cells ++ cs.drop (off + n))) else none
  | some n, some (.row ty cs) => if v.cells.length = n ∧ off + n ≤ cs.length ∧ v.cells.all DV.one = true then some (.row ty (cs.take off ++ v.cells ++ cs.drop (off + n))) else none
  | _, _ => none
def WO' {K : DH → Prop} (x : Option DObj) (i : Nat) (H : DH) (b : Later K) : Prop := match x with | some o => K (H.set i o) | none => False
theorem WO'_some {o : DObj} {i : Nat} {K : DH → Prop} {b : Later K} : WO' (some o) i H b = K (H.set i o) := rfl
theorem WO'_ifn {c : Prop} [Decidable c] {o : DObj} {i : Nat} {K : DH → Prop} {b : Later K} : WO' (if c then some o else none) i H b = (c ∧ K (H.set i o)) := by
  apply propext; by_cases h : c <;> simp [h, WO']
theorem st {t : TypeId} {i off : Nat} {v : DV} {K : DH → Prop} {b : Later K} : WH (storeD T t (.ptr i off) v H) b = WO' (storeIn (T.size t) (H.m i) off v) i H b := by
  unfold storeD storeIn
  cases T.size t with
  | none => rfl
  | some n =>
    simp only
    generalize H.m i = o
    cases o with
    | none => rfl
    | some o =>
      cases o with
      | cells ty cs =>
        simp only
        split <;> rfl
      | row ty cs =>
        simp only
        split <;> rfl
      | _ => rfl
def WI {K : DV → DH → Prop} (o : Option DObj) (i : Nat) (H : DH) (b : Later K) : Prop := match o with
  | some (.iter s pos) => WX (if pos < s.length then
        some (.tup [.bool true, .int .i64 pos, .int .i32 (Utf8.decode ⟨s.toArray⟩ pos).1], H.set i (.iter s (pos + (Utf8.decode ⟨s.toArray⟩ pos).2)))
      else some (.tup [.bool false], H)) b
  | _ => False
theorem nx {i : Nat} {K : DV → DH → Prop} {b : Later K} : WX (nextD (.ptr i 0) true H) b = WI (H.m i) i H b := by
  unfold nextD WI
  simp only
  generalize H.m i = o
  cases o with
  | none => rfl
  | some o => cases o <;> rfl
theorem WI_some {s : List UInt8} {pos i : Nat} {K : DV → DH → Prop} {b : Later K} : WI (some (.iter s pos)) i H b = WIf (decide (pos < s.length)) (.mk (K (.tup [.bool true, .int .i64 pos, .int .i32 (Utf8.decode ⟨s.toArray⟩ pos).1]) (H.set i (.iter s (pos + (Utf8.decode ⟨s.toArray⟩ pos).2))), K (.tup [.bool false]) H)) := by
  show WX (if _ then _ else _) b = _
  rw [WX_if]; rfl

/-- A slice that is only appended to, and its elements. 'lo': its block is not older. -/
def IsSl (lo : Nat) (H : DH) (e sz : Nat) (v : DV) (es : List DV) : Prop :=
  (v = .nils ∧ es = []) ∨ ∃ id off k, v = .sl id sz off es ∧ H.m id = some (.tip e k true) ∧ k = off + es.length ∧ lo ≤ id ∧ id < H.next ∧ es ≠ []
/-- Of what was there, nothing has changed but that slice's end. -/
structure Same (v : DV) (H H' : DH) : Prop where
  le : H.next ≤ H'.next
  same : ∀ b, b < H.next → (∀ id sz off es, v = .sl id sz off es → b ≠ id) → H'.m b = H.m b
theorem Same.keep {v : DV} {H H' : DH} {lo e sz : Nat} {es : List DV} {b : Nat} {o : DObj} (h : Same v H H') (hs : IsSl lo H e sz v es) (hb : b < H.next) (ho : H.m b = some o) (hn : ∀ T n c, o ≠ .tip T n c) : H'.m b = some o := by
  rw [h.same b hb, ho]
  rintro id sz' off es' rfl rfl
  rcases hs with ⟨h1, _⟩ | ⟨id', off', k, h1, h2, _⟩
  · cases h1
  · cases h1
    rw [ho] at h2
    cases h2
    exact hn _ _ _ rfl
theorem Same.ext {v : DV} {H0 H H' : DH} {e sz : Nat} {es : List DV} (h : Same v H H') (hs : IsSl H0.next H e sz v es) (x : Ext H0 H) : Ext H0 H' := by
  refine ⟨Nat.le_trans x.le h.le, fun b hb => ?_⟩
  rw [h.same b (Nat.lt_of_lt_of_le hb x.le), x.same b hb]
  rintro id sz' off es' rfl
  rcases hs with ⟨h1, _⟩ | ⟨id', off', k, h1, h2, _, h4, _⟩
  · cases h1
  · cases h1; omega
theorem IsSl.ext {lo : Nat} {H H' : DH} {e sz : Nat} {v : DV} {es : List DV} (h : IsSl lo H e sz v es) (x : Ext H H') : IsSl lo H' e sz v es := by
  rcases h with h | ⟨id, off, k, h1, h2, h3, h4, h5⟩
  · exact .inl h
  · exact .inr ⟨id, off, k, h1, by rw [x.same id h5.1, h2], h3, h4, Nat.lt_of_lt_of_le h5.1 x.le, h5.2⟩
theorem IsSl.low {lo lo' : Nat} {H : DH} {e sz : Nat} {v : DV} {es : List DV} (h : IsSl lo H e sz v es) (x : lo' ≤ lo) : IsSl lo' H e sz v es := by
  rcases h with h | ⟨id, off, k, h1, h2, h3, h4, h5⟩
  · exact .inl h
  · exact .inr ⟨id, off, k, h1, h2, h3, by omega, h5⟩
theorem IsSl.set {lo : Nat} {H : DH} {e sz : Nat} {v : DV} {es : List DV} (h : IsSl lo H e sz v es) {b : Nat} {o o' : DObj} (hb : H.m b = some o) (hn : ∀ T n c, o ≠ .tip T n c) : IsSl lo (H.set b o') e sz v es := by
  rcases h with h | ⟨id, off, k, h1, h2, h3, h4, h5⟩
  · exact .inl h
  · refine .inr ⟨id, off, k, h1, ?_, h3, h4, h5⟩
    rw [set_m, if_neg, h2]
    rintro rfl
    rw [hb] at h2; cases h2; exact hn _ _ _ rfl
theorem IsSl.setc {lo : Nat} {H : DH} {e sz : Nat} {v : DV} {es : List DV} (h : IsSl lo H e sz v es) {b : Nat} {T : TypeId} {cs : List DV} {o' : DObj} (hb : H.m b = some (.cells T cs)) : IsSl lo (H.set b o') e sz v es := h.set hb (by simp)
theorem IsSl.new {lo : Nat} {H : DH} {e sz : Nat} {v : DV} {es : List DV} (h : IsSl lo H e sz v es) {o : DObj} : IsSl lo (H.new o) e sz v es := h.ext Ext.refl.new

theorem IsSl.one {lo : Nat} {H : DH} {e sz : Nat} {v : DV} {es : List DV} (h : IsSl lo H e sz v es) : v.cells = [v] ∧ v.one = true := by
  rcases h with ⟨rfl, _⟩ | ⟨id, off, k, rfl, _⟩ <;> exact ⟨rfl, rfl⟩
theorem IsSl.len {lo : Nat} {H H' : DH} {e sz : Nat} {v : DV} {es : List DV} {T : Tab} {t : TypeId} (h : IsSl lo H e sz v es) (ht : T.und t = some (.slice e)) : lenD T H' t v = some (.int .i64 es.length) := by
  rcases h with ⟨rfl, rfl⟩ | ⟨id, off, k, rfl, _⟩ <;> simp [lenD, ht]
/-- What an append gives. -/
theorem app {lo : Nat} {t u e : TypeId} {n by_ : Nat} {du : TypeDesc} {z : DV} {v x : DV} {es new : List DV} {K : DV → DH → Prop} {b : Later K} (h1 : T.und t = some (.slice e)) (h2 : T.size e = some n) (h3 : T.bytes e = some by_) (h4 : T.und u = some du) (h5 : T.zero e = some z)
    (h6 : srcOk du = true) (h7 : z.cells.length = n) (h8 : 0 < n) (hs : IsSl lo H e n v es) (hx : elemsOf n x = some new) (hlo : lo ≤ H.next) (hb : (es.length + new.length) * by_ ≤ 140737488355328) (hb2 : es.length + new.length < 9223372036854775808)
    (k : ∀ v' H', IsSl lo H' e n v' (es ++ new) → Same v H H' → K v' H') (hwr : T.wr e = false := by rfl) : WX (appendD T t u v x H) b := by
  unfold appendD
  simp only [h1, h2, h3, h4, h5, hx]
  rw [if_pos ⟨h8, h6, h7⟩]
  rcases hs with ⟨rfl, rfl⟩ | ⟨id, off, kk, rfl, g2, g3, g4, g5⟩
  · simp only
    rw [if_pos (by simp only [List.length_nil, Nat.zero_add] at hb hb2; exact ⟨hb, hb2⟩)]
    split
    · rename_i hn
      rw [List.isEmpty_iff] at hn
      subst hn
      exact k _ _ (.inl ⟨rfl, rfl⟩) ⟨Nat.le_refl _, fun _ _ _ => rfl⟩
    · rw [if_neg (by rw [hwr]; simp)]
      refine k _ _ (.inr ⟨H.next, 0, new.length, rfl, ?_, by simp, hlo, Nat.lt_succ_self _, by rename_i hn; simpa [List.isEmpty_iff] using hn⟩) ⟨Nat.le_succ _, fun b hb _ => ?_⟩
      · exact if_pos rfl
      · exact if_neg (by omega)
  · simp only [g2]
    rw [if_pos (by simp only [true_and]; exact ⟨g3, hb, hb2⟩)]
    refine k _ _ (.inr ⟨id, off, kk + new.length, rfl, ?_, by simp; omega, g4, g5.1, by simp [g5.2]⟩) ⟨Nat.le_refl _, fun b hb hne => ?_⟩
    · rw [set_m, if_pos rfl]
    · rw [set_m, if_neg (hne _ _ _ _ rfl)]

/- Rows that may be written. -/
theorem ia_hs {t : TypeId} {id sz off len : Nat} {k : IntKind} {i : Int} : WD (indexAtD T t (.hs id sz off len) (.int k i)) b = (∃ e, T.und t = some (.slice e) ∧ T.size e = some sz ∧ 0 ≤ i ∧ i < len ∧ K (.ptr id (off + i.toNat * sz))) := by
  apply propext
  cases h : T.und t with
  | none => simp [indexAtD, h, WD]
  | some d =>
    cases d with
    | slice e =>
      simp only [indexAtD, h]
      by_cases hs : T.size e = some sz ∧ 0 ≤ i ∧ i < len
      · rw [if_pos hs]; simp [WD, hs]
      · rw [if_neg hs]
        simp only [WD, false_iff, not_exists, not_and, Option.some.injEq, TypeDesc.slice.injEq]
        rintro e' rfl h1 h2 h3
        exact absurd ⟨h1, h2, h3⟩ hs
    | _ => simp [indexAtD, h, WD]
theorem sl_hs {t : TypeId} {id sz off len : Nat} {lo hi : Option DV} : WD (sliceD T t (.hs id sz off len) lo hi) b = (∃ e, T.und t = some (.slice e) ∧ T.size e = some sz ∧ WN (boundD hi len len) (.mk fun h => WN (boundD lo 0 h) (.mk fun l => K (.hs id sz (off + l * sz) (h - l))))) := by
  apply propext
  cases h : T.und t with
  | none => simp [sliceD, h, WD]
  | some d =>
    cases d with
    | slice e =>
      simp only [sliceD, h]
      by_cases hs : T.size e = some sz
      · rw [if_pos hs]
        cases boundD hi len len with
        | none => simp [WD, WN, hs]
        | some h => simp only [WN_some]; cases boundD lo 0 h <;> simp [WD, WN, hs]
      · rw [if_neg hs]; simp [WD, hs]
    | _ => simp [sliceD, h, WD]
theorem ln_hs {t : TypeId} {id sz off len : Nat} : lenD T H t (.hs id sz off len) = match T.und t with | some (.slice _) => some (.int .i64 len) | _ => none := rfl
theorem cl_hs {x y z n : Nat} : (DV.hs x y z n).cells = [.hs x y z n] := rfl
theorem on_hs {x y z n : Nat} : (DV.hs x y z n).one = true := rfl
/-- What an append to a row gives, that may be written: its number is a new one. -/
theorem app_hs {t u e : TypeId} {n by_ : Nat} {du : TypeDesc} {z : DV} {x : DV} {id off len : Nat} {cs new : List DV} {K : DV → DH → Prop} {b : Later K} (h1 : T.und t = some (.slice e)) (h2 : T.size e = some n) (h3 : T.bytes e = some by_) (h4 : T.und u = some du) (h5 : T.zero e = some z)
    (h6 : srcOk du = true) (h7 : z.cells.length = n) (h8 : 0 < n) (hm : H.m id = some (.row e cs)) (hc : off + len * n ≤ cs.length) (hx : elemsOf n x = some new) (hne : new ≠ []) (hb : (len + new.length) * by_ ≤ 140737488355328) (hb2 : len + new.length < 9223372036854775808)
    (k : K (.hs H.next n 0 (len + new.length)) (H.mov id (.row e ((cs.drop off).take (len * n) ++ flat new)))) : WX (appendD T t u (.hs id n off len) x H) b := by
  unfold appendD
  simp only [h1, h2, h3, h4, h5, hx, hm]
  rw [if_pos ⟨h8, h6, h7⟩, if_pos (by simp only [true_and]; exact ⟨hc, hb, hb2, hne⟩)]
  exact k
theorem app_hn {t u e : TypeId} {n by_ : Nat} {du : TypeDesc} {z : DV} {x : DV} {new : List DV} {K : DV → DH → Prop} {b : Later K} (h1 : T.und t = some (.slice e)) (h2 : T.size e = some n) (h3 : T.bytes e = some by_) (h4 : T.und u = some du) (h5 : T.zero e = some z)
    (h6 : srcOk du = true) (h7 : z.cells.length = n) (h8 : 0 < n) (hx : elemsOf n x = some new) (hne : new ≠ []) (hb : new.length * by_ ≤ 140737488355328) (hb2 : new.length < 9223372036854775808)
    (k : K (.hs H.next n 0 new.length) (H.new (.row e (flat new)))) (hwr : T.wr e = true := by rfl) : WX (appendD T t u .nils x H) b := by
  unfold appendD
  simp only [h1, h2, h3, h4, h5, hx]
  rw [if_pos ⟨h8, h6, h7⟩, if_pos ⟨hb, hb2⟩, if_neg (by simpa [List.isEmpty_iff] using hne), if_pos hwr]
  exact k
/-- make. -/
theorem mk_sl {t e : TypeId} {n by_ : Nat} {z : DV} {l c : Int} {K : DV → DH → Prop} {b : Later K} (h1 : T.und t = some (.slice e)) (h2 : T.size e = some n) (h3 : T.bytes e = some by_) (h5 : T.zero e = some z) (h7 : z.cells.length = n) (h8 : 0 < n) (h9 : z.cells.all DV.one = true)
    (hl : 0 ≤ l) (hlc : l ≤ c) (hc : c < 9223372036854775808) (hb : by_ * c ≤ 140737488355328) (k : K (.hs H.next n 0 l.toNat) (H.new (.row e (flat (List.replicate l.toNat z))))) : WX (makeSliceD T t (.int .i64 l) (.int .i64 c) H) b := by
  unfold makeSliceD
  simp only [h1, h2, h3, h5]
  rw [if_pos ⟨hl, hlc, hc, hb, h8, h7, h9⟩]
  exact k

/- By constructor. -/
theorem cl_bool {x : Bool} : (DV.bool x).cells = [.bool x] := rfl
theorem cl_int {k : IntKind} {x : Int} : (DV.int k x).cells = [.int k x] := rfl
theorem cl_flt {k : FloatKind} {x : Nat} : (DV.flt k x).cells = [.flt k x] := rfl
theorem cl_str {x : List UInt8} : (DV.str x).cells = [.str x] := rfl
theorem cl_nilp : (DV.nilp).cells = [.nilp] := rfl
theorem cl_ptr {x y : Nat} : (DV.ptr x y).cells = [.ptr x y] := rfl
theorem cl_ip {x : List DV} : (DV.ip x).cells = [.ip x] := rfl
theorem cl_nils : (DV.nils).cells = [.nils] := rfl
theorem cl_sl {x y z : Nat} {e : List DV} : (DV.sl x y z e).cells = [.sl x y z e] := rfl
theorem cl_nilm : (DV.nilm).cells = [.nilm] := rfl
theorem cl_mp {x : Nat} : (DV.mp x).cells = [.mp x] := rfl
theorem cl_fn {f : Fn} {x y : List DV} : (DV.fn f x y).cells = [.fn f x y] := rfl
theorem cl_nilf : (DV.nilf).cells = [.nilf] := rfl
theorem cl_nili : (DV.nili).cells = [.nili] := rfl
theorem cl_ifc {t : TypeId} {x : DV} : (DV.ifc t x).cells = [.ifc t x] := rfl
theorem cl_agg {x : List DV} : (DV.agg x).cells = x := rfl
theorem on_bool {x : Bool} : (DV.bool x).one = true := rfl
theorem on_int {k : IntKind} {x : Int} : (DV.int k x).one = true := rfl
theorem on_flt {k : FloatKind} {x : Nat} : (DV.flt k x).one = true := rfl
theorem on_str {x : List UInt8} : (DV.str x).one = true := rfl
theorem on_nilp : (DV.nilp).one = true := rfl
theorem on_ptr {x y : Nat} : (DV.ptr x y).one = true := rfl
theorem on_ip {x : List DV} : (DV.ip x).one = true := rfl
theorem on_nils : (DV.nils).one = true := rfl
theorem on_sl {x y z : Nat} {e : List DV} : (DV.sl x y z e).one = true := rfl
theorem on_nilm : (DV.nilm).one = true := rfl
theorem on_mp {x : Nat} : (DV.mp x).one = true := rfl
theorem on_fn {f : Fn} {x y : List DV} : (DV.fn f x y).one = true := rfl
theorem on_nilf : (DV.nilf).one = true := rfl
theorem on_nili : (DV.nili).one = true := rfl
theorem on_ifc {t : TypeId} {x : DV} : (DV.ifc t x).one = true := rfl
theorem on_agg {x : List DV} : (DV.agg x).one = false := rfl
theorem bl_len {t : TypeId} {l : List TypeId} {x : DV} {K : DV → DH → Prop} {b : Later K} : WX (builtinD T .len (t :: l) [x] H) b = WD (lenD T H t x) (.mk fun v => K v H) := by
  simp only [builtinD]; cases lenD T H t x <;> rfl
theorem bl_append {t u : TypeId} {x y : DV} {K : DV → DH → Prop} {b : Later K} : WX (builtinD T .append [t, u] [x, y] H) b = WX (appendD T t u x y H) b := rfl
theorem bl_sd {l : List TypeId} {x : DV} {K : DV → DH → Prop} {b : Later K} : WX (builtinD T .unsafeSliceData l [x] H) b = WD (dataD x) (.mk fun v => K v H) := by
  simp only [builtinD]; cases dataD x <;> rfl
theorem bl_us {t u : TypeId} {x y : DV} {K : DV → DH → Prop} {b : Later K} : WX (builtinD T .unsafeString [t, u] [x, y] H) b = WD (unsafeStrD T H t x y) (.mk fun v => K v H) := by
  simp only [builtinD]; cases unsafeStrD T H t x y <;> rfl
theorem bl_max {l : List TypeId} {x y : DV} {K : DV → DH → Prop} {b : Later K} : WX (builtinD T .max l [x, y] H) b = WD (maxD x y) (.mk fun v => K v H) := by
  simp only [builtinD]; cases maxD x y <;> rfl
theorem bl_min {l : List TypeId} {x y : DV} {K : DV → DH → Prop} {b : Later K} : WX (builtinD T .min l [x, y] H) b = WD (minD x y) (.mk fun v => K v H) := by
  simp only [builtinD]; cases minD x y <;> rfl
theorem ln_str {t : TypeId} {s : List UInt8} : lenD T H t (.str s) = match T.und t with | some .string => some (.int .i64 s.length) | _ => none := rfl
theorem ln_nils {t : TypeId} : lenD T H t .nils = match T.und t with | some (.slice _) => some (.int .i64 0) | _ => none := rfl
theorem ln_sl {t : TypeId} {x y z : Nat} {e : List DV} : lenD T H t (.sl x y z e) = match T.und t with | some (.slice _) => some (.int .i64 e.length) | _ => none := rfl
theorem dt_nils : dataD .nils = some .nilp := rfl
theorem dt_sl {x y z : Nat} {e : List DV} (h : e ≠ []) : dataD (.sl x y z e) = some (.sd x y z e) := by
  simp [dataD, h]
end Go.Proofs.YtcknfhhbijlobaaDoor.D
