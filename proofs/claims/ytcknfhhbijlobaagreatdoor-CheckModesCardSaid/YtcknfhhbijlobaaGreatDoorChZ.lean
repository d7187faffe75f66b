import Derived.Test.YtcknfhhbijlobaaGreatDoorChS
/- CheckModes. -/
namespace Go.Proofs.YtcknfhhbijlobaaGreatDoor.D
open Go
set_option linter.unusedVariables false
set_option linter.unusedSimpArgs false
set_option maxRecDepth 100000

def codeM (m : Nat) : List UInt8 := [[34, 50, 34], [34, 43, 34], [34, 50, 34]].getD m []
def stmsM (c : List UInt8) : List (List UInt8) := [[108, 101, 116, 32, 97, 32, 61, 32, 34, 120, 34, 59], [103, 114, 101, 101, 116, 32] ++ c ++ [59], [115, 101, 110, 100, 32, 34, 120, 34, 32] ++ c ++ [59], [99, 97, 112, 115, 32, 34, 120, 34, 32] ++ c ++ [59], [105, 102, 32, 99, 97, 112, 32, 34, 120, 34, 32, 123, 125], [105, 102, 32, 99, 111, 100, 101, 32] ++ c ++ [32, 123, 125], [116, 105, 109, 101, 111, 117, 116, 32, 49, 59], [108, 97, 98, 101, 108, 32, 108, 59], [111, 110, 32, 122, 59], [103, 111, 116, 111, 32, 122, 59], [112, 114, 105, 110, 116, 32, 34, 120, 34, 59], [115, 116, 111, 112, 59], [112, 105, 112, 101, 32, 49, 32, 123, 125], [97, 117, 116, 104, 32, 112, 108, 97, 105, 110, 32, 34, 97, 34, 32, 34, 98, 34, 59], [97, 117, 116, 104, 32, 97, 112, 111, 112, 32, 34, 97, 34, 32, 34, 98, 34, 59], [100, 97, 116, 97, 32, 34, 120, 34, 32] ++ c ++ [59], [98, 111, 100, 121, 32, 98, 32, 34, 120, 34, 32] ++ c ++ [59], [103, 101, 116, 32, 98, 32, 34, 120, 34, 59], [112, 117, 116, 32, 34, 120, 34, 32, 34, 121, 34, 59]]
def stmM (c : List UInt8) (k : Nat) : List UInt8 := (stmsM c).getD k []
def ownsM : List Nat := [7, 7, 7, 7, 7, 7, 7, 7, 7, 7, 7, 7, 3, 3, 2, 1, 2, 4, 4]
def modeM (m : Nat) : List UInt8 := [[115, 109, 116, 112], [112, 111, 112, 51], [102, 116, 112]].getD m []
def beginM (m : Nat) : Nat := [18, 18, 17].getD m 0
def srcM (m k : Nat) : List UInt8 := [109, 111, 100, 101, 32] ++ modeM m ++ [59, 108, 97, 98, 101, 108, 32, 122, 59] ++ stmM (codeM m) k
def ownM (m k : Nat) : Bool := (ownsM.getD k 0).testBit m
def modF (m k : Nat) : Bool :=
  let r := checkS (srcM m k)
  if ownM m k then Nat.beq r.e 0 && Nat.beq r.at_ 0 else Nat.beq r.e 30 && Nat.beq r.at_ (beginM m)
theorem mod_all : ((List.range 3).all fun m => (List.range 19).all fun k => modF m k) = true := by kernel_rfl
theorem mod_tab {m k : Nat} (hm : m < 3) (hk : k < 19) : modF m k = true :=
  List.all_eq_true.1 (List.all_eq_true.1 mod_all m (List.mem_range.2 hm)) k (List.mem_range.2 hk)
theorem src_len : ((List.range 3).all fun m => (List.range 19).all fun k => Nat.blt (srcM m k).length 1000) = true := by kernel_rfl
theorem stm_at {c : List UInt8} {k : Nat} (hk : k < 19) : ((stmsM c).map DV.str)[k]? = some (.str (stmM c k)) := by
  have h : k < (stmsM c).length := hk
  rw [List.getElem?_map, List.getElem?_eq_getElem h, stmM, List.getD, List.getElem?_eq_getElem h]; rfl
theorem own_at {k : Nat} (hk : k < 19) : (ownsM.map intV)[k]? = some (.int .i64 (ownsM.getD k 0)) := by
  have h : k < ownsM.length := hk
  rw [List.getElem?_map, List.getElem?_eq_getElem h, List.getD, List.getElem?_eq_getElem h]; rfl
theorem three_at {f : Nat → List UInt8} {m : Nat} (hm : m < 3) : ([.str (f 0), .str (f 1), .str (f 2)] : List DV)[m]? = some (.str (f m)) := by
  match m, hm with
  | 0, _ => rfl
  | 1, _ => rfl
  | 2, _ => rfl
theorem begin_at {m : Nat} (hm : m < 3) : ([.int .i64 18, .int .i64 18, .int .i64 17] : List DV)[m]? = some (.int .i64 (beginM m)) := by
  match m, hm with
  | 0, _ => rfl
  | 1, _ => rfl
  | 2, _ => rfl
def shiftM (m k : Nat) : Int := IntKind.i64.wrap ((BitVec.ofInt IntKind.i64.bits (((ownsM.getD k 0 : Nat) : Int).fdiv (2 ^ min m 64)) &&& BitVec.ofInt IntKind.i64.bits 1).toNat : Int)
theorem shift_all : ((List.range 3).all fun m => (List.range 19).all fun k => decide (shiftM m k = if ownM m k then 1 else 0)) = true := by decide +kernel
theorem shift_tab {m k : Nat} (hm : m < 3) (hk : k < 19) : shiftM m k = if ownM m k then 1 else 0 :=
  of_decide_eq_true (List.all_eq_true.1 (List.all_eq_true.1 shift_all m (List.mem_range.2 hm)) k (List.mem_range.2 hk))
theorem checkModes_ok {a b : UInt8} {H : DH} : WC cfg 6 [byteDV a, byteDV b] H fun v H' => v = .bool true := by
  refine WC_of (show Has cfg 6 95 [.tmp 4] _ from ⟨by kernel_rfl, Tryz.f6, Tryz.func6, rfl, rfl, rfl, by kernel_rfl⟩) (by simp) ?_
  have ha := a.toNat_lt
  have hb := b.toNat_lt
  simp -dsimp (disch := first | omega | (refine DrawYes.mk ?_; decide +kernel) | fail) only [go_sem]
  refine call chshown_ok ?_
  rintro _ H1 ⟨rfl, hE⟩
  have hm : (a.toNat : Int).tmod 3 = ((a.toNat % 3 : Nat) : Int) := by rw [Int.tmod_eq_emod_of_nonneg (by omega)]; omega
  have hk : (b.toNat : Int).tmod 19 = ((b.toNat % 19 : Nat) : Int) := by rw [Int.tmod_eq_emod_of_nonneg (by omega)]; omega
  have hm2 : a.toNat % 3 < 3 := Nat.mod_lt _ (by decide)
  have hk2 : b.toNat % 19 < 19 := Nat.mod_lt _ (by decide)
  generalize a.toNat % 3 = m at hm hm2
  generalize b.toNat % 19 = k at hk hk2
  have t1 : ([.str [34, 50, 34], .str [34, 43, 34], .str [34, 50, 34]] : List DV)[m]? = some (.str (codeM m)) := three_at (f := codeM) hm2
  have hcl : (codeM m).length ≤ 3 := by
    have : ∀ m, m < 3 → (codeM m).length ≤ 3 := by decide
    exact this m hm2
  have hml : (modeM m).length ≤ 4 := by
    have : ∀ m, m < 3 → (modeM m).length ≤ 4 := by decide
    exact this m hm2
  simp -dsimp (disch := first | omega | (refine DrawYes.mk ?_; decide +kernel) | fail) only [go_sem, hm, hk, t1]
  refine And.intro (by omega) ?_
  repeat refine And.intro (by omega) ?_
  refine forget (P := fun σ => Y cfg _ σ _ _ _ _ _ _) (fun σ => σ 5 = .bool true ∧ σ 6 = .int .i64 m ∧ σ 8 = .sl (H1.next + 1) 1 0 ((stmsM (codeM m)).map .str) ∧ σ 9 = .sl (H1.next + 1 + 1) 1 0 (ownsM.map intV) ∧ σ 10 = .int .i64 k) ⟨rfl, rfl, rfl, rfl, rfl⟩ ?_
  rintro σ ⟨s5, s6, s8, s9, s10⟩
  have t2 := stm_at (c := codeM m) hk2
  have t3 := own_at hk2
  have hsl : (stmM (codeM m) k).length ≤ 1000 := by
    have h1 := List.all_eq_true.1 (List.all_eq_true.1 src_len m (List.mem_range.2 hm2)) k (List.mem_range.2 hk2)
    rw [Nat.blt_eq] at h1
    unfold srcM at h1
    simp only [List.length_append] at h1
    omega
  have t4 : ([.str [115, 109, 116, 112], .str [112, 111, 112, 51], .str [102, 116, 112]] : List DV)[m]? = some (.str (modeM m)) := three_at (f := modeM) hm2
  refine Y_early 16 [(9, 0, 0)] (by decide +kernel) ?_
  simp -dsimp (disch := first | omega | (refine DrawYes.mk ?_; decide +kernel) | fail) only [go_sem, s5, s6, s8, s10, t2, t4]
  refine And.intro (by omega) (And.intro (by omega) (And.intro (by omega) (And.intro (by omega) (And.intro (by simp only [List.length_append, List.length_cons, List.length_nil]; omega) ?_))))
  refine call (csource_ok (s := srcM m k) (by unfold srcM; simp only [List.length_append, List.length_cons, List.length_nil]; omega)) ?_
  rintro _ H2 ⟨hE2, sa, ta, rfl, hP⟩
  have hT := mod_tab hm2 hk2
  unfold modF at hT
  generalize checkS (srcM m k) = r at *
  obtain ⟨a1, a2, a3⟩ := hP.two
  have t5 := begin_at hm2
  have hS := shift_tab hm2 hk2
  unfold shiftM at hS
  cases hown : ownM m k with
  | true =>
    rw [hown] at hS hT
    simp only [if_true, Bool.and_eq_true, Nat.beq_eq] at hT hS
    obtain ⟨e1, e2⟩ := hT
    have j1 : ((r.e : Int) == 0) = true := by simp; omega
    have j2 : ((r.at_ : Int) == 0) = true := by simp; omega
    simp -dsimp (disch := first | omega | (refine DrawYes.mk ?_; decide +kernel) | fail) only [go_sem, s5, s6, s8, s9, s10, a1, a2, t5, t3, hS, j1, j2]
    omega
  | false =>
    rw [hown] at hS hT
    simp only [Bool.false_eq_true, if_false, Bool.and_eq_true, Nat.beq_eq] at hT hS
    obtain ⟨e1, e2⟩ := hT
    have j1 : ((r.e : Int) == 30) = true := by simp; omega
    have j2 : ((r.at_ : Int) == beginM m) = true := by simp; omega
    simp -dsimp (disch := first | omega | (refine DrawYes.mk ?_; decide +kernel) | fail) only [go_sem, s5, s6, s8, s9, s10, a1, a2, t5, t3, hS, j1, j2]
    omega
end Go.Proofs.YtcknfhhbijlobaaGreatDoor.D
