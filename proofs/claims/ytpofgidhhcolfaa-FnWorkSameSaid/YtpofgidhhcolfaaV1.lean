/- Contracts of the laws' own helpers over Ver: toVer, toVerS, szVer, szVerS, eqVer, eqVerS. -/
import Derived.Test.YtpofgidhhcolfaaRows
import Derived.Test.YtpofgidhhcolfaaK2
import Derived.Test.YtpofgidhhcolfaaK3
namespace Go.Proofs.Ytpofgidhhcolfaa
open Go.RowKit

abbrev Ver := ByteArray × Int × Int × Int
def encVer (x : Ver) : List Value := [.string x.1, .int .i64 x.2.1, .int .i64 x.2.2.1, .int .i64 x.2.2.2]
theorem encVer_len (x : Ver) : (encVer x).length = 4 := rfl
def VerWf (x : Ver) : Prop := x.1.size ≤ maxLen
def VerSWf (l : List Ver) : Prop := ∀ x : Ver, x ∈ l → VerWf x
theorem VerSWf.at_ {l : List Ver} (h : VerSWf l) {k : Nat} {x : Ver} (hk : l[k]? = some x) : VerWf x := h x (List.mem_of_getElem? hk)
theorem atVer {w : World} {B n b off k : Nat} {l : List Ver} (h : Sl encVer w B (some ⟨b, off, none⟩) n l) (hk : k < n) :
    ∃ f0 f1 f2 f3, l[k]? = some (f0, f1, f2, f3) ∧ w.cell? ⟨b, off + k * 4, none⟩ = some (.string f0) ∧ w.cell? ⟨b, off + k * 4 + 1, none⟩ = some (.int .i64 f1) ∧ w.cell? ⟨b, off + k * 4 + 2, none⟩ = some (.int .i64 f2) ∧ w.cell? ⟨b, off + k * 4 + 3, none⟩ = some (.int .i64 f3) := by
  obtain ⟨⟨f0, f1, f2, f3⟩, h1, h2⟩ := h.at_ encVer_len hk
  exact ⟨f0, f1, f2, f3, h1, h2 0 _ rfl, h2 1 _ rfl, h2 2 _ rfl, h2 3 _ rfl⟩
theorem info77 : (Try.prog.info? 77).map (fun i => (i.zero, i.size, i.bytes)) = some (some (.agg #[.string ByteArray.empty, .int .i64 0, .int .i64 0, .int .i64 0]), 4, 40) := by kernel_rfl
def zeroVer : Ver := (ByteArray.empty, 0, 0, 0)
def madeVerS (n : Nat) : Array Value := madeCells (Value.agg #[.string ByteArray.empty, .int .i64 0, .int .i64 0, .int .i64 0]).cells (n * 4)
theorem madeVerS_eq (n : Nat) : (madeVerS n).toList = cellsOf encVer (List.replicate n zeroVer) := madeCells_eq encVer_len (by omega) zeroVer _ rfl n
theorem make77 (n c : Nat) (hnc : n ≤ c) (h : c ≤ 1048577) (W : World) : (Instr.makeSlice 37 (.int .i64 (n : Int)) (.int .i64 (c : Int))).run Try.prog W = .ok (.slice (some ⟨W.heap.size, 0, none⟩) n c) (W.alloc (.cells (madeVerS c) 77)) := by
  obtain ⟨i0, hi, hz0, hz1, hz2⟩ := info_parts info77
  have := run_make_rowN (P := Try.prog) 37 77 i0 _ Try.underlying37 hi hz0 .i64 .i64 n c hnc (by rw [hz2]; omega) (by omega) W
  rw [hz1] at this
  exact this

set_option maxHeartbeats 400000 in
theorem toVer (f0 : ByteArray) (f1 : Int) (f2 : Int) (f3 : Int) (w : World) :
    Calls Try.prog 128 #[.agg #[.string f0, .int .i64 f1, .int .i64 f2, .int .i64 f3]] w fun e w' => e = .returned (.agg #[.string f0, .int .i64 f1, .int .i64 f2, .int .i64 f3]) ∧ Below w.heap.size w w' := by
  go_enter Try.func128, Try.ntmps128
  go_wp2
  exact bodyPost_ret (v := .agg #[.string f0, .int .i64 f1, .int .i64 f2, .int .i64 f3]) (by simp [results, Try.results128, go_sem]) rfl ⟨rfl, bel_alloc (bel_alloc (bel_alloc (Below.refl _ _) _) _) _⟩

theorem ownVer {w : World} {base g n c k : Nat} {l : List Ver} {e : TypeId} {f0 : ByteArray} {f1 : Int} {f2 : Int} {f3 : Int} (h : Own encVer 4 e w base (.slice (some ⟨g, 0, none⟩) n c) l) (hx : l[k]? = some (f0, f1, f2, f3)) :
    w.cell? ⟨g, k * 4, none⟩ = some (.string f0) ∧ w.cell? ⟨g, k * 4 + 1, none⟩ = some (.int .i64 f1) ∧ w.cell? ⟨g, k * 4 + 2, none⟩ = some (.int .i64 f2) ∧ w.cell? ⟨g, k * 4 + 3, none⟩ = some (.int .i64 f3) ∧ w.frozen? ⟨g, k * 4, none⟩ = false ∧ w.frozen? ⟨g, k * 4 + 1, none⟩ = false ∧ w.frozen? ⟨g, k * 4 + 2, none⟩ = false ∧ w.frozen? ⟨g, k * 4 + 3, none⟩ = false :=
  ⟨h.cellAt (j := 0) encVer_len hx rfl, h.cellAt (j := 1) encVer_len hx rfl, h.cellAt (j := 2) encVer_len hx rfl, h.cellAt (j := 3) encVer_len hx rfl, h.free _, h.free _, h.free _, h.free _⟩
theorem setVer {w : World} {base g n c : Nat} {l : List Ver} {e : TypeId} (h : Own encVer 4 e w base (.slice (some ⟨g, 0, none⟩) n c) l) (k : Nat) {f0 : ByteArray} {f1 : Int} {f2 : Int} {f3 : Int} {x : Ver} (hx : l[k]? = some x) :
    Own encVer 4 e ((((w.setCell ⟨g, k * 4, none⟩ (.string f0)).setCell ⟨g, k * 4 + 1, none⟩ (.int .i64 f1)).setCell ⟨g, k * 4 + 2, none⟩ (.int .i64 f2)).setCell ⟨g, k * 4 + 3, none⟩ (.int .i64 f3)) base (.slice (some ⟨g, 0, none⟩) n c) (l.set k (f0, f1, f2, f3)) := by
  obtain ⟨g0, g1, g2, g3⟩ := x
  have hk : k < l.length := (List.getElem?_eq_some_iff.1 hx).1
  have q0 := h.set1 encVer_len k 0 (g0, g1, g2, g3) (f0, g1, g2, g3) (.string f0) hx (by omega) rfl
  have x0 : (l.set k (f0, g1, g2, g3))[k]? = some (f0, g1, g2, g3) := by rw [List.getElem?_set, if_pos rfl, if_pos hk]
  have q1 := q0.set1 encVer_len k 1 (f0, g1, g2, g3) (f0, f1, g2, g3) (.int .i64 f1) x0 (by omega) rfl
  rw [List.set_set] at q1
  have x1 : (l.set k (f0, f1, g2, g3))[k]? = some (f0, f1, g2, g3) := by rw [List.getElem?_set, if_pos rfl, if_pos hk]
  have q2 := q1.set1 encVer_len k 2 (f0, f1, g2, g3) (f0, f1, f2, g3) (.int .i64 f2) x1 (by omega) rfl
  rw [List.set_set] at q2
  have x2 : (l.set k (f0, f1, f2, g3))[k]? = some (f0, f1, f2, g3) := by rw [List.getElem?_set, if_pos rfl, if_pos hk]
  have q3 := q2.set1 encVer_len k 3 (f0, f1, f2, g3) (f0, f1, f2, f3) (.int .i64 f3) x2 (by omega) rfl
  rw [List.set_set] at q3
  have x3 : (l.set k (f0, f1, f2, f3))[k]? = some (f0, f1, f2, f3) := by rw [List.getElem?_set, if_pos rfl, if_pos hk]
  exact q3
def ToVerSPost (w : World) (n : Nat) (l : List Ver) (e : Ending) (w' : World) : Prop :=
  ∃ v, e = .returned (.slice (some ⟨v, 0, none⟩) n n) ∧ Own encVer 4 77 w' w.heap.size (.slice (some ⟨v, 0, none⟩) n n) l ∧ Below w.heap.size w w'
set_option maxHeartbeats 1000000 in
theorem toVerS (A : Option Addr) (n c : Nat) (l : List Ver) (w : World) (hr : Sl encVer w w.heap.size A n l) (hn : n ≤ 1048576) :
    Calls Try.prog 75 #[.slice A n c] w (ToVerSPost w n l) := by
  have HL := Lib.hid hr.len
  have hmk := make77 n n (Nat.le_refl _) (by omega)
  have h0 : Own encVer 4 77 (w.alloc (.cells (madeVerS n) 77)) w.heap.size (.slice (some ⟨w.heap.size, 0, none⟩) n n) (List.replicate n zeroVer) := by
    have := Own.made (enc := encVer) (sz := 4) (e := 77) (base := w.heap.size) (l := List.replicate n zeroVer) w (madeVerS n) (Nat.le_refl _) (by simp [maxLen]; omega) encVer_len (madeVerS_eq n)
    simpa using this
  have H0 := Lib.hid h0
  clear h0
  have hn' : (n : Int) ≤ 1000000000 := by omega
  have HN := Lib.hid hn
  clear hn
  go_enter Try.func75, Try.ntmps75
  go_wp2
  go_loopw [4] (fun i wr => ∃ k : Nat, k ≤ n ∧ i = .int .i64 k ∧ Own encVer 4 77 wr w.heap.size (.slice (some ⟨w.heap.size, 0, none⟩) n n) (l.take k ++ List.replicate (n - k) zeroVer) ∧ Below w.heap.size w wr) (fun i _ => n - (intOf i).toNat)
  case atStart => exact ⟨0, by omega, rfl, by simpa using H0.out, bel_alloc (Below.refl _ _) _⟩
  case round =>
    obtain ⟨k, hkn, rfl, hown, hbel⟩ := hrel
    by_cases hlt : k < n
    · obtain ⟨b, off, rfl, hb⟩ := hr.spot (by omega)
      obtain ⟨f0, f1, f2, f3, hrow, hc0, hc1, hc2, hc3⟩ := atVer (hr.keep hbel) hlt
      have HR := Lib.hid hrow
      clear hrow
      have i0 : (0 : Int) ≤ (k : Int) := by omega
      have i1 : (k : Int) < (n : Int) := by omega
      go_wp2_with (go_at_call 128; refine (toVer _ _ _ _ _).mono ?_; rintro e W ⟨rfl, hbW⟩; have hownW := hown.on hbW; obtain ⟨p0, p1, p2, p3, p4, p5, p6, p7⟩ := ownVer hownW (fill_get l zeroVer n k HL.out hlt))
      go_roundw
      case rel => exact ⟨k + 1, by omega, by go_num, by rw [← fill_set l zeroVer (f0, f1, f2, f3) n k HL.out HR.out]; exact setVer hownW k (fill_get l zeroVer n k HL.out hlt), bel_set (bel_set (bel_set (bel_set (bel_trans hbel hbW) (Nat.le_refl _) _) (Nat.le_refl _) _) (Nat.le_refl _) _) (Nat.le_refl _) _⟩
      case measure => simp [intOf]; omega
    · go_wp2
      go_ret
      rw [fill_all l zeroVer n k HL.out (by omega)] at hown
      exact ⟨_, rfl, hown, hbel⟩

/-! ### sizes -/
def SzVerPost (w : World) (n : Nat) (left : Int) (e : Ending) (w' : World) : Prop :=
  ∃ v : Int, e = .returned (.int .i64 v) ∧ -1 ≤ v ∧ v ≤ left ∧ (0 ≤ v → (n : Int) ≤ left) ∧ Below w.heap.size w w'
set_option maxHeartbeats 400000 in
theorem szVer (f0 : ByteArray) (f1 : Int) (f2 : Int) (f3 : Int) (left : Int) (w : World) (h : VerWf (f0, f1, f2, f3)) (h1 : 0 ≤ left) (h2 : left ≤ 1048576) :
    Calls Try.prog 127 #[.agg #[.string f0, .int .i64 f1, .int .i64 f2, .int .i64 f3], .int .i64 left] w (SzVerPost w 0 left) := by
  unfold VerWf maxLen at h
  simp only at h
  go_enter Try.func127, Try.ntmps127
  go_wp2
  all_goals
    go_ret
    exact ⟨_, rfl, by omega, by omega, by omega, bel_alloc (Below.refl _ _) _⟩
set_option maxHeartbeats 1000000 in
theorem szVerS (A : Option Addr) (n c : Nat) (l : List Ver) (left : Int) (w : World) (hr : Sl encVer w w.heap.size A n l) (hk : VerSWf l) (hn : n ≤ maxLen) (h1 : 0 ≤ left) (h2 : left ≤ 1048576) :
    Calls Try.prog 74 #[.slice A n c, .int .i64 left] w (SzVerPost w n left) := by
  unfold maxLen at hn
  by_cases hbig : left < (n : Int)
  · go_enter Try.func74, Try.ntmps74
    go_wp2
    go_ret
    exact ⟨_, rfl, by omega, by omega, by omega, Below.refl _ _⟩
  · have hn2 : (n : Int) ≤ left := by omega
    go_enter Try.func74, Try.ntmps74
    go_wp2
    go_loopw [1, 5] (fun x i wr => ∃ (k : Nat) (v : Int), k ≤ n ∧ i = .int .i64 k ∧ x = .int .i64 v ∧ 0 ≤ v ∧ v ≤ left ∧ Below w.heap.size w wr) (fun _ i _ => n - (intOf i).toNat)
    case atStart => exact ⟨0, left - n, by omega, rfl, rfl, by omega, by omega, Below.refl _ _⟩
    case round =>
      obtain ⟨k, v, hkn, rfl, rfl, hv0, hv1, hbel⟩ := hrel
      by_cases hlt : k < n
      · obtain ⟨b, off, rfl, hb⟩ := hr.spot (by omega)
        obtain ⟨f0, f1, f2, f3, hrow, hc0, hc1, hc2, hc3⟩ := atVer (hr.keep hbel) hlt
        have hks := hk.at_ hrow
        clear hrow
        have i0 : (0 : Int) ≤ (k : Int) := by omega
        have i1 : (k : Int) < (n : Int) := by omega
        go_wp2_with (go_at_call 127; refine (szVer _ _ _ _ _ _ hks (by omega) (by omega)).mono ?_; rintro e W ⟨v2, rfl, hv2, hv3, -, hbW⟩)
        · go_ret
          exact ⟨_, rfl, by omega, by omega, by omega, bel_trans hbel hbW⟩
        · go_roundw
          case rel => exact ⟨k + 1, v2, by omega, by go_num, rfl, by omega, by omega, bel_trans hbel hbW⟩
          case measure => simp [intOf]; omega
      · go_wp2
        go_ret
        exact ⟨_, rfl, by omega, by omega, by omega, hbel⟩

/-! ### equality -/
theorem ba_eqVer {a b : ByteArray} (h : a.toList = b.toList) : a = b := by
  rw [ByteArray.toList_eq, ByteArray.toList_eq] at h
  exact ByteArray.ext (Array.toList_inj.1 h)
def eqVerB (a b : Ver) : Bool := ((a.1.toList == b.1.toList) && ((a.2.1 == b.2.1) && ((a.2.2.1 == b.2.2.1) && (a.2.2.2 == b.2.2.2))))
theorem eqVerB_iff {a b : Ver} : eqVerB a b = true ↔ a = b := by
  obtain ⟨f0, f1, f2, f3⟩ := a
  obtain ⟨g0, g1, g2, g3⟩ := b
  simp only [eqVerB, Bool.and_eq_true, beq_iff_eq, Prod.mk.injEq]
  constructor
  · rintro ⟨h0, h1, h2, h3⟩; exact ⟨ba_eqVer h0, h1, h2, h3⟩
  · rintro ⟨rfl, rfl, rfl, rfl⟩; exact ⟨rfl, rfl, rfl, rfl⟩
set_option maxHeartbeats 1000000 in
theorem eqVer (f0 : ByteArray) (f1 : Int) (f2 : Int) (f3 : Int) (g0 : ByteArray) (g1 : Int) (g2 : Int) (g3 : Int) (w : World) :
    Calls Try.prog 129 #[.agg #[.string f0, .int .i64 f1, .int .i64 f2, .int .i64 f3], .agg #[.string g0, .int .i64 g1, .int .i64 g2, .int .i64 g3]] w fun e w' => e = .returned (.bool (eqVerB (f0, f1, f2, f3) (g0, g1, g2, g3))) ∧ (w.alloc (.cells #[.string f0, .int .i64 f1, .int .i64 f2, .int .i64 f3] 77)).alloc (.cells #[.string g0, .int .i64 g1, .int .i64 g2, .int .i64 g3] 77) = w' := by
  cases h0 : (f0.toList == g0.toList) <;> cases h1 : (f1 == g1) <;> cases h2 : (f2 == g2) <;> cases h3 : (f3 == g3)
  all_goals
    have hf : eqVerB (f0, f1, f2, f3) (g0, g1, g2, g3) = ((f0.toList == g0.toList) && ((f1 == g1) && ((f2 == g2) && (f3 == g3)))) := rfl
    rw [h0, h1, h2, h3] at hf
    have HF := Lib.hid hf
    clear hf
    have d1 : (f1 != g1) = !(f1 == g1) := rfl
    rw [h1] at d1
    simp only [Bool.not_true, Bool.not_false] at d1
    have d2 : (f2 != g2) = !(f2 == g2) := rfl
    rw [h2] at d2
    simp only [Bool.not_true, Bool.not_false] at d2
    have d3 : (f3 != g3) = !(f3 == g3) := rfl
    rw [h3] at d3
    simp only [Bool.not_true, Bool.not_false] at d3
    go_enter Try.func129, Try.ntmps129
    go_wp2
    go_ret
    exact ⟨retBool HF.out.symm, rfl⟩

def verSEq (l m : List Ver) : Bool := decide (l = m)
theorem verSEq_self (l : List Ver) : verSEq l l = true := by simp [verSEq]
theorem verSEq_len {l m : List Ver} (h : l.length ≠ m.length) : verSEq l m = false := by
  simp only [verSEq, decide_eq_false_iff_not]; intro e; exact h (by rw [e])
theorem verSEq_at {l m : List Ver} {k : Nat} {x y : Ver} (hx : l[k]? = some x) (hy : m[k]? = some y) (h : eqVerB x y = false) : verSEq l m = false := by
  simp only [verSEq, decide_eq_false_iff_not]
  rintro rfl
  rw [hx] at hy; cases hy
  have := (eqVerB_iff (a := x) (b := x)).2 rfl
  rw [h] at this; cases this
def EqToVer (l m : List Ver) (k : Nat) : Prop := ∀ i : Nat, i < k → l[i]? = m[i]?
theorem EqToVer.zero (l m : List Ver) : EqToVer l m 0 := fun _ h => absurd h (by omega)
theorem EqToVer.step {l m : List Ver} {k : Nat} {x y : Ver} (h : EqToVer l m k) (hx : l[k]? = some x) (hy : m[k]? = some y) (he : eqVerB x y = true) : EqToVer l m (k + 1) := by
  intro i hi
  by_cases hik : i < k
  · exact h i hik
  · obtain rfl : i = k := by omega
    rw [hx, hy, eqVerB_iff.1 he]
theorem EqToVer.all {l m : List Ver} {k : Nat} (h : EqToVer l m k) (hl : l.length ≤ k) (hm : m.length ≤ k) : verSEq l m = true := by
  simp only [verSEq, decide_eq_true_eq]
  apply List.ext_getElem?
  intro i
  by_cases hi : i < k
  · exact h i hi
  · rw [List.getElem?_eq_none (by omega), List.getElem?_eq_none (by omega)]
set_option maxHeartbeats 2000000 in
theorem eqVerS (A B : Option Addr) (n m c d : Nat) (l p : List Ver) (w : World) (hr : Sl encVer w w.heap.size A n l) (hs : Sl encVer w w.heap.size B m p) (hn : n ≤ 1048576) :
    Calls Try.prog 77 #[.slice A n c, .slice B m d] w fun e w' => e = .returned (.bool (verSEq l p)) ∧ Below w.heap.size w w' := by
  have HL := Lib.hid hr.len
  have HP := Lib.hid hs.len
  by_cases hnm : n = m
  · subst hnm
    have hne : ((n : Int) != (n : Int)) = false := by simp
    go_enter Try.func77, Try.ntmps77
    go_wp2
    go_loopw [5] (fun i wr => ∃ k : Nat, k ≤ n ∧ i = .int .i64 k ∧ EqToVer l p k ∧ Below w.heap.size w wr) (fun i _ => n - (intOf i).toNat)
    case atStart => exact ⟨0, by omega, rfl, EqToVer.zero l p, Below.refl _ _⟩
    case round =>
      obtain ⟨k, hkn, rfl, heq, hbel⟩ := hrel
      by_cases hlt : k < n
      · obtain ⟨b, off, rfl, hb⟩ := hr.spot (by omega)
        obtain ⟨b2, off2, rfl, hb2⟩ := hs.spot (by omega)
        obtain ⟨f0, f1, f2, f3, hrow, ha0, ha1, ha2, ha3⟩ := atVer (hr.keep hbel) hlt
        obtain ⟨g0, g1, g2, g3, hrow2, hb0, hb1, hbz2, hb3⟩ := atVer (hs.keep hbel) hlt
        have HR := Lib.hid hrow
        have HR2 := Lib.hid hrow2
        clear hrow hrow2
        have i0 : (0 : Int) ≤ (k : Int) := by omega
        have i1 : (k : Int) < (n : Int) := by omega
        have na0 := World.new_ne wr _ ha0
        have na1 := World.new_ne wr _ ha1
        have na2 := World.new_ne wr _ ha2
        have na3 := World.new_ne wr _ ha3
        have nb0 := World.new_ne wr _ hb0
        have nb1 := World.new_ne wr _ hb1
        have nb2 := World.new_ne wr _ hbz2
        have nb3 := World.new_ne wr _ hb3
        cases he : eqVerB (f0, f1, f2, f3) (g0, g1, g2, g3)
        all_goals
          have c1 := fun W => eqVer f0 f1 f2 f3 g0 g1 g2 g3 W
          rw [he] at c1
          have C1 := Lib.hid c1
          have HE := Lib.hid he
          clear c1 he
          go_wp2_with fail
          go_region_held3 (fun w' => w'.cell? ⟨b, off + k * 4, none⟩ = some (.string f0) ∧ w'.cell? ⟨b, off + k * 4 + 1, none⟩ = some (.int .i64 f1) ∧ w'.cell? ⟨b, off + k * 4 + 2, none⟩ = some (.int .i64 f2) ∧ w'.cell? ⟨b, off + k * 4 + 3, none⟩ = some (.int .i64 f3) ∧ w'.cell? ⟨b2, off2 + k * 4, none⟩ = some (.string g0) ∧ w'.cell? ⟨b2, off2 + k * 4 + 1, none⟩ = some (.int .i64 g1) ∧ w'.cell? ⟨b2, off2 + k * 4 + 2, none⟩ = some (.int .i64 g2) ∧ w'.cell? ⟨b2, off2 + k * 4 + 3, none⟩ = some (.int .i64 g3))
            (go_keep)
            (first | (go_at_call 129; refine (C1.out _).mono ?_; rintro e w' ⟨rfl, rfl⟩))
          go_wp2
        · go_ret
          exact ⟨retBool (verSEq_at HR.out HR2.out HE.out).symm, (bel_alloc (bel_alloc hbel _) _).drew⟩
        · go_roundw
          case rel => exact ⟨k + 1, by omega, by go_num, heq.step HR.out HR2.out HE.out, (bel_alloc (bel_alloc hbel _) _).drew⟩
          case measure => simp [intOf]; omega
      · go_wp2
        go_ret
        exact ⟨retBool (heq.all (by rw [HL.out]; omega) (by rw [HP.out]; omega)).symm, hbel⟩
  · have hf : verSEq l p = false := verSEq_len (by rw [HL.out, HP.out]; exact hnm)
    have HF := Lib.hid hf
    clear hf
    have hne : ((n : Int) != (m : Int)) = true := by simp; omega
    clear hnm
    go_enter Try.func77, Try.ntmps77
    go_wp2
    go_ret
    exact ⟨retBool HF.out.symm, Below.refl _ _⟩
end Go.Proofs.Ytpofgidhhcolfaa
