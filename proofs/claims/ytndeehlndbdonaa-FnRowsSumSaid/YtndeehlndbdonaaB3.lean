/- Contracts of the laws' own helpers over rows: szRowS, toRowS, eqRowS. -/
import Derived.Test.YtndeehlndbdonaaB2
namespace Go.Proofs.Ytndeehlndbdonaa
open Go.RowKit

theorem info46 : (Try.prog.info? 46).map (fun i => (i.zero, i.size, i.bytes)) = some (some (.agg #[.string ByteArray.empty, .int .i64 0]), 2, 24) := by kernel_rfl
def zrow : Row := (ByteArray.empty, 0)
def madeRows (n : Nat) : Array Value := madeCells (Value.agg #[.string ByteArray.empty, .int .i64 0]).cells (n * 2)
theorem madeRows_eq (n : Nat) : (madeRows n).toList = cellsOf encRow (List.replicate n zrow) := madeCells_eq encRow_len (by omega) zrow _ rfl n
theorem make46 (n c : Nat) (hnc : n ≤ c) (h : c ≤ 1048577) (W : World) : (Instr.makeSlice 26 (.int .i64 (n : Int)) (.int .i64 (c : Int))).run Try.prog W = .ok (.slice (some ⟨W.heap.size, 0, none⟩) n c) (W.alloc (.cells (madeRows c) 46)) := by
  obtain ⟨i0, hi, hz0, hz1, hz2⟩ := info_parts info46
  have := run_make_rowN (P := Try.prog) 26 46 i0 _ Try.underlying26 hi hz0 .i64 .i64 n c hnc (by rw [hz2]; omega) (by omega) W
  rw [hz1] at this
  exact this

set_option maxHeartbeats 400000 in
theorem toRow (key : ByteArray) (num : Int) (w : World) :
    Calls Try.prog 55 #[.agg #[.string key, .int .i64 num]] w fun e w' => e = .returned (.agg #[.string key, .int .i64 num]) ∧ Below w.heap.size w w' := by
  go_enter Try.func55, Try.ntmps55
  go_wp2
  exact bodyPost_ret (v := .agg #[.string key, .int .i64 num]) (by simp [results, Try.results55, go_sem]) rfl ⟨rfl, bel_alloc (bel_alloc (bel_alloc (Below.refl _ _) _) _) _⟩

theorem ownRow {w : World} {base g n c k : Nat} {l : List Row} {e : TypeId} {key : ByteArray} {num : Int} (h : Own encRow 2 e w base (.slice (some ⟨g, 0, none⟩) n c) l) (hx : l[k]? = some (key, num)) :
    w.cell? ⟨g, k * 2, none⟩ = some (.string key) ∧ w.cell? ⟨g, k * 2 + 1, none⟩ = some (.int .i64 num) ∧ w.frozen? ⟨g, k * 2, none⟩ = false ∧ w.frozen? ⟨g, k * 2 + 1, none⟩ = false :=
  ⟨h.cellAt (j := 0) encRow_len hx rfl, h.cellAt (j := 1) encRow_len hx rfl, h.free _, h.free _⟩
def ToRowSPost (w : World) (n : Nat) (l : List Row) (e : Ending) (w' : World) : Prop :=
  ∃ v, e = .returned (.slice (some ⟨v, 0, none⟩) n n) ∧ Own encRow 2 46 w' w.heap.size (.slice (some ⟨v, 0, none⟩) n n) l ∧ Below w.heap.size w w'
set_option maxHeartbeats 1000000 in
theorem toRowS (A : Option Addr) (n c : Nat) (l : List Row) (w : World) (hr : Sl encRow w w.heap.size A n l) (hn : n ≤ 1048576) :
    Calls Try.prog 25 #[.slice A n c] w (ToRowSPost w n l) := by
  have HL := Lib.hid hr.len
  have hmk := make46 n n (Nat.le_refl _) (by omega)
  have h0 : Own encRow 2 46 (w.alloc (.cells (madeRows n) 46)) w.heap.size (.slice (some ⟨w.heap.size, 0, none⟩) n n) (List.replicate n zrow) := by
    have := Own.made (enc := encRow) (sz := 2) (e := 46) (base := w.heap.size) (l := List.replicate n zrow) w (madeRows n) (Nat.le_refl _) (by simp [maxLen]; omega) encRow_len (madeRows_eq n)
    simpa using this
  have H0 := Lib.hid h0
  clear h0
  have hn' : (n : Int) ≤ 1000000000 := by omega
  have HN := Lib.hid hn
  clear hn
  go_enter Try.func25, Try.ntmps25
  go_wp2
  go_loopw [4] (fun i wr => ∃ k : Nat, k ≤ n ∧ i = .int .i64 k ∧ Own encRow 2 46 wr w.heap.size (.slice (some ⟨w.heap.size, 0, none⟩) n n) (l.take k ++ List.replicate (n - k) zrow) ∧ Below w.heap.size w wr) (fun i _ => n - (intOf i).toNat)
  case atStart => exact ⟨0, by omega, rfl, by simpa using H0.out, bel_alloc (Below.refl _ _) _⟩
  case round =>
    obtain ⟨k, hkn, rfl, hown, hbel⟩ := hrel
    by_cases hlt : k < n
    · obtain ⟨b, off, rfl, hb⟩ := hr.spot (by omega)
      obtain ⟨key, num, hrow, hk1, hk2⟩ := rowAt (hr.keep hbel) hlt
      have HR := Lib.hid hrow
      clear hrow
      have i0 : (0 : Int) ≤ (k : Int) := by omega
      have i1 : (k : Int) < (n : Int) := by omega
      go_wp2_with (go_at_call 55; refine (toRow _ _ _).mono ?_; rintro e W ⟨rfl, hbW⟩; have hownW := hown.on hbW; obtain ⟨f1, f2, f3, f4⟩ := ownRow hownW (fill_get l zrow n k HL.out hlt))
      go_roundw
      case rel => exact ⟨k + 1, by omega, by go_num, by rw [← fill_set l zrow (key, num) n k HL.out HR.out]; exact hownW.set2 encRow_len k (key, num) _ _ rfl hlt, bel_set (bel_set (bel_trans hbel hbW) (Nat.le_refl _) _) (Nat.le_refl _) _⟩
      case measure => simp [intOf]; omega
    · go_wp2
      go_ret
      rw [fill_all l zrow n k HL.out (by omega)] at hown
      exact ⟨_, rfl, hown, hbel⟩

/-! ### sizes -/
def SzPost (w : World) (n : Nat) (left : Int) (e : Ending) (w' : World) : Prop :=
  ∃ v : Int, e = .returned (.int .i64 v) ∧ -1 ≤ v ∧ v ≤ left ∧ (0 ≤ v → (n : Int) ≤ left) ∧ Below w.heap.size w w'
set_option maxHeartbeats 400000 in
theorem szRow (key : ByteArray) (num left : Int) (w : World) (h : key.size ≤ maxLen) (h1 : 0 ≤ left) (h2 : left ≤ 1048576) :
    Calls Try.prog 53 #[.agg #[.string key, .int .i64 num], .int .i64 left] w (SzPost w 0 left) := by
  unfold maxLen at h
  go_enter Try.func53, Try.ntmps53
  go_wp2
  all_goals
    go_ret
    exact ⟨_, rfl, by omega, by omega, by omega, bel_alloc (Below.refl _ _) _⟩
set_option maxHeartbeats 1000000 in
theorem szRowS (A : Option Addr) (n c : Nat) (l : List Row) (left : Int) (w : World) (hr : Sl encRow w w.heap.size A n l) (hk : KeysWf l) (hn : n ≤ maxLen) (h1 : 0 ≤ left) (h2 : left ≤ 1048576) :
    Calls Try.prog 23 #[.slice A n c, .int .i64 left] w (SzPost w n left) := by
  unfold maxLen at hn
  by_cases hbig : left < (n : Int)
  · go_enter Try.func23, Try.ntmps23
    go_wp2
    go_ret
    exact ⟨_, rfl, by omega, by omega, by omega, Below.refl _ _⟩
  · have hn2 : (n : Int) ≤ left := by omega
    go_enter Try.func23, Try.ntmps23
    go_wp2
    go_loopw [1, 5] (fun x i wr => ∃ (k : Nat) (v : Int), k ≤ n ∧ i = .int .i64 k ∧ x = .int .i64 v ∧ 0 ≤ v ∧ v ≤ left ∧ Below w.heap.size w wr) (fun _ i _ => n - (intOf i).toNat)
    case atStart => exact ⟨0, left - n, by omega, rfl, rfl, by omega, by omega, Below.refl _ _⟩
    case round =>
      obtain ⟨k, v, hkn, rfl, rfl, hv0, hv1, hbel⟩ := hrel
      by_cases hlt : k < n
      · obtain ⟨b, off, rfl, hb⟩ := hr.spot (by omega)
        obtain ⟨key, num, hrow, hk1, hk2⟩ := rowAt (hr.keep hbel) hlt
        have hks := hk.at_ hrow
        clear hrow
        have i0 : (0 : Int) ≤ (k : Int) := by omega
        have i1 : (k : Int) < (n : Int) := by omega
        go_wp2_with (go_at_call 53; refine (szRow _ _ _ _ hks (by omega) (by omega)).mono ?_; rintro e W ⟨v2, rfl, hv2, hv3, -, hbW⟩)
        · go_ret
          exact ⟨_, rfl, by omega, by omega, by omega, bel_trans hbel hbW⟩
        · go_roundw
          case rel => exact ⟨k + 1, v2, by omega, by go_num, rfl, by omega, by omega, bel_trans hbel hbW⟩
          case measure => simp [intOf]; omega
      · go_wp2
        go_ret
        exact ⟨_, rfl, by omega, by omega, by omega, hbel⟩

/-! ### equality -/
theorem ba_eq {a b : ByteArray} (h : a.toList = b.toList) : a = b := by
  rw [ByteArray.toList_eq, ByteArray.toList_eq] at h
  exact ByteArray.ext (Array.toList_inj.1 h)
def eqR (a b : Row) : Bool := (a.1.toList == b.1.toList) && (a.2 == b.2)
theorem eqR_iff {a b : Row} : eqR a b = true ↔ a = b := by
  unfold eqR
  rw [Bool.and_eq_true, beq_iff_eq, beq_iff_eq]
  constructor
  · rintro ⟨h1, h2⟩; exact Prod.ext (ba_eq h1) h2
  · rintro rfl; exact ⟨rfl, rfl⟩
set_option maxHeartbeats 400000 in
theorem eqRow (k1 k2 : ByteArray) (n1 n2 : Int) (w : World) :
    Calls Try.prog 59 #[.agg #[.string k1, .int .i64 n1], .agg #[.string k2, .int .i64 n2]] w fun e w' => e = .returned (.bool (eqR (k1, n1) (k2, n2))) ∧ (w.alloc (.cells #[.string k1, .int .i64 n1] 46)).alloc (.cells #[.string k2, .int .i64 n2] 46) = w' := by
  cases h1 : (k1.toList == k2.toList)
  · have hf : eqR (k1, n1) (k2, n2) = false := by simp only [eqR, h1]; rfl
    have HF := Lib.hid hf
    clear hf
    go_enter Try.func59, Try.ntmps59
    go_wp2
    go_ret
    exact ⟨ret_bool HF.out.symm, rfl⟩
  · cases h2 : (n1 == n2)
    all_goals
      have hf : eqR (k1, n1) (k2, n2) = (n1 == n2) := by simp only [eqR, h1]; rfl
      rw [h2] at hf
      have HF := Lib.hid hf
      clear hf
      have h3 : (n1 != n2) = !(n1 == n2) := rfl
      rw [h2] at h3
      simp only [Bool.not_true, Bool.not_false] at h3
      go_enter Try.func59, Try.ntmps59
      go_wp2
      go_ret
      exact ⟨ret_bool HF.out.symm, rfl⟩

def rowsEq (l m : List Row) : Bool := decide (l = m)
theorem rowsEq_self (l : List Row) : rowsEq l l = true := by simp [rowsEq]
theorem rowsEq_len {l m : List Row} (h : l.length ≠ m.length) : rowsEq l m = false := by
  simp only [rowsEq, decide_eq_false_iff_not]; intro e; exact h (by rw [e])
theorem rowsEq_at {l m : List Row} {k : Nat} {x y : Row} (hx : l[k]? = some x) (hy : m[k]? = some y) (h : eqR x y = false) : rowsEq l m = false := by
  simp only [rowsEq, decide_eq_false_iff_not]
  rintro rfl
  rw [hx] at hy; cases hy
  have := (eqR_iff (a := x) (b := x)).2 rfl
  rw [h] at this; cases this
def EqTo (l m : List Row) (k : Nat) : Prop := ∀ i : Nat, i < k → l[i]? = m[i]?
theorem EqTo.zero (l m : List Row) : EqTo l m 0 := fun _ h => absurd h (by omega)
theorem EqTo.step {l m : List Row} {k : Nat} {x y : Row} (h : EqTo l m k) (hx : l[k]? = some x) (hy : m[k]? = some y) (he : eqR x y = true) : EqTo l m (k + 1) := by
  intro i hi
  by_cases hik : i < k
  · exact h i hik
  · obtain rfl : i = k := by omega
    rw [hx, hy, eqR_iff.1 he]
theorem EqTo.all {l m : List Row} {k : Nat} (h : EqTo l m k) (hl : l.length ≤ k) (hm : m.length ≤ k) : rowsEq l m = true := by
  simp only [rowsEq, decide_eq_true_eq]
  apply List.ext_getElem?
  intro i
  by_cases hi : i < k
  · exact h i hi
  · rw [List.getElem?_eq_none (by omega), List.getElem?_eq_none (by omega)]

set_option maxHeartbeats 1000000 in
theorem eqRowS (A B : Option Addr) (n m c d : Nat) (l p : List Row) (w : World) (hr : Sl encRow w w.heap.size A n l) (hs : Sl encRow w w.heap.size B m p) (hn : n ≤ 1048576) :
    Calls Try.prog 27 #[.slice A n c, .slice B m d] w fun e w' => e = .returned (.bool (rowsEq l p)) ∧ Below w.heap.size w w' := by
  have HL := Lib.hid hr.len
  have HP := Lib.hid hs.len
  by_cases hnm : n = m
  · subst hnm
    have hne : ((n : Int) != (n : Int)) = false := by simp
    go_enter Try.func27, Try.ntmps27
    go_wp2
    go_loopw [5] (fun i wr => ∃ k : Nat, k ≤ n ∧ i = .int .i64 k ∧ EqTo l p k ∧ Below w.heap.size w wr) (fun i _ => n - (intOf i).toNat)
    case atStart => exact ⟨0, by omega, rfl, EqTo.zero l p, Below.refl _ _⟩
    case round =>
      obtain ⟨k, hkn, rfl, heq, hbel⟩ := hrel
      by_cases hlt : k < n
      · obtain ⟨b, off, rfl, hb⟩ := hr.spot (by omega)
        obtain ⟨b2, off2, rfl, hb2⟩ := hs.spot (by omega)
        obtain ⟨key, num, hrow, hk1, hk2⟩ := rowAt (hr.keep hbel) hlt
        obtain ⟨key2, num2, hrow2, hk3, hk4⟩ := rowAt (hs.keep hbel) hlt
        have HR := Lib.hid hrow
        have HR2 := Lib.hid hrow2
        clear hrow hrow2
        have i0 : (0 : Int) ≤ (k : Int) := by omega
        have i1 : (k : Int) < (n : Int) := by omega
        have n1 := World.new_ne wr _ hk1
        have n3 := World.new_ne wr _ hk3
        have n2 := World.new_ne wr _ hk2
        have n4 := World.new_ne wr _ hk4
        cases he : eqR (key, num) (key2, num2)
        all_goals
          have c1 := fun W => eqRow key key2 num num2 W
          rw [he] at c1
          have C1 := Lib.hid c1
          have HE := Lib.hid he
          clear c1 he
          go_wp2_with fail
          go_region_held3 (fun w' => w'.cell? ⟨b, off + k * 2, none⟩ = some (.string key) ∧ w'.cell? ⟨b, off + k * 2 + 1, none⟩ = some (.int .i64 num) ∧ w'.cell? ⟨b2, off2 + k * 2, none⟩ = some (.string key2) ∧ w'.cell? ⟨b2, off2 + k * 2 + 1, none⟩ = some (.int .i64 num2))
            (go_keep)
            (first | (go_at_call 59; refine (C1.out _).mono ?_; rintro e w' ⟨rfl, rfl⟩))
          go_wp2
        · go_ret
          exact ⟨ret_bool (rowsEq_at HR.out HR2.out HE.out).symm, (bel_alloc (bel_alloc hbel _) _).drew⟩
        · go_roundw
          case rel => exact ⟨k + 1, by omega, by go_num, heq.step HR.out HR2.out HE.out, (bel_alloc (bel_alloc hbel _) _).drew⟩
          case measure => simp [intOf]; omega
      · go_wp2
        go_ret
        exact ⟨ret_bool (heq.all (by rw [HL.out]; omega) (by rw [HP.out]; omega)).symm, hbel⟩
  · have hf : rowsEq l p = false := rowsEq_len (by rw [HL.out, HP.out]; exact hnm)
    have HF := Lib.hid hf
    clear hf
    have hne : ((n : Int) != (m : Int)) = true := by simp; omega
    clear hnm
    go_enter Try.func27, Try.ntmps27
    go_wp2
    go_ret
    exact ⟨ret_bool HF.out.symm, Below.refl _ _⟩
end Go.Proofs.Ytndeehlndbdonaa
