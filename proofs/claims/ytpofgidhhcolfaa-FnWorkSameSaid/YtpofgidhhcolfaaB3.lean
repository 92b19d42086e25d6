/- Contracts of the laws' own helpers over rows: szRowS, toRowS, eqRowS. -/
import Derived.Test.YtpofgidhhcolfaaB2
namespace Go.Proofs.Ytpofgidhhcolfaa
open Go.RowKit

theorem info46 : (Try.prog.info? 117).map (fun i => (i.zero, i.size, i.bytes)) = some (some (.agg #[.string ByteArray.empty, .int .i64 0]), 2, 24) := by kernel_rfl
def zrow : Row := (ByteArray.empty, 0)
def madeRows (n : Nat) : Array Value := madeCells (Value.agg #[.string ByteArray.empty, .int .i64 0]).cells (n * 2)
theorem madeRows_eq (n : Nat) : (madeRows n).toList = cellsOf encRow (List.replicate n zrow) := madeCells_eq encRow_len (by omega) zrow _ rfl n
theorem make46 (n c : Nat) (hnc : n ≤ c) (h : c ≤ 1048577) (W : World) : (Instr.makeSlice 59 (.int .i64 (n : Int)) (.int .i64 (c : Int))).run Try.prog W = .ok (.slice (some ⟨W.heap.size, 0, none⟩) n c) (W.alloc (.cells (madeRows c) 117)) := by
  obtain ⟨i0, hi, hz0, hz1, hz2⟩ := info_parts info46
  have := run_make_rowN (P := Try.prog) 59 117 i0 _ Try.underlying59 hi hz0 .i64 .i64 n c hnc (by rw [hz2]; omega) (by omega) W
  rw [hz1] at this
  exact this

theorem ownRow {w : World} {base g n c k : Nat} {l : List Row} {e : TypeId} {key : ByteArray} {num : Int} (h : Own encRow 2 e w base (.slice (some ⟨g, 0, none⟩) n c) l) (hx : l[k]? = some (key, num)) :
    w.cell? ⟨g, k * 2, none⟩ = some (.string key) ∧ w.cell? ⟨g, k * 2 + 1, none⟩ = some (.int .i64 num) ∧ w.frozen? ⟨g, k * 2, none⟩ = false ∧ w.frozen? ⟨g, k * 2 + 1, none⟩ = false :=
  ⟨h.cellAt (j := 0) encRow_len hx rfl, h.cellAt (j := 1) encRow_len hx rfl, h.free _, h.free _⟩
/-! ### sizes -/
/-! ### equality -/
theorem ba_eq {a b : ByteArray} (h : a.toList = b.toList) : a = b := by
  rw [ByteArray.toList_eq, ByteArray.toList_eq] at h
  exact ByteArray.ext (Array.toList_inj.1 h)
def eqR (a b : Row) : Bool := (a.1.toList == b.1.toList) && (a.2 == b.2)
theorem eqR_iff {a b : Row} : eqR a b = true ↔ a = b := by
  unfold eqR
  rw [Bool.and_eq_true, beq_iff_eq, beq_iff_eq]
  constructor
  · rintro ⟨h1, h2⟩; exact Prod.ext (ba_eq h1) h2
  · rintro rfl; exact ⟨rfl, rfl⟩
set_option maxHeartbeats 400000 in
theorem eqRow (k1 k2 : ByteArray) (n1 n2 : Int) (w : World) :
    Calls Try.prog 94 #[.agg #[.string k1, .int .i64 n1], .agg #[.string k2, .int .i64 n2]] w fun e w' => e = .returned (.bool (eqR (k1, n1) (k2, n2))) ∧ (w.alloc (.cells #[.string k1, .int .i64 n1] 117)).alloc (.cells #[.string k2, .int .i64 n2] 117) = w' := by
  cases h1 : (k1.toList == k2.toList)
  · have hf : eqR (k1, n1) (k2, n2) = false := by simp only [eqR, h1]; rfl
    have HF := Lib.hid hf
    clear hf
    go_enter Try.func94, Try.ntmps94
    go_wp2
    go_ret
    exact ⟨ret_bool HF.out.symm, rfl⟩
  · cases h2 : (n1 == n2)
    all_goals
      have hf : eqR (k1, n1) (k2, n2) = (n1 == n2) := by simp only [eqR, h1]; rfl
      rw [h2] at hf
      have HF := Lib.hid hf
      clear hf
      have h3 : (n1 != n2) = !(n1 == n2) := rfl
      rw [h2] at h3
      simp only [Bool.not_true, Bool.not_false] at h3
      go_enter Try.func94, Try.ntmps94
      go_wp2
      go_ret
      exact ⟨ret_bool HF.out.symm, rfl⟩

def rowsEq (l m : List Row) : Bool := decide (l = m)
theorem rowsEq_self (l : List Row) : rowsEq l l = true := by simp [rowsEq]
theorem rowsEq_len {l m : List Row} (h : l.length ≠ m.length) : rowsEq l m = false := by
  simp only [rowsEq, decide_eq_false_iff_not]; intro e; exact h (by rw [e])
theorem rowsEq_at {l m : List Row} {k : Nat} {x y : Row} (hx : l[k]? = some x) (hy : m[k]? = some y) (h : eqR x y = false) : rowsEq l m = false := by
  simp only [rowsEq, decide_eq_false_iff_not]
  rintro rfl
  rw [hx] at hy; cases hy
  have := (eqR_iff (a := x) (b := x)).2 rfl
  rw [h] at this; cases this
def EqTo (l m : List Row) (k : Nat) : Prop := ∀ i : Nat, i < k → l[i]? = m[i]?
theorem EqTo.zero (l m : List Row) : EqTo l m 0 := fun _ h => absurd h (by omega)
theorem EqTo.step {l m : List Row} {k : Nat} {x y : Row} (h : EqTo l m k) (hx : l[k]? = some x) (hy : m[k]? = some y) (he : eqR x y = true) : EqTo l m (k + 1) := by
  intro i hi
  by_cases hik : i < k
  · exact h i hik
  · obtain rfl : i = k := by omega
    rw [hx, hy, eqR_iff.1 he]
theorem EqTo.all {l m : List Row} {k : Nat} (h : EqTo l m k) (hl : l.length ≤ k) (hm : m.length ≤ k) : rowsEq l m = true := by
  simp only [rowsEq, decide_eq_true_eq]
  apply List.ext_getElem?
  intro i
  by_cases hi : i < k
  · exact h i hi
  · rw [List.getElem?_eq_none (by omega), List.getElem?_eq_none (by omega)]

set_option maxHeartbeats 1000000 in
theorem eqRowS (A B : Option Addr) (n m c d : Nat) (l p : List Row) (w : World) (hr : Sl encRow w w.heap.size A n l) (hs : Sl encRow w w.heap.size B m p) (hn : n ≤ 1048576) :
    Calls Try.prog 47 #[.slice A n c, .slice B m d] w fun e w' => e = .returned (.bool (rowsEq l p)) ∧ Below w.heap.size w w' := by
  have HL := Lib.hid hr.len
  have HP := Lib.hid hs.len
  by_cases hnm : n = m
  · subst hnm
    have hne : ((n : Int) != (n : Int)) = false := by simp
    go_enter Try.func47, Try.ntmps47
    go_wp2
    go_loopw [5] (fun i wr => ∃ k : Nat, k ≤ n ∧ i = .int .i64 k ∧ EqTo l p k ∧ Below w.heap.size w wr) (fun i _ => n - (intOf i).toNat)
    case atStart => exact ⟨0, by omega, rfl, EqTo.zero l p, Below.refl _ _⟩
    case round =>
      obtain ⟨k, hkn, rfl, heq, hbel⟩ := hrel
      by_cases hlt : k < n
      · obtain ⟨b, off, rfl, hb⟩ := hr.spot (by omega)
        obtain ⟨b2, off2, rfl, hb2⟩ := hs.spot (by omega)
        obtain ⟨key, num, hrow, hk1, hk2⟩ := rowAt (hr.keep hbel) hlt
        obtain ⟨key2, num2, hrow2, hk3, hk4⟩ := rowAt (hs.keep hbel) hlt
        have HR := Lib.hid hrow
        have HR2 := Lib.hid hrow2
        clear hrow hrow2
        have i0 : (0 : Int) ≤ (k : Int) := by omega
        have i1 : (k : Int) < (n : Int) := by omega
        have n1 := World.new_ne wr _ hk1
        have n3 := World.new_ne wr _ hk3
        have n2 := World.new_ne wr _ hk2
        have n4 := World.new_ne wr _ hk4
        cases he : eqR (key, num) (key2, num2)
        all_goals
          have c1 := fun W => eqRow key key2 num num2 W
          rw [he] at c1
          have C1 := Lib.hid c1
          have HE := Lib.hid he
          clear c1 he
          go_wp2_with fail
          go_region_held3 (fun w' => w'.cell? ⟨b, off + k * 2, none⟩ = some (.string key) ∧ w'.cell? ⟨b, off + k * 2 + 1, none⟩ = some (.int .i64 num) ∧ w'.cell? ⟨b2, off2 + k * 2, none⟩ = some (.string key2) ∧ w'.cell? ⟨b2, off2 + k * 2 + 1, none⟩ = some (.int .i64 num2))
            (go_keep)
            (first | (go_at_call 94; refine (C1.out _).mono ?_; rintro e w' ⟨rfl, rfl⟩))
          go_wp2
        · go_ret
          exact ⟨ret_bool (rowsEq_at HR.out HR2.out HE.out).symm, (bel_alloc (bel_alloc hbel _) _).drew⟩
        · go_roundw
          case rel => exact ⟨k + 1, by omega, by go_num, heq.step HR.out HR2.out HE.out, (bel_alloc (bel_alloc hbel _) _).drew⟩
          case measure => simp [intOf]; omega
      · go_wp2
        go_ret
        exact ⟨ret_bool (heq.all (by rw [HL.out]; omega) (by rw [HP.out]; omega)).symm, hbel⟩
  · have hf : rowsEq l p = false := rowsEq_len (by rw [HL.out, HP.out]; exact hnm)
    have HF := Lib.hid hf
    clear hf
    have hne : ((n : Int) != (m : Int)) = true := by simp; omega
    clear hnm
    go_enter Try.func47, Try.ntmps47
    go_wp2
    go_ret
    exact ⟨ret_bool HF.out.symm, Below.refl _ _⟩
end Go.Proofs.Ytpofgidhhcolfaa
