/- Contracts of the laws' own helpers over rows: szRowS, toRowS, eqRowS. -/
import Derived.Test.YtpmeaikiaoojkaaDoorB2
namespace Go.Proofs.YtpmeaikiaoojkaaDoor
open Go.RowKit

theorem info46 : (Tryd.prog.info? 78).map (fun i => (i.zero, i.size, i.bytes)) = some (some (.agg #[.string ByteArray.empty, .int .i64 0]), 2, 24) := by kernel_rfl
def zrow : Row := (ByteArray.empty, 0)
def madeRows (n : Nat) : Array Value := madeCells (Value.agg #[.string ByteArray.empty, .int .i64 0]).cells (n * 2)
theorem madeRows_eq (n : Nat) : (madeRows n).toList = cellsOf encRow (List.replicate n zrow) := madeCells_eq encRow_len (by omega) zrow _ rfl n
theorem make46 (n c : Nat) (hnc : n ≤ c) (h : c ≤ 1048577) (W : World) : (Instr.makeSlice 53 (.int .i64 (n : Int)) (.int .i64 (c : Int))).run Tryd.prog W = .ok (.slice (some ⟨W.heap.size, 0, none⟩) n c) (W.alloc (.cells (madeRows c) 78)) := by
  obtain ⟨i0, hi, hz0, hz1, hz2⟩ := info_parts info46
  have := run_make_rowN (P := Tryd.prog) 53 78 i0 _ Tryd.underlying53 hi hz0 .i64 .i64 n c hnc (by rw [hz2]; omega) (by omega) W
  rw [hz1] at this
  exact this

theorem ownRow {w : World} {base g n c k : Nat} {l : List Row} {e : TypeId} {key : ByteArray} {num : Int} (h : Own encRow 2 e w base (.slice (some ⟨g, 0, none⟩) n c) l) (hx : l[k]? = some (key, num)) :
    w.cell? ⟨g, k * 2, none⟩ = some (.string key) ∧ w.cell? ⟨g, k * 2 + 1, none⟩ = some (.int .i64 num) ∧ w.frozen? ⟨g, k * 2, none⟩ = false ∧ w.frozen? ⟨g, k * 2 + 1, none⟩ = false :=
  ⟨h.cellAt (j := 0) encRow_len hx rfl, h.cellAt (j := 1) encRow_len hx rfl, h.free _, h.free _⟩
/-! ### sizes -/
/-! ### equality -/
theorem ba_eq {a b : ByteArray} (h : a.toList = b.toList) : a = b := by
  rw [ByteArray.toList_eq, ByteArray.toList_eq] at h
  exact ByteArray.ext (Array.toList_inj.1 h)
def eqR (a b : Row) : Bool := (a.1.toList == b.1.toList) && (a.2 == b.2)
theorem eqR_iff {a b : Row} : eqR a b = true ↔ a = b := by
  unfold eqR
  rw [Bool.and_eq_true, beq_iff_eq, beq_iff_eq]
  constructor
  · rintro ⟨h1, h2⟩; exact Prod.ext (ba_eq h1) h2
  · rintro rfl; exact ⟨rfl, rfl⟩
def rowsEq (l m : List Row) : Bool := decide (l = m)
theorem rowsEq_self (l : List Row) : rowsEq l l = true := by simp [rowsEq]
theorem rowsEq_len {l m : List Row} (h : l.length ≠ m.length) : rowsEq l m = false := by
  simp only [rowsEq, decide_eq_false_iff_not]; intro e; exact h (by rw [e])
theorem rowsEq_at {l m : List Row} {k : Nat} {x y : Row} (hx : l[k]? = some x) (hy : m[k]? = some y) (h : eqR x y = false) : rowsEq l m = false := by
  simp only [rowsEq, decide_eq_false_iff_not]
  rintro rfl
  rw [hx] at hy; cases hy
  have := (eqR_iff (a := x) (b := x)).2 rfl
  rw [h] at this; cases this
def EqTo (l m : List Row) (k : Nat) : Prop := ∀ i : Nat, i < k → l[i]? = m[i]?
theorem EqTo.zero (l m : List Row) : EqTo l m 0 := fun _ h => absurd h (by omega)
theorem EqTo.step {l m : List Row} {k : Nat} {x y : Row} (h : EqTo l m k) (hx : l[k]? = some x) (hy : m[k]? = some y) (he : eqR x y = true) : EqTo l m (k + 1) := by
  intro i hi
  by_cases hik : i < k
  · exact h i hik
  · obtain rfl : i = k := by omega
    rw [hx, hy, eqR_iff.1 he]
theorem EqTo.all {l m : List Row} {k : Nat} (h : EqTo l m k) (hl : l.length ≤ k) (hm : m.length ≤ k) : rowsEq l m = true := by
  simp only [rowsEq, decide_eq_true_eq]
  apply List.ext_getElem?
  intro i
  by_cases hi : i < k
  · exact h i hi
  · rw [List.getElem?_eq_none (by omega), List.getElem?_eq_none (by omega)]

end Go.Proofs.YtpmeaikiaoojkaaDoor
