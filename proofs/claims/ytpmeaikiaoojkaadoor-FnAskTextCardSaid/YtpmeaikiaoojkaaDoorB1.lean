/- Contracts over slices of rows: small functions on one row, ascending, RowsOk (program and reference). -/
import Derived.Test.YtpmeaikiaoojkaaDoorA2
import Derived.Test.YtpmeaikiaoojkaaDoorK
import Derived.Deep.QuietTactic
import Derived.BigQuiet
namespace Go.Proofs.YtpmeaikiaoojkaaDoor
open Go.RowKit

abbrev Row := ByteArray × Int
def encRow (r : Row) : List Value := [.string r.1, .int .i64 r.2]
theorem encRow_len (r : Row) : (encRow r).length = 2 := rfl
def KeysWf (l : List Row) : Prop := ∀ r : Row, r ∈ l → r.1.size ≤ maxLen
theorem KeysWf.at_ {l : List Row} (h : KeysWf l) {k : Nat} {key : ByteArray} {num : Int} (hk : l[k]? = some (key, num)) : key.size ≤ maxLen := h (key, num) (List.mem_of_getElem? hk)
theorem rowAt {w : World} {B n b off k : Nat} {l : List Row} (h : Sl encRow w B (some ⟨b, off, none⟩) n l) (hk : k < n) :
    ∃ key num, l[k]? = some (key, num) ∧ w.cell? ⟨b, off + k * 2, none⟩ = some (.string key) ∧ w.cell? ⟨b, off + k * 2 + 1, none⟩ = some (.int .i64 num) := by
  obtain ⟨⟨key, num⟩, h1, h2⟩ := h.at_ encRow_len hk
  exact ⟨key, num, h1, h2 0 _ rfl, h2 1 _ rfl⟩

def klt (a b : ByteArray) : Bool := Op.bytesLess a.toList b.toList
def AscP (l : List Row) : Prop := ∀ (i : Nat) (a b : Row), l[i]? = some a → l[i + 1]? = some b → klt a.1 b.1 = true
def EachP (l : List Row) : Prop := ∀ (i : Nat) (r : Row), l[i]? = some r → keyOk r.1 = true ∧ numOk r.2 = true
def RowsP (l : List Row) : Prop := l.length ≤ 10 ∧ EachP l ∧ AscP l
open Classical in
noncomputable def ascOk (l : List Row) : Bool := decide (AscP l)
open Classical in
noncomputable def rowsOk (l : List Row) : Bool := decide (RowsP l)
theorem ascOk_true {l : List Row} (h : AscP l) : ascOk l = true := by simp [ascOk, h]
theorem ascOk_false {l : List Row} (h : ¬ AscP l) : ascOk l = false := by simp [ascOk, h]
theorem rowsOk_true {l : List Row} (h : RowsP l) : rowsOk l = true := by simp [rowsOk, h]
theorem rowsOk_false {l : List Row} (h : ¬ RowsP l) : rowsOk l = false := by simp [rowsOk, h]
theorem rowsOk_iff {l : List Row} : rowsOk l = true ↔ RowsP l := by simp [rowsOk]
theorem ascOk_iff {l : List Row} : ascOk l = true ↔ AscP l := by simp [ascOk]

/-- ascending up to element j + 1 -/
def AscTo (l : List Row) (j : Nat) : Prop := ∀ (i : Nat) (a b : Row), i < j → l[i]? = some a → l[i + 1]? = some b → klt a.1 b.1 = true
theorem AscTo.zero (l : List Row) : AscTo l 0 := fun _ _ _ h => absurd h (by omega)
theorem AscTo.step {l : List Row} {j : Nat} (h : AscTo l j) {k0 k1 : ByteArray} {n0 n1 : Int} (h0 : l[j]? = some (k0, n0)) (h1 : l[j + 1]? = some (k1, n1)) (hlt : klt k0 k1 = true) : AscTo l (j + 1) := by
  intro i a b hi ha hb
  by_cases hij : i < j
  · exact h i a b hij ha hb
  · obtain rfl : i = j := by omega
    rw [h0] at ha; rw [h1] at hb
    cases ha; cases hb
    exact hlt
theorem AscTo.all {l : List Row} {j : Nat} (h : AscTo l j) (hj : l.length ≤ j + 1) : AscP l := by
  intro i a b ha hb
  exact h i a b (by have := (List.getElem?_eq_some_iff.1 hb).1; omega) ha hb
theorem not_asc {l : List Row} {j : Nat} {k0 k1 : ByteArray} {n0 n1 : Int} (h0 : l[j]? = some (k0, n0)) (h1 : l[j + 1]? = some (k1, n1)) (hlt : klt k0 k1 = false) : ¬ AscP l := by
  intro h
  have := h j _ _ h0 h1
  rw [hlt] at this
  cases this

/-! ### One row -/
/-! ### ascending -/
/-! ### RowsOk of the program -/
def EachTo (l : List Row) (k : Nat) : Prop := ∀ (i : Nat) (r : Row), i < k → l[i]? = some r → keyOk r.1 = true ∧ numOk r.2 = true
theorem EachTo.zero (l : List Row) : EachTo l 0 := fun _ _ h => absurd h (by omega)
theorem EachTo.step {l : List Row} {k : Nat} (h : EachTo l k) {key : ByteArray} {num : Int} (hr : l[k]? = some (key, num)) (h1 : keyOk key = true) (h2 : numOk num = true) : EachTo l (k + 1) := by
  intro i r hi hri
  by_cases hik : i < k
  · exact h i r hik hri
  · obtain rfl : i = k := by omega
    rw [hr] at hri; cases hri
    exact ⟨h1, h2⟩
theorem EachTo.all {l : List Row} {k : Nat} (h : EachTo l k) (hk : l.length ≤ k) : EachP l := by
  intro i r hr
  exact h i r (by have := (List.getElem?_eq_some_iff.1 hr).1; omega) hr
theorem not_each {l : List Row} {k : Nat} {key : ByteArray} {num : Int} (hr : l[k]? = some (key, num)) (h : keyOk key = false ∨ numOk num = false) : ¬ EachP l := by
  intro he
  obtain ⟨h1, h2⟩ := he k _ hr
  rcases h with h | h
  · rw [h] at h1; cases h1
  · rw [h] at h2; cases h2
theorem rowsOk_bad {l : List Row} (h : ¬ EachP l) : rowsOk l = false := rowsOk_false fun h' => h h'.2.1
theorem rowsOk_long {l : List Row} (h : ¬ l.length ≤ 10) : rowsOk l = false := rowsOk_false fun h' => h h'.1
theorem rowsOk_asc {l : List Row} (h : l.length ≤ 10) (he : EachP l) : rowsOk l = ascOk l := by
  by_cases ha : AscP l
  · rw [ascOk_true ha, rowsOk_true ⟨h, he, ha⟩]
  · rw [ascOk_false ha, rowsOk_false fun h' => ha h'.2.2]

end Go.Proofs.YtpmeaikiaoojkaaDoor
