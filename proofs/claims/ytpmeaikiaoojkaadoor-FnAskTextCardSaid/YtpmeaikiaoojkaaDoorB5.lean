/- Contracts: comparing, the binary search, the place of a key, RowsGet. -/
import Derived.Test.YtpmeaikiaoojkaaDoorB3
import Derived.Test.YtpmeaikiaoojkaaDoorP1
namespace Go.Proofs.YtpmeaikiaoojkaaDoor
open Go.RowKit

theorem cell_new (w : World) (v : Value) (t : TypeId) : (w.alloc (.cells #[v] t)).cell? ⟨w.heap.size, 0, none⟩ = some v := by
  rw [cell_of_row _ w.heap.size 0 #[v] t (0, 0) (heap_alloc_new w _)]; rfl
theorem ret_ib {i j : Int} {x y : Bool} (hi : i = j) (hx : x = y) : Ending.returned (.tuple #[.int .i64 i, .bool x]) = .returned (.tuple #[.int .i64 j, .bool y]) := by rw [hi, hx]
def LoP (l : List Row) (key : ByteArray) (i : Nat) : Prop := ∀ (q : Nat) (r : Row), q < i → l[q]? = some r → klt r.1 key = true
def HiP (l : List Row) (key : ByteArray) (j : Nat) : Prop := ∀ (q : Nat) (r : Row), j ≤ q → l[q]? = some r → klt r.1 key = false
theorem LoP.up {l : List Row} (ha : AscP l) {key : ByteArray} {h : Nat} {x : ByteArray} {num : Int} (hx : l[h]? = some (x, num)) (hlt : klt x key = true) : LoP l key (h + 1) := by
  intro q r hq hr
  by_cases e : q = h
  · subst e; rw [hx] at hr; cases hr; exact hlt
  · exact klt_trans (ha.lt (i := q) (j := h) (by omega) hr hx) hlt
theorem HiP.down {l : List Row} (ha : AscP l) {key : ByteArray} {h : Nat} {x : ByteArray} {num : Int} (hx : l[h]? = some (x, num)) (hlt : klt x key = false) : HiP l key h := by
  intro q r hq hr
  by_cases e : q = h
  · subst e; rw [hx] at hr; cases hr; exact hlt
  · cases hk : klt r.1 key
    · rfl
    · have := klt_trans (ha.lt (i := h) (j := q) (by omega) hx hr) hk
      rw [hlt] at this; cases this
theorem fnd_of {l : List Row} {key : ByteArray} {i : Nat} (hi : i ≤ l.length) (h1 : LoP l key i) (h2 : HiP l key i) : fnd l key = i :=
  fnd_unique hi (fun q r hq hr => h1 q r hq hr) (fun r hr => h2 i r (Nat.le_refl _) hr)

theorem kcmp_lt {a b : ByteArray} (h : klt a b = true) : kcmp a b < 0 := by rw [kcmp_neg h]; omega
theorem kcmp_ge {a b : ByteArray} (h : klt a b = false) : 0 ≤ kcmp a b := by rw [kcmp_eq, h]; simp only [Bool.false_eq_true, if_false]; split <;> omega
/-! ### RowsGet -/
noncomputable def getNum (l : List Row) (key : ByteArray) : Int :=
  match l[fnd l key]? with
  | some r => if hit l key = true ∧ rowsOk l = true then r.2 else 0
  | none => 0
noncomputable def getHas (l : List Row) (key : ByteArray) : Bool := hit l key && rowsOk l
theorem get_bad {l : List Row} {key : ByteArray} (h : rowsOk l = false) : getNum l key = 0 ∧ getHas l key = false := by
  constructor
  · unfold getNum; split <;> simp [h]
  · simp [getHas, h]
theorem get_miss {l : List Row} {key : ByteArray} (h : hit l key = false) : getNum l key = 0 ∧ getHas l key = false := by
  constructor
  · unfold getNum; split <;> simp [h]
  · simp [getHas, h]
theorem get_hit {l : List Row} {key : ByteArray} {num : Int} (h : hit l key = true) (ho : rowsOk l = true) (hr : l[fnd l key]? = some (key, num)) : getNum l key = num ∧ getHas l key = true := by
  constructor
  · unfold getNum; rw [hr]; simp [h, ho]
  · simp [getHas, h, ho]

end Go.Proofs.YtpmeaikiaoojkaaDoor
