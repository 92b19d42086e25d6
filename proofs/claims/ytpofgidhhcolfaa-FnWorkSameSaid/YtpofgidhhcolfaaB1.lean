/- Contracts over slices of rows: small functions on one row, ascending, RowsOk (program and reference). -/
import Derived.Test.YtpofgidhhcolfaaA1
import Derived.Test.YtpofgidhhcolfaaK
import Derived.Deep.QuietTactic
import Derived.BigQuiet
namespace Go.Proofs.Ytpofgidhhcolfaa
open Go.RowKit

abbrev Row := ByteArray × Int
def encRow (r : Row) : List Value := [.string r.1, .int .i64 r.2]
theorem encRow_len (r : Row) : (encRow r).length = 2 := rfl
def KeysWf (l : List Row) : Prop := ∀ r : Row, r ∈ l → r.1.size ≤ maxLen
theorem KeysWf.at_ {l : List Row} (h : KeysWf l) {k : Nat} {key : ByteArray} {num : Int} (hk : l[k]? = some (key, num)) : key.size ≤ maxLen := h (key, num) (List.mem_of_getElem? hk)
theorem rowAt {w : World} {B n b off k : Nat} {l : List Row} (h : Sl encRow w B (some ⟨b, off, none⟩) n l) (hk : k < n) :
    ∃ key num, l[k]? = some (key, num) ∧ w.cell? ⟨b, off + k * 2, none⟩ = some (.string key) ∧ w.cell? ⟨b, off + k * 2 + 1, none⟩ = some (.int .i64 num) := by
  obtain ⟨⟨key, num⟩, h1, h2⟩ := h.at_ encRow_len hk
  exact ⟨key, num, h1, h2 0 _ rfl, h2 1 _ rfl⟩

def klt (a b : ByteArray) : Bool := Op.bytesLess a.toList b.toList
def numOk (n : Int) : Bool := decide (-999 ≤ n) && decide (n ≤ 999)
def AscP (l : List Row) : Prop := ∀ (i : Nat) (a b : Row), l[i]? = some a → l[i + 1]? = some b → klt a.1 b.1 = true
def EachP (l : List Row) : Prop := ∀ (i : Nat) (r : Row), l[i]? = some r → keyOk r.1 = true ∧ numOk r.2 = true
def RowsP (l : List Row) : Prop := l.length ≤ 10 ∧ EachP l ∧ AscP l
open Classical in
noncomputable def ascOk (l : List Row) : Bool := decide (AscP l)
open Classical in
noncomputable def rowsOk (l : List Row) : Bool := decide (RowsP l)
theorem ascOk_true {l : List Row} (h : AscP l) : ascOk l = true := by simp [ascOk, h]
theorem ascOk_false {l : List Row} (h : ¬ AscP l) : ascOk l = false := by simp [ascOk, h]
theorem rowsOk_true {l : List Row} (h : RowsP l) : rowsOk l = true := by simp [rowsOk, h]
theorem rowsOk_false {l : List Row} (h : ¬ RowsP l) : rowsOk l = false := by simp [rowsOk, h]
theorem rowsOk_iff {l : List Row} : rowsOk l = true ↔ RowsP l := by simp [rowsOk]
theorem ascOk_iff {l : List Row} : ascOk l = true ↔ AscP l := by simp [ascOk]

/-- ascending up to element j + 1 -/
def AscTo (l : List Row) (j : Nat) : Prop := ∀ (i : Nat) (a b : Row), i < j → l[i]? = some a → l[i + 1]? = some b → klt a.1 b.1 = true
theorem AscTo.zero (l : List Row) : AscTo l 0 := fun _ _ _ h => absurd h (by omega)
theorem AscTo.step {l : List Row} {j : Nat} (h : AscTo l j) {k0 k1 : ByteArray} {n0 n1 : Int} (h0 : l[j]? = some (k0, n0)) (h1 : l[j + 1]? = some (k1, n1)) (hlt : klt k0 k1 = true) : AscTo l (j + 1) := by
  intro i a b hi ha hb
  by_cases hij : i < j
  · exact h i a b hij ha hb
  · obtain rfl : i = j := by omega
    rw [h0] at ha; rw [h1] at hb
    cases ha; cases hb
    exact hlt
theorem AscTo.all {l : List Row} {j : Nat} (h : AscTo l j) (hj : l.length ≤ j + 1) : AscP l := by
  intro i a b ha hb
  exact h i a b (by have := (List.getElem?_eq_some_iff.1 hb).1; omega) ha hb
theorem not_asc {l : List Row} {j : Nat} {k0 k1 : ByteArray} {n0 n1 : Int} (h0 : l[j]? = some (k0, n0)) (h1 : l[j + 1]? = some (k1, n1)) (hlt : klt k0 k1 = false) : ¬ AscP l := by
  intro h
  have := h j _ _ h0 h1
  rw [hlt] at this
  cases this

/-! ### One row -/
set_option maxHeartbeats 400000 in
theorem rowKey (key : ByteArray) (num : Int) (w : World) :
    Calls Try.prog 111 #[.agg #[.string key, .int .i64 num]] w fun e w' => e = .returned (.string key) ∧ w.alloc (.cells #[.string key, .int .i64 num] 117) = w' := by
  go_enter Try.func111, Try.ntmps111
  go_wp2
  go_ret
  exact ⟨rfl, rfl⟩

set_option maxHeartbeats 400000 in
theorem numOkC (num : Int) (w : World) : Calls Try.prog 119 #[.int .i64 num] w fun e w' => e = .returned (.bool (numOk num)) ∧ w = w' := by
  go_enter Try.func119, Try.ntmps119
  go_wp2
  all_goals (go_ret; refine ⟨ret_bool ?_, rfl⟩; simp [numOk]; try omega)
set_option maxHeartbeats 400000 in
theorem l1NumC (num : Int) (w : World) : Calls Try.prog 84 #[.int .i64 num] w fun e w' => e = .returned (.bool (numOk num)) ∧ w = w' := by
  go_enter Try.func84, Try.ntmps84
  go_wp2
  all_goals (go_ret; refine ⟨ret_bool ?_, rfl⟩; simp [numOk]; try omega)

/-! ### ascending -/
set_option maxHeartbeats 1000000 in
theorem ascending (A : Option Addr) (n c : Nat) (l : List Row) (w : World) (hr : Sl encRow w w.heap.size A n l) (hn : n ≤ 1048576) :
    Calls Try.prog 120 #[.slice A n c, .func (.func 111) #[] #[]] w fun e w' => e = .returned (.bool (ascOk l)) ∧ Below w.heap.size w w' := by
  have HL := Lib.hid hr.len
  by_cases h0 : n = 0
  · subst h0
    have ha : ascOk l = true := by rw [hr.nil_of]; exact ascOk_true (fun i a b h => by simp at h)
    rw [ha]
    clear ha
    go_enter Try.func120, Try.ntmps120
    go_wp2
    go_loopw [5] (fun i wr => i = .int .i64 1 ∧ w = wr) (fun i _ => 0)
    case atStart => exact ⟨rfl, rfl⟩
    case round =>
      obtain ⟨rfl, rfl⟩ := hrel
      go_wp2
      go_ret
      exact ⟨rfl, Below.refl _ _⟩
  · obtain ⟨b, off, rfl, hb⟩ := hr.spot (by omega)
    have hpos : 0 < n := by omega
    clear h0
    go_enter Try.func120, Try.ntmps120
    go_wp2
    go_loopw [5] (fun i wr => ∃ j : Nat, j + 1 ≤ n ∧ i = .int .i64 ((j : Int) + 1) ∧ AscTo l j ∧ Below w.heap.size w wr) (fun i _ => n - (intOf i).toNat)
    case atStart => exact ⟨0, by omega, rfl, AscTo.zero l, Below.refl _ _⟩
    case round =>
      obtain ⟨j, hj, rfl, hasc, hbel⟩ := hrel
      by_cases hkn : j + 1 < n
      · obtain ⟨key, num, hrow, hk1, hk2⟩ := rowAt (k := j + 1) (hr.keep hbel) hkn
        obtain ⟨key0, num0, hrow0, hk3, hk4⟩ := rowAt (k := j) (hr.keep hbel) (by omega)
        have HR := Lib.hid hrow
        have HR0 := Lib.hid hrow0
        clear hrow hrow0
        have e1 : IntKind.i64.wrap (j : Int) = (j : Int) := IntWalk.i64_in _ (by omega)
        have i0 : (0 : Int) ≤ (j : Int) := by omega
        have i1 : (j : Int) < (n : Int) := by omega
        have i2 : (0 : Int) ≤ (j : Int) + 1 := by omega
        have i3 : (j : Int) + 1 < (n : Int) := by omega
        have i4 : ((j : Int) + 1).toNat = j + 1 := by omega
        have n1 := World.new_ne wr _ hk1
        have n2 := World.new_ne wr _ hk2
        have n3 := World.new_ne wr _ hk3
        have n4 := World.new_ne wr _ hk4
        cases hlt : klt key0 key
        all_goals
          have hlt' : Op.bytesLess key0.toList key.toList = _ := hlt
          have HLT := Lib.hid hlt
          clear hlt
          go_wp2_with fail
          go_region_held3 (fun w' => w'.cell? ⟨b, off + (j + 1) * 2, none⟩ = some (.string key) ∧ w'.cell? ⟨b, off + (j + 1) * 2 + 1, none⟩ = some (.int .i64 num) ∧ w'.cell? ⟨b, off + j * 2, none⟩ = some (.string key0) ∧ w'.cell? ⟨b, off + j * 2 + 1, none⟩ = some (.int .i64 num0))
            (go_keep)
            (first | (go_at_call 111; refine (rowKey _ _ _).mono ?_; rintro e w' ⟨rfl, rfl⟩))
          go_wp2
        · go_ret
          exact ⟨ret_bool (ascOk_false (not_asc HR0.out HR.out HLT.out)).symm, (bel_alloc (bel_alloc hbel _) _).drew⟩
        · go_roundw
          case rel => exact ⟨j + 1, by omega, by go_num, hasc.step HR0.out HR.out HLT.out, (bel_alloc (bel_alloc hbel _) _).drew⟩
          case measure => simp [intOf]; omega
      · go_wp2
        go_ret
        exact ⟨ret_bool (ascOk_true (hasc.all (by rw [HL.out]; omega))).symm, hbel⟩

/-! ### RowsOk of the program -/
def EachTo (l : List Row) (k : Nat) : Prop := ∀ (i : Nat) (r : Row), i < k → l[i]? = some r → keyOk r.1 = true ∧ numOk r.2 = true
theorem EachTo.zero (l : List Row) : EachTo l 0 := fun _ _ h => absurd h (by omega)
theorem EachTo.step {l : List Row} {k : Nat} (h : EachTo l k) {key : ByteArray} {num : Int} (hr : l[k]? = some (key, num)) (h1 : keyOk key = true) (h2 : numOk num = true) : EachTo l (k + 1) := by
  intro i r hi hri
  by_cases hik : i < k
  · exact h i r hik hri
  · obtain rfl : i = k := by omega
    rw [hr] at hri; cases hri
    exact ⟨h1, h2⟩
theorem EachTo.all {l : List Row} {k : Nat} (h : EachTo l k) (hk : l.length ≤ k) : EachP l := by
  intro i r hr
  exact h i r (by have := (List.getElem?_eq_some_iff.1 hr).1; omega) hr
theorem not_each {l : List Row} {k : Nat} {key : ByteArray} {num : Int} (hr : l[k]? = some (key, num)) (h : keyOk key = false ∨ numOk num = false) : ¬ EachP l := by
  intro he
  obtain ⟨h1, h2⟩ := he k _ hr
  rcases h with h | h
  · rw [h] at h1; cases h1
  · rw [h] at h2; cases h2
theorem rowsOk_bad {l : List Row} (h : ¬ EachP l) : rowsOk l = false := rowsOk_false fun h' => h h'.2.1
theorem rowsOk_long {l : List Row} (h : ¬ l.length ≤ 10) : rowsOk l = false := rowsOk_false fun h' => h h'.1
theorem rowsOk_asc {l : List Row} (h : l.length ≤ 10) (he : EachP l) : rowsOk l = ascOk l := by
  by_cases ha : AscP l
  · rw [ascOk_true ha, rowsOk_true ⟨h, he, ha⟩]
  · rw [ascOk_false ha, rowsOk_false fun h' => ha h'.2.2]

set_option maxHeartbeats 1000000 in
theorem implRowsOk (A : Option Addr) (n c : Nat) (l : List Row) (w : World) (hr : Sl encRow w w.heap.size A n l) (hk : KeysWf l) (hn : n ≤ 1048576) :
    Calls Try.prog 66 #[.slice A n c] w fun e w' => e = .returned (.bool (rowsOk l)) ∧ Below w.heap.size w w' := by
  have HL := Lib.hid hr.len
  by_cases h10 : 10 < n
  · have hf : rowsOk l = false := rowsOk_long (by rw [HL.out]; omega)
    rw [hf]
    clear hf
    go_enter Try.func66, Try.ntmps66
    go_wp2
    go_ret
    exact ⟨rfl, Below.refl _ _⟩
  · have h10' : ((n : Int)) ≤ 10 := by omega
    go_enter Try.func66, Try.ntmps66
    go_wp2
    go_loopw [10] (fun i wr => ∃ k : Nat, k ≤ n ∧ i = .int .i64 k ∧ EachTo l k ∧ Below w.heap.size w wr) (fun i _ => n - (intOf i).toNat)
    case atStart => exact ⟨0, by omega, rfl, EachTo.zero l, Below.refl _ _⟩
    case round =>
      obtain ⟨k, hkn, rfl, heach, hbel⟩ := hrel
      by_cases hlt : k < n
      · obtain ⟨b, off, rfl, hb⟩ := hr.spot (by omega)
        obtain ⟨key, num, hrow, hk1, hk2⟩ := rowAt (hr.keep hbel) hlt
        have hks := hk.at_ hrow
        have HR := Lib.hid hrow
        clear hrow
        cases hko : keyOk key
        · have c1 := fun W => implKeyOk key W hks
          rw [hko] at c1
          have C1 := Lib.hid c1
          have HKO := Lib.hid hko
          clear c1 hko
          go_wp2_with (go_at_call 118; refine (C1.out _).mono ?_; rintro e w' ⟨rfl, rfl⟩)
          go_ret
          exact ⟨ret_bool (rowsOk_bad (not_each HR.out (.inl HKO.out))).symm, bel_alloc hbel _⟩
        · have c1 := fun W => implKeyOk key W hks
          rw [hko] at c1
          have C1 := Lib.hid c1
          have HKO := Lib.hid hko
          clear c1 hko
          cases hno : numOk num
          all_goals
            have c2 := fun W => numOkC num W
            rw [hno] at c2
            have C2 := Lib.hid c2
            have HNO := Lib.hid hno
            clear c2 hno
            go_wp2_with (first
              | (go_at_call 118; refine (C1.out _).mono ?_; rintro e w' ⟨rfl, rfl⟩)
              | (go_at_call 119; refine (C2.out _).mono ?_; rintro e w' ⟨rfl, rfl⟩))
          · go_ret
            exact ⟨ret_bool (rowsOk_bad (not_each HR.out (.inr HNO.out))).symm, bel_alloc hbel _⟩
          · go_roundw
            case rel => exact ⟨k + 1, by omega, by go_num, heach.step HR.out HKO.out HNO.out, bel_alloc hbel _⟩
            case measure => simp [intOf]; omega
      · have hf : rowsOk l = ascOk l := rowsOk_asc (by rw [HL.out]; omega) (heach.all (by rw [HL.out]; omega))
        have HF := Lib.hid hf
        clear hf
        go_wp2_with (go_at_call 120; refine (ascending A n c l _ (hr.on hbel) hn).mono ?_; rintro e w' ⟨rfl, hb2⟩)
        go_ret
        exact ⟨ret_bool HF.out.symm, bel_trans hbel hb2⟩
end Go.Proofs.Ytpofgidhhcolfaa
