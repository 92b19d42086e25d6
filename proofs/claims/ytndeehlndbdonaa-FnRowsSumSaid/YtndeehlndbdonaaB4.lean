/- Contracts: RowsSum of the program and of the reference. -/
import Derived.Test.YtndeehlndbdonaaB3
namespace Go.Proofs.Ytndeehlndbdonaa
open Go.RowKit

/-- the sum of the first k numbers -/
def sumTo : List Row → Nat → Int
  | [], _ => 0
  | _, 0 => 0
  | r :: l, k + 1 => r.2 + sumTo l k
noncomputable def sumOut (l : List Row) : Int := if rowsOk l = true then sumTo l l.length else 0
theorem sumTo_zero (l : List Row) : sumTo l 0 = 0 := by cases l <;> rfl
theorem sumTo_succ (l : List Row) (k : Nat) (key : ByteArray) (num : Int) (h : l[k]? = some (key, num)) : sumTo l (k + 1) = sumTo l k + num := by
  induction l generalizing k with
  | nil => simp at h
  | cons r l ih =>
    cases k with
    | zero => simp at h; subst h; simp [sumTo, sumTo_zero]
    | succ k =>
      have h' : l[k]? = some (key, num) := by simpa using h
      show r.2 + sumTo l (k + 1) = r.2 + sumTo l k + num
      rw [ih k h']; omega
theorem sumOut_bad {l : List Row} (h : rowsOk l = false) : sumOut l = 0 := by simp [sumOut, h]
theorem sumOut_ok {l : List Row} (h : rowsOk l = true) : sumOut l = sumTo l l.length := by simp [sumOut, h]
theorem numOk_iff {n : Int} : numOk n = true ↔ -999 ≤ n ∧ n ≤ 999 := by simp [numOk]
theorem RowsP.num {l : List Row} (h : RowsP l) {k : Nat} {key : ByteArray} {num : Int} (hk : l[k]? = some (key, num)) : -999 ≤ num ∧ num ≤ 999 := numOk_iff.1 (h.2.1 k _ hk).2

set_option maxHeartbeats 1000000 in
theorem implRowsSum (A : Option Addr) (n c : Nat) (l : List Row) (w : World) (hr : Sl encRow w w.heap.size A n l) (hk : KeysWf l) (hn : n ≤ 1048576) :
    Calls Try.prog 29 #[.slice A n c] w fun e w' => e = .returned (.int .i64 (sumOut l)) ∧ Below w.heap.size w w' := by
  have HL := Lib.hid hr.len
  have HC := Lib.hid (implRowsOk A n c l w hr hk hn)
  cases hok : rowsOk l
  · have HS := Lib.hid (sumOut_bad hok)
    have HO := Lib.hid hok
    clear hok
    go_enter Try.func29, Try.ntmps29
    go_wp2_with (go_at_call 26; refine HC.out.mono ?_; rintro e w1 ⟨rfl, hb1⟩; rw [HO.out])
    go_ret
    exact ⟨ret_int HS.out.symm, hb1⟩
  · have hP := rowsOk_iff.1 hok
    have HS := Lib.hid (sumOut_ok hok)
    have HO := Lib.hid hok
    clear hok
    have h10 : n ≤ 10 := by have := hP.1; rw [HL.out] at this; exact this
    have HP := Lib.hid hP
    clear hP hn
    go_enter Try.func29, Try.ntmps29
    go_wp2_with (go_at_call 26; refine HC.out.mono ?_; rintro e w1 ⟨rfl, hb1⟩; rw [HO.out])
    clear HC
    go_loopw [3, 11] (fun s i wr => ∃ (k : Nat) (v : Int), k ≤ n ∧ i = .int .i64 k ∧ s = .int .i64 v ∧ Hid (v = sumTo l k) ∧ -999 * (k : Int) ≤ v ∧ v ≤ 999 * (k : Int) ∧ Below w.heap.size w wr) (fun _ i _ => n - (intOf i).toNat)
    case atStart => exact ⟨0, 0, by omega, rfl, rfl, (sumTo_zero l).symm, by omega, by omega, hb1⟩
    case round =>
      obtain ⟨k, v, hkn, rfl, rfl, hv, hv0, hv1, hbel⟩ := hrel
      by_cases hlt : k < n
      · obtain ⟨b, off, rfl, hb⟩ := hr.spot (by omega)
        obtain ⟨key, num, hrow, hk1, hk2⟩ := rowAt (hr.keep hbel) hlt
        obtain ⟨hn0, hn1⟩ := HP.out.num hrow
        have HR := Lib.hid hrow
        clear hrow
        have i0 : (0 : Int) ≤ (k : Int) := by omega
        have i1 : (k : Int) < (n : Int) := by omega
        have i2 : (n : Int) ≤ 10 := by omega
        have s0 : -20000 ≤ v := by omega
        have s1 : v ≤ 20000 := by omega
        have HV0 := Lib.hid hv0
        have HV1 := Lib.hid hv1
        clear hv0 hv1
        go_wp2
        go_roundw
        case rel => exact ⟨k + 1, v + num, by omega, by go_num, rfl, (by rw [sumTo_succ l k key num HR.out, hv.out] : v + num = sumTo l (k + 1)), by have := HV0.out; omega, by have := HV1.out; omega, bel_alloc hbel _⟩
        case measure => simp [intOf]; omega
      · go_wp2
        go_ret
        refine ⟨ret_int ?_, hbel⟩
        rw [HS.out, hv.out, HL.out, show k = n by omega]

set_option maxHeartbeats 1000000 in
theorem specRowsSum (A : Option Addr) (n c : Nat) (l : List Row) (w : World) (hr : Sl encRow w w.heap.size A n l) (hk : KeysWf l) (hn : n ≤ 1048576) :
    Calls Try.prog 28 #[.slice A n c] w fun e w' => e = .returned (.int .i64 (sumOut l)) ∧ Below w.heap.size w w' := by
  have HL := Lib.hid hr.len
  cases hok : rowsOk l
  · have HS := Lib.hid (sumOut_bad hok)
    have HO := Lib.hid hok
    have h0 : 0 < n := by
      apply Nat.pos_of_ne_zero
      rintro rfl
      rw [hr.nil_of] at hok
      rw [rowsOk_true ⟨by simp, fun i r h => by simp at h, fun i a b h => by simp at h⟩] at hok
      cases hok
    clear hok
    go_enter Try.func28, Try.ntmps28
    go_wp2
    go_loopw [3, 4] (fun s i wr => s = .int .i64 0 ∧ i = .int .i64 0 ∧ Below w.heap.size w wr) (fun _ _ _ => 0)
    case atStart => exact ⟨rfl, rfl, Below.refl _ _⟩
    case round =>
      obtain ⟨rfl, rfl, hbel⟩ := hrel
      have i1 : (0 : Int) < (n : Int) := by omega
      go_wp2_with (go_at_call 24; refine (specRowsOk A n c l _ (hr.on hbel) hk hn).mono ?_; rintro e w1 ⟨rfl, hb1⟩; rw [HO.out])
      go_ret
      exact ⟨ret_int HS.out.symm, bel_trans hbel hb1⟩
  · have hP := rowsOk_iff.1 hok
    have HS := Lib.hid (sumOut_ok hok)
    have HO := Lib.hid hok
    clear hok
    have h10 : n ≤ 10 := by have := hP.1; rw [HL.out] at this; exact this
    have HP := Lib.hid hP
    have HN := Lib.hid hn
    clear hP hn
    go_enter Try.func28, Try.ntmps28
    go_wp2
    go_loopw [3, 4] (fun s i wr => ∃ (k : Nat) (v : Int), k ≤ n ∧ i = .int .i64 k ∧ s = .int .i64 v ∧ Hid (v = sumTo l k) ∧ -999 * (k : Int) ≤ v ∧ v ≤ 999 * (k : Int) ∧ Below w.heap.size w wr) (fun _ i _ => n - (intOf i).toNat)
    case atStart => exact ⟨0, 0, by omega, rfl, rfl, (sumTo_zero l).symm, by omega, by omega, Below.refl _ _⟩
    case round =>
      obtain ⟨k, v, hkn, rfl, rfl, hv, hv0, hv1, hbel⟩ := hrel
      have HV0 := Lib.hid hv0
      have HV1 := Lib.hid hv1
      by_cases hlt : k < n
      · have s0 : -20000 ≤ v := by omega
        have s1 : v ≤ 20000 := by omega
        clear hv0 hv1
        obtain ⟨b, off, rfl, hb⟩ := hr.spot (by omega)
        have i0 : (0 : Int) ≤ (k : Int) := by omega
        have i1 : (k : Int) < (n : Int) := by omega
        have i2 : (n : Int) ≤ 10 := by omega
        obtain ⟨key, num, hrow⟩ : ∃ key num, l[k]? = some (key, num) := by
          obtain ⟨key, num, h, _⟩ := rowAt (hr.keep hbel) hlt
          exact ⟨key, num, h⟩
        obtain ⟨hn0, hn1⟩ := HP.out.num hrow
        have HR := Lib.hid hrow
        clear hrow
        go_wp2_with (go_at_call 24; refine (specRowsOk _ n c l _ (hr.on hbel) hk HN.out).mono ?_; rintro e w1 ⟨rfl, hb1⟩; rw [HO.out]; obtain ⟨key', num', hrow', hk1, hk2⟩ := rowAt (hr.keep (bel_trans hbel hb1)) hlt; (obtain ⟨rfl, rfl⟩ : key' = key ∧ num' = num := by (rw [HR.out] at hrow'; cases hrow'; exact ⟨rfl, rfl⟩)); clear hrow')
        go_roundw
        case rel => exact ⟨k + 1, v + num', by omega, by go_num, rfl, (by rw [sumTo_succ l k key' num' HR.out, hv.out] : v + num' = sumTo l (k + 1)), by have := HV0.out; omega, by have := HV1.out; omega, bel_trans hbel hb1⟩
        case measure => simp [intOf]; omega
      · clear hv0 hv1
        go_wp2
        go_ret
        refine ⟨ret_int ?_, hbel⟩
        rw [HS.out, hv.out, HL.out, show k = n by omega]
end Go.Proofs.Ytndeehlndbdonaa
