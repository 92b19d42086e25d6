/- Rows drawn: l1Rows, l1Near. -/
import Derived.Test.YtpmeaikiaoojkaaDoorD2
import Derived.Test.YtpmeaikiaoojkaaDoorB11
namespace Go.Proofs.YtpmeaikiaoojkaaDoor
open Go.RowKit

theorem Own.farRd {α : Type} {enc : α → List Value} {sz : Nat} {e : TypeId} {w w' : World} {base g : Nat} {v : Value} {l : List α} (h : Own enc sz e w base v l) (ht : Turn (some ⟨g, 0, none⟩) w w') (hg : g < base) : Own enc sz e w' base v l := by
  obtain ⟨A, c, rfl, -, -⟩ := h.form
  exact h.far ht (fun x y hx hy => by cases hx; have := (h.block hy).1; simp only; omega)
theorem RowsP.small {l : List Row} (h : RowsP l) : ∀ r ∈ l, r.1.size ≤ 2 := by
  intro r hr
  obtain ⟨i, hi⟩ := List.mem_iff_getElem?.1 hr
  exact keyOk_size (h.2.1 i r hi).1
theorem wf_of_small {l : List Row} {k : Nat} (h : ∀ r ∈ l, r.1.size ≤ k) (hk : k ≤ 1000) : KeysWf l := fun r hr => Nat.le_trans (h r hr) (by unfold maxLen; omega)
theorem rowsP_nil : RowsP [] := ⟨by simp, fun i r h => by simp at h, fun i a b h => by simp at h⟩

def DrawnPost (w : World) (g p : Nat) (A : Option Addr) (m c : Nat) (l : List UInt8) (e : Ending) (w' : World) : Prop :=
  ∃ (v : Value) (lr : List Row) (p' : Nat), e = .returned v ∧ Own encRow 2 78 w' w.heap.size v lr ∧ RowsP lr ∧ p' ≤ p + 57 ∧ Rd w' g p' A m c l ∧ Turn (some ⟨g, 0, none⟩) w w'
def is1 : List Int := [2, 4, 6, 0, 1, 14]
theorem is1_small : ∀ s ∈ is1, ∃ k : Nat, s = (k : Int) ∧ k ≤ 14 := by
  intro s hs
  simp only [is1, List.mem_cons, List.not_mem_nil, or_false] at hs
  exact ⟨s.toNat, by omega, by omega⟩
def DrawRel (w : World) (g p : Nat) (A : Option Addr) (m c : Nat) (l : List UInt8) (o i : Value) (wr : World) : Prop :=
  ∃ (k p' : Nat) (lr : List Row) (B : Option Addr) (cb : Nat), i = .int .i64 (k : Int) ∧ k ≤ 14 ∧ o = .slice B lr.length cb ∧ Own encRow 2 78 wr w.heap.size (.slice B lr.length cb) lr ∧ RowsP lr ∧ p' + 4 * k ≤ p + 57 ∧ Rd wr g p' A m c l ∧ Turn (some ⟨g, 0, none⟩) w wr

set_option maxHeartbeats 2000000 in
set_option maxRecDepth 100000 in
theorem l1Rows (g p : Nat) (A : Option Addr) (m c : Nat) (l : List UInt8) (w : World) (hrd : Rd w g p A m c l) (hp : p ≤ 10000) :
    Calls Tryd.prog 31 #[.pointer (some ⟨g, 0, none⟩)] w (DrawnPost w g p A m c l) := by
  have HP := Lib.hid hp
  have hg := hrd.lt
  clear hp
  go_enter Tryd.func31, Tryd.ntmps31
  go_wp2_with fail
  have r1 := (hrd.on (bel_alloc (Below.refl _ w) (.cells #[] 78)))
  have r2 := r1.on (bel_alloc (Below.refl _ (w.alloc (.cells #[] 78))) (.cells #[.int .i64 2, .int .i64 4, .int .i64 6, .int .i64 0, .int .i64 1, .int .i64 14] 3))
  have o1 := Own.alloc (Own.made0 (enc := encRow) (sz := 2) (e := 78) w (Nat.le_refl w.heap.size)) (.cells #[.int .i64 2, .int .i64 4, .int .i64 6, .int .i64 0, .int .i64 1, .int .i64 14] 3)
  refine (numC g p 6 6 (w.heap.size + 1) 0 A m c l is1 _ r2 (by have := HP.out; omega) (by have := Sl.lit (enc := encI) (w.alloc (.cells #[] 78)) #[.int .i64 2, .int .i64 4, .int .i64 6, .int .i64 0, .int .i64 1, .int .i64 14] 3 is1 rfl 6 rfl; simpa using this) (by omega) (by omega) (by omega)).mono ?_
  rintro e w1 ⟨s, rfl, hs, hr3, ht3⟩
  obtain ⟨k0, rfl, hk0⟩ := is1_small s hs
  have o2 := o1.farRd ht3 hg
  have t1 : Turn (some ⟨g, 0, none⟩) w w1 := (((Turn.refl _ w).alloc _).alloc _).trans ht3
  clear r1 r2 o1 ht3 hs
  go_wp2
  go_loopw [3, 4] (DrawRel w g p A m c l) (fun _ i _ => (intOf i).toNat)
  case atStart => exact ⟨k0, p + 1, [], some ⟨w.heap.size, 0, none⟩, 0, rfl, hk0, rfl, o2, rowsP_nil, by omega, hr3, t1⟩
  case round =>
    obtain ⟨k, p', lr, B, cb, rfl, hk, rfl, ho, hP, hp', hr, ht⟩ := hrel
    clear o2 t1 hr3 hk0
    by_cases hk1 : 0 < k
    · have hp2 : p' ≤ 20000 := by have := HP.out; omega
      have HP2 := Lib.hid hp2
      have HP3 := Lib.hid hp'
      have HLn := Lib.hid hP.1
      clear hp2 hp'
      go_wp2_with fail
      refine (l1Key g p' A m c l _ hr (by have := HP2.out; omega)).mono ?_
      rintro e w2 ⟨s, rfl, hs, hr2, ht2⟩
      have o3 := ho.farRd ht2 hg
      go_wp2_with fail
      refine (l1Value g (p' + 2) A m c l _ hr2 (by have := HP2.out; omega)).mono ?_
      rintro e w3 ⟨num, rfl, -, hr3, ht3⟩
      have o4 := o3.farRd ht3 hg
      go_wp2_with fail
      refine (l1Put B lr.length cb lr s num w3 o4.sl (by have := HLn.out; omega) o4.fine).mono ?_
      rintro e w4 ⟨v4, rfl, ho4, hb4⟩
      obtain ⟨D, cd, rfl, -, -⟩ := ho4.form
      have t4 : Turn (some ⟨g, 0, none⟩) w w4 := ((ht.trans ht2).trans ht3).below hb4
      have r4 := hr3.on hb4
      have o5 := o4.on hb4
      have hpl := putL_len lr s num
      have hkw := putL_keys (num := num) (wf_of_small hP.small (by omega)) (show s.size ≤ maxLen by unfold maxLen; omega)
      have HPL := Lib.hid hpl
      clear hpl
      generalize hN : putL lr s num = N at *
      go_wp2_with fail
      refine (specRowsOk D N.length cd N w4 ho4.sl hkw (by have := HPL.out; have := HLn.out; omega)).mono ?_
      rintro e w5 ⟨rfl, hb5⟩
      have z4 : w.heap.size ≤ w3.heap.size := ((ht.trans ht2).trans ht3).size
      have o6 := o5.on hb5
      have o7 := (ho4.on hb5).lower z4
      have r5 := r4.on hb5
      have t5 := t4.below hb5
      cases hok : rowsOk N
      · clear hN
        go_wp2
        go_roundw
        case rel => exact ⟨k - 1, p' + 4, lr, B, cb, by rw [show ((k - 1 : Nat) : Int) = (k : Int) - 1 by omega], by omega, rfl, o6, hP, by have := HP3.out; omega, r5, t5⟩
        case measure => simp [intOf]; omega
      · have hP2 := rowsOk_iff.1 hok
        clear hN
        go_wp2
        go_roundw
        case rel => exact ⟨k - 1, p' + 4, N, D, cd, by rw [show ((k - 1 : Nat) : Int) = (k : Int) - 1 by omega], by omega, rfl, o7, hP2, by have := HP3.out; omega, r5, t5⟩
        case measure => simp [intOf]; omega
    · go_wp2
      go_ret
      exact ⟨_, lr, p', rfl, ho, hP, by omega, hr, ht⟩
end Go.Proofs.YtpmeaikiaoojkaaDoor
