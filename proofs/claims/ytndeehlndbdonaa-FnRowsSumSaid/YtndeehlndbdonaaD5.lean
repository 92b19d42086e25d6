/- The draws of chapter 1. -/
import Derived.Test.YtndeehlndbdonaaD4
import Derived.Test.YtndeehlndbdonaaB13
namespace Go.Proofs.Ytndeehlndbdonaa
open Go.RowKit

theorem Rd.bel {w0 w w' : World} {g : Nat} (hb : Below w0.heap.size w0 w) (ht : Turn (some ⟨g, 0, none⟩) w w') (hg : w0.heap.size ≤ g) : Below w0.heap.size w0 w' :=
  ht.bel hb (fun x hx => by cases hx; exact hg)

def DrewPost (w : World) (e : Ending) (w' : World) : Prop :=
  ∃ (A : Option Addr) (c : Nat) (lr : List Row), e = .returned (.slice A lr.length c) ∧ Own encRow 2 46 w' w.heap.size (.slice A lr.length c) lr ∧ Small lr ∧ Below w.heap.size w w'
set_option maxHeartbeats 1000000 in
set_option maxRecDepth 100000 in
theorem drawRowsOk (A : Option Addr) (n c : Nat) (l : List UInt8) (w : World) (hr : Sl encB w w.heap.size A n l) (hn : n ≤ 1048576) (hc : n ≤ c) :
    Calls Try.prog 42 #[.slice A n c] w (DrewPost w) := by
  have HN := Lib.hid hn
  have HC := Lib.hid hc
  clear hn hc
  go_enter Try.func42, Try.ntmps42
  go_wp2_with fail
  refine (l11Open A n c l w hr HN.out HC.out).mono ?_
  rintro e w1 ⟨B, m, cb, lb, rfl, r1, b1⟩
  go_wp2_with fail
  refine (l1Rows w.heap.size 0 B m cb lb w1 r1 (by omega)).mono ?_
  rintro e w2 ⟨v2, l2, p2, rfl, o2, hP2, hp2, r2, t2⟩
  obtain ⟨D2, c2, rfl, -, -⟩ := o2.form
  have b2 := Rd.bel b1 t2 (Nat.le_refl _)
  go_wp2_with fail
  refine (l1Bent w.heap.size p2 B m cb lb D2 l2.length c2 l2 w2 r2 (by omega) o2.sl hP2).mono ?_
  rintro e w3 ⟨v3, l3, p3, rfl, o3, hS3, hp3, r3, t3⟩
  obtain ⟨D3, c3, rfl, -, -⟩ := o3.form
  have b3 := Rd.bel b2 t3 (Nat.le_refl _)
  go_wp2
  go_ret
  exact ⟨D3, c3, l3, rfl, o3.lower b2.size, hS3, b3⟩
set_option maxHeartbeats 1000000 in
theorem drawRowsSum (A : Option Addr) (n c : Nat) (l : List UInt8) (w : World) (hr : Sl encB w w.heap.size A n l) (hn : n ≤ 1048576) (hc : n ≤ c) :
    Calls Try.prog 32 #[.slice A n c] w (DrewPost w) := by
  have HN := Lib.hid hn
  have HC := Lib.hid hc
  clear hn hc
  go_enter Try.func32, Try.ntmps32
  go_wp2_with fail
  refine (drawRowsOk A n c l w hr HN.out HC.out).mono ?_
  rintro e w1 ⟨B, cb, lb, rfl, o1, hS, b1⟩
  go_wp2
  go_ret
  exact ⟨B, cb, lb, rfl, o1, hS, b1⟩

def DrewKeyPost (w : World) (e : Ending) (w' : World) : Prop :=
  ∃ (A : Option Addr) (c : Nat) (lr : List Row) (k : ByteArray), e = .returned (.tuple #[.slice A lr.length c, .string k]) ∧ Own encRow 2 46 w' w.heap.size (.slice A lr.length c) lr ∧ Small lr ∧ k.size ≤ 3 ∧ Below w.heap.size w w'
set_option maxHeartbeats 1000000 in
set_option maxRecDepth 100000 in
theorem drawRowsGet (A : Option Addr) (n c : Nat) (l : List UInt8) (w : World) (hr : Sl encB w w.heap.size A n l) (hn : n ≤ 1048576) (hc : n ≤ c) :
    Calls Try.prog 78 #[.slice A n c] w (DrewKeyPost w) := by
  have HN := Lib.hid hn
  have HC := Lib.hid hc
  clear hn hc
  go_enter Try.func78, Try.ntmps78
  go_wp2_with fail
  refine (l11Open A n c l w hr HN.out HC.out).mono ?_
  rintro e w1 ⟨B, m, cb, lb, rfl, r1, b1⟩
  go_wp2_with fail
  refine (l1Rows w.heap.size 0 B m cb lb w1 r1 (by omega)).mono ?_
  rintro e w2 ⟨v2, l2, p2, rfl, o2, hP2, hp2, r2, t2⟩
  obtain ⟨D2, c2, rfl, -, -⟩ := o2.form
  have b2 := Rd.bel b1 t2 (Nat.le_refl _)
  go_wp2_with fail
  refine (l1Bent w.heap.size p2 B m cb lb D2 l2.length c2 l2 w2 r2 (by omega) o2.sl hP2).mono ?_
  rintro e w3 ⟨v3, l3, p3, rfl, o3, hS3, hp3, r3, t3⟩
  obtain ⟨D3, c3, rfl, -, -⟩ := o3.form
  have b3 := Rd.bel b2 t3 (Nat.le_refl _)
  have hg2 := r2.lt
  clear o2 hP2 r2 t2 r1
  go_wp2_with fail
  refine (l1Near w.heap.size p3 B m cb lb D3 l3.length c3 l3 w3 r3 (by omega) o3.sl (by have := hS3.1; omega) (fun x hx => by have := (o3.block hx).1; omega) hS3.2).mono ?_
  rintro e w4 ⟨s, p4, rfl, hs4, hp4, r4, t4⟩
  have o4 := o3.farRd t4 hg2
  have b4 := Rd.bel b3 t4 (Nat.le_refl _)
  go_wp2
  go_ret2
  exact ⟨D3, c3, l3, s, rfl, o4.lower b2.size, hS3, hs4, b4⟩
set_option maxHeartbeats 1000000 in
theorem drawRowsCut (A : Option Addr) (n c : Nat) (l : List UInt8) (w : World) (hr : Sl encB w w.heap.size A n l) (hn : n ≤ 1048576) (hc : n ≤ c) :
    Calls Try.prog 50 #[.slice A n c] w (DrewKeyPost w) := by
  have HN := Lib.hid hn
  have HC := Lib.hid hc
  clear hn hc
  go_enter Try.func50, Try.ntmps50
  go_wp2_with fail
  refine (drawRowsGet A n c l w hr HN.out HC.out).mono ?_
  rintro e w1 ⟨B, cb, lb, k, rfl, o1, hS, hk, b1⟩
  go_wp2
  go_ret2
  exact ⟨B, cb, lb, k, rfl, o1, hS, hk, b1⟩

def DrewPutPost (w : World) (e : Ending) (w' : World) : Prop :=
  ∃ (A : Option Addr) (c : Nat) (lr : List Row) (k : ByteArray) (num : Int), e = .returned (.tuple #[.slice A lr.length c, .string k, .int .i64 num]) ∧ Own encRow 2 46 w' w.heap.size (.slice A lr.length c) lr ∧ Small lr ∧ k.size ≤ 3 ∧ (-9223372036854775808 ≤ num ∧ num ≤ 9223372036854775807) ∧ Below w.heap.size w w'
set_option maxHeartbeats 1000000 in
set_option maxRecDepth 100000 in
theorem drawRowsPut (A : Option Addr) (n c : Nat) (l : List UInt8) (w : World) (hr : Sl encB w w.heap.size A n l) (hn : n ≤ 1048576) (hc : n ≤ c) :
    Calls Try.prog 47 #[.slice A n c] w (DrewPutPost w) := by
  have HN := Lib.hid hn
  have HC := Lib.hid hc
  clear hn hc
  go_enter Try.func47, Try.ntmps47
  go_wp2_with fail
  refine (l11Open A n c l w hr HN.out HC.out).mono ?_
  rintro e w1 ⟨B, m, cb, lb, rfl, r1, b1⟩
  go_wp2_with fail
  refine (l1Rows w.heap.size 0 B m cb lb w1 r1 (by omega)).mono ?_
  rintro e w2 ⟨v2, l2, p2, rfl, o2, hP2, hp2, r2, t2⟩
  obtain ⟨D2, c2, rfl, -, -⟩ := o2.form
  have b2 := Rd.bel b1 t2 (Nat.le_refl _)
  go_wp2_with fail
  refine (l1Bent w.heap.size p2 B m cb lb D2 l2.length c2 l2 w2 r2 (by omega) o2.sl hP2).mono ?_
  rintro e w3 ⟨v3, l3, p3, rfl, o3, hS3, hp3, r3, t3⟩
  obtain ⟨D3, c3, rfl, -, -⟩ := o3.form
  have b3 := Rd.bel b2 t3 (Nat.le_refl _)
  have hg2 := r2.lt
  clear o2 hP2 r2 t2 r1
  go_wp2_with fail
  refine (l1Near w.heap.size p3 B m cb lb D3 l3.length c3 l3 w3 r3 (by omega) o3.sl (by have := hS3.1; omega) (fun x hx => by have := (o3.block hx).1; omega) hS3.2).mono ?_
  rintro e w4 ⟨s, p4, rfl, hs4, hp4, r4, t4⟩
  have o4 := o3.farRd t4 hg2
  have b4 := Rd.bel b3 t4 (Nat.le_refl _)
  go_wp2_with fail
  refine (l1Value w.heap.size p4 B m cb lb w4 r4 (by omega)).mono ?_
  rintro e w5 ⟨num, rfl, hnum, r5, t5⟩
  have o5 := o4.farRd t5 hg2
  have b5 := Rd.bel b4 t5 (Nat.le_refl _)
  go_wp2
  refine bodyPost_ret (v := .tuple #[.slice D3 l3.length c3, .string s, .int .i64 num]) (by simp [results, Try.results47, go_sem]) rfl ?_
  exact ⟨D3, c3, l3, s, num, rfl, o5.lower b2.size, hS3, hs4, hnum, b5⟩

def DrewInPost (w : World) (e : Ending) (w' : World) : Prop :=
  ∃ (A : Option Addr) (c : Nat) (lr : List Row) (lo hi : ByteArray), e = .returned (.tuple #[.slice A lr.length c, .string lo, .string hi]) ∧ Own encRow 2 46 w' w.heap.size (.slice A lr.length c) lr ∧ Small lr ∧ lo.size ≤ 3 ∧ hi.size ≤ 3 ∧ Below w.heap.size w w'
def bs3 : List ByteArray := [⟨#[]⟩, ⟨#[97]⟩, ⟨#[122, 122, 122]⟩]
theorem bs3_small : ∀ s ∈ bs3, s.size ≤ 3 := by decide
set_option maxHeartbeats 1000000 in
set_option maxRecDepth 100000 in
theorem drawRowsIn (A : Option Addr) (n c : Nat) (l : List UInt8) (w : World) (hr : Sl encB w w.heap.size A n l) (hn : n ≤ 1048576) (hc : n ≤ c) :
    Calls Try.prog 46 #[.slice A n c] w (DrewInPost w) := by
  have HN := Lib.hid hn
  have HC := Lib.hid hc
  clear hn hc
  go_enter Try.func46, Try.ntmps46
  go_wp2_with fail
  refine (l11Open A n c l w hr HN.out HC.out).mono ?_
  rintro e w1 ⟨B, m, cb, lb, rfl, r1, b1⟩
  go_wp2_with fail
  refine (l1Rows w.heap.size 0 B m cb lb w1 r1 (by omega)).mono ?_
  rintro e w2 ⟨v2, l2, p2, rfl, o2, hP2, hp2, r2, t2⟩
  obtain ⟨D2, c2, rfl, -, -⟩ := o2.form
  have b2 := Rd.bel b1 t2 (Nat.le_refl _)
  go_wp2_with fail
  refine (l1Bent w.heap.size p2 B m cb lb D2 l2.length c2 l2 w2 r2 (by omega) o2.sl hP2).mono ?_
  rintro e w3 ⟨v3, l3, p3, rfl, o3, hS3, hp3, r3, t3⟩
  obtain ⟨D3, c3, rfl, -, -⟩ := o3.form
  have b3 := Rd.bel b2 t3 (Nat.le_refl _)
  have hg2 := r2.lt
  clear o2 hP2 r2 t2 r1
  go_wp2_with fail
  refine (l1Near w.heap.size p3 B m cb lb D3 l3.length c3 l3 w3 r3 (by omega) o3.sl (by have := hS3.1; omega) (fun x hx => by have := (o3.block hx).1; omega) hS3.2).mono ?_
  rintro e w4 ⟨s, p4, rfl, hs4, hp4, r4, t4⟩
  have o4 := o3.farRd t4 hg2
  have b4 := Rd.bel b3 t4 (Nat.le_refl _)
  go_wp2_with fail
  refine (pick w.heap.size p4 3 B m cb lb w4 r4 (by omega) (by omega) (by omega)).mono ?_
  rintro e w5 ⟨v, rfl, hv, r5, t5⟩
  have o5 := o4.farRd t5 hg2
  have b5 := Rd.bel b4 t5 (Nat.le_refl _)
  clear o3 o4 r3 r4
  by_cases hv0 : v = 0
  · subst hv0
    go_wp2_with fail
    have b6 := bel_alloc (Below.refl _ w5) (.cells #[.string ⟨#[]⟩, .string ⟨#[97]⟩, .string ⟨#[122, 122, 122]⟩] 9)
    refine (ofC w.heap.size (p4 + 1) 3 3 w5.heap.size 0 B m cb lb bs3 _ (r5.on b6) (by omega) (Sl.lit w5 _ 9 bs3 rfl 3 rfl) (by have := r5.lt; omega) (by omega) (by omega)).mono ?_
    rintro e w7 ⟨lo, rfl, hlo, r7, t7⟩
    have o7 := (o5.on b6).farRd t7 hg2
    have b7 := Rd.bel (bel_trans b5 b6) t7 (Nat.le_refl _)
    have hlo3 := bs3_small lo hlo
    clear hlo
    go_wp2_with fail
    refine (l1Near w.heap.size (p4 + 1 + 1) B m cb lb D3 l3.length c3 l3 w7 r7 (by omega) o7.sl (by have := hS3.1; omega) (fun x hx => by have := (o7.block hx).1; omega) hS3.2).mono ?_
    rintro e w8 ⟨hi, p8, rfl, hhi, hp8, r8, t8⟩
    have o8 := o7.farRd t8 hg2
    have b8 := Rd.bel b7 t8 (Nat.le_refl _)
    go_wp2
    refine bodyPost_ret (v := .tuple #[.slice D3 l3.length c3, .string lo, .string hi]) (by simp [results, Try.results46, go_sem]) rfl ?_
    exact ⟨D3, c3, l3, lo, hi, rfl, o8.lower b2.size, hS3, hlo3, hhi, b8⟩
  · have hv1 : ((v : Int) == 0) = false := by simp; omega
    clear hv0
    go_wp2_with fail
    refine (l1Near w.heap.size (p4 + 1) B m cb lb D3 l3.length c3 l3 w5 r5 (by omega) o5.sl (by have := hS3.1; omega) (fun x hx => by have := (o5.block hx).1; omega) hS3.2).mono ?_
    rintro e w8 ⟨hi, p8, rfl, hhi, hp8, r8, t8⟩
    have o8 := o5.farRd t8 hg2
    have b8 := Rd.bel b5 t8 (Nat.le_refl _)
    go_wp2
    refine bodyPost_ret (v := .tuple #[.slice D3 l3.length c3, .string s, .string hi]) (by simp [results, Try.results46, go_sem]) rfl ?_
    exact ⟨D3, c3, l3, s, hi, rfl, o8.lower b2.size, hS3, hs4, hhi, b8⟩
end Go.Proofs.Ytndeehlndbdonaa
