/- The reader of the draws: l11Open, of, num; a key and a number drawn. -/
import Derived.Test.YtpmeaikiaoojkaaDoorD1
import Derived.Test.YtpmeaikiaoojkaaDoorB10
namespace Go.Proofs.YtpmeaikiaoojkaaDoor
open Go.RowKit

def OfPost (w : World) (g p : Nat) (A : Option Addr) (m c : Nat) (l : List UInt8) (ss : List ByteArray) (e : Ending) (w' : World) : Prop :=
  ∃ s : ByteArray, e = .returned (.string s) ∧ s ∈ ss ∧ Rd w' g (p + 1) A m c l ∧ Turn (some ⟨g, 0, none⟩) w w'
set_option maxHeartbeats 1000000 in
theorem ofC (g p n k b off : Nat) (A : Option Addr) (m c : Nat) (l : List UInt8) (ss : List ByteArray) (w : World) (hrd : Rd w g p A m c l) (hp : p ≤ 1000000)
    (hs : Sl encT w w.heap.size (some ⟨b, off, none⟩) n ss) (hne : g ≠ b) (hn : 1 ≤ n) (hn2 : n ≤ 1000000) :
    Calls Tryd.prog 33 #[.pointer (some ⟨g, 0, none⟩), .slice (some ⟨b, off, none⟩) n k] w (OfPost w g p A m c l ss) := by
  have HP := Lib.hid hp
  clear hp
  go_enter Tryd.func33, Tryd.ntmps33
  go_wp2_with fail
  refine (pick g p n A m c l w hrd hn hn2 HP.out).mono ?_
  rintro e w1 ⟨v, rfl, hv, hr1, ht⟩
  have hs1 := hs.far ht (fun x hx => by cases hx; exact hne) (Nat.le_refl _)
  obtain ⟨s, hx, hc⟩ := hs1.at1 (fun _ => rfl) hv
  have hmem := List.mem_of_getElem? hx
  clear hx
  have v0 : (0 : Int) ≤ (v : Int) := by omega
  have v1 : (v : Int) < (n : Int) := by omega
  go_wp2
  go_ret
  exact ⟨s, rfl, hmem, hr1, ht⟩
def NumPickPost (w : World) (g p : Nat) (A : Option Addr) (m c : Nat) (l : List UInt8) (ss : List Int) (e : Ending) (w' : World) : Prop :=
  ∃ s : Int, e = .returned (.int .i64 s) ∧ s ∈ ss ∧ Rd w' g (p + 1) A m c l ∧ Turn (some ⟨g, 0, none⟩) w w'
set_option maxHeartbeats 1000000 in
theorem numC (g p n k b off : Nat) (A : Option Addr) (m c : Nat) (l : List UInt8) (ss : List Int) (w : World) (hrd : Rd w g p A m c l) (hp : p ≤ 1000000)
    (hs : Sl encI w w.heap.size (some ⟨b, off, none⟩) n ss) (hne : g ≠ b) (hn : 1 ≤ n) (hn2 : n ≤ 1000000) :
    Calls Tryd.prog 43 #[.pointer (some ⟨g, 0, none⟩), .slice (some ⟨b, off, none⟩) n k] w (NumPickPost w g p A m c l ss) := by
  have HP := Lib.hid hp
  clear hp
  go_enter Tryd.func43, Tryd.ntmps43
  go_wp2_with fail
  refine (pick g p n A m c l w hrd hn hn2 HP.out).mono ?_
  rintro e w1 ⟨v, rfl, hv, hr1, ht⟩
  have hs1 := hs.far ht (fun x hx => by cases hx; exact hne) (Nat.le_refl _)
  obtain ⟨s, hx, hc⟩ := hs1.at1 (fun _ => rfl) hv
  have hmem := List.mem_of_getElem? hx
  clear hx
  have v0 : (0 : Int) ≤ (v : Int) := by omega
  have v1 : (v : Int) < (n : Int) := by omega
  go_wp2
  go_ret
  exact ⟨s, rfl, hmem, hr1, ht⟩

/-- a row of the call's own may be new behind a turn of the reader -/
theorem Turn.alloc {A : Option Addr} {w w' : World} (h : Turn A w w') (o : Obj) : Turn A w (w'.alloc o) := h.below (bel_alloc (Below.refl _ _) o)
theorem Turn.newB {A : Option Addr} {w w' : World} (h : Turn A w w') : w.heap.size ≤ w'.heap.size := h.size

def KeyPost (w : World) (g p : Nat) (A : Option Addr) (m c : Nat) (l : List UInt8) (e : Ending) (w' : World) : Prop :=
  ∃ s : ByteArray, e = .returned (.string s) ∧ s.size ≤ 3 ∧ Rd w' g (p + 2) A m c l ∧ Turn (some ⟨g, 0, none⟩) w w'
def ks1 : List ByteArray := [⟨#[]⟩, ⟨#[97, 98, 99]⟩, ⟨#[65]⟩, ⟨#[97, 49]⟩, ⟨#[32]⟩]
def ks2 : List ByteArray := [⟨#[97]⟩, ⟨#[98]⟩, ⟨#[99]⟩, ⟨#[100]⟩, ⟨#[97, 98]⟩, ⟨#[97, 99]⟩, ⟨#[98, 98]⟩, ⟨#[122]⟩, ⟨#[101]⟩, ⟨#[102]⟩, ⟨#[103]⟩, ⟨#[104]⟩]
theorem ks1_small : ∀ s ∈ ks1, s.size ≤ 3 := by decide
theorem ks2_small : ∀ s ∈ ks2, s.size ≤ 3 := by decide
set_option maxHeartbeats 1000000 in
set_option maxRecDepth 100000 in
theorem l1Key (g p : Nat) (A : Option Addr) (m c : Nat) (l : List UInt8) (w : World) (hrd : Rd w g p A m c l) (hp : p ≤ 100000) :
    Calls Tryd.prog 47 #[.pointer (some ⟨g, 0, none⟩)] w (KeyPost w g p A m c l) := by
  have HP := Lib.hid hp
  clear hp
  go_enter Tryd.func47, Tryd.ntmps47
  go_wp2_with fail
  refine (pick g p 20 A m c l w hrd (by omega) (by omega) (Nat.le_trans HP.out (by omega))).mono ?_
  rintro e w1 ⟨v, rfl, hv, hr1, ht1⟩
  have hg := hr1.lt
  by_cases hv0 : v = 0
  · subst hv0
    go_wp2_with fail
    have hr2 := hr1.on (bel_alloc (Below.refl _ w1) (.cells #[.string ⟨#[]⟩, .string ⟨#[97, 98, 99]⟩, .string ⟨#[65]⟩, .string ⟨#[97, 49]⟩, .string ⟨#[32]⟩] 9))
    refine (ofC g (p + 1) 5 5 w1.heap.size 0 A m c l ks1 _ hr2 (by have := HP.out; omega) (Sl.lit w1 _ 9 ks1 rfl 5 rfl) (by omega) (by omega) (by omega)).mono ?_
    rintro e w2 ⟨s, rfl, hs, hr3, ht3⟩
    go_wp2
    go_ret
    exact ⟨s, rfl, ks1_small s hs, hr3, (ht1.alloc _).trans ht3⟩
  · have hv1 : ((v : Int) == 0) = false := by simp; omega
    go_wp2_with fail
    have hr2 := hr1.on (bel_alloc (Below.refl _ w1) (.cells #[.string ⟨#[97]⟩, .string ⟨#[98]⟩, .string ⟨#[99]⟩, .string ⟨#[100]⟩, .string ⟨#[97, 98]⟩, .string ⟨#[97, 99]⟩, .string ⟨#[98, 98]⟩, .string ⟨#[122]⟩, .string ⟨#[101]⟩, .string ⟨#[102]⟩, .string ⟨#[103]⟩, .string ⟨#[104]⟩] 9))
    refine (ofC g (p + 1) 12 12 w1.heap.size 0 A m c l ks2 _ hr2 (by have := HP.out; omega) (Sl.lit w1 _ 9 ks2 rfl 12 rfl) (by omega) (by omega) (by omega)).mono ?_
    rintro e w2 ⟨s, rfl, hs, hr3, ht3⟩
    go_wp2
    go_ret
    exact ⟨s, rfl, ks2_small s hs, hr3, (ht1.alloc _).trans ht3⟩
def ValPost (w : World) (g p : Nat) (A : Option Addr) (m c : Nat) (l : List UInt8) (e : Ending) (w' : World) : Prop :=
  ∃ s : Int, e = .returned (.int .i64 s) ∧ (-9223372036854775808 ≤ s ∧ s ≤ 9223372036854775807) ∧ Rd w' g (p + 2) A m c l ∧ Turn (some ⟨g, 0, none⟩) w w'
def vs1 : List Int := [1000, -1000, 9223372036854775807, -9223372036854775808]
def vs2 : List Int := [0, 1, 2, 3, -1, -7, 40, 500, 999, -999]
theorem vs1_small : ∀ s ∈ vs1, -9223372036854775808 ≤ s ∧ s ≤ 9223372036854775807 := by decide
theorem vs2_small : ∀ s ∈ vs2, -9223372036854775808 ≤ s ∧ s ≤ 9223372036854775807 := by decide
set_option maxHeartbeats 1000000 in
set_option maxRecDepth 100000 in
theorem l1Value (g p : Nat) (A : Option Addr) (m c : Nat) (l : List UInt8) (w : World) (hrd : Rd w g p A m c l) (hp : p ≤ 100000) :
    Calls Tryd.prog 45 #[.pointer (some ⟨g, 0, none⟩)] w (ValPost w g p A m c l) := by
  have HP := Lib.hid hp
  clear hp
  go_enter Tryd.func45, Tryd.ntmps45
  go_wp2_with fail
  refine (pick g p 20 A m c l w hrd (by omega) (by omega) (Nat.le_trans HP.out (by omega))).mono ?_
  rintro e w1 ⟨v, rfl, hv, hr1, ht1⟩
  have hg := hr1.lt
  by_cases hv0 : v = 0
  · subst hv0
    go_wp2_with fail
    have hr2 := hr1.on (bel_alloc (Below.refl _ w1) (.cells #[.int .i64 1000, .int .i64 (-1000), .int .i64 9223372036854775807, .int .i64 (-9223372036854775808)] 3))
    refine (numC g (p + 1) 4 4 w1.heap.size 0 A m c l vs1 _ hr2 (by have := HP.out; omega) (Sl.lit w1 _ 3 vs1 rfl 4 rfl) (by omega) (by omega) (by omega)).mono ?_
    rintro e w2 ⟨s, rfl, hs, hr3, ht3⟩
    go_wp2
    go_ret
    exact ⟨s, rfl, vs1_small s hs, hr3, (ht1.alloc _).trans ht3⟩
  · have hv1 : ((v : Int) == 0) = false := by simp; omega
    go_wp2_with fail
    have hr2 := hr1.on (bel_alloc (Below.refl _ w1) (.cells #[.int .i64 0, .int .i64 1, .int .i64 2, .int .i64 3, .int .i64 (-1), .int .i64 (-7), .int .i64 40, .int .i64 500, .int .i64 999, .int .i64 (-999)] 3))
    refine (numC g (p + 1) 10 10 w1.heap.size 0 A m c l vs2 _ hr2 (by have := HP.out; omega) (Sl.lit w1 _ 3 vs2 rfl 10 rfl) (by omega) (by omega) (by omega)).mono ?_
    rintro e w2 ⟨s, rfl, hs, hr3, ht3⟩
    go_wp2
    go_ret
    exact ⟨s, rfl, vs2_small s hs, hr3, (ht1.alloc _).trans ht3⟩

/-- the reader is opened over the code -/
def OpenPost (w : World) (e : Ending) (w' : World) : Prop :=
  ∃ (A : Option Addr) (m c : Nat) (l : List UInt8), e = .returned (.pointer (some ⟨w.heap.size, 0, none⟩)) ∧ Rd w' w.heap.size 0 A m c l ∧ Below w.heap.size w w'
theorem Rd.new (w : World) (A : Option Addr) (m c : Nat) (l : List UInt8) (hr : Sl encB w w.heap.size A m l) (hm : m ≤ 2000) :
    Rd (w.alloc (.cells #[.slice A m c, .int .i64 0] 67)) w.heap.size 0 A m c l := by
  obtain ⟨q1, q2⟩ := cell_new2 w (.slice A m c) (.int .i64 0) 67
  refine ⟨q1, q2, ?_, hr.keep (bel_alloc (Below.refl _ w) _), hm⟩
  exact World.frozen?_alloc_new ..
set_option maxHeartbeats 1000000 in
theorem l11Open (A : Option Addr) (n c : Nat) (l : List UInt8) (w : World) (hr : Sl encB w w.heap.size A n l) (hn : n ≤ 1048576) (hc : n ≤ c) :
    Calls Tryd.prog 29 #[.slice A n c] w (OpenPost w) := by
  by_cases hbig : 2000 < n
  · obtain ⟨b, off, rfl, hb⟩ := hr.spot (by omega)
    have h0 := hr.cut (sz := 1) encB_len 0 2000 (by omega) (by omega)
    have h1 := Rd.new w _ _ c _ h0 (by omega)
    go_enter Tryd.func29, Tryd.ntmps29
    go_wp2
    go_ret
    exact ⟨_, _, _, _, rfl, h1, bel_alloc (Below.refl _ _) _⟩
  · have h1 := Rd.new w _ _ c _ hr (by omega)
    go_enter Tryd.func29, Tryd.ntmps29
    go_wp2
    go_ret
    exact ⟨_, _, _, _, rfl, h1, bel_alloc (Below.refl _ _) _⟩
end Go.Proofs.YtpmeaikiaoojkaaDoor
