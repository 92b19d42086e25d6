/- The reader of the draws: l11Open, of, num. -/
import Derived.Test.YtpmeaikiaoojkaaD1
import Derived.Test.YtpmeaikiaoojkaaQ
namespace Go.Proofs.Ytpmeaikiaoojkaa
open Go.RowKit

def OfPost (w : World) (g p : Nat) (A : Option Addr) (m c : Nat) (l : List UInt8) (ss : List ByteArray) (e : Ending) (w' : World) : Prop :=
  ∃ s : ByteArray, e = .returned (.string s) ∧ s ∈ ss ∧ Rd w' g (p + 1) A m c l ∧ Turn (some ⟨g, 0, none⟩) w w'
set_option maxHeartbeats 1000000 in
theorem ofC (g p n k b off : Nat) (A : Option Addr) (m c : Nat) (l : List UInt8) (ss : List ByteArray) (w : World) (hrd : Rd w g p A m c l) (hp : p ≤ 1000000)
    (hs : Sl encT w w.heap.size (some ⟨b, off, none⟩) n ss) (hne : g ≠ b) (hn : 1 ≤ n) (hn2 : n ≤ 1000000) :
    Calls Try.prog 61 #[.pointer (some ⟨g, 0, none⟩), .slice (some ⟨b, off, none⟩) n k] w (OfPost w g p A m c l ss) := by
  have HP := Lib.hid hp
  clear hp
  go_enter Try.func61, Try.ntmps61
  go_wp2_with fail
  refine (pick g p n A m c l w hrd hn hn2 HP.out).mono ?_
  rintro e w1 ⟨v, rfl, hv, hr1, ht⟩
  have hs1 := hs.far ht (fun x hx => by cases hx; exact hne) (Nat.le_refl _)
  obtain ⟨s, hx, hc⟩ := hs1.at1 (fun _ => rfl) hv
  have hmem := List.mem_of_getElem? hx
  clear hx
  have v0 : (0 : Int) ≤ (v : Int) := by omega
  have v1 : (v : Int) < (n : Int) := by omega
  go_wp2
  go_ret
  exact ⟨s, rfl, hmem, hr1, ht⟩
def NumPost (w : World) (g p : Nat) (A : Option Addr) (m c : Nat) (l : List UInt8) (ss : List Int) (e : Ending) (w' : World) : Prop :=
  ∃ s : Int, e = .returned (.int .i64 s) ∧ s ∈ ss ∧ Rd w' g (p + 1) A m c l ∧ Turn (some ⟨g, 0, none⟩) w w'
set_option maxHeartbeats 1000000 in
theorem numC (g p n k b off : Nat) (A : Option Addr) (m c : Nat) (l : List UInt8) (ss : List Int) (w : World) (hrd : Rd w g p A m c l) (hp : p ≤ 1000000)
    (hs : Sl encI w w.heap.size (some ⟨b, off, none⟩) n ss) (hne : g ≠ b) (hn : 1 ≤ n) (hn2 : n ≤ 1000000) :
    Calls Try.prog 72 #[.pointer (some ⟨g, 0, none⟩), .slice (some ⟨b, off, none⟩) n k] w (NumPost w g p A m c l ss) := by
  have HP := Lib.hid hp
  clear hp
  go_enter Try.func72, Try.ntmps72
  go_wp2_with fail
  refine (pick g p n A m c l w hrd hn hn2 HP.out).mono ?_
  rintro e w1 ⟨v, rfl, hv, hr1, ht⟩
  have hs1 := hs.far ht (fun x hx => by cases hx; exact hne) (Nat.le_refl _)
  obtain ⟨s, hx, hc⟩ := hs1.at1 (fun _ => rfl) hv
  have hmem := List.mem_of_getElem? hx
  clear hx
  have v0 : (0 : Int) ≤ (v : Int) := by omega
  have v1 : (v : Int) < (n : Int) := by omega
  go_wp2
  go_ret
  exact ⟨s, rfl, hmem, hr1, ht⟩

/-- a row of the call's own may be new behind a turn of the reader -/
theorem Turn.alloc {A : Option Addr} {w w' : World} (h : Turn A w w') (o : Obj) : Turn A w (w'.alloc o) := h.below (bel_alloc (Below.refl _ _) o)
theorem Turn.newB {A : Option Addr} {w w' : World} (h : Turn A w w') : w.heap.size ≤ w'.heap.size := h.size

/-- the reader is opened over the code -/
theorem cell_new2 (w : World) (u v : Value) (t : TypeId) : (w.alloc (.cells #[u, v] t)).cell? ⟨w.heap.size, 0, none⟩ = some u ∧ (w.alloc (.cells #[u, v] t)).cell? ⟨w.heap.size, 1, none⟩ = some v := by
  constructor
  · rw [cell_of_row _ w.heap.size 0 #[u, v] t (0, 0) (heap_alloc_new w _)]; rfl
  · rw [cell_of_row _ w.heap.size 1 #[u, v] t (0, 0) (heap_alloc_new w _)]; rfl
def OpenPost (w : World) (e : Ending) (w' : World) : Prop :=
  ∃ (A : Option Addr) (m c : Nat) (l : List UInt8), e = .returned (.pointer (some ⟨w.heap.size, 0, none⟩)) ∧ Rd w' w.heap.size 0 A m c l ∧ Below w.heap.size w w'
theorem Rd.new (w : World) (A : Option Addr) (m c : Nat) (l : List UInt8) (hr : Sl encB w w.heap.size A m l) (hm : m ≤ 2000) :
    Rd (w.alloc (.cells #[.slice A m c, .int .i64 0] 104)) w.heap.size 0 A m c l := by
  obtain ⟨q1, q2⟩ := cell_new2 w (.slice A m c) (.int .i64 0) 104
  refine ⟨q1, q2, ?_, hr.keep (bel_alloc (Below.refl _ w) _), hm⟩
  exact World.frozen?_alloc_new ..
set_option maxHeartbeats 1000000 in
theorem l11Open (A : Option Addr) (n c : Nat) (l : List UInt8) (w : World) (hr : Sl encB w w.heap.size A n l) (hn : n ≤ 1048576) (hc : n ≤ c) :
    Calls Try.prog 40 #[.slice A n c] w (OpenPost w) := by
  by_cases hbig : 2000 < n
  · obtain ⟨b, off, rfl, hb⟩ := hr.spot (by omega)
    have h0 := hr.cut (sz := 1) encB_len 0 2000 (by omega) (by omega)
    have h1 := Rd.new w _ _ c _ h0 (by omega)
    go_enter Try.func40, Try.ntmps40
    go_wp2
    go_ret
    exact ⟨_, _, _, _, rfl, h1, bel_alloc (Below.refl _ _) _⟩
  · have h1 := Rd.new w _ _ c _ hr (by omega)
    go_enter Try.func40, Try.ntmps40
    go_wp2
    go_ret
    exact ⟨_, _, _, _, rfl, h1, bel_alloc (Below.refl _ _) _⟩
end Go.Proofs.Ytpmeaikiaoojkaa
