/- Rows bent, a key near: l1Near, l1Bent. -/
import Derived.Test.YtpmeaikiaoojkaaDoorD3
namespace Go.Proofs.YtpmeaikiaoojkaaDoor
open Go.RowKit

theorem Turn.grown {A : Option Addr} {w w1 w2 : World} {row : Option Nat} (h : Turn A w w1) (hg : w1.grownBy w2 row) (hr : ∀ k, row = some k → w.heap.size ≤ k) : Turn A w w2 :=
  ⟨hg.os.trans h.os, hg.tape.trans h.tape, hg.output.trans h.output, Nat.le_trans h.size hg.size, fun i hi hne => (hg.block i (Nat.lt_of_lt_of_le hi h.size) (fun e => by have := hr i e.symm; omega)).trans (h.block i hi hne)⟩
theorem Rd.grown {w1 w2 : World} {g p : Nat} {A : Option Addr} {m c : Nat} {l : List UInt8} {row : Option Nat} (h : Rd w1 g p A m c l) (hg : w1.grownBy w2 row) (hr : ∀ k, row = some k → g < k) : Rd w2 g p A m c l :=
  h.keep ((Below.refl (g + 1) w1).grown hg h.lt (fun k hk => hr k hk)) (Nat.lt_succ_self g)
def NearPost (w : World) (g p : Nat) (A : Option Addr) (m c : Nat) (l : List UInt8) (e : Ending) (w' : World) : Prop :=
  ∃ (s : ByteArray) (p' : Nat), e = .returned (.string s) ∧ s.size ≤ 3 ∧ p' ≤ p + 3 ∧ Rd w' g p' A m c l ∧ Turn (some ⟨g, 0, none⟩) w w'

set_option maxHeartbeats 1000000 in
set_option maxRecDepth 100000 in
theorem l1Near (g p : Nat) (A : Option Addr) (m c : Nat) (l : List UInt8) (B : Option Addr) (n cb : Nat) (lr : List Row) (w : World) (hrd : Rd w g p A m c l) (hp : p ≤ 20000)
    (hs : Sl encRow w w.heap.size B n lr) (hn : n ≤ 1000) (hne : ∀ x, B = some x → g ≠ x.block) (hsm : ∀ r ∈ lr, r.1.size ≤ 3) :
    Calls Tryd.prog 44 #[.pointer (some ⟨g, 0, none⟩), .slice B n cb] w (NearPost w g p A m c l) := by
  have HP := Lib.hid hp
  have HSM := Lib.hid hsm
  have hg := hrd.lt
  clear hp hsm
  by_cases h0 : n = 0
  · subst h0
    go_enter Tryd.func44, Tryd.ntmps44
    go_wp2_with fail
    refine (l1Key g p A m c l w hrd (by have := HP.out; omega)).mono ?_
    rintro e w1 ⟨s, rfl, hs, hr1, ht1⟩
    go_wp2
    go_ret
    exact ⟨s, p + 2, rfl, hs, by omega, hr1, ht1⟩
  · obtain ⟨b, off, rfl, hb⟩ := hs.spot (by omega)
    have hgb : g ≠ b := hne _ rfl
    have hn0 : 0 < n := by omega
    have hn1 : (0 : Int) < (n : Int) := by omega
    clear h0 hne
    go_enter Tryd.func44, Tryd.ntmps44
    go_wp2_with fail
    refine (pick g p 2 A m c l w hrd (by omega) (by omega) (by have := HP.out; omega)).mono ?_
    rintro e w1 ⟨v, rfl, hv, hr1, ht1⟩
    have hs1 := hs.far ht1 (fun x hx => by cases hx; exact hgb) ht1.size
    by_cases hv0 : v = 0
    · subst hv0
      go_wp2_with fail
      refine (pick g (p + 1) n A m c l w1 hr1 (by omega) (by omega) (by have := HP.out; omega)).mono ?_
      rintro e w2 ⟨v, rfl, hv2, hr2, ht2⟩
      have hs2 := hs1.far ht2 (fun x hx => by cases hx; exact hgb) ht2.size
      obtain ⟨key, num, hrow, hk1, hk2⟩ := rowAt hs2 hv2
      have hsz := HSM.out _ (List.mem_of_getElem? hrow)
      clear hrow
      have v0 : (0 : Int) ≤ (v : Int) := by omega
      have v1 : (v : Int) < (n : Int) := by omega
      go_wp2
      go_ret
      exact ⟨key, p + 1 + 1, rfl, hsz, by omega, hr2, ht1.trans ht2⟩
    · have hv1 : ((v : Int) == 0) = false := by simp; omega
      go_wp2_with fail
      refine (l1Key g (p + 1) A m c l w1 hr1 (by have := HP.out; omega)).mono ?_
      rintro e w2 ⟨s, rfl, hs, hr2, ht2⟩
      go_wp2
      go_ret
      exact ⟨s, p + 1 + 2, rfl, hs, by omega, hr2, ht1.trans ht2⟩

theorem Own.zero {α : Type} {enc : α → List Value} {sz : Nat} {e : TypeId} {w : World} {base n c k : Nat} {A : Option Addr} {l : List α} (h : Own enc sz e w base (.slice A n c) l) (hk : k < n) : ∃ d, A = some ⟨d, 0, none⟩ := by
  obtain ⟨b, off, rfl, -⟩ := h.sl.spot (by omega)
  have := (h.block rfl).2.2.1
  simp only at this
  subst this
  exact ⟨b, rfl⟩
theorem Turn.setOwn {A : Option Addr} {w w1 : World} {d o : Nat} (h : Turn A w w1) (hd : w.heap.size ≤ d) (u : Value) : Turn A w (w1.setCell ⟨d, o, none⟩ u) :=
  ⟨h.os, h.tape, h.output, by simpa using h.size, fun i hi hne => (Below.heap_setCell _ _ _ _ (by rintro rfl; omega)).trans (h.block i hi hne)⟩
def Small (l : List Row) : Prop := l.length ≤ 11 ∧ ∀ r ∈ l, r.1.size ≤ 3
theorem Small.wf {l : List Row} (h : Small l) : KeysWf l := wf_of_small h.2 (by omega)
theorem RowsP.sm {l : List Row} (h : RowsP l) : Small l := ⟨Nat.le_trans h.1 (by omega), fun r hr => Nat.le_trans (h.small r hr) (by omega)⟩
theorem Small.set {l : List Row} (h : Small l) (k : Nat) (x : Row) (hx : x.1.size ≤ 3) : Small (l.set k x) := by
  refine ⟨by rw [List.length_set]; exact h.1, fun r hr => ?_⟩
  rcases List.mem_or_eq_of_mem_set hr with h1 | rfl
  · exact h.2 r h1
  · exact hx
theorem Small.push {l : List Row} (h : Small l) (hl : l.length ≤ 10) (x : Row) (hx : x.1.size ≤ 3) : Small (l ++ [x]) := by
  refine ⟨by simp; omega, fun r hr => ?_⟩
  rcases List.mem_append.1 hr with h1 | h1
  · exact h.2 r h1
  · rw [List.mem_singleton.1 h1]; exact hx
def BentPost (w : World) (g p : Nat) (A : Option Addr) (m c : Nat) (l : List UInt8) (e : Ending) (w' : World) : Prop :=
  ∃ (v : Value) (lr : List Row) (p' : Nat), e = .returned v ∧ Own encRow 2 78 w' w.heap.size v lr ∧ Small lr ∧ p' ≤ p + 20 ∧ Rd w' g p' A m c l ∧ Turn (some ⟨g, 0, none⟩) w w'
def bs1 : List ByteArray := [⟨#[]⟩, ⟨#[65]⟩, ⟨#[122, 122]⟩, ⟨#[97]⟩]
theorem bs1_small : ∀ s ∈ bs1, s.size ≤ 3 := by decide
def bs2 : List ByteArray := [⟨#[97]⟩, ⟨#[122]⟩]
theorem bs2_small : ∀ s ∈ bs2, s.size ≤ 1 := by decide
def bi1 : List Int := [1000, -9223372036854775808]
def BentRel (w : World) (g p : Nat) (A : Option Addr) (m c : Nat) (l : List UInt8) (o : Value) (wr : World) : Prop :=
  ∃ (p' : Nat) (lr : List Row) (B : Option Addr) (cb : Nat), o = .slice B lr.length cb ∧ Own encRow 2 78 wr w.heap.size (.slice B lr.length cb) lr ∧ Small lr ∧ p' + (11 - lr.length) ≤ p + 20 ∧ Rd wr g p' A m c l ∧ Turn (some ⟨g, 0, none⟩) w wr

end Go.Proofs.YtpmeaikiaoojkaaDoor
