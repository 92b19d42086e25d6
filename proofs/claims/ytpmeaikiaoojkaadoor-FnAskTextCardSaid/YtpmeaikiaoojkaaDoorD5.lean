/- What one asks, drawn: l4Ask. -/
import Derived.Test.YtpmeaikiaoojkaaDoorD4
import Derived.Test.YtpmeaikiaoojkaaDoorS3
namespace Go.Proofs.YtpmeaikiaoojkaaDoor
open Go.RowKit

def aks : List Int := [1, 1, 2, 3, 4, 4, 4, 5, 5, 6, 7, 7, 8, 8, 9]
def ahs : List ByteArray := [⟨#[122]⟩, ⟨#[99]⟩, ⟨#[122, 122]⟩, ⟨#[98]⟩, ⟨#[97]⟩]
theorem ahs_small : ∀ s ∈ ahs, s.size ≤ 3 := by decide
def abs : List Int := [0, 10, -1]
def AskPost (w : World) (g p : Nat) (A : Option Addr) (m c : Nat) (l : List UInt8) (e : Ending) (w' : World) : Prop :=
  ∃ (k : Int) (key hi : ByteArray) (num : Int) (p' : Nat), e = .returned (.agg #[.int .i64 k, .string key, .string hi, .int .i64 num]) ∧ (key.size ≤ 3 ∧ hi.size ≤ 3) ∧ p' ≤ p + 10 ∧ Rd w' g p' A m c l ∧ Turn (some ⟨g, 0, none⟩) w w'
theorem Rd.setOff {w : World} {g p : Nat} {A : Option Addr} {m c : Nat} {l : List UInt8} (h : Rd w g p A m c l) {d : Nat} (o : Nat) (u : Value) (hd : g < d) : Rd (w.setCell ⟨d, o, none⟩ u) g p A m c l :=
  h.keep (belB (B := g + 1) (g := d) o u h.lt (by omega)) (Nat.lt_succ_self g)
set_option maxHeartbeats 16000000 in
set_option maxRecDepth 100000 in
theorem l4Ask (g p : Nat) (A : Option Addr) (m c : Nat) (l : List UInt8) (B : Option Addr) (n cb : Nat) (lr : List Row) (w : World) (hrd : Rd w g p A m c l) (hp : p ≤ 15000)
    (hs : Sl encRow w w.heap.size B n lr) (hn : n ≤ 1000) (hne : ∀ x, B = some x → g ≠ x.block) (hsm : ∀ r ∈ lr, r.1.size ≤ 3) :
    Calls Tryd.prog 30 #[.pointer (some ⟨g, 0, none⟩), .slice B n cb] w (AskPost w g p A m c l) := by
  have HP := Lib.hid hp
  have HS := Lib.hid hs
  have HN := Lib.hid hn
  have HNE := Lib.hid hne
  have HSM := Lib.hid hsm
  have hg := hrd.lt
  clear hp hs hn hne hsm
  have xr := (BoxC.new w 26 #[.int .i64 0, .string ⟨#[]⟩, .string ⟨#[]⟩, .int .i64 0]).alloc (.cells #[.int .i64 1, .int .i64 1, .int .i64 2, .int .i64 3, .int .i64 4, .int .i64 4, .int .i64 4, .int .i64 5, .int .i64 5, .int .i64 6, .int .i64 7, .int .i64 7, .int .i64 8, .int .i64 8, .int .i64 9] 3)
  have hr := (hrd.on (bel_alloc (Below.refl _ w) (.cells #[.int .i64 0, .string ⟨#[]⟩, .string ⟨#[]⟩, .int .i64 0] 26))).on (bel_alloc (Below.refl _ _) (.cells #[.int .i64 1, .int .i64 1, .int .i64 2, .int .i64 3, .int .i64 4, .int .i64 4, .int .i64 4, .int .i64 5, .int .i64 5, .int .i64 6, .int .i64 7, .int .i64 7, .int .i64 8, .int .i64 8, .int .i64 9] 3))
  have ht := ((Turn.refl (some ⟨g, 0, none⟩) w).alloc (.cells #[.int .i64 0, .string ⟨#[]⟩, .string ⟨#[]⟩, .int .i64 0] 26)).alloc (.cells #[.int .i64 1, .int .i64 1, .int .i64 2, .int .i64 3, .int .i64 4, .int .i64 4, .int .i64 4, .int .i64 5, .int .i64 5, .int .i64 6, .int .i64 7, .int .i64 7, .int .i64 8, .int .i64 8, .int .i64 9] 3)
  have hsl := Sl.lit (enc := encI) (w.alloc (.cells #[.int .i64 0, .string ⟨#[]⟩, .string ⟨#[]⟩, .int .i64 0] 26)) #[.int .i64 1, .int .i64 1, .int .i64 2, .int .i64 3, .int .i64 4, .int .i64 4, .int .i64 4, .int .i64 5, .int .i64 5, .int .i64 6, .int .i64 7, .int .i64 7, .int .i64 8, .int .i64 8, .int .i64 9] 3 aks rfl 15 rfl
  simp only [World.size_alloc] at hsl
  clear hrd
  go_enter Tryd.func30, Tryd.ntmps30
  go_wp2_with fail
  refine (numC g p 15 15 (w.heap.size + 1) 0 A m c l aks _ hr (by have := HP.out; omega) (by simpa using hsl) (by omega) (by omega) (by omega)).mono ?_
  rintro e w1 ⟨kd, rfl, hkd, hr1, ht1⟩
  replace xr := xr.turn ht1 (fun a ha => by cases ha; simp only; omega)
  replace ht := ht.trans ht1
  have hz1 := ht.size
  have hz2 := xr.lt
  clear hr ht1 hsl hkd
  obtain ⟨D, hD⟩ : ∃ D, w1.heap.size = D := ⟨_, rfl⟩
  have xa := BoxC.new w1 26 #[.int .i64 kd, .string ⟨#[]⟩, .string ⟨#[]⟩, .int .i64 0]
  have hr := hr1.on (bel_alloc (Below.refl _ w1) (.cells #[.int .i64 kd, .string ⟨#[]⟩, .string ⟨#[]⟩, .int .i64 0] 26))
  replace xr := xr.alloc (.cells #[.int .i64 kd, .string ⟨#[]⟩, .string ⟨#[]⟩, .int .i64 0] 26)
  replace ht := ht.alloc (.cells #[.int .i64 kd, .string ⟨#[]⟩, .string ⟨#[]⟩, .int .i64 0] 26)
  obtain ⟨ka, kb, kc, hsh⟩ : ∃ a b c, shape kd = (a, b, c) := ⟨_, _, _, rfl⟩
  have CS := Lib.hid (fun W => l4Shape kd W)
  rw [hsh] at CS
  have c0 := xa.c (k := 0) rfl
  go_wp2_with fail
  refine (CS.out _).mono ?_
  rintro e w2 ⟨rfl, hw⟩
  rw [hD] at xa hz1 hz2 c0
  have hDw : w.heap.size < D := by omega
  subst hw
  clear CS hr1 c0 hz1 hz2 hD
  generalize w1.alloc (.cells #[.int .i64 kd, .string ⟨#[]⟩, .string ⟨#[]⟩, .int .i64 0] 26) = W at *
  have hcs := shape_cases _ hsh
  clear hsh
  simp only [Prod.mk.injEq] at hcs
  rcases hcs with ⟨rfl, rfl, rfl⟩ | ⟨rfl, rfl, rfl⟩ | ⟨rfl, rfl, rfl⟩ | ⟨rfl, rfl, rfl⟩
  · have c0 := xa.c (k := 0) rfl
    have h0 := xa.f 0
    have c1 := xa.c (k := 1) rfl
    have h1 := xa.f 1
    have c2 := xa.c (k := 2) rfl
    have h2 := xa.f 2
    have c3 := xa.c (k := 3) rfl
    have h3 := xa.f 3
    go_wp2_with fail
    refine (l1Near g (p + 1) A m c l B n cb lr _ hr (by have := HP.out; omega) ((HS.out.turn (Nat.le_refl _) ht (fun a ha => (HNE.out a ha).symm)).more ht.size) HN.out HNE.out HSM.out).mono ?_
    rintro e w3 ⟨y, p2, rfl, hy, hp2, hr1, ht1⟩
    replace hr := hr1
    clear hr1
    replace xr := xr.turn ht1 (fun a ha => by cases ha; simp only; omega)
    replace xa := xa.turn ht1 (fun a ha => by cases ha; simp only; omega)
    replace ht := ht.trans ht1
    clear ht1
    replace c0 := xa.c (k := 0) rfl
    replace h0 := xa.f 0
    replace c1 := xa.c (k := 1) rfl
    replace h1 := xa.f 1
    replace c2 := xa.c (k := 2) rfl
    replace h2 := xa.f 2
    replace c3 := xa.c (k := 3) rfl
    replace h3 := xa.f 3
    go_wp2_with fail
    replace hr := hr.setOff (d := D) 1 (.string y) (by omega)
    replace xr := xr.other (B' := D) (k := 1) (x := .string y) (by omega)
    replace xa := xa.set 1 (.string y)
    replace ht := ht.setOwn (d := D) (o := 1) (by omega) (.string y)
    refine (pick g p2 64 A m c l _ hr (by omega) (by omega) (by have := HP.out; omega)).mono ?_
    rintro e w5 ⟨v, rfl, hv, hr1, ht1⟩
    replace hr := hr1
    clear hr1 hv
    replace xr := xr.turn ht1 (fun a ha => by cases ha; simp only; omega)
    replace xa := xa.turn ht1 (fun a ha => by cases ha; simp only; omega)
    replace ht := ht.trans ht1
    clear ht1
    replace c0 := xa.c (k := 0) rfl
    replace h0 := xa.f 0
    replace c1 := xa.c (k := 1) rfl
    replace h1 := xa.f 1
    replace c2 := xa.c (k := 2) rfl
    replace h2 := xa.f 2
    replace c3 := xa.c (k := 3) rfl
    replace h3 := xa.f 3
    by_cases v0 : v = 0
    · subst v0
      obtain ⟨E2, hE2⟩ : ∃ E2, w5.heap.size = E2 := ⟨_, rfl⟩
      have hDE2 : D < E2 := by have := xa.lt; omega
      have hsl := Sl.lit (enc := encI) w5 #[.int .i64 0, .int .i64 10, .int .i64 (-1)] 3 abs rfl 3 rfl
      go_wp2_with fail
      replace hr := hr.on (bel_alloc (Below.refl _ _) (.cells #[.int .i64 0, .int .i64 10, .int .i64 (-1)] 3))
      replace xr := xr.alloc (.cells #[.int .i64 0, .int .i64 10, .int .i64 (-1)] 3)
      replace xa := xa.alloc (.cells #[.int .i64 0, .int .i64 10, .int .i64 (-1)] 3)
      replace ht := ht.alloc (.cells #[.int .i64 0, .int .i64 10, .int .i64 (-1)] 3)
      refine (numC g (p2 + 1) 3 3 E2 0 A m c l abs _ hr (by have := HP.out; omega) (by simpa [hE2] using hsl) (by omega) (by omega) (by omega)).mono ?_
      rintro e w6 ⟨k2, rfl, hk2, hr1, ht1⟩
      replace hr := hr1
      clear hr1 hk2 hsl hE2
      replace xr := xr.turn ht1 (fun a ha => by cases ha; simp only; omega)
      replace xa := xa.turn ht1 (fun a ha => by cases ha; simp only; omega)
      replace ht := ht.trans ht1
      clear ht1
      replace c0 := xa.c (k := 0) rfl
      replace h0 := xa.f 0
      replace c1 := xa.c (k := 1) rfl
      replace h1 := xa.f 1
      replace c2 := xa.c (k := 2) rfl
      replace h2 := xa.f 2
      replace c3 := xa.c (k := 3) rfl
      replace h3 := xa.f 3
      have r0 := xr.c (k := 0) rfl
      have q0 := xr.f 0
      have r1 := xr.c (k := 1) rfl
      have q1 := xr.f 1
      have r2 := xr.c (k := 2) rfl
      have q2 := xr.f 2
      have r3 := xr.c (k := 3) rfl
      have q3 := xr.f 3
      replace hr := hr.setOff (d := D) 0 (.int .i64 k2) (by omega)
      replace ht := ht.setOwn (d := D) (o := 0) (by omega) (.int .i64 k2)
      replace hr := hr.setOff (d := w.heap.size) 0 (.int .i64 k2) hg
      replace ht := ht.setOwn (d := w.heap.size) (o := 0) (Nat.le_refl _) (.int .i64 k2)
      replace hr := hr.setOff (d := w.heap.size) 1 (.string y) hg
      replace ht := ht.setOwn (d := w.heap.size) (o := 1) (Nat.le_refl _) (.string y)
      replace hr := hr.setOff (d := w.heap.size) 2 (.string ⟨#[]⟩) hg
      replace ht := ht.setOwn (d := w.heap.size) (o := 2) (Nat.le_refl _) (.string ⟨#[]⟩)
      replace hr := hr.setOff (d := w.heap.size) 3 (.int .i64 0) hg
      replace ht := ht.setOwn (d := w.heap.size) (o := 3) (Nat.le_refl _) (.int .i64 0)
      have HH := Lib.hid hr
      have HT := Lib.hid ht
      have HB := Lib.hid (show (y : ByteArray).size ≤ 3 ∧ (⟨#[]⟩ : ByteArray).size ≤ 3 from ⟨hy, (by decide)⟩)
      clear hr ht xa xr
      go_wp2_with fail
      exact bodyPost_ret (v := .agg #[.int .i64 k2, .string y, .string ⟨#[]⟩, .int .i64 0]) (by simp [results, Tryd.results30, go_sem, r0, r1, r2, r3]) rfl ⟨_, _, _, _, (p2 + 1 + 1), rfl, HB.out, by omega, HH.out, HT.out⟩
    by_cases v1 : v = 1
    · subst v1
      have r0 := xr.c (k := 0) rfl
      have q0 := xr.f 0
      have r1 := xr.c (k := 1) rfl
      have q1 := xr.f 1
      have r2 := xr.c (k := 2) rfl
      have q2 := xr.f 2
      have r3 := xr.c (k := 3) rfl
      have q3 := xr.f 3
      replace hr := hr.setOff (d := D) 2 (.string ⟨#[98]⟩) (by omega)
      replace ht := ht.setOwn (d := D) (o := 2) (by omega) (.string ⟨#[98]⟩)
      replace hr := hr.setOff (d := w.heap.size) 0 (.int .i64 kd) hg
      replace ht := ht.setOwn (d := w.heap.size) (o := 0) (Nat.le_refl _) (.int .i64 kd)
      replace hr := hr.setOff (d := w.heap.size) 1 (.string y) hg
      replace ht := ht.setOwn (d := w.heap.size) (o := 1) (Nat.le_refl _) (.string y)
      replace hr := hr.setOff (d := w.heap.size) 2 (.string ⟨#[98]⟩) hg
      replace ht := ht.setOwn (d := w.heap.size) (o := 2) (Nat.le_refl _) (.string ⟨#[98]⟩)
      replace hr := hr.setOff (d := w.heap.size) 3 (.int .i64 0) hg
      replace ht := ht.setOwn (d := w.heap.size) (o := 3) (Nat.le_refl _) (.int .i64 0)
      have HH := Lib.hid hr
      have HT := Lib.hid ht
      have HB := Lib.hid (show (y : ByteArray).size ≤ 3 ∧ (⟨#[98]⟩ : ByteArray).size ≤ 3 from ⟨hy, (by decide)⟩)
      clear hr ht xa xr
      go_wp2_with fail
      exact bodyPost_ret (v := .agg #[.int .i64 kd, .string y, .string ⟨#[98]⟩, .int .i64 0]) (by simp [results, Tryd.results30, go_sem, r0, r1, r2, r3]) rfl ⟨_, _, _, _, (p2 + 1), rfl, HB.out, by omega, HH.out, HT.out⟩
    by_cases v2 : v = 2
    · subst v2
      have r0 := xr.c (k := 0) rfl
      have q0 := xr.f 0
      have r1 := xr.c (k := 1) rfl
      have q1 := xr.f 1
      have r2 := xr.c (k := 2) rfl
      have q2 := xr.f 2
      have r3 := xr.c (k := 3) rfl
      have q3 := xr.f 3
      replace hr := hr.setOff (d := D) 3 (.int .i64 5) (by omega)
      replace ht := ht.setOwn (d := D) (o := 3) (by omega) (.int .i64 5)
      replace hr := hr.setOff (d := w.heap.size) 0 (.int .i64 kd) hg
      replace ht := ht.setOwn (d := w.heap.size) (o := 0) (Nat.le_refl _) (.int .i64 kd)
      replace hr := hr.setOff (d := w.heap.size) 1 (.string y) hg
      replace ht := ht.setOwn (d := w.heap.size) (o := 1) (Nat.le_refl _) (.string y)
      replace hr := hr.setOff (d := w.heap.size) 2 (.string ⟨#[]⟩) hg
      replace ht := ht.setOwn (d := w.heap.size) (o := 2) (Nat.le_refl _) (.string ⟨#[]⟩)
      replace hr := hr.setOff (d := w.heap.size) 3 (.int .i64 5) hg
      replace ht := ht.setOwn (d := w.heap.size) (o := 3) (Nat.le_refl _) (.int .i64 5)
      have HH := Lib.hid hr
      have HT := Lib.hid ht
      have HB := Lib.hid (show (y : ByteArray).size ≤ 3 ∧ (⟨#[]⟩ : ByteArray).size ≤ 3 from ⟨hy, (by decide)⟩)
      clear hr ht xa xr
      go_wp2_with fail
      exact bodyPost_ret (v := .agg #[.int .i64 kd, .string y, .string ⟨#[]⟩, .int .i64 5]) (by simp [results, Tryd.results30, go_sem, r0, r1, r2, r3]) rfl ⟨_, _, _, _, (p2 + 1), rfl, HB.out, by omega, HH.out, HT.out⟩
    by_cases v3 : v = 3
    · subst v3
      have r0 := xr.c (k := 0) rfl
      have q0 := xr.f 0
      have r1 := xr.c (k := 1) rfl
      have q1 := xr.f 1
      have r2 := xr.c (k := 2) rfl
      have q2 := xr.f 2
      have r3 := xr.c (k := 3) rfl
      have q3 := xr.f 3
      replace hr := hr.setOff (d := D) 1 (.string ⟨#[]⟩) (by omega)
      replace ht := ht.setOwn (d := D) (o := 1) (by omega) (.string ⟨#[]⟩)
      replace hr := hr.setOff (d := w.heap.size) 0 (.int .i64 kd) hg
      replace ht := ht.setOwn (d := w.heap.size) (o := 0) (Nat.le_refl _) (.int .i64 kd)
      replace hr := hr.setOff (d := w.heap.size) 1 (.string ⟨#[]⟩) hg
      replace ht := ht.setOwn (d := w.heap.size) (o := 1) (Nat.le_refl _) (.string ⟨#[]⟩)
      replace hr := hr.setOff (d := w.heap.size) 2 (.string ⟨#[]⟩) hg
      replace ht := ht.setOwn (d := w.heap.size) (o := 2) (Nat.le_refl _) (.string ⟨#[]⟩)
      replace hr := hr.setOff (d := w.heap.size) 3 (.int .i64 0) hg
      replace ht := ht.setOwn (d := w.heap.size) (o := 3) (Nat.le_refl _) (.int .i64 0)
      have HH := Lib.hid hr
      have HT := Lib.hid ht
      have HB := Lib.hid (show (⟨#[]⟩ : ByteArray).size ≤ 3 ∧ (⟨#[]⟩ : ByteArray).size ≤ 3 from ⟨(by decide), (by decide)⟩)
      clear hr ht xa xr
      go_wp2_with fail
      exact bodyPost_ret (v := .agg #[.int .i64 kd, .string ⟨#[]⟩, .string ⟨#[]⟩, .int .i64 0]) (by simp [results, Tryd.results30, go_sem, r0, r1, r2, r3]) rfl ⟨_, _, _, _, (p2 + 1), rfl, HB.out, by omega, HH.out, HT.out⟩
    have g0 : ((v : Int) == 0) = false := by simp; omega
    have g1 : ((v : Int) == 1) = false := by simp; omega
    have g2 : ((v : Int) == 2) = false := by simp; omega
    have g3 : ((v : Int) == 3) = false := by simp; omega
    have r0 := xr.c (k := 0) rfl
    have q0 := xr.f 0
    have r1 := xr.c (k := 1) rfl
    have q1 := xr.f 1
    have r2 := xr.c (k := 2) rfl
    have q2 := xr.f 2
    have r3 := xr.c (k := 3) rfl
    have q3 := xr.f 3
    replace hr := hr.setOff (d := w.heap.size) 0 (.int .i64 kd) hg
    replace ht := ht.setOwn (d := w.heap.size) (o := 0) (Nat.le_refl _) (.int .i64 kd)
    replace hr := hr.setOff (d := w.heap.size) 1 (.string y) hg
    replace ht := ht.setOwn (d := w.heap.size) (o := 1) (Nat.le_refl _) (.string y)
    replace hr := hr.setOff (d := w.heap.size) 2 (.string ⟨#[]⟩) hg
    replace ht := ht.setOwn (d := w.heap.size) (o := 2) (Nat.le_refl _) (.string ⟨#[]⟩)
    replace hr := hr.setOff (d := w.heap.size) 3 (.int .i64 0) hg
    replace ht := ht.setOwn (d := w.heap.size) (o := 3) (Nat.le_refl _) (.int .i64 0)
    have HH := Lib.hid hr
    have HT := Lib.hid ht
    have HB := Lib.hid (show (y : ByteArray).size ≤ 3 ∧ (⟨#[]⟩ : ByteArray).size ≤ 3 from ⟨hy, (by decide)⟩)
    clear hr ht xa xr
    go_wp2_with fail
    exact bodyPost_ret (v := .agg #[.int .i64 kd, .string y, .string ⟨#[]⟩, .int .i64 0]) (by simp [results, Tryd.results30, go_sem, r0, r1, r2, r3]) rfl ⟨_, _, _, _, (p2 + 1), rfl, HB.out, by omega, HH.out, HT.out⟩
  · have c0 := xa.c (k := 0) rfl
    have h0 := xa.f 0
    have c1 := xa.c (k := 1) rfl
    have h1 := xa.f 1
    have c2 := xa.c (k := 2) rfl
    have h2 := xa.f 2
    have c3 := xa.c (k := 3) rfl
    have h3 := xa.f 3
    go_wp2_with fail
    refine (l1Near g (p + 1) A m c l B n cb lr _ hr (by have := HP.out; omega) ((HS.out.turn (Nat.le_refl _) ht (fun a ha => (HNE.out a ha).symm)).more ht.size) HN.out HNE.out HSM.out).mono ?_
    rintro e w3 ⟨y, p2, rfl, hy, hp2, hr1, ht1⟩
    replace hr := hr1
    clear hr1
    replace xr := xr.turn ht1 (fun a ha => by cases ha; simp only; omega)
    replace xa := xa.turn ht1 (fun a ha => by cases ha; simp only; omega)
    replace ht := ht.trans ht1
    clear ht1
    replace c0 := xa.c (k := 0) rfl
    replace h0 := xa.f 0
    replace c1 := xa.c (k := 1) rfl
    replace h1 := xa.f 1
    replace c2 := xa.c (k := 2) rfl
    replace h2 := xa.f 2
    replace c3 := xa.c (k := 3) rfl
    replace h3 := xa.f 3
    obtain ⟨E, hE⟩ : ∃ E, w3.heap.size = E := ⟨_, rfl⟩
    have hDE : D < E := by have := xa.lt; omega
    go_wp2_with fail
    have hgE : g < E := by omega
    replace hr := hr.setOff (d := D) 1 (.string y) (by omega)
    replace xr := xr.other (B' := D) (k := 1) (x := .string y) (by omega)
    replace xa := xa.set 1 (.string y)
    replace ht := ht.setOwn (d := D) (o := 1) (by omega) (.string y)
    have hsl := Sl.lit (enc := encT) (w3.setCell ⟨D, 1, none⟩ (.string y)) #[.string ⟨#[122]⟩, .string ⟨#[99]⟩, .string ⟨#[122, 122]⟩, .string ⟨#[98]⟩, .string ⟨#[97]⟩] 9 ahs rfl 5 rfl
    simp only [World.size_setCell, hE] at hsl
    replace hr := hr.on (bel_alloc (Below.refl _ _) (.cells #[.string ⟨#[122]⟩, .string ⟨#[99]⟩, .string ⟨#[122, 122]⟩, .string ⟨#[98]⟩, .string ⟨#[97]⟩] 9))
    replace xr := xr.alloc (.cells #[.string ⟨#[122]⟩, .string ⟨#[99]⟩, .string ⟨#[122, 122]⟩, .string ⟨#[98]⟩, .string ⟨#[97]⟩] 9)
    replace xa := xa.alloc (.cells #[.string ⟨#[122]⟩, .string ⟨#[99]⟩, .string ⟨#[122, 122]⟩, .string ⟨#[98]⟩, .string ⟨#[97]⟩] 9)
    replace ht := ht.alloc (.cells #[.string ⟨#[122]⟩, .string ⟨#[99]⟩, .string ⟨#[122, 122]⟩, .string ⟨#[98]⟩, .string ⟨#[97]⟩] 9)
    refine (ofC g p2 5 5 E 0 A m c l ahs _ hr (by have := HP.out; omega) (by simpa [hE] using hsl) (by omega) (by omega) (by omega)).mono ?_
    rintro e w4 ⟨z2, rfl, hh2, hr1, ht1⟩
    have hh2s := ahs_small z2 hh2
    replace hr := hr1
    clear hr1 hsl hh2 hE
    replace xr := xr.turn ht1 (fun a ha => by cases ha; simp only; omega)
    replace xa := xa.turn ht1 (fun a ha => by cases ha; simp only; omega)
    replace ht := ht.trans ht1
    clear ht1
    replace c0 := xa.c (k := 0) rfl
    replace h0 := xa.f 0
    replace c1 := xa.c (k := 1) rfl
    replace h1 := xa.f 1
    replace c2 := xa.c (k := 2) rfl
    replace h2 := xa.f 2
    replace c3 := xa.c (k := 3) rfl
    replace h3 := xa.f 3
    go_wp2_with fail
    replace hr := hr.setOff (d := D) 2 (.string z2) (by omega)
    replace xr := xr.other (B' := D) (k := 2) (x := .string z2) (by omega)
    replace xa := xa.set 2 (.string z2)
    replace ht := ht.setOwn (d := D) (o := 2) (by omega) (.string z2)
    refine (pick g (p2 + 1) 64 A m c l _ hr (by omega) (by omega) (by have := HP.out; omega)).mono ?_
    rintro e w5 ⟨v, rfl, hv, hr1, ht1⟩
    replace hr := hr1
    clear hr1 hv
    replace xr := xr.turn ht1 (fun a ha => by cases ha; simp only; omega)
    replace xa := xa.turn ht1 (fun a ha => by cases ha; simp only; omega)
    replace ht := ht.trans ht1
    clear ht1
    replace c0 := xa.c (k := 0) rfl
    replace h0 := xa.f 0
    replace c1 := xa.c (k := 1) rfl
    replace h1 := xa.f 1
    replace c2 := xa.c (k := 2) rfl
    replace h2 := xa.f 2
    replace c3 := xa.c (k := 3) rfl
    replace h3 := xa.f 3
    by_cases v0 : v = 0
    · subst v0
      obtain ⟨E2, hE2⟩ : ∃ E2, w5.heap.size = E2 := ⟨_, rfl⟩
      have hDE2 : D < E2 := by have := xa.lt; omega
      have hsl := Sl.lit (enc := encI) w5 #[.int .i64 0, .int .i64 10, .int .i64 (-1)] 3 abs rfl 3 rfl
      go_wp2_with fail
      replace hr := hr.on (bel_alloc (Below.refl _ _) (.cells #[.int .i64 0, .int .i64 10, .int .i64 (-1)] 3))
      replace xr := xr.alloc (.cells #[.int .i64 0, .int .i64 10, .int .i64 (-1)] 3)
      replace xa := xa.alloc (.cells #[.int .i64 0, .int .i64 10, .int .i64 (-1)] 3)
      replace ht := ht.alloc (.cells #[.int .i64 0, .int .i64 10, .int .i64 (-1)] 3)
      refine (numC g (p2 + 1 + 1) 3 3 E2 0 A m c l abs _ hr (by have := HP.out; omega) (by simpa [hE2] using hsl) (by omega) (by omega) (by omega)).mono ?_
      rintro e w6 ⟨k2, rfl, hk2, hr1, ht1⟩
      replace hr := hr1
      clear hr1 hk2 hsl hE2
      replace xr := xr.turn ht1 (fun a ha => by cases ha; simp only; omega)
      replace xa := xa.turn ht1 (fun a ha => by cases ha; simp only; omega)
      replace ht := ht.trans ht1
      clear ht1
      replace c0 := xa.c (k := 0) rfl
      replace h0 := xa.f 0
      replace c1 := xa.c (k := 1) rfl
      replace h1 := xa.f 1
      replace c2 := xa.c (k := 2) rfl
      replace h2 := xa.f 2
      replace c3 := xa.c (k := 3) rfl
      replace h3 := xa.f 3
      have r0 := xr.c (k := 0) rfl
      have q0 := xr.f 0
      have r1 := xr.c (k := 1) rfl
      have q1 := xr.f 1
      have r2 := xr.c (k := 2) rfl
      have q2 := xr.f 2
      have r3 := xr.c (k := 3) rfl
      have q3 := xr.f 3
      replace hr := hr.setOff (d := D) 0 (.int .i64 k2) (by omega)
      replace ht := ht.setOwn (d := D) (o := 0) (by omega) (.int .i64 k2)
      replace hr := hr.setOff (d := w.heap.size) 0 (.int .i64 k2) hg
      replace ht := ht.setOwn (d := w.heap.size) (o := 0) (Nat.le_refl _) (.int .i64 k2)
      replace hr := hr.setOff (d := w.heap.size) 1 (.string y) hg
      replace ht := ht.setOwn (d := w.heap.size) (o := 1) (Nat.le_refl _) (.string y)
      replace hr := hr.setOff (d := w.heap.size) 2 (.string z2) hg
      replace ht := ht.setOwn (d := w.heap.size) (o := 2) (Nat.le_refl _) (.string z2)
      replace hr := hr.setOff (d := w.heap.size) 3 (.int .i64 0) hg
      replace ht := ht.setOwn (d := w.heap.size) (o := 3) (Nat.le_refl _) (.int .i64 0)
      have HH := Lib.hid hr
      have HT := Lib.hid ht
      have HB := Lib.hid (show (y : ByteArray).size ≤ 3 ∧ (z2 : ByteArray).size ≤ 3 from ⟨hy, hh2s⟩)
      clear hr ht xa xr
      go_wp2_with fail
      exact bodyPost_ret (v := .agg #[.int .i64 k2, .string y, .string z2, .int .i64 0]) (by simp [results, Tryd.results30, go_sem, r0, r1, r2, r3]) rfl ⟨_, _, _, _, (p2 + 1 + 1 + 1), rfl, HB.out, by omega, HH.out, HT.out⟩
    by_cases v1 : v = 1
    · subst v1
      have r0 := xr.c (k := 0) rfl
      have q0 := xr.f 0
      have r1 := xr.c (k := 1) rfl
      have q1 := xr.f 1
      have r2 := xr.c (k := 2) rfl
      have q2 := xr.f 2
      have r3 := xr.c (k := 3) rfl
      have q3 := xr.f 3
      replace hr := hr.setOff (d := D) 2 (.string ⟨#[98]⟩) (by omega)
      replace ht := ht.setOwn (d := D) (o := 2) (by omega) (.string ⟨#[98]⟩)
      replace hr := hr.setOff (d := w.heap.size) 0 (.int .i64 kd) hg
      replace ht := ht.setOwn (d := w.heap.size) (o := 0) (Nat.le_refl _) (.int .i64 kd)
      replace hr := hr.setOff (d := w.heap.size) 1 (.string y) hg
      replace ht := ht.setOwn (d := w.heap.size) (o := 1) (Nat.le_refl _) (.string y)
      replace hr := hr.setOff (d := w.heap.size) 2 (.string ⟨#[98]⟩) hg
      replace ht := ht.setOwn (d := w.heap.size) (o := 2) (Nat.le_refl _) (.string ⟨#[98]⟩)
      replace hr := hr.setOff (d := w.heap.size) 3 (.int .i64 0) hg
      replace ht := ht.setOwn (d := w.heap.size) (o := 3) (Nat.le_refl _) (.int .i64 0)
      have HH := Lib.hid hr
      have HT := Lib.hid ht
      have HB := Lib.hid (show (y : ByteArray).size ≤ 3 ∧ (⟨#[98]⟩ : ByteArray).size ≤ 3 from ⟨hy, (by decide)⟩)
      clear hr ht xa xr
      go_wp2_with fail
      exact bodyPost_ret (v := .agg #[.int .i64 kd, .string y, .string ⟨#[98]⟩, .int .i64 0]) (by simp [results, Tryd.results30, go_sem, r0, r1, r2, r3]) rfl ⟨_, _, _, _, (p2 + 1 + 1), rfl, HB.out, by omega, HH.out, HT.out⟩
    by_cases v2 : v = 2
    · subst v2
      have r0 := xr.c (k := 0) rfl
      have q0 := xr.f 0
      have r1 := xr.c (k := 1) rfl
      have q1 := xr.f 1
      have r2 := xr.c (k := 2) rfl
      have q2 := xr.f 2
      have r3 := xr.c (k := 3) rfl
      have q3 := xr.f 3
      replace hr := hr.setOff (d := D) 3 (.int .i64 5) (by omega)
      replace ht := ht.setOwn (d := D) (o := 3) (by omega) (.int .i64 5)
      replace hr := hr.setOff (d := w.heap.size) 0 (.int .i64 kd) hg
      replace ht := ht.setOwn (d := w.heap.size) (o := 0) (Nat.le_refl _) (.int .i64 kd)
      replace hr := hr.setOff (d := w.heap.size) 1 (.string y) hg
      replace ht := ht.setOwn (d := w.heap.size) (o := 1) (Nat.le_refl _) (.string y)
      replace hr := hr.setOff (d := w.heap.size) 2 (.string z2) hg
      replace ht := ht.setOwn (d := w.heap.size) (o := 2) (Nat.le_refl _) (.string z2)
      replace hr := hr.setOff (d := w.heap.size) 3 (.int .i64 5) hg
      replace ht := ht.setOwn (d := w.heap.size) (o := 3) (Nat.le_refl _) (.int .i64 5)
      have HH := Lib.hid hr
      have HT := Lib.hid ht
      have HB := Lib.hid (show (y : ByteArray).size ≤ 3 ∧ (z2 : ByteArray).size ≤ 3 from ⟨hy, hh2s⟩)
      clear hr ht xa xr
      go_wp2_with fail
      exact bodyPost_ret (v := .agg #[.int .i64 kd, .string y, .string z2, .int .i64 5]) (by simp [results, Tryd.results30, go_sem, r0, r1, r2, r3]) rfl ⟨_, _, _, _, (p2 + 1 + 1), rfl, HB.out, by omega, HH.out, HT.out⟩
    by_cases v3 : v = 3
    · subst v3
      have r0 := xr.c (k := 0) rfl
      have q0 := xr.f 0
      have r1 := xr.c (k := 1) rfl
      have q1 := xr.f 1
      have r2 := xr.c (k := 2) rfl
      have q2 := xr.f 2
      have r3 := xr.c (k := 3) rfl
      have q3 := xr.f 3
      replace hr := hr.setOff (d := D) 1 (.string ⟨#[]⟩) (by omega)
      replace ht := ht.setOwn (d := D) (o := 1) (by omega) (.string ⟨#[]⟩)
      replace hr := hr.setOff (d := w.heap.size) 0 (.int .i64 kd) hg
      replace ht := ht.setOwn (d := w.heap.size) (o := 0) (Nat.le_refl _) (.int .i64 kd)
      replace hr := hr.setOff (d := w.heap.size) 1 (.string ⟨#[]⟩) hg
      replace ht := ht.setOwn (d := w.heap.size) (o := 1) (Nat.le_refl _) (.string ⟨#[]⟩)
      replace hr := hr.setOff (d := w.heap.size) 2 (.string z2) hg
      replace ht := ht.setOwn (d := w.heap.size) (o := 2) (Nat.le_refl _) (.string z2)
      replace hr := hr.setOff (d := w.heap.size) 3 (.int .i64 0) hg
      replace ht := ht.setOwn (d := w.heap.size) (o := 3) (Nat.le_refl _) (.int .i64 0)
      have HH := Lib.hid hr
      have HT := Lib.hid ht
      have HB := Lib.hid (show (⟨#[]⟩ : ByteArray).size ≤ 3 ∧ (z2 : ByteArray).size ≤ 3 from ⟨(by decide), hh2s⟩)
      clear hr ht xa xr
      go_wp2_with fail
      exact bodyPost_ret (v := .agg #[.int .i64 kd, .string ⟨#[]⟩, .string z2, .int .i64 0]) (by simp [results, Tryd.results30, go_sem, r0, r1, r2, r3]) rfl ⟨_, _, _, _, (p2 + 1 + 1), rfl, HB.out, by omega, HH.out, HT.out⟩
    have g0 : ((v : Int) == 0) = false := by simp; omega
    have g1 : ((v : Int) == 1) = false := by simp; omega
    have g2 : ((v : Int) == 2) = false := by simp; omega
    have g3 : ((v : Int) == 3) = false := by simp; omega
    have r0 := xr.c (k := 0) rfl
    have q0 := xr.f 0
    have r1 := xr.c (k := 1) rfl
    have q1 := xr.f 1
    have r2 := xr.c (k := 2) rfl
    have q2 := xr.f 2
    have r3 := xr.c (k := 3) rfl
    have q3 := xr.f 3
    replace hr := hr.setOff (d := w.heap.size) 0 (.int .i64 kd) hg
    replace ht := ht.setOwn (d := w.heap.size) (o := 0) (Nat.le_refl _) (.int .i64 kd)
    replace hr := hr.setOff (d := w.heap.size) 1 (.string y) hg
    replace ht := ht.setOwn (d := w.heap.size) (o := 1) (Nat.le_refl _) (.string y)
    replace hr := hr.setOff (d := w.heap.size) 2 (.string z2) hg
    replace ht := ht.setOwn (d := w.heap.size) (o := 2) (Nat.le_refl _) (.string z2)
    replace hr := hr.setOff (d := w.heap.size) 3 (.int .i64 0) hg
    replace ht := ht.setOwn (d := w.heap.size) (o := 3) (Nat.le_refl _) (.int .i64 0)
    have HH := Lib.hid hr
    have HT := Lib.hid ht
    have HB := Lib.hid (show (y : ByteArray).size ≤ 3 ∧ (z2 : ByteArray).size ≤ 3 from ⟨hy, hh2s⟩)
    clear hr ht xa xr
    go_wp2_with fail
    exact bodyPost_ret (v := .agg #[.int .i64 kd, .string y, .string z2, .int .i64 0]) (by simp [results, Tryd.results30, go_sem, r0, r1, r2, r3]) rfl ⟨_, _, _, _, (p2 + 1 + 1), rfl, HB.out, by omega, HH.out, HT.out⟩
  · have c0 := xa.c (k := 0) rfl
    have h0 := xa.f 0
    have c1 := xa.c (k := 1) rfl
    have h1 := xa.f 1
    have c2 := xa.c (k := 2) rfl
    have h2 := xa.f 2
    have c3 := xa.c (k := 3) rfl
    have h3 := xa.f 3
    go_wp2_with fail
    refine (l1Near g (p + 1) A m c l B n cb lr _ hr (by have := HP.out; omega) ((HS.out.turn (Nat.le_refl _) ht (fun a ha => (HNE.out a ha).symm)).more ht.size) HN.out HNE.out HSM.out).mono ?_
    rintro e w3 ⟨y, p2, rfl, hy, hp2, hr1, ht1⟩
    replace hr := hr1
    clear hr1
    replace xr := xr.turn ht1 (fun a ha => by cases ha; simp only; omega)
    replace xa := xa.turn ht1 (fun a ha => by cases ha; simp only; omega)
    replace ht := ht.trans ht1
    clear ht1
    replace c0 := xa.c (k := 0) rfl
    replace h0 := xa.f 0
    replace c1 := xa.c (k := 1) rfl
    replace h1 := xa.f 1
    replace c2 := xa.c (k := 2) rfl
    replace h2 := xa.f 2
    replace c3 := xa.c (k := 3) rfl
    replace h3 := xa.f 3
    go_wp2_with fail
    replace hr := hr.setOff (d := D) 1 (.string y) (by omega)
    replace xr := xr.other (B' := D) (k := 1) (x := .string y) (by omega)
    replace xa := xa.set 1 (.string y)
    replace ht := ht.setOwn (d := D) (o := 1) (by omega) (.string y)
    refine (l1Value g p2 A m c l _ hr (by have := HP.out; omega)).mono ?_
    rintro e w4 ⟨num, rfl, hnum, hr1, ht1⟩
    replace hr := hr1
    clear hr1 hnum
    replace xr := xr.turn ht1 (fun a ha => by cases ha; simp only; omega)
    replace xa := xa.turn ht1 (fun a ha => by cases ha; simp only; omega)
    replace ht := ht.trans ht1
    clear ht1
    replace c0 := xa.c (k := 0) rfl
    replace h0 := xa.f 0
    replace c1 := xa.c (k := 1) rfl
    replace h1 := xa.f 1
    replace c2 := xa.c (k := 2) rfl
    replace h2 := xa.f 2
    replace c3 := xa.c (k := 3) rfl
    replace h3 := xa.f 3
    go_wp2_with fail
    replace hr := hr.setOff (d := D) 3 (.int .i64 num) (by omega)
    replace xr := xr.other (B' := D) (k := 3) (x := .int .i64 num) (by omega)
    replace xa := xa.set 3 (.int .i64 num)
    replace ht := ht.setOwn (d := D) (o := 3) (by omega) (.int .i64 num)
    refine (pick g (p2 + 2) 64 A m c l _ hr (by omega) (by omega) (by have := HP.out; omega)).mono ?_
    rintro e w5 ⟨v, rfl, hv, hr1, ht1⟩
    replace hr := hr1
    clear hr1 hv
    replace xr := xr.turn ht1 (fun a ha => by cases ha; simp only; omega)
    replace xa := xa.turn ht1 (fun a ha => by cases ha; simp only; omega)
    replace ht := ht.trans ht1
    clear ht1
    replace c0 := xa.c (k := 0) rfl
    replace h0 := xa.f 0
    replace c1 := xa.c (k := 1) rfl
    replace h1 := xa.f 1
    replace c2 := xa.c (k := 2) rfl
    replace h2 := xa.f 2
    replace c3 := xa.c (k := 3) rfl
    replace h3 := xa.f 3
    by_cases v0 : v = 0
    · subst v0
      obtain ⟨E2, hE2⟩ : ∃ E2, w5.heap.size = E2 := ⟨_, rfl⟩
      have hDE2 : D < E2 := by have := xa.lt; omega
      have hsl := Sl.lit (enc := encI) w5 #[.int .i64 0, .int .i64 10, .int .i64 (-1)] 3 abs rfl 3 rfl
      go_wp2_with fail
      replace hr := hr.on (bel_alloc (Below.refl _ _) (.cells #[.int .i64 0, .int .i64 10, .int .i64 (-1)] 3))
      replace xr := xr.alloc (.cells #[.int .i64 0, .int .i64 10, .int .i64 (-1)] 3)
      replace xa := xa.alloc (.cells #[.int .i64 0, .int .i64 10, .int .i64 (-1)] 3)
      replace ht := ht.alloc (.cells #[.int .i64 0, .int .i64 10, .int .i64 (-1)] 3)
      refine (numC g (p2 + 2 + 1) 3 3 E2 0 A m c l abs _ hr (by have := HP.out; omega) (by simpa [hE2] using hsl) (by omega) (by omega) (by omega)).mono ?_
      rintro e w6 ⟨k2, rfl, hk2, hr1, ht1⟩
      replace hr := hr1
      clear hr1 hk2 hsl hE2
      replace xr := xr.turn ht1 (fun a ha => by cases ha; simp only; omega)
      replace xa := xa.turn ht1 (fun a ha => by cases ha; simp only; omega)
      replace ht := ht.trans ht1
      clear ht1
      replace c0 := xa.c (k := 0) rfl
      replace h0 := xa.f 0
      replace c1 := xa.c (k := 1) rfl
      replace h1 := xa.f 1
      replace c2 := xa.c (k := 2) rfl
      replace h2 := xa.f 2
      replace c3 := xa.c (k := 3) rfl
      replace h3 := xa.f 3
      have r0 := xr.c (k := 0) rfl
      have q0 := xr.f 0
      have r1 := xr.c (k := 1) rfl
      have q1 := xr.f 1
      have r2 := xr.c (k := 2) rfl
      have q2 := xr.f 2
      have r3 := xr.c (k := 3) rfl
      have q3 := xr.f 3
      replace hr := hr.setOff (d := D) 0 (.int .i64 k2) (by omega)
      replace ht := ht.setOwn (d := D) (o := 0) (by omega) (.int .i64 k2)
      replace hr := hr.setOff (d := w.heap.size) 0 (.int .i64 k2) hg
      replace ht := ht.setOwn (d := w.heap.size) (o := 0) (Nat.le_refl _) (.int .i64 k2)
      replace hr := hr.setOff (d := w.heap.size) 1 (.string y) hg
      replace ht := ht.setOwn (d := w.heap.size) (o := 1) (Nat.le_refl _) (.string y)
      replace hr := hr.setOff (d := w.heap.size) 2 (.string ⟨#[]⟩) hg
      replace ht := ht.setOwn (d := w.heap.size) (o := 2) (Nat.le_refl _) (.string ⟨#[]⟩)
      replace hr := hr.setOff (d := w.heap.size) 3 (.int .i64 num) hg
      replace ht := ht.setOwn (d := w.heap.size) (o := 3) (Nat.le_refl _) (.int .i64 num)
      have HH := Lib.hid hr
      have HT := Lib.hid ht
      have HB := Lib.hid (show (y : ByteArray).size ≤ 3 ∧ (⟨#[]⟩ : ByteArray).size ≤ 3 from ⟨hy, (by decide)⟩)
      clear hr ht xa xr
      go_wp2_with fail
      exact bodyPost_ret (v := .agg #[.int .i64 k2, .string y, .string ⟨#[]⟩, .int .i64 num]) (by simp [results, Tryd.results30, go_sem, r0, r1, r2, r3]) rfl ⟨_, _, _, _, (p2 + 2 + 1 + 1), rfl, HB.out, by omega, HH.out, HT.out⟩
    by_cases v1 : v = 1
    · subst v1
      have r0 := xr.c (k := 0) rfl
      have q0 := xr.f 0
      have r1 := xr.c (k := 1) rfl
      have q1 := xr.f 1
      have r2 := xr.c (k := 2) rfl
      have q2 := xr.f 2
      have r3 := xr.c (k := 3) rfl
      have q3 := xr.f 3
      replace hr := hr.setOff (d := D) 2 (.string ⟨#[98]⟩) (by omega)
      replace ht := ht.setOwn (d := D) (o := 2) (by omega) (.string ⟨#[98]⟩)
      replace hr := hr.setOff (d := w.heap.size) 0 (.int .i64 kd) hg
      replace ht := ht.setOwn (d := w.heap.size) (o := 0) (Nat.le_refl _) (.int .i64 kd)
      replace hr := hr.setOff (d := w.heap.size) 1 (.string y) hg
      replace ht := ht.setOwn (d := w.heap.size) (o := 1) (Nat.le_refl _) (.string y)
      replace hr := hr.setOff (d := w.heap.size) 2 (.string ⟨#[98]⟩) hg
      replace ht := ht.setOwn (d := w.heap.size) (o := 2) (Nat.le_refl _) (.string ⟨#[98]⟩)
      replace hr := hr.setOff (d := w.heap.size) 3 (.int .i64 num) hg
      replace ht := ht.setOwn (d := w.heap.size) (o := 3) (Nat.le_refl _) (.int .i64 num)
      have HH := Lib.hid hr
      have HT := Lib.hid ht
      have HB := Lib.hid (show (y : ByteArray).size ≤ 3 ∧ (⟨#[98]⟩ : ByteArray).size ≤ 3 from ⟨hy, (by decide)⟩)
      clear hr ht xa xr
      go_wp2_with fail
      exact bodyPost_ret (v := .agg #[.int .i64 kd, .string y, .string ⟨#[98]⟩, .int .i64 num]) (by simp [results, Tryd.results30, go_sem, r0, r1, r2, r3]) rfl ⟨_, _, _, _, (p2 + 2 + 1), rfl, HB.out, by omega, HH.out, HT.out⟩
    by_cases v2 : v = 2
    · subst v2
      have r0 := xr.c (k := 0) rfl
      have q0 := xr.f 0
      have r1 := xr.c (k := 1) rfl
      have q1 := xr.f 1
      have r2 := xr.c (k := 2) rfl
      have q2 := xr.f 2
      have r3 := xr.c (k := 3) rfl
      have q3 := xr.f 3
      replace hr := hr.setOff (d := D) 3 (.int .i64 5) (by omega)
      replace ht := ht.setOwn (d := D) (o := 3) (by omega) (.int .i64 5)
      replace hr := hr.setOff (d := w.heap.size) 0 (.int .i64 kd) hg
      replace ht := ht.setOwn (d := w.heap.size) (o := 0) (Nat.le_refl _) (.int .i64 kd)
      replace hr := hr.setOff (d := w.heap.size) 1 (.string y) hg
      replace ht := ht.setOwn (d := w.heap.size) (o := 1) (Nat.le_refl _) (.string y)
      replace hr := hr.setOff (d := w.heap.size) 2 (.string ⟨#[]⟩) hg
      replace ht := ht.setOwn (d := w.heap.size) (o := 2) (Nat.le_refl _) (.string ⟨#[]⟩)
      replace hr := hr.setOff (d := w.heap.size) 3 (.int .i64 5) hg
      replace ht := ht.setOwn (d := w.heap.size) (o := 3) (Nat.le_refl _) (.int .i64 5)
      have HH := Lib.hid hr
      have HT := Lib.hid ht
      have HB := Lib.hid (show (y : ByteArray).size ≤ 3 ∧ (⟨#[]⟩ : ByteArray).size ≤ 3 from ⟨hy, (by decide)⟩)
      clear hr ht xa xr
      go_wp2_with fail
      exact bodyPost_ret (v := .agg #[.int .i64 kd, .string y, .string ⟨#[]⟩, .int .i64 5]) (by simp [results, Tryd.results30, go_sem, r0, r1, r2, r3]) rfl ⟨_, _, _, _, (p2 + 2 + 1), rfl, HB.out, by omega, HH.out, HT.out⟩
    by_cases v3 : v = 3
    · subst v3
      have r0 := xr.c (k := 0) rfl
      have q0 := xr.f 0
      have r1 := xr.c (k := 1) rfl
      have q1 := xr.f 1
      have r2 := xr.c (k := 2) rfl
      have q2 := xr.f 2
      have r3 := xr.c (k := 3) rfl
      have q3 := xr.f 3
      replace hr := hr.setOff (d := D) 1 (.string ⟨#[]⟩) (by omega)
      replace ht := ht.setOwn (d := D) (o := 1) (by omega) (.string ⟨#[]⟩)
      replace hr := hr.setOff (d := w.heap.size) 0 (.int .i64 kd) hg
      replace ht := ht.setOwn (d := w.heap.size) (o := 0) (Nat.le_refl _) (.int .i64 kd)
      replace hr := hr.setOff (d := w.heap.size) 1 (.string ⟨#[]⟩) hg
      replace ht := ht.setOwn (d := w.heap.size) (o := 1) (Nat.le_refl _) (.string ⟨#[]⟩)
      replace hr := hr.setOff (d := w.heap.size) 2 (.string ⟨#[]⟩) hg
      replace ht := ht.setOwn (d := w.heap.size) (o := 2) (Nat.le_refl _) (.string ⟨#[]⟩)
      replace hr := hr.setOff (d := w.heap.size) 3 (.int .i64 num) hg
      replace ht := ht.setOwn (d := w.heap.size) (o := 3) (Nat.le_refl _) (.int .i64 num)
      have HH := Lib.hid hr
      have HT := Lib.hid ht
      have HB := Lib.hid (show (⟨#[]⟩ : ByteArray).size ≤ 3 ∧ (⟨#[]⟩ : ByteArray).size ≤ 3 from ⟨(by decide), (by decide)⟩)
      clear hr ht xa xr
      go_wp2_with fail
      exact bodyPost_ret (v := .agg #[.int .i64 kd, .string ⟨#[]⟩, .string ⟨#[]⟩, .int .i64 num]) (by simp [results, Tryd.results30, go_sem, r0, r1, r2, r3]) rfl ⟨_, _, _, _, (p2 + 2 + 1), rfl, HB.out, by omega, HH.out, HT.out⟩
    have g0 : ((v : Int) == 0) = false := by simp; omega
    have g1 : ((v : Int) == 1) = false := by simp; omega
    have g2 : ((v : Int) == 2) = false := by simp; omega
    have g3 : ((v : Int) == 3) = false := by simp; omega
    have r0 := xr.c (k := 0) rfl
    have q0 := xr.f 0
    have r1 := xr.c (k := 1) rfl
    have q1 := xr.f 1
    have r2 := xr.c (k := 2) rfl
    have q2 := xr.f 2
    have r3 := xr.c (k := 3) rfl
    have q3 := xr.f 3
    replace hr := hr.setOff (d := w.heap.size) 0 (.int .i64 kd) hg
    replace ht := ht.setOwn (d := w.heap.size) (o := 0) (Nat.le_refl _) (.int .i64 kd)
    replace hr := hr.setOff (d := w.heap.size) 1 (.string y) hg
    replace ht := ht.setOwn (d := w.heap.size) (o := 1) (Nat.le_refl _) (.string y)
    replace hr := hr.setOff (d := w.heap.size) 2 (.string ⟨#[]⟩) hg
    replace ht := ht.setOwn (d := w.heap.size) (o := 2) (Nat.le_refl _) (.string ⟨#[]⟩)
    replace hr := hr.setOff (d := w.heap.size) 3 (.int .i64 num) hg
    replace ht := ht.setOwn (d := w.heap.size) (o := 3) (Nat.le_refl _) (.int .i64 num)
    have HH := Lib.hid hr
    have HT := Lib.hid ht
    have HB := Lib.hid (show (y : ByteArray).size ≤ 3 ∧ (⟨#[]⟩ : ByteArray).size ≤ 3 from ⟨hy, (by decide)⟩)
    clear hr ht xa xr
    go_wp2_with fail
    exact bodyPost_ret (v := .agg #[.int .i64 kd, .string y, .string ⟨#[]⟩, .int .i64 num]) (by simp [results, Tryd.results30, go_sem, r0, r1, r2, r3]) rfl ⟨_, _, _, _, (p2 + 2 + 1), rfl, HB.out, by omega, HH.out, HT.out⟩
  · have c0 := xa.c (k := 0) rfl
    have h0 := xa.f 0
    have c1 := xa.c (k := 1) rfl
    have h1 := xa.f 1
    have c2 := xa.c (k := 2) rfl
    have h2 := xa.f 2
    have c3 := xa.c (k := 3) rfl
    have h3 := xa.f 3
    go_wp2_with fail
    refine (pick g (p + 1) 64 A m c l _ hr (by omega) (by omega) (by have := HP.out; omega)).mono ?_
    rintro e w5 ⟨v, rfl, hv, hr1, ht1⟩
    replace hr := hr1
    clear hr1 hv
    replace xr := xr.turn ht1 (fun a ha => by cases ha; simp only; omega)
    replace xa := xa.turn ht1 (fun a ha => by cases ha; simp only; omega)
    replace ht := ht.trans ht1
    clear ht1
    replace c0 := xa.c (k := 0) rfl
    replace h0 := xa.f 0
    replace c1 := xa.c (k := 1) rfl
    replace h1 := xa.f 1
    replace c2 := xa.c (k := 2) rfl
    replace h2 := xa.f 2
    replace c3 := xa.c (k := 3) rfl
    replace h3 := xa.f 3
    by_cases v0 : v = 0
    · subst v0
      obtain ⟨E2, hE2⟩ : ∃ E2, w5.heap.size = E2 := ⟨_, rfl⟩
      have hDE2 : D < E2 := by have := xa.lt; omega
      have hsl := Sl.lit (enc := encI) w5 #[.int .i64 0, .int .i64 10, .int .i64 (-1)] 3 abs rfl 3 rfl
      go_wp2_with fail
      replace hr := hr.on (bel_alloc (Below.refl _ _) (.cells #[.int .i64 0, .int .i64 10, .int .i64 (-1)] 3))
      replace xr := xr.alloc (.cells #[.int .i64 0, .int .i64 10, .int .i64 (-1)] 3)
      replace xa := xa.alloc (.cells #[.int .i64 0, .int .i64 10, .int .i64 (-1)] 3)
      replace ht := ht.alloc (.cells #[.int .i64 0, .int .i64 10, .int .i64 (-1)] 3)
      refine (numC g (p + 1 + 1) 3 3 E2 0 A m c l abs _ hr (by have := HP.out; omega) (by simpa [hE2] using hsl) (by omega) (by omega) (by omega)).mono ?_
      rintro e w6 ⟨k2, rfl, hk2, hr1, ht1⟩
      replace hr := hr1
      clear hr1 hk2 hsl hE2
      replace xr := xr.turn ht1 (fun a ha => by cases ha; simp only; omega)
      replace xa := xa.turn ht1 (fun a ha => by cases ha; simp only; omega)
      replace ht := ht.trans ht1
      clear ht1
      replace c0 := xa.c (k := 0) rfl
      replace h0 := xa.f 0
      replace c1 := xa.c (k := 1) rfl
      replace h1 := xa.f 1
      replace c2 := xa.c (k := 2) rfl
      replace h2 := xa.f 2
      replace c3 := xa.c (k := 3) rfl
      replace h3 := xa.f 3
      have r0 := xr.c (k := 0) rfl
      have q0 := xr.f 0
      have r1 := xr.c (k := 1) rfl
      have q1 := xr.f 1
      have r2 := xr.c (k := 2) rfl
      have q2 := xr.f 2
      have r3 := xr.c (k := 3) rfl
      have q3 := xr.f 3
      replace hr := hr.setOff (d := D) 0 (.int .i64 k2) (by omega)
      replace ht := ht.setOwn (d := D) (o := 0) (by omega) (.int .i64 k2)
      replace hr := hr.setOff (d := w.heap.size) 0 (.int .i64 k2) hg
      replace ht := ht.setOwn (d := w.heap.size) (o := 0) (Nat.le_refl _) (.int .i64 k2)
      replace hr := hr.setOff (d := w.heap.size) 1 (.string ⟨#[]⟩) hg
      replace ht := ht.setOwn (d := w.heap.size) (o := 1) (Nat.le_refl _) (.string ⟨#[]⟩)
      replace hr := hr.setOff (d := w.heap.size) 2 (.string ⟨#[]⟩) hg
      replace ht := ht.setOwn (d := w.heap.size) (o := 2) (Nat.le_refl _) (.string ⟨#[]⟩)
      replace hr := hr.setOff (d := w.heap.size) 3 (.int .i64 0) hg
      replace ht := ht.setOwn (d := w.heap.size) (o := 3) (Nat.le_refl _) (.int .i64 0)
      have HH := Lib.hid hr
      have HT := Lib.hid ht
      have HB := Lib.hid (show (⟨#[]⟩ : ByteArray).size ≤ 3 ∧ (⟨#[]⟩ : ByteArray).size ≤ 3 from ⟨(by decide), (by decide)⟩)
      clear hr ht xa xr
      go_wp2_with fail
      exact bodyPost_ret (v := .agg #[.int .i64 k2, .string ⟨#[]⟩, .string ⟨#[]⟩, .int .i64 0]) (by simp [results, Tryd.results30, go_sem, r0, r1, r2, r3]) rfl ⟨_, _, _, _, (p + 1 + 1 + 1), rfl, HB.out, by omega, HH.out, HT.out⟩
    by_cases v1 : v = 1
    · subst v1
      have r0 := xr.c (k := 0) rfl
      have q0 := xr.f 0
      have r1 := xr.c (k := 1) rfl
      have q1 := xr.f 1
      have r2 := xr.c (k := 2) rfl
      have q2 := xr.f 2
      have r3 := xr.c (k := 3) rfl
      have q3 := xr.f 3
      replace hr := hr.setOff (d := D) 2 (.string ⟨#[98]⟩) (by omega)
      replace ht := ht.setOwn (d := D) (o := 2) (by omega) (.string ⟨#[98]⟩)
      replace hr := hr.setOff (d := w.heap.size) 0 (.int .i64 kd) hg
      replace ht := ht.setOwn (d := w.heap.size) (o := 0) (Nat.le_refl _) (.int .i64 kd)
      replace hr := hr.setOff (d := w.heap.size) 1 (.string ⟨#[]⟩) hg
      replace ht := ht.setOwn (d := w.heap.size) (o := 1) (Nat.le_refl _) (.string ⟨#[]⟩)
      replace hr := hr.setOff (d := w.heap.size) 2 (.string ⟨#[98]⟩) hg
      replace ht := ht.setOwn (d := w.heap.size) (o := 2) (Nat.le_refl _) (.string ⟨#[98]⟩)
      replace hr := hr.setOff (d := w.heap.size) 3 (.int .i64 0) hg
      replace ht := ht.setOwn (d := w.heap.size) (o := 3) (Nat.le_refl _) (.int .i64 0)
      have HH := Lib.hid hr
      have HT := Lib.hid ht
      have HB := Lib.hid (show (⟨#[]⟩ : ByteArray).size ≤ 3 ∧ (⟨#[98]⟩ : ByteArray).size ≤ 3 from ⟨(by decide), (by decide)⟩)
      clear hr ht xa xr
      go_wp2_with fail
      exact bodyPost_ret (v := .agg #[.int .i64 kd, .string ⟨#[]⟩, .string ⟨#[98]⟩, .int .i64 0]) (by simp [results, Tryd.results30, go_sem, r0, r1, r2, r3]) rfl ⟨_, _, _, _, (p + 1 + 1), rfl, HB.out, by omega, HH.out, HT.out⟩
    by_cases v2 : v = 2
    · subst v2
      have r0 := xr.c (k := 0) rfl
      have q0 := xr.f 0
      have r1 := xr.c (k := 1) rfl
      have q1 := xr.f 1
      have r2 := xr.c (k := 2) rfl
      have q2 := xr.f 2
      have r3 := xr.c (k := 3) rfl
      have q3 := xr.f 3
      replace hr := hr.setOff (d := D) 3 (.int .i64 5) (by omega)
      replace ht := ht.setOwn (d := D) (o := 3) (by omega) (.int .i64 5)
      replace hr := hr.setOff (d := w.heap.size) 0 (.int .i64 kd) hg
      replace ht := ht.setOwn (d := w.heap.size) (o := 0) (Nat.le_refl _) (.int .i64 kd)
      replace hr := hr.setOff (d := w.heap.size) 1 (.string ⟨#[]⟩) hg
      replace ht := ht.setOwn (d := w.heap.size) (o := 1) (Nat.le_refl _) (.string ⟨#[]⟩)
      replace hr := hr.setOff (d := w.heap.size) 2 (.string ⟨#[]⟩) hg
      replace ht := ht.setOwn (d := w.heap.size) (o := 2) (Nat.le_refl _) (.string ⟨#[]⟩)
      replace hr := hr.setOff (d := w.heap.size) 3 (.int .i64 5) hg
      replace ht := ht.setOwn (d := w.heap.size) (o := 3) (Nat.le_refl _) (.int .i64 5)
      have HH := Lib.hid hr
      have HT := Lib.hid ht
      have HB := Lib.hid (show (⟨#[]⟩ : ByteArray).size ≤ 3 ∧ (⟨#[]⟩ : ByteArray).size ≤ 3 from ⟨(by decide), (by decide)⟩)
      clear hr ht xa xr
      go_wp2_with fail
      exact bodyPost_ret (v := .agg #[.int .i64 kd, .string ⟨#[]⟩, .string ⟨#[]⟩, .int .i64 5]) (by simp [results, Tryd.results30, go_sem, r0, r1, r2, r3]) rfl ⟨_, _, _, _, (p + 1 + 1), rfl, HB.out, by omega, HH.out, HT.out⟩
    by_cases v3 : v = 3
    · subst v3
      have r0 := xr.c (k := 0) rfl
      have q0 := xr.f 0
      have r1 := xr.c (k := 1) rfl
      have q1 := xr.f 1
      have r2 := xr.c (k := 2) rfl
      have q2 := xr.f 2
      have r3 := xr.c (k := 3) rfl
      have q3 := xr.f 3
      replace hr := hr.setOff (d := D) 1 (.string ⟨#[]⟩) (by omega)
      replace ht := ht.setOwn (d := D) (o := 1) (by omega) (.string ⟨#[]⟩)
      replace hr := hr.setOff (d := w.heap.size) 0 (.int .i64 kd) hg
      replace ht := ht.setOwn (d := w.heap.size) (o := 0) (Nat.le_refl _) (.int .i64 kd)
      replace hr := hr.setOff (d := w.heap.size) 1 (.string ⟨#[]⟩) hg
      replace ht := ht.setOwn (d := w.heap.size) (o := 1) (Nat.le_refl _) (.string ⟨#[]⟩)
      replace hr := hr.setOff (d := w.heap.size) 2 (.string ⟨#[]⟩) hg
      replace ht := ht.setOwn (d := w.heap.size) (o := 2) (Nat.le_refl _) (.string ⟨#[]⟩)
      replace hr := hr.setOff (d := w.heap.size) 3 (.int .i64 0) hg
      replace ht := ht.setOwn (d := w.heap.size) (o := 3) (Nat.le_refl _) (.int .i64 0)
      have HH := Lib.hid hr
      have HT := Lib.hid ht
      have HB := Lib.hid (show (⟨#[]⟩ : ByteArray).size ≤ 3 ∧ (⟨#[]⟩ : ByteArray).size ≤ 3 from ⟨(by decide), (by decide)⟩)
      clear hr ht xa xr
      go_wp2_with fail
      exact bodyPost_ret (v := .agg #[.int .i64 kd, .string ⟨#[]⟩, .string ⟨#[]⟩, .int .i64 0]) (by simp [results, Tryd.results30, go_sem, r0, r1, r2, r3]) rfl ⟨_, _, _, _, (p + 1 + 1), rfl, HB.out, by omega, HH.out, HT.out⟩
    have g0 : ((v : Int) == 0) = false := by simp; omega
    have g1 : ((v : Int) == 1) = false := by simp; omega
    have g2 : ((v : Int) == 2) = false := by simp; omega
    have g3 : ((v : Int) == 3) = false := by simp; omega
    have r0 := xr.c (k := 0) rfl
    have q0 := xr.f 0
    have r1 := xr.c (k := 1) rfl
    have q1 := xr.f 1
    have r2 := xr.c (k := 2) rfl
    have q2 := xr.f 2
    have r3 := xr.c (k := 3) rfl
    have q3 := xr.f 3
    replace hr := hr.setOff (d := w.heap.size) 0 (.int .i64 kd) hg
    replace ht := ht.setOwn (d := w.heap.size) (o := 0) (Nat.le_refl _) (.int .i64 kd)
    replace hr := hr.setOff (d := w.heap.size) 1 (.string ⟨#[]⟩) hg
    replace ht := ht.setOwn (d := w.heap.size) (o := 1) (Nat.le_refl _) (.string ⟨#[]⟩)
    replace hr := hr.setOff (d := w.heap.size) 2 (.string ⟨#[]⟩) hg
    replace ht := ht.setOwn (d := w.heap.size) (o := 2) (Nat.le_refl _) (.string ⟨#[]⟩)
    replace hr := hr.setOff (d := w.heap.size) 3 (.int .i64 0) hg
    replace ht := ht.setOwn (d := w.heap.size) (o := 3) (Nat.le_refl _) (.int .i64 0)
    have HH := Lib.hid hr
    have HT := Lib.hid ht
    have HB := Lib.hid (show (⟨#[]⟩ : ByteArray).size ≤ 3 ∧ (⟨#[]⟩ : ByteArray).size ≤ 3 from ⟨(by decide), (by decide)⟩)
    clear hr ht xa xr
    go_wp2_with fail
    exact bodyPost_ret (v := .agg #[.int .i64 kd, .string ⟨#[]⟩, .string ⟨#[]⟩, .int .i64 0]) (by simp [results, Tryd.results30, go_sem, r0, r1, r2, r3]) rfl ⟨_, _, _, _, (p + 1 + 1), rfl, HB.out, by omega, HH.out, HT.out⟩
end Go.Proofs.YtpmeaikiaoojkaaDoor
