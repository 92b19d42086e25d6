/- Contract: a history drawn (l2Some). -/
import Derived.Test.YtpofgidhhcolfaaX7
import Derived.Test.YtpofgidhhcolfaaX4
import Derived.Test.YtpofgidhhcolfaaT5
namespace Go.Proofs.Ytpofgidhhcolfaa
open Go.RowKit

theorem versP_nil : VersP 0 [] := by
  refine ⟨⟨by omega, by omega, by simp⟩, fun i x h => by simp at h, fun i a b h => by simp at h, fun t _ => by simp [seen]⟩
def SomePost (w : World) (g p : Nat) (A : Option Addr) (m c : Nat) (l : List UInt8) (e : Ending) (w' : World) : Prop :=
  ∃ (now : Int) (B : Option Addr) (cb : Nat) (lv : List Ver) (p' : Nat), e = .returned (.agg #[.int .i64 now, .slice B lv.length cb]) ∧ Own encVer 4 77 w' w.heap.size (.slice B lv.length cb) lv ∧ VersP now lv ∧ p' ≤ p + 650 ∧ Rd w' g p' A m c l ∧ Turn (some ⟨g, 0, none⟩) w w'
def is3 : List Int := [4, 7, 10, 2, 0, 16]
theorem is3_small : ∀ s ∈ is3, ∃ k : Nat, s = (k : Int) ∧ k ≤ 16 := by
  intro s hs
  simp only [is3, List.mem_cons, List.not_mem_nil, or_false] at hs
  exact ⟨s.toNat, by omega, by omega⟩
def SomeRel (w : World) (g p : Nat) (A : Option Addr) (m c : Nat) (l : List UInt8) (v4 : Value) (wr : World) : Prop :=
  ∃ (k p' : Nat) (now : Int) (lv : List Ver) (B : Option Addr) (cb : Nat), v4 = .int .i64 (k : Int) ∧ k ≤ 16 ∧ VersP now lv ∧ Own encVer 4 77 wr w.heap.size (.slice B lv.length cb) lv ∧
    BoxC wr w.heap.size 39 #[.int .i64 0, .slice none 0 0] ∧ BoxC wr (w.heap.size + 2) 39 #[.int .i64 now, .slice B lv.length cb] ∧ p' + 40 * k ≤ p + 641 ∧ Rd wr g p' A m c l ∧ Turn (some ⟨g, 0, none⟩) w wr
theorem Rd.setB {w : World} {g p : Nat} {A : Option Addr} {m c : Nat} {l : List UInt8} (h : Rd w g p A m c l) {B : Nat} (k : Nat) (v : Value) (hB : g < B) : Rd (w.setCell ⟨B, k, none⟩ v) g p A m c l :=
  h.keep ((Below.refl (g + 1) w).setCell (p := ⟨B, k, none⟩) (by simp only; omega) v) (Nat.lt_succ_self g)
def PickIPost (w : World) (g p : Nat) (n : Int) (A : Option Addr) (m c : Nat) (l : List UInt8) (e : Ending) (w' : World) : Prop :=
  ∃ v : Int, e = .returned (.int .i64 v) ∧ 0 ≤ v ∧ v < n ∧ Rd w' g (p + 1) A m c l ∧ Turn (some ⟨g, 0, none⟩) w w'
theorem pickI (g p : Nat) (n : Int) (A : Option Addr) (m c : Nat) (l : List UInt8) (w : World) (hrd : Rd w g p A m c l) (hn : 1 ≤ n) (hn2 : n ≤ 1000000) (hp : p ≤ 1000000) :
    Calls Try.prog 104 #[.pointer (some ⟨g, 0, none⟩), .int .i64 n] w (PickIPost w g p n A m c l) := by
  obtain ⟨k, rfl⟩ : ∃ k : Nat, n = (k : Int) := ⟨n.toNat, by omega⟩
  refine (pick g p k A m c l w hrd (by omega) (by omega) hp).mono ?_
  rintro e w' ⟨v, rfl, hv, h1, h2⟩
  exact ⟨(v : Int), rfl, by omega, by omega, h1, h2⟩
theorem specTrimP (now : Int) (A : Option Addr) (n c : Nat) (l : List Ver) (t : Int) (w : World) (hr : Sl encVer w w.heap.size A n l) (hP : VersP now l) (hn : n ≤ 1048576) :
    Calls Try.prog 51 #[.agg #[.int .i64 now, .slice A n c], .int .i64 t] w (VersPost w now (trimL l t)) := by
  have h := specVersTrim now A n c l t w hr hP.swf hn
  obtain ⟨k1, k2⟩ := trim_ok (t := t) (versOk_iff.2 hP)
  rwa [k1, k2] at h

set_option maxHeartbeats 4000000 in
set_option maxRecDepth 100000 in
theorem l2Some (g p : Nat) (A : Option Addr) (m c : Nat) (l : List UInt8) (w : World) (hrd : Rd w g p A m c l) (hp : p ≤ 1000) :
    Calls Try.prog 103 #[.pointer (some ⟨g, 0, none⟩)] w (SomePost w g p A m c l) := by
  have HP := Lib.hid hp
  have hg := hrd.lt
  clear hp
  go_enter Try.func103, Try.ntmps103
  go_wp2_with fail
  have x2 := ((BoxC.new w 39 #[.int .i64 0, .slice none 0 0]).alloc (.cells #[] 77))
  have ho := Own.made0 (enc := encVer) (sz := 4) (e := 77) (base := w.heap.size) (w.alloc (.cells #[.int .i64 0, .slice none 0 0] 39)) (by simp)
  have x3 := BoxC.new ((w.alloc (.cells #[.int .i64 0, .slice none 0 0] 39)).alloc (.cells #[] 77)) 39 #[.int .i64 0, .slice (some ⟨w.heap.size + 1, 0, none⟩) 0 0]
  simp only [World.size_alloc] at ho x3
  have b0 := bel_alloc (bel_alloc (Below.refl _ w) (.cells #[.int .i64 0, .slice none 0 0] 39)) (.cells #[] 77)
  have hz0 : ((w.alloc (.cells #[.int .i64 0, .slice none 0 0] 39)).alloc (.cells #[] 77)).heap.size = w.heap.size + 1 + 1 := by simp
  generalize (w.alloc (.cells #[.int .i64 0, .slice none 0 0] 39)).alloc (.cells #[] 77) = w0 at *
  replace b0 := bel_alloc (bel_alloc b0 (.cells #[.int .i64 0, .slice (some ⟨w.heap.size + 1, 0, none⟩) 0 0] 39)) (.cells #[.int .i64 4, .int .i64 7, .int .i64 10, .int .i64 2, .int .i64 0, .int .i64 16] 3)
  replace x2 := (x2.alloc (.cells #[.int .i64 0, .slice (some ⟨w.heap.size + 1, 0, none⟩) 0 0] 39)).alloc (.cells #[.int .i64 4, .int .i64 7, .int .i64 10, .int .i64 2, .int .i64 0, .int .i64 16] 3)
  replace x3 := x3.alloc (.cells #[.int .i64 4, .int .i64 7, .int .i64 10, .int .i64 2, .int .i64 0, .int .i64 16] 3)
  replace ho := (ho.alloc (.cells #[.int .i64 0, .slice (some ⟨w.heap.size + 1, 0, none⟩) 0 0] 39)).alloc (.cells #[.int .i64 4, .int .i64 7, .int .i64 10, .int .i64 2, .int .i64 0, .int .i64 16] 3)
  have hl := Sl.lit (enc := encI) (w0.alloc (.cells #[.int .i64 0, .slice (some ⟨w.heap.size + 1, 0, none⟩) 0 0] 39)) #[.int .i64 4, .int .i64 7, .int .i64 10, .int .i64 2, .int .i64 0, .int .i64 16] 3 is3 rfl 6 rfl
  have hr2 := hrd.on b0
  simp only [World.size_alloc, hz0] at hl
  refine (numC g p 6 6 (w.heap.size + 1 + 1 + 1) 0 A m c l is3 _ hr2 (by have := HP.out; omega) (by simpa [hz0] using hl) (by omega) (by omega) (by omega)).mono ?_
  rintro e w1 ⟨s, rfl, hs, hr3, ht3⟩
  obtain ⟨k0, rfl, hk0⟩ := is3_small s hs
  have t1 : Turn (some ⟨g, 0, none⟩) w w1 := (Turn.of_below b0).trans ht3
  have y2 := x2.turn ht3 (fun x hx => by cases hx; simp only; omega)
  have y3 := x3.turn ht3 (fun x hx => by cases hx; simp only; omega)
  have o1 := ho.farRd ht3 hg
  clear x2 x3 ho b0 hz0 hl hr2 hrd hs ht3
  go_wp2_with fail
  go_loopw [4] (SomeRel w g p A m c l) (fun v4 _ => (intOf v4).toNat)
  case atStart => exact ⟨k0, p + 1, 0, [], some ⟨w.heap.size + 1, 0, none⟩, 0, rfl, hk0, versP_nil, o1, y2, y3, by omega, hr3, t1⟩
  case round =>
    clear o1 y2 y3 hr3 t1 hk0
    obtain ⟨k, p', now, lv, B, cb, rfl, hk, hP, ho, x2, x3, hp', hr, ht⟩ := hrel
    have HP3 := Lib.hid hp'
    have HVP := Lib.hid hP
    have hb3 : g < w.heap.size + 2 := by omega
    clear hp' hP
    have q0 := x3.c (k := 0) rfl
    have q1 := x3.c (k := 1) rfl
    have f0 := x3.f 0
    have f1 := x3.f 1
    by_cases hk1 : 0 < k
    · go_wp2_with fail
      refine (specAt now B lv.length cb lv now wr ho.sl (by have := HVP.out.1.2.2; omega)).mono ?_
      rintro e w2 ⟨v2, rfl, oR, hb2⟩
      obtain ⟨R, cR, rfl, -, -⟩ := oR.form
      have hRP := at_rowsP HVP.out HVP.out.1.1 (Int.le_refl now)
      have hRl := Lib.hid hRP.1
      have hRs := Lib.hid hRP.small
      have o2 := ho.on hb2
      have y2 := x2.on hb2
      have y3 := x3.on hb2
      have r2 := hr.on hb2
      have t2 := ht.below hb2
      have hw2 : w.heap.size ≤ wr.heap.size := ht.size
      clear hRP ho x2 x3 hr ht hb2 q0 q1 f0 f1
      generalize atL lv now = lr at *
      go_wp2_with fail
      refine (l2Writes g p' A m c l R lr.length cR lr w2 r2 (by have := HP.out; have := HP3.out; omega) oR.sl (by have := hRl.out; omega) (fun x hx => by have := (oR.block hx).1; omega) (fun r hr => by have := hRs.out r hr; omega)).mono ?_
      rintro e w3 ⟨W, cW, lw, p3, rfl, oW, hWl, hWs, hp3, r3, t3⟩
      have HP4 := Lib.hid hp3
      have o3 := o2.farRd t3 hg
      have z2 := y2.turn t3 (fun x hx => by cases hx; simp only; omega)
      have z3 := y3.turn t3 (fun x hx => by cases hx; simp only; omega)
      have s3 := t2.trans t3
      have HWl := Lib.hid hWl
      have HWs := Lib.hid hWs
      clear hp3 hWl hWs oR o2 y2 y3 r2 t2 t3
      go_wp2_with fail
      cases hok : Wx.writesOk 6 lw
      all_goals
        have HOK := Lib.hid hok
        clear hok
        refine (Wx.specWritesOk W lw.length cW lw w3 oW.sl HWs.out.wf (by have := HWl.out; omega)).mono ?_
        rintro e w4 ⟨rfl, hb4⟩
        rw [HOK.out]
        have o4 := o3.on hb4
        have y2 := z2.on hb4
        have y3 := z3.on hb4
        have r4 := r3.on hb4
        have t4 := s3.below hb4
        have oW4 := oW.on hb4
        have q0 := y3.c (k := 0) rfl
        have q1 := y3.c (k := 1) rfl
        have f0 := y3.f 0
        have f1 := y3.f 1
        clear o3 z2 z3 r3 s3 oW hb4
      · go_wp2_with fail
        go_roundw
        case rel => exact ⟨k - 1, p3, now, lv, B, cb, by rw [show ((k - 1 : Nat) : Int) = (k : Int) - 1 by omega], by omega, HVP.out, o4, y2, y3, by have := HP3.out; have := HP4.out; omega, r4, t4⟩
        case measure => simp [intOf]; omega
      · go_wp2_with fail
        refine (l2Do now B lv.length cb lv W lw.length cW lw w4 o4.sl HVP.out oW4.sl HWs.out.wf (by have := HWl.out; omega)).mono ?_
        rintro e w5 ⟨v5, ok5, rfl, now5, A5, c5, l5, rfl, hP5, o5, hb5⟩
        have HP5 := Lib.hid hP5
        have y2' := y2.on hb5
        have y3' := y3.on hb5
        have r5 := r4.on hb5
        have t5 := t4.below hb5
        have g0 := y3'.c (k := 0) rfl
        have g1 := y3'.c (k := 1) rfl
        have e0 := y3'.f 0
        have e1 := y3'.f 1
        have hzw : w.heap.size ≤ w4.heap.size := t4.size
        clear q0 q1 f0 f1 o4 y2 y3 r4 t4 oW4 hP5 hb5
        go_wp2_with fail
        go_roundw
        case rel =>
          have hlt3 := y3'.lt
          exact ⟨k - 1, p3, now5, l5, A5, c5, by rw [show ((k - 1 : Nat) : Int) = (k : Int) - 1 by omega], by omega, HP5.out, (((o5.lower hzw).box y3' (by decide)).box (y3'.set 0 _) (by decide)), (y2'.other (by omega)).other (by omega), (y3'.set 0 (.int .i64 now5)).set 1 _, by have := HP3.out; have := HP4.out; omega, (r5.setB 0 _ (by omega)).setB 1 _ (by omega), (t5.setOwn (by omega) _).setOwn (by omega) _⟩
        case measure => simp [intOf]; omega
    · have hk0 : k = 0 := by omega
      subst hk0
      go_wp2_with fail
      refine (pick g p' 8 A m c l wr hr (by omega) (by omega) (by have := HP.out; have := HP3.out; omega)).mono ?_
      rintro e w2 ⟨v, rfl, hv, r2, t2⟩
      have o2 := ho.farRd t2 hg
      have y2 := x2.turn t2 (fun x hx => by cases hx; simp only; omega)
      have y3 := x3.turn t2 (fun x hx => by cases hx; simp only; omega)
      have s2 := ht.trans t2
      clear ho x2 x3 hr ht t2 q0 q1 f0 f1
      have q0 := y3.c (k := 0) rfl
      have q1 := y3.c (k := 1) rfl
      have d0 := y2.c (k := 0) rfl
      have d1 := y2.c (k := 1) rfl
      have f0 := y2.f 0
      have f1 := y2.f 1
      by_cases hv0 : v = 0
      · subst hv0
        have h0 : 0 ≤ now := HVP.out.1.1
        have h1 : now ≤ 40 := HVP.out.1.2.1
        have e1 : IntKind.i64.wrap (now + 1) = now + 1 := IntWalk.i64_in _ (by omega)
        go_wp2_with fail
        go_region_law (first
          | (go_simp; go_at_call 104; refine (pickI g (p' + 1) (now + 1) A m c l _ (by exact r2) (by omega) (by omega) (by have := HP.out; have := HP3.out; omega)).mono ?_; rintro e w3 ⟨v3, rfl, hv3a, hv3b, r3, t3⟩; have o3 := (Own.drew o2).farRd t3 hg; have z2 := (BoxC.drew y2).turn t3 (fun x hx => by cases hx; simp only; omega); have z3 := (BoxC.drew y3).turn t3 (fun x hx => by cases hx; simp only; omega); have s3 := s2.drew.trans t3; have c0 := z3.c (k := 0) rfl; have c1 := z3.c (k := 1) rfl)
          | (go_simp; go_at_call 51; refine (specTrimP now B lv.length cb lv v3 w3 o3.sl HVP.out (by have := HVP.out.1.2.2; omega)).mono ?_; rintro e w4 ⟨A4, c4, rfl, o4, hb4⟩; have y4 := z2.on hb4; have d0' := y4.c (k := 0) rfl; have d1' := y4.c (k := 1) rfl; have f0' := y4.f 0; have f1' := y4.f 1))
        all_goals
          go_wp2_with fail
          have z := (y4.set 0 (.int .i64 now)).set 1 (.slice A4 (trimL lv v3).length c4)
          have z0 := z.c (k := 0) rfl
          have z1 := z.c (k := 1) rfl
          have hl4 := y4.lt
          have hz4 : w.heap.size ≤ w3.heap.size := s3.size
          exact bodyPost_ret (v := .agg #[.int .i64 now, .slice A4 (trimL lv v3).length c4]) (by simp [results, Try.results103, go_sem, z0, z1]) rfl ⟨now, A4, c4, trimL lv v3, p' + 1 + 1, rfl, ((o4.lower hz4).box y4 (by decide)).box (y4.set 0 _) (by decide), trim_P HVP.out v3, by have := HP3.out; omega, ((r3.on hb4).setB 0 _ hg).setB 1 _ hg, ((s3.below hb4).setOwn (Nat.le_refl _) _).setOwn (Nat.le_refl _) _⟩
      · have hv1 : ((v : Int) == 0) = false := by simp; omega
        go_wp2_with fail
        have z := (y2.set 0 (.int .i64 now)).set 1 (.slice B lv.length cb)
        have z0 := z.c (k := 0) rfl
        have z1 := z.c (k := 1) rfl
        exact bodyPost_ret (v := .agg #[.int .i64 now, .slice B lv.length cb]) (by simp [results, Try.results103, go_sem, z0, z1]) rfl ⟨now, B, cb, lv, p' + 1, rfl, (o2.box y2 (by decide)).box (y2.set 0 _) (by decide), HVP.out, by have := HP3.out; omega, (r2.setB 0 _ hg).setB 1 _ hg, (s2.setOwn (Nat.le_refl _) _).setOwn (Nat.le_refl _) _⟩
end Go.Proofs.Ytpofgidhhcolfaa
