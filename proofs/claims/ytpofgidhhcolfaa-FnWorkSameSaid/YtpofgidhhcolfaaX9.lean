/- Contract: a history bent (l2Bent). -/
import Derived.Test.YtpofgidhhcolfaaX8
namespace Go.Proofs.Ytpofgidhhcolfaa
open Go.RowKit

def BentVPost (w : World) (g p : Nat) (b : Int) (n : Nat) (A : Option Addr) (m c : Nat) (l : List UInt8) (e : Ending) (w' : World) : Prop :=
  ∃ (now : Int) (B : Option Addr) (n' cb : Nat) (lv : List Ver) (p' : Nat), e = .returned (.agg #[.int .i64 now, .slice B n' cb]) ∧ Own encVer 4 77 w' w.heap.size (.slice B n' cb) lv ∧ VerSWf lv ∧ n' ≤ n + 1 ∧ -(b + 41) ≤ now ∧ now ≤ b + 41 ∧ p' ≤ p + 5 ∧ Rd w' g p' A m c l ∧ Turn (some ⟨g, 0, none⟩) w w'
def vs3 : List ByteArray := [⟨#[]⟩, ⟨#[122, 122]⟩, ⟨#[97]⟩]
theorem vs3_small : ∀ s ∈ vs3, s.size ≤ 3 := by decide
set_option maxHeartbeats 8000000 in
set_option maxRecDepth 100000 in
theorem l2Bent (g p : Nat) (b : Int) (A : Option Addr) (m c : Nat) (l : List UInt8) (now : Int) (B : Option Addr) (n cb : Nat) (lv : List Ver) (w : World) (hrd : Rd w g p A m c l) (hp : p ≤ 10000)
    (hs : Sl encVer w w.heap.size B n lv) (hk : VerSWf lv) (hn : n ≤ 1000) (hb0 : 0 ≤ b) (hb1 : b ≤ 1000000) (hn0 : -b ≤ now) (hn1 : now ≤ b) :
    Calls Try.prog 107 #[.pointer (some ⟨g, 0, none⟩), .agg #[.int .i64 now, .slice B n cb]] w (BentVPost w g p b n A m c l) := by
  obtain ⟨i0, hi0, hz0, hz1, hz2⟩ := info_parts info77
  have HP := Lib.hid hp
  have HN := Lib.hid hn
  have HK := Lib.hid hk
  have HS := Lib.hid hs
  have hg := hrd.lt
  have x1 := (BoxC.new w 39 #[.int .i64 now, .slice B n cb]).alloc (.cells #[.int .i64 0, .slice none 0 0] 39)
  have x4 := BoxC.new (w.alloc (.cells #[.int .i64 now, .slice B n cb] 39)) 39 #[.int .i64 0, .slice none 0 0]
  have b0 := bel_alloc (bel_alloc (Below.refl _ w) (.cells #[.int .i64 now, .slice B n cb] 39)) (.cells #[.int .i64 0, .slice none 0 0] 39)
  rw [World.size_alloc] at x4
  have q0 := x1.c (k := 0) rfl
  have q1 := x1.c (k := 1) rfl
  clear hp hn hk hs
  go_enter Try.func107, Try.ntmps107
  go_wp2_with fail
  generalize (w.alloc (.cells #[.int .i64 now, .slice B n cb] 39)).alloc (.cells #[.int .i64 0, .slice none 0 0] 39) = w0 at *
  refine (l2Copy now B n cb lv w0 (HS.out.on b0) (by have := HN.out; omega)).mono ?_
  rintro e w1 ⟨A1, c1, rfl, o1, hb1'⟩
  have hln : lv.length = n := HS.out.len
  have hzz : w.heap.size ≤ w0.heap.size := b0.size
  rw [hln] at o1 ⊢
  have HL := Lib.hid hln
  clear hln
  have y4 := x4.on hb1'
  have r1 := (hrd.on b0).on hb1'
  have t1 : Turn (some ⟨g, 0, none⟩) w w1 := (Turn.of_below b0).below hb1'
  have o2 := (o1.lower hzz).alloc (.cells #[.int .i64 now, .slice A1 n c1] 39)
  have hgB : g < w1.heap.size := r1.lt
  have hg4 : g < w.heap.size + 1 := by omega
  have h45 : w.heap.size + 1 < w1.heap.size := y4.lt
  have x5 := BoxC.new w1 39 #[.int .i64 now, .slice A1 n c1]
  replace y4 := y4.alloc (.cells #[.int .i64 now, .slice A1 n c1] 39)
  have r2 := r1.on (bel_alloc (Below.refl _ w1) (.cells #[.int .i64 now, .slice A1 n c1] 39))
  have t2 := t1.alloc (.cells #[.int .i64 now, .slice A1 n c1] 39)
  clear x1 x4 b0 q0 q1 hb1' r1 t1 o1 hzz hrd
  go_wp2_with fail
  obtain ⟨B5, hB5⟩ : ∃ B5, w1.heap.size = B5 := ⟨_, rfl⟩
  rw [hB5] at x5 hgB h45 ⊢
  clear hB5
  generalize w1.alloc (.cells #[.int .i64 now, .slice A1 n c1] 39) = w2 at *
  have HB4 := Lib.hid h45
  refine (pick g p 8 A m c l w2 r2 (by omega) (by omega) (by have := HP.out; omega)).mono ?_
  rintro e w3 ⟨v, rfl, hv, r3, t3⟩
  have o3 := o2.farRd t3 hg
  have z4 := y4.turn t3 (fun x hx => by cases hx; simp only; omega)
  have z5 := x5.turn t3 (fun x hx => by cases hx; simp only; omega)
  have s3 := t2.trans t3
  clear y4 x5 r2 t2 o2 t3
  have a0 := z5.c (k := 0) rfl
  have a1 := z5.c (k := 1) rfl
  by_cases hv0 : 0 < v
  · have hv1 : (0 : Int) < (v : Int) := by omega
    have q0 := z5.c (k := 0) rfl
    have q1 := z5.c (k := 1) rfl
    have d0 := z4.c (k := 0) rfl
    have d1 := z4.c (k := 1) rfl
    have f0 := z4.f 0
    have f1 := z4.f 1
    have HX4 := Lib.hid z4
    have HO := Lib.hid o3
    have HR := Lib.hid r3
    have HT := Lib.hid s3
    have z := (z4.set 0 (.int .i64 (now))).set 1 (.slice A1 n c1)
    have z0 := z.c (k := 0) rfl
    have z1 := z.c (k := 1) rfl
    go_wp2_with fail
    exact bodyPost_ret (v := .agg #[.int .i64 (now), .slice A1 n c1]) (by simp [results, Try.results107, go_sem, z0, z1]) rfl ⟨now, A1, n, c1, lv, p + 1, rfl, (HO.out.box HX4.out (by decide)).box (HX4.out.set 0 _) (by decide), HK.out, by omega, by omega, by omega, by omega, (HR.out.setB 0 _ hg4).setB 1 _ hg4, (HT.out.setOwn (by omega) _).setOwn (by omega) _⟩
  have hv1 : ¬ (0 : Int) < (v : Int) := by omega
  by_cases hn0' : n = 0
  · subst hn0'
    have f50 := z5.f 0
    go_wp2_with fail
    have hl := Sl.lit (enc := encI) w3 #[.int .i64 (-1), .int .i64 41, .int .i64 40, .int .i64 3] 3 [-1, 41, 40, 3] rfl 4 rfl
    have hg3 := r3.lt
    refine (numC g (p + 1) 4 4 w3.heap.size 0 A m c l [-1, 41, 40, 3] _ (r3.on (bel_alloc (Below.refl _ w3) _)) (by have := HP.out; omega) hl (by omega) (by omega) (by omega)).mono ?_
    rintro e w4 ⟨s, rfl, hs, r4, t4⟩
    have hs2 : s = -1 ∨ s = 41 ∨ s = 40 ∨ s = 3 := by simpa using hs
    have o4 := (o3.alloc (.cells #[.int .i64 (-1), .int .i64 41, .int .i64 40, .int .i64 3] 3)).farRd t4 hg
    have y4 := (z4.alloc (.cells #[.int .i64 (-1), .int .i64 41, .int .i64 40, .int .i64 3] 3)).turn t4 (fun x hx => by cases hx; simp only; omega)
    have y5 := (z5.alloc (.cells #[.int .i64 (-1), .int .i64 41, .int .i64 40, .int .i64 3] 3)).turn t4 (fun x hx => by cases hx; simp only; omega)
    have s4 := (s3.alloc (.cells #[.int .i64 (-1), .int .i64 41, .int .i64 40, .int .i64 3] 3)).trans t4
    clear z4 z5 r3 s3 o3 t4 a0 a1 hl hs f50
    have e0 := y5.c (k := 0) rfl
    have e1 := y5.c (k := 1) rfl
    have e2 := y5.f 0
    have u5 := y5.set 0 (.int .i64 s)
    have u4 := y4.other (B' := B5) (k := 0) (x := .int .i64 s) (by omega)
    have uo := o4.box (k := 0) (v := .int .i64 s) y5 (by decide)
    have ur := r4.setB 0 (.int .i64 s) hgB
    have ut := s4.setOwn (d := B5) (o := 0) (by omega) (.int .i64 s)
    have q0 := u5.c (k := 0) rfl
    have q1 := u5.c (k := 1) rfl
    have d0 := u4.c (k := 0) rfl
    have d1 := u4.c (k := 1) rfl
    have f0 := u4.f 0
    have f1 := u4.f 1
    have HX4 := Lib.hid u4
    have HO := Lib.hid uo
    have HR := Lib.hid ur
    have HT := Lib.hid ut
    have z := (u4.set 0 (.int .i64 (s))).set 1 (.slice A1 0 c1)
    have z0 := z.c (k := 0) rfl
    have z1 := z.c (k := 1) rfl
    go_wp2_with fail
    exact bodyPost_ret (v := .agg #[.int .i64 (s), .slice A1 0 c1]) (by simp [results, Try.results107, go_sem, z0, z1]) rfl ⟨s, A1, 0, c1, lv, p + 1 + 1, rfl, (HO.out.box HX4.out (by decide)).box (HX4.out.set 0 _) (by decide), HK.out, by omega, by omega, by omega, by omega, (HR.out.setB 0 _ hg4).setB 1 _ hg4, (HT.out.setOwn (by omega) _).setOwn (by omega) _⟩
  have hnp : 0 < n := by omega
  have hbv : n ≤ 1000 := HN.out
  go_wp2_with fail
  refine (pick g (p + 1) n A m c l w3 r3 (by omega) (by omega) (by have := HP.out; omega)).mono ?_
  rintro e w4 ⟨k, rfl, hk, r4, t4⟩
  have o4 := o3.farRd t4 hg
  have y4 := z4.turn t4 (fun x hx => by cases hx; simp only; omega)
  have y5 := z5.turn t4 (fun x hx => by cases hx; simp only; omega)
  have s4 := s3.trans t4
  clear z4 z5 r3 s3 o3 t4 a0 a1
  go_wp2_with fail
  refine (pick g (p + 1 + 1) 6 A m c l w4 r4 (by omega) (by omega) (by have := HP.out; omega)).mono ?_
  rintro e w5 ⟨j, rfl, hj, r5, t5⟩
  have o5 := o4.farRd t5 hg
  have z4 := y4.turn t5 (fun x hx => by cases hx; simp only; omega)
  have z5 := y5.turn t5 (fun x hx => by cases hx; simp only; omega)
  have s5 := s4.trans t5
  clear y4 y5 r4 s4 o4 t5
  obtain ⟨d, rfl⟩ := o5.zero hnp
  obtain ⟨g0, g1, g2, g3, hx, e0, e1, e2, e3⟩ := atVer o5.sl hk
  simp only [Nat.zero_add] at e0 e1 e2 e3
  have HX := Lib.hid hx
  have HWX := Lib.hid (show g0.size ≤ maxLen by have h := HK.out.at_ hx; exact h)
  clear hx
  have a0 := z5.c (k := 0) rfl
  have a1 := z5.c (k := 1) rfl
  have a2 := z5.f 0
  have a3 := z5.f 1
  have fr0 := o5.free (k * 4)
  have fr1 := o5.free (k * 4 + 1)
  have fr2 := o5.free (k * 4 + 2)
  have fr3 := o5.free (k * 4 + 3)
  have k0 : (0 : Int) ≤ (k : Int) := by omega
  have k1 : (k : Int) < (n : Int) := by omega
  have hgw := r5.lt
  have hdw : d < w5.heap.size := (o5.block rfl).2.1
  have hd0 : w.heap.size ≤ d := (o5.block rfl).1
  have hgd : g < d := by omega
  have hd5 : d ≠ B5 := fun h => (BoxC.apart z5 (by decide) o5 _ rfl) h.symm
  have hd4 : d ≠ w.heap.size + 1 := fun h => (BoxC.apart z4 (by decide) o5 _ rfl) h.symm
  have hwp : IntKind.i64.wrap (now + 1) = now + 1 := IntWalk.i64_in _ (by omega)
  have hwm : IntKind.i64.wrap (now - 1) = now - 1 := IntWalk.i64_in _ (by omega)
  by_cases hj0 : j = 0
  · subst hj0
    go_wp2_with fail
    refine (numC g (p + 1 + 1 + 1) 4 4 w5.heap.size 0 A m c l [-1, 41, now - 1, 40] _ (r5.on (bel_alloc (Below.refl _ w5) _)) (by have := HP.out; omega) (Sl.lit (enc := encI) w5 #[.int .i64 (-1), .int .i64 41, .int .i64 (now - 1), .int .i64 40] 3 [-1, 41, now - 1, 40] rfl 4 rfl) (by omega) (by omega) (by omega)).mono ?_
    rintro e w6 ⟨s, rfl, hs, r6, t6⟩
    have hs2 : s = -1 ∨ s = 41 ∨ s = now - 1 ∨ s = 40 := by simpa using hs
    have o6 := (o5.alloc (.cells #[.int .i64 (-1), .int .i64 (41), .int .i64 (now - 1), .int .i64 (40)] 3)).farRd t6 hg
    have y4 := (z4.alloc (.cells #[.int .i64 (-1), .int .i64 (41), .int .i64 (now - 1), .int .i64 (40)] 3)).turn t6 (fun x hx => by cases hx; simp only; omega)
    have y5 := (z5.alloc (.cells #[.int .i64 (-1), .int .i64 (41), .int .i64 (now - 1), .int .i64 (40)] 3)).turn t6 (fun x hx => by cases hx; simp only; omega)
    have s6 := (s5.alloc (.cells #[.int .i64 (-1), .int .i64 (41), .int .i64 (now - 1), .int .i64 (40)] 3)).trans t6
    have c0 := y5.c (k := 0) rfl
    have c1' := y5.c (k := 1) rfl
    have c2 := y5.f 0
    have u5 := y5.set 0 (.int .i64 s)
    have u4 := y4.other (B' := B5) (k := 0) (x := .int .i64 s) (by omega)
    have uo := o6.box (k := 0) (v := .int .i64 s) y5 (by decide)
    have ur := r6.setB 0 (.int .i64 s) hgB
    have ut := s6.setOwn (d := B5) (o := 0) (by omega) (.int .i64 s)
    clear a0 a1 a2 a3 hs z4 z5 o5 r5 s5 t6
    have q0 := u5.c (k := 0) rfl
    have q1 := u5.c (k := 1) rfl
    have d0 := u4.c (k := 0) rfl
    have d1 := u4.c (k := 1) rfl
    have f0 := u4.f 0
    have f1 := u4.f 1
    have HX4 := Lib.hid u4
    have HO := Lib.hid uo
    have HR := Lib.hid ur
    have HT := Lib.hid ut
    have z := (u4.set 0 (.int .i64 (s))).set 1 (.slice (some ⟨d, 0, none⟩) n c1)
    have z0 := z.c (k := 0) rfl
    have z1 := z.c (k := 1) rfl
    go_wp2_with fail
    exact bodyPost_ret (v := .agg #[.int .i64 (s), .slice (some ⟨d, 0, none⟩) n c1]) (by simp [results, Try.results107, go_sem, z0, z1]) rfl ⟨s, (some ⟨d, 0, none⟩), n, c1, lv, p + 1 + 1 + 1 + 1, rfl, (HO.out.box HX4.out (by decide)).box (HX4.out.set 0 _) (by decide), HK.out, by omega, by omega, by omega, by omega, (HR.out.setB 0 _ hg4).setB 1 _ hg4, (HT.out.setOwn (by omega) _).setOwn (by omega) _⟩
  by_cases hj1 : j = 1
  · subst hj1
    have m0 := (z5.alloc (.cells #[.int .i64 (0), .int .i64 (-1), .int .i64 (now + 1), .int .i64 (1)] 3)).c (k := 0) rfl
    have m1 := (z5.alloc (.cells #[.int .i64 (0), .int .i64 (-1), .int .i64 (now + 1), .int .i64 (1)] 3)).c (k := 1) rfl
    have m2 := (o5.alloc (.cells #[.int .i64 (0), .int .i64 (-1), .int .i64 (now + 1), .int .i64 (1)] 3)).cellAt encVer_len (j := 2) HX.out rfl
    go_wp2_with fail
    go_region_law ((go_simp; go_at_call 116; refine (numC g (p + 1 + 1 + 1) 4 4 w5.heap.size 0 A m c l [0, -1, now + 1, 1] _ (by exact (r5.on (bel_alloc (Below.refl _ w5) (.cells #[.int .i64 (0), .int .i64 (-1), .int .i64 (now + 1), .int .i64 (1)] 3))).drewN 1) (by have := HP.out; omega) (by exact (Sl.lit (enc := encI) w5 #[.int .i64 (0), .int .i64 (-1), .int .i64 (now + 1), .int .i64 (1)] 3 [0, -1, now + 1, 1] rfl 4 rfl)) (by omega) (by omega) (by omega)).mono ?_; rintro e w6 ⟨s, rfl, -, r6, t6⟩; have o6 := ((o5.alloc (.cells #[.int .i64 (0), .int .i64 (-1), .int .i64 (now + 1), .int .i64 (1)] 3)).drew).farRd t6 hg; have y4 := ((z4.alloc (.cells #[.int .i64 (0), .int .i64 (-1), .int .i64 (now + 1), .int .i64 (1)] 3)).drew).turn t6 (fun x hx => by cases hx; simp only; omega); have y5 := ((z5.alloc (.cells #[.int .i64 (0), .int .i64 (-1), .int .i64 (now + 1), .int .i64 (1)] 3)).drew).turn t6 (fun x hx => by cases hx; simp only; omega); have s6 := ((s5.alloc (.cells #[.int .i64 (0), .int .i64 (-1), .int .i64 (now + 1), .int .i64 (1)] 3)).drew).trans t6; have cc0 := y5.c (k := 0) rfl; have cc1 := y5.c (k := 1) rfl; have fr6 := o6.free (k * 4 + 2); have cc6 := o6.cellAt encVer_len (j := 2) HX.out rfl))
    all_goals
      have u5 := y5.other (B' := d) (k := k * 4 + 2) (x := .int .i64 s) (fun h => hd5 h.symm)
      have u4 := y4.other (B' := d) (k := k * 4 + 2) (x := .int .i64 s) (fun h => hd4 h.symm)
      have uo := o6.set1 encVer_len k 2 (g0, g1, g2, g3) (g0, g1, s, g3) (.int .i64 s) HX.out (by omega) rfl
      have ur := r6.setB (k * 4 + 2) (.int .i64 s) hgd
      have ut := s6.setOwn (d := d) (o := k * 4 + 2) hd0 (.int .i64 s)
      have q0 := u5.c (k := 0) rfl
      have q1 := u5.c (k := 1) rfl
      have d0 := u4.c (k := 0) rfl
      have d1 := u4.c (k := 1) rfl
      have f0 := u4.f 0
      have f1 := u4.f 1
      have HX4 := Lib.hid u4
      have HO := Lib.hid uo
      have HR := Lib.hid ur
      have HT := Lib.hid ut
      have z := (u4.set 0 (.int .i64 (now))).set 1 (.slice (some ⟨d, 0, none⟩) n c1)
      have z0 := z.c (k := 0) rfl
      have z1 := z.c (k := 1) rfl
      go_wp2_with fail
      exact bodyPost_ret (v := .agg #[.int .i64 (now), .slice (some ⟨d, 0, none⟩) n c1]) (by simp [results, Try.results107, go_sem, z0, z1]) rfl ⟨now, (some ⟨d, 0, none⟩), n, c1, (lv.set k (g0, g1, s, g3)), p + 1 + 1 + 1 + 1, rfl, (HO.out.box HX4.out (by decide)).box (HX4.out.set 0 _) (by decide), HK.out.set k (show g0.size ≤ maxLen from HWX.out), by omega, by omega, by omega, by omega, (HR.out.setB 0 _ hg4).setB 1 _ hg4, (HT.out.setOwn (by omega) _).setOwn (by omega) _⟩
  by_cases hj2 : j = 2
  · subst hj2
    have m0 := (z5.alloc (.cells #[.int .i64 (0), .int .i64 (-1), .int .i64 (now + 1), .int .i64 (g2)] 3)).c (k := 0) rfl
    have m1 := (z5.alloc (.cells #[.int .i64 (0), .int .i64 (-1), .int .i64 (now + 1), .int .i64 (g2)] 3)).c (k := 1) rfl
    have m2 := (o5.alloc (.cells #[.int .i64 (0), .int .i64 (-1), .int .i64 (now + 1), .int .i64 (g2)] 3)).cellAt encVer_len (j := 2) HX.out rfl
    go_wp2_with fail
    go_region_law ((go_simp; go_at_call 116; refine (numC g (p + 1 + 1 + 1) 4 4 w5.heap.size 0 A m c l [0, -1, now + 1, g2] _ (by exact (r5.on (bel_alloc (Below.refl _ w5) (.cells #[.int .i64 (0), .int .i64 (-1), .int .i64 (now + 1), .int .i64 (g2)] 3))).drewN 1) (by have := HP.out; omega) (by exact (Sl.lit (enc := encI) w5 #[.int .i64 (0), .int .i64 (-1), .int .i64 (now + 1), .int .i64 (g2)] 3 [0, -1, now + 1, g2] rfl 4 rfl)) (by omega) (by omega) (by omega)).mono ?_; rintro e w6 ⟨s, rfl, -, r6, t6⟩; have o6 := ((o5.alloc (.cells #[.int .i64 (0), .int .i64 (-1), .int .i64 (now + 1), .int .i64 (g2)] 3)).drew).farRd t6 hg; have y4 := ((z4.alloc (.cells #[.int .i64 (0), .int .i64 (-1), .int .i64 (now + 1), .int .i64 (g2)] 3)).drew).turn t6 (fun x hx => by cases hx; simp only; omega); have y5 := ((z5.alloc (.cells #[.int .i64 (0), .int .i64 (-1), .int .i64 (now + 1), .int .i64 (g2)] 3)).drew).turn t6 (fun x hx => by cases hx; simp only; omega); have s6 := ((s5.alloc (.cells #[.int .i64 (0), .int .i64 (-1), .int .i64 (now + 1), .int .i64 (g2)] 3)).drew).trans t6; have cc0 := y5.c (k := 0) rfl; have cc1 := y5.c (k := 1) rfl; have fr6 := o6.free (k * 4 + 3); have cc6 := o6.cellAt encVer_len (j := 3) HX.out rfl))
    all_goals
      have u5 := y5.other (B' := d) (k := k * 4 + 3) (x := .int .i64 s) (fun h => hd5 h.symm)
      have u4 := y4.other (B' := d) (k := k * 4 + 3) (x := .int .i64 s) (fun h => hd4 h.symm)
      have uo := o6.set1 encVer_len k 3 (g0, g1, g2, g3) (g0, g1, g2, s) (.int .i64 s) HX.out (by omega) rfl
      have ur := r6.setB (k * 4 + 3) (.int .i64 s) hgd
      have ut := s6.setOwn (d := d) (o := k * 4 + 3) hd0 (.int .i64 s)
      have q0 := u5.c (k := 0) rfl
      have q1 := u5.c (k := 1) rfl
      have d0 := u4.c (k := 0) rfl
      have d1 := u4.c (k := 1) rfl
      have f0 := u4.f 0
      have f1 := u4.f 1
      have HX4 := Lib.hid u4
      have HO := Lib.hid uo
      have HR := Lib.hid ur
      have HT := Lib.hid ut
      have z := (u4.set 0 (.int .i64 (now))).set 1 (.slice (some ⟨d, 0, none⟩) n c1)
      have z0 := z.c (k := 0) rfl
      have z1 := z.c (k := 1) rfl
      go_wp2_with fail
      exact bodyPost_ret (v := .agg #[.int .i64 (now), .slice (some ⟨d, 0, none⟩) n c1]) (by simp [results, Try.results107, go_sem, z0, z1]) rfl ⟨now, (some ⟨d, 0, none⟩), n, c1, (lv.set k (g0, g1, g2, s)), p + 1 + 1 + 1 + 1, rfl, (HO.out.box HX4.out (by decide)).box (HX4.out.set 0 _) (by decide), HK.out.set k (show g0.size ≤ maxLen from HWX.out), by omega, by omega, by omega, by omega, (HR.out.setB 0 _ hg4).setB 1 _ hg4, (HT.out.setOwn (by omega) _).setOwn (by omega) _⟩
  by_cases hj3 : j = 3
  · subst hj3
    have m0 := (z5.alloc (.cells #[.string ⟨#[]⟩, .string ⟨#[122, 122]⟩, .string ⟨#[97]⟩] 9)).c (k := 0) rfl
    have m1 := (z5.alloc (.cells #[.string ⟨#[]⟩, .string ⟨#[122, 122]⟩, .string ⟨#[97]⟩] 9)).c (k := 1) rfl
    go_wp2_with fail
    go_region_law ((go_simp; go_at_call 109; refine (ofC g (p + 1 + 1 + 1) 3 3 w5.heap.size 0 A m c l vs3 _ (by exact (r5.on (bel_alloc (Below.refl _ w5) (.cells #[.string ⟨#[]⟩, .string ⟨#[122, 122]⟩, .string ⟨#[97]⟩] 9))).drewN 1) (by have := HP.out; omega) (by exact (Sl.lit (enc := encT) w5 #[.string ⟨#[]⟩, .string ⟨#[122, 122]⟩, .string ⟨#[97]⟩] 9 vs3 rfl 3 rfl)) (by omega) (by omega) (by omega)).mono ?_; rintro e w6 ⟨s, rfl, hs, r6, t6⟩; have o6 := ((o5.alloc (.cells #[.string ⟨#[]⟩, .string ⟨#[122, 122]⟩, .string ⟨#[97]⟩] 9)).drew).farRd t6 hg; have y4 := ((z4.alloc (.cells #[.string ⟨#[]⟩, .string ⟨#[122, 122]⟩, .string ⟨#[97]⟩] 9)).drew).turn t6 (fun x hx => by cases hx; simp only; omega); have y5 := ((z5.alloc (.cells #[.string ⟨#[]⟩, .string ⟨#[122, 122]⟩, .string ⟨#[97]⟩] 9)).drew).turn t6 (fun x hx => by cases hx; simp only; omega); have s6 := ((s5.alloc (.cells #[.string ⟨#[]⟩, .string ⟨#[122, 122]⟩, .string ⟨#[97]⟩] 9)).drew).trans t6; have cc0 := y5.c (k := 0) rfl; have cc1 := y5.c (k := 1) rfl; have fr6 := o6.free (k * 4); have cc6 := o6.cellAt encVer_len (j := 0) HX.out rfl; rw [Nat.add_zero] at cc6))
    all_goals
      have u5 := y5.other (B' := d) (k := k * 4) (x := .string s) (fun h => hd5 h.symm)
      have u4 := y4.other (B' := d) (k := k * 4) (x := .string s) (fun h => hd4 h.symm)
      have uo := o6.set1 encVer_len k 0 (g0, g1, g2, g3) (s, g1, g2, g3) (.string s) HX.out (by omega) rfl
      have ur := r6.setB (k * 4) (.string s) hgd
      have ut := s6.setOwn (d := d) (o := k * 4) hd0 (.string s)
      have q0 := u5.c (k := 0) rfl
      have q1 := u5.c (k := 1) rfl
      have d0 := u4.c (k := 0) rfl
      have d1 := u4.c (k := 1) rfl
      have f0 := u4.f 0
      have f1 := u4.f 1
      have HX4 := Lib.hid u4
      have HO := Lib.hid uo
      have HR := Lib.hid ur
      have HT := Lib.hid ut
      have z := (u4.set 0 (.int .i64 (now))).set 1 (.slice (some ⟨d, 0, none⟩) n c1)
      have z0 := z.c (k := 0) rfl
      have z1 := z.c (k := 1) rfl
      go_wp2_with fail
      exact bodyPost_ret (v := .agg #[.int .i64 (now), .slice (some ⟨d, 0, none⟩) n c1]) (by simp [results, Try.results107, go_sem, z0, z1]) rfl ⟨now, (some ⟨d, 0, none⟩), n, c1, (lv.set k (s, g1, g2, g3)), p + 1 + 1 + 1 + 1, rfl, (HO.out.box HX4.out (by decide)).box (HX4.out.set 0 _) (by decide), HK.out.set k (show s.size ≤ maxLen from Nat.le_trans (vs3_small s hs) (by unfold maxLen; omega)), by omega, by omega, by omega, by omega, (HR.out.setB 0 _ hg4).setB 1 _ hg4, (HT.out.setOwn (by omega) _).setOwn (by omega) _⟩
  by_cases hj4 : j = 4
  · subst hj4
    have m0 := (z5.alloc (.cells #[.string g0, .int .i64 g1, .int .i64 g2, .int .i64 g3] 77)).c (k := 0) rfl
    have m1 := (z5.alloc (.cells #[.string g0, .int .i64 g1, .int .i64 g2, .int .i64 g3] 77)).c (k := 1) rfl
    go_wp2_with fail
    go_region_law ((refine step_append_sl _ (by rfl) (.tmp 91) (.tmp 97) 37 (by rfl) w.heap.size 77 i0 _ 4 40 Try.underlying37 hi0 hz0 hz1 hz2 rfl (by decide) encVer_len encVer_one _ lv (by rfl) ((o5.alloc (.cells #[.string g0, .int .i64 g1, .int .i64 g2, .int .i64 g3] 77)).drew) _ (some ⟨w5.heap.size, 0, none⟩) 1 1 [(g0, g1, g2, g3)] (by rfl) (by exact Sl.lit1 (enc := encVer) w5 #[.string g0, .int .i64 g1, .int .i64 g2, .int .i64 g3] 77 (g0, g1, g2, g3) rfl) (by have := HL.out; unfold maxLen; omega) (by have := HL.out; omega) (by have := s5.size; rw [show (w5.alloc (.cells #[.string g0, .int .i64 g1, .int .i64 g2, .int .i64 g3] 77)).drew.heap.size = (w5.alloc (.cells #[.string g0, .int .i64 g1, .int .i64 g2, .int .i64 g3] 77)).heap.size from rfl, World.size_alloc]; omega) ?_; intro v6 w6 o6 g6; obtain ⟨A6, c6, rfl, -, -⟩ := o6.form; rw [show (lv ++ [(g0, g1, g2, g3)]).length = n + 1 by rw [List.length_append, HL.out]; rfl] at o6 ⊢; have y4 := ((z4.alloc (.cells #[.string g0, .int .i64 g1, .int .i64 g2, .int .i64 g3] 77)).drew).appended (by decide) ((o5.alloc (.cells #[.string g0, .int .i64 g1, .int .i64 g2, .int .i64 g3] 77)).drew) g6; have y5 := ((z5.alloc (.cells #[.string g0, .int .i64 g1, .int .i64 g2, .int .i64 g3] 77)).drew).appended (by decide) ((o5.alloc (.cells #[.string g0, .int .i64 g1, .int .i64 g2, .int .i64 g3] 77)).drew) g6; have r6 := (((r5.on (bel_alloc (Below.refl _ w5) (.cells #[.string g0, .int .i64 g1, .int .i64 g2, .int .i64 g3] 77))).drewN 1)).grown g6 (fun k hk => by have := (World.ownsRow.lt o5 k hk).1; omega); have s6 := ((s5.alloc (.cells #[.string g0, .int .i64 g1, .int .i64 g2, .int .i64 g3] 77)).drew).grown g6 (fun k hk => (World.ownsRow.lt o5 k hk).1); have cc0 := y5.c (k := 0) rfl; have cc1 := y5.c (k := 1) rfl; have fr6 := y5.f 1))
    all_goals
      have u5 := y5.set 1 (.slice A6 (n + 1) c6)
      have u4 := y4.other (B' := B5) (k := 1) (x := .slice A6 (n + 1) c6) (by omega)
      have uo := o6.box (k := 1) (v := .slice A6 (n + 1) c6) y5 (by decide)
      have ur := r6.setB 1 (.slice A6 (n + 1) c6) hgB
      have ut := s6.setOwn (d := B5) (o := 1) (by omega) (.slice A6 (n + 1) c6)
      have q0 := u5.c (k := 0) rfl
      have q1 := u5.c (k := 1) rfl
      have d0 := u4.c (k := 0) rfl
      have d1 := u4.c (k := 1) rfl
      have f0 := u4.f 0
      have f1 := u4.f 1
      have HX4 := Lib.hid u4
      have HO := Lib.hid uo
      have HR := Lib.hid ur
      have HT := Lib.hid ut
      have z := (u4.set 0 (.int .i64 (now))).set 1 (.slice A6 (n + 1) c6)
      have z0 := z.c (k := 0) rfl
      have z1 := z.c (k := 1) rfl
      go_wp2_with fail
      exact bodyPost_ret (v := .agg #[.int .i64 (now), .slice A6 (n + 1) c6]) (by simp [results, Try.results107, go_sem, z0, z1]) rfl ⟨now, A6, (n + 1), c6, (lv ++ [(g0, g1, g2, g3)]), p + 1 + 1 + 1, rfl, (HO.out.box HX4.out (by decide)).box (HX4.out.set 0 _) (by decide), HK.out.app (VerSWf.one (HK.out.at_ HX.out)), by omega, by omega, by omega, by omega, (HR.out.setB 0 _ hg4).setB 1 _ hg4, (HT.out.setOwn (by omega) _).setOwn (by omega) _⟩
  have j0 : ((j : Int) == 0) = false := by simp; omega
  have j1 : ((j : Int) == 1) = false := by simp; omega
  have j2 : ((j : Int) == 2) = false := by simp; omega
  have j3 : ((j : Int) == 3) = false := by simp; omega
  have j4 : ((j : Int) == 4) = false := by simp; omega
  have m0 := (z5.alloc (.cells #[.int .i64 (1000), .int .i64 (5)] 3)).c (k := 0) rfl
  have m1 := (z5.alloc (.cells #[.int .i64 (1000), .int .i64 (5)] 3)).c (k := 1) rfl
  have m2 := (o5.alloc (.cells #[.int .i64 (1000), .int .i64 (5)] 3)).cellAt encVer_len (j := 2) HX.out rfl
  go_wp2_with fail
  go_region_law ((go_simp; go_at_call 116; refine (numC g (p + 1 + 1 + 1) 2 2 w5.heap.size 0 A m c l [1000, 5] _ (by exact (r5.on (bel_alloc (Below.refl _ w5) (.cells #[.int .i64 (1000), .int .i64 (5)] 3))).drewN 1) (by have := HP.out; omega) (by exact (Sl.lit (enc := encI) w5 #[.int .i64 (1000), .int .i64 (5)] 3 [1000, 5] rfl 2 rfl)) (by omega) (by omega) (by omega)).mono ?_; rintro e w6 ⟨s, rfl, -, r6, t6⟩; have o6 := ((o5.alloc (.cells #[.int .i64 (1000), .int .i64 (5)] 3)).drew).farRd t6 hg; have y4 := ((z4.alloc (.cells #[.int .i64 (1000), .int .i64 (5)] 3)).drew).turn t6 (fun x hx => by cases hx; simp only; omega); have y5 := ((z5.alloc (.cells #[.int .i64 (1000), .int .i64 (5)] 3)).drew).turn t6 (fun x hx => by cases hx; simp only; omega); have s6 := ((s5.alloc (.cells #[.int .i64 (1000), .int .i64 (5)] 3)).drew).trans t6; have cc0 := y5.c (k := 0) rfl; have cc1 := y5.c (k := 1) rfl; have fr6 := o6.free (k * 4 + 1); have cc6 := o6.cellAt encVer_len (j := 1) HX.out rfl))
  all_goals
    have u5 := y5.other (B' := d) (k := k * 4 + 1) (x := .int .i64 s) (fun h => hd5 h.symm)
    have u4 := y4.other (B' := d) (k := k * 4 + 1) (x := .int .i64 s) (fun h => hd4 h.symm)
    have uo := o6.set1 encVer_len k 1 (g0, g1, g2, g3) (g0, s, g2, g3) (.int .i64 s) HX.out (by omega) rfl
    have ur := r6.setB (k * 4 + 1) (.int .i64 s) hgd
    have ut := s6.setOwn (d := d) (o := k * 4 + 1) hd0 (.int .i64 s)
    have q0 := u5.c (k := 0) rfl
    have q1 := u5.c (k := 1) rfl
    have d0 := u4.c (k := 0) rfl
    have d1 := u4.c (k := 1) rfl
    have f0 := u4.f 0
    have f1 := u4.f 1
    have HX4 := Lib.hid u4
    have HO := Lib.hid uo
    have HR := Lib.hid ur
    have HT := Lib.hid ut
    have z := (u4.set 0 (.int .i64 (now))).set 1 (.slice (some ⟨d, 0, none⟩) n c1)
    have z0 := z.c (k := 0) rfl
    have z1 := z.c (k := 1) rfl
    go_wp2_with fail
    exact bodyPost_ret (v := .agg #[.int .i64 (now), .slice (some ⟨d, 0, none⟩) n c1]) (by simp [results, Try.results107, go_sem, z0, z1]) rfl ⟨now, (some ⟨d, 0, none⟩), n, c1, (lv.set k (g0, s, g2, g3)), p + 1 + 1 + 1 + 1, rfl, (HO.out.box HX4.out (by decide)).box (HX4.out.set 0 _) (by decide), HK.out.set k (show g0.size ≤ maxLen from HWX.out), by omega, by omega, by omega, by omega, (HR.out.setB 0 _ hg4).setB 1 _ hg4, (HT.out.setOwn (by omega) _).setOwn (by omega) _⟩
end Go.Proofs.Ytpofgidhhcolfaa
