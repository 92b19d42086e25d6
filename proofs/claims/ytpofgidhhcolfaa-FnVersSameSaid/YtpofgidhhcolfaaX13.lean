/- Contract: VersDo of the reference. -/
import Derived.Test.YtpofgidhhcolfaaX10
namespace Go.Proofs.Ytpofgidhhcolfaa
open Go.RowKit

set_option maxHeartbeats 4000000 in
set_option maxRecDepth 100000 in
theorem versDo (now : Int) (A : Option Addr) (n c : Nat) (l : List Ver) (B : Option Addr) (m d : Nat) (p : List Write) (w : World) (hr : Sl encVer w w.heap.size A n l) (hP : VersP now l) (hs : Sl encWrite w w.heap.size B m p) (hk : WriteSWf p) (hm : m ≤ 1000) :
    Calls Try.prog 105 #[.agg #[.int .i64 now, .slice A n c], .slice B m d] w (DoPost w) := by
  have hn60 : n ≤ 60 := by have := hP.1.2.2; rw [hr.len] at this; exact this
  have HR := Lib.hid hr
  have HP := Lib.hid hP
  have HS := Lib.hid hs
  have HK := Lib.hid hk
  have HM := Lib.hid hm
  have HN := Lib.hid hn60
  have b0 := bel_alloc (bel_alloc (Below.refl _ w) (.cells #[.int .i64 now, .slice A n c] 39)) (.cells #[.int .i64 0, .slice none 0 0] 39)
  have x1 := ((BoxC.new w 39 #[.int .i64 now, .slice A n c]).alloc (.cells #[.int .i64 0, .slice none 0 0] 39))
  have x2 := (BoxC.new (w.alloc (.cells #[.int .i64 now, .slice A n c] 39)) 39 #[.int .i64 0, .slice none 0 0])
  simp only [World.size_alloc] at x2
  have hz0 : w.heap.size ≤ ((w.alloc (.cells #[.int .i64 now, .slice A n c] 39)).alloc (.cells #[.int .i64 0, .slice none 0 0] 39)).heap.size := b0.size
  have q0 := x1.c (k := 0) rfl
  have q1 := x1.c (k := 1) rfl
  clear hr hP hs hk hm hn60
  go_enter Try.func105, Try.ntmps105
  go_wp2_with fail
  generalize (w.alloc (.cells #[.int .i64 now, .slice A n c] 39)).alloc (.cells #[.int .i64 0, .slice none 0 0] 39) = w0 at *
  refine (specVersOk now A n c l w0 (HR.out.on b0) HP.out.swf (by have := HN.out; omega)).mono ?_
  rintro e w1 ⟨rfl, hb1⟩
  rw [versOk_true HP.out]
  replace x1 := x1.on hb1
  replace x2 := x2.on hb1
  replace b0 := bel_trans b0 hb1
  replace q0 := x1.c (k := 0) rfl
  replace q1 := x1.c (k := 1) rfl
  clear hb1 hz0
  go_wp2_with fail
  refine (Wx.specWritesOk B m d p w1 (HS.out.on b0) HK.out (by have := HM.out; omega)).mono ?_
  rintro e w2 ⟨rfl, hb2⟩
  replace x1 := x1.on hb2
  replace x2 := x2.on hb2
  replace b0 := bel_trans b0 hb2
  replace q0 := x1.c (k := 0) rfl
  replace q1 := x1.c (k := 1) rfl
  have hz2 : w.heap.size ≤ w2.heap.size := b0.size
  clear hb2
  cases hok : Wx.writesOk 6 p
  · clear hok
    go_wp2_with fail
    refine (l2Copy now A n c l w2 (HR.out.on b0) (by have := HN.out; omega)).mono ?_
    rintro e w3 ⟨A3, c3, rfl, o3, hb3⟩
    replace x1 := x1.on hb3
    replace x2 := x2.on hb3
    replace b0 := bel_trans b0 hb3
    have f0 := x2.f 0
    have f1 := x2.f 1
    replace q0 := x2.c (k := 0) rfl
    replace q1 := x2.c (k := 1) rfl
    have z := (x2.set 0 (.int .i64 now)).set 1 (.slice A3 l.length c3)
    have z0 := z.c (k := 0) rfl
    have z1 := z.c (k := 1) rfl
    have HO := Lib.hid o3
    have HB := Lib.hid b0
    clear hb3 o3 b0
    go_wp2_with fail
    exact bodyPost_ret (v := .tuple #[.agg #[.int .i64 now, .slice A3 l.length c3], .bool false]) (by simp [results, Try.results105, go_sem, z0, z1]) rfl ⟨_, _, rfl, now, A3, c3, l, rfl, HP.out, ((HO.out.lower hz2).box x2 (by decide)).box (x2.set 0 _) (by decide), bel_set (bel_set HB.out (by simp only; omega) _) (by simp only; omega) _⟩
  · clear hok
    go_wp2_with fail
    refine (l2Do now A n c l B m d p w2 (HR.out.on b0) HP.out (HS.out.on b0) HK.out HM.out).mono ?_
    rintro e w3 ⟨v3, ok3, rfl, now3, A3, c3, l3, rfl, hP3, o3, hb3⟩
    have HP3 := Lib.hid hP3
    have x2a := (x2.on hb3).alloc (.cells #[.int .i64 now3, .slice A3 l3.length c3] 39)
    have x6 := BoxC.new w3 39 #[.int .i64 now3, .slice A3 l3.length c3]
    have o3a := o3.alloc (.cells #[.int .i64 now3, .slice A3 l3.length c3] 39)
    have b3 := bel_alloc (bel_trans b0 hb3) (.cells #[.int .i64 now3, .slice A3 l3.length c3] 39)
    clear hP3 x1 x2 b0 hb3 o3 q0 q1 hz2
    have q0 := x6.c (k := 0) rfl
    have q1 := x6.c (k := 1) rfl
    go_wp2_with fail
    generalize w3.alloc (.cells #[.int .i64 now3, .slice A3 l3.length c3] 39) = w4 at *
    refine (l2Copy now3 A3 l3.length c3 l3 w4 o3a.sl (by have := HP3.out.1.2.2; omega)).mono ?_
    rintro e w5 ⟨A5, c5, rfl, o5, hb5⟩
    replace x2a := x2a.on hb5
    have hz4 : w.heap.size ≤ w4.heap.size := b3.size
    replace b3 := bel_trans b3 hb5
    have f0 := x2a.f 0
    have f1 := x2a.f 1
    have r0 := x2a.c (k := 0) rfl
    have r1 := x2a.c (k := 1) rfl
    have z := (x2a.set 0 (.int .i64 now3)).set 1 (.slice A5 l3.length c5)
    have z0 := z.c (k := 0) rfl
    have z1 := z.c (k := 1) rfl
    have HO := Lib.hid o5
    have HB := Lib.hid b3
    clear hb5 o5 b3 o3a x6 q0 q1
    go_wp2_with fail
    exact bodyPost_ret (v := .tuple #[.agg #[.int .i64 now3, .slice A5 l3.length c5], .bool ok3]) (by simp [results, Try.results105, go_sem, z0, z1]) rfl ⟨_, _, rfl, now3, A5, c5, l3, rfl, HP3.out, ((HO.out.lower hz4).box x2a (by decide)).box (x2a.set 0 _) (by decide), bel_set (bel_set HB.out (by simp only; omega) _) (by simp only; omega) _⟩
end Go.Proofs.Ytpofgidhhcolfaa
