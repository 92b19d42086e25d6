/- The law FnVersLast, walked. -/
import Derived.Test.YtpofgidhhcolfaaX11
import Derived.Test.YtpofgidhhcolfaaPV
import Derived.Test.YtpofgidhhcolfaaV10
namespace Go.Proofs.Ytpofgidhhcolfaa
open Go.RowKit

set_option maxHeartbeats 4000000 in
set_option maxRecDepth 100000 in
theorem lawFnVersLast (A : Option Addr) (n c : Nat) (l : List UInt8) (w : World) (hr : Sl encB w w.heap.size A n l) (hn : n ≤ maxLen) (hc : n ≤ c) :
    Calls Try.prog 18 #[.slice A n c] w fun e w' => e = .returned (.bool true) ∧ Below w.heap.size w w' := by
  unfold maxLen at hn
  by_cases hbig : 1048576 < n
  · have hb : (1048576 : Int) < (n : Int) := by omega
    go_enter Try.func18, Try.ntmps18
    go_wp2
    go_ret
    exact ⟨rfl, Below.refl _ _⟩
  have hb : ¬ (1048576 : Int) < (n : Int) := by omega
  go_enter Try.func18, Try.ntmps18
  go_wp2_with fail
  refine (drawVersLast A n c l w hr (by omega) hc).mono ?_
  rintro e w1 ⟨now, B, m, cb, lv, key, rfl, o1, hS, hm, hlo, hhi, hkey, b1⟩
  have HS := Lib.hid hS
  have HKEY := Lib.hid hkey
  clear hr hn hc hb hbig hS hkey
  have x2 := BoxC.new w1 39 #[.int .i64 now, .slice B m cb]
  have o2 := o1.alloc (.cells #[.int .i64 now, .slice B m cb] 39)
  have b2 := bel_alloc b1 (.cells #[.int .i64 now, .slice B m cb] 39)
  go_wp2_with fail
  obtain ⟨D, hD⟩ : ∃ D, w1.heap.size = D := ⟨_, rfl⟩
  rw [hD] at x2
  rw [hD]
  clear hD o1 b1
  generalize w1.alloc (.cells #[.int .i64 now, .slice B m cb] 39) = w2 at *
  have HO := Lib.hid o2
  have HX := Lib.hid x2
  have HB := Lib.hid b2
  have HM := Lib.hid hm
  have HC : Hid (∀ W, Below w2.heap.size w2 W → W.cell? ⟨D, 0, none⟩ = some (.int .i64 now) ∧ W.cell? ⟨D, 1, none⟩ = some (.slice B m cb) ∧ D < W.heap.size) := Lib.hid fun W hW => ⟨(HX.out.on hW).c (k := 0) rfl, (HX.out.on hW).c (k := 1) rfl, (HX.out.on hW).lt⟩
  obtain ⟨p0, p1, p2⟩ := HC.out w2 (Below.refl _ _)
  clear o2 x2 b2 hm
  obtain ⟨t, ht⟩ : ∃ t, lastRes now lv key = t := ⟨_, rfl⟩
  have HT := Lib.hid ht
  clear ht
  have htt : (t != t) = false := by simp
  refine (implVersLast now B m cb lv key w2 HO.out.sl HS.out (by have := HM.out; omega)).mono ?_
  rintro e w3 ⟨rfl, hb3⟩
  rw [HT.out]
  obtain ⟨p0, p1, p2⟩ := HC.out w3 hb3
  go_wp2_with fail
  refine (specVersLast now B m cb lv key w3 (HO.out.on hb3).sl HS.out (by have := HM.out; omega)).mono ?_
  rintro e w4 ⟨rfl, hb4⟩
  rw [HT.out]
  have hb5 := bel_trans hb3 hb4
  obtain ⟨p0, p1, p2⟩ := HC.out w4 hb5
  clear hb3 hb4
  go_wp2_with fail
  refine (specVersOk now B m cb lv w4 (HO.out.on hb5).sl HS.out (by have := HM.out; omega)).mono ?_
  rintro e w6 ⟨rfl, hb6⟩
  have hb7 := bel_trans hb5 hb6
  obtain ⟨p0, p1, p2⟩ := HC.out w6 hb7
  clear hb5 hb6
  cases hok : versOk now lv
  · have h0 : t = 0 := by rw [← HT.out, lastRes_bad hok]
    subst h0
    clear hok
    go_wp2
    go_ret
    exact ⟨rfl, bel_trans HB.out hb7⟩
  have HP := Lib.hid (versOk_iff.1 hok)
  have HK := Lib.hid hok
  clear hok
  have HT2 : Hid (lastL lv key = t) := Lib.hid (by rw [← HT.out, lastRes_ok HK.out])
  have t0 : 0 ≤ t := by rw [← HT2.out]; exact last_nonneg lv key
  have t1 : t ≤ now := by rw [← HT2.out]; exact last_le_now HP.out key
  have n0 : 0 ≤ now := HP.out.1.1
  have HSAME : Hid (∀ k, t ≤ k → k ≤ now → getNum (atL lv k) key = getNum (atL lv now) key ∧ getHas (atL lv k) key = getHas (atL lv now) key) := Lib.hid fun k h1 h2 => at_same HP.out (by rw [HT2.out]; exact h1) h2
  obtain ⟨gn, hgn⟩ : ∃ gn, getNum (atL lv now) key = gn := ⟨_, rfl⟩
  obtain ⟨gh, hgh⟩ : ∃ gh, getHas (atL lv now) key = gh := ⟨_, rfl⟩
  rw [hgn, hgh] at HSAME
  have HGN := Lib.hid hgn
  have HGH := Lib.hid hgh
  clear hgn hgh
  have HAT : Hid (∀ k W, t ≤ k → k ≤ now → Below w2.heap.size w2 W → Calls Try.prog 46 #[.agg #[.int .i64 now, .slice B m cb], .int .i64 k] W (OwnPost W (atL lv k))) := Lib.hid fun k W h1 h2 hW => by
    have h := implVersAt now B m cb lv k W (HO.out.on hW).sl HS.out (by have := HM.out; omega)
    rwa [atRes_ok HK.out (by omega) h2] at h
  have HRP : Hid (∀ k, t ≤ k → k ≤ now → RowsP (atL lv k)) := Lib.hid fun k h1 h2 => at_rowsP HP.out (by omega) h2
  go_wp2_with fail
  refine (HAT.out now w6 t1 (Int.le_refl _) hb7).mono ?_
  rintro e w8 ⟨v8, rfl, o8, hb8⟩
  obtain ⟨R, cR, rfl, -, -⟩ := o8.form
  go_wp2_with fail
  refine (implRowsGet R _ cR _ key w8 o8.sl (HRP.out now t1 (Int.le_refl _)).sm.wf (by have := (HRP.out now t1 (Int.le_refl _)).1; omega)).mono ?_
  rintro e w9 ⟨rfl, hb9⟩
  rw [HGN.out, HGH.out]
  have hb10 := bel_trans hb7 (bel_trans hb8 hb9)
  clear hb7 hb8 hb9 o8 p0 p1 p2
  go_wp2_with fail
  go_loopw [8] (fun v8 wr => ∃ k : Int, v8 = .int .i64 k ∧ t ≤ k ∧ k ≤ now + 1 ∧ Below w2.heap.size w2 wr) (fun v8 _ => (now + 1 - intOf v8).toNat)
  case atStart => exact ⟨t, rfl, Int.le_refl _, by omega, hb10⟩
  case round =>
    clear hb10
    obtain ⟨k, rfl, hk0, hk1, hbw⟩ := hrel
    obtain ⟨p0, p1, p2⟩ := HC.out wr hbw
    by_cases hlt : k ≤ now
    · have hkk : 0 ≤ k := by omega
      have hk40 : k ≤ 1000 := by omega
      go_wp2_with fail
      refine (HAT.out k wr hk0 hlt hbw).mono ?_
      rintro e w11 ⟨v11, rfl, o11, hb11⟩
      obtain ⟨R1, cR1, rfl, -, -⟩ := o11.form
      go_wp2_with fail
      refine (implRowsGet R1 _ cR1 _ key w11 o11.sl (HRP.out k hk0 hlt).sm.wf (by have := (HRP.out k hk0 hlt).1; omega)).mono ?_
      rintro e w12 ⟨rfl, hb12⟩
      rw [(HSAME.out k hk0 hlt).1, (HSAME.out k hk0 hlt).2]
      have hb13 := bel_trans hbw (bel_trans hb11 hb12)
      clear hbw hb11 hb12 o11 p0 p1 p2
      have hnn : (gn != gn) = false := by simp
      have hhh : (gh != gh) = false := by simp
      go_wp2_with fail
      go_roundw
      case rel => exact ⟨k + 1, by go_num, by omega, by omega, hb13⟩
      case measure => simp [intOf]; omega
    · go_wp2_with fail
      go_ret
      exact ⟨rfl, bel_trans HB.out hbw⟩
end Go.Proofs.Ytpofgidhhcolfaa
