/- The law FnVersAt, walked. -/
import Derived.Test.YtpofgidhhcolfaaX12
import Derived.Test.YtpofgidhhcolfaaPV
import Derived.Test.YtpofgidhhcolfaaV10
import Derived.Test.YtpofgidhhcolfaaD7
namespace Go.Proofs.Ytpofgidhhcolfaa
open Go.RowKit

/-- how many of the first k stand at a time -/
def vcnt (l : List Ver) (t : Int) (k : Nat) : Nat := ((l.take k).filter (vis t)).length
theorem vcnt_zero (l : List Ver) (t : Int) : vcnt l t 0 = 0 := by simp [vcnt]
theorem vcnt_step {l : List Ver} {t : Int} {k : Nat} {x : Ver} (h : l[k]? = some x) : vcnt l t (k + 1) = if vis t x = true then vcnt l t k + 1 else vcnt l t k := by
  unfold vcnt
  obtain ⟨hk, rfl⟩ := List.getElem?_eq_some_iff.1 h
  rw [List.take_succ_eq_append_getElem hk, List.filter_append]
  split <;> rename_i hp <;> simp [hp]
theorem vcnt_all (l : List Ver) (t : Int) : vcnt l t l.length = (atL l t).length := by
  unfold vcnt atL
  rw [List.take_of_length_le (Nat.le_refl _), List.length_map]
set_option maxHeartbeats 4000000 in
set_option maxRecDepth 100000 in
theorem lawFnVersAt (A : Option Addr) (n c : Nat) (l : List UInt8) (w : World) (hr : Sl encB w w.heap.size A n l) (hn : n ≤ maxLen) (hc : n ≤ c) :
    Calls Try.prog 16 #[.slice A n c] w fun e w' => e = .returned (.bool true) ∧ Below w.heap.size w w' := by
  unfold maxLen at hn
  by_cases hbig : 1048576 < n
  · have hb : (1048576 : Int) < (n : Int) := by omega
    go_enter Try.func16, Try.ntmps16
    go_wp2
    go_ret
    exact ⟨rfl, Below.refl _ _⟩
  have hb : ¬ (1048576 : Int) < (n : Int) := by omega
  go_enter Try.func16, Try.ntmps16
  go_wp2_with fail
  refine (drawVersAt A n c l w hr (by omega) hc).mono ?_
  rintro e w1 ⟨now, B, m, cb, lv, t, rfl, o1, hS, hm, hlo, hhi, b1⟩
  have HS := Lib.hid hS
  have HL := Lib.hid o1.len
  clear hr hn hc hb hbig hS
  have x2 := BoxC.new w1 39 #[.int .i64 now, .slice B m cb]
  have o2 := o1.alloc (.cells #[.int .i64 now, .slice B m cb] 39)
  have b2 := bel_alloc b1 (.cells #[.int .i64 now, .slice B m cb] 39)
  go_wp2_with fail
  obtain ⟨D, hD⟩ : ∃ D, w1.heap.size = D := ⟨_, rfl⟩
  rw [hD] at x2
  rw [hD]
  clear hD o1 b1
  generalize w1.alloc (.cells #[.int .i64 now, .slice B m cb] 39) = w2 at *
  have HO := Lib.hid o2
  have HX := Lib.hid x2
  have HB := Lib.hid b2
  have HM := Lib.hid hm
  have HC : Hid (∀ W, Below w2.heap.size w2 W → W.cell? ⟨D, 0, none⟩ = some (.int .i64 now) ∧ W.cell? ⟨D, 1, none⟩ = some (.slice B m cb) ∧ D < W.heap.size) := Lib.hid fun W hW => ⟨(HX.out.on hW).c (k := 0) rfl, (HX.out.on hW).c (k := 1) rfl, (HX.out.on hW).lt⟩
  obtain ⟨p0, p1, p2⟩ := HC.out w2 (Below.refl _ _)
  clear o2 x2 b2 hm
  obtain ⟨X, hX⟩ : ∃ X, atRes now lv t = X := ⟨_, rfl⟩
  have HP := Lib.hid (show RowsP X by rw [← hX]; exact atRes_rowsP now lv t)
  have HXX := Lib.hid hX
  clear hX
  refine (implVersAt now B m cb lv t w2 HO.out.sl HS.out (by have := HM.out; omega)).mono ?_
  rintro e w3 ⟨v3, rfl, o3, hb3⟩
  rw [HXX.out] at o3
  obtain ⟨R, cR, rfl, -, -⟩ := o3.form
  have HR := Lib.hid o3
  obtain ⟨p0, p1, p2⟩ := HC.out w3 hb3
  clear o3
  go_wp2_with fail
  refine (specVersAt now B m cb lv t w3 (HO.out.on hb3).sl HS.out (by have := HM.out; omega)).mono ?_
  rintro e w4 ⟨v4, rfl, o4, hb4⟩
  rw [HXX.out] at o4
  obtain ⟨S, cS, rfl, -, -⟩ := o4.form
  have HW3 := Lib.hid hb3
  go_wp2_with fail
  refine (wpRows R S X.length X.length cR cS X X w4 (HR.out.on hb4).sl o4.sl (by have := HP.out.1; omega)).mono ?_
  rintro e w5 ⟨rfl, hb5⟩
  rw [rowsEq_self X]
  have hb6 := bel_trans hb4 hb5
  clear hb4 hb5 o4
  go_wp2_with fail
  refine (implRowsOk R X.length cR X w5 (HR.out.on hb6).sl HP.out.sm.wf (by have := HP.out.1; omega)).mono ?_
  rintro e w7 ⟨rfl, hb7⟩
  rw [rowsOk_true HP.out]
  have hb8 := bel_trans hb6 hb7
  have hb9 := bel_trans hb3 hb8
  obtain ⟨p0, p1, p2⟩ := HC.out w7 hb9
  have HR7 := Lib.hid (HR.out.on hb8)
  clear hb3 hb6 hb7 hb8
  go_wp2_with fail
  refine (specVersOk now B m cb lv w7 (HO.out.on hb9).sl HS.out (by have := HM.out; omega)).mono ?_
  rintro e w10 ⟨rfl, hb10⟩
  have HR10 := Lib.hid (HR7.out.on hb10)
  have hb11 := bel_trans hb9 hb10
  obtain ⟨p0, p1, p2⟩ := HC.out w10 hb11
  clear hb9 hb10
  cases hok : versOk now lv
  · have h0 : X.length = 0 := by rw [← HXX.out, atRes_bad hok]; rfl
    clear hok
    go_wp2
    go_ret
    exact ⟨rfl, bel_trans HB.out hb11⟩
  have HVP := Lib.hid (versOk_iff.1 hok)
  have HK := Lib.hid hok
  clear hok
  by_cases ht0 : t < 0
  · have h0 : X.length = 0 := by rw [← HXX.out, atRes_out (by omega)]; rfl
    go_wp2
    go_ret
    exact ⟨rfl, bel_trans HB.out hb11⟩
  by_cases ht1 : now < t
  · have h0 : X.length = 0 := by rw [← HXX.out, atRes_out (by omega)]; rfl
    go_wp2
    go_ret
    exact ⟨rfl, bel_trans HB.out hb11⟩
  have HXL : Hid (atL lv t = X) := Lib.hid (by rw [← HXX.out, atRes_ok HK.out (by omega) (by omega)])
  have HAL : Hid (vcnt lv t m = X.length) := Lib.hid (by rw [← HL.out, vcnt_all, HXL.out])
  have HG : Hid (∀ x ∈ lv, vis t x = true → getHas X x.1 = true ∧ getNum X x.1 = x.2.1) := Lib.hid fun x hx hv => by
    rw [← HXL.out]; exact at_get HVP.out (by omega) (by omega) hx hv
  have HZ : Hid (t = 0 → X.length = 0) := Lib.hid fun h => by rw [← HXL.out, h, at_zero HVP.out]; rfl
  have HXN : Hid (X.length ≤ 1000) := Lib.hid (by have := HP.out.1; omega)
  go_wp2_with fail
  go_loopw [6, 7] (fun v6 v7 wr => ∃ i : Nat, v7 = .int .i64 i ∧ v6 = .int .i64 (vcnt lv t i : Nat) ∧ i ≤ m ∧ vcnt lv t i ≤ i ∧ Below w10.heap.size w10 wr) (fun _ v7 _ => m - (intOf v7).toNat)
  case atStart => exact ⟨0, rfl, by rw [vcnt_zero]; rfl, Nat.zero_le _, by rw [vcnt_zero]; omega, Below.refl _ _⟩
  case round =>
    clear p0 p1 p2
    have hmB : (m : Int) ≤ 100 := by have := HM.out; omega
    obtain ⟨i, rfl, rfl, him, hci, hbw⟩ := hrel
    obtain ⟨p0, p1, p2⟩ := HC.out wr (bel_trans hb11 hbw)
    by_cases hlt : i < m
    · have hlt' : (i : Int) < (m : Int) := by omega
      have i0 : (0 : Int) ≤ (i : Int) := by omega
      obtain ⟨d, rfl⟩ := HO.out.zero hlt
      obtain ⟨f0, f1, f2, f3, hx, e0, e1, e2, e3⟩ := atVer (HO.out.on (bel_trans hb11 hbw)).sl hlt
      simp only [Nat.zero_add] at e0 e1 e2 e3
      have hd : d < wr.heap.size := ((HO.out.on (bel_trans hb11 hbw)).block rfl).2.1
      have hst := vcnt_step (t := t) hx
      have hgt := HG.out _ (List.mem_of_getElem? hx)
      have hkl : f0.size ≤ maxLen := HS.out.at_ hx
      clear hx
      have xa := BoxC.new wr 77 #[.string f0, .int .i64 f1, .int .i64 f2, .int .i64 f3]
      have ca0 := xa.c (k := 0) rfl
      have ca1 := xa.c (k := 1) rfl
      have ca2 := xa.c (k := 2) rfl
      have ca3 := xa.c (k := 3) rfl
      have hba := bel_alloc hbw (.cells #[.string f0, .int .i64 f1, .int .i64 f2, .int .i64 f3] 77)
      generalize vcnt lv t i = j at *
      cases hv : vis t (f0, f1, f2, f3)
      · rw [if_neg (by rw [hv]; simp)] at hst
        have HST := Lib.hid hst
        clear hst hgt
        by_cases h1 : f2 ≤ t
        · have h2 : ¬ (f3 = 0) := fun h => by simp [vis, h1, h] at hv
          have h3 : ¬ (t < f3) := fun h => by simp [vis, h1, h] at hv
          have z1 : (f3 == 0) = false := by simp; exact h2
          clear hv
          go_wp2_with fail
          go_roundw
          case rel => exact ⟨i + 1, by go_num, by rw [HST.out], by omega, by rw [HST.out]; omega, hba⟩
          case measure => simp [intOf]; omega
        · clear hv
          go_wp2_with fail
          go_roundw
          case rel => exact ⟨i + 1, by go_num, by rw [HST.out], by omega, by rw [HST.out]; omega, hba⟩
          case measure => simp [intOf]; omega
      · rw [if_pos hv] at hst
        have HST := Lib.hid hst
        have HGT := Lib.hid (hgt hv)
        obtain ⟨h1, h23⟩ := vis_iff.1 hv
        have h1' : f2 ≤ t := h1
        have h23' : f3 = 0 ∨ t < f3 := h23
        clear hst hgt hv h1 h23
        have hnn : (f1 != f1) = false := by simp
        by_cases h2 : f3 = 0
        · subst h2
          clear h23'
          go_wp2_with fail
          refine (implRowsGet R X.length cR X f0 _ (HR10.out.on hba).sl HP.out.sm.wf (by have := HXN.out; omega)).mono ?_
          rintro e w12 ⟨rfl, hb12⟩
          rw [HGT.out.1, HGT.out.2]
          replace ca1 := keepC hb12 ca1
          have hb13 := bel_trans hba hb12
          go_wp2_with fail
          go_roundw
          case rel => exact ⟨i + 1, by go_num, by rw [HST.out]; go_num, by omega, by rw [HST.out]; omega, hb13⟩
          case measure => simp [intOf]; omega
        · have h3 : t < f3 := by omega
          have z1 : (f3 == 0) = false := by simp; exact h2
          clear h23'
          go_wp2_with fail
          refine (implRowsGet R X.length cR X f0 _ (HR10.out.on hba).sl HP.out.sm.wf (by have := HXN.out; omega)).mono ?_
          rintro e w12 ⟨rfl, hb12⟩
          rw [HGT.out.1, HGT.out.2]
          replace ca1 := keepC hb12 ca1
          have hb13 := bel_trans hba hb12
          go_wp2_with fail
          go_roundw
          case rel => exact ⟨i + 1, by go_num, by rw [HST.out]; go_num, by omega, by rw [HST.out]; omega, hb13⟩
          case measure => simp [intOf]; omega
    · obtain rfl : i = m := by omega
      have hlt' : ¬ (i : Int) < (i : Int) := by omega
      rw [HAL.out]
      by_cases htz : t = 0
      · have h0 := HZ.out htz
        have ht2 : ¬ 0 < t := by omega
        rw [h0]
        go_wp2
        go_ret
        exact ⟨rfl, bel_trans HB.out (bel_trans hb11 hbw)⟩
      · have ht2 : 0 < t := by omega
        go_wp2
        go_ret
        exact ⟨rfl, bel_trans HB.out (bel_trans hb11 hbw)⟩
end Go.Proofs.Ytpofgidhhcolfaa
