/- The law FnRowsFull, walked. -/
import Derived.Test.YtndeehlndbdonaaG1
namespace Go.Proofs.Ytndeehlndbdonaa
open Go.RowKit

set_option maxHeartbeats 4000000 in
set_option maxRecDepth 100000 in
theorem lawFnRowsFull (A : Option Addr) (n c : Nat) (l : List UInt8) (w : World) (hr : Sl encB w w.heap.size A n l) (hn : n ≤ maxLen) (hc : n ≤ c) :
    Calls Try.prog 13 #[.slice A n c] w fun e w' => e = .returned (.bool true) ∧ Below w.heap.size w w' := by
  unfold maxLen at hn
  by_cases hbig : 1048576 < n
  · have hb : (1048576 : Int) < (n : Int) := by omega
    go_enter Try.func13, Try.ntmps13
    go_wp2
    go_ret
    exact ⟨rfl, Below.refl _ _⟩
  have hb : ¬ (1048576 : Int) < (n : Int) := by omega
  go_enter Try.func13, Try.ntmps13
  go_wp2_with fail
  refine (drawRowsPut A n c l w hr (by omega) hc).mono ?_
  rintro e w1 ⟨B, cb, lr, key, num, rfl, oL, hS, hks, hnum, b1⟩
  have nL : lr.length ≤ 1000 := by have := hS.1; omega
  have kL := hS.wf
  have hkm : key.size ≤ maxLen := by unfold maxLen; omega
  clear hr hn hc hb hbig hS hks
  obtain ⟨P, hP⟩ : ∃ P, putRes lr key num = P := ⟨_, rfl⟩
  obtain ⟨x, p⟩ := P
  have HP := Lib.hid hP
  have HKM := Lib.hid hkm
  have HNUM := Lib.hid hnum
  clear hP hkm hnum
  go_wp2_with fail
  refine (aPut oL kL nL HKM.out HP.out).mono ?_
  rintro e w2 ⟨DX, cX, rfl, oX, hb2⟩
  have b2 := bel_trans b1 hb2
  replace oL := oL.on hb2
  go_wp2_with fail
  refine (sPut oL kL nL HKM.out HP.out).mono ?_
  rintro e w3 ⟨DY, cY, rfl, oY, hb3⟩
  have b3 := bel_trans b2 hb3
  replace oL := oL.on hb3
  replace oX := oX.on hb3
  have hpp : (p != p) = false := by simp
  have hpe : (p == p) = true := by simp
  go_wp2_with fail
  cases hok : rowsOk lr
  · have HK := Lib.hid hok
    clear hok
    refine (sOk oL kL nL HK.out).mono ?_
    rintro e w4 ⟨rfl, hb4⟩
    have b4 := bel_trans b3 hb4
    replace oL := oL.on hb4
    replace oX := oX.on hb4
    replace oY := oY.on hb4
    go_wp2
    go_ret
    exact ⟨rfl, b4⟩
  have HK := Lib.hid hok
  clear hok
  refine (sOk oL kL nL HK.out).mono ?_
  rintro e w4 ⟨rfl, hb4⟩
  have b4 := bel_trans b3 hb4
  replace oL := oL.on hb4
  replace oX := oX.on hb4
  replace oY := oY.on hb4
  go_wp2_with fail
  have CK : Hid (∀ W, Calls Try.prog 21 #[.string key] W fun e w' => e = .returned (.bool (keyOk key)) ∧ W = w') := Lib.hid fun W => specKeyOk key W HKM.out
  cases hko : keyOk key
  · rw [hko] at CK
    clear hko
    refine (CK.out _).mono ?_
    rintro e w5 ⟨rfl, rfl⟩
    go_wp2
    go_ret
    exact ⟨rfl, b4⟩
  rw [hko] at CK
  have HKO := Lib.hid hko
  clear hko
  refine (CK.out _).mono ?_
  rintro e w5 ⟨rfl, rfl⟩
  clear CK
  by_cases hlo : num < -999
  · skip
    go_wp2
    go_ret
    exact ⟨rfl, b4⟩
  by_cases hhi : 999 < num
  · skip
    go_wp2
    go_ret
    exact ⟨rfl, b4⟩
  have h1 : -999 ≤ num := by omega
  have h2 : num ≤ 999 := by omega
  clear hlo hhi
  go_wp2_with fail
  have HN := Lib.hid (show numOk num = true from numOk_iff.2 ⟨h1, h2⟩)
  have hR := rowsOk_iff.1 HK.out
  have hh := has_hit hR key
  have hpi := put_ok_iff (key := key) (num := num) hR
  rw [HKO.out, HN.out] at hpi
  have HV : ∃ v, getNum lr key = v := ⟨_, rfl⟩
  obtain ⟨v, hv⟩ := HV
  cases hit' : hit lr key
  · rw [hit'] at hh hpi
    have HH := Lib.hid hh
    have HV := Lib.hid hv
    have HPI := Lib.hid hpi
    have HR := Lib.hid hR.1
    clear hh hv hit' hpi hR
    refine (aGet oL kL nL HV.out HH.out).mono ?_
    rintro e w5 ⟨rfl, hb5⟩
    have b5 := bel_trans b4 hb5
    replace oL := oL.on hb5
    replace oX := oX.on hb5
    replace oY := oY.on hb5
    by_cases hlt : lr.length < 10
    · have hlt' : (lr.length : Int) < 10 := by omega
      obtain rfl : p = true := by
        have h3 := HP.out
        rw [putRes_ok HK.out (rowsOk_true (HPI.out.2 ⟨rfl, rfl, .inr hlt⟩))] at h3
        exact (Prod.mk.inj h3).2.symm
      go_wp2
      go_ret
      exact ⟨rfl, b5⟩
    · have hlt' : decide ((lr.length : Int) < 10) = false := by simp; omega
      obtain rfl : p = false := by
        have h3 := HP.out
        rw [putRes_full HK.out (rowsOk_false fun h => by have := (HPI.out.1 h).2.2; simp only [Bool.false_eq_true, false_or] at this; omega)] at h3
        exact (Prod.mk.inj h3).2.symm
      go_wp2
      go_ret
      exact ⟨rfl, b5⟩
  · rw [hit'] at hh hpi
    have HH := Lib.hid hh
    have HV := Lib.hid hv
    have HPI := Lib.hid hpi
    have HR := Lib.hid hR.1
    clear hh hv hit' hpi hR
    refine (aGet oL kL nL HV.out HH.out).mono ?_
    rintro e w5 ⟨rfl, hb5⟩
    have b5 := bel_trans b4 hb5
    replace oL := oL.on hb5
    replace oX := oX.on hb5
    replace oY := oY.on hb5
    obtain rfl : p = true := by
      have h3 := HP.out
      rw [putRes_ok HK.out (rowsOk_true (HPI.out.2 ⟨rfl, rfl, .inl rfl⟩))] at h3
      exact (Prod.mk.inj h3).2.symm
    go_wp2
    go_ret
    exact ⟨rfl, b5⟩
end Go.Proofs.Ytndeehlndbdonaa
