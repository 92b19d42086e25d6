/- The law FnRowsCut, walked. -/
import Derived.Test.YtndeehlndbdonaaG1
import Derived.Test.YtndeehlndbdonaaP4
namespace Go.Proofs.Ytndeehlndbdonaa
open Go.RowKit

set_option maxHeartbeats 4000000 in
set_option maxRecDepth 100000 in
theorem lawFnRowsCut (A : Option Addr) (n c : Nat) (l : List UInt8) (w : World) (hr : Sl encB w w.heap.size A n l) (hn : n ≤ maxLen) (hc : n ≤ c) :
    Calls Try.prog 19 #[.slice A n c] w fun e w' => e = .returned (.bool true) ∧ Below w.heap.size w w' := by
  unfold maxLen at hn
  by_cases hbig : 1048576 < n
  · have hb : (1048576 : Int) < (n : Int) := by omega
    go_enter Try.func19, Try.ntmps19
    go_wp2
    go_ret
    exact ⟨rfl, Below.refl _ _⟩
  have hb : ¬ (1048576 : Int) < (n : Int) := by omega
  go_enter Try.func19, Try.ntmps19
  go_wp2_with fail
  refine (drawRowsCut A n c l w hr (by omega) hc).mono ?_
  rintro e w1 ⟨B, cb, lr, key, rfl, oL, hS, hks, b1⟩
  have nL : lr.length ≤ 1000 := by have := hS.1; omega
  have kL := hS.wf
  have HKM := Lib.hid (show key.size ≤ maxLen by unfold maxLen; omega)
  clear hS hks
  go_wp2_with fail
  clear hr hn hc hb hbig
  obtain ⟨P, hP⟩ : ∃ P, cutRes lr key = P := ⟨_, rfl⟩
  obtain ⟨x, p⟩ := P
  obtain ⟨kX, nX⟩ := cut_small hP kL nL
  have HP := Lib.hid hP
  clear hP
  have hpp : (p != p) = false := by simp
  have hpe : (p == p) = true := by simp
  obtain ⟨v, hv⟩ : ∃ v, getNum lr key = v := ⟨_, rfl⟩
  have HV := Lib.hid hv
  clear hv
  have HG : Hid (getHas lr key = p) := by
    have h3 := HP.out
    refine Lib.hid ?_
    cases p
    · rcases cut_false h3 with ⟨h4, _, h5⟩ | ⟨h4, _⟩
      · rw [has_hit (rowsOk_iff.1 h4)]; exact h5
      · exact (get_bad h4).2
    · obtain ⟨h4, _, h5⟩ := cut_true h3
      rw [has_hit h4]; exact h5
  go_wp2_with fail
  refine (aCut oL kL nL HP.out).mono ?_
  rintro e w2 ⟨DX, cX, rfl, oX, hb2⟩
  have b2 := bel_trans b1 hb2
  replace oL := oL.on hb2
  go_wp2_with fail
  refine (sCut oL kL nL HP.out).mono ?_
  rintro e w3 ⟨DY, cY, rfl, oY, hb3⟩
  have b3 := bel_trans b2 hb3
  replace oL := oL.on hb3
  replace oX := oX.on hb3
  go_wp2_with fail
  refine (aEq oX oY nX (rowsEq_self x)).mono ?_
  rintro e w4 ⟨rfl, hb4⟩
  have b4 := bel_trans b3 hb4
  replace oL := oL.on hb4
  replace oX := oX.on hb4
  replace oY := oY.on hb4
  go_wp2_with fail
  refine (aGet oL kL nL HV.out HG.out).mono ?_
  rintro e w5 ⟨rfl, hb5⟩
  have b5 := bel_trans b4 hb5
  replace oL := oL.on hb5
  replace oX := oX.on hb5
  replace oY := oY.on hb5
  cases p
  · rcases cut_false HP.out with ⟨h4, rfl, h5⟩ | ⟨h4, _⟩
    · have HK := Lib.hid h4
      clear h4 h5
      go_wp2_with fail
      refine (sOk oL kL nL HK.out).mono ?_
      rintro e w6 ⟨rfl, hb6⟩
      have b6 := bel_trans b5 hb6
      replace oL := oL.on hb6
      replace oX := oX.on hb6
      replace oY := oY.on hb6
      go_wp2_with fail
      refine (aEq oX oL nX (rowsEq_self _)).mono ?_
      rintro e w7 ⟨rfl, hb7⟩
      have b7 := bel_trans b6 hb7
      replace oL := oL.on hb7
      replace oX := oX.on hb7
      replace oY := oY.on hb7
      go_wp2
      go_ret
      exact ⟨rfl, b7⟩
    · have HK := Lib.hid h4
      clear h4
      go_wp2_with fail
      refine (sOk oL kL nL HK.out).mono ?_
      rintro e w6 ⟨rfl, hb6⟩
      have b6 := bel_trans b5 hb6
      replace oL := oL.on hb6
      replace oX := oX.on hb6
      replace oY := oY.on hb6
      go_wp2
      go_ret
      exact ⟨rfl, b6⟩
  · obtain ⟨h4, rfl, h5⟩ := cut_true HP.out
    have h6 := cut_put h4 h5
    rw [HV.out] at h6
    have h7 := cutL_length key h5
    have hl : ((cutL lr key).length : Int) = (lr.length : Int) - 1 := by omega
    have hl0 : (0 : Int) ≤ (lr.length : Int) - 1 := by omega
    generalize hX : cutL lr key = x at *
    have Q1 := Lib.hid h6.1
    have Q2 := Lib.hid h6.2
    have HX := Lib.hid hX
    have HL := Lib.hid hl
    have HH := Lib.hid h7
    clear h4 h5 h6 h7 hX hl
    obtain ⟨v2, hv2⟩ : ∃ v2, getNum x key = v2 := ⟨_, rfl⟩
    have HV2 := Lib.hid hv2
    clear hv2
    have hle : ((x.length : Int) == (lr.length : Int) - 1) = true := by have := HL.out; simp; omega
    go_wp2_with fail
    refine (aGet oX kX nX HV2.out Q2.out).mono ?_
    rintro e w6 ⟨rfl, hb6⟩
    have b6 := bel_trans b5 hb6
    replace oL := oL.on hb6
    replace oX := oX.on hb6
    replace oY := oY.on hb6
    go_wp2_with fail
    refine (aPut oX kX nX HKM.out Q1.out).mono ?_
    rintro e w7 ⟨DU, cU, rfl, oU, hb7⟩
    have b7 := bel_trans b6 hb7
    replace oL := oL.on hb7
    replace oX := oX.on hb7
    replace oY := oY.on hb7
    go_wp2_with fail
    refine (aEq oU oL nL (rowsEq_self _)).mono ?_
    rintro e w8 ⟨rfl, hb8⟩
    have b8 := bel_trans b7 hb8
    replace oL := oL.on hb8
    replace oX := oX.on hb8
    replace oY := oY.on hb8
    replace oU := oU.on hb8
    go_wp2
    go_ret
    exact ⟨rfl, b8⟩
end Go.Proofs.Ytndeehlndbdonaa
