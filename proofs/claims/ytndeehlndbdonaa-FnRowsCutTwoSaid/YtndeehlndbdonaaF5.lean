/- The law FnRowsCutTwo, walked. -/
import Derived.Test.YtndeehlndbdonaaG1
import Derived.Test.YtndeehlndbdonaaP4
namespace Go.Proofs.Ytndeehlndbdonaa
open Go.RowKit

set_option maxHeartbeats 4000000 in
set_option maxRecDepth 100000 in
theorem lawFnRowsCutTwo (A : Option Addr) (n c : Nat) (l : List UInt8) (A2 : Option Addr) (n2 c2 : Nat) (l2 : List UInt8) (w : World) (hr : Sl encB w w.heap.size A n l) (hn : n ≤ maxLen) (hc : n ≤ c) (hr2 : Sl encB w w.heap.size A2 n2 l2) (hn2 : n2 ≤ maxLen) (hc2 : n2 ≤ c2) :
    Calls Try.prog 17 #[.slice A n c, .slice A2 n2 c2] w fun e w' => e = .returned (.bool true) ∧ Below w.heap.size w w' := by
  unfold maxLen at hn hn2
  by_cases hbig : 1048576 < n
  · have hb : (1048576 : Int) < (n : Int) := by omega
    go_enter Try.func17, Try.ntmps17
    go_wp2
    go_ret
    exact ⟨rfl, Below.refl _ _⟩
  have hb : ¬ (1048576 : Int) < (n : Int) := by omega
  by_cases hbig2 : 1048576 < n2
  · have hb2 : (1048576 : Int) < (n2 : Int) := by omega
    go_enter Try.func17, Try.ntmps17
    go_wp2
    go_ret
    exact ⟨rfl, Below.refl _ _⟩
  have hb2 : ¬ (1048576 : Int) < (n2 : Int) := by omega
  go_enter Try.func17, Try.ntmps17
  go_wp2_with fail
  refine (drawRowsCut A n c l w hr (by omega) hc).mono ?_
  rintro e w1 ⟨B, cb, lr, key, rfl, oL, hS, hks, b1⟩
  have nL : lr.length ≤ 1000 := by have := hS.1; omega
  have kL := hS.wf
  have HKM := Lib.hid (show key.size ≤ maxLen by unfold maxLen; omega)
  clear hS hks
  go_wp2_with fail
  refine (drawRowsCut A2 n2 c2 l2 w1 (hr2.on b1) (by omega) hc2).mono ?_
  rintro e w2 ⟨B2, cb2, lr2, other, rfl, oM, hS2, hks2, hb2⟩
  have b2 := bel_trans b1 hb2
  replace oL := oL.on hb2
  clear hr hn hc hb hbig hr2 hn2 hc2 hb2 hbig2 hS2 hks2 oM
  obtain ⟨P, hP⟩ : ∃ P, cutRes lr key = P := ⟨_, rfl⟩
  obtain ⟨x, p⟩ := P
  obtain ⟨kX, nX⟩ := cut_small hP kL nL
  have HP := Lib.hid hP
  clear hP
  have hpp : (p != p) = false := by simp
  have hpe : (p == p) = true := by simp
  go_wp2_with fail
  refine (aCut oL kL nL HP.out).mono ?_
  rintro e w3 ⟨DX, cX, rfl, oX, hb3⟩
  have b3 := bel_trans b2 hb3
  replace oL := oL.on hb3
  go_wp2_with fail
  refine (sCut oL kL nL HP.out).mono ?_
  rintro e w4 ⟨DY, cY, rfl, oY, hb4⟩
  have b4 := bel_trans b3 hb4
  replace oL := oL.on hb4
  replace oX := oX.on hb4
  go_wp2_with fail
  refine (aEq oX oY nX (rowsEq_self x)).mono ?_
  rintro e w5 ⟨rfl, hb5⟩
  have b5 := bel_trans b4 hb5
  replace oL := oL.on hb5
  replace oX := oX.on hb5
  replace oY := oY.on hb5
  go_wp2_with fail
  cases hok : rowsOk lr
  · have HK := Lib.hid hok
    clear hok
    refine (sOk oL kL nL HK.out).mono ?_
    rintro e w6 ⟨rfl, hb6⟩
    have b6 := bel_trans b5 hb6
    replace oL := oL.on hb6
    replace oX := oX.on hb6
    replace oY := oY.on hb6
    go_wp2_with fail
    refine (aEq oX oY nX (rowsEq_self x)).mono ?_
    rintro e w7 ⟨rfl, hb7⟩
    have b7 := bel_trans b6 hb7
    replace oL := oL.on hb7
    replace oX := oX.on hb7
    replace oY := oY.on hb7
    go_wp2
    go_ret
    exact ⟨rfl, b7⟩
  · have HK := Lib.hid hok
    obtain ⟨⟨y, z, p1, p2, p3, q1, q2, q3⟩, q4⟩ := cut2_law (k2 := other) (rowsOk_iff.1 hok) HP.out
    obtain ⟨kZ, nZ⟩ := cut_small q2 kL nL
    obtain ⟨kY, nY⟩ := cut_small q1 kX nX
    have Q1 := Lib.hid q1
    have Q2 := Lib.hid q2
    have Q3 := Lib.hid q3
    have Q4 := Lib.hid q4
    clear q1 q2 q3 q4 hok
    refine (sOk oL kL nL HK.out).mono ?_
    rintro e w6 ⟨rfl, hb6⟩
    have b6 := bel_trans b5 hb6
    replace oL := oL.on hb6
    replace oX := oX.on hb6
    replace oY := oY.on hb6
    go_wp2_with fail
    refine (aCut oX kX nX Q1.out).mono ?_
    rintro e w7 ⟨DV, cV, rfl, oV, hb7⟩
    have b7 := bel_trans b6 hb7
    replace oL := oL.on hb7
    replace oX := oX.on hb7
    replace oY := oY.on hb7
    go_wp2_with fail
    refine (aCut oL kL nL Q2.out).mono ?_
    rintro e w8 ⟨DZ, cZ, rfl, oZ, hb8⟩
    have b8 := bel_trans b7 hb8
    replace oL := oL.on hb8
    replace oX := oX.on hb8
    replace oY := oY.on hb8
    replace oV := oV.on hb8
    go_wp2_with fail
    refine (aCut oZ kZ nZ Q3.out).mono ?_
    rintro e w9 ⟨DU, cU, rfl, oU, hb9⟩
    have b9 := bel_trans b8 hb9
    replace oL := oL.on hb9
    replace oX := oX.on hb9
    replace oY := oY.on hb9
    replace oV := oV.on hb9
    replace oZ := oZ.on hb9
    go_wp2_with fail
    refine (aCut oX kX nX Q4.out).mono ?_
    rintro e w10 ⟨DT, cT, rfl, oT, hb10⟩
    have b10 := bel_trans b9 hb10
    replace oL := oL.on hb10
    replace oX := oX.on hb10
    replace oY := oY.on hb10
    replace oV := oV.on hb10
    replace oZ := oZ.on hb10
    replace oU := oU.on hb10
    go_wp2_with fail
    refine (aEq oV oU nY (rowsEq_self y)).mono ?_
    rintro e w11 ⟨rfl, hb11⟩
    have b11 := bel_trans b10 hb11
    replace oL := oL.on hb11
    replace oX := oX.on hb11
    replace oY := oY.on hb11
    replace oV := oV.on hb11
    replace oZ := oZ.on hb11
    replace oU := oU.on hb11
    replace oT := oT.on hb11
    go_wp2_with fail
    refine (aEq oT oX nX (rowsEq_self x)).mono ?_
    rintro e w12 ⟨rfl, hb12⟩
    have b12 := bel_trans b11 hb12
    replace oL := oL.on hb12
    replace oX := oX.on hb12
    replace oY := oY.on hb12
    replace oV := oV.on hb12
    replace oZ := oZ.on hb12
    replace oU := oU.on hb12
    replace oT := oT.on hb12
    go_wp2
    go_ret
    exact ⟨rfl, b12⟩
end Go.Proofs.Ytndeehlndbdonaa
