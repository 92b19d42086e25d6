/- The law FnRowsTurn, walked. -/
import Derived.Test.YtndeehlndbdonaaG1
import Derived.Test.YtndeehlndbdonaaP4
namespace Go.Proofs.Ytndeehlndbdonaa
open Go.RowKit

set_option maxHeartbeats 4000000 in
set_option maxRecDepth 100000 in
theorem lawFnRowsTurn (A : Option Addr) (n c : Nat) (l : List UInt8) (A2 : Option Addr) (n2 c2 : Nat) (l2 : List UInt8) (w : World) (hr : Sl encB w w.heap.size A n l) (hn : n ≤ maxLen) (hc : n ≤ c) (hr2 : Sl encB w w.heap.size A2 n2 l2) (hn2 : n2 ≤ maxLen) (hc2 : n2 ≤ c2) :
    Calls Try.prog 14 #[.slice A n c, .slice A2 n2 c2] w fun e w' => e = .returned (.bool true) ∧ Below w.heap.size w w' := by
  unfold maxLen at hn hn2
  by_cases hbig : 1048576 < n
  · have hb : (1048576 : Int) < (n : Int) := by omega
    go_enter Try.func14, Try.ntmps14
    go_wp2
    go_ret
    exact ⟨rfl, Below.refl _ _⟩
  have hb : ¬ (1048576 : Int) < (n : Int) := by omega
  by_cases hbig2 : 1048576 < n2
  · have hb2 : (1048576 : Int) < (n2 : Int) := by omega
    go_enter Try.func14, Try.ntmps14
    go_wp2
    go_ret
    exact ⟨rfl, Below.refl _ _⟩
  have hb2 : ¬ (1048576 : Int) < (n2 : Int) := by omega
  go_enter Try.func14, Try.ntmps14
  go_wp2_with fail
  refine (drawRowsPut A n c l w hr (by omega) hc).mono ?_
  rintro e w1 ⟨B, cb, lr, key, num, rfl, oL, hS, hks, hnum, b1⟩
  have nL : lr.length ≤ 1000 := by have := hS.1; omega
  have kL := hS.wf
  have HKM := Lib.hid (show key.size ≤ maxLen by unfold maxLen; omega)
  clear hS hks hnum
  go_wp2_with fail
  refine (drawRowsPut A2 n2 c2 l2 w1 (hr2.on b1) (by omega) hc2).mono ?_
  rintro e w2 ⟨B2, cb2, lr2, other, num2, rfl, oM, hS2, hks2, hnum2, hb2⟩
  have b2 := bel_trans b1 hb2
  replace oL := oL.on hb2
  have HOM := Lib.hid (show other.size ≤ maxLen by unfold maxLen; omega)
  clear hr hn hc hb hbig hr2 hn2 hc2 hb2 hbig2 hS2 hks2 hnum2 oM
  obtain ⟨P, hP⟩ : ∃ P, putRes lr key num = P := ⟨_, rfl⟩
  obtain ⟨x, p⟩ := P
  obtain ⟨kX, nX⟩ := put_small hP kL nL
  have HP := Lib.hid hP
  clear hP
  go_wp2_with fail
  refine (aPut oL kL nL HKM.out HP.out).mono ?_
  rintro e w3 ⟨DX, cX, rfl, oX, hb3⟩
  have b3 := bel_trans b2 hb3
  replace oL := oL.on hb3
  go_wp2_with fail
  refine (sPut oL kL nL HKM.out HP.out).mono ?_
  rintro e w4 ⟨DY, cY, rfl, oY, hb4⟩
  have b4 := bel_trans b3 hb4
  replace oL := oL.on hb4
  replace oX := oX.on hb4
  cases p
  · skip
    go_wp2
    go_ret
    exact ⟨rfl, b4⟩
  have HQ := Lib.hid (turn_law (k2 := other) (n2 := num2) HP.out)
  cases hne : (other.toList == key.toList)
  · have HNE := Lib.hid (show other ≠ key from fun e => by rw [e] at hne; simp at hne)
    by_cases h8 : lr.length ≤ 8
    · have h8' : ¬ (8 : Int) < (lr.length : Int) := by omega
      rcases HQ.out h8 HNE.out with ⟨y, z, q1, q2⟩ | ⟨y, z, q1, q2, q3⟩
      · have Q1 := Lib.hid q1
        have Q2 := Lib.hid q2
        clear q1 q2
        go_wp2_with fail
        refine (aPut oX kX nX HOM.out Q1.out).mono ?_
        rintro e w5 ⟨DV, cV, rfl, oV, hb5⟩
        have b5 := bel_trans b4 hb5
        replace oL := oL.on hb5
        replace oX := oX.on hb5
        replace oY := oY.on hb5
        go_wp2_with fail
        refine (aPut oL kL nL HOM.out Q2.out).mono ?_
        rintro e w6 ⟨DW, cW, rfl, oW, hb6⟩
        have b6 := bel_trans b5 hb6
        replace oL := oL.on hb6
        replace oX := oX.on hb6
        replace oY := oY.on hb6
        replace oV := oV.on hb6
        go_wp2
        go_ret
        exact ⟨rfl, b6⟩
      · obtain ⟨kZ, nZ⟩ := put_small q2 kL nL
        obtain ⟨kY, nY⟩ := put_small q1 kX nX
        have Q1 := Lib.hid q1
        have Q2 := Lib.hid q2
        have Q3 := Lib.hid q3
        clear q1 q2 q3
        go_wp2_with fail
        refine (aPut oX kX nX HOM.out Q1.out).mono ?_
        rintro e w5 ⟨DV, cV, rfl, oV, hb5⟩
        have b5 := bel_trans b4 hb5
        replace oL := oL.on hb5
        replace oX := oX.on hb5
        replace oY := oY.on hb5
        go_wp2_with fail
        refine (aPut oL kL nL HOM.out Q2.out).mono ?_
        rintro e w6 ⟨DZ, cZ, rfl, oZ, hb6⟩
        have b6 := bel_trans b5 hb6
        replace oL := oL.on hb6
        replace oX := oX.on hb6
        replace oY := oY.on hb6
        replace oV := oV.on hb6
        go_wp2_with fail
        refine (aPut oZ kZ nZ HKM.out Q3.out).mono ?_
        rintro e w7 ⟨DU, cU, rfl, oU, hb7⟩
        have b7 := bel_trans b6 hb7
        replace oL := oL.on hb7
        replace oX := oX.on hb7
        replace oY := oY.on hb7
        replace oV := oV.on hb7
        replace oZ := oZ.on hb7
        go_wp2_with fail
        refine (aEq oV oU nY (rowsEq_self y)).mono ?_
        rintro e w8 ⟨rfl, hb8⟩
        have b8 := bel_trans b7 hb8
        replace oL := oL.on hb8
        replace oX := oX.on hb8
        replace oY := oY.on hb8
        replace oV := oV.on hb8
        replace oZ := oZ.on hb8
        replace oU := oU.on hb8
        go_wp2
        go_ret
        exact ⟨rfl, b8⟩
    · have h8' : (8 : Int) < (lr.length : Int) := by omega
      go_wp2
      go_ret
      exact ⟨rfl, b4⟩
  · skip
    go_wp2
    go_ret
    exact ⟨rfl, b4⟩
end Go.Proofs.Ytndeehlndbdonaa
