/- The law FnRowsBent, walked. -/
import Derived.Test.YtndeehlndbdonaaG1
namespace Go.Proofs.Ytndeehlndbdonaa
open Go.RowKit

set_option maxHeartbeats 4000000 in
set_option maxRecDepth 100000 in
theorem lawFnRowsBent (A : Option Addr) (n c : Nat) (l : List UInt8) (w : World) (hr : Sl encB w w.heap.size A n l) (hn : n ≤ maxLen) (hc : n ≤ c) :
    Calls Try.prog 20 #[.slice A n c] w fun e w' => e = .returned (.bool true) ∧ Below w.heap.size w w' := by
  unfold maxLen at hn
  by_cases hbig : 1048576 < n
  · have hb : (1048576 : Int) < (n : Int) := by omega
    go_enter Try.func20, Try.ntmps20
    go_wp2
    go_ret
    exact ⟨rfl, Below.refl _ _⟩
  have hb : ¬ (1048576 : Int) < (n : Int) := by omega
  go_enter Try.func20, Try.ntmps20
  go_wp2_with fail
  refine (drawRowsOk A n c l w hr (by omega) hc).mono ?_
  rintro e w1 ⟨B, cb, lr, rfl, oL, hS, b1⟩
  have nL : lr.length ≤ 1000 := by have := hS.1; omega
  have kL := hS.wf
  clear hr hn hc hb hbig hS
  cases hok : rowsOk lr
  · have HK := Lib.hid hok
    clear hok
    go_wp2_with fail
    refine (aOk oL kL nL HK.out).mono ?_
    rintro e w2 ⟨rfl, hb2⟩
    have b2 := bel_trans b1 hb2
    replace oL := oL.on hb2
    go_wp2_with fail
    refine (sOk oL kL nL HK.out).mono ?_
    rintro e w3 ⟨rfl, hb3⟩
    have b3 := bel_trans b2 hb3
    replace oL := oL.on hb3
    go_wp2_with fail
    refine (aGet oL kL nL (get_bad HK.out).1 (get_bad HK.out).2).mono ?_
    rintro e w4 ⟨rfl, hb4⟩
    have b4 := bel_trans b3 hb4
    replace oL := oL.on hb4
    go_wp2_with fail
    refine (aPut oL kL nL (by unfold maxLen; decide) (putRes_bad HK.out)).mono ?_
    rintro e w5 ⟨DP, cP, rfl, oP, hb5⟩
    have b5 := bel_trans b4 hb5
    replace oL := oL.on hb5
    go_wp2_with fail
    refine (aCut oL kL nL (cutRes_bad HK.out)).mono ?_
    rintro e w6 ⟨DC, cC, rfl, oC, hb6⟩
    have b6 := bel_trans b5 hb6
    replace oL := oL.on hb6
    replace oP := oP.on hb6
    go_wp2_with fail
    refine (aIn oL kL nL (inRes_bad HK.out _ _)).mono ?_
    rintro e w7 ⟨DI, cI, rfl, oI, hb7⟩
    have b7 := bel_trans b6 hb7
    replace oL := oL.on hb7
    replace oP := oP.on hb7
    replace oC := oC.on hb7
    go_wp2_with fail
    refine (aSum oL kL nL (sumOut_bad HK.out)).mono ?_
    rintro e w8 ⟨rfl, hb8⟩
    have b8 := bel_trans b7 hb8
    replace oL := oL.on hb8
    replace oP := oP.on hb8
    replace oC := oC.on hb8
    go_wp2_with fail
    refine (aDiff oL kL nL (own_nil _) (fun r hr => by cases hr) (by simp) (diffOut_bad (.inl HK.out))).mono ?_
    rintro e w9 ⟨DD, cD, rfl, oD, hb9⟩
    have b9 := bel_trans b8 hb9
    replace oL := oL.on hb9
    replace oP := oP.on hb9
    replace oC := oC.on hb9
    go_wp2
    go_ret
    exact ⟨rfl, b9⟩
  · have HK := Lib.hid hok
    clear hok
    go_wp2_with fail
    refine (aOk oL kL nL HK.out).mono ?_
    rintro e w2 ⟨rfl, hb2⟩
    have b2 := bel_trans b1 hb2
    replace oL := oL.on hb2
    go_wp2_with fail
    refine (sOk oL kL nL HK.out).mono ?_
    rintro e w3 ⟨rfl, hb3⟩
    have b3 := bel_trans b2 hb3
    replace oL := oL.on hb3
    go_wp2_with fail
    refine (sOk oL kL nL HK.out).mono ?_
    rintro e w4 ⟨rfl, hb4⟩
    have b4 := bel_trans b3 hb4
    replace oL := oL.on hb4
    go_wp2
    go_ret
    exact ⟨rfl, b4⟩
end Go.Proofs.Ytndeehlndbdonaa
