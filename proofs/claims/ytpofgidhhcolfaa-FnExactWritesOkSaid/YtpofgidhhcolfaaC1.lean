/- The law FnExactWritesOk, walked. -/
import Derived.Test.YtpofgidhhcolfaaW3
namespace Go.Proofs.Ytpofgidhhcolfaa
open Go.RowKit

set_option maxHeartbeats 1000000 in
theorem lawWritesOk (A : Option Addr) (n c : Nat) (l : List Write) (w : World) (hr : Sl encWrite w w.heap.size A n l) (hk : WriteSWf l) (hn : n ≤ maxLen) :
    Calls Try.prog 6 #[.slice A n c] w fun e w' => e = .returned (.bool true) ∧ Below w.heap.size w w' := by
  have HN := Lib.hid hn
  clear hn
  go_enter Try.func6, Try.ntmps6
  go_wp2_with (go_at_call 36; refine (szWriteS A n c l _ _ hr hk HN.out (by omega) (by omega)).mono ?_; rintro e w1 ⟨v, rfl, hv0, hv1, hv2, hb1⟩)
  · go_ret
    exact ⟨rfl, hb1⟩
  · have hn : n ≤ 1048576 := by have h3 := hv2 (by omega); omega
    clear hv2
    have r1 := hr.on hb1
    refine (toWriteS A n c l _ r1 hn).mono ?_
    rintro e w2 ⟨g, rfl, ho2, hb2⟩
    have b2 := bel_trans hb1 hb2
    go_wp2_with fail
    refine (specWritesOk _ n n l _ ho2.sl hk hn).mono ?_
    rintro e w3 ⟨rfl, hb3⟩
    have b3 := bel_trans b2 hb3
    clear ho2
    go_wp2_with fail
    refine (toWriteS A n c l _ (hr.on b3) hn).mono ?_
    rintro e w4 ⟨g4, rfl, ho4, hb4⟩
    have b4 := bel_trans b3 hb4
    go_wp2_with fail
    refine (implWritesOk _ n n l _ ho4.sl hk hn).mono ?_
    rintro e w5 ⟨rfl, hb5⟩
    have b5 := bel_trans b4 hb5
    have ho5 := ho4.on hb5
    clear ho4
    go_wp2_with fail
    refine (toWriteS A n c l _ (hr.on b5) hn).mono ?_
    rintro e w6 ⟨g6, rfl, ho6, hb6⟩
    have b6 := bel_trans b5 hb6
    go_wp2_with fail
    refine (eqWriteS _ _ n n n n l l _ (ho5.on hb6).sl ho6.sl hn).mono ?_
    rintro e w7 ⟨rfl, hb7⟩
    have b7 := bel_trans b6 hb7
    have he := writeSEq_self l
    go_wp2
    go_ret
    exact ⟨rfl, b7⟩
end Go.Proofs.Ytpofgidhhcolfaa
