/- Contracts: the marks in a history. -/
import Derived.Test.YtpofgidhhcolfaaMV
import Derived.Test.YtpofgidhhcolfaaV8
namespace Go.Proofs.Ytpofgidhhcolfaa
open Go.RowKit

set_option maxHeartbeats 1000000 in
theorem markVers (now : Int) (A : Option Addr) (n c k base : Nat) (l : List Ver) (w : World) (hr : Own encVer 4 77 w base (.slice A n c) l) (hn : n ≤ 2097152) (hk0 : 0 < k) (hk : k ≤ 10000000) :
    Calls Try.prog 48 #[.agg #[.int .i64 now, .slice A n c], .int .i64 k] w (MarkVerPost w base A n c k) := by
  have b0 := Turn.of_below (A := A) (bel_alloc (Below.refl _ w) (.cells #[.int .i64 now, .slice A n c] 39))
  have HR := Lib.hid (hr.alloc (.cells #[.int .i64 now, .slice A n c] 39))
  clear hr
  go_enter Try.func48, Try.ntmps48
  go_wp2_with fail
  refine (markVerS A n c k base l _ HR.out hn hk0 hk).mono ?_
  rintro e w1 ⟨rfl, ho, ht⟩
  go_wp2_with fail
  go_ret
  exact ⟨rfl, ho, b0.trans ht⟩
set_option maxHeartbeats 1000000 in
theorem heldVers (now : Int) (A : Option Addr) (n c k : Nat) (w : World) (hr : Sl encVer w w.heap.size A n (marksVer k n)) (hn : n ≤ 2097152) (hk0 : 0 < k) (hk : k ≤ 10000000) :
    Calls Try.prog 53 #[.agg #[.int .i64 now, .slice A n c], .int .i64 k] w fun e w' => e = .returned (.int .i64 ((k + 4 * n : Nat) : Int)) ∧ Below w.heap.size w w' := by
  have b0 := bel_alloc (Below.refl _ w) (.cells #[.int .i64 now, .slice A n c] 39)
  have HR := Lib.hid (hr.on b0)
  clear hr
  have h0 : (0 : Int) ≤ ((k + 4 * n : Nat) : Int) := by omega
  go_enter Try.func53, Try.ntmps53
  go_wp2_with fail
  refine (heldVerS A n c k _ HR.out hn hk0 hk).mono ?_
  rintro e w1 ⟨rfl, hb⟩
  have b1 := bel_trans b0 hb
  obtain ⟨q, hq⟩ : ∃ q : Int, ((k + 4 * n : Nat) : Int) = q := ⟨_, rfl⟩
  rw [hq] at h0 ⊢
  have HQ := Lib.hid hq
  clear hq
  go_wp2_with fail
  go_ret
  exact ⟨retInt HQ.out.symm, b1⟩
end Go.Proofs.Ytpofgidhhcolfaa
