/- Contracts of one version: l2Ver, l2Ahead of the reference; ok, visible of the program. -/
import Derived.Test.YtpofgidhhcolfaaVP
import Derived.Test.YtpofgidhhcolfaaB1
namespace Go.Proofs.Ytpofgidhhcolfaa
open Go.RowKit

set_option maxHeartbeats 1000000 in
theorem specVer (f0 : ByteArray) (f1 f2 f3 now : Int) (w : World) (h : f0.size ≤ maxLen) :
    Calls Try.prog 88 #[.agg #[.string f0, .int .i64 f1, .int .i64 f2, .int .i64 f3], .int .i64 now] w fun e w' => e = .returned (.bool (verOk now (f0, f1, f2, f3))) ∧ Below w.heap.size w w' := by
  have b0 := bel_alloc (Below.refl _ w) (.cells #[.string f0, .int .i64 f1, .int .i64 f2, .int .i64 f3] 77)
  have C1 : Hid (∀ W, Calls Try.prog 83 #[.string f0] W fun e w' => e = .returned (.bool (keyOk f0)) ∧ W = w') := Lib.hid fun W => specKeyOk f0 W h
  have C2 : Hid (∀ W, Calls Try.prog 84 #[.int .i64 f1] W fun e w' => e = .returned (.bool (numOk f1)) ∧ W = w') := Lib.hid fun W => l1NumC f1 W
  obtain ⟨k, hk⟩ : ∃ k, keyOk f0 = k := ⟨_, rfl⟩
  obtain ⟨q, hq⟩ : ∃ q, numOk f1 = q := ⟨_, rfl⟩
  rw [hk] at C1
  rw [hq] at C2
  have HV := Lib.hid (show verOk now (f0, f1, f2, f3) = (k && q && (decide (1 ≤ f2) && decide (f2 ≤ now)) && (decide (f3 = 0) || decide (f2 < f3) && decide (f3 ≤ now))) by unfold verOk; simp only [hk, hq])
  clear hk hq h
  go_enter Try.func88, Try.ntmps88
  go_wp2_with fail
  refine (C1.out _).mono ?_
  rintro e w1 ⟨rfl, rfl⟩
  cases k
  · go_wp2
    go_ret
    exact ⟨retBool (by rw [HV.out]; rfl), b0⟩
  go_wp2_with fail
  refine (C2.out _).mono ?_
  rintro e w1 ⟨rfl, rfl⟩
  cases q
  · go_wp2
    go_ret
    exact ⟨retBool (by rw [HV.out]; rfl), b0⟩
  go_wp2
  all_goals
    go_ret
    refine ⟨retBool ?_, bel_alloc (Below.refl _ _) _⟩
    rw [HV.out]
    grind
set_option maxHeartbeats 1000000 in
theorem implVer (f0 : ByteArray) (f1 f2 f3 now : Int) (w : World) (h : f0.size ≤ maxLen) :
    Calls Try.prog 91 #[.agg #[.string f0, .int .i64 f1, .int .i64 f2, .int .i64 f3], .int .i64 now] w fun e w' => e = .returned (.bool (verOk now (f0, f1, f2, f3))) ∧ Below w.heap.size w w' := by
  have b0 := bel_alloc (Below.refl _ w) (.cells #[.string f0, .int .i64 f1, .int .i64 f2, .int .i64 f3] 77)
  have C1 : Hid (∀ W, Calls Try.prog 118 #[.string f0] W fun e w' => e = .returned (.bool (keyOk f0)) ∧ W = w') := Lib.hid fun W => implKeyOk f0 W h
  have C2 : Hid (∀ W, Calls Try.prog 119 #[.int .i64 f1] W fun e w' => e = .returned (.bool (numOk f1)) ∧ W = w') := Lib.hid fun W => numOkC f1 W
  obtain ⟨k, hk⟩ : ∃ k, keyOk f0 = k := ⟨_, rfl⟩
  obtain ⟨q, hq⟩ : ∃ q, numOk f1 = q := ⟨_, rfl⟩
  rw [hk] at C1
  rw [hq] at C2
  have HV := Lib.hid (show verOk now (f0, f1, f2, f3) = (k && q && (decide (1 ≤ f2) && decide (f2 ≤ now)) && (decide (f3 = 0) || decide (f2 < f3) && decide (f3 ≤ now))) by unfold verOk; simp only [hk, hq])
  clear hk hq h
  go_enter Try.func91, Try.ntmps91
  go_wp2_with fail
  refine (C1.out _).mono ?_
  rintro e w1 ⟨rfl, rfl⟩
  cases k
  · go_wp2
    go_ret
    exact ⟨retBool (by rw [HV.out]; rfl), b0⟩
  go_wp2_with fail
  refine (C2.out _).mono ?_
  rintro e w1 ⟨rfl, rfl⟩
  cases q
  · go_wp2
    go_ret
    exact ⟨retBool (by rw [HV.out]; rfl), b0⟩
  go_wp2
  all_goals
    go_ret
    refine ⟨retBool ?_, bel_alloc (Below.refl _ _) _⟩
    rw [HV.out]
    grind
set_option maxHeartbeats 1000000 in
theorem implVis (f0 : ByteArray) (f1 f2 f3 t : Int) (w : World) :
    Calls Try.prog 134 #[.agg #[.string f0, .int .i64 f1, .int .i64 f2, .int .i64 f3], .int .i64 t] w fun e w' => e = .returned (.bool (vis t (f0, f1, f2, f3))) ∧ Below w.heap.size w w' := by
  have b0 := bel_alloc (Below.refl _ w) (.cells #[.string f0, .int .i64 f1, .int .i64 f2, .int .i64 f3] 77)
  have HV := Lib.hid (show vis t (f0, f1, f2, f3) = (decide (f2 ≤ t) && (decide (f3 = 0) || decide (t < f3))) from rfl)
  go_enter Try.func134, Try.ntmps134
  go_wp2
  all_goals
    go_ret
    refine ⟨retBool ?_, bel_alloc (Below.refl _ _) _⟩
    rw [HV.out]
    grind
set_option maxHeartbeats 1000000 in
theorem specAhead (f0 : ByteArray) (f1 f2 f3 : Int) (g0 : ByteArray) (g1 g2 g3 : Int) (w : World) :
    Calls Try.prog 89 #[.agg #[.string f0, .int .i64 f1, .int .i64 f2, .int .i64 f3], .agg #[.string g0, .int .i64 g1, .int .i64 g2, .int .i64 g3]] w fun e w' => e = .returned (.bool (ahead (f0, f1, f2, f3) (g0, g1, g2, g3))) ∧ Below w.heap.size w w' := by
  have b0 := bel_alloc (bel_alloc (Below.refl _ w) (.cells #[.string f0, .int .i64 f1, .int .i64 f2, .int .i64 f3] 77)) (.cells #[.string g0, .int .i64 g1, .int .i64 g2, .int .i64 g3] 77)
  have hne : (f0.toList != g0.toList) = !(f0.toList == g0.toList) := rfl
  cases hk : (f0.toList == g0.toList)
  · rw [hk] at hne
    simp only [Bool.not_false] at hne
    have HV := Lib.hid (show ahead (f0, f1, f2, f3) (g0, g1, g2, g3) = Op.bytesLess f0.toList g0.toList by
      show (if keq f0 g0 = true then _ else _) = _
      rw [if_neg (by show ¬ (f0.toList == g0.toList) = true; rw [hk]; simp)]; rfl)
    go_enter Try.func89, Try.ntmps89
    go_wp2
    go_ret
    exact ⟨retBool (by rw [HV.out]), b0⟩
  · rw [hk] at hne
    simp only [Bool.not_true] at hne
    have HV := Lib.hid (show ahead (f0, f1, f2, f3) (g0, g1, g2, g3) = (decide (0 < f3) && decide (f3 ≤ g2)) by
      show (if keq f0 g0 = true then _ else _) = _
      rw [if_pos (show keq f0 g0 = true from hk)])
    go_enter Try.func89, Try.ntmps89
    go_wp2
    all_goals
      go_ret
      refine ⟨retBool ?_, bel_alloc (bel_alloc (Below.refl _ _) _) _⟩
      rw [HV.out]
      grind
end Go.Proofs.Ytpofgidhhcolfaa
