/- Contracts: WorkNew of the reference and of the program; the marks of a transaction that has done nothing. -/
import Derived.Test.YtpofgidhhcolfaaV7
import Derived.Test.YtpofgidhhcolfaaV8
import Derived.Test.YtpofgidhhcolfaaW5
namespace Go.Proofs.Ytpofgidhhcolfaa
open Go.RowKit

noncomputable def newAt (now : Int) (l : List Ver) : Int := if versOk now l = true then now else 0
theorem newAt_bad {now : Int} {l : List Ver} (h : versOk now l = false) : newAt now l = 0 := by simp [newAt, h]
theorem newAt_ok {now : Int} {l : List Ver} (h : versOk now l = true) : newAt now l = now := by simp [newAt, h]
/-- a transaction that has done nothing -/
def NewPost (w : World) (a : Int) (e : Ending) (w' : World) : Prop := ∃ A c, e = .returned (.agg #[.int .i64 a, .slice A 0 c]) ∧ Below w.heap.size w w'
set_option maxHeartbeats 1000000 in
theorem specWorkNew (now : Int) (A : Option Addr) (n c : Nat) (l : List Ver) (w : World) (hr : Sl encVer w w.heap.size A n l) (hk : VerSWf l) (hn : n ≤ 1048576) :
    Calls Try.prog 54 #[.agg #[.int .i64 now, .slice A n c]] w (NewPost w (newAt now l)) := by
  have b0 := bel_alloc (bel_alloc (Below.refl _ w) (.cells #[.int .i64 now, .slice A n c] 39)) (.cells #[.int .i64 0, .slice none 0 0] 29)
  have HR := Lib.hid hr
  have HN := Lib.hid hn
  have HK := Lib.hid hk
  clear hr hn hk
  go_enter Try.func54, Try.ntmps54
  go_wp2_with fail
  refine (specVersOk now A n c l _ (HR.out.on b0) HK.out HN.out).mono ?_
  rintro e w1 ⟨rfl, hb1⟩
  obtain ⟨hc, hf⟩ := bcellVers hb1
  have hz : w.heap.size + 1 < w1.heap.size := by have := hb1.size; simp at this; omega
  have b1 := bel_trans b0 hb1
  clear b0 hb1
  cases hok : versOk now l
  · have HA := Lib.hid (newAt_bad hok)
    have b2 := bel_set (bel_set b1 (p := ⟨w.heap.size + 1, 0, none⟩) (by simp) (.int .i64 0)) (p := ⟨w.heap.size + 1, 1, none⟩) (by simp) (.slice none 0 0)
    have B2 := Lib.hid b2
    clear hok b2
    go_wp2
    exact bodyPost_ret (v := .agg #[.int .i64 0, .slice none 0 0]) (by simp [results, Try.results54, go_sem, hc]) rfl ⟨none, 0, by rw [HA.out], B2.out⟩
  · have HA := Lib.hid (newAt_ok hok)
    have b2 := (bel_alloc (bel_set (bel_set b1 (p := ⟨w.heap.size + 1, 0, none⟩) (by simp) (.int .i64 now)) (p := ⟨w.heap.size + 1, 1, none⟩) (by simp) (.slice (some ⟨w1.heap.size, 0, none⟩) 0 0)) (.cells #[] 73))
    have B2 := Lib.hid b2
    clear hok b2
    go_wp2
    exact bodyPost_ret (v := .agg #[.int .i64 now, .slice (some ⟨w1.heap.size, 0, none⟩) 0 0]) (by simp [results, Try.results54, go_sem, hc, hz]) rfl ⟨_, _, by rw [HA.out], B2.out⟩
set_option maxHeartbeats 1000000 in
theorem implWorkNew (now : Int) (A : Option Addr) (n c : Nat) (l : List Ver) (w : World) (hr : Sl encVer w w.heap.size A n l) (hk : VerSWf l) (hn : n ≤ 1048576) :
    Calls Try.prog 55 #[.agg #[.int .i64 now, .slice A n c]] w (NewPost w (newAt now l)) := by
  have b0 := bel_alloc (bel_alloc (Below.refl _ w) (.cells #[.int .i64 now, .slice A n c] 39)) (.cells #[.int .i64 0, .slice none 0 0] 29)
  have HR := Lib.hid hr
  have HN := Lib.hid hn
  have HK := Lib.hid hk
  clear hr hn hk
  go_enter Try.func55, Try.ntmps55
  go_wp2_with fail
  refine (implVersOk now A n c l _ (HR.out.on b0) HK.out HN.out).mono ?_
  rintro e w1 ⟨rfl, hb1⟩
  obtain ⟨hc, hf⟩ := bcellVers hb1
  have hz : w.heap.size + 1 < w1.heap.size := by have := hb1.size; simp at this; omega
  have b1 := bel_trans b0 hb1
  clear b0 hb1
  cases hok : versOk now l
  · have HA := Lib.hid (newAt_bad hok)
    have b2 := bel_set (bel_set b1 (p := ⟨w.heap.size + 1, 0, none⟩) (by simp) (.int .i64 0)) (p := ⟨w.heap.size + 1, 1, none⟩) (by simp) (.slice none 0 0)
    have B2 := Lib.hid b2
    clear hok b2
    go_wp2
    exact bodyPost_ret (v := .agg #[.int .i64 0, .slice none 0 0]) (by simp [results, Try.results55, go_sem, hc]) rfl ⟨none, 0, by rw [HA.out], B2.out⟩
  · have HA := Lib.hid (newAt_ok hok)
    have b2 := (bel_set (bel_set b1 (p := ⟨w.heap.size + 1, 0, none⟩) (by simp) (.int .i64 now)) (p := ⟨w.heap.size + 1, 1, none⟩) (by simp) (.slice none 0 0))
    have B2 := Lib.hid b2
    clear hok b2
    go_wp2
    exact bodyPost_ret (v := .agg #[.int .i64 now, .slice none 0 0]) (by simp [results, Try.results55, go_sem, hc]) rfl ⟨_, _, by rw [HA.out], B2.out⟩
set_option maxHeartbeats 1000000 in
theorem markWorkNil (a : Int) (A : Option Addr) (c k : Nat) (w : World) (_ : k ≤ 10000000) :
    Calls Try.prog 56 #[.agg #[.int .i64 a, .slice A 0 c], .int .i64 k] w fun e w' => e = .returned (.int .i64 k) ∧ Below w.heap.size w w' := by
  have b0 := bel_alloc (Below.refl _ w) (.cells #[.int .i64 a, .slice A 0 c] 29)
  have C : Hid (∀ W, Calls Try.prog 100 #[.slice A 0 c, .int .i64 k] W fun e w' => e = .returned (.int .i64 k) ∧ W = w') := by
    refine Lib.hid fun W => ?_
    go_enter Try.func100, Try.ntmps100
    go_wp2
    go_loopw [1, 5] (fun q i wr => q = .int .i64 k ∧ i = .int .i64 0 ∧ W = wr) (fun _ _ _ => 0)
    case atStart => exact ⟨rfl, rfl, rfl⟩
    case round =>
      obtain ⟨rfl, rfl, rfl⟩ := hrel
      go_wp2
      go_ret
      exact ⟨rfl, rfl⟩
  go_enter Try.func56, Try.ntmps56
  go_wp2_with fail
  refine (C.out _).mono ?_
  rintro e w1 ⟨rfl, rfl⟩
  go_wp2
  go_ret
  exact ⟨rfl, b0⟩
set_option maxHeartbeats 1000000 in
theorem heldWorkNil (a : Int) (A : Option Addr) (c k : Nat) (w : World) (hk : k ≤ 10000000) :
    Calls Try.prog 57 #[.agg #[.int .i64 a, .slice A 0 c], .int .i64 k] w fun e w' => e = .returned (.int .i64 k) ∧ Below w.heap.size w w' := by
  have b0 := bel_alloc (Below.refl _ w) (.cells #[.int .i64 a, .slice A 0 c] 29)
  have hk0 : (0 : Int) ≤ (k : Int) := by omega
  have C : Hid (∀ W, Calls Try.prog 101 #[.slice A 0 c, .int .i64 k] W fun e w' => e = .returned (.int .i64 k) ∧ W = w') := by
    refine Lib.hid fun W => ?_
    go_enter Try.func101, Try.ntmps101
    go_wp2
    go_loopw [1, 5] (fun q i wr => q = .int .i64 k ∧ i = .int .i64 0 ∧ W = wr) (fun _ _ _ => 0)
    case atStart => exact ⟨rfl, rfl, rfl⟩
    case round =>
      obtain ⟨rfl, rfl, rfl⟩ := hrel
      go_wp2
      go_ret
      exact ⟨rfl, rfl⟩
  go_enter Try.func57, Try.ntmps57
  go_wp2_with fail
  refine (C.out _).mono ?_
  rintro e w1 ⟨rfl, rfl⟩
  go_wp2
  go_ret
  exact ⟨rfl, b0⟩
end Go.Proofs.Ytpofgidhhcolfaa
