/- Contracts of LetterOk: of the program and of the reference. -/
import Derived.Test.YtpmeaikiaoojkaaRows
import Derived.Test.YtpmeaikiaoojkaaK
namespace Go.Proofs.Ytpmeaikiaoojkaa
open Go.RowKit

/-- a letter: its sign and its body -/
abbrev Let := ByteArray × ByteArray
def encL (x : Let) : List Value := [.string x.1, .string x.2]
def digI (v : Int) : Bool := decide (48 ≤ v) && decide (v ≤ 57)
def signI (v : Int) : Bool := (decide (65 ≤ v) && decide (v ≤ 90)) || digI v
def bodyI (v : Int) : Bool := decide (32 ≤ v) && decide (v ≤ 126)
def bodyOk (l : List UInt8) : Bool := l.all fun c => bodyI (c.toNat : Int)
def letOk (x : Let) : Bool := (x.1.data.toList.length == 1 && (x.1.data.toList.all fun c => signI (c.toNat : Int))) && (decide (x.2.size ≤ 40) && bodyOk x.2.data.toList)

theorem digitOk (v : Int) (w : World) : Calls Try.prog 59 #[.int .u8 v] w fun e w' => e = .returned (.bool (digI v)) ∧ w = w' := by
  go_enter Try.func59, Try.ntmps59
  go_wp2
  all_goals
    go_ret
    exact ⟨retBool (by simp [digI]; omega), rfl⟩
theorem signOk (v : Int) (w : World) : Calls Try.prog 36 #[.int .u8 v] w fun e w' => e = .returned (.bool (signI v)) ∧ w = w' := by
  go_enter Try.func36, Try.ntmps36
  go_wp2_with (go_at_call 59; refine (digitOk _ _).mono ?_; rintro e w' ⟨rfl, rfl⟩)
  all_goals
    go_ret
    exact ⟨retBool (by unfold signI; grind), rfl⟩
theorem bodyByteOk (v : Int) (w : World) : Calls Try.prog 37 #[.int .u8 v] w fun e w' => e = .returned (.bool (bodyI v)) ∧ w = w' := by
  go_enter Try.func37, Try.ntmps37
  go_wp2
  all_goals
    go_ret
    exact ⟨retBool (by simp [bodyI]; omega), rfl⟩
theorem l5Sign (v : Int) (w : World) : Calls Try.prog 34 #[.int .u8 v] w fun e w' => e = .returned (.bool (signI v)) ∧ w = w' := by
  go_enter Try.func34, Try.ntmps34
  go_wp2
  all_goals
    go_ret
    exact ⟨retBool (by unfold signI digI; grind), rfl⟩
theorem l5Body (v : Int) (w : World) : Calls Try.prog 35 #[.int .u8 v] w fun e w' => e = .returned (.bool (bodyI v)) ∧ w = w' := by
  go_enter Try.func35, Try.ntmps35
  go_wp2
  all_goals
    go_ret
    exact ⟨retBool (by simp [bodyI]; omega), rfl⟩
end Go.Proofs.Ytpmeaikiaoojkaa
