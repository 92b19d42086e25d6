/- Contracts of the two KeyOk functions. -/
import Derived.Test.YtpmeaikiaoojkaaDoorRows
import Derived.WalkKit
import Derived.WalkSpells
import Derived.WalkLawsBesides
import Derived.Lib.Hide
namespace Go.Proofs.YtpmeaikiaoojkaaDoor
open Go.RowKit

theorem ret_bool {a b : Bool} (h : a = b) : Ending.returned (.bool a) = .returned (.bool b) := by rw [h]
theorem ret_int {k : IntKind} {a b : Int} (h : a = b) : Ending.returned (.int k a) = .returned (.int k b) := by rw [h]

/-- a byte from 'a' to 'z' -/
def lowB (c : UInt8) : Bool := decide (97 ≤ c.toNat) && decide (c.toNat ≤ 122)
def allLow (l : List UInt8) : Bool := l.all lowB
/-- one or two bytes from 'a' to 'z' -/
def keyOk (s : ByteArray) : Bool := (decide (s.size = 1) || decide (s.size = 2)) && allLow s.data.toList

theorem take_snoc (s : ByteArray) (k : Nat) (h : k < s.size) : s.data.toList.take (k + 1) = s.data.toList.take k ++ [s[k]] := by
  rw [List.take_succ_eq_append_getElem (by simpa using h)]; rfl
theorem low_step (s : ByteArray) (k : Nat) (h : k < s.size) (hk : allLow (s.data.toList.take k) = true) (h1 : 97 ≤ (s[k].toNat : Int)) (h2 : (s[k].toNat : Int) ≤ 122) :
    allLow (s.data.toList.take (k + 1)) = true := by
  unfold allLow at *
  rw [take_snoc s k h, List.all_append, hk]
  simp [lowB]; omega
theorem low_bad (s : ByteArray) (k : Nat) (h : k < s.size) (hb : (s[k].toNat : Int) < 97 ∨ 122 < (s[k].toNat : Int)) : allLow s.data.toList = false := by
  unfold allLow
  rw [List.all_eq_false]
  refine ⟨s[k], ?_, ?_⟩
  · have : s[k] = s.data.toList[k]'(by simpa using h) := rfl
    rw [this]; exact List.getElem_mem _
  · simp [lowB]; omega
theorem low_all (s : ByteArray) (k : Nat) (h : ¬ k < s.size) (hk : allLow (s.data.toList.take k) = true) : allLow s.data.toList = true := by
  rwa [List.take_of_length_le (by simp; omega)] at hk

set_option maxHeartbeats 400000 in
theorem implKeyOk (s : ByteArray) (w : World) (hs : s.size ≤ maxLen) :
    Calls Tryd.prog 36 #[.string s] w fun e w' => e = .returned (.bool (keyOk s)) ∧ w = w' := by
  unfold maxLen at hs
  by_cases hlt : s.size = 1 ∨ s.size = 2
  · have hK : keyOk s = allLow s.data.toList := by rcases hlt with h | h <;> simp [keyOk, h]
    rw [hK]; clear hK
    have hc : ((s.size : Int) != 1) = false ∨ (((s.size : Int) != 1) = true ∧ ((s.size : Int) != 2) = false) := by
      rcases hlt with h | h
      · left; simp; omega
      · right; simp; omega
    clear hlt
    rcases hc with h1 | ⟨h1, h2⟩
    all_goals
      go_enter Tryd.func36, Tryd.ntmps36
      go_wp2
      go_loop [3] (fun i => ∃ k : Nat, k ≤ s.size ∧ i = .int .i64 k ∧ Hid (allLow (s.data.toList.take k) = true)) (fun i => s.size - (intOf i).toNat)
      case atStart => exact ⟨0, Nat.zero_le _, rfl, rfl⟩
      case round =>
        obtain ⟨k, hk, rfl, ha⟩ := hrel
        go_wp2
        case roundEnd => exact ⟨⟨k + 1, by omega, by go_num, low_step s k (by assumption) ha.out (by omega) (by omega)⟩, by simp [intOf]; omega⟩
        all_goals
          go_ret
          refine ⟨ret_bool ?_, rfl⟩
          first | (rw [low_bad s k (by assumption) (by omega)]; done) | rw [low_all s k (by assumption) ha.out]
  · have hK : keyOk s = false := by simp only [not_or] at hlt; simp [keyOk, hlt]
    rw [hK]; clear hK
    simp only [not_or] at hlt
    have h1 : ((s.size : Int) != 1) = true := by simp; omega
    have h2 : ((s.size : Int) != 2) = true := by simp; omega
    clear hlt
    go_enter Tryd.func36, Tryd.ntmps36
    go_wp2
    go_ret
    exact ⟨rfl, rfl⟩

theorem keyOk_short (s : ByteArray) (h : 1 ≤ s.size) (h2 : s.size ≤ 2) : keyOk s = allLow s.data.toList := by
  have : s.size = 1 ∨ s.size = 2 := by omega
  unfold keyOk
  rcases this with h | h <;> simp [h]
theorem keyOk_long (s : ByteArray) (h : ¬ (1 ≤ s.size ∧ s.size ≤ 2)) : keyOk s = false := by
  unfold keyOk
  have h1 : ¬ s.size = 1 := by omega
  have h2 : ¬ s.size = 2 := by omega
  simp [h1, h2]
theorem keyOk_low (s : ByteArray) (h : allLow s.data.toList = false) : keyOk s = false := by
  simp [keyOk, h]
theorem keyOk_fin (s : ByteArray) (k : Nat) (h : ¬ k < s.size) (h1 : 1 ≤ (s.size : Int)) (hk : allLow (s.data.toList.take k) = true) : decide ((s.size : Int) ≤ 2) = keyOk s := by
  have ha := low_all s k h hk
  by_cases h2 : s.size ≤ 2
  · rw [keyOk_short s (by omega) h2, ha]; simp; omega
  · rw [keyOk_long s (by omega)]; simp; omega
set_option maxHeartbeats 400000 in
theorem specKeyOk (s : ByteArray) (w : World) (hs : s.size ≤ maxLen) :
    Calls Tryd.prog 19 #[.string s] w fun e w' => e = .returned (.bool (keyOk s)) ∧ w = w' := by
  unfold maxLen at hs
  go_enter Tryd.func19, Tryd.ntmps19
  go_wp2
  go_loop [3] (fun i => ∃ k : Nat, k ≤ s.size ∧ i = .int .i64 k ∧ Hid (allLow (s.data.toList.take k) = true)) (fun i => s.size - (intOf i).toNat)
  case atStart => exact ⟨0, Nat.zero_le _, rfl, rfl⟩
  case round =>
    obtain ⟨k, hk, rfl, ha⟩ := hrel
    go_wp2
    case roundEnd => exact ⟨⟨k + 1, by omega, by go_num, low_step s k (by assumption) ha.out (by omega) (by omega)⟩, by simp [intOf]; omega⟩
    all_goals
      go_ret
      refine ⟨ret_bool ?_, rfl⟩
      first
        | (rw [keyOk_low s (low_bad s k (by assumption) (by omega))]; done)
        | (rw [keyOk_long s (by omega)]; done)
        | exact keyOk_fin s k (by assumption) (by omega) ha.out

end Go.Proofs.YtpmeaikiaoojkaaDoor
