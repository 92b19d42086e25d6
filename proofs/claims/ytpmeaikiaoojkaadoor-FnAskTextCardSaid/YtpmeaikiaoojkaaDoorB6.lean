/- Contracts: the reference's l1Find and RowsGet. -/
import Derived.Test.YtpmeaikiaoojkaaDoorB5
namespace Go.Proofs.YtpmeaikiaoojkaaDoor
open Go.RowKit

set_option maxHeartbeats 1000000 in
theorem l1Find (A : Option Addr) (n c : Nat) (l : List Row) (key : ByteArray) (w : World) (hr : Sl encRow w w.heap.size A n l) (hn : n ≤ 1048576) :
    Calls Tryd.prog 54 #[.slice A n c, .string key] w fun e w' => e = .returned (.tuple #[.int .i64 (fnd l key), .bool (hit l key)]) ∧ Below w.heap.size w w' := by
  have HL := Lib.hid hr.len
  go_enter Tryd.func54, Tryd.ntmps54
  go_wp2
  go_loopw [6] (fun i wr => ∃ k : Nat, k ≤ n ∧ i = .int .i64 k ∧ LoP l key k ∧ Below w.heap.size w wr) (fun i _ => n - (intOf i).toNat)
  case atStart => exact ⟨0, by omega, rfl, fun _ _ h => absurd h (by omega), Below.refl _ _⟩
  case round =>
    obtain ⟨k, hkn, rfl, hlo, hbel⟩ := hrel
    by_cases hlt : k < n
    · obtain ⟨b, off, rfl, hb⟩ := hr.spot (by omega)
      obtain ⟨x, num, hrow, hk1, hk2⟩ := rowAt (hr.keep hbel) hlt
      have HR := Lib.hid hrow
      clear hrow
      have i0 : (0 : Int) ≤ (k : Int) := by omega
      have i1 : (k : Int) < (n : Int) := by omega
      cases hx : klt x key
      · have hx' : Op.bytesLess x.toList key.toList = false := hx
        have HX := Lib.hid hx
        clear hx
        have hf : fnd l key = k := fnd_unique (by rw [HL.out]; omega) (fun q r hq hr' => hlo q r hq hr') (fun r hr' => by rw [HR.out] at hr'; cases hr'; exact HX.out)
        have HH := Lib.hid (show hit l key = keq x key by rw [hit_some (by rw [hf]; exact HR.out)])
        have HF := Lib.hid hf
        clear hf
        have hd : decide ((k : Int) < (n : Int)) = true := by simp; omega
        have hd' : decide (k < n) = true := by simp; omega
        go_wp2_with fail
        go_quiet (fail)
        go_wp2
        go_ret2
        exact ⟨ret_ib (by rw [HF.out]) (by rw [HH.out]; rfl), bel_drewN hbel _⟩
      · have hx' : Op.bytesLess x.toList key.toList = true := hx
        have HX := Lib.hid hx
        clear hx
        go_wp2_with fail
        go_roundw
        case rel => exact ⟨k + 1, by omega, by go_num, (fun q r hq hr' => by
            by_cases e : q = k
            · subst e; rw [HR.out] at hr'; cases hr'; exact HX.out
            · exact hlo q r (by omega) hr'), hbel⟩
        case measure => simp [intOf]; omega
    · have hf : fnd l key = k := fnd_unique (by rw [HL.out]; omega) (fun q r hq hr' => hlo q r hq hr') (fun r hr' => absurd (List.getElem?_eq_some_iff.1 hr').1 (by rw [HL.out]; omega))
      have HH := Lib.hid (show hit l key = false from hit_none (by rw [hf, HL.out]; omega))
      have HF := Lib.hid hf
      clear hf
      have hd : decide ((k : Int) < (n : Int)) = false := by simp; omega
      have hd' : decide (k < n) = false := by simp; omega
      go_wp2_with fail
      go_quiet (fail)
      go_wp2
      go_ret2
      exact ⟨ret_ib (by rw [HF.out]) (by rw [HH.out]), bel_drewN hbel _⟩

end Go.Proofs.YtpmeaikiaoojkaaDoor
