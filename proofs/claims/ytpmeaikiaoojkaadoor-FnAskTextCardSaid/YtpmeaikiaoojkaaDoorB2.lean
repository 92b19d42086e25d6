/- Contracts over slices of rows: RowsOk of the reference, the laws' own helpers szRowS, eqRowS, toRowS. -/
import Derived.Test.YtpmeaikiaoojkaaDoorB1
namespace Go.Proofs.YtpmeaikiaoojkaaDoor
open Go.RowKit

/-! ### Calls that leave the world as it is, inside a region that draws -/
theorem quiet_add_left {P : Program} {f : FuncId} {args : Array Value} {w : World} {a n : Nat} {v : Value}
    (h : Calls P f args (w.drewN (a + n)) fun e w' => e = .returned v ∧ w.drewN (a + n) = w') :
    Calls P f args (w.drewN (a + n)) fun e w'' => e = .returned v ∧ ∃ m, w'' = w.drewN (a + m) :=
  h.mono fun _ _ ⟨he, hm⟩ => ⟨he, n, hm.symm⟩
theorem quiet_left {P : Program} {f : FuncId} {args : Array Value} {w : World} {n : Nat} {v : Value}
    (h : Calls P f args (w.drewN n) fun e w' => e = .returned v ∧ w.drewN n = w') : Calls P f args (w.drewN n) fun e w'' => e = .returned v ∧ ∃ m, w'' = w.drewN m :=
  h.mono fun _ _ ⟨he, hm⟩ => ⟨he, n, hm.symm⟩

/-- ascending up to element k, counted by the later one of two neighbours -/
theorem AscTo.stepPrev {l : List Row} {k : Nat} (h : AscTo l (k - 1)) {k0 k1 : ByteArray} {n0 n1 : Int} (hk : 0 < k) (h0 : l[k - 1]? = some (k0, n0)) (h1 : l[k]? = some (k1, n1)) (hlt : klt k0 k1 = true) : AscTo l k := by
  obtain ⟨j, rfl⟩ : ∃ j, k = j + 1 := ⟨k - 1, by omega⟩
  exact AscTo.step (j := j) h h0 h1 hlt

set_option maxHeartbeats 2000000 in
theorem specRowsOk (A : Option Addr) (n c : Nat) (l : List Row) (w : World) (hr : Sl encRow w w.heap.size A n l) (hk : KeysWf l) (hn : n ≤ 1048576) :
    Calls Tryd.prog 48 #[.slice A n c] w fun e w' => e = .returned (.bool (rowsOk l)) ∧ Below w.heap.size w w' := by
  have HL := Lib.hid hr.len
  go_enter Tryd.func48, Tryd.ntmps48
  go_wp2
  go_loopw [3] (fun i wr => ∃ k : Nat, k ≤ n ∧ i = .int .i64 k ∧ EachTo l k ∧ AscTo l (k - 1) ∧ Below w.heap.size w wr) (fun i _ => n - (intOf i).toNat)
  case atStart => exact ⟨0, by omega, rfl, EachTo.zero l, AscTo.zero l, Below.refl _ _⟩
  case round =>
    obtain ⟨k, hkn, rfl, heach, hasc, hbel⟩ := hrel
    by_cases hlt : k < n
    · obtain ⟨b, off, rfl, hb⟩ := hr.spot (by omega)
      obtain ⟨key, num, hrow, hk1, hk2⟩ := rowAt (hr.keep hbel) hlt
      have hks := hk.at_ hrow
      have HR := Lib.hid hrow
      clear hrow
      have i0 : (0 : Int) ≤ (k : Int) := by omega
      have i1 : (k : Int) < (n : Int) := by omega
      cases hko : keyOk key
      · have c1 := fun W => specKeyOk key W hks
        rw [hko] at c1
        have C1 := Lib.hid c1
        have HKO := Lib.hid hko
        clear c1 hko
        go_wp2_with fail
        go_quiet ((go_at_call 19; exact quiet_left (C1.out _)))
        go_wp2
        go_ret
        exact ⟨ret_bool (rowsOk_bad (not_each HR.out (.inl HKO.out))).symm, bel_drewN hbel _⟩
      · have c1 := fun W => specKeyOk key W hks
        rw [hko] at c1
        have C1 := Lib.hid c1
        have HKO := Lib.hid hko
        clear c1 hko
        cases hno : numOk num
        · have c2 := fun W => l1NumC num W
          rw [hno] at c2
          have C2 := Lib.hid c2
          have HNO := Lib.hid hno
          clear c2 hno
          go_wp2_with fail
          go_quiet ((first | (go_at_call 19; exact quiet_left (C1.out _)) | (go_at_call 20; first | exact quiet_left (C2.out _) | exact quiet_add_left (C2.out _))))
          go_wp2
          go_ret
          exact ⟨ret_bool (rowsOk_bad (not_each HR.out (.inr HNO.out))).symm, bel_drewN hbel _⟩
        · have c2 := fun W => l1NumC num W
          rw [hno] at c2
          have C2 := Lib.hid c2
          have HNO := Lib.hid hno
          clear c2 hno
          by_cases hk0 : k = 0
          · have HK0 := Lib.hid hk0
            have hd : decide ((0 : Int) < (k : Int)) = false := by simp; omega
            have hd' : decide (0 < k) = false := by simp; omega
            clear hk0
            go_wp2_with fail
            go_quiet ((first | (go_at_call 19; exact quiet_left (C1.out _)) | (go_at_call 20; first | exact quiet_left (C2.out _) | exact quiet_add_left (C2.out _))))
            go_wp2
            go_roundw
            case rel => exact ⟨k + 1, by omega, by go_num, heach.step HR.out HKO.out HNO.out, by rw [HK0.out]; exact AscTo.zero l, bel_drewN hbel _⟩
            case measure => simp [intOf]; omega
          · have hd : decide ((0 : Int) < (k : Int)) = true := by simp; omega
            have hd' : decide (0 < k) = true := by simp; omega
            obtain ⟨key0, num0, hrow0, hk3, hk4⟩ := rowAt (k := k - 1) (hr.keep hbel) (by omega)
            have HR0 := Lib.hid hrow0
            clear hrow0
            have hk0' : 0 < k := by omega
            clear hk0
            have j0 : (0 : Int) ≤ (k : Int) - 1 := by omega
            have j1 : (k : Int) - 1 < (n : Int) := by omega
            have j2 : ((k : Int) - 1).toNat = k - 1 := by omega
            have j3 : IntKind.i64.wrap ((k : Int) - 1) = (k : Int) - 1 := IntWalk.i64_in _ (by omega)
            cases hlt2 : klt key0 key
            all_goals
              have hlt' : Op.bytesLess key0.toList key.toList = _ := hlt2
              have HLT := Lib.hid hlt2
              clear hlt2
              go_wp2_with fail
              go_quiet ((first | (go_at_call 19; exact quiet_left (C1.out _)) | (go_at_call 20; first | exact quiet_left (C2.out _) | exact quiet_add_left (C2.out _))))
              go_wp2
            · go_ret
              refine ⟨ret_bool (rowsOk_false ?_).symm, bel_drewN hbel _⟩
              intro h'
              have h1 := h'.2.2 (k - 1) _ _ HR0.out (by rw [show k - 1 + 1 = k by omega]; exact HR.out)
              have h2 := HLT.out
              rw [h2] at h1
              cases h1
            · go_roundw
              case rel => exact ⟨k + 1, by omega, by go_num, heach.step HR.out HKO.out HNO.out, hasc.stepPrev hk0' HR0.out HR.out HLT.out, bel_drewN hbel _⟩
              case measure => simp [intOf]; omega
    · have ha : EachP l := heach.all (by rw [HL.out]; omega)
      have hb : AscP l := hasc.all (by rw [HL.out]; omega)
      have hf : rowsOk l = decide ((n : Int) ≤ 10) := by
        by_cases h10 : n ≤ 10
        · rw [rowsOk_true ⟨by rw [HL.out]; exact h10, ha, hb⟩]; simp; omega
        · rw [rowsOk_long (by rw [HL.out]; exact h10)]; simp; omega
      have HF := Lib.hid hf
      clear hf ha hb
      go_wp2
      go_ret
      exact ⟨ret_bool HF.out.symm, hbel⟩
end Go.Proofs.YtpmeaikiaoojkaaDoor
