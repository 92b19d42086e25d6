/- Contracts over slices of writes: WritesOk of the reference. -/
import Derived.Test.YtpofgidhhcolfaaW2
namespace Go.Proofs.Ytpofgidhhcolfaa
open Go.RowKit

/-! ### Calls that leave the world as it is, inside a region that draws -/
theorem quiet_add_left {P : Program} {f : FuncId} {args : Array Value} {w : World} {a n : Nat} {v : Value}
    (h : Calls P f args (w.drewN (a + n)) fun e w' => e = .returned v ∧ w.drewN (a + n) = w') :
    Calls P f args (w.drewN (a + n)) fun e w'' => e = .returned v ∧ ∃ m, w'' = w.drewN (a + m) :=
  h.mono fun _ _ ⟨he, hm⟩ => ⟨he, n, hm.symm⟩
theorem quiet_left {P : Program} {f : FuncId} {args : Array Value} {w : World} {n : Nat} {v : Value}
    (h : Calls P f args (w.drewN n) fun e w' => e = .returned v ∧ w.drewN n = w') : Calls P f args (w.drewN n) fun e w'' => e = .returned v ∧ ∃ m, w'' = w.drewN m :=
  h.mono fun _ _ ⟨he, hm⟩ => ⟨he, n, hm.symm⟩


/-- ascending up to element k, counted by the later one of two neighbours -/
theorem AscTo.stepPrev {l : List Write} {k : Nat} (h : AscTo l (k - 1)) {x y : Write} (hk : 0 < k) (h0 : l[k - 1]? = some x) (h1 : l[k]? = some y) (hlt : klt x.1 y.1 = true) : AscTo l k := by
  obtain ⟨j, rfl⟩ : ∃ j, k = j + 1 := ⟨k - 1, by omega⟩
  exact AscTo.step (j := j) h h0 h1 hlt
set_option maxRecDepth 100000 in
set_option maxHeartbeats 4000000 in
theorem specWritesOk (A : Option Addr) (n c : Nat) (l : List Write) (w : World) (hr : Sl encWrite w w.heap.size A n l) (hk : WriteSWf l) (hn : n ≤ 1048576) :
    Calls Try.prog 37 #[.slice A n c] w fun e w' => e = .returned (.bool (writesOk 6 l)) ∧ Below w.heap.size w w' := by
  have HL := Lib.hid hr.len
  go_enter Try.func37, Try.ntmps37
  go_wp2
  go_loopw [3] (fun i wr => ∃ k : Nat, k ≤ n ∧ i = .int .i64 k ∧ EachTo l k ∧ AscTo l (k - 1) ∧ Below w.heap.size w wr) (fun i _ => n - (intOf i).toNat)
  case atStart => exact ⟨0, by omega, rfl, EachTo.zero l, AscTo.zero l, Below.refl _ _⟩
  case round =>
    obtain ⟨k, hkn, rfl, heach, hasc, hbel⟩ := hrel
    by_cases hlt : k < n
    · obtain ⟨b, off, rfl, hb⟩ := hr.spot (by omega)
      obtain ⟨key, num, gone, hrow, hk1, hk2, hkg⟩ := atWrite (hr.keep hbel) hlt
      have hks := hk.at_ hrow
      have HR := Lib.hid hrow
      clear hrow
      have i0 : (0 : Int) ≤ (k : Int) := by omega
      have i1 : (k : Int) < (n : Int) := by omega
      have c1 := fun W => specKeyOk key W hks
      have c2 := fun W => l1NumC num W
      cases hko : keyOk key
      · rw [hko] at c1
        have C1 := Lib.hid c1
        have HW := Lib.hid (show wOk (key, num, gone) = false by show (keyOk key && (numOk num && (!gone || num == 0))) = false; rw [hko]; rfl)
        clear c1 c2 hko
        go_wp2_with fail
        go_quiet ((go_at_call 83; exact quiet_left (C1.out _)))
        go_wp2
        go_ret
        exact ⟨ret_bool (writesOk_bad (not_each HR.out HW.out)).symm, bel_drewN hbel _⟩
      · rw [hko] at c1
        have C1 := Lib.hid c1
        clear c1
        cases hno : numOk num
        · rw [hno] at c2
          have C2 := Lib.hid c2
          have HW := Lib.hid (show wOk (key, num, gone) = false by show (keyOk key && (numOk num && (!gone || num == 0))) = false; rw [hko, hno]; rfl)
          clear c2 hno hko
          go_wp2_with fail
          go_quiet ((first | (go_at_call 83; exact quiet_left (C1.out _)) | (go_at_call 84; first | exact quiet_left (C2.out _) | exact quiet_add_left (C2.out _))))
          go_wp2
          go_ret
          exact ⟨ret_bool (writesOk_bad (not_each HR.out HW.out)).symm, bel_drewN hbel _⟩
        · rw [hno] at c2
          have C2 := Lib.hid c2
          clear c2
          have hall : (gone = true ∧ (num == 0) = false) ∨ (gone = false) ∨ (gone = true ∧ (num == 0) = true) := by cases gone <;> cases (num == 0) <;> simp
          rcases hall with ⟨rfl, h3⟩ | hgood
          · have HW := Lib.hid (show wOk (key, num, true) = false by show (keyOk key && (numOk num && (!true || num == 0))) = false; rw [hko, hno, h3]; rfl)
            have d3 : (num != 0) = !(num == 0) := rfl
            rw [h3] at d3
            simp only [Bool.not_false] at d3
            clear hno hko
            go_wp2_with fail
            go_quiet ((first | (go_at_call 83; exact quiet_left (C1.out _)) | (go_at_call 84; first | exact quiet_left (C2.out _) | exact quiet_add_left (C2.out _))))
            go_wp2
            go_ret
            exact ⟨ret_bool (writesOk_bad (not_each HR.out HW.out)).symm, bel_drewN hbel _⟩
          · have hw : wOk (key, num, gone) = true := by
              show (keyOk key && (numOk num && (!gone || num == 0))) = true
              rcases hgood with rfl | ⟨rfl, h3⟩
              · rw [hko, hno]; rfl
              · rw [hko, hno, h3]; rfl
            have HW := Lib.hid hw
            clear hw hno hko
            have hd3 : gone = false ∨ (gone = true ∧ (num != 0) = false) := by
              rcases hgood with h | ⟨h, h3⟩
              · exact .inl h
              · exact .inr ⟨h, by show (!(num == 0)) = false; rw [h3]; rfl⟩
            clear hgood
            by_cases hk0 : k = 0
            · have HK0 := Lib.hid hk0
              have hd : decide ((0 : Int) < (k : Int)) = false := by simp; omega
              have hd' : decide (0 < k) = false := by simp; omega
              clear hk0
              rcases hd3 with rfl | ⟨rfl, h3⟩
              all_goals
                go_wp2_with fail
                go_quiet ((first | (go_at_call 83; exact quiet_left (C1.out _)) | (go_at_call 84; first | exact quiet_left (C2.out _) | exact quiet_add_left (C2.out _))))
                go_wp2
                go_roundw
                case rel => exact ⟨k + 1, by omega, by go_num, heach.step HR.out HW.out, by rw [HK0.out]; exact AscTo.zero l, bel_drewN hbel _⟩
                case measure => simp [intOf]; omega
            · have hd : decide ((0 : Int) < (k : Int)) = true := by simp; omega
              have hd' : decide (0 < k) = true := by simp; omega
              obtain ⟨key0, num0, gone0, hrow0, hk3, hk4, hkh⟩ := atWrite (k := k - 1) (hr.keep hbel) (by omega)
              have HR0 := Lib.hid hrow0
              clear hrow0
              have hk0' : 0 < k := by omega
              clear hk0
              have j0 : (0 : Int) ≤ (k : Int) - 1 := by omega
              have j1 : (k : Int) - 1 < (n : Int) := by omega
              have j2 : ((k : Int) - 1).toNat = k - 1 := by omega
              have j3 : IntKind.i64.wrap ((k : Int) - 1) = (k : Int) - 1 := IntWalk.i64_in _ (by omega)
              cases hlt2 : klt key0 key
              all_goals
                have hlt' : Op.bytesLess key0.toList key.toList = _ := hlt2
                have HLT := Lib.hid hlt2
                clear hlt2
              · have HF := Lib.hid (show writesOk 6 l = false from writesOk_false (by
                  intro h'
                  have h1 := h'.2.2 (k - 1) _ _ HR0.out (by rw [show k - 1 + 1 = k by omega]; exact HR.out)
                  have h2 := HLT.out
                  rw [h2] at h1
                  cases h1))
                rcases hd3 with rfl | ⟨rfl, h3⟩
                all_goals
                  go_wp2_with fail
                  go_quiet ((first | (go_at_call 83; exact quiet_left (C1.out _)) | (go_at_call 84; first | exact quiet_left (C2.out _) | exact quiet_add_left (C2.out _))))
                  go_wp2
                  go_ret
                  exact ⟨ret_bool HF.out.symm, bel_drewN hbel _⟩
              · rcases hd3 with rfl | ⟨rfl, h3⟩
                all_goals
                  go_wp2_with fail
                  go_quiet ((first | (go_at_call 83; exact quiet_left (C1.out _)) | (go_at_call 84; first | exact quiet_left (C2.out _) | exact quiet_add_left (C2.out _))))
                  go_wp2
                  go_roundw
                  case rel => exact ⟨k + 1, by omega, by go_num, heach.step HR.out HW.out, hasc.stepPrev hk0' HR0.out HR.out HLT.out, bel_drewN hbel _⟩
                  case measure => simp [intOf]; omega
    · have ha : EachP l := heach.all (by rw [HL.out]; omega)
      have hb : AscP l := hasc.all (by rw [HL.out]; omega)
      have hf : writesOk 6 l = decide ((n : Int) ≤ 6) := by
        by_cases h10 : n ≤ 6
        · rw [writesOk_true ⟨by rw [HL.out]; exact h10, ha, hb⟩]; simp; omega
        · rw [writesOk_long (by rw [HL.out]; exact h10)]; simp; omega
      have HF := Lib.hid hf
      clear hf ha hb
      go_wp2
      go_ret
      exact ⟨ret_bool HF.out.symm, hbel⟩
end Go.Proofs.Ytpofgidhhcolfaa
