/- The law FnRowsAll, walked. -/
import Derived.Test.YtndeehlndbdonaaD7
import Derived.Test.YtndeehlndbdonaaP3
import Derived.Test.YtndeehlndbdonaaB15
namespace Go.Proofs.Ytndeehlndbdonaa
open Go.RowKit

set_option maxHeartbeats 2000000 in
set_option maxRecDepth 100000 in
theorem lawFnRowsAll (A : Option Addr) (n c : Nat) (l : List UInt8) (w : World) (hr : Sl encB w w.heap.size A n l) (hn : n ≤ maxLen) (hc : n ≤ c) :
    Calls Try.prog 10 #[.slice A n c] w fun e w' => e = .returned (.bool true) ∧ Below w.heap.size w w' := by
  unfold maxLen at hn
  by_cases hbig : 1048576 < n
  · have hb : (1048576 : Int) < (n : Int) := by omega
    go_enter Try.func10, Try.ntmps10
    go_wp2
    go_ret
    exact ⟨rfl, Below.refl _ _⟩
  have hb : ¬ (1048576 : Int) < (n : Int) := by omega
  go_enter Try.func10, Try.ntmps10
  go_wp2_with fail
  refine (drawRowsOk A n c l w hr (by omega) hc).mono ?_
  rintro e w1 ⟨B, cb, lr, rfl, o1, hS, b1⟩
  have hl11 := hS.1
  clear hr hn hc hb hbig
  go_wp2_with fail
  refine (implRowsOk B lr.length cb lr w1 o1.sl hS.wf (by omega)).mono ?_
  rintro e w2 ⟨rfl, hb2⟩
  have b2 := bel_trans b1 hb2
  have o2 := o1.on hb2
  have C24 : Hid (∀ W, Below w2.heap.size w2 W → Calls Try.prog 24 #[.slice B lr.length cb] W fun e w' => e = .returned (.bool (rowsOk lr)) ∧ Below W.heap.size W w') := Lib.hid fun W hW => specRowsOk B lr.length cb lr W (o2.on hW).sl hS.wf (by omega)
  cases hok : rowsOk lr
  · rw [hok] at C24
    go_wp2_with fail
    refine (C24.out _ (Below.refl _ _)).mono ?_
    rintro e w3 ⟨rfl, hb3⟩
    have b3 := bel_trans b2 hb3
    go_wp2_with fail
    refine (C24.out _ hb3).mono ?_
    rintro e w4 ⟨rfl, hb4⟩
    have b4 := bel_trans b3 hb4
    go_wp2
    go_ret
    exact ⟨rfl, b4⟩
  · rw [hok] at C24
    have hP := rowsOk_iff.1 hok
    have HP := Lib.hid hP
    clear hP hok
    go_wp2_with fail
    refine (C24.out _ (Below.refl _ _)).mono ?_
    rintro e w3 ⟨rfl, hb3⟩
    have b3 := bel_trans b2 hb3
    have o3 := o2.on hb3
    clear C24 o2 b2 b1 hb2 o1
    go_wp2
    go_loopw [5] (fun i wr => ∃ k : Nat, k ≤ lr.length ∧ i = .int .i64 k ∧ Below w3.heap.size w3 wr) (fun i _ => lr.length - (intOf i).toNat)
    case atStart => exact ⟨0, by omega, rfl, Below.refl _ _⟩
    case round =>
      obtain ⟨k, hkn, rfl, hbel⟩ := hrel
      have o4 := o3.on hbel
      by_cases hlt : k < lr.length
      · obtain ⟨d, rfl⟩ := o3.zero hlt
        obtain ⟨⟨key, num⟩, hx⟩ : ∃ x, lr[k]? = some x := ⟨_, List.getElem?_eq_getElem hlt⟩
        have hmem := List.mem_of_getElem? hx
        obtain ⟨f1, f2, -, -⟩ := ownRow o4 hx
        obtain ⟨g1, g2⟩ := get_mem HP.out hmem
        have hko := ((rowsP_iff.1 HP.out).2.1 _ hmem).1
        simp only at hko
        have C31 : Hid (Calls Try.prog 31 #[.slice (some ⟨d, 0, none⟩) lr.length cb, .string key] wr fun e w' => e = .returned (.tuple #[.int .i64 num, .bool true]) ∧ Below wr.heap.size wr w') := by
          have := implRowsGet (some ⟨d, 0, none⟩) lr.length cb lr key wr o4.sl hS.wf (by omega)
          rw [g1, g2] at this
          exact Lib.hid this
        have C22 : Hid (∀ W, Calls Try.prog 22 #[.string key] W fun e w' => e = .returned (.bool true) ∧ W = w') := by
          have := fun W => implKeyOk key W (keyOk_size' hko)
          rw [hko] at this
          exact Lib.hid this
        have hne : (num != num) = false := by simp
        have i0 : (0 : Int) ≤ (k : Int) := by omega
        have i1 : (k : Int) < (lr.length : Int) := by omega
        clear hx hmem g1 g2 hko
        go_wp2_with fail
        refine C31.out.mono ?_
        rintro e w5 ⟨rfl, hb5⟩
        have h1 := (hb5.cell (p := ⟨d, k * 2, none⟩) (World.block_lt_of_cell? wr _ f1)).trans f1
        have h2 := (hb5.cell (p := ⟨d, k * 2 + 1, none⟩) (World.block_lt_of_cell? wr _ f2)).trans f2
        clear C31
        go_wp2_with (go_at_call 22; refine (C22.out _).mono ?_; rintro e w6 ⟨rfl, rfl⟩)
        go_roundw
        case rel => exact ⟨k + 1, by omega, by go_num, bel_trans hbel hb5⟩
        case measure => simp [intOf]; omega
      · have g1 := hit_empty HP.out
        obtain ⟨g2, g3⟩ := get_miss g1
        have C31 : Hid (Calls Try.prog 31 #[.slice B lr.length cb, .string ⟨#[]⟩] wr fun e w' => e = .returned (.tuple #[.int .i64 0, .bool false]) ∧ Below wr.heap.size wr w') := by
          have := implRowsGet B lr.length cb lr ⟨#[]⟩ wr o4.sl hS.wf (by omega)
          rw [g2, g3] at this
          exact Lib.hid this
        have hin := in_all HP.out
        have h10 : (lr.length : Int) ≤ 10 := by have := HP.out.1; omega
        clear g1 g2 g3
        have HIN := Lib.hid hin
        clear hin
        go_wp2_with fail
        refine C31.out.mono ?_
        rintro e w5 ⟨rfl, hb5⟩
        have o5 := o4.on hb5
        have b5 := bel_trans hbel hb5
        go_wp2_with fail
        refine (implRowsIn B lr.length cb lr ⟨#[]⟩ ⟨#[122, 122, 122]⟩ w5 o5.sl hS.wf (by omega) o5.fine).mono ?_
        rintro e w6 ⟨v6, rfl, o6, hb6⟩
        rw [HIN.out] at o6
        obtain ⟨D6, c6, rfl, -, -⟩ := o6.form
        have o7 := o5.on hb6
        have b6 := bel_trans b5 hb6
        go_wp2_with fail
        refine (wpRows D6 B lr.length lr.length c6 cb lr lr w6 o6.sl o7.sl (by omega)).mono ?_
        rintro e w8 ⟨rfl, hb8⟩
        rw [rowsEq_self]
        have b8 := bel_trans b3 (bel_trans b6 hb8)
        go_wp2
        go_ret
        exact ⟨rfl, b8⟩
end Go.Proofs.Ytndeehlndbdonaa
