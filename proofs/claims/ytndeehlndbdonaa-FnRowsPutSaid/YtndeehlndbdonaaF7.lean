/- The law FnRowsPut, walked. -/
import Derived.Test.YtndeehlndbdonaaG1
import Derived.Test.YtndeehlndbdonaaP4
namespace Go.Proofs.Ytndeehlndbdonaa
open Go.RowKit

set_option maxHeartbeats 4000000 in
set_option maxRecDepth 100000 in
theorem lawFnRowsPut (A : Option Addr) (n c : Nat) (l : List UInt8) (w : World) (hr : Sl encB w w.heap.size A n l) (hn : n ≤ maxLen) (hc : n ≤ c) :
    Calls Try.prog 16 #[.slice A n c] w fun e w' => e = .returned (.bool true) ∧ Below w.heap.size w w' := by
  unfold maxLen at hn
  by_cases hbig : 1048576 < n
  · have hb : (1048576 : Int) < (n : Int) := by omega
    go_enter Try.func16, Try.ntmps16
    go_wp2
    go_ret
    exact ⟨rfl, Below.refl _ _⟩
  have hb : ¬ (1048576 : Int) < (n : Int) := by omega
  go_enter Try.func16, Try.ntmps16
  go_wp2_with fail
  refine (drawRowsPut A n c l w hr (by omega) hc).mono ?_
  rintro e w1 ⟨B, cb, lr, key, num, rfl, oL, hS, hks, hnum, b1⟩
  have nL : lr.length ≤ 1000 := by have := hS.1; omega
  have kL := hS.wf
  have HKM := Lib.hid (show key.size ≤ maxLen by unfold maxLen; omega)
  clear hS hks hnum
  go_wp2_with fail
  clear hr hn hc hb hbig
  obtain ⟨P, hP⟩ : ∃ P, putRes lr key num = P := ⟨_, rfl⟩
  obtain ⟨x, p⟩ := P
  obtain ⟨kX, nX⟩ := put_small hP kL nL
  have HP := Lib.hid hP
  clear hP
  have hpp : (p != p) = false := by simp
  have CI : Hid (∀ W, Calls Try.prog 22 #[.string key] W fun e w' => e = .returned (.bool (keyOk key)) ∧ W = w') := Lib.hid fun W => implKeyOk key W HKM.out
  have CS : Hid (∀ W, Calls Try.prog 21 #[.string key] W fun e w' => e = .returned (.bool (keyOk key)) ∧ W = w') := Lib.hid fun W => specKeyOk key W HKM.out
  generalize keyOk key = ko at CI CS
  have hkk : (ko != ko) = false := by simp
  obtain ⟨r, hr⟩ : ∃ r, rowsOk lr = r := ⟨_, rfl⟩
  have HR := Lib.hid hr
  clear hr
  have hrr : (r != r) = false := by simp
  go_wp2_with fail
  refine (aPut oL kL nL HKM.out HP.out).mono ?_
  rintro e w2 ⟨DX, cX, rfl, oX, hb2⟩
  have b2 := bel_trans b1 hb2
  replace oL := oL.on hb2
  go_wp2_with fail
  refine (sPut oL kL nL HKM.out HP.out).mono ?_
  rintro e w3 ⟨DY, cY, rfl, oY, hb3⟩
  have b3 := bel_trans b2 hb3
  replace oL := oL.on hb3
  replace oX := oX.on hb3
  go_wp2_with fail
  refine (aEq oX oY nX (rowsEq_self x)).mono ?_
  rintro e w4 ⟨rfl, hb4⟩
  have b4 := bel_trans b3 hb4
  replace oL := oL.on hb4
  replace oX := oX.on hb4
  replace oY := oY.on hb4
  go_wp2_with fail
  refine (aOk oL kL nL HR.out).mono ?_
  rintro e w5 ⟨rfl, hb5⟩
  have b5 := bel_trans b4 hb5
  replace oL := oL.on hb5
  replace oX := oX.on hb5
  replace oY := oY.on hb5
  go_wp2_with fail
  refine (sOk oL kL nL HR.out).mono ?_
  rintro e w6 ⟨rfl, hb6⟩
  have b6 := bel_trans b5 hb6
  replace oL := oL.on hb6
  replace oX := oX.on hb6
  replace oY := oY.on hb6
  go_wp2_with fail
  refine (CI.out _).mono ?_
  rintro e w7 ⟨rfl, rfl⟩
  go_wp2_with fail
  refine (CS.out _).mono ?_
  rintro e w7 ⟨rfl, rfl⟩
  clear CI CS
  cases p
  · rcases put_false HP.out with ⟨h4, rfl⟩ | ⟨h4, rfl⟩
    · have HK := Lib.hid h4
      clear h4
      go_wp2_with fail
      refine (sOk oL kL nL HK.out).mono ?_
      rintro e w7 ⟨rfl, hb7⟩
      have b7 := bel_trans b6 hb7
      replace oL := oL.on hb7
      replace oX := oX.on hb7
      replace oY := oY.on hb7
      go_wp2_with fail
      refine (aEq oX oL nX (rowsEq_self _)).mono ?_
      rintro e w8 ⟨rfl, hb8⟩
      have b8 := bel_trans b7 hb8
      replace oL := oL.on hb8
      replace oX := oX.on hb8
      replace oY := oY.on hb8
      go_wp2
      go_ret
      exact ⟨rfl, b8⟩
    · have HK := Lib.hid h4
      clear h4
      go_wp2_with fail
      refine (sOk oL kL nL HK.out).mono ?_
      rintro e w7 ⟨rfl, hb7⟩
      have b7 := bel_trans b6 hb7
      replace oL := oL.on hb7
      replace oX := oX.on hb7
      replace oY := oY.on hb7
      go_wp2_with fail
      refine (sOk oL kL nL HK.out).mono ?_
      rintro e w8 ⟨rfl, hb8⟩
      have b8 := bel_trans b7 hb8
      replace oL := oL.on hb8
      replace oX := oX.on hb8
      replace oY := oY.on hb8
      go_wp2
      go_ret
      exact ⟨rfl, b8⟩
  · obtain ⟨p1, p2, p3, p4, p5, p6⟩ := put_law HP.out
    have Q1 := Lib.hid p1
    have Q2 := Lib.hid p2
    have Q3 := Lib.hid p3
    have Q4 := Lib.hid p4
    have Q5 := Lib.hid p5
    have Q6 := Lib.hid p6
    clear p1 p2 p3 p4 p5 p6
    go_wp2_with fail
    refine (aGet oX kX nX Q1.out Q2.out).mono ?_
    rintro e w7 ⟨rfl, hb7⟩
    have b7 := bel_trans b6 hb7
    replace oL := oL.on hb7
    replace oX := oX.on hb7
    replace oY := oY.on hb7
    go_wp2
    clear oY
    go_loopw [12] (fun i wr => ∃ k : Nat, k ≤ lr.length ∧ i = .int .i64 k ∧ Below w7.heap.size w7 wr) (fun i _ => lr.length - (intOf i).toNat)
    case atStart => exact ⟨0, by omega, rfl, Below.refl _ _⟩
    case round =>
      obtain ⟨k, hkn, rfl, hbel⟩ := hrel
      replace oL := oL.on hbel
      replace oX := oX.on hbel
      by_cases hlt : k < lr.length
      · obtain ⟨d, rfl⟩ := oL.zero hlt
        obtain ⟨⟨key2, num2⟩, hx⟩ : ∃ x, lr[k]? = some x := ⟨_, List.getElem?_eq_getElem hlt⟩
        have hmem := List.mem_of_getElem? hx
        obtain ⟨f1, f2, -, -⟩ := ownRow oL hx
        obtain ⟨v2, g1, g2, g3⟩ := Q6.out _ hmem
        simp only at g1 g2 g3
        have hne : (key2.toList == key.toList) = false → v2 = num2 := by
          intro h
          have : key2 ≠ key := by rintro rfl; simp at h
          exact g3 this
        have G1 := Lib.hid g1
        have G2 := Lib.hid g2
        have HNE := Lib.hid hne
        have i0 : (0 : Int) ≤ (k : Int) := by omega
        have i1 : (k : Int) < (lr.length : Int) := by omega
        clear hx hmem g1 g2 g3 hne
        go_wp2_with fail
        refine (aGet oX kX nX G1.out G2.out).mono ?_
        rintro e w20 ⟨rfl, hb20⟩
        have h1 := (hb20.cell (p := ⟨d, k * 2, none⟩) (World.block_lt_of_cell? wr _ f1)).trans f1
        have h2 := (hb20.cell (p := ⟨d, k * 2 + 1, none⟩) (World.block_lt_of_cell? wr _ f2)).trans f2
        have hq2 : (key2.toList != key.toList) = !(key2.toList == key.toList) := rfl
        cases hq : (key2.toList == key.toList)
        all_goals
          rw [hq] at hq2
          simp only [Bool.not_true, Bool.not_false] at hq2
        rotate_left
        · go_wp2
          go_roundw
          case rel => exact ⟨k + 1, by omega, by go_num, bel_trans hbel hb20⟩
          case measure => simp [intOf]; omega
        · obtain rfl := HNE.out hq
          have h3 : (v2 != v2) = false := by simp
          go_wp2
          go_roundw
          case rel => exact ⟨k + 1, by omega, by go_num, bel_trans hbel hb20⟩
          case measure => simp [intOf]; omega
      · obtain ⟨v3, hv3⟩ : ∃ v, getNum lr key = v := ⟨_, rfl⟩
        obtain ⟨h4, hh4⟩ : ∃ v, getHas lr key = v := ⟨_, rfl⟩
        have HV3 := Lib.hid hv3
        have HH4 := Lib.hid hh4
        have hle : ((x.length : Int) == (lr.length : Int)) = h4 := by
          rw [← hh4, Bool.eq_iff_iff, ← Q5.out]; simp; omega
        clear hv3 hh4
        have b90 := bel_trans b7 hbel
        have hnn : (num == num) = true := by simp
        cases h4
        all_goals
          go_wp2_with fail
          refine (aPut oX kX nX HKM.out Q3.out).mono ?_
          rintro e w91 ⟨DU, cU, rfl, oU, hb91⟩
          have b91 := bel_trans b90 hb91
          replace oL := oL.on hb91
          replace oX := oX.on hb91
          go_wp2_with fail
          refine (aGet oL kL nL HV3.out HH4.out).mono ?_
          rintro e w92 ⟨rfl, hb92⟩
          have b92 := bel_trans b91 hb92
          replace oL := oL.on hb92
          replace oX := oX.on hb92
          replace oU := oU.on hb92
          go_wp2_with fail
          refine (aEq oU oX nX (rowsEq_self _)).mono ?_
          rintro e w93 ⟨rfl, hb93⟩
          have b93 := bel_trans b92 hb93
          replace oL := oL.on hb93
          replace oX := oX.on hb93
          replace oU := oU.on hb93
          go_wp2_with fail
          refine (aOk oX kX nX Q4.out).mono ?_
          rintro e w94 ⟨rfl, hb94⟩
          have b94 := bel_trans b93 hb94
          replace oL := oL.on hb94
          replace oX := oX.on hb94
          replace oU := oU.on hb94
          go_wp2
          go_ret
          exact ⟨rfl, b94⟩
end Go.Proofs.Ytndeehlndbdonaa
