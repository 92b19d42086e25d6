/- The law FnRowsDiff, walked. -/
import Derived.Test.YtndeehlndbdonaaG1
import Derived.Test.YtndeehlndbdonaaP5
namespace Go.Proofs.Ytndeehlndbdonaa
open Go.RowKit

set_option maxHeartbeats 4000000 in
set_option maxRecDepth 100000 in
theorem lawFnRowsDiff (A : Option Addr) (n c : Nat) (l : List UInt8) (w : World) (hr : Sl encB w w.heap.size A n l) (hn : n ≤ maxLen) (hc : n ≤ c) :
    Calls Try.prog 18 #[.slice A n c] w fun e w' => e = .returned (.bool true) ∧ Below w.heap.size w w' := by
  unfold maxLen at hn
  by_cases hbig : 1048576 < n
  · have hb : (1048576 : Int) < (n : Int) := by omega
    go_enter Try.func18, Try.ntmps18
    go_wp2
    go_ret
    exact ⟨rfl, Below.refl _ _⟩
  have hb : ¬ (1048576 : Int) < (n : Int) := by omega
  go_enter Try.func18, Try.ntmps18
  go_wp2_with fail
  refine (drawRowsDiff A n c l w hr (by omega) hc).mono ?_
  rintro e w1 ⟨B, B2, cb, cb2, la, lb, rfl, oA, oB, hS, hS2, b1⟩
  have nA : la.length ≤ 1000 := by have := hS.1; omega
  have nB : lb.length ≤ 1000 := by have := hS2.1; omega
  have kA := hS.wf
  have kB := hS2.wf
  clear hS hS2 hr hn hc hb hbig
  obtain ⟨ks, hks⟩ : ∃ ks, diffOut la lb = ks := ⟨_, rfl⟩
  have hks2 : diffOut lb la = ks := by rw [diff_comm]; exact hks
  have nK : ks.length ≤ 1000 := by rw [← hks]; exact diff_len
  have HK := Lib.hid hks
  have HK2 := Lib.hid hks2
  clear hks hks2
  go_wp2_with fail
  refine (aDiff oA kA nA oB kB nB HK.out).mono ?_
  rintro e w2 ⟨D, cD, rfl, oK, hb2⟩
  have b2 := bel_trans b1 hb2
  replace oA := oA.on hb2
  replace oB := oB.on hb2
  go_wp2_with fail
  refine (sDiff oA kA nA oB kB nB HK.out).mono ?_
  rintro e w3 ⟨D2, cD2, rfl, oK2, hb3⟩
  have b3 := bel_trans b2 hb3
  replace oA := oA.on hb3
  replace oB := oB.on hb3
  replace oK := oK.on hb3
  go_wp2_with fail
  refine (aTexts oK oK2 nK (strsEq_self ks)).mono ?_
  rintro e w4 ⟨rfl, hb4⟩
  have b4 := bel_trans b3 hb4
  replace oA := oA.on hb4
  replace oB := oB.on hb4
  replace oK := oK.on hb4
  replace oK2 := oK2.on hb4
  go_wp2_with fail
  clear oK2
  refine (aDiff oB kB nB oA kA nA HK2.out).mono ?_
  rintro e w5 ⟨D3, cD3, rfl, oK3, hb5⟩
  have b5 := bel_trans b4 hb5
  replace oA := oA.on hb5
  replace oB := oB.on hb5
  replace oK := oK.on hb5
  go_wp2_with fail
  refine (aTexts oK oK3 nK (strsEq_self ks)).mono ?_
  rintro e w6 ⟨rfl, hb6⟩
  have b6 := bel_trans b5 hb6
  replace oA := oA.on hb6
  replace oB := oB.on hb6
  replace oK := oK.on hb6
  replace oK3 := oK3.on hb6
  clear oK3
  cases hoa : rowsOk la
  · have h0 : ((ks.length : Int) == 0) = true := by rw [← HK.out, diffOut_bad (.inl hoa)]; rfl
    have HA := Lib.hid hoa
    clear hoa
    go_wp2_with fail
    refine (sOk oA kA nA HA.out).mono ?_
    rintro e w7 ⟨rfl, hb7⟩
    have b7 := bel_trans b6 hb7
    replace oA := oA.on hb7
    replace oB := oB.on hb7
    replace oK := oK.on hb7
    go_wp2
    go_ret
    exact ⟨rfl, b7⟩
  have HA := Lib.hid hoa
  clear hoa
  cases hob : rowsOk lb
  · have h0 : ((ks.length : Int) == 0) = true := by rw [← HK.out, diffOut_bad (.inr hob)]; rfl
    have HB := Lib.hid hob
    clear hob
    go_wp2_with fail
    refine (sOk oA kA nA HA.out).mono ?_
    rintro e w7 ⟨rfl, hb7⟩
    have b7 := bel_trans b6 hb7
    replace oA := oA.on hb7
    replace oB := oB.on hb7
    replace oK := oK.on hb7
    go_wp2_with fail
    refine (sOk oB kB nB HB.out).mono ?_
    rintro e w8 ⟨rfl, hb8⟩
    have b8 := bel_trans b7 hb8
    replace oA := oA.on hb8
    replace oB := oB.on hb8
    replace oK := oK.on hb8
    go_wp2
    go_ret
    exact ⟨rfl, b8⟩
  · have HB := Lib.hid hob
    clear hob
    have hPa := rowsOk_iff.1 HA.out
    have hPb := rowsOk_iff.1 HB.out
    have HG := Lib.hid (show ∀ k ∈ ks, ¬ (getHas la k = getHas lb k ∧ getNum la k = getNum lb k) from fun k hk => diff_get hPa hPb (by rw [HK.out]; exact hk))
    have hasc := (diff_spec hPa hPb).2
    rw [HK.out] at hasc
    have HASC := Lib.hid hasc
    have hnil := diff_nil hPa hPb
    rw [HK.out] at hnil
    have HNIL := Lib.hid hnil
    clear hPa hPb hasc hnil
    go_wp2_with fail
    refine (sOk oA kA nA HA.out).mono ?_
    rintro e w7 ⟨rfl, hb7⟩
    have b7 := bel_trans b6 hb7
    replace oA := oA.on hb7
    replace oB := oB.on hb7
    replace oK := oK.on hb7
    go_wp2_with fail
    refine (sOk oB kB nB HB.out).mono ?_
    rintro e w8 ⟨rfl, hb8⟩
    have b8 := bel_trans b7 hb8
    replace oA := oA.on hb8
    replace oB := oB.on hb8
    replace oK := oK.on hb8
    go_wp2
    go_loopw [6] (fun v6 wr => ∃ k : Nat, k ≤ ks.length ∧ v6 = .int .i64 k ∧ Below w8.heap.size w8 wr) (fun i _ => ks.length - (intOf i).toNat)
    case atStart => exact ⟨0, by omega, rfl, Below.refl _ _⟩
    case round =>
      obtain ⟨k, hkn, rfl, hbel⟩ := hrel
      replace oA := oA.on hbel
      replace oB := oB.on hbel
      replace oK := oK.on hbel
      by_cases hlt : k < ks.length
      · obtain ⟨d, rfl⟩ := oK.zero hlt
        obtain ⟨key, hx⟩ : ∃ x, ks[k]? = some x := ⟨_, List.getElem?_eq_getElem hlt⟩
        obtain ⟨f1, -⟩ := ownStr oK hx
        have hg := HG.out key (List.mem_of_getElem? hx)
        have i0 : (0 : Int) ≤ (k : Int) := by omega
        have i1 : (k : Int) < (ks.length : Int) := by omega
        obtain ⟨na, hna⟩ : ∃ v, getNum la key = v := ⟨_, rfl⟩
        obtain ⟨ga, hga⟩ : ∃ v, getHas la key = v := ⟨_, rfl⟩
        obtain ⟨nb, hnb⟩ : ∃ v, getNum lb key = v := ⟨_, rfl⟩
        obtain ⟨gb, hgb⟩ : ∃ v, getHas lb key = v := ⟨_, rfl⟩
        rw [hna, hga, hnb, hgb] at hg
        have HNA := Lib.hid hna
        have HGA := Lib.hid hga
        have HNB := Lib.hid hnb
        have HGB := Lib.hid hgb
        have HX := Lib.hid hx
        clear hna hga hnb hgb hx
        go_wp2_with fail
        refine (aGet oA kA nA HNA.out HGA.out).mono ?_
        rintro e w20 ⟨rfl, hb20⟩
        have h1 := (hb20.cell (p := ⟨d, k, none⟩) (World.block_lt_of_cell? wr _ f1)).trans f1
        replace oB := oB.on hb20
        go_wp2_with fail
        refine (aGet oB kB nB HNB.out HGB.out).mono ?_
        rintro e w21 ⟨rfl, hb21⟩
        have h2 := (hb21.cell (p := ⟨d, k, none⟩) (World.block_lt_of_cell? w20 _ h1)).trans h1
        have hb22 := bel_trans hb20 hb21
        clear h1
        have hq : ga = gb → (na == nb) = false := fun h => by
          cases h3 : (na == nb)
          · rfl
          · exact absurd ⟨h, by simpa using h3⟩ hg
        have HQ := Lib.hid hq
        clear hq hg
        by_cases hk0 : k = 0
        · have hd : decide ((0 : Int) < (k : Int)) = false := by simp; omega
          have hd' : decide (0 < k) = false := by simp; omega
          have HK0 := Lib.hid hk0
          clear hk0
          cases ga <;> cases gb
          all_goals
            first | (have hqq := HQ.out rfl) | (have hqq : True := trivial)
            go_wp2_with fail
            go_quiet (fail)
            go_wp2
            go_roundw
            case rel => exact ⟨k + 1, by omega, by go_num, bel_drewN (bel_trans hbel hb22) _⟩
            case measure => simp [intOf]; omega
        · have hd : decide ((0 : Int) < (k : Int)) = true := by simp; omega
          have hd' : decide (0 < k) = true := by simp; omega
          obtain ⟨prev, hpx⟩ : ∃ x, ks[k - 1]? = some x := ⟨_, List.getElem?_eq_getElem (by omega)⟩
          obtain ⟨f2, -⟩ := ownStr oK hpx
          have h3 := (hb22.cell (p := ⟨d, k - 1, none⟩) (World.block_lt_of_cell? wr _ f2)).trans f2
          have hlt2 : klt prev key = true := by
            obtain ⟨q1, e1⟩ := List.getElem?_eq_some_iff.1 hpx
            obtain ⟨q2, e2⟩ := List.getElem?_eq_some_iff.1 HX.out
            rw [← e1, ← e2]
            exact (List.pairwise_iff_getElem.1 HASC.out) (k - 1) k q1 q2 (by omega)
          unfold klt at hlt2
          have j0 : (0 : Int) ≤ (k : Int) - 1 := by omega
          have j1 : (k : Int) - 1 < (ks.length : Int) := by omega
          have j2 : ((k : Int) - 1).toNat = k - 1 := by omega
          have j3 : IntKind.i64.wrap ((k : Int) - 1) = (k : Int) - 1 := IntWalk.i64_in _ (by omega)
          have HK0 := Lib.hid hk0
          clear hk0 hpx f2
          cases ga <;> cases gb
          all_goals
            first | (have hqq := HQ.out rfl) | (have hqq : True := trivial)
            go_wp2_with fail
            go_quiet (fail)
            go_wp2
            go_roundw
            case rel => exact ⟨k + 1, by omega, by go_num, bel_drewN (bel_trans hbel hb22) _⟩
            case measure => simp [intOf]; omega
      · obtain ⟨e, he⟩ : ∃ e, rowsEq la lb = e := ⟨_, rfl⟩
        have hle : ((ks.length : Int) == 0) = e := by
          rw [← he, Bool.eq_iff_iff, rowsEq, decide_eq_true_eq, ← HNIL.out]; simp
        have HE := Lib.hid he
        clear he
        have b90 := bel_trans b8 hbel
        go_wp2_with fail
        refine (aEq oA oB nA HE.out).mono ?_
        rintro e w91 ⟨rfl, hb91⟩
        have b91 := bel_trans b90 hb91
        cases e
        all_goals
          go_wp2
          go_ret
          exact ⟨rfl, b91⟩
end Go.Proofs.Ytndeehlndbdonaa
