/- The law FnRowsIn, walked. -/
import Derived.Test.YtndeehlndbdonaaG1
import Derived.Test.YtndeehlndbdonaaP4
namespace Go.Proofs.Ytndeehlndbdonaa
open Go.RowKit

theorem in_ok {l : List Row} (lo hi : ByteArray) : RowsP (inRes l lo hi) := by
  unfold inRes
  split
  · rename_i h
    have hP := rowsOk_iff.1 h
    rw [rowsP_iff] at hP ⊢
    exact ⟨Nat.le_trans (List.length_filter_le _ _) hP.1, fun r hr => hP.2.1 r (List.mem_filter.1 hr).1, hP.2.2.sublist List.filter_sublist⟩
  · exact rowsP_nil
theorem inRes_eq {l : List Row} {lo hi : ByteArray} (h : rowsOk l = true) : inRes l lo hi = l.filter (inP lo hi) := by simp [inRes, h]
theorem in_in {l : List Row} (lo hi : ByteArray) : inRes (inRes l lo hi) lo hi = inRes l lo hi := by
  rw [inRes_eq (rowsOk_true (in_ok (l := l) lo hi))]
  cases h : rowsOk l
  · rw [inRes_bad h]; rfl
  · rw [inRes_eq h, List.filter_filter]; simp
theorem in_len {l : List Row} (lo hi : ByteArray) : (inRes l lo hi).length ≤ 1000 := (in_ok lo hi).le
/-- how many of the first k rows lie in the range -/
def inCnt (l : List Row) (lo hi : ByteArray) (k : Nat) : Nat := ((l.take k).filter (inP lo hi)).length
theorem inCnt_zero (l : List Row) (lo hi : ByteArray) : inCnt l lo hi 0 = 0 := by simp [inCnt]
theorem inCnt_step {l : List Row} {lo hi : ByteArray} {k : Nat} {r : Row} (h : l[k]? = some r) : inCnt l lo hi (k + 1) = if inP lo hi r = true then inCnt l lo hi k + 1 else inCnt l lo hi k := by
  unfold inCnt
  obtain ⟨hk, rfl⟩ := List.getElem?_eq_some_iff.1 h
  rw [List.take_succ_eq_append_getElem hk, List.filter_append]
  split <;> rename_i hp <;> simp [hp]
theorem inCnt_at {l : List Row} {lo hi : ByteArray} {k : Nat} {r : Row} (hP : rowsOk l = true) (h : l[k]? = some r) (hp : inP lo hi r = true) : (inRes l lo hi)[inCnt l lo hi k]? = some r := by
  obtain ⟨hk, rfl⟩ := List.getElem?_eq_some_iff.1 h
  have e : l.filter (inP lo hi) = (l.take k).filter (inP lo hi) ++ (l[k] :: (l.drop (k + 1)).filter (inP lo hi)) := by
    conv => lhs; rw [← List.take_append_drop k l]
    rw [List.filter_append, List.drop_eq_getElem_cons hk, List.filter_cons, if_pos hp]
  rw [inRes_eq hP, e]
  unfold inCnt
  simp
theorem inCnt_all {l : List Row} {lo hi : ByteArray} (hP : rowsOk l = true) : inCnt l lo hi l.length = (inRes l lo hi).length := by
  unfold inRes inCnt
  rw [if_pos hP, List.take_of_length_le (Nat.le_refl _)]
theorem in_gt {l : List Row} {lo hi : ByteArray} (h : klt hi lo = true) : (inRes l lo hi).length = 0 := by
  unfold inRes
  split
  · rw [List.length_eq_zero_iff, List.filter_eq_nil_iff]
    intro r _
    cases h1 : klt r.1 lo
    · have := klt_of_not h h1
      simp [inP, this]
    · simp [inP, h1]
  · rfl
set_option maxHeartbeats 4000000 in
set_option maxRecDepth 100000 in
theorem lawFnRowsIn (A : Option Addr) (n c : Nat) (l : List UInt8) (w : World) (hr : Sl encB w w.heap.size A n l) (hn : n ≤ maxLen) (hc : n ≤ c) :
    Calls Try.prog 12 #[.slice A n c] w fun e w' => e = .returned (.bool true) ∧ Below w.heap.size w w' := by
  unfold maxLen at hn
  by_cases hbig : 1048576 < n
  · have hb : (1048576 : Int) < (n : Int) := by omega
    go_enter Try.func12, Try.ntmps12
    go_wp2
    go_ret
    exact ⟨rfl, Below.refl _ _⟩
  have hb : ¬ (1048576 : Int) < (n : Int) := by omega
  go_enter Try.func12, Try.ntmps12
  go_wp2_with fail
  refine (drawRowsIn A n c l w hr (by omega) hc).mono ?_
  rintro e w1 ⟨B, cb, lr, lo, hi, rfl, oL, hS, hlo3, hhi3, b1⟩
  have nL : lr.length ≤ 1000 := by have := hS.1; omega
  have kL := hS.wf
  clear hS hr hn hc hb hbig hlo3 hhi3
  have hX := in_ok (l := lr) lo hi
  have hXX := in_in (l := lr) lo hi
  have hG := in_gt (l := lr) (lo := lo) (hi := hi)
  have hA := fun h => inCnt_all (l := lr) (lo := lo) (hi := hi) h
  have hB : ∀ k r, rowsOk lr = true → lr[k]? = some r → inP lo hi r = true → (inRes lr lo hi)[inCnt lr lo hi k]? = some r := fun k r h1 h2 h3 => inCnt_at h1 h2 h3
  have hE : rowsOk lr = false → (inRes lr lo hi).length = 0 := fun h => by rw [inRes_bad h]; rfl
  generalize hx : inRes lr lo hi = x at *
  have HX := Lib.hid hx
  have kX := hX.kw
  have nX := hX.le
  have HOX := Lib.hid (rowsOk_true hX)
  have HXX := Lib.hid hXX
  have HG := Lib.hid hG
  have HA := Lib.hid hA
  have HB := Lib.hid hB
  have HE := Lib.hid hE
  clear hx hX hXX hG hA hB hE
  go_wp2_with fail
  refine (aIn oL kL nL HX.out).mono ?_
  rintro e w2 ⟨DX, cX, rfl, oX, hb2⟩
  have b2 := bel_trans b1 hb2
  replace oL := oL.on hb2
  go_wp2_with fail
  refine (sIn oL kL nL HX.out).mono ?_
  rintro e w3 ⟨DY, cY, rfl, oY, hb3⟩
  have b3 := bel_trans b2 hb3
  replace oL := oL.on hb3
  replace oX := oX.on hb3
  go_wp2_with fail
  refine (aEq oX oY nX (rowsEq_self x)).mono ?_
  rintro e w4 ⟨rfl, hb4⟩
  have b4 := bel_trans b3 hb4
  replace oL := oL.on hb4
  replace oX := oX.on hb4
  replace oY := oY.on hb4
  go_wp2_with fail
  refine (aOk oX kX nX HOX.out).mono ?_
  rintro e w5 ⟨rfl, hb5⟩
  have b5 := bel_trans b4 hb5
  replace oL := oL.on hb5
  replace oX := oX.on hb5
  replace oY := oY.on hb5
  cases hok : rowsOk lr
  · have HK := Lib.hid hok
    clear hok
    have hx0 := HE.out HK.out
    go_wp2_with fail
    refine (sOk oL kL nL HK.out).mono ?_
    rintro e w6 ⟨rfl, hb6⟩
    have b6 := bel_trans b5 hb6
    replace oL := oL.on hb6
    replace oX := oX.on hb6
    replace oY := oY.on hb6
    go_wp2
    go_ret
    exact ⟨rfl, b6⟩
  · have HK := Lib.hid hok
    clear hok
    go_wp2_with fail
    refine (sOk oL kL nL HK.out).mono ?_
    rintro e w6 ⟨rfl, hb6⟩
    have b6 := bel_trans b5 hb6
    replace oL := oL.on hb6
    replace oX := oX.on hb6
    replace oY := oY.on hb6
    go_wp2
    clear oY
    go_loopw [7, 8] (fun v7 v8 wr => ∃ k : Nat, k ≤ lr.length ∧ v8 = .int .i64 k ∧ v7 = .int .i64 (inCnt lr lo hi k : Nat) ∧ Below w6.heap.size w6 wr) (fun _ i _ => lr.length - (intOf i).toNat)
    case atStart => exact ⟨0, by omega, rfl, by rw [inCnt_zero]; rfl, Below.refl _ _⟩
    case round =>
      obtain ⟨k, hkn, rfl, rfl, hbel⟩ := hrel
      replace oL := oL.on hbel
      replace oX := oX.on hbel
      by_cases hlt : k < lr.length
      · obtain ⟨d, rfl⟩ := oL.zero hlt
        obtain ⟨⟨key, num⟩, hx⟩ : ∃ x, lr[k]? = some x := ⟨_, List.getElem?_eq_getElem hlt⟩
        obtain ⟨f1, f2, -, -⟩ := ownRow oL hx
        have hst := inCnt_step (lo := lo) (hi := hi) hx
        have hat := HB.out k _ HK.out hx
        have i0 : (0 : Int) ≤ (k : Int) := by omega
        have i1 : (k : Int) < (lr.length : Int) := by omega
        clear hx
        generalize inCnt lr lo hi k = j at *
        cases hlo : klt key lo
        · have l1 : Op.bytesLess key.toList lo.toList = false := hlo
          cases hhi : klt hi key
          · have hp : inP lo hi (key, num) = true := by simp [inP, hlo, hhi]
            have hxj := hat hp
            rw [if_pos hp] at hst
            have HST := Lib.hid hst
            obtain ⟨dx, rfl⟩ := oX.zero (List.getElem?_eq_some_iff.1 hxj).1
            have hjl := (List.getElem?_eq_some_iff.1 hxj).1
            obtain ⟨g1, g2, -, -⟩ := ownRow oX hxj
            have j0 : (0 : Int) ≤ (j : Int) := by omega
            have j1 : (j : Int) < (x.length : Int) := by omega
            have j2 : decide ((x.length : Int) ≤ (j : Int)) = false := by simp; omega
            have j3 : decide (x.length ≤ j) = false := by simp; omega
            have q1 := neq46 key key num num
            rw [show eqR (key, num) (key, num) = true from eqR_iff.2 rfl] at q1
            have q2 := guard46
            clear hst hxj hat
            rcases le_facts hhi with l2 | ⟨l2, l3⟩
            all_goals
              have l2' := l2
              unfold klt at l2'
              go_wp2_with fail
              go_quiet (fail)
              go_wp2
              go_roundw
              case rel => exact ⟨k + 1, by omega, by go_num, by rw [HST.out]; go_num, bel_drewN hbel _⟩
              case measure => simp [intOf]; omega
          · have hp : inP lo hi (key, num) = false := by simp [inP, hlo, hhi]
            rw [if_neg (by rw [hp]; simp)] at hst
            have HST := Lib.hid hst
            obtain ⟨l2, l3⟩ := gt_facts hhi
            unfold klt at l2
            clear hst hat
            go_wp2_with fail
            go_roundw
            case rel => exact ⟨k + 1, by omega, by go_num, by rw [HST.out], hbel⟩
            case measure => simp [intOf]; omega
        · have l1 : Op.bytesLess key.toList lo.toList = true := hlo
          have hp : inP lo hi (key, num) = false := by simp [inP, hlo]
          rw [if_neg (by rw [hp]; simp)] at hst
          have HST := Lib.hid hst
          clear hst hat
          go_wp2_with fail
          go_roundw
          case rel => exact ⟨k + 1, by omega, by go_num, by rw [HST.out], hbel⟩
          case measure => simp [intOf]; omega
      · obtain rfl : k = lr.length := by omega
        rw [HA.out HK.out]
        have b90 := bel_trans b6 hbel
        have hnn : ((x.length : Int) == (x.length : Int)) = true := by simp
        cases hhl : klt hi lo
        · rcases le_facts hhl with l2 | ⟨l2, l3⟩
          all_goals
            have l2' := l2
            unfold klt at l2'
            go_wp2_with fail
            refine (aIn oX kX nX HXX.out).mono ?_
            rintro e w91 ⟨DV, cV, rfl, oV, hb91⟩
            have b91 := bel_trans b90 hb91
            replace oX := oX.on hb91
            go_wp2_with fail
            refine (aEq oV oX nX (rowsEq_self x)).mono ?_
            rintro e w92 ⟨rfl, hb92⟩
            have b92 := bel_trans b91 hb92
            go_wp2
            go_ret
            exact ⟨rfl, b92⟩
        · obtain ⟨l2, l3⟩ := gt_facts hhl
          unfold klt at l2
          have hx0 : ((x.length : Int) == 0) = true := by rw [HG.out hhl]; rfl
          go_wp2_with fail
          refine (aIn oX kX nX HXX.out).mono ?_
          rintro e w91 ⟨DV, cV, rfl, oV, hb91⟩
          have b91 := bel_trans b90 hb91
          replace oX := oX.on hb91
          go_wp2_with fail
          refine (aEq oV oX nX (rowsEq_self x)).mono ?_
          rintro e w92 ⟨rfl, hb92⟩
          have b92 := bel_trans b91 hb92
          go_wp2
          go_ret
          exact ⟨rfl, b92⟩
end Go.Proofs.Ytndeehlndbdonaa
