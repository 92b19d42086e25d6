/- Contracts: RowsDiff of the reference; RowsDiff where a list is not right. -/
import Derived.Test.YtndeehlndbdonaaB7
namespace Go.Proofs.Ytndeehlndbdonaa
open Go.RowKit

set_option maxHeartbeats 1000000 in
theorem implRowsDiff (A B : Option Addr) (n c m d : Nat) (l p : List Row) (w : World) (hr : Sl encRow w w.heap.size A n l) (hk : KeysWf l) (hn : n ≤ 1048576) (hnc : n ≤ c)
    (hs : Sl encRow w w.heap.size B m p) (hkp : KeysWf p) (hm : m ≤ 1048576) (hmd : m ≤ d) :
    Calls Try.prog 34 #[.slice A n c, .slice B m d] w (DiffPost w (diffOut l p)) := by
  cases hP : rowsOk l
  · have HO := Lib.hid (diffOut_bad (p := p) (.inl hP))
    have HP := Lib.hid hP
    have HC := Lib.hid (implRowsOk A n c l w hr hk hn)
    clear hP hn hm
    go_enter Try.func34, Try.ntmps34
    go_wp2_with (go_at_call 26; refine HC.out.mono ?_; rintro e w1 ⟨rfl, hb1⟩; rw [HP.out])
    go_ret
    exact ⟨_, rfl, by rw [HO.out]; exact Own.nil _ _, hb1⟩
  · cases hQ : rowsOk p
    · have HO := Lib.hid (diffOut_bad (l := l) (.inr hQ))
      have HP := Lib.hid hP
      have HQ := Lib.hid hQ
      have HN := Lib.hid hn
      have HM := Lib.hid hm
      clear hP hQ hn hm
      go_enter Try.func34, Try.ntmps34
      go_wp2_with fail
      refine (implRowsOk A n c l _ hr hk HN.out).mono ?_
      rintro e w1 ⟨rfl, hb1⟩
      rw [HP.out]
      go_wp2_with fail
      refine (implRowsOk B m d p _ (hs.on hb1) hkp HM.out).mono ?_
      rintro e w2 ⟨rfl, hb2⟩
      rw [HQ.out]
      go_wp2
      go_ret
      exact ⟨_, rfl, by rw [HO.out]; exact Own.nil _ _, bel_trans hb1 hb2⟩
    · exact implDiffOk A B n c m d l p w hr hk hn hnc hs hkp hm hmd hP hQ

theorem made0 (w : World) (base : Nat) (h : base ≤ w.heap.size) : Own encS 1 9 (w.alloc (.cells #[] 9)) base (.slice (some ⟨w.heap.size, 0, none⟩) 0 0) ([] : List ByteArray) :=
  Own.made (l := ([] : List ByteArray)) w #[] h (by simp [maxLen]) encS_len rfl
theorem drop_at {l : List Row} {i : Nat} {r : Row} (h : l[i]? = some r) : (l.drop i)[0]? = some r := by rw [List.getElem?_drop]; simpa using h
theorem drop_drop1 (l : List Row) (i : Nat) : (l.drop i).drop 1 = l.drop (i + 1) := by rw [List.drop_drop]

set_option maxHeartbeats 4000000 in
set_option maxRecDepth 100000 in
theorem specDiffOk (A B : Option Addr) (n c m d : Nat) (l p : List Row) (w : World) (hr : Sl encRow w w.heap.size A n l) (hk : KeysWf l) (hn : n ≤ 1048576)
    (hs : Sl encRow w w.heap.size B m p) (hkp : KeysWf p) (hm : m ≤ 1048576) (hP : rowsOk l = true) (hQ : rowsOk p = true) :
    Calls Try.prog 33 #[.slice A n c, .slice B m d] w (DiffPost w (diffOut l p)) := by
  have hPP := rowsOk_iff.1 hP
  have hQQ := rowsOk_iff.1 hQ
  have HP := Lib.hid hP
  have HQ := Lib.hid hQ
  have HD := Lib.hid (diffOut_ok hP hQ)
  have HL := Lib.hid hr.len
  have HLP := Lib.hid hs.len
  have h10 : n ≤ 10 := by have := hPP.1; rw [hr.len] at this; exact this
  have h11 : m ≤ 10 := by have := hQQ.1; rw [hs.len] at this; exact this
  have HN := Lib.hid hn
  have HM := Lib.hid hm
  clear hP hQ hPP hQQ hn hm
  obtain ⟨i0, hi, hz0, hz1, hz2⟩ := info_parts info9
  go_enter Try.func33, Try.ntmps33
  go_wp2_with fail
  refine (specRowsOk A n c l _ (hr.on (bel_alloc (Below.refl _ _) _)) hk HN.out).mono ?_
  rintro e w1 ⟨rfl, hb1⟩
  rw [HP.out]
  have b1 := bel_trans (bel_alloc (Below.refl _ w) _) hb1
  go_wp2_with fail
  refine (specRowsOk B m d p _ (hs.on b1) hkp HM.out).mono ?_
  rintro e w2 ⟨rfl, hb2⟩
  rw [HQ.out]
  have b2 := bel_trans b1 hb2
  have HO := Lib.hid (((made0 w w.heap.size (Nat.le_refl _)).on hb1).on hb2)
  go_wp2
  go_loopw [5, 6, 7] (fun z x y wr => ∃ (i k : Nat) (o : List ByteArray), i ≤ n ∧ k ≤ m ∧ x = .int .i64 i ∧ y = .int .i64 k ∧
      Own encS 1 9 wr w.heap.size z o ∧ o.length + (n - i) + (m - k) ≤ 20 ∧ Hid (o ++ dif ((n - i) + (m - k)) (l.drop i) (p.drop k) = diffOut l p) ∧ Below w.heap.size w wr) (fun _ x y _ => (n - (intOf x).toNat) + (m - (intOf y).toNat))
  case atStart =>
    exact ⟨0, 0, [], by omega, by omega, rfl, rfl, HO.out, by simp; omega, (by rw [HD.out, HL.out, HLP.out]; rfl : ([] : List ByteArray) ++ dif ((n - 0) + (m - 0)) (l.drop 0) (p.drop 0) = diffOut l p), b2⟩
  case round =>
    clear HD hk hkp HP HQ HN HM hb1 hb2 b2 b1 HO
    obtain ⟨i, k, o, hin, hkm, rfl, rfl, hown, ho, hd, hbel⟩ := hrel
    by_cases hb0 : k < m
    · obtain ⟨b2, off2, rfl, hbb2⟩ := hs.spot (by omega)
      obtain ⟨key2, num2, hrow2, hk3, hk4⟩ := rowAt (hs.keep hbel) hb0
      have HR2 := Lib.hid (drop_at hrow2)
      clear hrow2
      have j2 : (k : Int) < (m : Int) := by omega
      by_cases ha0 : i < n
      · obtain ⟨b, off, rfl, hbb⟩ := hr.spot (by omega)
        obtain ⟨key, num, hrow, hk1, hk2⟩ := rowAt (hr.keep hbel) ha0
        have HR := Lib.hid (drop_at hrow)
        clear hrow
        have j1 : (i : Int) < (n : Int) := by omega
        have t1 : decide ((i : Int) < (n : Int)) = true := by simp; omega
        have t1' : decide (i < n) = true := by simp; omega
        have t2 : decide ((k : Int) < (m : Int)) = true := by simp; omega
        have t2' : decide (k < m) = true := by simp; omega
        have t3 : decide ((m : Int) ≤ (k : Int)) = false := by simp; omega
        have t3' : decide (m ≤ k) = false := by simp; omega
        have t4 : decide ((n : Int) ≤ (i : Int)) = false := by simp; omega
        have t4' : decide (n ≤ i) = false := by simp; omega
        cases hlt : klt key key2
        · have hlt' : Op.bytesLess key.toList key2.toList = false := hlt
          have HLT := Lib.hid hlt
          clear hlt
          cases hgt : klt key2 key
          · have hgt' : Op.bytesLess key2.toList key.toList = false := hgt
            have HGT := Lib.hid hgt
            clear hgt
            cases hne : (num != num2)
            · have hd2 : o ++ dif ((n - (i + 1)) + (m - (k + 1))) (l.drop (i + 1)) (p.drop (k + 1)) = diffOut l p := by
                have hd' := hd.out
                rw [show (n - i) + (m - k) = ((n - (i + 1)) + (m - (k + 1)) + 1) + 1 by omega, dif_eq HR.out HR2.out HLT.out HGT.out hne, drop_drop1, drop_drop1] at hd'
                rw [dif_fuel (by rw [List.length_drop, List.length_drop, HL.out, HLP.out]; omega) (show (n - (i + 1)) + (m - (k + 1)) ≤ (n - (i + 1)) + (m - (k + 1)) + 1 by omega)]
                exact hd'
              have HD2 := Lib.hid hd2
              clear hd2 hd
              go_wp2_with fail
              go_quiet (fail)
              go_wp2_with fail
              go_quiet (fail)
              go_wp2_with fail
              go_quiet (fail)
              go_wp2
              go_roundw
              case rel => exact ⟨i + 1, k + 1, o, by omega, by omega, by go_num, by go_num, hown, (by first | omega | (simp; omega)), HD2.out, (by repeat (first | exact hbel | refine bel_drewN ?_ _))⟩
              case measure => simp [intOf]; omega
            · have hd2 : (o ++ [key]) ++ dif ((n - (i + 1)) + (m - (k + 1))) (l.drop (i + 1)) (p.drop (k + 1)) = diffOut l p := by
                have hd' := hd.out
                rw [show (n - i) + (m - k) = ((n - (i + 1)) + (m - (k + 1)) + 1) + 1 by omega, dif_ne HR.out HR2.out HLT.out HGT.out hne, drop_drop1, drop_drop1] at hd'
                rw [dif_fuel (by rw [List.length_drop, List.length_drop, HL.out, HLP.out]; omega) (show (n - (i + 1)) + (m - (k + 1)) ≤ (n - (i + 1)) + (m - (k + 1)) + 1 by omega), List.append_assoc]
                exact hd'
              have HD2 := Lib.hid hd2
              clear hd2 hd
              go_wp2_with fail
              go_quiet (fail)
              go_wp2_with fail
              go_quiet (fail)
              go_wp2_with fail
              go_quiet (fail)
              have hownD : ∀ q : Nat, (wr.drewN q).ownsRow w.heap.size 9 1 _ o.length (cellsOf encS o) := fun _ => hown
              clear hown
              go_wp2_with (at_builtin; refine wpList_append_own _ rfl _ _ 37 rfl w.heap.size 9 i0 (.string ByteArray.empty) 1 16 Try.underlying37 hi hz0 hz1 hz2 rfl (by decide) _ o.length (cellsOf encS o) rfl ((hownD _).alloc _) ⟨wr.heap.size, 0, none⟩ 1 1 [.string key] rfl rfl (cell_one_new _ _ _) ?c2 ?c3 ?c4 ?c5 ?_)
              case c2 => intro u hu; simp at hu; subst hu; rfl
              case c3 => unfold maxLen; omega
              case c4 => omega
              case c5 => have := hbel.size; simp; omega
              intro v2 w3 hown3 hg3 _
              have ho3 : Own encS 1 9 w3 w.heap.size v2 (o ++ [key]) := own_snoc hown3
              have hb3 : Below w.heap.size w w3 := bel_grown (bel_alloc (bel_drewN hbel _) _) hg3 (fun q hq => ((hownD 0).lt q hq).1)
              clear hown3 hg3 hownD
              go_wp2
              go_roundw
              case rel => exact ⟨i + 1, k + 1, o ++ [key], by omega, by omega, by go_num, by go_num, ho3, (by first | omega | (simp; omega)), HD2.out, hb3⟩
              case measure => simp [intOf]; omega
          · have hgt' : Op.bytesLess key2.toList key.toList = true := hgt
            have HGT := Lib.hid hgt
            clear hgt
            have hd2 : (o ++ [key2]) ++ dif ((n - i) + (m - (k + 1))) (l.drop i) (p.drop (k + 1)) = diffOut l p := by
              have hd' := hd.out
              rw [show (n - i) + (m - k) = ((n - i) + (m - (k + 1))) + 1 by omega, dif_gt HR.out HR2.out HLT.out HGT.out, drop_drop1] at hd'
              rw [List.append_assoc]; exact hd'
            have HD2 := Lib.hid hd2
            clear hd2 hd
            go_wp2_with fail
            go_quiet (fail)
            go_wp2_with fail
            go_quiet (fail)
            have hownD : ∀ q : Nat, (wr.drewN q).ownsRow w.heap.size 9 1 _ o.length (cellsOf encS o) := fun _ => hown
            clear hown
            go_wp2_with (at_builtin; refine wpList_append_own _ rfl _ _ 37 rfl w.heap.size 9 i0 (.string ByteArray.empty) 1 16 Try.underlying37 hi hz0 hz1 hz2 rfl (by decide) _ o.length (cellsOf encS o) rfl ((hownD _).alloc _) ⟨wr.heap.size, 0, none⟩ 1 1 [.string key2] rfl rfl (cell_one_new _ _ _) ?c2 ?c3 ?c4 ?c5 ?_)
            case c2 => intro u hu; simp at hu; subst hu; rfl
            case c3 => unfold maxLen; omega
            case c4 => omega
            case c5 => have := hbel.size; simp; omega
            intro v2 w3 hown3 hg3 _
            have ho3 : Own encS 1 9 w3 w.heap.size v2 (o ++ [key2]) := own_snoc hown3
            have hb3 : Below w.heap.size w w3 := bel_grown (bel_alloc (bel_drewN hbel _) _) hg3 (fun q hq => ((hownD 0).lt q hq).1)
            clear hown3 hg3 hownD
            go_wp2
            go_roundw
            case rel => exact ⟨i, k + 1, o ++ [key2], by omega, by omega, by go_num, by go_num, ho3, (by first | omega | (simp; omega)), HD2.out, hb3⟩
            case measure => simp [intOf]; omega
        · have hlt' : Op.bytesLess key.toList key2.toList = true := hlt
          have HLT := Lib.hid hlt
          clear hlt
          have hd2 : (o ++ [key]) ++ dif ((n - (i + 1)) + (m - k)) (l.drop (i + 1)) (p.drop k) = diffOut l p := by
            have hd' := hd.out
            rw [show (n - i) + (m - k) = ((n - (i + 1)) + (m - k)) + 1 by omega, dif_lt HR.out HR2.out HLT.out, drop_drop1] at hd'
            rw [List.append_assoc]; exact hd'
          have HD2 := Lib.hid hd2
          clear hd2 hd
          go_wp2_with fail
          go_quiet (fail)
          have hownD : ∀ q : Nat, (wr.drewN q).ownsRow w.heap.size 9 1 _ o.length (cellsOf encS o) := fun _ => hown
          clear hown
          go_wp2_with (at_builtin; refine wpList_append_own _ rfl _ _ 37 rfl w.heap.size 9 i0 (.string ByteArray.empty) 1 16 Try.underlying37 hi hz0 hz1 hz2 rfl (by decide) _ o.length (cellsOf encS o) rfl ((hownD _).alloc _) ⟨wr.heap.size, 0, none⟩ 1 1 [.string key] rfl rfl (cell_one_new _ _ _) ?c2 ?c3 ?c4 ?c5 ?_)
          case c2 => intro u hu; simp at hu; subst hu; rfl
          case c3 => unfold maxLen; omega
          case c4 => omega
          case c5 => have := hbel.size; simp; omega
          intro v2 w3 hown3 hg3 _
          have ho3 : Own encS 1 9 w3 w.heap.size v2 (o ++ [key]) := own_snoc hown3
          have hb3 : Below w.heap.size w w3 := bel_grown (bel_alloc (bel_drewN hbel _) _) hg3 (fun q hq => ((hownD 0).lt q hq).1)
          clear hown3 hg3 hownD
          go_wp2
          go_roundw
          case rel => exact ⟨i + 1, k, o ++ [key], by omega, by omega, by go_num, by go_num, ho3, (by first | omega | (simp; omega)), HD2.out, hb3⟩
          case measure => simp [intOf]; omega
      · have hd2 : (o ++ [key2]) ++ dif ((n - i) + (m - (k + 1))) (l.drop i) (p.drop (k + 1)) = diffOut l p := by
          have hd' := hd.out
          have hz : l.drop i = [] := List.drop_of_length_le (by rw [HL.out]; omega)
          rw [hz, show (n - i) + (m - k) = ((n - i) + (m - (k + 1))) + 1 by omega, dif_b HR2.out, drop_drop1] at hd'
          rw [hz, List.append_assoc]; exact hd'
        have HD2 := Lib.hid hd2
        clear hd2 hd
        have t1 : decide ((i : Int) < (n : Int)) = false := by simp; omega
        have t1' : decide (i < n) = false := by simp; omega
        have t2 : decide ((k : Int) < (m : Int)) = true := by simp; omega
        have t2' : decide (k < m) = true := by simp; omega
        have t3 : decide ((m : Int) ≤ (k : Int)) = false := by simp; omega
        have t3' : decide (m ≤ k) = false := by simp; omega
        have t4 : decide ((n : Int) ≤ (i : Int)) = true := by simp; omega
        have t4' : decide (n ≤ i) = true := by simp; omega
        go_wp2_with fail
        go_quiet (fail)
        go_wp2_with fail
        go_quiet (fail)
        have hownD : ∀ q : Nat, (wr.drewN q).ownsRow w.heap.size 9 1 _ o.length (cellsOf encS o) := fun _ => hown
        clear hown
        go_wp2_with (at_builtin; refine wpList_append_own _ rfl _ _ 37 rfl w.heap.size 9 i0 (.string ByteArray.empty) 1 16 Try.underlying37 hi hz0 hz1 hz2 rfl (by decide) _ o.length (cellsOf encS o) rfl ((hownD _).alloc _) ⟨wr.heap.size, 0, none⟩ 1 1 [.string key2] rfl rfl (cell_one_new _ _ _) ?c2 ?c3 ?c4 ?c5 ?_)
        case c2 => intro u hu; simp at hu; subst hu; rfl
        case c3 => unfold maxLen; omega
        case c4 => omega
        case c5 => have := hbel.size; simp; omega
        intro v2 w3 hown3 hg3 _
        have ho3 : Own encS 1 9 w3 w.heap.size v2 (o ++ [key2]) := own_snoc hown3
        have hb3 : Below w.heap.size w w3 := bel_grown (bel_alloc (bel_drewN hbel _) _) hg3 (fun q hq => ((hownD 0).lt q hq).1)
        clear hown3 hg3 hownD
        go_wp2
        go_roundw
        case rel => exact ⟨i, k + 1, o ++ [key2], by omega, by omega, by go_num, by go_num, ho3, (by first | omega | (simp; omega)), HD2.out, hb3⟩
        case measure => simp [intOf]; omega
    · by_cases ha0 : i < n
      · obtain ⟨b, off, rfl, hbb⟩ := hr.spot (by omega)
        obtain ⟨key, num, hrow, hk1, hk2⟩ := rowAt (hr.keep hbel) ha0
        have HR := Lib.hid (drop_at hrow)
        clear hrow
        have j1 : (i : Int) < (n : Int) := by omega
        have hd2 : (o ++ [key]) ++ dif ((n - (i + 1)) + (m - k)) (l.drop (i + 1)) (p.drop k) = diffOut l p := by
          have hd' := hd.out
          have hz : p.drop k = [] := List.drop_of_length_le (by rw [HLP.out]; omega)
          rw [hz, show (n - i) + (m - k) = ((n - (i + 1)) + (m - k)) + 1 by omega, dif_a HR.out, drop_drop1] at hd'
          rw [hz, List.append_assoc]; exact hd'
        have HD2 := Lib.hid hd2
        clear hd2 hd
        have t1 : decide ((i : Int) < (n : Int)) = true := by simp; omega
        have t1' : decide (i < n) = true := by simp; omega
        have t2 : decide ((k : Int) < (m : Int)) = false := by simp; omega
        have t2' : decide (k < m) = false := by simp; omega
        have t3 : decide ((m : Int) ≤ (k : Int)) = true := by simp; omega
        have t3' : decide (m ≤ k) = true := by simp; omega
        have t4 : decide ((n : Int) ≤ (i : Int)) = false := by simp; omega
        have t4' : decide (n ≤ i) = false := by simp; omega
        go_wp2_with fail
        go_quiet (fail)
        have hownD : ∀ q : Nat, (wr.drewN q).ownsRow w.heap.size 9 1 _ o.length (cellsOf encS o) := fun _ => hown
        clear hown
        go_wp2_with (at_builtin; refine wpList_append_own _ rfl _ _ 37 rfl w.heap.size 9 i0 (.string ByteArray.empty) 1 16 Try.underlying37 hi hz0 hz1 hz2 rfl (by decide) _ o.length (cellsOf encS o) rfl ((hownD _).alloc _) ⟨wr.heap.size, 0, none⟩ 1 1 [.string key] rfl rfl (cell_one_new _ _ _) ?c2 ?c3 ?c4 ?c5 ?_)
        case c2 => intro u hu; simp at hu; subst hu; rfl
        case c3 => unfold maxLen; omega
        case c4 => omega
        case c5 => have := hbel.size; simp; omega
        intro v2 w3 hown3 hg3 _
        have ho3 : Own encS 1 9 w3 w.heap.size v2 (o ++ [key]) := own_snoc hown3
        have hb3 : Below w.heap.size w w3 := bel_grown (bel_alloc (bel_drewN hbel _) _) hg3 (fun q hq => ((hownD 0).lt q hq).1)
        clear hown3 hg3 hownD
        go_wp2
        go_roundw
        case rel => exact ⟨i + 1, k, o ++ [key], by omega, by omega, by go_num, by go_num, ho3, (by first | omega | (simp; omega)), HD2.out, hb3⟩
        case measure => simp [intOf]; omega
      · have hfin : o = diffOut l p := by
          have := hd.out
          rw [List.drop_of_length_le (by rw [HL.out]; omega), List.drop_of_length_le (by rw [HLP.out]; omega), dif_nil, List.append_nil] at this
          exact this
        have HF := Lib.hid hfin
        have t1 : decide ((i : Int) < (n : Int)) = false := by simp; omega
        have t1' : decide (i < n) = false := by simp; omega
        have t2 : decide ((k : Int) < (m : Int)) = false := by simp; omega
        have t2' : decide (k < m) = false := by simp; omega
        have t3 : decide ((m : Int) ≤ (k : Int)) = true := by simp; omega
        have t3' : decide (m ≤ k) = true := by simp; omega
        have t4 : decide ((n : Int) ≤ (i : Int)) = true := by simp; omega
        have t4' : decide (n ≤ i) = true := by simp; omega
        clear hfin ha0 hb0
        go_wp2
        go_ret
        exact ⟨_, rfl, by rw [← HF.out]; exact hown, hbel⟩

set_option maxHeartbeats 1000000 in
theorem specRowsDiff (A B : Option Addr) (n c m d : Nat) (l p : List Row) (w : World) (hr : Sl encRow w w.heap.size A n l) (hk : KeysWf l) (hn : n ≤ 1048576)
    (hs : Sl encRow w w.heap.size B m p) (hkp : KeysWf p) (hm : m ≤ 1048576) :
    Calls Try.prog 33 #[.slice A n c, .slice B m d] w (DiffPost w (diffOut l p)) := by
  cases hP : rowsOk l
  · have HO := Lib.hid (diffOut_bad (p := p) (.inl hP))
    have HP := Lib.hid hP
    have HN := Lib.hid hn
    clear hP hn hm
    go_enter Try.func33, Try.ntmps33
    go_wp2_with fail
    refine (specRowsOk A n c l _ (hr.on (bel_alloc (Below.refl _ _) _)) hk HN.out).mono ?_
    rintro e w1 ⟨rfl, hb1⟩
    rw [HP.out]
    go_wp2
    go_ret
    exact ⟨_, rfl, by rw [HO.out]; exact (made0 w w.heap.size (Nat.le_refl _)).on hb1, bel_trans (bel_alloc (Below.refl _ w) _) hb1⟩
  · cases hQ : rowsOk p
    · have HO := Lib.hid (diffOut_bad (l := l) (.inr hQ))
      have HP := Lib.hid hP
      have HQ := Lib.hid hQ
      have HN := Lib.hid hn
      have HM := Lib.hid hm
      clear hP hQ hn hm
      go_enter Try.func33, Try.ntmps33
      go_wp2_with fail
      refine (specRowsOk A n c l _ (hr.on (bel_alloc (Below.refl _ _) _)) hk HN.out).mono ?_
      rintro e w1 ⟨rfl, hb1⟩
      rw [HP.out]
      have b1 := bel_trans (bel_alloc (Below.refl _ w) _) hb1
      go_wp2_with fail
      refine (specRowsOk B m d p _ (hs.on b1) hkp HM.out).mono ?_
      rintro e w2 ⟨rfl, hb2⟩
      rw [HQ.out]
      go_wp2
      go_ret
      exact ⟨_, rfl, by rw [HO.out]; exact ((made0 w w.heap.size (Nat.le_refl _)).on hb1).on hb2, bel_trans b1 hb2⟩
    · exact specDiffOk A B n c m d l p w hr hk hn hs hkp hm hP hQ
end Go.Proofs.Ytndeehlndbdonaa
