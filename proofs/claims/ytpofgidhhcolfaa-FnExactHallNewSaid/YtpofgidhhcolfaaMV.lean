/- Contracts: the marks that the laws write into rows of Ver and read again. -/
import Derived.Test.YtpofgidhhcolfaaV1
import Derived.Test.YtpofgidhhcolfaaM0
namespace Go.Proofs.Ytpofgidhhcolfaa
open Go.RowKit

def markVer (k j : Nat) : Ver := (mk (k + 4 * j + 0), ((k : Int) + 4 * (j : Int) + 1), ((k : Int) + 4 * (j : Int) + 1 + 1), ((k : Int) + 4 * (j : Int) + 1 + 1 + 1))
def marksVer (k n : Nat) : List Ver := (List.range n).map (markVer k)
def mkdVer (l : List Ver) (k i : Nat) : List Ver := (List.range i).map (markVer k) ++ l.drop i
theorem marksVer_len (k n : Nat) : (marksVer k n).length = n := by simp [marksVer]
theorem marksVer_at {k n i : Nat} (h : i < n) : (marksVer k n)[i]? = some (markVer k i) := by simp [marksVer, h]
theorem mkdVer_at (l : List Ver) (k i : Nat) {r : Ver} (h : l[i]? = some r) : (mkdVer l k i)[i]? = some r := by
  unfold mkdVer
  rw [List.getElem?_append_right (by simp)]
  simp [h]
theorem mkdVer_set (l : List Ver) (k i : Nat) {r : Ver} (h : l[i]? = some r) : (mkdVer l k i).set i (markVer k i) = mkdVer l k (i + 1) := by
  have hi := (List.getElem?_eq_some_iff.1 h).1
  unfold mkdVer
  rw [List.set_append_right _ _ (by simp), List.range_succ, List.map_append, List.length_map, List.length_range, Nat.sub_self, List.drop_eq_getElem_cons hi, List.set_cons_zero, List.append_assoc]
  rfl
theorem mkdVer_all (l : List Ver) (k n : Nat) (h : l.length = n) : mkdVer l k n = marksVer k n := by
  unfold mkdVer marksVer
  rw [List.drop_of_length_le (by omega), List.append_nil]
theorem mkdVer_zero (l : List Ver) (k : Nat) : mkdVer l k 0 = l := by simp [mkdVer]
def MarkVerPost (w : World) (base : Nat) (A : Option Addr) (n c k : Nat) (e : Ending) (w' : World) : Prop :=
  e = .returned (.int .i64 ((k + 4 * n : Nat) : Int)) ∧ Own encVer 4 77 w' base (.slice A n c) (marksVer k n) ∧ Turn A w w'
set_option maxHeartbeats 2000000 in
set_option maxRecDepth 100000 in
theorem markVerS (A : Option Addr) (n c k base : Nat) (l : List Ver) (w : World) (hr : Own encVer 4 77 w base (.slice A n c) l) (hn : n ≤ 2097152) (hk0 : 0 < k) (hk : k ≤ 10000000) :
    Calls Try.prog 95 #[.slice A n c, .int .i64 k] w (MarkVerPost w base A n c k) := by
  have HL := Lib.hid hr.len
  have HR := Lib.hid hr
  clear hr
  by_cases h0 : n = 0
  · subst h0
    go_enter Try.func95, Try.ntmps95
    go_wp2
    go_loopw [1, 5] (fun q i wr => q = .int .i64 k ∧ i = .int .i64 0 ∧ w = wr) (fun _ _ _ => 0)
    case atStart => exact ⟨rfl, rfl, rfl⟩
    case round =>
      obtain ⟨rfl, rfl, rfl⟩ := hrel
      go_wp2
      go_ret
      refine ⟨retInt (by simp), ?_, Turn.refl _ _⟩
      have h1 := HR.out
      rw [List.eq_nil_of_length_eq_zero HL.out] at h1
      exact h1
  · obtain ⟨g, rfl, hg1, hg2⟩ := HR.out.spot (by omega)
    go_enter Try.func95, Try.ntmps95
    go_wp2
    go_loopw [1, 5] (fun q i wr => ∃ j : Nat, j ≤ n ∧ q = .int .i64 ((k : Int) + 4 * j) ∧ i = .int .i64 j ∧ Own encVer 4 77 wr base (.slice (some ⟨g, 0, none⟩) n c) (mkdVer l k j) ∧ Turn (some ⟨g, 0, none⟩) w wr) (fun _ i _ => n - (intOf i).toNat)
    case atStart => exact ⟨0, by omega, by simp, rfl, by rw [mkdVer_zero]; exact HR.out, Turn.refl _ _⟩
    case round =>
      obtain ⟨j, hj, rfl, rfl, hown, ht⟩ := hrel
      by_cases hlt : j < n
      · have hl0 : j < l.length := by rw [HL.out]; exact hlt
        obtain ⟨r, hr0⟩ : ∃ r, l[j]? = some r := ⟨l[j], List.getElem?_eq_getElem hl0⟩
        have i0 : (0 : Int) ≤ (j : Int) := by omega
        have i1 : (j : Int) < (n : Int) := by omega
        have H0 := Lib.hid (mkdVer_at l k j hr0)
        have HS := Lib.hid (mkdVer_set l k j hr0)
        have HJ := Lib.hid (List.getElem?_eq_some_iff.1 (mkdVer_at l k j hr0)).1
        clear hr0
        obtain ⟨r0, r1, r2, r3⟩ := r
        have C0 : Hid (∀ W, Calls Try.prog 81 #[.int .i64 ((k : Int) + 4 * (j : Int))] W fun e w' => e = .returned (.string (mk (k + 4 * j + 0))) ∧ Below W.heap.size W w') := by
          refine Lib.hid fun W => ?_
          rw [show ((k : Int) + 4 * (j : Int)) = ((k + 4 * j + 0 : Nat) : Int) by omega]
          exact markText (k + 4 * j + 0) W (by omega) (by omega)
        obtain ⟨c_0, c_1, c_2, c_3, c_4, c_5, c_6, c_7⟩ := ownVer hown (show _ = some (r0, r1, r2, r3) from H0.out)
        go_wp2_with fail
        refine (C0.out _).mono ?_
        rintro e w1 ⟨rfl, hb1⟩
        have hq0 := hown.on hb1
        have htq0 := ht.below hb1
        clear c_0 c_1 c_2 c_3 c_4 c_5 c_6 c_7
        obtain ⟨c_0, c_1, c_2, c_3, c_4, c_5, c_6, c_7⟩ := ownVer hq0 (show _ = some (r0, r1, r2, r3) from H0.out)
        have ho0 := hq0.set1 encVer_len j 0 (r0, r1, r2, r3) (mk (k + 4 * j + 0), r1, r2, r3) (.string (mk (k + 4 * j + 0))) H0.out (by omega) rfl
        simp only [Nat.add_zero] at ho0
        have x0 : (((mkdVer l k j).set j (mk (k + 4 * j + 0), r1, r2, r3))[j]? : Option Ver) = some (mk (k + 4 * j + 0), r1, r2, r3) := by rw [List.getElem?_set, if_pos rfl, if_pos HJ.out]
        have X0 := Lib.hid x0
        clear x0
        have ht0 := htq0.set (j * 4) (.string (mk (k + 4 * j + 0)))
        have ho1 := ho0.set1 encVer_len j 1 (mk (k + 4 * j + 0), r1, r2, r3) (mk (k + 4 * j + 0), ((k : Int) + 4 * (j : Int) + 1), r2, r3) (.int .i64 (((k : Int) + 4 * (j : Int) + 1))) X0.out (by omega) rfl
        rw [List.set_set] at ho1
        have x1 : (((mkdVer l k j).set j (mk (k + 4 * j + 0), ((k : Int) + 4 * (j : Int) + 1), r2, r3))[j]? : Option Ver) = some (mk (k + 4 * j + 0), ((k : Int) + 4 * (j : Int) + 1), r2, r3) := by rw [List.getElem?_set, if_pos rfl, if_pos HJ.out]
        have X1 := Lib.hid x1
        clear x1
        have ht1 := ht0.set (j * 4 + 1) (.int .i64 (((k : Int) + 4 * (j : Int) + 1)))
        have ho2 := ho1.set1 encVer_len j 2 (mk (k + 4 * j + 0), ((k : Int) + 4 * (j : Int) + 1), r2, r3) (mk (k + 4 * j + 0), ((k : Int) + 4 * (j : Int) + 1), ((k : Int) + 4 * (j : Int) + 1 + 1), r3) (.int .i64 (((k : Int) + 4 * (j : Int) + 1 + 1))) X1.out (by omega) rfl
        rw [List.set_set] at ho2
        have x2 : (((mkdVer l k j).set j (mk (k + 4 * j + 0), ((k : Int) + 4 * (j : Int) + 1), ((k : Int) + 4 * (j : Int) + 1 + 1), r3))[j]? : Option Ver) = some (mk (k + 4 * j + 0), ((k : Int) + 4 * (j : Int) + 1), ((k : Int) + 4 * (j : Int) + 1 + 1), r3) := by rw [List.getElem?_set, if_pos rfl, if_pos HJ.out]
        have X2 := Lib.hid x2
        clear x2
        have ht2 := ht1.set (j * 4 + 2) (.int .i64 (((k : Int) + 4 * (j : Int) + 1 + 1)))
        have ho3 := ho2.set1 encVer_len j 3 (mk (k + 4 * j + 0), ((k : Int) + 4 * (j : Int) + 1), ((k : Int) + 4 * (j : Int) + 1 + 1), r3) (mk (k + 4 * j + 0), ((k : Int) + 4 * (j : Int) + 1), ((k : Int) + 4 * (j : Int) + 1 + 1), ((k : Int) + 4 * (j : Int) + 1 + 1 + 1)) (.int .i64 (((k : Int) + 4 * (j : Int) + 1 + 1 + 1))) X2.out (by omega) rfl
        rw [List.set_set] at ho3
        have x3 : (((mkdVer l k j).set j (mk (k + 4 * j + 0), ((k : Int) + 4 * (j : Int) + 1), ((k : Int) + 4 * (j : Int) + 1 + 1), ((k : Int) + 4 * (j : Int) + 1 + 1 + 1)))[j]? : Option Ver) = some (mk (k + 4 * j + 0), ((k : Int) + 4 * (j : Int) + 1), ((k : Int) + 4 * (j : Int) + 1 + 1), ((k : Int) + 4 * (j : Int) + 1 + 1 + 1)) := by rw [List.getElem?_set, if_pos rfl, if_pos HJ.out]
        have X3 := Lib.hid x3
        clear x3
        have ht3 := ht2.set (j * 4 + 3) (.int .i64 (((k : Int) + 4 * (j : Int) + 1 + 1 + 1)))
        rw [show ((mkdVer l k j).set j (mk (k + 4 * j + 0), ((k : Int) + 4 * (j : Int) + 1), ((k : Int) + 4 * (j : Int) + 1 + 1), ((k : Int) + 4 * (j : Int) + 1 + 1 + 1))) = mkdVer l k (j + 1) from HS.out] at ho3
        have HO := Lib.hid ho3
        have HT := Lib.hid ht3
        clear ho3 ht3
        go_wp2
        go_roundw
        case rel =>
          refine ⟨j + 1, by omega, ?_, by go_num, ?_, ?_⟩
          · rw [show (k : Int) + 4 * ((j + 1 : Nat) : Int) = (k : Int) + 4 * (j : Int) + 1 + 1 + 1 + 1 by omega]
          · first | exact HO.out | simpa using HO.out
          · first | exact HT.out | simpa using HT.out
        case measure => simp [intOf]; omega
      · obtain rfl : j = n := by omega
        have ho := hown
        rw [mkdVer_all l k j HL.out] at ho
        go_wp2
        go_ret
        exact ⟨retInt (by omega), ho, ht⟩
set_option maxHeartbeats 2000000 in
theorem heldVerS (A : Option Addr) (n c k : Nat) (w : World) (hr : Sl encVer w w.heap.size A n (marksVer k n)) (hn : n ≤ 2097152) (hk0 : 0 < k) (hk : k ≤ 10000000) :
    Calls Try.prog 99 #[.slice A n c, .int .i64 k] w fun e w' => e = .returned (.int .i64 ((k + 4 * n : Nat) : Int)) ∧ Below w.heap.size w w' := by
  go_enter Try.func99, Try.ntmps99
  go_wp2
  go_loopw [1, 5] (fun q i wr => ∃ j : Nat, j ≤ n ∧ q = .int .i64 ((k : Int) + 4 * j) ∧ i = .int .i64 j ∧ Below w.heap.size w wr) (fun _ i _ => n - (intOf i).toNat)
  case atStart => exact ⟨0, by omega, by simp, rfl, Below.refl _ _⟩
  case round =>
    obtain ⟨j, hj, rfl, rfl, hbel⟩ := hrel
    by_cases hlt : j < n
    · obtain ⟨b, off, rfl, hb⟩ := hr.spot (by omega)
      obtain ⟨f0, f1, f2, f3, hrow, hc0, hc1, hc2, hc3⟩ := atVer (hr.keep hbel) hlt
      rw [marksVer_at hlt] at hrow
      simp only [markVer, Option.some.injEq, Prod.mk.injEq] at hrow
      obtain ⟨rfl, rfl, rfl, rfl⟩ := hrow
      have i0 : (0 : Int) ≤ (j : Int) := by omega
      have i1 : (j : Int) < (n : Int) := by omega
      have hbb : b < wr.heap.size := World.block_lt_of_cell? wr _ hc0
      have C0 : Hid (∀ W, Calls Try.prog 81 #[.int .i64 ((k : Int) + 4 * j)] W fun e w' => e = .returned (.string (mk (k + 4 * j + 0))) ∧ Below W.heap.size W w') := by
        intro W
        rw [show ((k : Int) + 4 * (j : Int)) = ((k + 4 * j + 0 : Nat) : Int) by omega]
        exact markText (k + 4 * j + 0) W (by omega) (by omega)
      go_wp2_with fail
      go_region_held3 (fun w' => w'.cell? ⟨b, off + j * 4, none⟩ = some (.string (mk (k + 4 * j + 0))) ∧ w'.cell? ⟨b, off + j * 4 + 1, none⟩ = some (.int .i64 (((k : Int) + 4 * (j : Int) + 1))) ∧ w'.cell? ⟨b, off + j * 4 + 2, none⟩ = some (.int .i64 (((k : Int) + 4 * (j : Int) + 1 + 1))) ∧ w'.cell? ⟨b, off + j * 4 + 3, none⟩ = some (.int .i64 (((k : Int) + 4 * (j : Int) + 1 + 1 + 1))) ∧ Below wr.heap.size wr w')
        (first | exact ⟨hc0, hc1, hc2, hc3, (Below.refl _ _).drew⟩ | exact ⟨kc0_0, kc0_1, kc0_2, kc0_3, kb0⟩)
        (first | (go_at_call 81; refine (C0.out _).mono ?_; rintro e w10 ⟨rfl, hw0⟩; have kb0 := bel_trans ((Below.refl _ wr).drew) hw0; have kc0_0 := (kb0.cell (p := ⟨b, off + j * 4, none⟩) hbb).trans hc0; have kc0_1 := (kb0.cell (p := ⟨b, off + j * 4 + 1, none⟩) hbb).trans hc1; have kc0_2 := (kb0.cell (p := ⟨b, off + j * 4 + 2, none⟩) hbb).trans hc2; have kc0_3 := (kb0.cell (p := ⟨b, off + j * 4 + 3, none⟩) hbb).trans hc3))
      go_wp2
      go_roundw
      case rel => exact ⟨j + 1, by omega, by rw [show (k : Int) + 4 * (j : Int) + 1 + 1 + 1 + 1 = (k : Int) + 4 * ((j + 1 : Nat) : Int) by omega], by go_num, bel_trans hbel kb0⟩
      case measure => simp [intOf]; omega
    · go_wp2
      go_ret
      exact ⟨retInt (by omega), hbel⟩
end Go.Proofs.Ytpofgidhhcolfaa
