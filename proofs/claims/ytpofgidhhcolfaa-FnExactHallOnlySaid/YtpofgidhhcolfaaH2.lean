/- Contracts: the marks that the laws write into rows of Ev and read again. -/
import Derived.Test.YtpofgidhhcolfaaH1
import Derived.Test.YtpofgidhhcolfaaM0
namespace Go.Proofs.Ytpofgidhhcolfaa
open Go.RowKit

def markEv (k j : Nat) : Ev := (((k : Int) + 3 * (j : Int)), ((k : Int) + 3 * (j : Int) + 1), mk (k + 3 * j + 2))
def marksEv (k n : Nat) : List Ev := (List.range n).map (markEv k)
def mkdEv (l : List Ev) (k i : Nat) : List Ev := (List.range i).map (markEv k) ++ l.drop i
theorem marksEv_len (k n : Nat) : (marksEv k n).length = n := by simp [marksEv]
theorem marksEv_at {k n i : Nat} (h : i < n) : (marksEv k n)[i]? = some (markEv k i) := by simp [marksEv, h]
theorem mkdEv_at (l : List Ev) (k i : Nat) {r : Ev} (h : l[i]? = some r) : (mkdEv l k i)[i]? = some r := by
  unfold mkdEv
  rw [List.getElem?_append_right (by simp)]
  simp [h]
theorem mkdEv_set (l : List Ev) (k i : Nat) {r : Ev} (h : l[i]? = some r) : (mkdEv l k i).set i (markEv k i) = mkdEv l k (i + 1) := by
  have hi := (List.getElem?_eq_some_iff.1 h).1
  unfold mkdEv
  rw [List.set_append_right _ _ (by simp), List.range_succ, List.map_append, List.length_map, List.length_range, Nat.sub_self, List.drop_eq_getElem_cons hi, List.set_cons_zero, List.append_assoc]
  rfl
theorem mkdEv_all (l : List Ev) (k n : Nat) (h : l.length = n) : mkdEv l k n = marksEv k n := by
  unfold mkdEv marksEv
  rw [List.drop_of_length_le (by omega), List.append_nil]
theorem mkdEv_zero (l : List Ev) (k : Nat) : mkdEv l k 0 = l := by simp [mkdEv]
def MarkEvPost (w : World) (base : Nat) (A : Option Addr) (n c k : Nat) (e : Ending) (w' : World) : Prop :=
  e = .returned (.int .i64 ((k + 3 * n : Nat) : Int)) ∧ Own encEv 3 100 w' base (.slice A n c) (marksEv k n) ∧ Turn A w w'
set_option maxHeartbeats 2000000 in
set_option maxRecDepth 100000 in
theorem markEvS (A : Option Addr) (n c k base : Nat) (l : List Ev) (w : World) (hr : Own encEv 3 100 w base (.slice A n c) l) (hn : n ≤ 2097152) (hk0 : 0 < k) (hk : k ≤ 10000000) :
    Calls Try.prog 34 #[.slice A n c, .int .i64 k] w (MarkEvPost w base A n c k) := by
  have HL := Lib.hid hr.len
  have HR := Lib.hid hr
  clear hr
  by_cases h0 : n = 0
  · subst h0
    go_enter Try.func34, Try.ntmps34
    go_wp2
    go_loopw [1, 5] (fun q i wr => q = .int .i64 k ∧ i = .int .i64 0 ∧ w = wr) (fun _ _ _ => 0)
    case atStart => exact ⟨rfl, rfl, rfl⟩
    case round =>
      obtain ⟨rfl, rfl, rfl⟩ := hrel
      go_wp2
      go_ret
      refine ⟨retInt (by simp), ?_, Turn.refl _ _⟩
      have h1 := HR.out
      rw [List.eq_nil_of_length_eq_zero HL.out] at h1
      exact h1
  · obtain ⟨g, rfl, hg1, hg2⟩ := HR.out.spot (by omega)
    go_enter Try.func34, Try.ntmps34
    go_wp2
    go_loopw [1, 5] (fun q i wr => ∃ j : Nat, j ≤ n ∧ q = .int .i64 ((k : Int) + 3 * j) ∧ i = .int .i64 j ∧ Own encEv 3 100 wr base (.slice (some ⟨g, 0, none⟩) n c) (mkdEv l k j) ∧ Turn (some ⟨g, 0, none⟩) w wr) (fun _ i _ => n - (intOf i).toNat)
    case atStart => exact ⟨0, by omega, by simp, rfl, by rw [mkdEv_zero]; exact HR.out, Turn.refl _ _⟩
    case round =>
      obtain ⟨j, hj, rfl, rfl, hown, ht⟩ := hrel
      by_cases hlt : j < n
      · have hl0 : j < l.length := by rw [HL.out]; exact hlt
        obtain ⟨r, hr0⟩ : ∃ r, l[j]? = some r := ⟨l[j], List.getElem?_eq_getElem hl0⟩
        have i0 : (0 : Int) ≤ (j : Int) := by omega
        have i1 : (j : Int) < (n : Int) := by omega
        have H0 := Lib.hid (mkdEv_at l k j hr0)
        have HS := Lib.hid (mkdEv_set l k j hr0)
        have HJ := Lib.hid (List.getElem?_eq_some_iff.1 (mkdEv_at l k j hr0)).1
        clear hr0
        obtain ⟨r0, r1, r2⟩ := r
        have C2 : Hid (∀ W, Calls Try.prog 81 #[.int .i64 ((k : Int) + 3 * (j : Int) + 1 + 1)] W fun e w' => e = .returned (.string (mk (k + 3 * j + 2))) ∧ Below W.heap.size W w') := by
          refine Lib.hid fun W => ?_
          rw [show ((k : Int) + 3 * (j : Int) + 1 + 1) = ((k + 3 * j + 2 : Nat) : Int) by omega]
          exact markText (k + 3 * j + 2) W (by omega) (by omega)
        obtain ⟨c_0, c_1, c_2, c_3, c_4, c_5⟩ := ownEv hown (show _ = some (r0, r1, r2) from H0.out)
        have ho0 := hown.set1 encEv_len j 0 (r0, r1, r2) (((k : Int) + 3 * (j : Int)), r1, r2) (.int .i64 (((k : Int) + 3 * (j : Int)))) H0.out (by omega) rfl
        simp only [Nat.add_zero] at ho0
        have x0 : (((mkdEv l k j).set j (((k : Int) + 3 * (j : Int)), r1, r2))[j]? : Option Ev) = some (((k : Int) + 3 * (j : Int)), r1, r2) := by rw [List.getElem?_set, if_pos rfl, if_pos HJ.out]
        have X0 := Lib.hid x0
        clear x0
        have ht0 := ht.set (j * 3) (.int .i64 (((k : Int) + 3 * (j : Int))))
        have ho1 := ho0.set1 encEv_len j 1 (((k : Int) + 3 * (j : Int)), r1, r2) (((k : Int) + 3 * (j : Int)), ((k : Int) + 3 * (j : Int) + 1), r2) (.int .i64 (((k : Int) + 3 * (j : Int) + 1))) X0.out (by omega) rfl
        rw [List.set_set] at ho1
        have x1 : (((mkdEv l k j).set j (((k : Int) + 3 * (j : Int)), ((k : Int) + 3 * (j : Int) + 1), r2))[j]? : Option Ev) = some (((k : Int) + 3 * (j : Int)), ((k : Int) + 3 * (j : Int) + 1), r2) := by rw [List.getElem?_set, if_pos rfl, if_pos HJ.out]
        have X1 := Lib.hid x1
        clear x1
        have ht1 := ht0.set (j * 3 + 1) (.int .i64 (((k : Int) + 3 * (j : Int) + 1)))
        go_wp2_with fail
        refine (C2.out _).mono ?_
        rintro e w1 ⟨rfl, hb1⟩
        have hq2 := ho1.on hb1
        have htq2 := ht1.below hb1
        clear c_0 c_1 c_2 c_3 c_4 c_5
        obtain ⟨c_0, c_1, c_2, c_3, c_4, c_5⟩ := ownEv hq2 (show _ = some (((k : Int) + 3 * (j : Int)), ((k : Int) + 3 * (j : Int) + 1), r2) from X1.out)
        have ho2 := hq2.set1 encEv_len j 2 (((k : Int) + 3 * (j : Int)), ((k : Int) + 3 * (j : Int) + 1), r2) (((k : Int) + 3 * (j : Int)), ((k : Int) + 3 * (j : Int) + 1), mk (k + 3 * j + 2)) (.string (mk (k + 3 * j + 2))) X1.out (by omega) rfl
        rw [List.set_set] at ho2
        have x2 : (((mkdEv l k j).set j (((k : Int) + 3 * (j : Int)), ((k : Int) + 3 * (j : Int) + 1), mk (k + 3 * j + 2)))[j]? : Option Ev) = some (((k : Int) + 3 * (j : Int)), ((k : Int) + 3 * (j : Int) + 1), mk (k + 3 * j + 2)) := by rw [List.getElem?_set, if_pos rfl, if_pos HJ.out]
        have X2 := Lib.hid x2
        clear x2
        have ht2 := htq2.set (j * 3 + 2) (.string (mk (k + 3 * j + 2)))
        rw [show ((mkdEv l k j).set j (((k : Int) + 3 * (j : Int)), ((k : Int) + 3 * (j : Int) + 1), mk (k + 3 * j + 2))) = mkdEv l k (j + 1) from HS.out] at ho2
        have HO := Lib.hid ho2
        have HT := Lib.hid ht2
        clear ho2 ht2
        go_wp2
        go_roundw
        case rel =>
          refine ⟨j + 1, by omega, ?_, by go_num, ?_, ?_⟩
          · rw [show (k : Int) + 3 * ((j + 1 : Nat) : Int) = (k : Int) + 3 * (j : Int) + 1 + 1 + 1 by omega]
          · first | exact HO.out | simpa using HO.out
          · first | exact HT.out | simpa using HT.out
        case measure => simp [intOf]; omega
      · obtain rfl : j = n := by omega
        have ho := hown
        rw [mkdEv_all l k j HL.out] at ho
        go_wp2
        go_ret
        exact ⟨retInt (by omega), ho, ht⟩
set_option maxHeartbeats 2000000 in
theorem heldEvS (A : Option Addr) (n c k : Nat) (w : World) (hr : Sl encEv w w.heap.size A n (marksEv k n)) (hn : n ≤ 2097152) (hk0 : 0 < k) (hk : k ≤ 10000000) :
    Calls Try.prog 35 #[.slice A n c, .int .i64 k] w fun e w' => e = .returned (.int .i64 ((k + 3 * n : Nat) : Int)) ∧ Below w.heap.size w w' := by
  go_enter Try.func35, Try.ntmps35
  go_wp2
  go_loopw [1, 5] (fun q i wr => ∃ j : Nat, j ≤ n ∧ q = .int .i64 ((k : Int) + 3 * j) ∧ i = .int .i64 j ∧ Below w.heap.size w wr) (fun _ i _ => n - (intOf i).toNat)
  case atStart => exact ⟨0, by omega, by simp, rfl, Below.refl _ _⟩
  case round =>
    obtain ⟨j, hj, rfl, rfl, hbel⟩ := hrel
    by_cases hlt : j < n
    · obtain ⟨b, off, rfl, hb⟩ := hr.spot (by omega)
      obtain ⟨f0, f1, f2, hrow, hc0, hc1, hc2⟩ := atEv (hr.keep hbel) hlt
      rw [marksEv_at hlt] at hrow
      simp only [markEv, Option.some.injEq, Prod.mk.injEq] at hrow
      obtain ⟨rfl, rfl, rfl⟩ := hrow
      have i0 : (0 : Int) ≤ (j : Int) := by omega
      have i1 : (j : Int) < (n : Int) := by omega
      have hbb : b < wr.heap.size := World.block_lt_of_cell? wr _ hc0
      have C2 : Hid (∀ W, Calls Try.prog 81 #[.int .i64 ((k : Int) + 3 * j + 1 + 1)] W fun e w' => e = .returned (.string (mk (k + 3 * j + 2))) ∧ Below W.heap.size W w') := by
        intro W
        rw [show ((k : Int) + 3 * (j : Int) + 1 + 1) = ((k + 3 * j + 2 : Nat) : Int) by omega]
        exact markText (k + 3 * j + 2) W (by omega) (by omega)
      go_wp2_with fail
      go_region_held3 (fun w' => w'.cell? ⟨b, off + j * 3, none⟩ = some (.int .i64 (((k : Int) + 3 * (j : Int)))) ∧ w'.cell? ⟨b, off + j * 3 + 1, none⟩ = some (.int .i64 (((k : Int) + 3 * (j : Int) + 1))) ∧ w'.cell? ⟨b, off + j * 3 + 2, none⟩ = some (.string (mk (k + 3 * j + 2))) ∧ Below wr.heap.size wr w')
        (first | exact ⟨hc0, hc1, hc2, (Below.refl _ _).drew⟩ | exact ⟨kc2_0, kc2_1, kc2_2, kb2⟩)
        (first | (go_at_call 81; refine (C2.out _).mono ?_; rintro e w12 ⟨rfl, hw2⟩; have kb2 := bel_trans ((Below.refl _ wr).drew) hw2; have kc2_0 := (kb2.cell (p := ⟨b, off + j * 3, none⟩) hbb).trans hc0; have kc2_1 := (kb2.cell (p := ⟨b, off + j * 3 + 1, none⟩) hbb).trans hc1; have kc2_2 := (kb2.cell (p := ⟨b, off + j * 3 + 2, none⟩) hbb).trans hc2))
      go_wp2
      go_roundw
      case rel => exact ⟨j + 1, by omega, by rw [show (k : Int) + 3 * (j : Int) + 1 + 1 + 1 = (k : Int) + 3 * ((j + 1 : Nat) : Int) by omega], by go_num, bel_trans hbel kb2⟩
      case measure => simp [intOf]; omega
    · go_wp2
      go_ret
      exact ⟨retInt (by omega), hbel⟩
end Go.Proofs.Ytpofgidhhcolfaa
