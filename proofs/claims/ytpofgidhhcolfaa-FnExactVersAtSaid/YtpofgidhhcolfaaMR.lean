/- Contracts: the marks that the laws write into rows of Row and read again. -/
import Derived.Test.YtpofgidhhcolfaaB3
import Derived.Test.YtpofgidhhcolfaaM0
namespace Go.Proofs.Ytpofgidhhcolfaa
open Go.RowKit

def markRow (k j : Nat) : Row := (mk (k + 2 * j + 0), ((k : Int) + 2 * (j : Int) + 1))
def marksRow (k n : Nat) : List Row := (List.range n).map (markRow k)
def mkdRow (l : List Row) (k i : Nat) : List Row := (List.range i).map (markRow k) ++ l.drop i
theorem marksRow_len (k n : Nat) : (marksRow k n).length = n := by simp [marksRow]
theorem marksRow_at {k n i : Nat} (h : i < n) : (marksRow k n)[i]? = some (markRow k i) := by simp [marksRow, h]
theorem mkdRow_at (l : List Row) (k i : Nat) {r : Row} (h : l[i]? = some r) : (mkdRow l k i)[i]? = some r := by
  unfold mkdRow
  rw [List.getElem?_append_right (by simp)]
  simp [h]
theorem mkdRow_set (l : List Row) (k i : Nat) {r : Row} (h : l[i]? = some r) : (mkdRow l k i).set i (markRow k i) = mkdRow l k (i + 1) := by
  have hi := (List.getElem?_eq_some_iff.1 h).1
  unfold mkdRow
  rw [List.set_append_right _ _ (by simp), List.range_succ, List.map_append, List.length_map, List.length_range, Nat.sub_self, List.drop_eq_getElem_cons hi, List.set_cons_zero, List.append_assoc]
  rfl
theorem mkdRow_all (l : List Row) (k n : Nat) (h : l.length = n) : mkdRow l k n = marksRow k n := by
  unfold mkdRow marksRow
  rw [List.drop_of_length_le (by omega), List.append_nil]
theorem mkdRow_zero (l : List Row) (k : Nat) : mkdRow l k 0 = l := by simp [mkdRow]
def MarkRowPost (w : World) (base : Nat) (A : Option Addr) (n c k : Nat) (e : Ending) (w' : World) : Prop :=
  e = .returned (.int .i64 ((k + 2 * n : Nat) : Int)) ∧ Own encRow 2 117 w' base (.slice A n c) (marksRow k n) ∧ Turn A w w'
set_option maxHeartbeats 2000000 in
set_option maxRecDepth 100000 in
theorem markRowS (A : Option Addr) (n c k base : Nat) (l : List Row) (w : World) (hr : Own encRow 2 117 w base (.slice A n c) l) (hn : n ≤ 2097152) (hk0 : 0 < k) (hk : k ≤ 10000000) :
    Calls Try.prog 49 #[.slice A n c, .int .i64 k] w (MarkRowPost w base A n c k) := by
  have HL := Lib.hid hr.len
  have HR := Lib.hid hr
  clear hr
  by_cases h0 : n = 0
  · subst h0
    go_enter Try.func49, Try.ntmps49
    go_wp2
    go_loopw [1, 5] (fun q i wr => q = .int .i64 k ∧ i = .int .i64 0 ∧ w = wr) (fun _ _ _ => 0)
    case atStart => exact ⟨rfl, rfl, rfl⟩
    case round =>
      obtain ⟨rfl, rfl, rfl⟩ := hrel
      go_wp2
      go_ret
      refine ⟨retInt (by simp), ?_, Turn.refl _ _⟩
      have h1 := HR.out
      rw [List.eq_nil_of_length_eq_zero HL.out] at h1
      exact h1
  · obtain ⟨g, rfl, hg1, hg2⟩ := HR.out.spot (by omega)
    go_enter Try.func49, Try.ntmps49
    go_wp2
    go_loopw [1, 5] (fun q i wr => ∃ j : Nat, j ≤ n ∧ q = .int .i64 ((k : Int) + 2 * j) ∧ i = .int .i64 j ∧ Own encRow 2 117 wr base (.slice (some ⟨g, 0, none⟩) n c) (mkdRow l k j) ∧ Turn (some ⟨g, 0, none⟩) w wr) (fun _ i _ => n - (intOf i).toNat)
    case atStart => exact ⟨0, by omega, by simp, rfl, by rw [mkdRow_zero]; exact HR.out, Turn.refl _ _⟩
    case round =>
      obtain ⟨j, hj, rfl, rfl, hown, ht⟩ := hrel
      by_cases hlt : j < n
      · have hl0 : j < l.length := by rw [HL.out]; exact hlt
        obtain ⟨r, hr0⟩ : ∃ r, l[j]? = some r := ⟨l[j], List.getElem?_eq_getElem hl0⟩
        have i0 : (0 : Int) ≤ (j : Int) := by omega
        have i1 : (j : Int) < (n : Int) := by omega
        have H0 := Lib.hid (mkdRow_at l k j hr0)
        have HS := Lib.hid (mkdRow_set l k j hr0)
        have HJ := Lib.hid (List.getElem?_eq_some_iff.1 (mkdRow_at l k j hr0)).1
        clear hr0
        obtain ⟨r0, r1⟩ := r
        have C0 : Hid (∀ W, Calls Try.prog 81 #[.int .i64 ((k : Int) + 2 * (j : Int))] W fun e w' => e = .returned (.string (mk (k + 2 * j + 0))) ∧ Below W.heap.size W w') := by
          refine Lib.hid fun W => ?_
          rw [show ((k : Int) + 2 * (j : Int)) = ((k + 2 * j + 0 : Nat) : Int) by omega]
          exact markText (k + 2 * j + 0) W (by omega) (by omega)
        obtain ⟨c_0, c_1, c_2, c_3⟩ := ownRow hown (show _ = some (r0, r1) from H0.out)
        go_wp2_with fail
        refine (C0.out _).mono ?_
        rintro e w1 ⟨rfl, hb1⟩
        have hq0 := hown.on hb1
        have htq0 := ht.below hb1
        clear c_0 c_1 c_2 c_3
        obtain ⟨c_0, c_1, c_2, c_3⟩ := ownRow hq0 (show _ = some (r0, r1) from H0.out)
        have ho0 := hq0.set1 encRow_len j 0 (r0, r1) (mk (k + 2 * j + 0), r1) (.string (mk (k + 2 * j + 0))) H0.out (by omega) rfl
        simp only [Nat.add_zero] at ho0
        have x0 : (((mkdRow l k j).set j (mk (k + 2 * j + 0), r1))[j]? : Option Row) = some (mk (k + 2 * j + 0), r1) := by rw [List.getElem?_set, if_pos rfl, if_pos HJ.out]
        have X0 := Lib.hid x0
        clear x0
        have ht0 := htq0.set (j * 2) (.string (mk (k + 2 * j + 0)))
        have ho1 := ho0.set1 encRow_len j 1 (mk (k + 2 * j + 0), r1) (mk (k + 2 * j + 0), ((k : Int) + 2 * (j : Int) + 1)) (.int .i64 (((k : Int) + 2 * (j : Int) + 1))) X0.out (by omega) rfl
        rw [List.set_set] at ho1
        have x1 : (((mkdRow l k j).set j (mk (k + 2 * j + 0), ((k : Int) + 2 * (j : Int) + 1)))[j]? : Option Row) = some (mk (k + 2 * j + 0), ((k : Int) + 2 * (j : Int) + 1)) := by rw [List.getElem?_set, if_pos rfl, if_pos HJ.out]
        have X1 := Lib.hid x1
        clear x1
        have ht1 := ht0.set (j * 2 + 1) (.int .i64 (((k : Int) + 2 * (j : Int) + 1)))
        rw [show ((mkdRow l k j).set j (mk (k + 2 * j + 0), ((k : Int) + 2 * (j : Int) + 1))) = mkdRow l k (j + 1) from HS.out] at ho1
        have HO := Lib.hid ho1
        have HT := Lib.hid ht1
        clear ho1 ht1
        go_wp2
        go_roundw
        case rel =>
          refine ⟨j + 1, by omega, ?_, by go_num, ?_, ?_⟩
          · rw [show (k : Int) + 2 * ((j + 1 : Nat) : Int) = (k : Int) + 2 * (j : Int) + 1 + 1 by omega]
          · first | exact HO.out | simpa using HO.out
          · first | exact HT.out | simpa using HT.out
        case measure => simp [intOf]; omega
      · obtain rfl : j = n := by omega
        have ho := hown
        rw [mkdRow_all l k j HL.out] at ho
        go_wp2
        go_ret
        exact ⟨retInt (by omega), ho, ht⟩
set_option maxHeartbeats 2000000 in
theorem heldRowS (A : Option Addr) (n c k : Nat) (w : World) (hr : Sl encRow w w.heap.size A n (marksRow k n)) (hn : n ≤ 2097152) (hk0 : 0 < k) (hk : k ≤ 10000000) :
    Calls Try.prog 50 #[.slice A n c, .int .i64 k] w fun e w' => e = .returned (.int .i64 ((k + 2 * n : Nat) : Int)) ∧ Below w.heap.size w w' := by
  go_enter Try.func50, Try.ntmps50
  go_wp2
  go_loopw [1, 5] (fun q i wr => ∃ j : Nat, j ≤ n ∧ q = .int .i64 ((k : Int) + 2 * j) ∧ i = .int .i64 j ∧ Below w.heap.size w wr) (fun _ i _ => n - (intOf i).toNat)
  case atStart => exact ⟨0, by omega, by simp, rfl, Below.refl _ _⟩
  case round =>
    obtain ⟨j, hj, rfl, rfl, hbel⟩ := hrel
    by_cases hlt : j < n
    · obtain ⟨b, off, rfl, hb⟩ := hr.spot (by omega)
      obtain ⟨f0, f1, hrow, hc0, hc1⟩ := rowAt (hr.keep hbel) hlt
      rw [marksRow_at hlt] at hrow
      simp only [markRow, Option.some.injEq, Prod.mk.injEq] at hrow
      obtain ⟨rfl, rfl⟩ := hrow
      have i0 : (0 : Int) ≤ (j : Int) := by omega
      have i1 : (j : Int) < (n : Int) := by omega
      have hbb : b < wr.heap.size := World.block_lt_of_cell? wr _ hc0
      have C0 : Hid (∀ W, Calls Try.prog 81 #[.int .i64 ((k : Int) + 2 * j)] W fun e w' => e = .returned (.string (mk (k + 2 * j + 0))) ∧ Below W.heap.size W w') := by
        intro W
        rw [show ((k : Int) + 2 * (j : Int)) = ((k + 2 * j + 0 : Nat) : Int) by omega]
        exact markText (k + 2 * j + 0) W (by omega) (by omega)
      go_wp2_with fail
      go_region_held3 (fun w' => w'.cell? ⟨b, off + j * 2, none⟩ = some (.string (mk (k + 2 * j + 0))) ∧ w'.cell? ⟨b, off + j * 2 + 1, none⟩ = some (.int .i64 (((k : Int) + 2 * (j : Int) + 1))) ∧ Below wr.heap.size wr w')
        (first | exact ⟨hc0, hc1, (Below.refl _ _).drew⟩ | exact ⟨kc0_0, kc0_1, kb0⟩)
        (first | (go_at_call 81; refine (C0.out _).mono ?_; rintro e w10 ⟨rfl, hw0⟩; have kb0 := bel_trans ((Below.refl _ wr).drew) hw0; have kc0_0 := (kb0.cell (p := ⟨b, off + j * 2, none⟩) hbb).trans hc0; have kc0_1 := (kb0.cell (p := ⟨b, off + j * 2 + 1, none⟩) hbb).trans hc1))
      go_wp2
      go_roundw
      case rel => exact ⟨j + 1, by omega, by rw [show (k : Int) + 2 * (j : Int) + 1 + 1 = (k : Int) + 2 * ((j + 1 : Nat) : Int) by omega], by go_num, bel_trans hbel kb0⟩
      case measure => simp [intOf]; omega
    · go_wp2
      go_ret
      exact ⟨retInt (by omega), hbel⟩
end Go.Proofs.Ytpofgidhhcolfaa
