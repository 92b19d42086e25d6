/- Contracts over slices of strings: the marks, equality. -/
import Derived.Test.YtndeehlndbdonaaM1
namespace Go.Proofs.Ytndeehlndbdonaa
open Go.RowKit

def encS (s : ByteArray) : List Value := [.string s]
theorem encS_len (s : ByteArray) : (encS s).length = 1 := rfl
theorem strAt {w : World} {B n b off k : Nat} {l : List ByteArray} (h : Sl encS w B (some ⟨b, off, none⟩) n l) (hk : k < n) :
    ∃ s, l[k]? = some s ∧ w.cell? ⟨b, off + k, none⟩ = some (.string s) := by
  obtain ⟨s, h1, h2⟩ := h.at_ encS_len hk
  have := h2 0 _ rfl
  simp only [Nat.mul_one, Nat.add_zero] at this
  exact ⟨s, h1, this⟩
theorem ownStr {w : World} {base g n c k : Nat} {l : List ByteArray} {e : TypeId} {s : ByteArray} (h : Own encS 1 e w base (.slice (some ⟨g, 0, none⟩) n c) l) (hx : l[k]? = some s) :
    w.cell? ⟨g, k, none⟩ = some (.string s) ∧ w.frozen? ⟨g, k, none⟩ = false := by
  have := h.cellAt (j := 0) encS_len hx rfl
  simp only [Nat.mul_one, Nat.add_zero] at this
  exact ⟨this, h.free _⟩
def markStr (k i : Nat) : ByteArray := mk (k + i)
def marksS (k n : Nat) : List ByteArray := (List.range n).map (markStr k)
def mkdS (l : List ByteArray) (k i : Nat) : List ByteArray := (List.range i).map (markStr k) ++ l.drop i
theorem marksS_at {k n i : Nat} (h : i < n) : (marksS k n)[i]? = some (mk (k + i)) := by simp [marksS, markStr, h]
theorem mkdS_at (l : List ByteArray) (k i : Nat) {r : ByteArray} (h : l[i]? = some r) : (mkdS l k i)[i]? = some r := by
  unfold mkdS
  rw [List.getElem?_append_right (by simp)]
  simp [h]
theorem mkdS_set (l : List ByteArray) (k i : Nat) {r : ByteArray} (h : l[i]? = some r) : (mkdS l k i).set i (mk (k + i)) = mkdS l k (i + 1) := by
  have hi := (List.getElem?_eq_some_iff.1 h).1
  unfold mkdS
  rw [List.set_append_right _ _ (by simp), List.range_succ, List.map_append, List.length_map, List.length_range, Nat.sub_self, List.drop_eq_getElem_cons hi, List.set_cons_zero, List.append_assoc]
  rfl
theorem mkdS_all (l : List ByteArray) (k n : Nat) (h : l.length = n) : mkdS l k n = marksS k n := by
  unfold mkdS marksS
  rw [List.drop_of_length_le (by omega), List.append_nil]
theorem mkdS_zero (l : List ByteArray) (k : Nat) : mkdS l k 0 = l := by simp [mkdS]
def MarkSPost (w : World) (base : Nat) (A : Option Addr) (n c k : Nat) (e : Ending) (w' : World) : Prop :=
  e = .returned (.int .i64 ((k + n : Nat) : Int)) ∧ Own encS 1 9 w' base (.slice A n c) (marksS k n) ∧ Turn A w w'
set_option maxHeartbeats 1000000 in
theorem markStringS (A : Option Addr) (n c k base : Nat) (l : List ByteArray) (w : World) (hr : Own encS 1 9 w base (.slice A n c) l) (hn : n ≤ 2097152) (hk0 : 0 < k) (hk : k ≤ 10000000) :
    Calls Try.prog 37 #[.slice A n c, .int .i64 k] w (MarkSPost w base A n c k) := by
  have HL := Lib.hid hr.len
  have HR := Lib.hid hr
  clear hr
  by_cases h0 : n = 0
  · subst h0
    go_enter Try.func37, Try.ntmps37
    go_wp2
    go_loopw [1, 5] (fun q i wr => q = .int .i64 k ∧ i = .int .i64 0 ∧ w = wr) (fun _ _ _ => 0)
    case atStart => exact ⟨rfl, rfl, rfl⟩
    case round =>
      obtain ⟨rfl, rfl, rfl⟩ := hrel
      go_wp2
      go_ret
      refine ⟨ret_int (by simp), ?_, Turn.refl _ _⟩
      have h1 := HR.out
      rw [List.eq_nil_of_length_eq_zero HL.out] at h1
      exact h1
  · obtain ⟨g, rfl, hg1, hg2⟩ := HR.out.spot (by omega)
    go_enter Try.func37, Try.ntmps37
    go_wp2
    go_loopw [1, 5] (fun q i wr => ∃ j : Nat, j ≤ n ∧ q = .int .i64 ((k : Int) + j) ∧ i = .int .i64 j ∧ Own encS 1 9 wr base (.slice (some ⟨g, 0, none⟩) n c) (mkdS l k j) ∧ Turn (some ⟨g, 0, none⟩) w wr) (fun _ i _ => n - (intOf i).toNat)
    case atStart => exact ⟨0, by omega, by simp, rfl, by rw [mkdS_zero]; exact HR.out, Turn.refl _ _⟩
    case round =>
      obtain ⟨j, hj, rfl, rfl, hown, ht⟩ := hrel
      by_cases hlt : j < n
      · have hl0 : j < l.length := by rw [HL.out]; exact hlt
        obtain ⟨r, hr0⟩ : ∃ r, l[j]? = some r := ⟨l[j], List.getElem?_eq_getElem hl0⟩
        have i0 : (0 : Int) ≤ (j : Int) := by omega
        have i1 : (j : Int) < (n : Int) := by omega
        have H0 := Lib.hid hr0
        clear hr0
        go_wp2_with fail
        rw [show ((k : Int) + (j : Int)) = ((k + j : Nat) : Int) by omega]
        refine (markText (k + j) _ (by omega) (by omega)).mono ?_
        rintro e w1 ⟨rfl, hb1⟩
        have ho1 := hown.on hb1
        obtain ⟨f1, f3⟩ := ownStr ho1 (mkdS_at l k j H0.out)
        have ho2 := ho1.set1 encS_len j 0 r (mk (k + j)) (.string (mk (k + j))) (mkdS_at l k j H0.out) (by omega) rfl
        simp only [Nat.add_zero, Nat.mul_one] at ho2
        rw [mkdS_set l k j H0.out] at ho2
        have ht2 := (ht.below hb1).set j (.string (mk (k + j)))
        have HO := Lib.hid ho2
        have HT := Lib.hid ht2
        clear ho2 ht2
        go_wp2
        go_roundw
        case rel =>
          refine ⟨j + 1, by omega, ?_, by go_num, HO.out, HT.out⟩
          rw [show (k : Int) + ((j + 1 : Nat) : Int) = (k : Int) + (j : Int) + 1 by omega]
        case measure => simp [intOf]; omega
      · obtain rfl : j = n := by omega
        have ho := hown
        rw [mkdS_all l k j HL.out] at ho
        go_wp2
        go_ret
        exact ⟨ret_int (by omega), ho, ht⟩

set_option maxHeartbeats 1000000 in
theorem heldStringS (A : Option Addr) (n c k : Nat) (w : World) (hr : Sl encS w w.heap.size A n (marksS k n)) (hn : n ≤ 2097152) (hk0 : 0 < k) (hk : k ≤ 10000000) :
    Calls Try.prog 38 #[.slice A n c, .int .i64 k] w fun e w' => e = .returned (.int .i64 ((k + n : Nat) : Int)) ∧ Below w.heap.size w w' := by
  go_enter Try.func38, Try.ntmps38
  go_wp2
  go_loopw [1, 5] (fun q i wr => ∃ j : Nat, j ≤ n ∧ q = .int .i64 ((k : Int) + j) ∧ i = .int .i64 j ∧ Below w.heap.size w wr) (fun _ i _ => n - (intOf i).toNat)
  case atStart => exact ⟨0, by omega, by simp, rfl, Below.refl _ _⟩
  case round =>
    obtain ⟨j, hj, rfl, rfl, hbel⟩ := hrel
    by_cases hlt : j < n
    · obtain ⟨b, off, rfl, hb⟩ := hr.spot (by omega)
      obtain ⟨key, hrow, hk1⟩ := strAt (hr.keep hbel) hlt
      rw [marksS_at hlt] at hrow
      obtain rfl : mk (k + j) = key := by simpa using hrow
      clear hrow
      have i0 : (0 : Int) ≤ (j : Int) := by omega
      have i1 : (j : Int) < (n : Int) := by omega
      have hbb : b < wr.heap.size := World.block_lt_of_cell? wr _ hk1
      have C1 : Hid (∀ W, Calls Try.prog 62 #[.int .i64 ((k : Int) + j)] W fun e w' => e = .returned (.string (mk (k + j))) ∧ Below W.heap.size W w') := by
        intro W
        rw [show ((k : Int) + (j : Int)) = ((k + j : Nat) : Int) by omega]
        exact markText (k + j) W (by omega) (by omega)
      go_wp2_with fail
      go_region_held3 (fun w' => w'.cell? ⟨b, off + j, none⟩ = some (.string (mk (k + j))) ∧ Below wr.heap.size wr w')
        (first | exact ⟨hk1, (Below.refl _ _).drew⟩ | exact ⟨kc1, kc3⟩)
        (first | (go_at_call 62; refine (C1.out _).mono ?_; rintro e w1 ⟨rfl, hb1⟩; have kc3 := bel_trans ((Below.refl _ wr).drew) hb1; have kc1 := (kc3.cell (p := ⟨b, off + j, none⟩) hbb).trans hk1))
      go_wp2
      go_roundw
      case rel => exact ⟨j + 1, by omega, by rw [show (k : Int) + (j : Int) + 1 = (k : Int) + ((j + 1 : Nat) : Int) by omega], by go_num, bel_trans hbel kc3⟩
      case measure => simp [intOf]; omega
    · go_wp2
      go_ret
      exact ⟨ret_int (by omega), hbel⟩

/-! ### equality -/
def strsEq (l m : List ByteArray) : Bool := decide (l = m)
theorem strsEq_self (l : List ByteArray) : strsEq l l = true := by simp [strsEq]
theorem strsEq_len {l m : List ByteArray} (h : l.length ≠ m.length) : strsEq l m = false := by
  simp only [strsEq, decide_eq_false_iff_not]; intro e; exact h (by rw [e])
theorem strsEq_at {l m : List ByteArray} {k : Nat} {x y : ByteArray} (hx : l[k]? = some x) (hy : m[k]? = some y) (h : (x.toList == y.toList) = false) : strsEq l m = false := by
  simp only [strsEq, decide_eq_false_iff_not]
  rintro rfl
  rw [hx] at hy; cases hy
  simp at h
def EqToS (l m : List ByteArray) (k : Nat) : Prop := ∀ i : Nat, i < k → l[i]? = m[i]?
theorem EqToS.zero (l m : List ByteArray) : EqToS l m 0 := fun _ h => absurd h (by omega)
theorem EqToS.step {l m : List ByteArray} {k : Nat} {x y : ByteArray} (h : EqToS l m k) (hx : l[k]? = some x) (hy : m[k]? = some y) (he : (x.toList == y.toList) = true) : EqToS l m (k + 1) := by
  intro i hi
  by_cases hik : i < k
  · exact h i hik
  · obtain rfl : i = k := by omega
    rw [hx, hy, ba_eq (beq_iff_eq.1 he)]
theorem EqToS.all {l m : List ByteArray} {k : Nat} (h : EqToS l m k) (hl : l.length ≤ k) (hm : m.length ≤ k) : strsEq l m = true := by
  simp only [strsEq, decide_eq_true_eq]
  apply List.ext_getElem?
  intro i
  by_cases hi : i < k
  · exact h i hi
  · rw [List.getElem?_eq_none (by omega), List.getElem?_eq_none (by omega)]
set_option maxHeartbeats 1000000 in
theorem eqStringS (A B : Option Addr) (n m c d : Nat) (l p : List ByteArray) (w : World) (hr : Sl encS w w.heap.size A n l) (hs : Sl encS w w.heap.size B m p) (hn : n ≤ 2097152) :
    Calls Try.prog 35 #[.slice A n c, .slice B m d] w fun e w' => e = .returned (.bool (strsEq l p)) ∧ Below w.heap.size w w' := by
  have HL := Lib.hid hr.len
  have HP := Lib.hid hs.len
  by_cases hnm : n = m
  · subst hnm
    have hne : ((n : Int) != (n : Int)) = false := by simp
    go_enter Try.func35, Try.ntmps35
    go_wp2
    go_loopw [5] (fun i wr => ∃ k : Nat, k ≤ n ∧ i = .int .i64 k ∧ EqToS l p k ∧ Below w.heap.size w wr) (fun i _ => n - (intOf i).toNat)
    case atStart => exact ⟨0, by omega, rfl, EqToS.zero l p, Below.refl _ _⟩
    case round =>
      obtain ⟨k, hkn, rfl, heq, hbel⟩ := hrel
      by_cases hlt : k < n
      · obtain ⟨b, off, rfl, hb⟩ := hr.spot (by omega)
        obtain ⟨b2, off2, rfl, hb2⟩ := hs.spot (by omega)
        obtain ⟨x, hrow, hk1⟩ := strAt (hr.keep hbel) hlt
        obtain ⟨y, hrow2, hk3⟩ := strAt (hs.keep hbel) hlt
        have HR := Lib.hid hrow
        have HR2 := Lib.hid hrow2
        clear hrow hrow2
        have i0 : (0 : Int) ≤ (k : Int) := by omega
        have i1 : (k : Int) < (n : Int) := by omega
        cases he : (x.toList == y.toList)
        all_goals
          go_wp2_with fail
          go_quiet (fail)
          have HE := Lib.hid he
          go_wp2
        · go_ret
          exact ⟨ret_bool (strsEq_at HR.out HR2.out HE.out).symm, bel_drewN hbel _⟩
        · go_roundw
          case rel => exact ⟨k + 1, by omega, by go_num, heq.step HR.out HR2.out HE.out, bel_drewN hbel _⟩
          case measure => simp [intOf]; omega
      · go_wp2
        go_ret
        exact ⟨ret_bool (heq.all (by rw [HL.out]; omega) (by rw [HP.out]; omega)).symm, hbel⟩
  · have hf : strsEq l p = false := strsEq_len (by rw [HL.out, HP.out]; exact hnm)
    have HF := Lib.hid hf
    clear hf
    have hne : ((n : Int) != (m : Int)) = true := by simp; omega
    clear hnm
    go_enter Try.func35, Try.ntmps35
    go_wp2
    go_ret
    exact ⟨ret_bool HF.out.symm, Below.refl _ _⟩
end Go.Proofs.Ytndeehlndbdonaa
