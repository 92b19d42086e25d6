/- Contracts: the marks that the laws write into a row and read again. -/
import Derived.Test.YtndeehlndbdonaaB3
import Derived.Test.YtndeehlndbdonaaK2
import Derived.Laws.BytesArg
namespace Go.Proofs.Ytndeehlndbdonaa
open Go.RowKit

/-- the string of one byte -/
def b1 (z : Int) : ByteArray := strOfNums [z]
theorem b1_size (z : Int) : (b1 z).size = 1 := rfl
theorem cell_new (w : World) (v : Value) (t : TypeId) : (w.alloc (.cells #[v] t)).cell? ⟨w.heap.size, 0, none⟩ = some v := by
  rw [cell_of_row _ w.heap.size 0 #[v] t (0, 0) (heap_alloc_new w _)]; rfl
theorem conv1 (W : World) (z : Int) : (convert 34 9 (.slice (some ⟨W.heap.size, 0, none⟩) 1 1)).run Try.prog (W.alloc (.cells #[.int .u8 z] 5)) = .ok (.string (b1 z)) (W.alloc (.cells #[.int .u8 z] 5)) :=
  run_convert_bytes_arg (P := Try.prog) _ 34 5 Try.underlying34 Try.underlying5 W.heap.size 0 1 1 [z] rfl (fun i hi => by
    obtain rfl : i = 0 := by omega
    simp only [Nat.add_zero]
    exact cell_new W (.int .u8 z) 5) 9 Try.underlying9
/-- the digits of k ahead of s, with fuel -/
def mkDig : Nat → Nat → ByteArray → ByteArray
  | 0, _, s => s
  | f + 1, k, s => if k = 0 then s else mkDig f (k / 10) (b1 (48 + (k : Int) % 10) ++ s)
theorem mkDig_zero (f : Nat) (s : ByteArray) : mkDig f 0 s = s := by cases f <;> simp [mkDig]
theorem mkDig_step (f k : Nat) (s : ByteArray) (hk : 0 < k) : mkDig (f + 1) k s = mkDig f (k / 10) (b1 (48 + (k : Int) % 10) ++ s) := by
  show (if k = 0 then s else _) = _
  rw [if_neg (by omega)]
def mB : ByteArray := { data := #[109] }
/-- the mark of k -/
def mk (k : Nat) : ByteArray := mB ++ mkDig k k ByteArray.empty
set_option maxHeartbeats 400000 in
set_option maxRecDepth 100000 in
theorem markText (k : Nat) (w : World) (hk : 0 < k) (h : k ≤ 100000000) :
    Calls Try.prog 62 #[.int .i64 k] w fun e w' => e = .returned (.string (mk k)) ∧ Below w.heap.size w w' := by
  have hcv := conv1
  go_enter Try.func62, Try.ntmps62
  go_wp2
  go_loopw [0, 3] (fun i s wr => ∃ (q f : Nat) (t : ByteArray), q ≤ k ∧ q ≤ f ∧ i = .int .i64 q ∧ s = .string t ∧ t.size + q ≤ k ∧ Hid (mkDig f q t = mkDig k k ByteArray.empty) ∧ Below w.heap.size w wr) (fun i _ _ => (intOf i).toNat)
  case atStart => exact ⟨k, k, ByteArray.empty, by omega, by omega, rfl, rfl, by simp, rfl, Below.refl _ _⟩
  case round =>
    obtain ⟨q, f, t, hq, hqf, rfl, rfl, ht, hm, hbel⟩ := hrel
    by_cases h0 : 0 < q
    · have hb1 := b1_size (48 + (q : Int) % 10)
      have ht2 : t.size ≤ 100000000 := by omega
      obtain ⟨f, rfl⟩ : ∃ f', f = f' + 1 := ⟨f - 1, by omega⟩
      have HB := Lib.hid hb1
      go_wp2
      go_roundw
      case rel => exact ⟨q / 10, f, b1 (48 + (q : Int) % 10) ++ t, by omega, by omega, by rw [show (q : Int) / 10 = ((q / 10 : Nat) : Int) by omega], rfl, by rw [ByteArray.size_append, HB.out]; omega, (by rw [← mkDig_step f q t h0]; exact hm.out : mkDig f (q / 10) (b1 (48 + (q : Int) % 10) ++ t) = mkDig k k ByteArray.empty), bel_alloc hbel _⟩
      case measure => simp [intOf]; omega
    · obtain rfl : q = 0 := by omega
      have hf : mB ++ t = mk k := by rw [mk, ← hm.out, mkDig_zero]
      have HF := Lib.hid hf
      clear hf
      go_wp2
      go_ret
      exact ⟨congrArg (fun s => Ending.returned (.string s)) HF.out, hbel⟩

/-! ### rows -/
def markRow (k i : Nat) : Row := (mk (k + 2 * i), ((k + 2 * i + 1 : Nat) : Int))
def marks (k n : Nat) : List Row := (List.range n).map (markRow k)
def mkd (l : List Row) (k i : Nat) : List Row := (List.range i).map (markRow k) ++ l.drop i
theorem marks_len (k n : Nat) : (marks k n).length = n := by simp [marks]
theorem marks_at {k n i : Nat} (h : i < n) : (marks k n)[i]? = some (markRow k i) := by simp [marks, h]
theorem mkd_at (l : List Row) (k i : Nat) {r : Row} (h : l[i]? = some r) : (mkd l k i)[i]? = some r := by
  unfold mkd
  rw [List.getElem?_append_right (by simp)]
  simp [h]
theorem mkd_set (l : List Row) (k i : Nat) {r : Row} (h : l[i]? = some r) : (mkd l k i).set i (markRow k i) = mkd l k (i + 1) := by
  have hi := (List.getElem?_eq_some_iff.1 h).1
  unfold mkd
  rw [List.set_append_right _ _ (by simp), List.range_succ, List.map_append, List.length_map, List.length_range, Nat.sub_self, List.drop_eq_getElem_cons hi, List.set_cons_zero, List.append_assoc]
  rfl
theorem mkd_all (l : List Row) (k n : Nat) (h : l.length = n) : mkd l k n = marks k n := by
  unfold mkd marks
  rw [List.drop_of_length_le (by omega), List.append_nil]
theorem mkd_zero (l : List Row) (k : Nat) : mkd l k 0 = l := by simp [mkd]
theorem Own.spot {α : Type} {enc : α → List Value} {sz : Nat} {e : TypeId} {w : World} {base n c : Nat} {A : Option Addr} {l : List α} (h : Own enc sz e w base (.slice A n c) l) (hn : 0 < n) : ∃ g, A = some ⟨g, 0, none⟩ ∧ base ≤ g ∧ g < w.heap.size := by
  obtain ⟨b, off, rfl, hb⟩ := h.sl.spot hn
  obtain ⟨h1, h2, h3, _⟩ := h.block rfl
  simp only at h3
  subst h3
  exact ⟨b, rfl, h1, h2⟩
theorem ownRow' {w : World} {base g n c k : Nat} {l : List Row} {e : TypeId} {r : Row} (h : Own encRow 2 e w base (.slice (some ⟨g, 0, none⟩) n c) l) (hx : l[k]? = some r) :
    w.cell? ⟨g, k * 2, none⟩ = some (.string r.1) ∧ w.cell? ⟨g, k * 2 + 1, none⟩ = some (.int .i64 r.2) ∧ w.frozen? ⟨g, k * 2, none⟩ = false ∧ w.frozen? ⟨g, k * 2 + 1, none⟩ = false :=
  ⟨h.cellAt (j := 0) encRow_len hx rfl, h.cellAt (j := 1) encRow_len hx rfl, h.free _, h.free _⟩
def MarkPost (w : World) (base : Nat) (A : Option Addr) (n c k : Nat) (e : Ending) (w' : World) : Prop :=
  e = .returned (.int .i64 ((k + 2 * n : Nat) : Int)) ∧ Own encRow 2 46 w' base (.slice A n c) (marks k n) ∧ Turn A w w'
set_option maxHeartbeats 1000000 in
set_option maxRecDepth 100000 in
theorem markRowS (A : Option Addr) (n c k base : Nat) (l : List Row) (w : World) (hr : Own encRow 2 46 w base (.slice A n c) l) (hn : n ≤ 2097152) (hk0 : 0 < k) (hk : k ≤ 10000000) :
    Calls Try.prog 36 #[.slice A n c, .int .i64 k] w (MarkPost w base A n c k) := by
  have HL := Lib.hid hr.len
  have HR := Lib.hid hr
  clear hr
  by_cases h0 : n = 0
  · subst h0
    go_enter Try.func36, Try.ntmps36
    go_wp2
    go_loopw [1, 5] (fun q i wr => q = .int .i64 k ∧ i = .int .i64 0 ∧ w = wr) (fun _ _ _ => 0)
    case atStart => exact ⟨rfl, rfl, rfl⟩
    case round =>
      obtain ⟨rfl, rfl, rfl⟩ := hrel
      go_wp2
      go_ret
      refine ⟨ret_int (by simp), ?_, Turn.refl _ _⟩
      have h1 := HR.out
      rw [List.eq_nil_of_length_eq_zero HL.out] at h1
      exact h1
  · obtain ⟨g, rfl, hg1, hg2⟩ := HR.out.spot (by omega)
    go_enter Try.func36, Try.ntmps36
    go_wp2
    go_loopw [1, 5] (fun q i wr => ∃ j : Nat, j ≤ n ∧ q = .int .i64 ((k : Int) + 2 * j) ∧ i = .int .i64 j ∧ Own encRow 2 46 wr base (.slice (some ⟨g, 0, none⟩) n c) (mkd l k j) ∧ Turn (some ⟨g, 0, none⟩) w wr) (fun _ i _ => n - (intOf i).toNat)
    case atStart => exact ⟨0, by omega, by simp, rfl, by rw [mkd_zero]; exact HR.out, Turn.refl _ _⟩
    case round =>
      obtain ⟨j, hj, rfl, rfl, hown, ht⟩ := hrel
      by_cases hlt : j < n
      · have hl0 : j < l.length := by rw [HL.out]; exact hlt
        obtain ⟨r, hr0⟩ : ∃ r, l[j]? = some r := ⟨l[j], List.getElem?_eq_getElem hl0⟩
        have i0 : (0 : Int) ≤ (j : Int) := by omega
        have i1 : (j : Int) < (n : Int) := by omega
        have H0 := Lib.hid hr0
        clear hr0
        go_wp2_with fail
        rw [show ((k : Int) + 2 * (j : Int)) = ((k + 2 * j : Nat) : Int) by omega]
        refine (markText (k + 2 * j) _ (by omega) (by omega)).mono ?_
        rintro e w1 ⟨rfl, hb1⟩
        have ho1 := hown.on hb1
        obtain ⟨f1, f2, f3, f4⟩ := ownRow' ho1 (mkd_at l k j H0.out)
        have ho2 := ho1.set1 encRow_len j 0 r (mk (k + 2 * j), r.2) (.string (mk (k + 2 * j))) (mkd_at l k j H0.out) (by omega) rfl
        simp only [Nat.add_zero] at ho2
        obtain ⟨f5, f6, f7, f8⟩ := ownRow' ho2 (show _ = some (mk (k + 2 * j), r.2) by rw [List.getElem?_set, if_pos rfl, if_pos]; exact (List.getElem?_eq_some_iff.1 (mkd_at l k j H0.out)).1)
        have ho3 := ho2.set1 encRow_len j 1 (mk (k + 2 * j), r.2) (markRow k j) (.int .i64 ((k + 2 * j + 1 : Nat) : Int)) (show _ = some (mk (k + 2 * j), r.2) by rw [List.getElem?_set, if_pos rfl, if_pos]; exact (List.getElem?_eq_some_iff.1 (mkd_at l k j H0.out)).1) (by omega) rfl
        rw [List.set_set, mkd_set l k j H0.out] at ho3
        have ht3 := ((ht.below hb1).set (j * 2) (.string (mk (k + 2 * j)))).set (j * 2 + 1) (.int .i64 ((k + 2 * j + 1 : Nat) : Int))
        have HO := Lib.hid ho3
        have HT := Lib.hid ht3
        clear ho3 ht3
        go_wp2
        go_roundw
        case rel =>
          refine ⟨j + 1, by omega, ?_, by go_num, ?_, ?_⟩
          · rw [show (k : Int) + 2 * ((j + 1 : Nat) : Int) = (k : Int) + 2 * (j : Int) + 1 + 1 by omega]
          · have := HO.out
            simpa using this
          · have := HT.out
            simpa using this
        case measure => simp [intOf]; omega
      · obtain rfl : j = n := by omega
        have ho := hown
        rw [mkd_all l k j HL.out] at ho
        go_wp2
        go_ret
        exact ⟨ret_int (by omega), ho, ht⟩

set_option maxHeartbeats 1000000 in
theorem heldRowS (A : Option Addr) (n c k : Nat) (w : World) (hr : Sl encRow w w.heap.size A n (marks k n)) (hn : n ≤ 2097152) (hk0 : 0 < k) (hk : k ≤ 10000000) :
    Calls Try.prog 41 #[.slice A n c, .int .i64 k] w fun e w' => e = .returned (.int .i64 ((k + 2 * n : Nat) : Int)) ∧ Below w.heap.size w w' := by
  go_enter Try.func41, Try.ntmps41
  go_wp2
  go_loopw [1, 5] (fun q i wr => ∃ j : Nat, j ≤ n ∧ q = .int .i64 ((k : Int) + 2 * j) ∧ i = .int .i64 j ∧ Below w.heap.size w wr) (fun _ i _ => n - (intOf i).toNat)
  case atStart => exact ⟨0, by omega, by simp, rfl, Below.refl _ _⟩
  case round =>
    obtain ⟨j, hj, rfl, rfl, hbel⟩ := hrel
    by_cases hlt : j < n
    · obtain ⟨b, off, rfl, hb⟩ := hr.spot (by omega)
      obtain ⟨key, num, hrow, hk1, hk2⟩ := rowAt (hr.keep hbel) hlt
      rw [marks_at hlt] at hrow
      obtain ⟨rfl, rfl⟩ : key = mk (k + 2 * j) ∧ num = ((k + 2 * j + 1 : Nat) : Int) := by
        simp only [markRow, Option.some.injEq, Prod.mk.injEq] at hrow
        exact ⟨hrow.1.symm, hrow.2.symm⟩
      clear hrow
      have i0 : (0 : Int) ≤ (j : Int) := by omega
      have i1 : (j : Int) < (n : Int) := by omega
      have hbb : b < wr.heap.size := World.block_lt_of_cell? wr _ hk1
      have C1 : Hid (∀ W, Calls Try.prog 62 #[.int .i64 ((k : Int) + 2 * j)] W fun e w' => e = .returned (.string (mk (k + 2 * j))) ∧ Below W.heap.size W w') := by
        intro W
        rw [show ((k : Int) + 2 * (j : Int)) = ((k + 2 * j : Nat) : Int) by omega]
        exact markText (k + 2 * j) W (by omega) (by omega)
      go_wp2_with fail
      go_region_held3 (fun w' => w'.cell? ⟨b, off + j * 2, none⟩ = some (.string (mk (k + 2 * j))) ∧ w'.cell? ⟨b, off + j * 2 + 1, none⟩ = some (.int .i64 ((k + 2 * j + 1 : Nat) : Int)) ∧ Below wr.heap.size wr w')
        (first | exact ⟨hk1, hk2, (Below.refl _ _).drew⟩ | exact ⟨kc1, kc2, kc3⟩)
        (first | (go_at_call 62; refine (C1.out _).mono ?_; rintro e w1 ⟨rfl, hb1⟩; have kc3 := bel_trans ((Below.refl _ wr).drew) hb1; have kc1 := (kc3.cell (p := ⟨b, off + j * 2, none⟩) hbb).trans hk1; have kc2 := (kc3.cell (p := ⟨b, off + j * 2 + 1, none⟩) hbb).trans hk2))
      go_wp2
      go_roundw
      case rel => exact ⟨j + 1, by omega, by rw [show (k : Int) + 2 * (j : Int) + 1 + 1 = (k : Int) + 2 * ((j + 1 : Nat) : Int) by omega], by go_num, bel_trans hbel kc3⟩
      case measure => simp [intOf]; omega
    · go_wp2
      go_ret
      exact ⟨ret_int (by omega), hbel⟩
end Go.Proofs.Ytndeehlndbdonaa
