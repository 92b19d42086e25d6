/- Contracts of the laws' own helpers over Ev: toEv, toEvS, szEv, szEvS, eqEv, eqEvS. -/
import Derived.Test.YtpofgidhhcolfaaRows
import Derived.Test.YtpofgidhhcolfaaK2
import Derived.Test.YtpofgidhhcolfaaK3
namespace Go.Proofs.Ytpofgidhhcolfaa
open Go.RowKit

abbrev Ev := Int × Int × ByteArray
def encEv (x : Ev) : List Value := [.int .i64 x.1, .int .i64 x.2.1, .string x.2.2]
theorem encEv_len (x : Ev) : (encEv x).length = 3 := rfl
def EvWf (x : Ev) : Prop := x.2.2.size ≤ maxLen
def EvSWf (l : List Ev) : Prop := ∀ x : Ev, x ∈ l → EvWf x
theorem EvSWf.at_ {l : List Ev} (h : EvSWf l) {k : Nat} {x : Ev} (hk : l[k]? = some x) : EvWf x := h x (List.mem_of_getElem? hk)
theorem atEv {w : World} {B n b off k : Nat} {l : List Ev} (h : Sl encEv w B (some ⟨b, off, none⟩) n l) (hk : k < n) :
    ∃ f0 f1 f2, l[k]? = some (f0, f1, f2) ∧ w.cell? ⟨b, off + k * 3, none⟩ = some (.int .i64 f0) ∧ w.cell? ⟨b, off + k * 3 + 1, none⟩ = some (.int .i64 f1) ∧ w.cell? ⟨b, off + k * 3 + 2, none⟩ = some (.string f2) := by
  obtain ⟨⟨f0, f1, f2⟩, h1, h2⟩ := h.at_ encEv_len hk
  exact ⟨f0, f1, f2, h1, h2 0 _ rfl, h2 1 _ rfl, h2 2 _ rfl⟩
theorem info100 : (Try.prog.info? 100).map (fun i => (i.zero, i.size, i.bytes)) = some (some (.agg #[.int .i64 0, .int .i64 0, .string ByteArray.empty]), 3, 32) := by kernel_rfl
def zeroEv : Ev := (0, 0, ByteArray.empty)
def madeEvS (n : Nat) : Array Value := madeCells (Value.agg #[.int .i64 0, .int .i64 0, .string ByteArray.empty]).cells (n * 3)
theorem madeEvS_eq (n : Nat) : (madeEvS n).toList = cellsOf encEv (List.replicate n zeroEv) := madeCells_eq encEv_len (by omega) zeroEv _ rfl n
theorem make100 (n c : Nat) (hnc : n ≤ c) (h : c ≤ 1048577) (W : World) : (Instr.makeSlice 44 (.int .i64 (n : Int)) (.int .i64 (c : Int))).run Try.prog W = .ok (.slice (some ⟨W.heap.size, 0, none⟩) n c) (W.alloc (.cells (madeEvS c) 100)) := by
  obtain ⟨i0, hi, hz0, hz1, hz2⟩ := info_parts info100
  have := run_make_rowN (P := Try.prog) 44 100 i0 _ Try.underlying44 hi hz0 .i64 .i64 n c hnc (by rw [hz2]; omega) (by omega) W
  rw [hz1] at this
  exact this

set_option maxHeartbeats 400000 in
theorem toEv (f0 : Int) (f1 : Int) (f2 : ByteArray) (w : World) :
    Calls Try.prog 79 #[.agg #[.int .i64 f0, .int .i64 f1, .string f2]] w fun e w' => e = .returned (.agg #[.int .i64 f0, .int .i64 f1, .string f2]) ∧ Below w.heap.size w w' := by
  go_enter Try.func79, Try.ntmps79
  go_wp2
  exact bodyPost_ret (v := .agg #[.int .i64 f0, .int .i64 f1, .string f2]) (by simp [results, Try.results79, go_sem]) rfl ⟨rfl, bel_alloc (bel_alloc (bel_alloc (Below.refl _ _) _) _) _⟩

theorem ownEv {w : World} {base g n c k : Nat} {l : List Ev} {e : TypeId} {f0 : Int} {f1 : Int} {f2 : ByteArray} (h : Own encEv 3 e w base (.slice (some ⟨g, 0, none⟩) n c) l) (hx : l[k]? = some (f0, f1, f2)) :
    w.cell? ⟨g, k * 3, none⟩ = some (.int .i64 f0) ∧ w.cell? ⟨g, k * 3 + 1, none⟩ = some (.int .i64 f1) ∧ w.cell? ⟨g, k * 3 + 2, none⟩ = some (.string f2) ∧ w.frozen? ⟨g, k * 3, none⟩ = false ∧ w.frozen? ⟨g, k * 3 + 1, none⟩ = false ∧ w.frozen? ⟨g, k * 3 + 2, none⟩ = false :=
  ⟨h.cellAt (j := 0) encEv_len hx rfl, h.cellAt (j := 1) encEv_len hx rfl, h.cellAt (j := 2) encEv_len hx rfl, h.free _, h.free _, h.free _⟩
theorem setEv {w : World} {base g n c : Nat} {l : List Ev} {e : TypeId} (h : Own encEv 3 e w base (.slice (some ⟨g, 0, none⟩) n c) l) (k : Nat) {f0 : Int} {f1 : Int} {f2 : ByteArray} {x : Ev} (hx : l[k]? = some x) :
    Own encEv 3 e (((w.setCell ⟨g, k * 3, none⟩ (.int .i64 f0)).setCell ⟨g, k * 3 + 1, none⟩ (.int .i64 f1)).setCell ⟨g, k * 3 + 2, none⟩ (.string f2)) base (.slice (some ⟨g, 0, none⟩) n c) (l.set k (f0, f1, f2)) := by
  obtain ⟨g0, g1, g2⟩ := x
  have hk : k < l.length := (List.getElem?_eq_some_iff.1 hx).1
  have q0 := h.set1 encEv_len k 0 (g0, g1, g2) (f0, g1, g2) (.int .i64 f0) hx (by omega) rfl
  have x0 : (l.set k (f0, g1, g2))[k]? = some (f0, g1, g2) := by rw [List.getElem?_set, if_pos rfl, if_pos hk]
  have q1 := q0.set1 encEv_len k 1 (f0, g1, g2) (f0, f1, g2) (.int .i64 f1) x0 (by omega) rfl
  rw [List.set_set] at q1
  have x1 : (l.set k (f0, f1, g2))[k]? = some (f0, f1, g2) := by rw [List.getElem?_set, if_pos rfl, if_pos hk]
  have q2 := q1.set1 encEv_len k 2 (f0, f1, g2) (f0, f1, f2) (.string f2) x1 (by omega) rfl
  rw [List.set_set] at q2
  have x2 : (l.set k (f0, f1, f2))[k]? = some (f0, f1, f2) := by rw [List.getElem?_set, if_pos rfl, if_pos hk]
  exact q2
def ToEvSPost (w : World) (n : Nat) (l : List Ev) (e : Ending) (w' : World) : Prop :=
  ∃ v, e = .returned (.slice (some ⟨v, 0, none⟩) n n) ∧ Own encEv 3 100 w' w.heap.size (.slice (some ⟨v, 0, none⟩) n n) l ∧ Below w.heap.size w w'
set_option maxHeartbeats 1000000 in
theorem toEvS (A : Option Addr) (n c : Nat) (l : List Ev) (w : World) (hr : Sl encEv w w.heap.size A n l) (hn : n ≤ 1048576) :
    Calls Try.prog 31 #[.slice A n c] w (ToEvSPost w n l) := by
  have HL := Lib.hid hr.len
  have hmk := make100 n n (Nat.le_refl _) (by omega)
  have h0 : Own encEv 3 100 (w.alloc (.cells (madeEvS n) 100)) w.heap.size (.slice (some ⟨w.heap.size, 0, none⟩) n n) (List.replicate n zeroEv) := by
    have := Own.made (enc := encEv) (sz := 3) (e := 100) (base := w.heap.size) (l := List.replicate n zeroEv) w (madeEvS n) (Nat.le_refl _) (by simp [maxLen]; omega) encEv_len (madeEvS_eq n)
    simpa using this
  have H0 := Lib.hid h0
  clear h0
  have hn' : (n : Int) ≤ 1000000000 := by omega
  have HN := Lib.hid hn
  clear hn
  go_enter Try.func31, Try.ntmps31
  go_wp2
  go_loopw [4] (fun i wr => ∃ k : Nat, k ≤ n ∧ i = .int .i64 k ∧ Own encEv 3 100 wr w.heap.size (.slice (some ⟨w.heap.size, 0, none⟩) n n) (l.take k ++ List.replicate (n - k) zeroEv) ∧ Below w.heap.size w wr) (fun i _ => n - (intOf i).toNat)
  case atStart => exact ⟨0, by omega, rfl, by simpa using H0.out, bel_alloc (Below.refl _ _) _⟩
  case round =>
    obtain ⟨k, hkn, rfl, hown, hbel⟩ := hrel
    by_cases hlt : k < n
    · obtain ⟨b, off, rfl, hb⟩ := hr.spot (by omega)
      obtain ⟨f0, f1, f2, hrow, hc0, hc1, hc2⟩ := atEv (hr.keep hbel) hlt
      have HR := Lib.hid hrow
      clear hrow
      have i0 : (0 : Int) ≤ (k : Int) := by omega
      have i1 : (k : Int) < (n : Int) := by omega
      go_wp2_with (go_at_call 79; refine (toEv _ _ _ _).mono ?_; rintro e W ⟨rfl, hbW⟩; have hownW := hown.on hbW; obtain ⟨p0, p1, p2, p3, p4, p5⟩ := ownEv hownW (fill_get l zeroEv n k HL.out hlt))
      go_roundw
      case rel => exact ⟨k + 1, by omega, by go_num, by rw [← fill_set l zeroEv (f0, f1, f2) n k HL.out HR.out]; exact setEv hownW k (fill_get l zeroEv n k HL.out hlt), bel_set (bel_set (bel_set (bel_trans hbel hbW) (Nat.le_refl _) _) (Nat.le_refl _) _) (Nat.le_refl _) _⟩
      case measure => simp [intOf]; omega
    · go_wp2
      go_ret
      rw [fill_all l zeroEv n k HL.out (by omega)] at hown
      exact ⟨_, rfl, hown, hbel⟩

/-! ### sizes -/
def SzEvPost (w : World) (n : Nat) (left : Int) (e : Ending) (w' : World) : Prop :=
  ∃ v : Int, e = .returned (.int .i64 v) ∧ -1 ≤ v ∧ v ≤ left ∧ (0 ≤ v → (n : Int) ≤ left) ∧ Below w.heap.size w w'
set_option maxHeartbeats 400000 in
theorem szEv (f0 : Int) (f1 : Int) (f2 : ByteArray) (left : Int) (w : World) (h : EvWf (f0, f1, f2)) (h1 : 0 ≤ left) (h2 : left ≤ 1048576) :
    Calls Try.prog 78 #[.agg #[.int .i64 f0, .int .i64 f1, .string f2], .int .i64 left] w (SzEvPost w 0 left) := by
  unfold EvWf maxLen at h
  simp only at h
  go_enter Try.func78, Try.ntmps78
  go_wp2
  all_goals
    go_ret
    exact ⟨_, rfl, by omega, by omega, by omega, bel_alloc (Below.refl _ _) _⟩
set_option maxHeartbeats 1000000 in
theorem szEvS (A : Option Addr) (n c : Nat) (l : List Ev) (left : Int) (w : World) (hr : Sl encEv w w.heap.size A n l) (hk : EvSWf l) (hn : n ≤ maxLen) (h1 : 0 ≤ left) (h2 : left ≤ 1048576) :
    Calls Try.prog 29 #[.slice A n c, .int .i64 left] w (SzEvPost w n left) := by
  unfold maxLen at hn
  by_cases hbig : left < (n : Int)
  · go_enter Try.func29, Try.ntmps29
    go_wp2
    go_ret
    exact ⟨_, rfl, by omega, by omega, by omega, Below.refl _ _⟩
  · have hn2 : (n : Int) ≤ left := by omega
    go_enter Try.func29, Try.ntmps29
    go_wp2
    go_loopw [1, 5] (fun x i wr => ∃ (k : Nat) (v : Int), k ≤ n ∧ i = .int .i64 k ∧ x = .int .i64 v ∧ 0 ≤ v ∧ v ≤ left ∧ Below w.heap.size w wr) (fun _ i _ => n - (intOf i).toNat)
    case atStart => exact ⟨0, left - n, by omega, rfl, rfl, by omega, by omega, Below.refl _ _⟩
    case round =>
      obtain ⟨k, v, hkn, rfl, rfl, hv0, hv1, hbel⟩ := hrel
      by_cases hlt : k < n
      · obtain ⟨b, off, rfl, hb⟩ := hr.spot (by omega)
        obtain ⟨f0, f1, f2, hrow, hc0, hc1, hc2⟩ := atEv (hr.keep hbel) hlt
        have hks := hk.at_ hrow
        clear hrow
        have i0 : (0 : Int) ≤ (k : Int) := by omega
        have i1 : (k : Int) < (n : Int) := by omega
        go_wp2_with (go_at_call 78; refine (szEv _ _ _ _ _ hks (by omega) (by omega)).mono ?_; rintro e W ⟨v2, rfl, hv2, hv3, -, hbW⟩)
        · go_ret
          exact ⟨_, rfl, by omega, by omega, by omega, bel_trans hbel hbW⟩
        · go_roundw
          case rel => exact ⟨k + 1, v2, by omega, by go_num, rfl, by omega, by omega, bel_trans hbel hbW⟩
          case measure => simp [intOf]; omega
      · go_wp2
        go_ret
        exact ⟨_, rfl, by omega, by omega, by omega, hbel⟩

/-! ### equality -/
theorem ba_eqEv {a b : ByteArray} (h : a.toList = b.toList) : a = b := by
  rw [ByteArray.toList_eq, ByteArray.toList_eq] at h
  exact ByteArray.ext (Array.toList_inj.1 h)
def eqEvB (a b : Ev) : Bool := ((a.1 == b.1) && ((a.2.1 == b.2.1) && (a.2.2.toList == b.2.2.toList)))
theorem eqEvB_iff {a b : Ev} : eqEvB a b = true ↔ a = b := by
  obtain ⟨f0, f1, f2⟩ := a
  obtain ⟨g0, g1, g2⟩ := b
  simp only [eqEvB, Bool.and_eq_true, beq_iff_eq, Prod.mk.injEq]
  constructor
  · rintro ⟨h0, h1, h2⟩; exact ⟨h0, h1, ba_eqEv h2⟩
  · rintro ⟨rfl, rfl, rfl⟩; exact ⟨rfl, rfl, rfl⟩
set_option maxHeartbeats 1000000 in
theorem eqEv (f0 : Int) (f1 : Int) (f2 : ByteArray) (g0 : Int) (g1 : Int) (g2 : ByteArray) (w : World) :
    Calls Try.prog 80 #[.agg #[.int .i64 f0, .int .i64 f1, .string f2], .agg #[.int .i64 g0, .int .i64 g1, .string g2]] w fun e w' => e = .returned (.bool (eqEvB (f0, f1, f2) (g0, g1, g2))) ∧ (w.alloc (.cells #[.int .i64 f0, .int .i64 f1, .string f2] 100)).alloc (.cells #[.int .i64 g0, .int .i64 g1, .string g2] 100) = w' := by
  cases h0 : (f0 == g0) <;> cases h1 : (f1 == g1) <;> cases h2 : (f2.toList == g2.toList)
  all_goals
    have hf : eqEvB (f0, f1, f2) (g0, g1, g2) = ((f0 == g0) && ((f1 == g1) && (f2.toList == g2.toList))) := rfl
    rw [h0, h1, h2] at hf
    have HF := Lib.hid hf
    clear hf
    have d0 : (f0 != g0) = !(f0 == g0) := rfl
    rw [h0] at d0
    simp only [Bool.not_true, Bool.not_false] at d0
    have d1 : (f1 != g1) = !(f1 == g1) := rfl
    rw [h1] at d1
    simp only [Bool.not_true, Bool.not_false] at d1
    go_enter Try.func80, Try.ntmps80
    go_wp2
    go_ret
    exact ⟨retBool HF.out.symm, rfl⟩

def evSEq (l m : List Ev) : Bool := decide (l = m)
theorem evSEq_self (l : List Ev) : evSEq l l = true := by simp [evSEq]
theorem evSEq_len {l m : List Ev} (h : l.length ≠ m.length) : evSEq l m = false := by
  simp only [evSEq, decide_eq_false_iff_not]; intro e; exact h (by rw [e])
theorem evSEq_at {l m : List Ev} {k : Nat} {x y : Ev} (hx : l[k]? = some x) (hy : m[k]? = some y) (h : eqEvB x y = false) : evSEq l m = false := by
  simp only [evSEq, decide_eq_false_iff_not]
  rintro rfl
  rw [hx] at hy; cases hy
  have := (eqEvB_iff (a := x) (b := x)).2 rfl
  rw [h] at this; cases this
def EqToEv (l m : List Ev) (k : Nat) : Prop := ∀ i : Nat, i < k → l[i]? = m[i]?
theorem EqToEv.zero (l m : List Ev) : EqToEv l m 0 := fun _ h => absurd h (by omega)
theorem EqToEv.step {l m : List Ev} {k : Nat} {x y : Ev} (h : EqToEv l m k) (hx : l[k]? = some x) (hy : m[k]? = some y) (he : eqEvB x y = true) : EqToEv l m (k + 1) := by
  intro i hi
  by_cases hik : i < k
  · exact h i hik
  · obtain rfl : i = k := by omega
    rw [hx, hy, eqEvB_iff.1 he]
theorem EqToEv.all {l m : List Ev} {k : Nat} (h : EqToEv l m k) (hl : l.length ≤ k) (hm : m.length ≤ k) : evSEq l m = true := by
  simp only [evSEq, decide_eq_true_eq]
  apply List.ext_getElem?
  intro i
  by_cases hi : i < k
  · exact h i hi
  · rw [List.getElem?_eq_none (by omega), List.getElem?_eq_none (by omega)]
set_option maxHeartbeats 2000000 in
theorem eqEvS (A B : Option Addr) (n m c d : Nat) (l p : List Ev) (w : World) (hr : Sl encEv w w.heap.size A n l) (hs : Sl encEv w w.heap.size B m p) (hn : n ≤ 1048576) :
    Calls Try.prog 33 #[.slice A n c, .slice B m d] w fun e w' => e = .returned (.bool (evSEq l p)) ∧ Below w.heap.size w w' := by
  have HL := Lib.hid hr.len
  have HP := Lib.hid hs.len
  by_cases hnm : n = m
  · subst hnm
    have hne : ((n : Int) != (n : Int)) = false := by simp
    go_enter Try.func33, Try.ntmps33
    go_wp2
    go_loopw [5] (fun i wr => ∃ k : Nat, k ≤ n ∧ i = .int .i64 k ∧ EqToEv l p k ∧ Below w.heap.size w wr) (fun i _ => n - (intOf i).toNat)
    case atStart => exact ⟨0, by omega, rfl, EqToEv.zero l p, Below.refl _ _⟩
    case round =>
      obtain ⟨k, hkn, rfl, heq, hbel⟩ := hrel
      by_cases hlt : k < n
      · obtain ⟨b, off, rfl, hb⟩ := hr.spot (by omega)
        obtain ⟨b2, off2, rfl, hb2⟩ := hs.spot (by omega)
        obtain ⟨f0, f1, f2, hrow, ha0, ha1, ha2⟩ := atEv (hr.keep hbel) hlt
        obtain ⟨g0, g1, g2, hrow2, hb0, hb1, hbz2⟩ := atEv (hs.keep hbel) hlt
        have HR := Lib.hid hrow
        have HR2 := Lib.hid hrow2
        clear hrow hrow2
        have i0 : (0 : Int) ≤ (k : Int) := by omega
        have i1 : (k : Int) < (n : Int) := by omega
        have na0 := World.new_ne wr _ ha0
        have na1 := World.new_ne wr _ ha1
        have na2 := World.new_ne wr _ ha2
        have nb0 := World.new_ne wr _ hb0
        have nb1 := World.new_ne wr _ hb1
        have nb2 := World.new_ne wr _ hbz2
        cases he : eqEvB (f0, f1, f2) (g0, g1, g2)
        all_goals
          have c1 := fun W => eqEv f0 f1 f2 g0 g1 g2 W
          rw [he] at c1
          have C1 := Lib.hid c1
          have HE := Lib.hid he
          clear c1 he
          go_wp2_with fail
          go_region_held3 (fun w' => w'.cell? ⟨b, off + k * 3, none⟩ = some (.int .i64 f0) ∧ w'.cell? ⟨b, off + k * 3 + 1, none⟩ = some (.int .i64 f1) ∧ w'.cell? ⟨b, off + k * 3 + 2, none⟩ = some (.string f2) ∧ w'.cell? ⟨b2, off2 + k * 3, none⟩ = some (.int .i64 g0) ∧ w'.cell? ⟨b2, off2 + k * 3 + 1, none⟩ = some (.int .i64 g1) ∧ w'.cell? ⟨b2, off2 + k * 3 + 2, none⟩ = some (.string g2))
            (go_keep)
            (first | (go_at_call 80; refine (C1.out _).mono ?_; rintro e w' ⟨rfl, rfl⟩))
          go_wp2
        · go_ret
          exact ⟨retBool (evSEq_at HR.out HR2.out HE.out).symm, (bel_alloc (bel_alloc hbel _) _).drew⟩
        · go_roundw
          case rel => exact ⟨k + 1, by omega, by go_num, heq.step HR.out HR2.out HE.out, (bel_alloc (bel_alloc hbel _) _).drew⟩
          case measure => simp [intOf]; omega
      · go_wp2
        go_ret
        exact ⟨retBool (heq.all (by rw [HL.out]; omega) (by rw [HP.out]; omega)).symm, hbel⟩
  · have hf : evSEq l p = false := evSEq_len (by rw [HL.out, HP.out]; exact hnm)
    have HF := Lib.hid hf
    clear hf
    have hne : ((n : Int) != (m : Int)) = true := by simp; omega
    clear hnm
    go_enter Try.func33, Try.ntmps33
    go_wp2
    go_ret
    exact ⟨retBool HF.out.symm, Below.refl _ _⟩
end Go.Proofs.Ytpofgidhhcolfaa
