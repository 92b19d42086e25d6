/- Contracts of the laws' own helpers over Write: toWrite, toWriteS, szWrite, szWriteS, eqWrite, eqWriteS. -/
import Derived.Test.YtpmeaikiaoojkaaRows
import Derived.Test.YtpmeaikiaoojkaaK2
import Derived.Test.YtpmeaikiaoojkaaK3
namespace Go.Proofs.Ytpmeaikiaoojkaa
open Go.RowKit

abbrev Write := ByteArray × Int × Bool
def encWrite (x : Write) : List Value := [.string x.1, .int .i64 x.2.1, .bool x.2.2]
theorem encWrite_len (x : Write) : (encWrite x).length = 3 := rfl
def WriteWf (x : Write) : Prop := x.1.size ≤ maxLen
def WriteSWf (l : List Write) : Prop := ∀ x : Write, x ∈ l → WriteWf x
theorem WriteSWf.at_ {l : List Write} (h : WriteSWf l) {k : Nat} {x : Write} (hk : l[k]? = some x) : WriteWf x := h x (List.mem_of_getElem? hk)
theorem atWrite {w : World} {B n b off k : Nat} {l : List Write} (h : Sl encWrite w B (some ⟨b, off, none⟩) n l) (hk : k < n) :
    ∃ f0 f1 f2, l[k]? = some (f0, f1, f2) ∧ w.cell? ⟨b, off + k * 3, none⟩ = some (.string f0) ∧ w.cell? ⟨b, off + k * 3 + 1, none⟩ = some (.int .i64 f1) ∧ w.cell? ⟨b, off + k * 3 + 2, none⟩ = some (.bool f2) := by
  obtain ⟨⟨f0, f1, f2⟩, h1, h2⟩ := h.at_ encWrite_len hk
  exact ⟨f0, f1, f2, h1, h2 0 _ rfl, h2 1 _ rfl, h2 2 _ rfl⟩
theorem info113 : (Try.prog.info? 113).map (fun i => (i.zero, i.size, i.bytes)) = some (some (.agg #[.string ByteArray.empty, .int .i64 0, .bool false]), 3, 32) := by kernel_rfl
def zeroWrite : Write := (ByteArray.empty, 0, false)
def madeWriteS (n : Nat) : Array Value := madeCells (Value.agg #[.string ByteArray.empty, .int .i64 0, .bool false]).cells (n * 3)
theorem madeWriteS_eq (n : Nat) : (madeWriteS n).toList = cellsOf encWrite (List.replicate n zeroWrite) := madeCells_eq encWrite_len (by omega) zeroWrite _ rfl n
theorem make113 (n c : Nat) (hnc : n ≤ c) (h : c ≤ 1048577) (W : World) : (Instr.makeSlice 48 (.int .i64 (n : Int)) (.int .i64 (c : Int))).run Try.prog W = .ok (.slice (some ⟨W.heap.size, 0, none⟩) n c) (W.alloc (.cells (madeWriteS c) 113)) := by
  obtain ⟨i0, hi, hz0, hz1, hz2⟩ := info_parts info113
  have := run_make_rowN (P := Try.prog) 48 113 i0 _ Try.underlying48 hi hz0 .i64 .i64 n c hnc (by rw [hz2]; omega) (by omega) W
  rw [hz1] at this
  exact this

set_option maxHeartbeats 400000 in
theorem toWrite (f0 : ByteArray) (f1 : Int) (f2 : Bool) (w : World) :
    Calls Try.prog 87 #[.agg #[.string f0, .int .i64 f1, .bool f2]] w fun e w' => e = .returned (.agg #[.string f0, .int .i64 f1, .bool f2]) ∧ Below w.heap.size w w' := by
  go_enter Try.func87, Try.ntmps87
  go_wp2
  exact bodyPost_ret (v := .agg #[.string f0, .int .i64 f1, .bool f2]) (by simp [results, Try.results87, go_sem]) rfl ⟨rfl, bel_alloc (bel_alloc (bel_alloc (Below.refl _ _) _) _) _⟩

theorem ownWrite {w : World} {base g n c k : Nat} {l : List Write} {e : TypeId} {f0 : ByteArray} {f1 : Int} {f2 : Bool} (h : Own encWrite 3 e w base (.slice (some ⟨g, 0, none⟩) n c) l) (hx : l[k]? = some (f0, f1, f2)) :
    w.cell? ⟨g, k * 3, none⟩ = some (.string f0) ∧ w.cell? ⟨g, k * 3 + 1, none⟩ = some (.int .i64 f1) ∧ w.cell? ⟨g, k * 3 + 2, none⟩ = some (.bool f2) ∧ w.frozen? ⟨g, k * 3, none⟩ = false ∧ w.frozen? ⟨g, k * 3 + 1, none⟩ = false ∧ w.frozen? ⟨g, k * 3 + 2, none⟩ = false :=
  ⟨h.cellAt (j := 0) encWrite_len hx rfl, h.cellAt (j := 1) encWrite_len hx rfl, h.cellAt (j := 2) encWrite_len hx rfl, h.free _, h.free _, h.free _⟩
theorem setWrite {w : World} {base g n c : Nat} {l : List Write} {e : TypeId} (h : Own encWrite 3 e w base (.slice (some ⟨g, 0, none⟩) n c) l) (k : Nat) {f0 : ByteArray} {f1 : Int} {f2 : Bool} {x : Write} (hx : l[k]? = some x) :
    Own encWrite 3 e (((w.setCell ⟨g, k * 3, none⟩ (.string f0)).setCell ⟨g, k * 3 + 1, none⟩ (.int .i64 f1)).setCell ⟨g, k * 3 + 2, none⟩ (.bool f2)) base (.slice (some ⟨g, 0, none⟩) n c) (l.set k (f0, f1, f2)) := by
  obtain ⟨g0, g1, g2⟩ := x
  have hk : k < l.length := (List.getElem?_eq_some_iff.1 hx).1
  have q0 := h.set1 encWrite_len k 0 (g0, g1, g2) (f0, g1, g2) (.string f0) hx (by omega) rfl
  have x0 : (l.set k (f0, g1, g2))[k]? = some (f0, g1, g2) := by rw [List.getElem?_set, if_pos rfl, if_pos hk]
  have q1 := q0.set1 encWrite_len k 1 (f0, g1, g2) (f0, f1, g2) (.int .i64 f1) x0 (by omega) rfl
  rw [List.set_set] at q1
  have x1 : (l.set k (f0, f1, g2))[k]? = some (f0, f1, g2) := by rw [List.getElem?_set, if_pos rfl, if_pos hk]
  have q2 := q1.set1 encWrite_len k 2 (f0, f1, g2) (f0, f1, f2) (.bool f2) x1 (by omega) rfl
  rw [List.set_set] at q2
  have x2 : (l.set k (f0, f1, f2))[k]? = some (f0, f1, f2) := by rw [List.getElem?_set, if_pos rfl, if_pos hk]
  exact q2
def ToWriteSPost (w : World) (n : Nat) (l : List Write) (e : Ending) (w' : World) : Prop :=
  ∃ v, e = .returned (.slice (some ⟨v, 0, none⟩) n n) ∧ Own encWrite 3 113 w' w.heap.size (.slice (some ⟨v, 0, none⟩) n n) l ∧ Below w.heap.size w w'
set_option maxHeartbeats 1000000 in
theorem toWriteS (A : Option Addr) (n c : Nat) (l : List Write) (w : World) (hr : Sl encWrite w w.heap.size A n l) (hn : n ≤ 1048576) :
    Calls Try.prog 66 #[.slice A n c] w (ToWriteSPost w n l) := by
  have HL := Lib.hid hr.len
  have hmk := make113 n n (Nat.le_refl _) (by omega)
  have h0 : Own encWrite 3 113 (w.alloc (.cells (madeWriteS n) 113)) w.heap.size (.slice (some ⟨w.heap.size, 0, none⟩) n n) (List.replicate n zeroWrite) := by
    have := Own.made (enc := encWrite) (sz := 3) (e := 113) (base := w.heap.size) (l := List.replicate n zeroWrite) w (madeWriteS n) (Nat.le_refl _) (by simp [maxLen]; omega) encWrite_len (madeWriteS_eq n)
    simpa using this
  have H0 := Lib.hid h0
  clear h0
  have hn' : (n : Int) ≤ 1000000000 := by omega
  have HN := Lib.hid hn
  clear hn
  go_enter Try.func66, Try.ntmps66
  go_wp2
  go_loopw [4] (fun i wr => ∃ k : Nat, k ≤ n ∧ i = .int .i64 k ∧ Own encWrite 3 113 wr w.heap.size (.slice (some ⟨w.heap.size, 0, none⟩) n n) (l.take k ++ List.replicate (n - k) zeroWrite) ∧ Below w.heap.size w wr) (fun i _ => n - (intOf i).toNat)
  case atStart => exact ⟨0, by omega, rfl, by simpa using H0.out, bel_alloc (Below.refl _ _) _⟩
  case round =>
    obtain ⟨k, hkn, rfl, hown, hbel⟩ := hrel
    by_cases hlt : k < n
    · obtain ⟨b, off, rfl, hb⟩ := hr.spot (by omega)
      obtain ⟨f0, f1, f2, hrow, hc0, hc1, hc2⟩ := atWrite (hr.keep hbel) hlt
      have HR := Lib.hid hrow
      clear hrow
      have i0 : (0 : Int) ≤ (k : Int) := by omega
      have i1 : (k : Int) < (n : Int) := by omega
      go_wp2_with (go_at_call 87; refine (toWrite _ _ _ _).mono ?_; rintro e W ⟨rfl, hbW⟩; have hownW := hown.on hbW; obtain ⟨p0, p1, p2, p3, p4, p5⟩ := ownWrite hownW (fill_get l zeroWrite n k HL.out hlt))
      go_roundw
      case rel => exact ⟨k + 1, by omega, by go_num, by rw [← fill_set l zeroWrite (f0, f1, f2) n k HL.out HR.out]; exact setWrite hownW k (fill_get l zeroWrite n k HL.out hlt), bel_set (bel_set (bel_set (bel_trans hbel hbW) (Nat.le_refl _) _) (Nat.le_refl _) _) (Nat.le_refl _) _⟩
      case measure => simp [intOf]; omega
    · go_wp2
      go_ret
      rw [fill_all l zeroWrite n k HL.out (by omega)] at hown
      exact ⟨_, rfl, hown, hbel⟩

/-! ### sizes -/
def SzWritePost (w : World) (n : Nat) (left : Int) (e : Ending) (w' : World) : Prop :=
  ∃ v : Int, e = .returned (.int .i64 v) ∧ -1 ≤ v ∧ v ≤ left ∧ (0 ≤ v → (n : Int) ≤ left) ∧ Below w.heap.size w w'
set_option maxHeartbeats 400000 in
theorem szWrite (f0 : ByteArray) (f1 : Int) (f2 : Bool) (left : Int) (w : World) (h : WriteWf (f0, f1, f2)) (h1 : 0 ≤ left) (h2 : left ≤ 1048576) :
    Calls Try.prog 86 #[.agg #[.string f0, .int .i64 f1, .bool f2], .int .i64 left] w (SzWritePost w 0 left) := by
  unfold WriteWf maxLen at h
  simp only at h
  go_enter Try.func86, Try.ntmps86
  go_wp2
  all_goals
    go_ret
    exact ⟨_, rfl, by omega, by omega, by omega, bel_alloc (Below.refl _ _) _⟩
set_option maxHeartbeats 1000000 in
theorem szWriteS (A : Option Addr) (n c : Nat) (l : List Write) (left : Int) (w : World) (hr : Sl encWrite w w.heap.size A n l) (hk : WriteSWf l) (hn : n ≤ maxLen) (h1 : 0 ≤ left) (h2 : left ≤ 1048576) :
    Calls Try.prog 65 #[.slice A n c, .int .i64 left] w (SzWritePost w n left) := by
  unfold maxLen at hn
  by_cases hbig : left < (n : Int)
  · go_enter Try.func65, Try.ntmps65
    go_wp2
    go_ret
    exact ⟨_, rfl, by omega, by omega, by omega, Below.refl _ _⟩
  · have hn2 : (n : Int) ≤ left := by omega
    go_enter Try.func65, Try.ntmps65
    go_wp2
    go_loopw [1, 5] (fun x i wr => ∃ (k : Nat) (v : Int), k ≤ n ∧ i = .int .i64 k ∧ x = .int .i64 v ∧ 0 ≤ v ∧ v ≤ left ∧ Below w.heap.size w wr) (fun _ i _ => n - (intOf i).toNat)
    case atStart => exact ⟨0, left - n, by omega, rfl, rfl, by omega, by omega, Below.refl _ _⟩
    case round =>
      obtain ⟨k, v, hkn, rfl, rfl, hv0, hv1, hbel⟩ := hrel
      by_cases hlt : k < n
      · obtain ⟨b, off, rfl, hb⟩ := hr.spot (by omega)
        obtain ⟨f0, f1, f2, hrow, hc0, hc1, hc2⟩ := atWrite (hr.keep hbel) hlt
        have hks := hk.at_ hrow
        clear hrow
        have i0 : (0 : Int) ≤ (k : Int) := by omega
        have i1 : (k : Int) < (n : Int) := by omega
        go_wp2_with (go_at_call 86; refine (szWrite _ _ _ _ _ hks (by omega) (by omega)).mono ?_; rintro e W ⟨v2, rfl, hv2, hv3, -, hbW⟩)
        · go_ret
          exact ⟨_, rfl, by omega, by omega, by omega, bel_trans hbel hbW⟩
        · go_roundw
          case rel => exact ⟨k + 1, v2, by omega, by go_num, rfl, by omega, by omega, bel_trans hbel hbW⟩
          case measure => simp [intOf]; omega
      · go_wp2
        go_ret
        exact ⟨_, rfl, by omega, by omega, by omega, hbel⟩

/-! ### equality -/
theorem ba_eqWrite {a b : ByteArray} (h : a.toList = b.toList) : a = b := by
  rw [ByteArray.toList_eq, ByteArray.toList_eq] at h
  exact ByteArray.ext (Array.toList_inj.1 h)
def eqWriteB (a b : Write) : Bool := ((a.1.toList == b.1.toList) && ((a.2.1 == b.2.1) && (a.2.2 == b.2.2)))
theorem eqWriteB_iff {a b : Write} : eqWriteB a b = true ↔ a = b := by
  obtain ⟨f0, f1, f2⟩ := a
  obtain ⟨g0, g1, g2⟩ := b
  simp only [eqWriteB, Bool.and_eq_true, beq_iff_eq, Prod.mk.injEq]
  constructor
  · rintro ⟨h0, h1, h2⟩; exact ⟨ba_eqWrite h0, h1, h2⟩
  · rintro ⟨rfl, rfl, rfl⟩; exact ⟨rfl, rfl, rfl⟩
set_option maxHeartbeats 1000000 in
theorem eqWrite (f0 : ByteArray) (f1 : Int) (f2 : Bool) (g0 : ByteArray) (g1 : Int) (g2 : Bool) (w : World) :
    Calls Try.prog 88 #[.agg #[.string f0, .int .i64 f1, .bool f2], .agg #[.string g0, .int .i64 g1, .bool g2]] w fun e w' => e = .returned (.bool (eqWriteB (f0, f1, f2) (g0, g1, g2))) ∧ (w.alloc (.cells #[.string f0, .int .i64 f1, .bool f2] 113)).alloc (.cells #[.string g0, .int .i64 g1, .bool g2] 113) = w' := by
  cases h0 : (f0.toList == g0.toList) <;> cases h1 : (f1 == g1) <;> cases h2 : (f2 == g2)
  all_goals
    have hf : eqWriteB (f0, f1, f2) (g0, g1, g2) = ((f0.toList == g0.toList) && ((f1 == g1) && (f2 == g2))) := rfl
    rw [h0, h1, h2] at hf
    have HF := Lib.hid hf
    clear hf
    have d1 : (f1 != g1) = !(f1 == g1) := rfl
    rw [h1] at d1
    simp only [Bool.not_true, Bool.not_false] at d1
    have d2 : (f2 != g2) = !(f2 == g2) := rfl
    rw [h2] at d2
    simp only [Bool.not_true, Bool.not_false] at d2
    go_enter Try.func88, Try.ntmps88
    go_wp2
    go_ret
    exact ⟨retBool HF.out.symm, rfl⟩

def writeSEq (l m : List Write) : Bool := decide (l = m)
theorem writeSEq_self (l : List Write) : writeSEq l l = true := by simp [writeSEq]
theorem writeSEq_len {l m : List Write} (h : l.length ≠ m.length) : writeSEq l m = false := by
  simp only [writeSEq, decide_eq_false_iff_not]; intro e; exact h (by rw [e])
theorem writeSEq_at {l m : List Write} {k : Nat} {x y : Write} (hx : l[k]? = some x) (hy : m[k]? = some y) (h : eqWriteB x y = false) : writeSEq l m = false := by
  simp only [writeSEq, decide_eq_false_iff_not]
  rintro rfl
  rw [hx] at hy; cases hy
  have := (eqWriteB_iff (a := x) (b := x)).2 rfl
  rw [h] at this; cases this
def EqToWrite (l m : List Write) (k : Nat) : Prop := ∀ i : Nat, i < k → l[i]? = m[i]?
theorem EqToWrite.zero (l m : List Write) : EqToWrite l m 0 := fun _ h => absurd h (by omega)
theorem EqToWrite.step {l m : List Write} {k : Nat} {x y : Write} (h : EqToWrite l m k) (hx : l[k]? = some x) (hy : m[k]? = some y) (he : eqWriteB x y = true) : EqToWrite l m (k + 1) := by
  intro i hi
  by_cases hik : i < k
  · exact h i hik
  · obtain rfl : i = k := by omega
    rw [hx, hy, eqWriteB_iff.1 he]
theorem EqToWrite.all {l m : List Write} {k : Nat} (h : EqToWrite l m k) (hl : l.length ≤ k) (hm : m.length ≤ k) : writeSEq l m = true := by
  simp only [writeSEq, decide_eq_true_eq]
  apply List.ext_getElem?
  intro i
  by_cases hi : i < k
  · exact h i hi
  · rw [List.getElem?_eq_none (by omega), List.getElem?_eq_none (by omega)]
set_option maxHeartbeats 2000000 in
theorem eqWriteS (A B : Option Addr) (n m c d : Nat) (l p : List Write) (w : World) (hr : Sl encWrite w w.heap.size A n l) (hs : Sl encWrite w w.heap.size B m p) (hn : n ≤ 1048576) :
    Calls Try.prog 68 #[.slice A n c, .slice B m d] w fun e w' => e = .returned (.bool (writeSEq l p)) ∧ Below w.heap.size w w' := by
  have HL := Lib.hid hr.len
  have HP := Lib.hid hs.len
  by_cases hnm : n = m
  · subst hnm
    have hne : ((n : Int) != (n : Int)) = false := by simp
    go_enter Try.func68, Try.ntmps68
    go_wp2
    go_loopw [5] (fun i wr => ∃ k : Nat, k ≤ n ∧ i = .int .i64 k ∧ EqToWrite l p k ∧ Below w.heap.size w wr) (fun i _ => n - (intOf i).toNat)
    case atStart => exact ⟨0, by omega, rfl, EqToWrite.zero l p, Below.refl _ _⟩
    case round =>
      obtain ⟨k, hkn, rfl, heq, hbel⟩ := hrel
      by_cases hlt : k < n
      · obtain ⟨b, off, rfl, hb⟩ := hr.spot (by omega)
        obtain ⟨b2, off2, rfl, hb2⟩ := hs.spot (by omega)
        obtain ⟨f0, f1, f2, hrow, ha0, ha1, ha2⟩ := atWrite (hr.keep hbel) hlt
        obtain ⟨g0, g1, g2, hrow2, hb0, hb1, hbz2⟩ := atWrite (hs.keep hbel) hlt
        have HR := Lib.hid hrow
        have HR2 := Lib.hid hrow2
        clear hrow hrow2
        have i0 : (0 : Int) ≤ (k : Int) := by omega
        have i1 : (k : Int) < (n : Int) := by omega
        have na0 := World.new_ne wr _ ha0
        have na1 := World.new_ne wr _ ha1
        have na2 := World.new_ne wr _ ha2
        have nb0 := World.new_ne wr _ hb0
        have nb1 := World.new_ne wr _ hb1
        have nb2 := World.new_ne wr _ hbz2
        cases he : eqWriteB (f0, f1, f2) (g0, g1, g2)
        all_goals
          have c1 := fun W => eqWrite f0 f1 f2 g0 g1 g2 W
          rw [he] at c1
          have C1 := Lib.hid c1
          have HE := Lib.hid he
          clear c1 he
          go_wp2_with fail
          go_region_held3 (fun w' => w'.cell? ⟨b, off + k * 3, none⟩ = some (.string f0) ∧ w'.cell? ⟨b, off + k * 3 + 1, none⟩ = some (.int .i64 f1) ∧ w'.cell? ⟨b, off + k * 3 + 2, none⟩ = some (.bool f2) ∧ w'.cell? ⟨b2, off2 + k * 3, none⟩ = some (.string g0) ∧ w'.cell? ⟨b2, off2 + k * 3 + 1, none⟩ = some (.int .i64 g1) ∧ w'.cell? ⟨b2, off2 + k * 3 + 2, none⟩ = some (.bool g2))
            (go_keep)
            (first | (go_at_call 88; refine (C1.out _).mono ?_; rintro e w' ⟨rfl, rfl⟩))
          go_wp2
        · go_ret
          exact ⟨retBool (writeSEq_at HR.out HR2.out HE.out).symm, (bel_alloc (bel_alloc hbel _) _).drew⟩
        · go_roundw
          case rel => exact ⟨k + 1, by omega, by go_num, heq.step HR.out HR2.out HE.out, (bel_alloc (bel_alloc hbel _) _).drew⟩
          case measure => simp [intOf]; omega
      · go_wp2
        go_ret
        exact ⟨retBool (heq.all (by rw [HL.out]; omega) (by rw [HP.out]; omega)).symm, hbel⟩
  · have hf : writeSEq l p = false := writeSEq_len (by rw [HL.out, HP.out]; exact hnm)
    have HF := Lib.hid hf
    clear hf
    have hne : ((n : Int) != (m : Int)) = true := by simp; omega
    clear hnm
    go_enter Try.func68, Try.ntmps68
    go_wp2
    go_ret
    exact ⟨retBool HF.out.symm, Below.refl _ _⟩
end Go.Proofs.Ytpmeaikiaoojkaa
