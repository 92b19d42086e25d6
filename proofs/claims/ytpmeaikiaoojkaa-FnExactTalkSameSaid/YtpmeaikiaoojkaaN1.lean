/- Contracts of the laws' own helpers over Named: toNamed, toNamedS, szNamed, szNamedS, eqNamed, eqNamedS. -/
import Derived.Test.YtpmeaikiaoojkaaRows
import Derived.Test.YtpmeaikiaoojkaaK2
import Derived.Test.YtpmeaikiaoojkaaK3
import Derived.Test.YtpmeaikiaoojkaaQ
namespace Go.Proofs.Ytpmeaikiaoojkaa
open Go.RowKit

abbrev Named := ByteArray × Int × ByteArray × ByteArray × Int
def encNamed (x : Named) : List Value := [.string x.1, .int .i64 x.2.1, .string x.2.2.1, .string x.2.2.2.1, .int .i64 x.2.2.2.2]
theorem encNamed_len (x : Named) : (encNamed x).length = 5 := rfl
def NamedWf (x : Named) : Prop := x.1.size ≤ maxLen ∧ x.2.2.1.size ≤ maxLen ∧ x.2.2.2.1.size ≤ maxLen
def NamedSWf (l : List Named) : Prop := ∀ x : Named, x ∈ l → NamedWf x
theorem NamedSWf.at_ {l : List Named} (h : NamedSWf l) {k : Nat} {x : Named} (hk : l[k]? = some x) : NamedWf x := h x (List.mem_of_getElem? hk)
theorem atNamed {w : World} {B n b off k : Nat} {l : List Named} (h : Sl encNamed w B (some ⟨b, off, none⟩) n l) (hk : k < n) :
    ∃ f0 f1 f2 f3 f4, l[k]? = some (f0, f1, f2, f3, f4) ∧ w.cell? ⟨b, off + k * 5, none⟩ = some (.string f0) ∧ w.cell? ⟨b, off + k * 5 + 1, none⟩ = some (.int .i64 f1) ∧ w.cell? ⟨b, off + k * 5 + 2, none⟩ = some (.string f2) ∧ w.cell? ⟨b, off + k * 5 + 3, none⟩ = some (.string f3) ∧ w.cell? ⟨b, off + k * 5 + 4, none⟩ = some (.int .i64 f4) := by
  obtain ⟨⟨f0, f1, f2, f3, f4⟩, h1, h2⟩ := h.at_ encNamed_len hk
  exact ⟨f0, f1, f2, f3, f4, h1, h2 0 _ rfl, h2 1 _ rfl, h2 2 _ rfl, h2 3 _ rfl, h2 4 _ rfl⟩
theorem info64 : (Try.prog.info? 64).map (fun i => (i.zero, i.size, i.bytes)) = some (some (.agg #[.string ByteArray.empty, .int .i64 0, .string ByteArray.empty, .string ByteArray.empty, .int .i64 0]), 5, 64) := by kernel_rfl
def zeroNamed : Named := (ByteArray.empty, 0, ByteArray.empty, ByteArray.empty, 0)
def madeNamedS (n : Nat) : Array Value := madeCells (Value.agg #[.string ByteArray.empty, .int .i64 0, .string ByteArray.empty, .string ByteArray.empty, .int .i64 0]).cells (n * 5)
theorem madeNamedS_eq (n : Nat) : (madeNamedS n).toList = cellsOf encNamed (List.replicate n zeroNamed) := madeCells_eq encNamed_len (by omega) zeroNamed _ rfl n
theorem make64 (n c : Nat) (hnc : n ≤ c) (h : c ≤ 1048577) (W : World) : (Instr.makeSlice 55 (.int .i64 (n : Int)) (.int .i64 (c : Int))).run Try.prog W = .ok (.slice (some ⟨W.heap.size, 0, none⟩) n c) (W.alloc (.cells (madeNamedS c) 64)) := by
  obtain ⟨i0, hi, hz0, hz1, hz2⟩ := info_parts info64
  have := run_make_rowN (P := Try.prog) 55 64 i0 _ Try.underlying55 hi hz0 .i64 .i64 n c hnc (by rw [hz2]; omega) (by omega) W
  rw [hz1] at this
  exact this

abbrev Ask := Int × ByteArray × ByteArray × Int
set_option maxHeartbeats 400000 in
theorem toAsk (f1 : Int) (f2 f3 : ByteArray) (f4 : Int) (w : World) :
    Calls Try.prog 105 #[.agg #[.int .i64 f1, .string f2, .string f3, .int .i64 f4]] w fun e w' => e = .returned (.agg #[.int .i64 f1, .string f2, .string f3, .int .i64 f4]) ∧ Below w.heap.size w w' := by
  go_enter Try.func105, Try.ntmps105
  go_wp2
  exact bodyPost_ret (v := .agg #[.int .i64 f1, .string f2, .string f3, .int .i64 f4]) (by simp [results, Try.results105, go_sem]) rfl ⟨rfl, bel_alloc (bel_alloc (bel_alloc (Below.refl _ _) _) _) _⟩
set_option maxHeartbeats 1000000 in
theorem toNamed (f0 : ByteArray) (f1 : Int) (f2 : ByteArray) (f3 : ByteArray) (f4 : Int) (w : World) :
    Calls Try.prog 83 #[.agg #[.string f0, .int .i64 f1, .string f2, .string f3, .int .i64 f4]] w fun e w' => e = .returned (.agg #[.string f0, .int .i64 f1, .string f2, .string f3, .int .i64 f4]) ∧ Below w.heap.size w w' := by
  have b0 := bel_alloc (Below.refl _ w) (.cells #[.string f0, .int .i64 f1, .string f2, .string f3, .int .i64 f4] 137)
  have b1 := bel_alloc b0 (.cells #[.string ByteArray.empty, .int .i64 0, .string ByteArray.empty, .string ByteArray.empty, .int .i64 0] 64)
  have x2 := BoxC.new (w.alloc (.cells #[.string f0, .int .i64 f1, .string f2, .string f3, .int .i64 f4] 137)) 64 #[.string ByteArray.empty, .int .i64 0, .string ByteArray.empty, .string ByteArray.empty, .int .i64 0]
  have b2 := bel_alloc b1 (.cells #[.string f0, .int .i64 0, .string ByteArray.empty, .string ByteArray.empty, .int .i64 0] 64)
  have x3 := BoxC.new ((w.alloc (.cells #[.string f0, .int .i64 f1, .string f2, .string f3, .int .i64 f4] 137)).alloc (.cells #[.string ByteArray.empty, .int .i64 0, .string ByteArray.empty, .string ByteArray.empty, .int .i64 0] 64)) 64 #[.string f0, .int .i64 0, .string ByteArray.empty, .string ByteArray.empty, .int .i64 0]
  replace x2 := x2.alloc (.cells #[.string f0, .int .i64 0, .string ByteArray.empty, .string ByteArray.empty, .int .i64 0] 64)
  simp only [World.size_alloc] at x2 x3
  clear b0 b1
  go_enter Try.func83, Try.ntmps83
  go_wp2_with fail
  refine (toAsk f1 f2 f3 f4 _).mono ?_
  rintro e w1 ⟨rfl, hb⟩
  replace x2 := x2.on hb
  replace x3 := x3.on hb
  have b3 := bel_trans b2 hb
  have hz := x3.lt
  have c30 := x3.c (k := 0) rfl
  have c31 := x3.c (k := 1) rfl
  have c32 := x3.c (k := 2) rfl
  have c33 := x3.c (k := 3) rfl
  have c34 := x3.c (k := 4) rfl
  have f31 := x3.f 1
  have f32 := x3.f 2
  have f33 := x3.f 3
  have f34 := x3.f 4
  have c20 := x2.c (k := 0) rfl
  have c21 := x2.c (k := 1) rfl
  have c22 := x2.c (k := 2) rfl
  have c23 := x2.c (k := 3) rfl
  have c24 := x2.c (k := 4) rfl
  have f20 := x2.f 0
  have f21 := x2.f 1
  have f22 := x2.f 2
  have f23 := x2.f 3
  have f24 := x2.f 4
  have B6 := Lib.hid (bel_set (bel_set (bel_set (bel_set (bel_set (bel_set (bel_set (bel_set (bel_set b3 (p := ⟨w.heap.size + 1 + 1, 1, none⟩) (by simp only; omega) (.int .i64 f1)) (p := ⟨w.heap.size + 1 + 1, 2, none⟩) (by simp only; omega) (.string f2)) (p := ⟨w.heap.size + 1 + 1, 3, none⟩) (by simp only; omega) (.string f3)) (p := ⟨w.heap.size + 1 + 1, 4, none⟩) (by simp only; omega) (.int .i64 f4)) (p := ⟨w.heap.size + 1, 0, none⟩) (by simp only; omega) (.string f0)) (p := ⟨w.heap.size + 1, 1, none⟩) (by simp only; omega) (.int .i64 f1)) (p := ⟨w.heap.size + 1, 2, none⟩) (by simp only; omega) (.string f2)) (p := ⟨w.heap.size + 1, 3, none⟩) (by simp only; omega) (.string f3)) (p := ⟨w.heap.size + 1, 4, none⟩) (by simp only; omega) (.int .i64 f4))
  clear x2 x3 hb b2 b3
  go_wp2_with fail
  exact bodyPost_ret (v := .agg #[.string f0, .int .i64 f1, .string f2, .string f3, .int .i64 f4]) (by simp [results, Try.results83, go_sem, c20, c21, c22, c23, c24]) rfl ⟨rfl, B6.out⟩

theorem ownNamed {w : World} {base g n c k : Nat} {l : List Named} {e : TypeId} {f0 : ByteArray} {f1 : Int} {f2 : ByteArray} {f3 : ByteArray} {f4 : Int} (h : Own encNamed 5 e w base (.slice (some ⟨g, 0, none⟩) n c) l) (hx : l[k]? = some (f0, f1, f2, f3, f4)) :
    w.cell? ⟨g, k * 5, none⟩ = some (.string f0) ∧ w.cell? ⟨g, k * 5 + 1, none⟩ = some (.int .i64 f1) ∧ w.cell? ⟨g, k * 5 + 2, none⟩ = some (.string f2) ∧ w.cell? ⟨g, k * 5 + 3, none⟩ = some (.string f3) ∧ w.cell? ⟨g, k * 5 + 4, none⟩ = some (.int .i64 f4) ∧ w.frozen? ⟨g, k * 5, none⟩ = false ∧ w.frozen? ⟨g, k * 5 + 1, none⟩ = false ∧ w.frozen? ⟨g, k * 5 + 2, none⟩ = false ∧ w.frozen? ⟨g, k * 5 + 3, none⟩ = false ∧ w.frozen? ⟨g, k * 5 + 4, none⟩ = false :=
  ⟨h.cellAt (j := 0) encNamed_len hx rfl, h.cellAt (j := 1) encNamed_len hx rfl, h.cellAt (j := 2) encNamed_len hx rfl, h.cellAt (j := 3) encNamed_len hx rfl, h.cellAt (j := 4) encNamed_len hx rfl, h.free _, h.free _, h.free _, h.free _, h.free _⟩
theorem setNamed {w : World} {base g n c : Nat} {l : List Named} {e : TypeId} (h : Own encNamed 5 e w base (.slice (some ⟨g, 0, none⟩) n c) l) (k : Nat) {f0 : ByteArray} {f1 : Int} {f2 : ByteArray} {f3 : ByteArray} {f4 : Int} {x : Named} (hx : l[k]? = some x) :
    Own encNamed 5 e (((((w.setCell ⟨g, k * 5, none⟩ (.string f0)).setCell ⟨g, k * 5 + 1, none⟩ (.int .i64 f1)).setCell ⟨g, k * 5 + 2, none⟩ (.string f2)).setCell ⟨g, k * 5 + 3, none⟩ (.string f3)).setCell ⟨g, k * 5 + 4, none⟩ (.int .i64 f4)) base (.slice (some ⟨g, 0, none⟩) n c) (l.set k (f0, f1, f2, f3, f4)) := by
  obtain ⟨g0, g1, g2, g3, g4⟩ := x
  have hk : k < l.length := (List.getElem?_eq_some_iff.1 hx).1
  have q0 := h.set1 encNamed_len k 0 (g0, g1, g2, g3, g4) (f0, g1, g2, g3, g4) (.string f0) hx (by omega) rfl
  have x0 : (l.set k (f0, g1, g2, g3, g4))[k]? = some (f0, g1, g2, g3, g4) := by rw [List.getElem?_set, if_pos rfl, if_pos hk]
  have q1 := q0.set1 encNamed_len k 1 (f0, g1, g2, g3, g4) (f0, f1, g2, g3, g4) (.int .i64 f1) x0 (by omega) rfl
  rw [List.set_set] at q1
  have x1 : (l.set k (f0, f1, g2, g3, g4))[k]? = some (f0, f1, g2, g3, g4) := by rw [List.getElem?_set, if_pos rfl, if_pos hk]
  have q2 := q1.set1 encNamed_len k 2 (f0, f1, g2, g3, g4) (f0, f1, f2, g3, g4) (.string f2) x1 (by omega) rfl
  rw [List.set_set] at q2
  have x2 : (l.set k (f0, f1, f2, g3, g4))[k]? = some (f0, f1, f2, g3, g4) := by rw [List.getElem?_set, if_pos rfl, if_pos hk]
  have q3 := q2.set1 encNamed_len k 3 (f0, f1, f2, g3, g4) (f0, f1, f2, f3, g4) (.string f3) x2 (by omega) rfl
  rw [List.set_set] at q3
  have x3 : (l.set k (f0, f1, f2, f3, g4))[k]? = some (f0, f1, f2, f3, g4) := by rw [List.getElem?_set, if_pos rfl, if_pos hk]
  have q4 := q3.set1 encNamed_len k 4 (f0, f1, f2, f3, g4) (f0, f1, f2, f3, f4) (.int .i64 f4) x3 (by omega) rfl
  rw [List.set_set] at q4
  have x4 : (l.set k (f0, f1, f2, f3, f4))[k]? = some (f0, f1, f2, f3, f4) := by rw [List.getElem?_set, if_pos rfl, if_pos hk]
  exact q4
def ToNamedSPost (w : World) (n : Nat) (l : List Named) (e : Ending) (w' : World) : Prop :=
  ∃ v, e = .returned (.slice (some ⟨v, 0, none⟩) n n) ∧ Own encNamed 5 64 w' w.heap.size (.slice (some ⟨v, 0, none⟩) n n) l ∧ Below w.heap.size w w'
set_option maxHeartbeats 1000000 in
theorem toNamedS (A : Option Addr) (n c : Nat) (l : List Named) (w : World) (hr : Sl encNamed w w.heap.size A n l) (hn : n ≤ 1048576) :
    Calls Try.prog 57 #[.slice A n c] w (ToNamedSPost w n l) := by
  have HL := Lib.hid hr.len
  have hmk := make64 n n (Nat.le_refl _) (by omega)
  have h0 : Own encNamed 5 64 (w.alloc (.cells (madeNamedS n) 64)) w.heap.size (.slice (some ⟨w.heap.size, 0, none⟩) n n) (List.replicate n zeroNamed) := by
    have := Own.made (enc := encNamed) (sz := 5) (e := 64) (base := w.heap.size) (l := List.replicate n zeroNamed) w (madeNamedS n) (Nat.le_refl _) (by simp [maxLen]; omega) encNamed_len (madeNamedS_eq n)
    simpa using this
  have H0 := Lib.hid h0
  clear h0
  have hn' : (n : Int) ≤ 1000000000 := by omega
  have HN := Lib.hid hn
  clear hn
  go_enter Try.func57, Try.ntmps57
  go_wp2
  go_loopw [4] (fun i wr => ∃ k : Nat, k ≤ n ∧ i = .int .i64 k ∧ Own encNamed 5 64 wr w.heap.size (.slice (some ⟨w.heap.size, 0, none⟩) n n) (l.take k ++ List.replicate (n - k) zeroNamed) ∧ Below w.heap.size w wr) (fun i _ => n - (intOf i).toNat)
  case atStart => exact ⟨0, by omega, rfl, by simpa using H0.out, bel_alloc (Below.refl _ _) _⟩
  case round =>
    obtain ⟨k, hkn, rfl, hown, hbel⟩ := hrel
    by_cases hlt : k < n
    · obtain ⟨b, off, rfl, hb⟩ := hr.spot (by omega)
      obtain ⟨f0, f1, f2, f3, f4, hrow, hc0, hc1, hc2, hc3, hc4⟩ := atNamed (hr.keep hbel) hlt
      have HR := Lib.hid hrow
      clear hrow
      have i0 : (0 : Int) ≤ (k : Int) := by omega
      have i1 : (k : Int) < (n : Int) := by omega
      go_wp2_with (go_at_call 83; refine (toNamed _ _ _ _ _ _).mono ?_; rintro e W ⟨rfl, hbW⟩; have hownW := hown.on hbW; obtain ⟨p0, p1, p2, p3, p4, p5, p6, p7, p8, p9⟩ := ownNamed hownW (fill_get l zeroNamed n k HL.out hlt))
      go_roundw
      case rel => exact ⟨k + 1, by omega, by go_num, by rw [← fill_set l zeroNamed (f0, f1, f2, f3, f4) n k HL.out HR.out]; exact setNamed hownW k (fill_get l zeroNamed n k HL.out hlt), bel_set (bel_set (bel_set (bel_set (bel_set (bel_trans hbel hbW) (Nat.le_refl _) _) (Nat.le_refl _) _) (Nat.le_refl _) _) (Nat.le_refl _) _) (Nat.le_refl _) _⟩
      case measure => simp [intOf]; omega
    · go_wp2
      go_ret
      rw [fill_all l zeroNamed n k HL.out (by omega)] at hown
      exact ⟨_, rfl, hown, hbel⟩

/-! ### sizes -/
def SzNamedPost (w : World) (n : Nat) (left : Int) (e : Ending) (w' : World) : Prop :=
  ∃ v : Int, e = .returned (.int .i64 v) ∧ -1 ≤ v ∧ v ≤ left ∧ (0 ≤ v → (n : Int) ≤ left) ∧ Below w.heap.size w w'
set_option maxHeartbeats 400000 in
theorem szAsk (f1 : Int) (f2 : ByteArray) (f3 : ByteArray) (f4 : Int) (left : Int) (w : World) (h2 : f2.size ≤ maxLen) (h3 : f3.size ≤ maxLen) (h1 : 0 ≤ left) (h4 : left ≤ 1048576) :
    Calls Try.prog 104 #[.agg #[.int .i64 f1, .string f2, .string f3, .int .i64 f4], .int .i64 left] w (SzNamedPost w 0 left) := by
  unfold maxLen at h2 h3
  go_enter Try.func104, Try.ntmps104
  go_wp2
  all_goals
    go_ret
    exact ⟨_, rfl, by omega, by omega, by omega, bel_alloc (Below.refl _ _) _⟩
set_option maxHeartbeats 400000 in
theorem szNamed (f0 : ByteArray) (f1 : Int) (f2 : ByteArray) (f3 : ByteArray) (f4 : Int) (left : Int) (w : World) (h : NamedWf (f0, f1, f2, f3, f4)) (h1 : 0 ≤ left) (h2 : left ≤ 1048576) :
    Calls Try.prog 82 #[.agg #[.string f0, .int .i64 f1, .string f2, .string f3, .int .i64 f4], .int .i64 left] w (SzNamedPost w 0 left) := by
  unfold NamedWf maxLen at h
  simp only at h
  obtain ⟨k0, k2, k3⟩ := h
  have K2 := Lib.hid k2
  have K3 := Lib.hid k3
  clear k2 k3
  have b0 := bel_alloc (Below.refl _ w) (.cells #[.string f0, .int .i64 f1, .string f2, .string f3, .int .i64 f4] 137)
  by_cases hlt : left - (f0.size : Int) < 0
  · go_enter Try.func82, Try.ntmps82
    go_wp2
    go_ret
    exact ⟨_, rfl, by omega, by omega, by omega, b0⟩
  · go_enter Try.func82, Try.ntmps82
    go_wp2_with fail
    refine (szAsk f1 f2 f3 f4 (left - (f0.size : Int)) _ (by unfold maxLen; exact K2.out) (by unfold maxLen; exact K3.out) (by omega) (by omega)).mono ?_
    rintro e w1 ⟨v, rfl, hv0, hv1, hv2, hb⟩
    have b1 := bel_trans b0 hb
    go_wp2
    all_goals
      go_ret
      exact ⟨_, rfl, by omega, by omega, by omega, b1⟩
set_option maxHeartbeats 1000000 in
theorem szNamedS (A : Option Addr) (n c : Nat) (l : List Named) (left : Int) (w : World) (hr : Sl encNamed w w.heap.size A n l) (hk : NamedSWf l) (hn : n ≤ maxLen) (h1 : 0 ≤ left) (h2 : left ≤ 1048576) :
    Calls Try.prog 56 #[.slice A n c, .int .i64 left] w (SzNamedPost w n left) := by
  unfold maxLen at hn
  by_cases hbig : left < (n : Int)
  · go_enter Try.func56, Try.ntmps56
    go_wp2
    go_ret
    exact ⟨_, rfl, by omega, by omega, by omega, Below.refl _ _⟩
  · have hn2 : (n : Int) ≤ left := by omega
    go_enter Try.func56, Try.ntmps56
    go_wp2
    go_loopw [1, 5] (fun x i wr => ∃ (k : Nat) (v : Int), k ≤ n ∧ i = .int .i64 k ∧ x = .int .i64 v ∧ 0 ≤ v ∧ v ≤ left ∧ Below w.heap.size w wr) (fun _ i _ => n - (intOf i).toNat)
    case atStart => exact ⟨0, left - n, by omega, rfl, rfl, by omega, by omega, Below.refl _ _⟩
    case round =>
      obtain ⟨k, v, hkn, rfl, rfl, hv0, hv1, hbel⟩ := hrel
      by_cases hlt : k < n
      · obtain ⟨b, off, rfl, hb⟩ := hr.spot (by omega)
        obtain ⟨f0, f1, f2, f3, f4, hrow, hc0, hc1, hc2, hc3, hc4⟩ := atNamed (hr.keep hbel) hlt
        have hks := hk.at_ hrow
        clear hrow
        have i0 : (0 : Int) ≤ (k : Int) := by omega
        have i1 : (k : Int) < (n : Int) := by omega
        go_wp2_with (go_at_call 82; refine (szNamed _ _ _ _ _ _ _ hks (by omega) (by omega)).mono ?_; rintro e W ⟨v2, rfl, hv2, hv3, -, hbW⟩)
        · go_ret
          exact ⟨_, rfl, by omega, by omega, by omega, bel_trans hbel hbW⟩
        · go_roundw
          case rel => exact ⟨k + 1, v2, by omega, by go_num, rfl, by omega, by omega, bel_trans hbel hbW⟩
          case measure => simp [intOf]; omega
      · go_wp2
        go_ret
        exact ⟨_, rfl, by omega, by omega, by omega, hbel⟩

/-! ### equality -/
theorem ba_eqNamed {a b : ByteArray} (h : a.toList = b.toList) : a = b := by
  rw [ByteArray.toList_eq, ByteArray.toList_eq] at h
  exact ByteArray.ext (Array.toList_inj.1 h)
def eqNamedB (a b : Named) : Bool := ((a.1.toList == b.1.toList) && ((a.2.1 == b.2.1) && ((a.2.2.1.toList == b.2.2.1.toList) && ((a.2.2.2.1.toList == b.2.2.2.1.toList) && (a.2.2.2.2 == b.2.2.2.2)))))
theorem eqNamedB_iff {a b : Named} : eqNamedB a b = true ↔ a = b := by
  obtain ⟨f0, f1, f2, f3, f4⟩ := a
  obtain ⟨g0, g1, g2, g3, g4⟩ := b
  simp only [eqNamedB, Bool.and_eq_true, beq_iff_eq, Prod.mk.injEq]
  constructor
  · rintro ⟨h0, h1, h2, h3, h4⟩; exact ⟨ba_eqNamed h0, h1, ba_eqNamed h2, ba_eqNamed h3, h4⟩
  · rintro ⟨rfl, rfl, rfl, rfl, rfl⟩; exact ⟨rfl, rfl, rfl, rfl, rfl⟩
def eqAskB (a b : Ask) : Bool := ((a.1 == b.1) && ((a.2.1.toList == b.2.1.toList) && ((a.2.2.1.toList == b.2.2.1.toList) && (a.2.2.2 == b.2.2.2))))
set_option maxHeartbeats 1000000 in
theorem eqAsk (f1 : Int) (f2 : ByteArray) (f3 : ByteArray) (f4 : Int) (g1 : Int) (g2 : ByteArray) (g3 : ByteArray) (g4 : Int) (w : World) :
    Calls Try.prog 106 #[.agg #[.int .i64 f1, .string f2, .string f3, .int .i64 f4], .agg #[.int .i64 g1, .string g2, .string g3, .int .i64 g4]] w fun e w' => e = .returned (.bool (eqAskB (f1, f2, f3, f4) (g1, g2, g3, g4))) ∧ Below w.heap.size w w' := by
  cases h1 : (f1 == g1) <;> cases h2 : (f2.toList == g2.toList) <;> cases h3 : (f3.toList == g3.toList) <;> cases h4 : (f4 == g4)
  all_goals
    have hf : eqAskB (f1, f2, f3, f4) (g1, g2, g3, g4) = ((f1 == g1) && ((f2.toList == g2.toList) && ((f3.toList == g3.toList) && (f4 == g4)))) := rfl
    rw [h1, h2, h3, h4] at hf
    have HF := Lib.hid hf
    clear hf
    have d1 : (f1 != g1) = !(f1 == g1) := rfl
    rw [h1] at d1
    simp only [Bool.not_true, Bool.not_false] at d1
    have d4 : (f4 != g4) = !(f4 == g4) := rfl
    rw [h4] at d4
    simp only [Bool.not_true, Bool.not_false] at d4
    go_enter Try.func106, Try.ntmps106
    go_wp2
    go_ret
    exact ⟨retBool HF.out.symm, bel_alloc (bel_alloc (Below.refl _ _) _) _⟩
set_option maxHeartbeats 1000000 in
theorem eqNamed (f0 : ByteArray) (f1 : Int) (f2 : ByteArray) (f3 : ByteArray) (f4 : Int) (g0 : ByteArray) (g1 : Int) (g2 : ByteArray) (g3 : ByteArray) (g4 : Int) (w : World) :
    Calls Try.prog 84 #[.agg #[.string f0, .int .i64 f1, .string f2, .string f3, .int .i64 f4], .agg #[.string g0, .int .i64 g1, .string g2, .string g3, .int .i64 g4]] w fun e w' => e = .returned (.bool (eqNamedB (f0, f1, f2, f3, f4) (g0, g1, g2, g3, g4))) ∧ Below w.heap.size w w' := by
  have b0 := bel_alloc (bel_alloc (Below.refl _ w) (.cells #[.string f0, .int .i64 f1, .string f2, .string f3, .int .i64 f4] 64)) (.cells #[.string g0, .int .i64 g1, .string g2, .string g3, .int .i64 g4] 64)
  cases h0 : (f0.toList == g0.toList)
  · have hf : eqNamedB (f0, f1, f2, f3, f4) (g0, g1, g2, g3, g4) = ((f0.toList == g0.toList) && eqAskB (f1, f2, f3, f4) (g1, g2, g3, g4)) := rfl
    rw [h0, Bool.false_and] at hf
    have HF := Lib.hid hf
    clear hf
    go_enter Try.func84, Try.ntmps84
    go_wp2
    go_ret
    exact ⟨retBool HF.out.symm, b0⟩
  · obtain ⟨r, hr⟩ : ∃ r, eqAskB (f1, f2, f3, f4) (g1, g2, g3, g4) = r := ⟨_, rfl⟩
    have hf : eqNamedB (f0, f1, f2, f3, f4) (g0, g1, g2, g3, g4) = ((f0.toList == g0.toList) && eqAskB (f1, f2, f3, f4) (g1, g2, g3, g4)) := rfl
    rw [h0, Bool.true_and, hr] at hf
    have HF := Lib.hid hf
    have HR := Lib.hid hr
    clear hf hr
    go_enter Try.func84, Try.ntmps84
    go_wp2_with fail
    refine (eqAsk f1 f2 f3 f4 g1 g2 g3 g4 _).mono ?_
    rintro e w1 ⟨rfl, hb⟩
    rw [HR.out]
    have b1 := bel_trans b0 hb
    cases r
    all_goals
      go_wp2
      go_ret
      exact ⟨retBool HF.out.symm, b1⟩
def namedSEq (l m : List Named) : Bool := decide (l = m)
theorem namedSEq_self (l : List Named) : namedSEq l l = true := by simp [namedSEq]
theorem namedSEq_len {l m : List Named} (h : l.length ≠ m.length) : namedSEq l m = false := by
  simp only [namedSEq, decide_eq_false_iff_not]; intro e; exact h (by rw [e])
theorem namedSEq_at {l m : List Named} {k : Nat} {x y : Named} (hx : l[k]? = some x) (hy : m[k]? = some y) (h : eqNamedB x y = false) : namedSEq l m = false := by
  simp only [namedSEq, decide_eq_false_iff_not]
  rintro rfl
  rw [hx] at hy; cases hy
  have := (eqNamedB_iff (a := x) (b := x)).2 rfl
  rw [h] at this; cases this
def EqToNamed (l m : List Named) (k : Nat) : Prop := ∀ i : Nat, i < k → l[i]? = m[i]?
theorem EqToNamed.zero (l m : List Named) : EqToNamed l m 0 := fun _ h => absurd h (by omega)
theorem EqToNamed.step {l m : List Named} {k : Nat} {x y : Named} (h : EqToNamed l m k) (hx : l[k]? = some x) (hy : m[k]? = some y) (he : eqNamedB x y = true) : EqToNamed l m (k + 1) := by
  intro i hi
  by_cases hik : i < k
  · exact h i hik
  · obtain rfl : i = k := by omega
    rw [hx, hy, eqNamedB_iff.1 he]
theorem EqToNamed.all {l m : List Named} {k : Nat} (h : EqToNamed l m k) (hl : l.length ≤ k) (hm : m.length ≤ k) : namedSEq l m = true := by
  simp only [namedSEq, decide_eq_true_eq]
  apply List.ext_getElem?
  intro i
  by_cases hi : i < k
  · exact h i hi
  · rw [List.getElem?_eq_none (by omega), List.getElem?_eq_none (by omega)]
set_option maxHeartbeats 2000000 in
theorem eqNamedS (A B : Option Addr) (n m c d : Nat) (l p : List Named) (w : World) (hr : Sl encNamed w w.heap.size A n l) (hs : Sl encNamed w w.heap.size B m p) (hn : n ≤ 1048576) :
    Calls Try.prog 58 #[.slice A n c, .slice B m d] w fun e w' => e = .returned (.bool (namedSEq l p)) ∧ Below w.heap.size w w' := by
  have HL := Lib.hid hr.len
  have HP := Lib.hid hs.len
  by_cases hnm : n = m
  · subst hnm
    have hne : ((n : Int) != (n : Int)) = false := by simp
    go_enter Try.func58, Try.ntmps58
    go_wp2
    go_loopw [5] (fun i wr => ∃ k : Nat, k ≤ n ∧ i = .int .i64 k ∧ EqToNamed l p k ∧ Below w.heap.size w wr) (fun i _ => n - (intOf i).toNat)
    case atStart => exact ⟨0, by omega, rfl, EqToNamed.zero l p, Below.refl _ _⟩
    case round =>
      obtain ⟨k, hkn, rfl, heq, hbel⟩ := hrel
      by_cases hlt : k < n
      · obtain ⟨b, off, rfl, hb⟩ := hr.spot (by omega)
        obtain ⟨b2, off2, rfl, hb2⟩ := hs.spot (by omega)
        obtain ⟨f0, f1, f2, f3, f4, hrow, ha0, ha1, ha2, ha3, ha4⟩ := atNamed (hr.keep hbel) hlt
        obtain ⟨g0, g1, g2, g3, g4, hrow2, hb0, hbz1, hbz2, hb3, hb4⟩ := atNamed (hs.keep hbel) hlt
        have HR := Lib.hid hrow
        have HR2 := Lib.hid hrow2
        clear hrow hrow2
        have i0 : (0 : Int) ≤ (k : Int) := by omega
        have i1 : (k : Int) < (n : Int) := by omega
        have na0 := World.new_ne wr _ ha0
        have na1 := World.new_ne wr _ ha1
        have na2 := World.new_ne wr _ ha2
        have na3 := World.new_ne wr _ ha3
        have na4 := World.new_ne wr _ ha4
        have nb0 := World.new_ne wr _ hb0
        have nb1 := World.new_ne wr _ hbz1
        have nb2 := World.new_ne wr _ hbz2
        have nb3 := World.new_ne wr _ hb3
        have nb4 := World.new_ne wr _ hb4
        cases he : eqNamedB (f0, f1, f2, f3, f4) (g0, g1, g2, g3, g4)
        all_goals
          have c1 := fun W => eqNamed f0 f1 f2 f3 f4 g0 g1 g2 g3 g4 W
          rw [he] at c1
          have C1 := Lib.hid c1
          have HE := Lib.hid he
          clear c1 he
          have HK : Hid (∀ W', Below wr.heap.size wr W' → (W'.cell? ⟨b, off + k * 5, none⟩ = some (.string f0) ∧ W'.cell? ⟨b, off + k * 5 + 1, none⟩ = some (.int .i64 f1) ∧ W'.cell? ⟨b, off + k * 5 + 2, none⟩ = some (.string f2) ∧ W'.cell? ⟨b, off + k * 5 + 3, none⟩ = some (.string f3) ∧ W'.cell? ⟨b, off + k * 5 + 4, none⟩ = some (.int .i64 f4) ∧ W'.cell? ⟨b2, off2 + k * 5, none⟩ = some (.string g0) ∧ W'.cell? ⟨b2, off2 + k * 5 + 1, none⟩ = some (.int .i64 g1) ∧ W'.cell? ⟨b2, off2 + k * 5 + 2, none⟩ = some (.string g2) ∧ W'.cell? ⟨b2, off2 + k * 5 + 3, none⟩ = some (.string g3) ∧ W'.cell? ⟨b2, off2 + k * 5 + 4, none⟩ = some (.int .i64 g4))) := Lib.hid fun W' hW' => ⟨keepC hW' ha0, keepC hW' ha1, keepC hW' ha2, keepC hW' ha3, keepC hW' ha4, keepC hW' hb0, keepC hW' hbz1, keepC hW' hbz2, keepC hW' hb3, keepC hW' hb4⟩
          go_wp2_with fail
          refine wp_region_held_drew (S := (fun w' => (w'.cell? ⟨b, off + k * 5, none⟩ = some (.string f0) ∧ w'.cell? ⟨b, off + k * 5 + 1, none⟩ = some (.int .i64 f1) ∧ w'.cell? ⟨b, off + k * 5 + 2, none⟩ = some (.string f2) ∧ w'.cell? ⟨b, off + k * 5 + 3, none⟩ = some (.string f3) ∧ w'.cell? ⟨b, off + k * 5 + 4, none⟩ = some (.int .i64 f4) ∧ w'.cell? ⟨b2, off2 + k * 5, none⟩ = some (.string g0) ∧ w'.cell? ⟨b2, off2 + k * 5 + 1, none⟩ = some (.int .i64 g1) ∧ w'.cell? ⟨b2, off2 + k * 5 + 2, none⟩ = some (.string g2) ∧ w'.cell? ⟨b2, off2 + k * 5 + 3, none⟩ = some (.string g3) ∧ w'.cell? ⟨b2, off2 + k * 5 + 4, none⟩ = some (.int .i64 g4)) ∧ Below wr.heap.size wr w')) (by kernel_rfl) ⟨HK.out _ (Below.refl _ _).drew, (Below.refl _ _).drew⟩ (fun hHeld => ?_)
          refine wpAnyH_take (i := 0) (oi := { dst := some 17, op := Go.Op.move (Go.Operand.tmp 0), type := 55, pos := "exact.go:737", after := #[], guard := none }) (v := ?_) rfl (by kernel_rfl) (by kernel_rfl) (by kernel_rfl) (fun _ _ _ h => h) (Or.inl ⟨by rfl, ?hy0⟩) (by assumption) ?_
          case hy0 => ((intro w hSw; (try dsimp only at hSw); go_simp); try with_reducible rfl)
          try simp only [Act.put, List.setIfInBounds_toArray, List.set_cons_zero, List.set_cons_succ]
          refine wpAnyH_take (i := 1) (oi := { dst := some 18, op := Go.Op.move (Go.Operand.tmp 5), type := 3, pos := "exact.go:737", after := #[], guard := none }) (v := ?_) rfl (by kernel_rfl) (by kernel_rfl) (by kernel_rfl) (fun _ _ _ h => h) (Or.inl ⟨by rfl, ?hy1⟩) (by assumption) ?_
          case hy1 => ((intro w hSw; (try dsimp only at hSw); go_simp); try with_reducible rfl)
          try simp only [Act.put, List.setIfInBounds_toArray, List.set_cons_zero, List.set_cons_succ]
          refine wpAnyH_take (i := 2) (oi := { dst := some 19, op := Go.Op.indexAddr 55 (Go.Operand.tmp 17) (Go.Operand.tmp 18), type := 0, pos := "exact.go:737", after := #[{ on := 0, ground := Go.Ground.data }, { on := 1, ground := Go.Ground.data }], guard := none }) (v := ?_) rfl (by kernel_rfl) (by kernel_rfl) (by kernel_rfl) (fun _ _ _ h => h) (Or.inl ⟨by rfl, ?hy2⟩) (by assumption) ?_
          case hy2 => ((intro w hSw; (try dsimp only at hSw); go_simp); try with_reducible rfl)
          try simp only [Act.put, List.setIfInBounds_toArray, List.set_cons_zero, List.set_cons_succ]
          refine wpAnyH_take (i := 3) (oi := { dst := some 20, op := Go.Op.load 64 (Go.Operand.tmp 19), type := 64, pos := "exact.go:737", after := #[{ on := 2, ground := Go.Ground.data }], guard := none }) (v := ?_) rfl (by kernel_rfl) (by kernel_rfl) (by kernel_rfl) (fun _ _ _ h => h) (Or.inl ⟨by rfl, ?hy3⟩) (by assumption) ?_
          case hy3 => ((intro w hSw; (try dsimp only at hSw); go_simp); try with_reducible rfl)
          try simp only [Act.put, List.setIfInBounds_toArray, List.set_cons_zero, List.set_cons_succ]
          refine wpAnyH_take (i := 4) (oi := { dst := some 21, op := Go.Op.move (Go.Operand.tmp 1), type := 55, pos := "exact.go:737", after := #[], guard := none }) (v := ?_) rfl (by kernel_rfl) (by kernel_rfl) (by kernel_rfl) (fun _ _ _ h => h) (Or.inl ⟨by rfl, ?hy4⟩) (by assumption) ?_
          case hy4 => ((intro w hSw; (try dsimp only at hSw); go_simp); try with_reducible rfl)
          try simp only [Act.put, List.setIfInBounds_toArray, List.set_cons_zero, List.set_cons_succ]
          refine wpAnyH_take (i := 5) (oi := { dst := some 22, op := Go.Op.move (Go.Operand.tmp 5), type := 3, pos := "exact.go:737", after := #[], guard := none }) (v := ?_) rfl (by kernel_rfl) (by kernel_rfl) (by kernel_rfl) (fun _ _ _ h => h) (Or.inl ⟨by rfl, ?hy5⟩) (by assumption) ?_
          case hy5 => ((intro w hSw; (try dsimp only at hSw); go_simp); try with_reducible rfl)
          try simp only [Act.put, List.setIfInBounds_toArray, List.set_cons_zero, List.set_cons_succ]
          refine wpAnyH_take (i := 6) (oi := { dst := some 23, op := Go.Op.indexAddr 55 (Go.Operand.tmp 21) (Go.Operand.tmp 22), type := 0, pos := "exact.go:737", after := #[{ on := 4, ground := Go.Ground.data }, { on := 5, ground := Go.Ground.data }], guard := none }) (v := ?_) rfl (by kernel_rfl) (by kernel_rfl) (by kernel_rfl) (fun _ _ _ h => h) (Or.inl ⟨by rfl, ?hy6⟩) (by assumption) ?_
          case hy6 => ((intro w hSw; (try dsimp only at hSw); go_simp); try with_reducible rfl)
          try simp only [Act.put, List.setIfInBounds_toArray, List.set_cons_zero, List.set_cons_succ]
          refine wpAnyH_take (i := 7) (oi := { dst := some 24, op := Go.Op.load 64 (Go.Operand.tmp 23), type := 64, pos := "exact.go:737", after := #[{ on := 6, ground := Go.Ground.data }], guard := none }) (v := ?_) rfl (by kernel_rfl) (by kernel_rfl) (by kernel_rfl) (fun _ _ _ h => h) (Or.inl ⟨by rfl, ?hy7⟩) (by assumption) ?_
          case hy7 => ((intro w hSw; (try dsimp only at hSw); go_simp); try with_reducible rfl)
          try simp only [Act.put, List.setIfInBounds_toArray, List.set_cons_zero, List.set_cons_succ]
          refine wpAnyH_ready (rs := [8]) (by kernel_rfl) (by simp) ?_
          refine AllReadyH.cons (o := { dst := some 25, op := Go.Op.call { callee := Go.Callee.value (Go.Operand.func 84), args := #[Go.Operand.tmp 20, Go.Operand.tmp 24], argTypes := #[64, 64] }, type := 4, pos := "exact.go:737", after := #[{ on := 3, ground := Go.Ground.data }, { on := 7, ground := Go.Ground.data }], guard := none }) rfl (fun K hK => ?_) AllReadyH.nil
          go_simp
          refine (C1.out _).mono ?_
          rintro e w1 ⟨rfl, hb1⟩
          have hb1 := bel_trans ((Below.refl wr.heap.size wr).drew) hb1
          go_wp2_with fail
          refine hK.out _ _ ⟨HK.out _ hb1, hb1⟩ (fun hHeld => ?_)
          clear hK K
          try simp only [Act.put, List.setIfInBounds_toArray, List.set_cons_zero, List.set_cons_succ]
          refine wpAnyH_take (i := 9) (oi := { dst := some 26, op := Go.Op.unOp Go.UnOp.not 4 (Go.Operand.tmp 25), type := 4, pos := "exact.go:737", after := #[{ on := 8, ground := Go.Ground.data }], guard := none }) (v := ?_) rfl (by kernel_rfl) (by kernel_rfl) (by kernel_rfl) (fun _ _ _ h => h) (Or.inl ⟨by rfl, ?hy9⟩) (by assumption) ?_
          case hy9 => ((intro w hSw; (try dsimp only at hSw); go_simp); try with_reducible rfl)
          try simp only [Act.put, List.setIfInBounds_toArray, List.set_cons_zero, List.set_cons_succ]
          refine wpAnyH_done (by kernel_rfl) ?_ _
          go_wp2_with fail
        · go_ret
          exact ⟨retBool (namedSEq_at HR.out HR2.out HE.out).symm, bel_trans hbel hb1⟩
        · go_roundw
          case rel => exact ⟨k + 1, by omega, by go_num, heq.step HR.out HR2.out HE.out, bel_trans hbel hb1⟩
          case measure => simp [intOf]; omega
      · go_wp2
        go_ret
        exact ⟨retBool (heq.all (by rw [HL.out]; omega) (by rw [HP.out]; omega)).symm, hbel⟩
  · have hf : namedSEq l p = false := namedSEq_len (by rw [HL.out, HP.out]; exact hnm)
    have HF := Lib.hid hf
    clear hf
    have hne : ((n : Int) != (m : Int)) = true := by simp; omega
    clear hnm
    go_enter Try.func58, Try.ntmps58
    go_wp2
    go_ret
    exact ⟨retBool HF.out.symm, Below.refl _ _⟩
end Go.Proofs.Ytpmeaikiaoojkaa
