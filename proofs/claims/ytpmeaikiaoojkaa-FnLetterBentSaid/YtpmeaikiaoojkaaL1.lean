/- Contracts of the laws' own helpers over Letter: toLetter, toLetterS, szLetter, szLetterS, eqLetter, eqLetterS. -/
import Derived.Test.YtpmeaikiaoojkaaRows
import Derived.Test.YtpmeaikiaoojkaaK2
import Derived.Test.YtpmeaikiaoojkaaK3
namespace Go.Proofs.Ytpmeaikiaoojkaa
open Go.RowKit

abbrev Letter := ByteArray × ByteArray
def encLetter (x : Letter) : List Value := [.string x.1, .string x.2]
theorem encLetter_len (x : Letter) : (encLetter x).length = 2 := rfl
def LetterWf (x : Letter) : Prop := x.1.size ≤ maxLen ∧ x.2.size ≤ maxLen
def LetterSWf (l : List Letter) : Prop := ∀ x : Letter, x ∈ l → LetterWf x
theorem LetterSWf.at_ {l : List Letter} (h : LetterSWf l) {k : Nat} {x : Letter} (hk : l[k]? = some x) : LetterWf x := h x (List.mem_of_getElem? hk)
theorem atLetter {w : World} {B n b off k : Nat} {l : List Letter} (h : Sl encLetter w B (some ⟨b, off, none⟩) n l) (hk : k < n) :
    ∃ f0 f1, l[k]? = some (f0, f1) ∧ w.cell? ⟨b, off + k * 2, none⟩ = some (.string f0) ∧ w.cell? ⟨b, off + k * 2 + 1, none⟩ = some (.string f1) := by
  obtain ⟨⟨f0, f1⟩, h1, h2⟩ := h.at_ encLetter_len hk
  exact ⟨f0, f1, h1, h2 0 _ rfl, h2 1 _ rfl⟩
theorem info27 : (Try.prog.info? 27).map (fun i => (i.zero, i.size, i.bytes)) = some (some (.agg #[.string ByteArray.empty, .string ByteArray.empty]), 2, 32) := by kernel_rfl
def zeroLetter : Letter := (ByteArray.empty, ByteArray.empty)
def madeLetterS (n : Nat) : Array Value := madeCells (Value.agg #[.string ByteArray.empty, .string ByteArray.empty]).cells (n * 2)
theorem madeLetterS_eq (n : Nat) : (madeLetterS n).toList = cellsOf encLetter (List.replicate n zeroLetter) := madeCells_eq encLetter_len (by omega) zeroLetter _ rfl n
theorem make27 (n c : Nat) (hnc : n ≤ c) (h : c ≤ 1048577) (W : World) : (Instr.makeSlice 34 (.int .i64 (n : Int)) (.int .i64 (c : Int))).run Try.prog W = .ok (.slice (some ⟨W.heap.size, 0, none⟩) n c) (W.alloc (.cells (madeLetterS c) 27)) := by
  obtain ⟨i0, hi, hz0, hz1, hz2⟩ := info_parts info27
  have := run_make_rowN (P := Try.prog) 34 27 i0 _ Try.underlying34 hi hz0 .i64 .i64 n c hnc (by rw [hz2]; omega) (by omega) W
  rw [hz1] at this
  exact this

set_option maxHeartbeats 400000 in
theorem toLetter (f0 : ByteArray) (f1 : ByteArray) (w : World) :
    Calls Try.prog 13 #[.agg #[.string f0, .string f1]] w fun e w' => e = .returned (.agg #[.string f0, .string f1]) ∧ Below w.heap.size w w' := by
  go_enter Try.func13, Try.ntmps13
  go_wp2
  exact bodyPost_ret (v := .agg #[.string f0, .string f1]) (by simp [results, Try.results13, go_sem]) rfl ⟨rfl, bel_alloc (bel_alloc (bel_alloc (Below.refl _ _) _) _) _⟩

theorem ownLetter {w : World} {base g n c k : Nat} {l : List Letter} {e : TypeId} {f0 : ByteArray} {f1 : ByteArray} (h : Own encLetter 2 e w base (.slice (some ⟨g, 0, none⟩) n c) l) (hx : l[k]? = some (f0, f1)) :
    w.cell? ⟨g, k * 2, none⟩ = some (.string f0) ∧ w.cell? ⟨g, k * 2 + 1, none⟩ = some (.string f1) ∧ w.frozen? ⟨g, k * 2, none⟩ = false ∧ w.frozen? ⟨g, k * 2 + 1, none⟩ = false :=
  ⟨h.cellAt (j := 0) encLetter_len hx rfl, h.cellAt (j := 1) encLetter_len hx rfl, h.free _, h.free _⟩
theorem setLetter {w : World} {base g n c : Nat} {l : List Letter} {e : TypeId} (h : Own encLetter 2 e w base (.slice (some ⟨g, 0, none⟩) n c) l) (k : Nat) {f0 : ByteArray} {f1 : ByteArray} {x : Letter} (hx : l[k]? = some x) :
    Own encLetter 2 e ((w.setCell ⟨g, k * 2, none⟩ (.string f0)).setCell ⟨g, k * 2 + 1, none⟩ (.string f1)) base (.slice (some ⟨g, 0, none⟩) n c) (l.set k (f0, f1)) := by
  obtain ⟨g0, g1⟩ := x
  have hk : k < l.length := (List.getElem?_eq_some_iff.1 hx).1
  have q0 := h.set1 encLetter_len k 0 (g0, g1) (f0, g1) (.string f0) hx (by omega) rfl
  have x0 : (l.set k (f0, g1))[k]? = some (f0, g1) := by rw [List.getElem?_set, if_pos rfl, if_pos hk]
  have q1 := q0.set1 encLetter_len k 1 (f0, g1) (f0, f1) (.string f1) x0 (by omega) rfl
  rw [List.set_set] at q1
  have x1 : (l.set k (f0, f1))[k]? = some (f0, f1) := by rw [List.getElem?_set, if_pos rfl, if_pos hk]
  exact q1
def ToLetterSPost (w : World) (n : Nat) (l : List Letter) (e : Ending) (w' : World) : Prop :=
  ∃ v, e = .returned (.slice (some ⟨v, 0, none⟩) n n) ∧ Own encLetter 2 27 w' w.heap.size (.slice (some ⟨v, 0, none⟩) n n) l ∧ Below w.heap.size w w'
set_option maxHeartbeats 1000000 in
theorem toLetterS (A : Option Addr) (n c : Nat) (l : List Letter) (w : World) (hr : Sl encLetter w w.heap.size A n l) (hn : n ≤ 1048576) :
    Calls Try.prog 21 #[.slice A n c] w (ToLetterSPost w n l) := by
  have HL := Lib.hid hr.len
  have hmk := make27 n n (Nat.le_refl _) (by omega)
  have h0 : Own encLetter 2 27 (w.alloc (.cells (madeLetterS n) 27)) w.heap.size (.slice (some ⟨w.heap.size, 0, none⟩) n n) (List.replicate n zeroLetter) := by
    have := Own.made (enc := encLetter) (sz := 2) (e := 27) (base := w.heap.size) (l := List.replicate n zeroLetter) w (madeLetterS n) (Nat.le_refl _) (by simp [maxLen]; omega) encLetter_len (madeLetterS_eq n)
    simpa using this
  have H0 := Lib.hid h0
  clear h0
  have hn' : (n : Int) ≤ 1000000000 := by omega
  have HN := Lib.hid hn
  clear hn
  go_enter Try.func21, Try.ntmps21
  go_wp2
  go_loopw [4] (fun i wr => ∃ k : Nat, k ≤ n ∧ i = .int .i64 k ∧ Own encLetter 2 27 wr w.heap.size (.slice (some ⟨w.heap.size, 0, none⟩) n n) (l.take k ++ List.replicate (n - k) zeroLetter) ∧ Below w.heap.size w wr) (fun i _ => n - (intOf i).toNat)
  case atStart => exact ⟨0, by omega, rfl, by simpa using H0.out, bel_alloc (Below.refl _ _) _⟩
  case round =>
    obtain ⟨k, hkn, rfl, hown, hbel⟩ := hrel
    by_cases hlt : k < n
    · obtain ⟨b, off, rfl, hb⟩ := hr.spot (by omega)
      obtain ⟨f0, f1, hrow, hc0, hc1⟩ := atLetter (hr.keep hbel) hlt
      have HR := Lib.hid hrow
      clear hrow
      have i0 : (0 : Int) ≤ (k : Int) := by omega
      have i1 : (k : Int) < (n : Int) := by omega
      go_wp2_with (go_at_call 13; refine (toLetter _ _ _).mono ?_; rintro e W ⟨rfl, hbW⟩; have hownW := hown.on hbW; obtain ⟨p0, p1, p2, p3⟩ := ownLetter hownW (fill_get l zeroLetter n k HL.out hlt))
      go_roundw
      case rel => exact ⟨k + 1, by omega, by go_num, by rw [← fill_set l zeroLetter (f0, f1) n k HL.out HR.out]; exact setLetter hownW k (fill_get l zeroLetter n k HL.out hlt), bel_set (bel_set (bel_trans hbel hbW) (Nat.le_refl _) _) (Nat.le_refl _) _⟩
      case measure => simp [intOf]; omega
    · go_wp2
      go_ret
      rw [fill_all l zeroLetter n k HL.out (by omega)] at hown
      exact ⟨_, rfl, hown, hbel⟩

/-! ### sizes -/
def SzLetterPost (w : World) (n : Nat) (left : Int) (e : Ending) (w' : World) : Prop :=
  ∃ v : Int, e = .returned (.int .i64 v) ∧ -1 ≤ v ∧ v ≤ left ∧ (0 ≤ v → (n : Int) ≤ left) ∧ Below w.heap.size w w'
set_option maxHeartbeats 400000 in
theorem szLetter (f0 : ByteArray) (f1 : ByteArray) (left : Int) (w : World) (h : LetterWf (f0, f1)) (h1 : 0 ≤ left) (h2 : left ≤ 1048576) :
    Calls Try.prog 11 #[.agg #[.string f0, .string f1], .int .i64 left] w (SzLetterPost w 0 left) := by
  unfold LetterWf maxLen at h
  simp only at h
  go_enter Try.func11, Try.ntmps11
  go_wp2
  all_goals
    go_ret
    exact ⟨_, rfl, by omega, by omega, by omega, bel_alloc (Below.refl _ _) _⟩
set_option maxHeartbeats 1000000 in
theorem szLetterS (A : Option Addr) (n c : Nat) (l : List Letter) (left : Int) (w : World) (hr : Sl encLetter w w.heap.size A n l) (hk : LetterSWf l) (hn : n ≤ maxLen) (h1 : 0 ≤ left) (h2 : left ≤ 1048576) :
    Calls Try.prog 19 #[.slice A n c, .int .i64 left] w (SzLetterPost w n left) := by
  unfold maxLen at hn
  by_cases hbig : left < (n : Int)
  · go_enter Try.func19, Try.ntmps19
    go_wp2
    go_ret
    exact ⟨_, rfl, by omega, by omega, by omega, Below.refl _ _⟩
  · have hn2 : (n : Int) ≤ left := by omega
    go_enter Try.func19, Try.ntmps19
    go_wp2
    go_loopw [1, 5] (fun x i wr => ∃ (k : Nat) (v : Int), k ≤ n ∧ i = .int .i64 k ∧ x = .int .i64 v ∧ 0 ≤ v ∧ v ≤ left ∧ Below w.heap.size w wr) (fun _ i _ => n - (intOf i).toNat)
    case atStart => exact ⟨0, left - n, by omega, rfl, rfl, by omega, by omega, Below.refl _ _⟩
    case round =>
      obtain ⟨k, v, hkn, rfl, rfl, hv0, hv1, hbel⟩ := hrel
      by_cases hlt : k < n
      · obtain ⟨b, off, rfl, hb⟩ := hr.spot (by omega)
        obtain ⟨f0, f1, hrow, hc0, hc1⟩ := atLetter (hr.keep hbel) hlt
        have hks := hk.at_ hrow
        clear hrow
        have i0 : (0 : Int) ≤ (k : Int) := by omega
        have i1 : (k : Int) < (n : Int) := by omega
        go_wp2_with (go_at_call 11; refine (szLetter _ _ _ _ hks (by omega) (by omega)).mono ?_; rintro e W ⟨v2, rfl, hv2, hv3, -, hbW⟩)
        · go_ret
          exact ⟨_, rfl, by omega, by omega, by omega, bel_trans hbel hbW⟩
        · go_roundw
          case rel => exact ⟨k + 1, v2, by omega, by go_num, rfl, by omega, by omega, bel_trans hbel hbW⟩
          case measure => simp [intOf]; omega
      · go_wp2
        go_ret
        exact ⟨_, rfl, by omega, by omega, by omega, hbel⟩

/-! ### equality -/
theorem ba_eqLetter {a b : ByteArray} (h : a.toList = b.toList) : a = b := by
  rw [ByteArray.toList_eq, ByteArray.toList_eq] at h
  exact ByteArray.ext (Array.toList_inj.1 h)
def eqLetterB (a b : Letter) : Bool := ((a.1.toList == b.1.toList) && (a.2.toList == b.2.toList))
theorem eqLetterB_iff {a b : Letter} : eqLetterB a b = true ↔ a = b := by
  obtain ⟨f0, f1⟩ := a
  obtain ⟨g0, g1⟩ := b
  simp only [eqLetterB, Bool.and_eq_true, beq_iff_eq, Prod.mk.injEq]
  constructor
  · rintro ⟨h0, h1⟩; exact ⟨ba_eqLetter h0, ba_eqLetter h1⟩
  · rintro ⟨rfl, rfl⟩; exact ⟨rfl, rfl⟩
set_option maxHeartbeats 1000000 in
theorem eqLetter (f0 : ByteArray) (f1 : ByteArray) (g0 : ByteArray) (g1 : ByteArray) (w : World) :
    Calls Try.prog 43 #[.agg #[.string f0, .string f1], .agg #[.string g0, .string g1]] w fun e w' => e = .returned (.bool (eqLetterB (f0, f1) (g0, g1))) ∧ (w.alloc (.cells #[.string f0, .string f1] 27)).alloc (.cells #[.string g0, .string g1] 27) = w' := by
  cases h0 : (f0.toList == g0.toList) <;> cases h1 : (f1.toList == g1.toList)
  all_goals
    have hf : eqLetterB (f0, f1) (g0, g1) = ((f0.toList == g0.toList) && (f1.toList == g1.toList)) := rfl
    rw [h0, h1] at hf
    have HF := Lib.hid hf
    clear hf
    go_enter Try.func43, Try.ntmps43
    go_wp2
    go_ret
    exact ⟨retBool HF.out.symm, rfl⟩

def letterSEq (l m : List Letter) : Bool := decide (l = m)
theorem letterSEq_self (l : List Letter) : letterSEq l l = true := by simp [letterSEq]
theorem letterSEq_len {l m : List Letter} (h : l.length ≠ m.length) : letterSEq l m = false := by
  simp only [letterSEq, decide_eq_false_iff_not]; intro e; exact h (by rw [e])
theorem letterSEq_at {l m : List Letter} {k : Nat} {x y : Letter} (hx : l[k]? = some x) (hy : m[k]? = some y) (h : eqLetterB x y = false) : letterSEq l m = false := by
  simp only [letterSEq, decide_eq_false_iff_not]
  rintro rfl
  rw [hx] at hy; cases hy
  have := (eqLetterB_iff (a := x) (b := x)).2 rfl
  rw [h] at this; cases this
def EqToLetter (l m : List Letter) (k : Nat) : Prop := ∀ i : Nat, i < k → l[i]? = m[i]?
theorem EqToLetter.zero (l m : List Letter) : EqToLetter l m 0 := fun _ h => absurd h (by omega)
theorem EqToLetter.step {l m : List Letter} {k : Nat} {x y : Letter} (h : EqToLetter l m k) (hx : l[k]? = some x) (hy : m[k]? = some y) (he : eqLetterB x y = true) : EqToLetter l m (k + 1) := by
  intro i hi
  by_cases hik : i < k
  · exact h i hik
  · obtain rfl : i = k := by omega
    rw [hx, hy, eqLetterB_iff.1 he]
theorem EqToLetter.all {l m : List Letter} {k : Nat} (h : EqToLetter l m k) (hl : l.length ≤ k) (hm : m.length ≤ k) : letterSEq l m = true := by
  simp only [letterSEq, decide_eq_true_eq]
  apply List.ext_getElem?
  intro i
  by_cases hi : i < k
  · exact h i hi
  · rw [List.getElem?_eq_none (by omega), List.getElem?_eq_none (by omega)]
set_option maxHeartbeats 2000000 in
theorem eqLetterS (A B : Option Addr) (n m c d : Nat) (l p : List Letter) (w : World) (hr : Sl encLetter w w.heap.size A n l) (hs : Sl encLetter w w.heap.size B m p) (hn : n ≤ 1048576) :
    Calls Try.prog 22 #[.slice A n c, .slice B m d] w fun e w' => e = .returned (.bool (letterSEq l p)) ∧ Below w.heap.size w w' := by
  have HL := Lib.hid hr.len
  have HP := Lib.hid hs.len
  by_cases hnm : n = m
  · subst hnm
    have hne : ((n : Int) != (n : Int)) = false := by simp
    go_enter Try.func22, Try.ntmps22
    go_wp2
    go_loopw [5] (fun i wr => ∃ k : Nat, k ≤ n ∧ i = .int .i64 k ∧ EqToLetter l p k ∧ Below w.heap.size w wr) (fun i _ => n - (intOf i).toNat)
    case atStart => exact ⟨0, by omega, rfl, EqToLetter.zero l p, Below.refl _ _⟩
    case round =>
      obtain ⟨k, hkn, rfl, heq, hbel⟩ := hrel
      by_cases hlt : k < n
      · obtain ⟨b, off, rfl, hb⟩ := hr.spot (by omega)
        obtain ⟨b2, off2, rfl, hb2⟩ := hs.spot (by omega)
        obtain ⟨f0, f1, hrow, ha0, ha1⟩ := atLetter (hr.keep hbel) hlt
        obtain ⟨g0, g1, hrow2, hb0, hb1⟩ := atLetter (hs.keep hbel) hlt
        have HR := Lib.hid hrow
        have HR2 := Lib.hid hrow2
        clear hrow hrow2
        have i0 : (0 : Int) ≤ (k : Int) := by omega
        have i1 : (k : Int) < (n : Int) := by omega
        have na0 := World.new_ne wr _ ha0
        have na1 := World.new_ne wr _ ha1
        have nb0 := World.new_ne wr _ hb0
        have nb1 := World.new_ne wr _ hb1
        cases he : eqLetterB (f0, f1) (g0, g1)
        all_goals
          have c1 := fun W => eqLetter f0 f1 g0 g1 W
          rw [he] at c1
          have C1 := Lib.hid c1
          have HE := Lib.hid he
          clear c1 he
          go_wp2_with fail
          go_region_held3 (fun w' => w'.cell? ⟨b, off + k * 2, none⟩ = some (.string f0) ∧ w'.cell? ⟨b, off + k * 2 + 1, none⟩ = some (.string f1) ∧ w'.cell? ⟨b2, off2 + k * 2, none⟩ = some (.string g0) ∧ w'.cell? ⟨b2, off2 + k * 2 + 1, none⟩ = some (.string g1))
            (go_keep)
            (first | (go_at_call 43; refine (C1.out _).mono ?_; rintro e w' ⟨rfl, rfl⟩))
          go_wp2
        · go_ret
          exact ⟨retBool (letterSEq_at HR.out HR2.out HE.out).symm, (bel_alloc (bel_alloc hbel _) _).drew⟩
        · go_roundw
          case rel => exact ⟨k + 1, by omega, by go_num, heq.step HR.out HR2.out HE.out, (bel_alloc (bel_alloc hbel _) _).drew⟩
          case measure => simp [intOf]; omega
      · go_wp2
        go_ret
        exact ⟨retBool (heq.all (by rw [HL.out]; omega) (by rw [HP.out]; omega)).symm, hbel⟩
  · have hf : letterSEq l p = false := letterSEq_len (by rw [HL.out, HP.out]; exact hnm)
    have HF := Lib.hid hf
    clear hf
    have hne : ((n : Int) != (m : Int)) = true := by simp; omega
    clear hnm
    go_enter Try.func22, Try.ntmps22
    go_wp2
    go_ret
    exact ⟨retBool HF.out.symm, Below.refl _ _⟩
end Go.Proofs.Ytpmeaikiaoojkaa
