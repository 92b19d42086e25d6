/- Contracts of the letters' texts: LetterText and LettersText of the reference. -/
import Derived.Test.YtpmeaikiaoojkaaA2
import Derived.Test.YtpmeaikiaoojkaaL1
import Derived.Test.YtpmeaikiaoojkaaQ
import Derived.Laws.BytesArg
import Derived.Deep.RegionHeld3
namespace Go.Proofs.Ytpmeaikiaoojkaa
open Go.RowKit

/-- the string of one byte -/
def b1 (z : Int) : ByteArray := strOfNums [z]
theorem b1_size (z : Int) : (b1 z).size = 1 := rfl
theorem cell_new1 (w : World) (v : Value) (t : TypeId) : (w.alloc (.cells #[v] t)).cell? ⟨w.heap.size, 0, none⟩ = some v := by
  rw [cell_of_row _ w.heap.size 0 #[v] t (0, 0) (heap_alloc_new w _)]; rfl
set_option maxRecDepth 100000 in
theorem conv1 (W : World) (z : Int) : (convert 31 9 (.slice (some ⟨W.heap.size, 0, none⟩) 1 1)).run Try.prog (W.alloc (.cells #[.int .u8 z] 5)) = .ok (.string (b1 z)) (W.alloc (.cells #[.int .u8 z] 5)) :=
  run_convert_bytes_arg (P := Try.prog) _ 31 5 Try.underlying31 Try.underlying5 W.heap.size 0 1 1 [z] rfl (fun i hi => by
    obtain rfl : i = 0 := by omega
    simp only [Nat.add_zero]
    exact cell_new1 W (.int .u8 z) 5) 9 Try.underlying9
/-- a number below 100 in two digits -/
def two (n : Int) : ByteArray := b1 (48 + n / 10) ++ b1 (48 + n % 10)
theorem two_size (n : Int) : (two n).size = 2 := by rw [two, ByteArray.size_append]; rfl
def letText (x : Letter) : ByteArray := x.1 ++ two (x.2.size : Int) ++ x.2
def letRes (x : Letter) : ByteArray := if letOk x = true then letText x else ByteArray.empty
theorem letRes_ok {x : Letter} (h : letOk x = true) : letRes x = letText x := by rw [letRes, if_pos h]
theorem letRes_bad {x : Letter} (h : letOk x = false) : letRes x = ByteArray.empty := by rw [letRes, if_neg (by rw [h]; simp)]
theorem let_sizes {x : Letter} (h : letOk x = true) : x.1.size = 1 ∧ x.2.size ≤ 40 := by
  constructor
  · by_cases hs : x.1.size = 1
    · exact hs
    · rw [let_short hs] at h; cases h
  · unfold letOk at h
    simp only [Bool.and_eq_true, decide_eq_true_eq] at h
    exact h.2.1
theorem letText_size {x : Letter} (h : letOk x = true) : (letText x).size ≤ 43 := by
  obtain ⟨h1, h2⟩ := let_sizes h
  rw [letText, ByteArray.size_append, ByteArray.size_append, two_size]; omega
def allOk (l : List Letter) : Bool := l.all letOk
def lettersText (l : List Letter) : ByteArray := l.foldl (fun s x => s ++ letText x) ByteArray.empty
def lettersRes (l : List Letter) : ByteArray := if allOk l = true then lettersText l else ByteArray.empty
theorem letters_step {l : List Letter} {k : Nat} {x : Letter} (h : l[k]? = some x) : lettersText (l.take (k + 1)) = lettersText (l.take k) ++ letText x := by
  obtain ⟨hk, rfl⟩ := List.getElem?_eq_some_iff.1 h
  unfold lettersText
  rw [List.take_succ_eq_append_getElem hk, List.foldl_append]; rfl
theorem allOk_step {l : List Letter} {k : Nat} {x : Letter} (h : l[k]? = some x) (h1 : allOk (l.take k) = true) (h2 : letOk x = true) : allOk (l.take (k + 1)) = true := by
  obtain ⟨hk, rfl⟩ := List.getElem?_eq_some_iff.1 h
  unfold allOk at *
  rw [List.take_succ_eq_append_getElem hk, List.all_append, h1]; simpa using h2
theorem allOk_bad {l : List Letter} {k : Nat} {x : Letter} (h : l[k]? = some x) (h2 : letOk x = false) : lettersRes l = ByteArray.empty := by
  unfold lettersRes
  rw [if_neg]
  intro h3
  unfold allOk at h3
  rw [List.all_eq_true] at h3
  rw [h3 x (List.mem_of_getElem? h)] at h2; cases h2
theorem letters_all {l : List Letter} {k : Nat} (hk : l.length ≤ k) (h1 : allOk (l.take k) = true) : lettersText (l.take k) = lettersRes l := by
  rw [List.take_of_length_le hk] at h1 ⊢
  rw [lettersRes, if_pos h1]

theorem ba_nil (a : ByteArray) : a ++ (⟨#[]⟩ : ByteArray) = a := ByteArray.ext (by simp)
set_option maxHeartbeats 400000 in
set_option maxRecDepth 100000 in
theorem l11Dig (v : Int) (h0 : 0 ≤ v) (h1 : v ≤ 9) (w : World) :
    Calls Try.prog 60 #[.int .i64 v] w fun e w' => e = .returned (.string (b1 (48 + v))) ∧ Below w.heap.size w w' := by
  have hcv := conv1
  have hb1 := b1_size (48 + v)
  go_enter Try.func60, Try.ntmps60
  go_wp2
  go_loopw [0, 3] (fun i s wr => i = .int .i64 v ∧ s = .string ⟨#[]⟩ ∧ Below w.heap.size w wr) (fun i _ _ => 0)
  case atStart => exact ⟨rfl, rfl, Below.refl _ _⟩
  case round =>
    obtain ⟨rfl, rfl, hbel⟩ := hrel
    go_wp2
    go_ret
    exact ⟨congrArg (fun s => Ending.returned (.string s)) (ba_nil _), bel_alloc hbel _⟩
set_option maxHeartbeats 400000 in
theorem l5Two (n : Int) (h0 : 0 ≤ n) (h1 : n ≤ 99) (w : World) :
    Calls Try.prog 38 #[.int .i64 n] w fun e w' => e = .returned (.string (two n)) ∧ Below w.heap.size w w' := by
  have s1 := b1_size (48 + n / 10)
  have s2 := b1_size (48 + n % 10)
  go_enter Try.func38, Try.ntmps38
  go_wp2_with fail
  refine (l11Dig (n / 10) (by omega) (by omega) _).mono ?_
  rintro e w1 ⟨rfl, hb1⟩
  go_wp2_with fail
  refine (l11Dig (n % 10) (by omega) (by omega) _).mono ?_
  rintro e w2 ⟨rfl, hb2⟩
  go_wp2
  go_ret
  exact ⟨rfl, bel_trans hb1 hb2⟩
set_option maxHeartbeats 1000000 in
theorem specLetterText (f0 f1 : ByteArray) (w : World) (h1 : f0.size ≤ maxLen) (h2 : f1.size ≤ maxLen) :
    Calls Try.prog 15 #[.agg #[.string f0, .string f1]] w fun e w' => e = .returned (.string (letRes (f0, f1))) ∧ Below w.heap.size w w' := by
  have C := Lib.hid (fun W => specLetterOk (f0, f1) W h1 h2)
  have b0 := bel_alloc (Below.refl _ w) (.cells #[.string f0, .string f1] 27)
  have x0 := BoxC.new w 27 #[.string f0, .string f1]
  cases hok : letOk (f0, f1)
  · rw [letRes_bad hok]
    rw [hok] at C
    clear hok
    go_enter Try.func15, Try.ntmps15
    go_wp2_with fail
    refine (C.out _).mono ?_
    rintro e w1 ⟨rfl, hb1⟩
    go_wp2
    go_ret
    exact ⟨rfl, bel_trans b0 hb1⟩
  · obtain ⟨hs1, hs2⟩ := let_sizes hok
    have hs3 := two_size (f1.size : Int)
    rw [letRes_ok hok]
    rw [hok] at C
    simp only at hs1 hs2
    have hsz : (f0 ++ two (f1.size : Int)).size = 3 := by rw [ByteArray.size_append, hs1, hs3]
    have HS1 : f0.size ≤ 1 := by omega
    have HS3 : (two (f1.size : Int)).size ≤ 2 := by omega
    have HS4 : (f0 ++ two (f1.size : Int)).size ≤ 3 := by omega
    have q1 : ∀ W : World, (Op.stringOp .add f0 (two (f1.size : Int))).run Try.prog W = .ok (.string (f0 ++ two (f1.size : Int))) W := fun W => run_string_add (w := W) (P := Try.prog) _ _ (by omega) (by omega)
    have q2 : ∀ W : World, (Op.stringOp .add (f0 ++ two (f1.size : Int)) f1).run Try.prog W = .ok (.string (f0 ++ two (f1.size : Int) ++ f1)) W := fun W => run_string_add (w := W) (P := Try.prog) _ _ (by omega) (by omega)
    clear hs1 hs3 hsz hok
    go_enter Try.func15, Try.ntmps15
    go_wp2_with fail
    refine (C.out _).mono ?_
    rintro e w1 ⟨rfl, hb1⟩
    have b1 := bel_trans b0 hb1
    have x1 := x0.on hb1
    have c0 := x1.c (k := 0) rfl
    have c1 := x1.c (k := 1) rfl
    go_wp2_with fail
    go_region_held3 (fun w' => w'.cell? ⟨w.heap.size, 0, none⟩ = some (.string f0) ∧ w'.cell? ⟨w.heap.size, 1, none⟩ = some (.string f1))
      (first | go_keep | exact ⟨kc0, kc1⟩)
      (first | (go_at_call 38; refine (l5Two (f1.size : Int) (by omega) (by omega) _).mono ?_; rintro e w2 ⟨rfl, hb2⟩; have kc0 := keepC hb2 (b := w.heap.size) (k := 0) c0; have kc1 := keepC hb2 (b := w.heap.size) (k := 1) c1))
    go_wp2
    go_ret
    exact ⟨rfl, bel_trans b1.drew hb2⟩
set_option maxHeartbeats 1000000 in
theorem specLettersText (A : Option Addr) (n c : Nat) (l : List Letter) (w : World) (hr : Sl encLetter w w.heap.size A n l) (hk : LetterSWf l) (hn : n ≤ 1048576) :
    Calls Try.prog 20 #[.slice A n c] w fun e w' => e = .returned (.string (lettersRes l)) ∧ Below w.heap.size w w' := by
  have HL := Lib.hid hr.len
  go_enter Try.func20, Try.ntmps20
  go_wp2
  go_loopw [3, 4] (fun s i wr => ∃ (k : Nat) (acc : ByteArray), k ≤ n ∧ i = .int .i64 k ∧ s = .string acc ∧ Hid (acc = lettersText (l.take k)) ∧ Hid (allOk (l.take k) = true) ∧ acc.size ≤ 43 * k ∧ Below w.heap.size w wr) (fun _ i _ => n - (intOf i).toNat)
  case atStart => exact ⟨0, ByteArray.empty, by omega, rfl, rfl, rfl, rfl, by simp, Below.refl _ _⟩
  case round =>
    obtain ⟨k, acc, hkn, rfl, rfl, hacc, hall, hsz, hbel⟩ := hrel
    by_cases hlt : k < n
    · obtain ⟨b, off, rfl, hb⟩ := hr.spot (by omega)
      obtain ⟨f0, f1, hrow, q0, q1⟩ := atLetter (hr.keep hbel) hlt
      obtain ⟨z1, z2⟩ := hk.at_ hrow
      simp only at z1 z2
      have HR := Lib.hid hrow
      clear hrow
      have i0 : (0 : Int) ≤ (k : Int) := by omega
      have i1 : (k : Int) < (n : Int) := by omega
      have C := Lib.hid (fun W => specLetterOk (f0, f1) W z1 z2)
      have C2 := Lib.hid (fun W => specLetterText f0 f1 W z1 z2)
      clear z1 z2
      cases hok : letOk (f0, f1)
      · have HB := Lib.hid (allOk_bad HR.out hok)
        rw [hok] at C
        clear hok
        go_wp2_with fail
        refine (C.out _).mono ?_
        rintro e w1 ⟨rfl, hb1⟩
        go_wp2
        go_ret
        exact ⟨congrArg (fun s => Ending.returned (.string s)) HB.out.symm, bel_trans hbel hb1⟩
      · have HO := Lib.hid hok
        have hts := letText_size hok
        rw [letRes_ok hok] at C2
        rw [hok] at C
        have st := Lib.hid (letters_step HR.out)
        have sa := Lib.hid (allOk_step HR.out hall.out hok)
        clear hok
        generalize letText (f0, f1) = t at *
        go_wp2_with fail
        refine (C.out _).mono ?_
        rintro e w1 ⟨rfl, hb1⟩
        have b1 := bel_trans hbel hb1
        obtain ⟨d0, d1, hrow2, p0, p1⟩ := atLetter (hr.keep b1) hlt
        rw [HR.out] at hrow2
        obtain ⟨rfl, rfl⟩ : f0 = d0 ∧ f1 = d1 := by cases hrow2; exact ⟨rfl, rfl⟩
        clear hrow2 q0 q1
        go_wp2_with fail
        refine (C2.out _).mono ?_
        rintro e w2 ⟨rfl, hb2⟩
        go_wp2
        go_roundw
        case rel => exact ⟨k + 1, acc ++ t, by omega, by go_num, rfl, by rw [st.out, hacc.out]; rfl, sa.out, by rw [ByteArray.size_append]; omega, bel_trans b1 hb2⟩
        case measure => simp [intOf]; omega
    · have HF := Lib.hid (letters_all (l := l) (k := k) (by rw [HL.out]; omega) hall.out)
      go_wp2
      go_ret
      exact ⟨congrArg (fun s => Ending.returned (.string s)) (by rw [hacc.out, HF.out]), hbel⟩
end Go.Proofs.Ytpmeaikiaoojkaa
