/- Contracts: AskText of the reference. -/
import Derived.Test.YtpmeaikiaoojkaaDoorT1
import Derived.Test.YtpmeaikiaoojkaaDoorC1
namespace Go.Proofs.YtpmeaikiaoojkaaDoor
open Go.RowKit

def sp : ByteArray := ⟨#[32]⟩
def addS (f : Bool) (t s : ByteArray) : ByteArray := if f = true then t ++ sp ++ s else t
def catT (j : Nat) (key hi : ByteArray) (num : Int) (a b c : Bool) : ByteArray := addS c (addS b (addS a (word j) key) hi) (dec num)
def askText (k : Int) (key hi : ByteArray) (num : Int) : ByteArray :=
  if askOk k key hi num = true then catT (k - 1).toNat key hi num (shape k).1 (shape k).2.1 (shape k).2.2 else ByteArray.empty
theorem askText_bad {k : Int} {key hi : ByteArray} {num : Int} (h : askOk k key hi num = false) : askText k key hi num = ByteArray.empty := by
  rw [askText, if_neg (by rw [h]; simp)]
theorem askText_ok {j : Nat} {key hi : ByteArray} {num : Int} {a b c : Bool} (h : askOk ((j : Int) + 1) key hi num = true) (hs : shape ((j : Int) + 1) = (a, b, c)) : askText ((j : Int) + 1) key hi num = catT j key hi num a b c := by
  rw [askText, if_pos h, hs]
  simp only
  congr 1
  omega
theorem keyOk_size {s : ByteArray} (h : keyOk s = true) : s.size ≤ 2 := by
  unfold keyOk at h
  simp only [Bool.and_eq_true, Bool.or_eq_true, decide_eq_true_eq] at h
  omega
theorem emp_size {s : ByteArray} (h : emp s = true) : s.size = 0 := by
  unfold emp at h
  rw [beq_iff_eq, ByteArray.toList_eq] at h
  show s.data.size = 0
  rw [← Array.length_toList, h]; rfl
theorem fieldB_size {s : ByteArray} {f : Bool} (h : fieldB s f = true) : s.size ≤ 2 := by
  unfold fieldB at h
  split at h
  · exact keyOk_size h
  · have := emp_size h; omega
/-- what a right request is -/
theorem askOk_facts {k : Int} {key hi : ByteArray} {num : Int} (h : askOk k key hi num = true) : ∃ (j : Nat) (a b c : Bool), k = (j : Int) + 1 ∧ j < 9 ∧ shape k = (a, b, c) ∧ key.size ≤ 2 ∧ hi.size ≤ 2 ∧ -999 ≤ num ∧ num ≤ 999 := by
  by_cases hlo : k < 1 ∨ 9 < k
  · rw [askOk_low hlo] at h; cases h
  · obtain ⟨j, rfl⟩ : ∃ j : Nat, k = (j : Int) + 1 := ⟨(k - 1).toNat, by omega⟩
    obtain ⟨a, b, c, hs⟩ : ∃ a b c, shape ((j : Int) + 1) = (a, b, c) := ⟨_, _, _, rfl⟩
    rw [askOk_mid (by omega) (by omega) hs] at h
    simp only [Bool.and_eq_true] at h
    obtain ⟨h1, h2, h3⟩ := h
    refine ⟨j, a, b, c, rfl, by omega, hs, fieldB_size h1, fieldB_size h2, ?_⟩
    cases c
    · simp at h3; omega
    · simpa [numOk] using h3
theorem word_size {j : Nat} (h : j < 9) : (word j).size ≤ 5 := by
  have hc : j = 0 ∨ j = 1 ∨ j = 2 ∨ j = 3 ∨ j = 4 ∨ j = 5 ∨ j = 6 ∨ j = 7 ∨ j = 8 := by omega
  rcases hc with rfl | rfl | rfl | rfl | rfl | rfl | rfl | rfl | rfl <;> decide
theorem dec_size {n : Int} (h0 : -999 ≤ n) (h1 : n ≤ 999) : (dec n).size ≤ 4 := by
  by_cases hn : n < 0
  · obtain ⟨u, rfl, hu⟩ : ∃ u : Nat, n = -(u : Int) ∧ 1 ≤ u := ⟨n.natAbs, by omega, by omega⟩
    rw [dec_neg u hu, ByteArray.size_append, show (⟨#[45]⟩ : ByteArray).size = 1 from rfl]
    have := decN_size (u := u) (f := 3) (by omega) (by omega)
    omega
  · obtain ⟨u, rfl⟩ : ∃ u : Nat, n = (u : Int) := ⟨n.toNat, by omega⟩
    rw [dec_nonneg]
    have := decN_size (u := u) (f := 3) (by omega) (by omega)
    omega
def encT (x : ByteArray) : List Value := [.string x]
def wordCells : Array Value := #[.string ⟨#[]⟩, .string ⟨#[103, 101, 116]⟩, .string ⟨#[97, 108, 108]⟩, .string ⟨#[115, 117, 109]⟩, .string ⟨#[112, 117, 116]⟩, .string ⟨#[97, 100, 100]⟩, .string ⟨#[99, 117, 116]⟩, .string ⟨#[98, 101, 103, 105, 110]⟩, .string ⟨#[101, 110, 100]⟩, .string ⟨#[117, 110, 100, 111]⟩]
theorem word_cell (w : World) {j : Nat} (h : j < 9) : (w.alloc (.cells wordCells 9)).cell? ⟨w.heap.size, j + 1, none⟩ = some (.string (word j)) := by
  rw [cell_of_row _ w.heap.size (j + 1) wordCells 9 (0, 0) (heap_alloc_new w _)]
  have hc : j = 0 ∨ j = 1 ∨ j = 2 ∨ j = 3 ∨ j = 4 ∨ j = 5 ∨ j = 6 ∨ j = 7 ∨ j = 8 := by omega
  rcases hc with rfl | rfl | rfl | rfl | rfl | rfl | rfl | rfl | rfl <;> rfl
set_option maxHeartbeats 1000000 in
theorem l4Word (j : Nat) (w : World) (h : j < 9) : Calls Tryd.prog 23 #[.int .i64 ((j : Int) + 1)] w fun e w' => e = .returned (.string (word j)) ∧ Below w.heap.size w w' := by
  have hc := word_cell w h
  unfold wordCells at hc
  have i0 : (0 : Int) ≤ (j : Int) + 1 := by omega
  have i1 : (j : Int) + 1 < 10 := by omega
  go_enter Tryd.func23, Tryd.ntmps23
  go_wp2
  go_ret
  exact ⟨rfl, bel_alloc (Below.refl _ _) _⟩
set_option maxHeartbeats 4000000 in
set_option maxRecDepth 100000 in
theorem specAskText (k : Int) (key hi : ByteArray) (num : Int) (w : World) (hk1 : key.size ≤ maxLen) (hk2 : hi.size ≤ maxLen) :
    Calls Tryd.prog 11 #[.agg #[.int .i64 k, .string key, .string hi, .int .i64 num]] w fun e w' => e = .returned (.string (askText k key hi num)) ∧ Below w.heap.size w w' := by
  have b0 := bel_alloc (Below.refl _ w) (.cells #[.int .i64 k, .string key, .string hi, .int .i64 num] 26)
  have x0 := BoxC.new w 26 #[.int .i64 k, .string key, .string hi, .int .i64 num]
  have C0 := Lib.hid (fun W => specAskOk k key hi num W hk1 hk2)
  clear hk1 hk2
  cases hok : askOk k key hi num
  · rw [askText_bad hok]
    rw [hok] at C0
    clear hok
    go_enter Tryd.func11, Tryd.ntmps11
    go_wp2_with fail
    refine (C0.out _).mono ?_
    rintro e w1 ⟨rfl, hb1⟩
    go_wp2
    go_ret
    exact ⟨rfl, bel_trans b0 hb1⟩
  · obtain ⟨j, a, b, c, rfl, hj, hs, z1, z2, n0, n1⟩ := askOk_facts hok
    rw [askText_ok hok hs]
    have z0 := word_size hj
    have z3 := dec_size n0 n1
    have C1 := Lib.hid (fun W => l4Shape ((j : Int) + 1) W)
    have C2 := Lib.hid (fun W => l4Word j W hj)
    have C3 := Lib.hid (fun W => l11Dec num W (by omega) (by omega))
    rw [hok] at C0
    rw [hs] at C1
    have HT := Lib.hid (show catT j key hi num a b c = addS c (addS b (addS a (word j) key) hi) (dec num) from rfl)
    clear hok hs
    generalize hwj : word j = wj at *
    generalize hdn : dec num = dn at *
    clear hwj hdn
    go_enter Tryd.func11, Tryd.ntmps11
    go_wp2_with fail
    refine (C0.out _).mono ?_
    rintro e w1 ⟨rfl, hb1⟩
    have b1 := bel_trans b0 hb1
    have x1 := x0.on hb1
    have c10 := x1.c (k := 0) rfl
    have c11 := x1.c (k := 1) rfl
    have c12 := x1.c (k := 2) rfl
    have c13 := x1.c (k := 3) rfl
    go_wp2_with fail
    refine (C1.out _).mono ?_
    rintro e w2 ⟨rfl, rfl⟩
    go_wp2_with fail
    refine (C2.out _).mono ?_
    rintro e w2 ⟨rfl, hb2⟩
    have b2 := bel_trans b1 hb2
    have x2 := x1.on hb2
    clear c10 c11 c12 c13
    have c10 := x2.c (k := 0) rfl
    have c11 := x2.c (k := 1) rfl
    have c12 := x2.c (k := 2) rfl
    have c13 := x2.c (k := 3) rfl
    cases a <;> cases b <;> cases c
    all_goals
      go_wp2_with fail
    all_goals first
      | (go_ret
         exact ⟨congrArg (fun s => Ending.returned (.string s)) (by rw [HT.out]; rfl), b2⟩)
      | (refine (C3.out _).mono ?_
         rintro e w3 ⟨rfl, hb3⟩
         go_wp2
         go_ret
         exact ⟨congrArg (fun s => Ending.returned (.string s)) (by rw [HT.out]; rfl), bel_trans b2 hb3⟩)
end Go.Proofs.YtpmeaikiaoojkaaDoor
