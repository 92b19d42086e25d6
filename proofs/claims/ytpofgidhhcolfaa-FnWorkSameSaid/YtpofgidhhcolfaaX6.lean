/- Contracts: WritesOk of the program and of the reference, in a namespace of their own. -/
import Derived.Test.YtpofgidhhcolfaaA1
import Derived.Test.YtpofgidhhcolfaaW1
import Derived.Deep.QuietTactic
import Derived.BigQuiet
namespace Go.Proofs.Ytpofgidhhcolfaa.Wx
open Go.RowKit

def klt (a b : ByteArray) : Bool := Op.bytesLess a.toList b.toList
def numOk (n : Int) : Bool := decide (-999 ≤ n) && decide (n ≤ 999)
def wOk (x : Write) : Bool := keyOk x.1 && (numOk x.2.1 && (!x.2.2 || x.2.1 == 0))
def AscP (l : List Write) : Prop := ∀ (i : Nat) (a b : Write), l[i]? = some a → l[i + 1]? = some b → klt a.1 b.1 = true
def EachP (l : List Write) : Prop := ∀ (i : Nat) (r : Write), l[i]? = some r → wOk r = true
def WritesP (m : Nat) (l : List Write) : Prop := l.length ≤ m ∧ EachP l ∧ AscP l
open Classical in
noncomputable def ascOk (l : List Write) : Bool := decide (AscP l)
open Classical in
noncomputable def writesOk (m : Nat) (l : List Write) : Bool := decide (WritesP m l)
theorem ascOk_true {l : List Write} (h : AscP l) : ascOk l = true := by simp [ascOk, h]
theorem ascOk_false {l : List Write} (h : ¬ AscP l) : ascOk l = false := by simp [ascOk, h]
theorem writesOk_true {m : Nat} {l : List Write} (h : WritesP m l) : writesOk m l = true := by simp [writesOk, h]
theorem writesOk_false {m : Nat} {l : List Write} (h : ¬ WritesP m l) : writesOk m l = false := by simp [writesOk, h]
theorem writesOk_iff {m : Nat} {l : List Write} : writesOk m l = true ↔ WritesP m l := by simp [writesOk]
theorem ascOk_iff {l : List Write} : ascOk l = true ↔ AscP l := by simp [ascOk]

/-- ascending up to element j + 1 -/
def AscTo (l : List Write) (j : Nat) : Prop := ∀ (i : Nat) (a b : Write), i < j → l[i]? = some a → l[i + 1]? = some b → klt a.1 b.1 = true
theorem AscTo.zero (l : List Write) : AscTo l 0 := fun _ _ _ h => absurd h (by omega)
theorem AscTo.step {l : List Write} {j : Nat} (h : AscTo l j) {x y : Write} (h0 : l[j]? = some x) (h1 : l[j + 1]? = some y) (hlt : klt x.1 y.1 = true) : AscTo l (j + 1) := by
  intro i a b hi ha hb
  by_cases hij : i < j
  · exact h i a b hij ha hb
  · obtain rfl : i = j := by omega
    rw [h0] at ha; rw [h1] at hb
    cases ha; cases hb
    exact hlt
theorem AscTo.all {l : List Write} {j : Nat} (h : AscTo l j) (hj : l.length ≤ j + 1) : AscP l := by
  intro i a b ha hb
  exact h i a b (by have := (List.getElem?_eq_some_iff.1 hb).1; omega) ha hb
theorem not_asc {l : List Write} {j : Nat} {x y : Write} (h0 : l[j]? = some x) (h1 : l[j + 1]? = some y) (hlt : klt x.1 y.1 = false) : ¬ AscP l := by
  intro h
  have := h j _ _ h0 h1
  rw [hlt] at this
  cases this


set_option maxHeartbeats 400000 in
theorem writeKey (f0 : ByteArray) (f1 : Int) (f2 : Bool) (w : World) :
    Calls Try.prog 132 #[.agg #[.string f0, .int .i64 f1, .bool f2]] w fun e w' => e = .returned (.string f0) ∧ w.alloc (.cells #[.string f0, .int .i64 f1, .bool f2] 73) = w' := by
  go_enter Try.func132, Try.ntmps132
  go_wp2
  go_ret
  exact ⟨rfl, rfl⟩
set_option maxHeartbeats 400000 in
theorem numOkC (num : Int) (w : World) : Calls Try.prog 119 #[.int .i64 num] w fun e w' => e = .returned (.bool (numOk num)) ∧ w = w' := by
  go_enter Try.func119, Try.ntmps119
  go_wp2
  all_goals (go_ret; refine ⟨ret_bool ?_, rfl⟩; simp [numOk]; try omega)
set_option maxHeartbeats 400000 in
theorem l1NumC (num : Int) (w : World) : Calls Try.prog 84 #[.int .i64 num] w fun e w' => e = .returned (.bool (numOk num)) ∧ w = w' := by
  go_enter Try.func84, Try.ntmps84
  go_wp2
  all_goals (go_ret; refine ⟨ret_bool ?_, rfl⟩; simp [numOk]; try omega)
set_option maxHeartbeats 1000000 in
theorem writeOkC (f0 : ByteArray) (f1 : Int) (f2 : Bool) (w : World) (h : f0.size ≤ maxLen) :
    Calls Try.prog 130 #[.agg #[.string f0, .int .i64 f1, .bool f2]] w fun e w' => e = .returned (.bool (wOk (f0, f1, f2))) ∧ w.alloc (.cells #[.string f0, .int .i64 f1, .bool f2] 73) = w' := by
  have hf : wOk (f0, f1, f2) = (keyOk f0 && (numOk f1 && (!f2 || f1 == 0))) := rfl
  have c1 := fun W => implKeyOk f0 W h
  have c2 := fun W => numOkC f1 W
  cases h0 : keyOk f0 <;> cases h1 : numOk f1 <;> cases f2 <;> cases h3 : (f1 == 0)
  all_goals
    rw [h0] at c1
    rw [h1] at c2
    rw [h0, h1, h3] at hf
    have HF := Lib.hid hf
    have C1 := Lib.hid c1
    have C2 := Lib.hid c2
    clear hf c1 c2 h0 h1
    go_enter Try.func130, Try.ntmps130
    go_wp2_with (first
      | (go_at_call 118; refine (C1.out _).mono ?_; rintro e w' ⟨rfl, rfl⟩)
      | (go_at_call 119; refine (C2.out _).mono ?_; rintro e w' ⟨rfl, rfl⟩))
    go_ret
    exact ⟨ret_bool HF.out.symm, rfl⟩
/-! ### ascending -/
set_option maxHeartbeats 1000000 in
theorem ascending (A : Option Addr) (n c : Nat) (l : List Write) (w : World) (hr : Sl encWrite w w.heap.size A n l) (hn : n ≤ 1048576) :
    Calls Try.prog 131 #[.slice A n c, .func (.func 132) #[] #[]] w fun e w' => e = .returned (.bool (ascOk l)) ∧ Below w.heap.size w w' := by
  have HL := Lib.hid hr.len
  by_cases h0 : n = 0
  · subst h0
    have ha : ascOk l = true := by rw [hr.nil_of]; exact ascOk_true (fun i a b h => by simp at h)
    rw [ha]
    clear ha
    go_enter Try.func131, Try.ntmps131
    go_wp2
    go_loopw [5] (fun i wr => i = .int .i64 1 ∧ w = wr) (fun i _ => 0)
    case atStart => exact ⟨rfl, rfl⟩
    case round =>
      obtain ⟨rfl, rfl⟩ := hrel
      go_wp2
      go_ret
      exact ⟨rfl, Below.refl _ _⟩
  · obtain ⟨b, off, rfl, hb⟩ := hr.spot (by omega)
    have hpos : 0 < n := by omega
    clear h0
    go_enter Try.func131, Try.ntmps131
    go_wp2
    go_loopw [5] (fun i wr => ∃ j : Nat, j + 1 ≤ n ∧ i = .int .i64 ((j : Int) + 1) ∧ AscTo l j ∧ Below w.heap.size w wr) (fun i _ => n - (intOf i).toNat)
    case atStart => exact ⟨0, by omega, rfl, AscTo.zero l, Below.refl _ _⟩
    case round =>
      obtain ⟨j, hj, rfl, hasc, hbel⟩ := hrel
      by_cases hkn : j + 1 < n
      · obtain ⟨key, num, gone, hrow, hk1, hk2, hkg⟩ := atWrite (k := j + 1) (hr.keep hbel) hkn
        obtain ⟨key0, num0, gone0, hrow0, hk3, hk4, hkh⟩ := atWrite (k := j) (hr.keep hbel) (by omega)
        have HR := Lib.hid hrow
        have HR0 := Lib.hid hrow0
        clear hrow hrow0
        have e1 : IntKind.i64.wrap (j : Int) = (j : Int) := IntWalk.i64_in _ (by omega)
        have i0 : (0 : Int) ≤ (j : Int) := by omega
        have i1 : (j : Int) < (n : Int) := by omega
        have i2 : (0 : Int) ≤ (j : Int) + 1 := by omega
        have i3 : (j : Int) + 1 < (n : Int) := by omega
        have i4 : ((j : Int) + 1).toNat = j + 1 := by omega
        have n1 := World.new_ne wr _ hk1
        have n2 := World.new_ne wr _ hk2
        have n3 := World.new_ne wr _ hk3
        have n4 := World.new_ne wr _ hk4
        have n5 := World.new_ne wr _ hkg
        have n6 := World.new_ne wr _ hkh
        cases hlt : klt key0 key
        all_goals
          have hlt' : Op.bytesLess key0.toList key.toList = _ := hlt
          have HLT := Lib.hid hlt
          clear hlt
          go_wp2_with fail
          go_region_held3 (fun w' => w'.cell? ⟨b, off + (j + 1) * 3, none⟩ = some (.string key) ∧ w'.cell? ⟨b, off + (j + 1) * 3 + 1, none⟩ = some (.int .i64 num) ∧ w'.cell? ⟨b, off + (j + 1) * 3 + 2, none⟩ = some (.bool gone) ∧ w'.cell? ⟨b, off + j * 3, none⟩ = some (.string key0) ∧ w'.cell? ⟨b, off + j * 3 + 1, none⟩ = some (.int .i64 num0) ∧ w'.cell? ⟨b, off + j * 3 + 2, none⟩ = some (.bool gone0))
            (go_keep)
            (first | (go_at_call 132; refine (writeKey _ _ _ _).mono ?_; rintro e w' ⟨rfl, rfl⟩))
          go_wp2
        · go_ret
          exact ⟨ret_bool (ascOk_false (not_asc HR0.out HR.out HLT.out)).symm, (bel_alloc (bel_alloc hbel _) _).drew⟩
        · go_roundw
          case rel => exact ⟨j + 1, by omega, by go_num, hasc.step HR0.out HR.out HLT.out, (bel_alloc (bel_alloc hbel _) _).drew⟩
          case measure => simp [intOf]; omega
      · go_wp2
        go_ret
        exact ⟨ret_bool (ascOk_true (hasc.all (by rw [HL.out]; omega))).symm, hbel⟩

def EachTo (l : List Write) (k : Nat) : Prop := ∀ (i : Nat) (r : Write), i < k → l[i]? = some r → wOk r = true
theorem EachTo.zero (l : List Write) : EachTo l 0 := fun _ _ h => absurd h (by omega)
theorem EachTo.step {l : List Write} {k : Nat} (h : EachTo l k) {x : Write} (hr : l[k]? = some x) (h1 : wOk x = true) : EachTo l (k + 1) := by
  intro i r hi hri
  by_cases hik : i < k
  · exact h i r hik hri
  · obtain rfl : i = k := by omega
    rw [hr] at hri; cases hri
    exact h1
theorem EachTo.all {l : List Write} {k : Nat} (h : EachTo l k) (hk : l.length ≤ k) : EachP l := by
  intro i r hr
  exact h i r (by have := (List.getElem?_eq_some_iff.1 hr).1; omega) hr
theorem not_each {l : List Write} {k : Nat} {x : Write} (hr : l[k]? = some x) (h : wOk x = false) : ¬ EachP l := by
  intro he
  have := he k _ hr
  rw [h] at this; cases this
theorem writesOk_bad {m : Nat} {l : List Write} (h : ¬ EachP l) : writesOk m l = false := writesOk_false fun h' => h h'.2.1
theorem writesOk_long {m : Nat} {l : List Write} (h : ¬ l.length ≤ m) : writesOk m l = false := writesOk_false fun h' => h h'.1
theorem writesOk_asc {m : Nat} {l : List Write} (h : l.length ≤ m) (he : EachP l) : writesOk m l = ascOk l := by
  by_cases ha : AscP l
  · rw [ascOk_true ha, writesOk_true ⟨h, he, ha⟩]
  · rw [ascOk_false ha, writesOk_false fun h' => ha h'.2.2]

set_option maxHeartbeats 1000000 in
theorem writesUpTo (A : Option Addr) (n c m : Nat) (l : List Write) (w : World) (hr : Sl encWrite w w.heap.size A n l) (hk : WriteSWf l) (hn : n ≤ 1048576) :
    Calls Try.prog 86 #[.slice A n c, .int .i64 m] w fun e w' => e = .returned (.bool (writesOk m l)) ∧ Below w.heap.size w w' := by
  have HL := Lib.hid hr.len
  by_cases h10 : m < n
  · have hf : writesOk m l = false := writesOk_long (by rw [HL.out]; omega)
    rw [hf]
    clear hf
    have h11 : (m : Int) < (n : Int) := by omega
    go_enter Try.func86, Try.ntmps86
    go_wp2
    go_ret
    exact ⟨rfl, Below.refl _ _⟩
  · have h10' : ((n : Int)) ≤ (m : Int) := by omega
    have h11 : ¬ (m : Int) < (n : Int) := by omega
    go_enter Try.func86, Try.ntmps86
    go_wp2
    go_loopw [6, 13] (fun v6 i wr => ∃ k : Nat, k ≤ n ∧ i = .int .i64 k ∧ EachTo l k ∧ Below w.heap.size w wr) (fun _ i _ => n - (intOf i).toNat)
    case atStart => exact ⟨0, by omega, rfl, EachTo.zero l, Below.refl _ _⟩
    case round =>
      obtain ⟨k, hkn, rfl, heach, hbel⟩ := hrel
      by_cases hlt : k < n
      · obtain ⟨b, off, rfl, hb⟩ := hr.spot (by omega)
        obtain ⟨key, num, gone, hrow, hk1, hk2, hkg⟩ := atWrite (hr.keep hbel) hlt
        have hks := hk.at_ hrow
        have HR := Lib.hid hrow
        clear hrow
        have i0 : (0 : Int) ≤ (k : Int) := by omega
        have i1 : (k : Int) < (n : Int) := by omega
        have c1 := fun W => writeOkC key num gone W hks
        cases hko : wOk (key, num, gone)
        all_goals
          rw [hko] at c1
          have C1 := Lib.hid c1
          have HKO := Lib.hid hko
          clear c1 hko
          go_wp2_with (go_at_call 130; refine (C1.out _).mono ?_; rintro e w' ⟨rfl, rfl⟩)
        · go_ret
          exact ⟨ret_bool (writesOk_bad (not_each HR.out HKO.out)).symm, bel_alloc (bel_alloc hbel _) _⟩
        · go_roundw
          case rel => exact ⟨k + 1, by omega, by go_num, heach.step HR.out HKO.out, bel_alloc (bel_alloc hbel _) _⟩
          case measure => simp [intOf]; omega
      · have hf : writesOk m l = ascOk l := writesOk_asc (by rw [HL.out]; omega) (heach.all (by rw [HL.out]; omega))
        have HF := Lib.hid hf
        clear hf
        go_wp2_with (go_at_call 131; refine (ascending A n c l _ (hr.on hbel) hn).mono ?_; rintro e w' ⟨rfl, hb2⟩)
        go_ret
        exact ⟨ret_bool HF.out.symm, bel_trans hbel hb2⟩
theorem implWritesOk (A : Option Addr) (n c : Nat) (l : List Write) (w : World) (hr : Sl encWrite w w.heap.size A n l) (hk : WriteSWf l) (hn : n ≤ 1048576) :
    Calls Try.prog 39 #[.slice A n c] w fun e w' => e = .returned (.bool (writesOk 6 l)) ∧ Below w.heap.size w w' := by
  have C := Lib.hid (writesUpTo A n c 6 l w hr hk hn)
  clear hr hk
  go_enter Try.func39, Try.ntmps39
  go_wp2_with fail
  refine C.out.mono ?_
  rintro e w1 ⟨rfl, hb⟩
  go_wp2
  go_ret
  exact ⟨rfl, hb⟩
end Go.Proofs.Ytpofgidhhcolfaa.Wx
namespace Go.Proofs.Ytpofgidhhcolfaa.Wx
open Go.RowKit

/-! ### Calls that leave the world as it is, inside a region that draws -/
theorem quiet_add_left {P : Program} {f : FuncId} {args : Array Value} {w : World} {a n : Nat} {v : Value}
    (h : Calls P f args (w.drewN (a + n)) fun e w' => e = .returned v ∧ w.drewN (a + n) = w') :
    Calls P f args (w.drewN (a + n)) fun e w'' => e = .returned v ∧ ∃ m, w'' = w.drewN (a + m) :=
  h.mono fun _ _ ⟨he, hm⟩ => ⟨he, n, hm.symm⟩
theorem quiet_left {P : Program} {f : FuncId} {args : Array Value} {w : World} {n : Nat} {v : Value}
    (h : Calls P f args (w.drewN n) fun e w' => e = .returned v ∧ w.drewN n = w') : Calls P f args (w.drewN n) fun e w'' => e = .returned v ∧ ∃ m, w'' = w.drewN m :=
  h.mono fun _ _ ⟨he, hm⟩ => ⟨he, n, hm.symm⟩


/-- ascending up to element k, counted by the later one of two neighbours -/
theorem AscTo.stepPrev {l : List Write} {k : Nat} (h : AscTo l (k - 1)) {x y : Write} (hk : 0 < k) (h0 : l[k - 1]? = some x) (h1 : l[k]? = some y) (hlt : klt x.1 y.1 = true) : AscTo l k := by
  obtain ⟨j, rfl⟩ : ∃ j, k = j + 1 := ⟨k - 1, by omega⟩
  exact AscTo.step (j := j) h h0 h1 hlt
set_option maxRecDepth 100000 in
set_option maxHeartbeats 4000000 in
theorem specWritesOk (A : Option Addr) (n c : Nat) (l : List Write) (w : World) (hr : Sl encWrite w w.heap.size A n l) (hk : WriteSWf l) (hn : n ≤ 1048576) :
    Calls Try.prog 37 #[.slice A n c] w fun e w' => e = .returned (.bool (writesOk 6 l)) ∧ Below w.heap.size w w' := by
  have HL := Lib.hid hr.len
  go_enter Try.func37, Try.ntmps37
  go_wp2
  go_loopw [3] (fun i wr => ∃ k : Nat, k ≤ n ∧ i = .int .i64 k ∧ EachTo l k ∧ AscTo l (k - 1) ∧ Below w.heap.size w wr) (fun i _ => n - (intOf i).toNat)
  case atStart => exact ⟨0, by omega, rfl, EachTo.zero l, AscTo.zero l, Below.refl _ _⟩
  case round =>
    obtain ⟨k, hkn, rfl, heach, hasc, hbel⟩ := hrel
    by_cases hlt : k < n
    · obtain ⟨b, off, rfl, hb⟩ := hr.spot (by omega)
      obtain ⟨key, num, gone, hrow, hk1, hk2, hkg⟩ := atWrite (hr.keep hbel) hlt
      have hks := hk.at_ hrow
      have HR := Lib.hid hrow
      clear hrow
      have i0 : (0 : Int) ≤ (k : Int) := by omega
      have i1 : (k : Int) < (n : Int) := by omega
      have c1 := fun W => specKeyOk key W hks
      have c2 := fun W => l1NumC num W
      cases hko : keyOk key
      · rw [hko] at c1
        have C1 := Lib.hid c1
        have HW := Lib.hid (show wOk (key, num, gone) = false by show (keyOk key && (numOk num && (!gone || num == 0))) = false; rw [hko]; rfl)
        clear c1 c2 hko
        go_wp2_with fail
        go_quiet ((go_at_call 83; exact quiet_left (C1.out _)))
        go_wp2
        go_ret
        exact ⟨ret_bool (writesOk_bad (not_each HR.out HW.out)).symm, bel_drewN hbel _⟩
      · rw [hko] at c1
        have C1 := Lib.hid c1
        clear c1
        cases hno : numOk num
        · rw [hno] at c2
          have C2 := Lib.hid c2
          have HW := Lib.hid (show wOk (key, num, gone) = false by show (keyOk key && (numOk num && (!gone || num == 0))) = false; rw [hko, hno]; rfl)
          clear c2 hno hko
          go_wp2_with fail
          go_quiet ((first | (go_at_call 83; exact quiet_left (C1.out _)) | (go_at_call 84; first | exact quiet_left (C2.out _) | exact quiet_add_left (C2.out _))))
          go_wp2
          go_ret
          exact ⟨ret_bool (writesOk_bad (not_each HR.out HW.out)).symm, bel_drewN hbel _⟩
        · rw [hno] at c2
          have C2 := Lib.hid c2
          clear c2
          have hall : (gone = true ∧ (num == 0) = false) ∨ (gone = false) ∨ (gone = true ∧ (num == 0) = true) := by cases gone <;> cases (num == 0) <;> simp
          rcases hall with ⟨rfl, h3⟩ | hgood
          · have HW := Lib.hid (show wOk (key, num, true) = false by show (keyOk key && (numOk num && (!true || num == 0))) = false; rw [hko, hno, h3]; rfl)
            have d3 : (num != 0) = !(num == 0) := rfl
            rw [h3] at d3
            simp only [Bool.not_false] at d3
            clear hno hko
            go_wp2_with fail
            go_quiet ((first | (go_at_call 83; exact quiet_left (C1.out _)) | (go_at_call 84; first | exact quiet_left (C2.out _) | exact quiet_add_left (C2.out _))))
            go_wp2
            go_ret
            exact ⟨ret_bool (writesOk_bad (not_each HR.out HW.out)).symm, bel_drewN hbel _⟩
          · have hw : wOk (key, num, gone) = true := by
              show (keyOk key && (numOk num && (!gone || num == 0))) = true
              rcases hgood with rfl | ⟨rfl, h3⟩
              · rw [hko, hno]; rfl
              · rw [hko, hno, h3]; rfl
            have HW := Lib.hid hw
            clear hw hno hko
            have hd3 : gone = false ∨ (gone = true ∧ (num != 0) = false) := by
              rcases hgood with h | ⟨h, h3⟩
              · exact .inl h
              · exact .inr ⟨h, by show (!(num == 0)) = false; rw [h3]; rfl⟩
            clear hgood
            by_cases hk0 : k = 0
            · have HK0 := Lib.hid hk0
              have hd : decide ((0 : Int) < (k : Int)) = false := by simp; omega
              have hd' : decide (0 < k) = false := by simp; omega
              clear hk0
              rcases hd3 with rfl | ⟨rfl, h3⟩
              all_goals
                go_wp2_with fail
                go_quiet ((first | (go_at_call 83; exact quiet_left (C1.out _)) | (go_at_call 84; first | exact quiet_left (C2.out _) | exact quiet_add_left (C2.out _))))
                go_wp2
                go_roundw
                case rel => exact ⟨k + 1, by omega, by go_num, heach.step HR.out HW.out, by rw [HK0.out]; exact AscTo.zero l, bel_drewN hbel _⟩
                case measure => simp [intOf]; omega
            · have hd : decide ((0 : Int) < (k : Int)) = true := by simp; omega
              have hd' : decide (0 < k) = true := by simp; omega
              obtain ⟨key0, num0, gone0, hrow0, hk3, hk4, hkh⟩ := atWrite (k := k - 1) (hr.keep hbel) (by omega)
              have HR0 := Lib.hid hrow0
              clear hrow0
              have hk0' : 0 < k := by omega
              clear hk0
              have j0 : (0 : Int) ≤ (k : Int) - 1 := by omega
              have j1 : (k : Int) - 1 < (n : Int) := by omega
              have j2 : ((k : Int) - 1).toNat = k - 1 := by omega
              have j3 : IntKind.i64.wrap ((k : Int) - 1) = (k : Int) - 1 := IntWalk.i64_in _ (by omega)
              cases hlt2 : klt key0 key
              all_goals
                have hlt' : Op.bytesLess key0.toList key.toList = _ := hlt2
                have HLT := Lib.hid hlt2
                clear hlt2
              · have HF := Lib.hid (show writesOk 6 l = false from writesOk_false (by
                  intro h'
                  have h1 := h'.2.2 (k - 1) _ _ HR0.out (by rw [show k - 1 + 1 = k by omega]; exact HR.out)
                  have h2 := HLT.out
                  rw [h2] at h1
                  cases h1))
                rcases hd3 with rfl | ⟨rfl, h3⟩
                all_goals
                  go_wp2_with fail
                  go_quiet ((first | (go_at_call 83; exact quiet_left (C1.out _)) | (go_at_call 84; first | exact quiet_left (C2.out _) | exact quiet_add_left (C2.out _))))
                  go_wp2
                  go_ret
                  exact ⟨ret_bool HF.out.symm, bel_drewN hbel _⟩
              · rcases hd3 with rfl | ⟨rfl, h3⟩
                all_goals
                  go_wp2_with fail
                  go_quiet ((first | (go_at_call 83; exact quiet_left (C1.out _)) | (go_at_call 84; first | exact quiet_left (C2.out _) | exact quiet_add_left (C2.out _))))
                  go_wp2
                  go_roundw
                  case rel => exact ⟨k + 1, by omega, by go_num, heach.step HR.out HW.out, hasc.stepPrev hk0' HR0.out HR.out HLT.out, bel_drewN hbel _⟩
                  case measure => simp [intOf]; omega
    · have ha : EachP l := heach.all (by rw [HL.out]; omega)
      have hb : AscP l := hasc.all (by rw [HL.out]; omega)
      have hf : writesOk 6 l = decide ((n : Int) ≤ 6) := by
        by_cases h10 : n ≤ 6
        · rw [writesOk_true ⟨by rw [HL.out]; exact h10, ha, hb⟩]; simp; omega
        · rw [writesOk_long (by rw [HL.out]; exact h10)]; simp; omega
      have HF := Lib.hid hf
      clear hf ha hb
      go_wp2
      go_ret
      exact ⟨ret_bool HF.out.symm, hbel⟩
end Go.Proofs.Ytpofgidhhcolfaa.Wx
