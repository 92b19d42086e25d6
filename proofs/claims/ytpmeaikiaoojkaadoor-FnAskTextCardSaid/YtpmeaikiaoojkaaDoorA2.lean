/- Contracts: the parts of AskOk: numbers, fields, shapes, the forms as they are laid. -/
import Derived.Test.YtpmeaikiaoojkaaDoorA1
import Derived.Test.YtpmeaikiaoojkaaDoorQ
namespace Go.Proofs.YtpmeaikiaoojkaaDoor
open Go.RowKit

def numOk (n : Int) : Bool := decide (-999 ≤ n) && decide (n ≤ 999)
theorem numOkC (num : Int) (w : World) : Calls Tryd.prog 22 #[.int .i64 num] w fun e w' => e = .returned (.bool (numOk num)) ∧ w = w' := by
  go_enter Tryd.func22, Tryd.ntmps22
  go_wp2
  all_goals (go_ret; refine ⟨ret_bool ?_, rfl⟩; simp [numOk]; try omega)
theorem l1NumC (num : Int) (w : World) : Calls Tryd.prog 20 #[.int .i64 num] w fun e w' => e = .returned (.bool (numOk num)) ∧ w = w' := by
  go_enter Tryd.func20, Tryd.ntmps20
  go_wp2
  all_goals (go_ret; refine ⟨ret_bool ?_, rfl⟩; simp [numOk]; try omega)
/-- which fields a kind has: a key, a second one, a number -/
def shape (k : Int) : Bool × Bool × Bool :=
  if k = 1 ∨ k = 6 then (true, false, false) else if k = 2 ∨ k = 3 then (true, true, false) else if k = 4 ∨ k = 5 then (true, false, true) else (false, false, false)
set_option maxHeartbeats 1000000 in
theorem l4Shape (k : Int) (w : World) : Calls Tryd.prog 18 #[.int .i64 k] w fun e w' => e = .returned (.tuple #[.bool (shape k).1, .bool (shape k).2.1, .bool (shape k).2.2]) ∧ w = w' := by
  by_cases h1 : k = 1
  · subst h1
    go_enter Tryd.func18, Tryd.ntmps18
    go_wp2
    go_ret3
    exact ⟨rfl, rfl⟩
  by_cases h2 : k = 6
  · subst h2
    go_enter Tryd.func18, Tryd.ntmps18
    go_wp2
    go_ret3
    exact ⟨rfl, rfl⟩
  by_cases h3 : k = 2
  · subst h3
    go_enter Tryd.func18, Tryd.ntmps18
    go_wp2
    go_ret3
    exact ⟨rfl, rfl⟩
  by_cases h4 : k = 3
  · subst h4
    go_enter Tryd.func18, Tryd.ntmps18
    go_wp2
    go_ret3
    exact ⟨rfl, rfl⟩
  by_cases h5 : k = 4
  · subst h5
    go_enter Tryd.func18, Tryd.ntmps18
    go_wp2
    go_ret3
    exact ⟨rfl, rfl⟩
  by_cases h6 : k = 5
  · subst h6
    go_enter Tryd.func18, Tryd.ntmps18
    go_wp2
    go_ret3
    exact ⟨rfl, rfl⟩
  have hs : shape k = (false, false, false) := by simp [shape, h1, h2, h3, h4, h5, h6]
  rw [hs]
  clear hs
  have e1 : (k == 1) = false := by simpa using h1
  have e2 : (k == 6) = false := by simpa using h2
  have e3 : (k == 2) = false := by simpa using h3
  have e4 : (k == 3) = false := by simpa using h4
  have e5 : (k == 4) = false := by simpa using h5
  have e6 : (k == 5) = false := by simpa using h6
  clear h1 h2 h3 h4 h5 h6
  go_enter Tryd.func18, Tryd.ntmps18
  go_wp2
  go_ret3
  exact ⟨rfl, rfl⟩
def emp (s : ByteArray) : Bool := s.toList == []
/-- a field is right: a key, if there has to be one, and empty otherwise -/
def fieldB (s : ByteArray) (has : Bool) : Bool := if has = true then keyOk s else emp s
theorem fieldOk (s : ByteArray) (has : Bool) (w : World) (hs : s.size ≤ maxLen) : Calls Tryd.prog 21 #[.string s, .bool has] w fun e w' => e = .returned (.bool (fieldB s has)) ∧ w = w' := by
  have C := Lib.hid (fun W => implKeyOk s W hs)
  cases has
  · go_enter Tryd.func21, Tryd.ntmps21
    go_wp2
    go_ret
    exact ⟨ret_bool (by simp [fieldB, emp]), rfl⟩
  · go_enter Tryd.func21, Tryd.ntmps21
    go_wp2_with fail
    refine (C.out _).mono ?_
    rintro e w' ⟨rfl, rfl⟩
    go_wp2
    go_ret
    exact ⟨rfl, rfl⟩
end Go.Proofs.YtpmeaikiaoojkaaDoor
