/- Contracts over seats: szSeat, toSeat, eqSeat, SeatSame of the program and of the reference. -/
import Derived.Test.YtpmeaikiaoojkaaW5
import Derived.Test.YtpmeaikiaoojkaaQ
namespace Go.Proofs.Ytpmeaikiaoojkaa
open Go.RowKit

set_option maxHeartbeats 1000000 in
theorem szSeat (on bad : Bool) (at_ : Int) (A : Option Addr) (n c : Nat) (l : List Write) (left : Int) (w : World) (hr : Sl encWrite w w.heap.size A n l) (hk : WriteSWf l) (hn : n ≤ maxLen) (h1 : 0 ≤ left) (h2 : left ≤ 1048576) :
    Calls Try.prog 23 #[.agg #[.bool on, .bool bad, .int .i64 at_, .slice A n c], .int .i64 left] w (SzWritePost w n left) := by
  have HN := Lib.hid hn
  clear hn
  have b0 := bel_alloc (Below.refl _ w) (.cells #[.bool on, .bool bad, .int .i64 at_, .slice A n c] 45)
  go_enter Try.func23, Try.ntmps23
  go_wp2_with fail
  refine (szWork at_ A n c l left _ (hr.on b0) hk HN.out h1 h2).mono ?_
  rintro e w1 ⟨v, rfl, hv0, hv1, hv2, hb⟩
  have b1 := bel_trans b0 hb
  go_wp2
  all_goals
    go_ret
    exact ⟨_, rfl, by omega, by omega, by omega, b1⟩
def ToSeatPost (w : World) (on bad : Bool) (at_ : Int) (n : Nat) (l : List Write) (e : Ending) (w' : World) : Prop :=
  ∃ g, e = .returned (.agg #[.bool on, .bool bad, .int .i64 at_, .slice (some ⟨g, 0, none⟩) n n]) ∧ Own encWrite 3 113 w' w.heap.size (.slice (some ⟨g, 0, none⟩) n n) l ∧ Below w.heap.size w w'
set_option maxHeartbeats 2000000 in
theorem toSeat (on bad : Bool) (at_ : Int) (A : Option Addr) (n c : Nat) (l : List Write) (w : World) (hr : Sl encWrite w w.heap.size A n l) (hn : n ≤ 1048576) :
    Calls Try.prog 25 #[.agg #[.bool on, .bool bad, .int .i64 at_, .slice A n c]] w (ToSeatPost w on bad at_ n l) := by
  have HR := Lib.hid hr
  have HN := Lib.hid hn
  clear hr hn
  have b0 := bel_alloc (Below.refl _ w) (.cells #[.bool on, .bool bad, .int .i64 at_, .slice A n c] 45)
  have b1 := bel_alloc b0 (.cells #[.bool false, .bool false, .int .i64 0, .slice none 0 0] 52)
  have x2 := BoxC.new (w.alloc (.cells #[.bool on, .bool bad, .int .i64 at_, .slice A n c] 45)) 52 #[.bool false, .bool false, .int .i64 0, .slice none 0 0]
  have b2 := bel_alloc b1 (.cells #[.bool on, .bool bad, .int .i64 0, .slice none 0 0] 52)
  have x3 := BoxC.new ((w.alloc (.cells #[.bool on, .bool bad, .int .i64 at_, .slice A n c] 45)).alloc (.cells #[.bool false, .bool false, .int .i64 0, .slice none 0 0] 52)) 52 #[.bool on, .bool bad, .int .i64 0, .slice none 0 0]
  replace x2 := x2.alloc (.cells #[.bool on, .bool bad, .int .i64 0, .slice none 0 0] 52)
  simp only [World.size_alloc] at x2 x3
  clear b0 b1
  go_enter Try.func25, Try.ntmps25
  go_wp2_with fail
  refine (toWork at_ A n c l _ (HR.out.on b2) HN.out).mono ?_
  rintro e w1 ⟨g, rfl, ho, hb⟩
  replace x2 := x2.on hb
  replace x3 := x3.on hb
  have b3 := bel_trans b2 hb
  have hz := x3.lt
  have c30 := x3.c (k := 0) rfl
  have c31 := x3.c (k := 1) rfl
  have c32 := x3.c (k := 2) rfl
  have c33 := x3.c (k := 3) rfl
  have f32 := x3.f 2
  have f33 := x3.f 3
  have c20 := x2.c (k := 0) rfl
  have c21 := x2.c (k := 1) rfl
  have c22 := x2.c (k := 2) rfl
  have c23 := x2.c (k := 3) rfl
  have f20 := x2.f 0
  have f21 := x2.f 1
  have f22 := x2.f 2
  have f23 := x2.f 3
  have y1 := x3.set 2 (.int .i64 at_)
  have o1 := ho.box (k := 2) (v := .int .i64 at_) x3 (by decide)
  have o2 := o1.box (k := 3) (v := .slice (some ⟨g, 0, none⟩) n n) y1 (by decide)
  have z1 := (x2.other (B' := w.heap.size + 1 + 1) (k := 2) (x := .int .i64 at_) (by omega)).other (B' := w.heap.size + 1 + 1) (k := 3) (x := .slice (some ⟨g, 0, none⟩) n n) (by omega)
  have o3 := o2.box (k := 0) (v := .bool on) z1 (by decide)
  have z2 := z1.set 0 (.bool on)
  have o4 := o3.box (k := 1) (v := .bool bad) z2 (by decide)
  have z3 := z2.set 1 (.bool bad)
  have o5 := o4.box (k := 2) (v := .int .i64 at_) z3 (by decide)
  have z4 := z3.set 2 (.int .i64 at_)
  have O6 := Lib.hid ((o5.box (k := 3) (v := .slice (some ⟨g, 0, none⟩) n n) z4 (by decide)).lower (base' := w.heap.size) b2.size)
  have B6 := Lib.hid (bel_set (bel_set (bel_set (bel_set (bel_set (bel_set b3 (p := ⟨w.heap.size + 1 + 1, 2, none⟩) (by simp only; omega) (.int .i64 at_)) (p := ⟨w.heap.size + 1 + 1, 3, none⟩) (by simp only; omega) (.slice (some ⟨g, 0, none⟩) n n)) (p := ⟨w.heap.size + 1, 0, none⟩) (by simp only; omega) (.bool on)) (p := ⟨w.heap.size + 1, 1, none⟩) (by simp only; omega) (.bool bad)) (p := ⟨w.heap.size + 1, 2, none⟩) (by simp only; omega) (.int .i64 at_)) (p := ⟨w.heap.size + 1, 3, none⟩) (by simp only; omega) (.slice (some ⟨g, 0, none⟩) n n))
  clear y1 z1 z2 z3 z4 o1 o2 o3 o4 o5 x2 x3 ho hb b2 b3
  go_wp2_with fail
  exact bodyPost_ret (v := .agg #[.bool on, .bool bad, .int .i64 at_, .slice (some ⟨g, 0, none⟩) n n]) (by simp [results, Try.results25, go_sem, c20, c21, c22, c23]) rfl ⟨g, rfl, O6.out, B6.out⟩
def SeatEq (on bad : Bool) (at_ : Int) (l : List Write) (on2 bad2 : Bool) (at2 : Int) (p : List Write) : Bool := (on == on2) && ((bad == bad2) && WorkEq at_ l at2 p)
theorem SeatEq_self (on bad : Bool) (at_ : Int) (l : List Write) : SeatEq on bad at_ l on bad at_ l = true := by simp [SeatEq, WorkEq_self]
theorem SeatEq_comm (on bad : Bool) (at_ : Int) (l : List Write) (on2 bad2 : Bool) (at2 : Int) (p : List Write) : SeatEq on bad at_ l on2 bad2 at2 p = SeatEq on2 bad2 at2 p on bad at_ l := by
  unfold SeatEq
  rw [WorkEq_comm at_ l at2 p]
  cases on <;> cases on2 <;> cases bad <;> cases bad2 <;> rfl
set_option maxHeartbeats 2000000 in
theorem eqSeat (on bad : Bool) (at_ : Int) (A : Option Addr) (n c : Nat) (l : List Write) (on2 bad2 : Bool) (at2 : Int) (B : Option Addr) (m d : Nat) (p : List Write) (w : World) (hr : Sl encWrite w w.heap.size A n l) (hs : Sl encWrite w w.heap.size B m p) (hn : n ≤ 1048576) :
    Calls Try.prog 27 #[.agg #[.bool on, .bool bad, .int .i64 at_, .slice A n c], .agg #[.bool on2, .bool bad2, .int .i64 at2, .slice B m d]] w fun e w' => e = .returned (.bool (SeatEq on bad at_ l on2 bad2 at2 p)) ∧ Below w.heap.size w w' := by
  have HN := Lib.hid hn
  clear hn
  have b0 := bel_alloc (bel_alloc (Below.refl _ w) (.cells #[.bool on, .bool bad, .int .i64 at_, .slice A n c] 52)) (.cells #[.bool on2, .bool bad2, .int .i64 at2, .slice B m d] 52)
  have x1 := (BoxC.new w 52 #[.bool on, .bool bad, .int .i64 at_, .slice A n c]).alloc (.cells #[.bool on2, .bool bad2, .int .i64 at2, .slice B m d] 52)
  have x2 := BoxC.new (w.alloc (.cells #[.bool on, .bool bad, .int .i64 at_, .slice A n c] 52)) 52 #[.bool on2, .bool bad2, .int .i64 at2, .slice B m d]
  simp only [World.size_alloc] at x2
  have a0 := x1.c (k := 0) rfl
  have a1 := x1.c (k := 1) rfl
  have a2 := x1.c (k := 2) rfl
  have a3 := x1.c (k := 3) rfl
  have b10 := x2.c (k := 0) rfl
  have b11 := x2.c (k := 1) rfl
  have b12 := x2.c (k := 2) rfl
  have b13 := x2.c (k := 3) rfl
  clear x1 x2
  have C := Lib.hid (fun W hW => eqWork at_ A n c l at2 B m d p W (hr.on (hW : Below w.heap.size w W)) (hs.on hW) HN.out)
  clear hr hs
  cases h1 : (on == on2) <;> cases h2 : (bad == bad2)
  all_goals
    have HF := Lib.hid (show SeatEq on bad at_ l on2 bad2 at2 p = ((on == on2) && ((bad == bad2) && WorkEq at_ l at2 p)) from rfl)
    rw [h1, h2] at HF
    have d1 : (on != on2) = !(on == on2) := rfl
    have d2 : (bad != bad2) = !(bad == bad2) := rfl
    rw [h1] at d1
    rw [h2] at d2
    simp only [Bool.not_true, Bool.not_false] at d1 d2
    go_enter Try.func27, Try.ntmps27
    go_wp2_with fail
  all_goals first
    | (go_ret; exact ⟨retBool HF.out.symm, b0⟩)
    | (refine (C.out _ b0).mono ?_
       rintro e w1 ⟨rfl, hb⟩
       have b1 := bel_trans b0 hb
       rw [Bool.true_and, Bool.true_and] at HF
       cases hw : WorkEq at_ l at2 p
       all_goals
         rw [hw] at HF
         go_wp2_with fail
         go_ret
         exact ⟨retBool HF.out.symm, b1⟩)
set_option maxHeartbeats 2000000 in
theorem implSeatSame (on bad : Bool) (at_ : Int) (A : Option Addr) (n c : Nat) (l : List Write) (on2 bad2 : Bool) (at2 : Int) (B : Option Addr) (m d : Nat) (p : List Write) (w : World) (hr : Sl encWrite w w.heap.size A n l) (hs : Sl encWrite w w.heap.size B m p) (hn : n ≤ 1048576) :
    Calls Try.prog 26 #[.agg #[.bool on, .bool bad, .int .i64 at_, .slice A n c], .agg #[.bool on2, .bool bad2, .int .i64 at2, .slice B m d]] w fun e w' => e = .returned (.bool (SeatEq on bad at_ l on2 bad2 at2 p)) ∧ Below w.heap.size w w' := by
  have HN := Lib.hid hn
  clear hn
  have b0 := bel_alloc (bel_alloc (Below.refl _ w) (.cells #[.bool on, .bool bad, .int .i64 at_, .slice A n c] 52)) (.cells #[.bool on2, .bool bad2, .int .i64 at2, .slice B m d] 52)
  have x1 := (BoxC.new w 52 #[.bool on, .bool bad, .int .i64 at_, .slice A n c]).alloc (.cells #[.bool on2, .bool bad2, .int .i64 at2, .slice B m d] 52)
  have x2 := BoxC.new (w.alloc (.cells #[.bool on, .bool bad, .int .i64 at_, .slice A n c] 52)) 52 #[.bool on2, .bool bad2, .int .i64 at2, .slice B m d]
  simp only [World.size_alloc] at x2
  have a0 := x1.c (k := 0) rfl
  have a1 := x1.c (k := 1) rfl
  have a2 := x1.c (k := 2) rfl
  have a3 := x1.c (k := 3) rfl
  have b10 := x2.c (k := 0) rfl
  have b11 := x2.c (k := 1) rfl
  have b12 := x2.c (k := 2) rfl
  have b13 := x2.c (k := 3) rfl
  clear x1 x2
  have C := Lib.hid (fun W hW => implWorkSame at_ A n c l at2 B m d p W (hr.on (hW : Below w.heap.size w W)) (hs.on hW) HN.out)
  clear hr hs
  cases h1 : (on == on2) <;> cases h2 : (bad == bad2)
  all_goals
    have HF := Lib.hid (show SeatEq on bad at_ l on2 bad2 at2 p = ((on == on2) && ((bad == bad2) && WorkEq at_ l at2 p)) from rfl)
    rw [h1, h2] at HF
    have d1 : (on != on2) = !(on == on2) := rfl
    have d2 : (bad != bad2) = !(bad == bad2) := rfl
    rw [h1] at d1
    rw [h2] at d2
    simp only [Bool.not_true, Bool.not_false] at d1 d2
    go_enter Try.func26, Try.ntmps26
    go_wp2_with fail
  all_goals first
    | (go_ret; exact ⟨retBool HF.out.symm, b0⟩)
    | (refine (C.out _ b0).mono ?_
       rintro e w1 ⟨rfl, hb⟩
       have b1 := bel_trans b0 hb
       rw [Bool.true_and, Bool.true_and] at HF
       cases hw : WorkEq at_ l at2 p
       all_goals
         rw [hw] at HF
         go_wp2_with fail
         go_ret
         exact ⟨retBool HF.out.symm, b1⟩)
set_option maxHeartbeats 2000000 in
theorem specSeatSame (on bad : Bool) (at_ : Int) (A : Option Addr) (n c : Nat) (l : List Write) (on2 bad2 : Bool) (at2 : Int) (B : Option Addr) (m d : Nat) (p : List Write) (w : World) (hr : Sl encWrite w w.heap.size A n l) (hs : Sl encWrite w w.heap.size B m p) (hn : n ≤ 1048576) :
    Calls Try.prog 24 #[.agg #[.bool on, .bool bad, .int .i64 at_, .slice A n c], .agg #[.bool on2, .bool bad2, .int .i64 at2, .slice B m d]] w fun e w' => e = .returned (.bool (SeatEq on bad at_ l on2 bad2 at2 p)) ∧ Below w.heap.size w w' := by
  have HN := Lib.hid hn
  clear hn
  have b0 := bel_alloc (bel_alloc (Below.refl _ w) (.cells #[.bool on, .bool bad, .int .i64 at_, .slice A n c] 52)) (.cells #[.bool on2, .bool bad2, .int .i64 at2, .slice B m d] 52)
  have x1 := (BoxC.new w 52 #[.bool on, .bool bad, .int .i64 at_, .slice A n c]).alloc (.cells #[.bool on2, .bool bad2, .int .i64 at2, .slice B m d] 52)
  have x2 := BoxC.new (w.alloc (.cells #[.bool on, .bool bad, .int .i64 at_, .slice A n c] 52)) 52 #[.bool on2, .bool bad2, .int .i64 at2, .slice B m d]
  simp only [World.size_alloc] at x2
  have a0 := x1.c (k := 0) rfl
  have a1 := x1.c (k := 1) rfl
  have a2 := x1.c (k := 2) rfl
  have a3 := x1.c (k := 3) rfl
  have b10 := x2.c (k := 0) rfl
  have b11 := x2.c (k := 1) rfl
  have b12 := x2.c (k := 2) rfl
  have b13 := x2.c (k := 3) rfl
  clear x1 x2
  have C := Lib.hid (fun W hW => specWorkSame at_ A n c l at2 B m d p W (hr.on (hW : Below w.heap.size w W)) (hs.on hW) HN.out)
  clear hr hs
  cases h1 : (on == on2) <;> cases h2 : (bad == bad2)
  all_goals
    have HF := Lib.hid (show SeatEq on bad at_ l on2 bad2 at2 p = ((on == on2) && ((bad == bad2) && WorkEq at_ l at2 p)) from rfl)
    rw [h1, h2] at HF
    have d1 : (on != on2) = !(on == on2) := rfl
    have d2 : (bad != bad2) = !(bad == bad2) := rfl
    rw [h1] at d1
    rw [h2] at d2
    simp only [Bool.not_true, Bool.not_false] at d1 d2
    go_enter Try.func24, Try.ntmps24
    go_wp2_with fail
  all_goals first
    | (go_ret; exact ⟨retBool HF.out.symm, b0⟩)
    | (refine (C.out _ b0).mono ?_
       rintro e w1 ⟨rfl, hb⟩
       have b1 := bel_trans b0 hb
       rw [Bool.true_and, Bool.true_and] at HF
       cases hw : WorkEq at_ l at2 p
       all_goals
         rw [hw] at HF
         go_wp2_with fail
         go_ret
         exact ⟨retBool HF.out.symm, b1⟩)
end Go.Proofs.Ytpmeaikiaoojkaa
