/- The law FnWorkSame, walked. -/
import Derived.Test.YtpofgidhhcolfaaXWC
import Derived.Test.YtpofgidhhcolfaaW5
namespace Go.Proofs.Ytpofgidhhcolfaa
open Go.RowKit

theorem WorkEq_longer (a : Int) (l : List Write) (x : Write) : WorkEq a l a (l ++ [x]) = false := by
  have h : ¬ (l = l ++ [x]) := fun h => by
    have := congrArg List.length h
    simp at this
  simp [WorkEq, h]
set_option maxHeartbeats 8000000 in
set_option maxRecDepth 100000 in
theorem lawFnWorkSame (A : Option Addr) (n c : Nat) (l : List UInt8) (w : World) (hr : Sl encB w w.heap.size A n l) (hn : n ≤ maxLen) (hc : n ≤ c) :
    Calls Try.prog 14 #[.slice A n c] w fun e w' => e = .returned (.bool true) ∧ Below w.heap.size w w' := by
  obtain ⟨i0, hi0, hz0, hz1, hz2⟩ := info_parts info73
  unfold maxLen at hn
  by_cases hbig : 1048576 < n
  · have hb : (1048576 : Int) < (n : Int) := by omega
    go_enter Try.func14, Try.ntmps14
    go_wp2
    go_ret
    exact ⟨rfl, Below.refl _ _⟩
  have hb : ¬ (1048576 : Int) < (n : Int) := by omega
  go_enter Try.func14, Try.ntmps14
  go_wp2_with fail
  refine (drawWorkSame A n c l w hr (by omega) hc).mono ?_
  rintro e w1 ⟨a1, B, m, cb, lw, a2, B2, m2, cb2, lw2, rfl, o1, o2, hm, hm2, b1⟩
  clear hr hn hc hb hbig
  have xa := (BoxC.new w1 29 #[.int .i64 a1, .slice B m cb]).alloc (.cells #[.int .i64 a2, .slice B2 m2 cb2] 29)
  have xb := BoxC.new (w1.alloc (.cells #[.int .i64 a1, .slice B m cb] 29)) 29 #[.int .i64 a2, .slice B2 m2 cb2]
  simp only [World.size_alloc] at xb
  have o1a := (o1.alloc (.cells #[.int .i64 a1, .slice B m cb] 29)).alloc (.cells #[.int .i64 a2, .slice B2 m2 cb2] 29)
  have o2a := (o2.alloc (.cells #[.int .i64 a1, .slice B m cb] 29)).alloc (.cells #[.int .i64 a2, .slice B2 m2 cb2] 29)
  have b2 := bel_alloc (bel_alloc b1 (.cells #[.int .i64 a1, .slice B m cb] 29)) (.cells #[.int .i64 a2, .slice B2 m2 cb2] 29)
  go_wp2_with fail
  obtain ⟨D, hD⟩ : ∃ D, w1.heap.size = D := ⟨_, rfl⟩
  rw [hD] at xa xb
  rw [hD]
  clear hD o1 o2 b1
  generalize (w1.alloc (.cells #[.int .i64 a1, .slice B m cb] 29)).alloc (.cells #[.int .i64 a2, .slice B2 m2 cb2] 29) = w3 at *
  have HO1 := Lib.hid o1a
  have HO2 := Lib.hid o2a
  have HB := Lib.hid b2
  have HL := Lib.hid o1a.len
  have HM : Hid (m ≤ 50 ∧ m2 ≤ 50) := Lib.hid ⟨hm, hm2⟩
  have HC2 : Hid (∀ W, Below w3.heap.size w3 W → W.cell? ⟨D, 0, none⟩ = some (.int .i64 a1) ∧ W.cell? ⟨D, 1, none⟩ = some (.slice B m cb) ∧ D < W.heap.size ∧ W.cell? ⟨D + 1, 0, none⟩ = some (.int .i64 a2) ∧ W.cell? ⟨D + 1, 1, none⟩ = some (.slice B2 m2 cb2) ∧ D + 1 < W.heap.size) :=
    Lib.hid fun W hW => ⟨(xa.on hW).c (k := 0) rfl, (xa.on hW).c (k := 1) rfl, (xa.on hW).lt, (xb.on hW).c (k := 0) rfl, (xb.on hW).c (k := 1) rfl, (xb.on hW).lt⟩
  obtain ⟨r, hr⟩ : ∃ r, WorkEq a1 lw a2 lw2 = r := ⟨_, rfl⟩
  have HRR := Lib.hid hr
  have hrr : (r != r) = false := by simp
  clear hr xa xb o1a o2a b2 hm hm2
  have AAB : Hid (∀ W, Below w3.heap.size w3 W → Calls Try.prog 22 #[.agg #[.int .i64 a1, .slice B m cb], .agg #[.int .i64 a2, .slice B2 m2 cb2]] W fun e w' => e = .returned (.bool r) ∧ Below W.heap.size W w') := Lib.hid fun W hW => by
    have h := implWorkSame a1 B m cb lw a2 B2 m2 cb2 lw2 W (HO1.out.on hW).sl (HO2.out.on hW).sl (by have := HM.out; omega)
    rwa [HRR.out] at h
  have SAB : Hid (∀ W, Below w3.heap.size w3 W → Calls Try.prog 20 #[.agg #[.int .i64 a1, .slice B m cb], .agg #[.int .i64 a2, .slice B2 m2 cb2]] W fun e w' => e = .returned (.bool r) ∧ Below W.heap.size W w') := Lib.hid fun W hW => by
    have h := specWorkSame a1 B m cb lw a2 B2 m2 cb2 lw2 W (HO1.out.on hW).sl (HO2.out.on hW).sl (by have := HM.out; omega)
    rwa [HRR.out] at h
  have ABA : Hid (∀ W, Below w3.heap.size w3 W → Calls Try.prog 22 #[.agg #[.int .i64 a2, .slice B2 m2 cb2], .agg #[.int .i64 a1, .slice B m cb]] W fun e w' => e = .returned (.bool r) ∧ Below W.heap.size W w') := Lib.hid fun W hW => by
    have h := implWorkSame a2 B2 m2 cb2 lw2 a1 B m cb lw W (HO2.out.on hW).sl (HO1.out.on hW).sl (by have := HM.out; omega)
    rwa [WorkEq_comm, HRR.out] at h
  have AAA : Hid (∀ W, Below w3.heap.size w3 W → Calls Try.prog 22 #[.agg #[.int .i64 a1, .slice B m cb], .agg #[.int .i64 a1, .slice B m cb]] W fun e w' => e = .returned (.bool true) ∧ Below W.heap.size W w') := Lib.hid fun W hW => by
    have h := implWorkSame a1 B m cb lw a1 B m cb lw W (HO1.out.on hW).sl (HO1.out.on hW).sl (by have := HM.out; omega)
    rwa [WorkEq_self] at h
  have kb := Below.refl w3.heap.size w3
  obtain ⟨p0, p1, p2, p3, p4, p5⟩ := HC2.out w3 kb
  go_wp2_with fail
  refine wp_region_held_drew (S := (fun W' => (W'.cell? ⟨D, 0, none⟩ = some (.int .i64 a1) ∧ W'.cell? ⟨D, 1, none⟩ = some (.slice B m cb) ∧ D < W'.heap.size ∧ W'.cell? ⟨D + 1, 0, none⟩ = some (.int .i64 a2) ∧ W'.cell? ⟨D + 1, 1, none⟩ = some (.slice B2 m2 cb2) ∧ D + 1 < W'.heap.size) ∧ Below w3.heap.size w3 W')) (by kernel_rfl) ⟨HC2.out _ kb.drew, kb.drew⟩ (fun hHeld => ?_)
  refine wpAnyH_take (i := 0) (oi := { dst := some 14, op := Go.Op.load 29 (Go.Operand.tmp 3), type := 29, pos := "laws.go:609", after := #[], guard := none }) (v := ?_) rfl (by kernel_rfl) (by kernel_rfl) (by kernel_rfl) (fun _ _ _ h => h) (Or.inl ⟨by rfl, ?hy0⟩) (by assumption) ?_
  case hy0 => ((intro w hSw; (try dsimp only at hSw); go_simp); try with_reducible rfl)
  try simp only [Act.put, List.setIfInBounds_toArray, List.set_cons_zero, List.set_cons_succ]
  refine wpAnyH_take (i := 1) (oi := { dst := some 15, op := Go.Op.load 29 (Go.Operand.tmp 4), type := 29, pos := "laws.go:609", after := #[], guard := none }) (v := ?_) rfl (by kernel_rfl) (by kernel_rfl) (by kernel_rfl) (fun _ _ _ h => h) (Or.inl ⟨by rfl, ?hy1⟩) (by assumption) ?_
  case hy1 => ((intro w hSw; (try dsimp only at hSw); go_simp); try with_reducible rfl)
  try simp only [Act.put, List.setIfInBounds_toArray, List.set_cons_zero, List.set_cons_succ]
  refine wpAnyH_take (i := 3) (oi := { dst := some 17, op := Go.Op.load 29 (Go.Operand.tmp 3), type := 29, pos := "laws.go:609", after := #[], guard := none }) (v := ?_) rfl (by kernel_rfl) (by kernel_rfl) (by kernel_rfl) (fun _ _ _ h => h) (Or.inl ⟨by rfl, ?hy3⟩) (by assumption) ?_
  case hy3 => ((intro w hSw; (try dsimp only at hSw); go_simp); try with_reducible rfl)
  try simp only [Act.put, List.setIfInBounds_toArray, List.set_cons_zero, List.set_cons_succ]
  refine wpAnyH_take (i := 4) (oi := { dst := some 18, op := Go.Op.load 29 (Go.Operand.tmp 4), type := 29, pos := "laws.go:609", after := #[], guard := none }) (v := ?_) rfl (by kernel_rfl) (by kernel_rfl) (by kernel_rfl) (fun _ _ _ h => h) (Or.inl ⟨by rfl, ?hy4⟩) (by assumption) ?_
  case hy4 => ((intro w hSw; (try dsimp only at hSw); go_simp); try with_reducible rfl)
  try simp only [Act.put, List.setIfInBounds_toArray, List.set_cons_zero, List.set_cons_succ]
  refine wpAnyH_ready (rs := [2]) (by kernel_rfl) (by simp) ?_
  refine AllReadyH.cons (o := { dst := some 16, op := Go.Op.call { callee := Go.Callee.value (Go.Operand.func 22), args := #[Go.Operand.tmp 14, Go.Operand.tmp 15], argTypes := #[29, 29] }, type := 4, pos := "laws.go:609", after := #[{ on := 0, ground := Go.Ground.data }, { on := 1, ground := Go.Ground.data }], guard := none }) rfl (fun K hK => ?_) AllReadyH.nil
  go_simp
  refine (AAB.out _ hHeld.2).mono ?_
  rintro e wr1 ⟨rfl, hbr1⟩
  replace kb := bel_trans hHeld.2 hbr1
  clear hbr1
  go_wp2_with fail
  refine hK.out _ _ ⟨HC2.out _ kb, kb⟩ (fun hHeld => ?_)
  clear hK K
  try simp only [Act.put, List.setIfInBounds_toArray, List.set_cons_zero, List.set_cons_succ]
  refine wpAnyH_ready (rs := [5]) (by kernel_rfl) (by simp) ?_
  refine AllReadyH.cons (o := { dst := some 19, op := Go.Op.call { callee := Go.Callee.value (Go.Operand.func 20), args := #[Go.Operand.tmp 17, Go.Operand.tmp 18], argTypes := #[29, 29] }, type := 4, pos := "laws.go:609", after := #[{ on := 3, ground := Go.Ground.data }, { on := 4, ground := Go.Ground.data }, { on := 2, ground := Go.Ground.chain }], guard := none }) rfl (fun K hK => ?_) AllReadyH.nil
  go_simp
  refine (SAB.out _ hHeld.2).mono ?_
  rintro e wr2 ⟨rfl, hbr2⟩
  replace kb := bel_trans hHeld.2 hbr2
  clear hbr2
  go_wp2_with fail
  refine hK.out _ _ ⟨HC2.out _ kb, kb⟩ (fun hHeld => ?_)
  clear hK K
  try simp only [Act.put, List.setIfInBounds_toArray, List.set_cons_zero, List.set_cons_succ]
  refine wpAnyH_take (i := 6) (oi := { dst := some 20, op := Go.Op.binOp Go.BinOp.neq 4 (Go.Operand.tmp 16) (Go.Operand.tmp 19) 4, type := 4, pos := "laws.go:609", after := #[{ on := 2, ground := Go.Ground.data }, { on := 5, ground := Go.Ground.data }], guard := none }) (v := ?_) rfl (by kernel_rfl) (by kernel_rfl) (by kernel_rfl) (fun _ _ _ h => h) (Or.inl ⟨by rfl, ?hy6⟩) (by assumption) ?_
  case hy6 => ((intro w hSw; (try dsimp only at hSw); go_simp); try with_reducible rfl)
  try simp only [Act.put, List.setIfInBounds_toArray, List.set_cons_zero, List.set_cons_succ]
  refine wpAnyH_take (i := 7) (oi := { dst := some 21, op := Go.Op.move (Go.Operand.tmp 20), type := 4, pos := "laws.go:609", after := #[{ on := 6, ground := Go.Ground.data }, { on := 5, ground := Go.Ground.chain }], guard := none }) (v := ?_) rfl (by kernel_rfl) (by kernel_rfl) (by kernel_rfl) (fun _ _ _ h => h) (Or.inl ⟨by rfl, ?hy7⟩) (by assumption) ?_
  case hy7 => ((intro w hSw; (try dsimp only at hSw); go_simp); try with_reducible rfl)
  try simp only [Act.put, List.setIfInBounds_toArray, List.set_cons_zero, List.set_cons_succ]
  refine wpAnyH_take (i := 8) (oi := { dst := some 22, op := Go.Op.load 29 (Go.Operand.tmp 3), type := 29, pos := "laws.go:609", after := #[{ on := 7, ground := Go.Ground.guard }], guard := some (7, false) }) (v := ?_) rfl (by kernel_rfl) (by kernel_rfl) (by kernel_rfl) (fun _ _ _ h => h) (Or.inl ⟨by rfl, ?hy8⟩) (by assumption) ?_
  case hy8 => ((intro w hSw; (try dsimp only at hSw); go_simp); try with_reducible rfl)
  try simp only [Act.put, List.setIfInBounds_toArray, List.set_cons_zero, List.set_cons_succ]
  refine wpAnyH_take (i := 9) (oi := { dst := some 23, op := Go.Op.load 29 (Go.Operand.tmp 4), type := 29, pos := "laws.go:609", after := #[{ on := 7, ground := Go.Ground.guard }], guard := some (7, false) }) (v := ?_) rfl (by kernel_rfl) (by kernel_rfl) (by kernel_rfl) (fun _ _ _ h => h) (Or.inl ⟨by rfl, ?hy9⟩) (by assumption) ?_
  case hy9 => ((intro w hSw; (try dsimp only at hSw); go_simp); try with_reducible rfl)
  try simp only [Act.put, List.setIfInBounds_toArray, List.set_cons_zero, List.set_cons_succ]
  refine wpAnyH_take (i := 11) (oi := { dst := some 25, op := Go.Op.load 29 (Go.Operand.tmp 4), type := 29, pos := "laws.go:609", after := #[{ on := 7, ground := Go.Ground.guard }], guard := some (7, false) }) (v := ?_) rfl (by kernel_rfl) (by kernel_rfl) (by kernel_rfl) (fun _ _ _ h => h) (Or.inl ⟨by rfl, ?hy11⟩) (by assumption) ?_
  case hy11 => ((intro w hSw; (try dsimp only at hSw); go_simp); try with_reducible rfl)
  try simp only [Act.put, List.setIfInBounds_toArray, List.set_cons_zero, List.set_cons_succ]
  refine wpAnyH_take (i := 12) (oi := { dst := some 26, op := Go.Op.load 29 (Go.Operand.tmp 3), type := 29, pos := "laws.go:609", after := #[{ on := 7, ground := Go.Ground.guard }], guard := some (7, false) }) (v := ?_) rfl (by kernel_rfl) (by kernel_rfl) (by kernel_rfl) (fun _ _ _ h => h) (Or.inl ⟨by rfl, ?hy12⟩) (by assumption) ?_
  case hy12 => ((intro w hSw; (try dsimp only at hSw); go_simp); try with_reducible rfl)
  try simp only [Act.put, List.setIfInBounds_toArray, List.set_cons_zero, List.set_cons_succ]
  refine wpAnyH_ready (rs := [10]) (by kernel_rfl) (by simp) ?_
  refine AllReadyH.cons (o := { dst := some 24, op := Go.Op.call { callee := Go.Callee.value (Go.Operand.func 22), args := #[Go.Operand.tmp 22, Go.Operand.tmp 23], argTypes := #[29, 29] }, type := 4, pos := "laws.go:609", after := #[{ on := 8, ground := Go.Ground.data }, { on := 9, ground := Go.Ground.data }, { on := 7, ground := Go.Ground.chain }, { on := 7, ground := Go.Ground.guard }], guard := some (7, false) }) rfl (fun K hK => ?_) AllReadyH.nil
  go_simp
  refine (AAB.out _ hHeld.2).mono ?_
  rintro e wr3 ⟨rfl, hbr3⟩
  replace kb := bel_trans hHeld.2 hbr3
  clear hbr3
  go_wp2_with fail
  refine hK.out _ _ ⟨HC2.out _ kb, kb⟩ (fun hHeld => ?_)
  clear hK K
  try simp only [Act.put, List.setIfInBounds_toArray, List.set_cons_zero, List.set_cons_succ]
  refine wpAnyH_ready (rs := [13]) (by kernel_rfl) (by simp) ?_
  refine AllReadyH.cons (o := { dst := some 27, op := Go.Op.call { callee := Go.Callee.value (Go.Operand.func 22), args := #[Go.Operand.tmp 25, Go.Operand.tmp 26], argTypes := #[29, 29] }, type := 4, pos := "laws.go:609", after := #[{ on := 11, ground := Go.Ground.data }, { on := 12, ground := Go.Ground.data }, { on := 10, ground := Go.Ground.chain }, { on := 7, ground := Go.Ground.guard }], guard := some (7, false) }) rfl (fun K hK => ?_) AllReadyH.nil
  go_simp
  refine (ABA.out _ hHeld.2).mono ?_
  rintro e wr4 ⟨rfl, hbr4⟩
  replace kb := bel_trans hHeld.2 hbr4
  clear hbr4
  go_wp2_with fail
  refine hK.out _ _ ⟨HC2.out _ kb, kb⟩ (fun hHeld => ?_)
  clear hK K
  try simp only [Act.put, List.setIfInBounds_toArray, List.set_cons_zero, List.set_cons_succ]
  refine wpAnyH_take (i := 14) (oi := { dst := some 28, op := Go.Op.binOp Go.BinOp.neq 4 (Go.Operand.tmp 24) (Go.Operand.tmp 27) 4, type := 4, pos := "laws.go:609", after := #[{ on := 10, ground := Go.Ground.data }, { on := 13, ground := Go.Ground.data }, { on := 7, ground := Go.Ground.guard }], guard := some (7, false) }) (v := ?_) rfl (by kernel_rfl) (by kernel_rfl) (by kernel_rfl) (fun _ _ _ h => h) (Or.inl ⟨by rfl, ?hy14⟩) (by assumption) ?_
  case hy14 => ((intro w hSw; (try dsimp only at hSw); go_simp); try with_reducible rfl)
  try simp only [Act.put, List.setIfInBounds_toArray, List.set_cons_zero, List.set_cons_succ]
  refine wpAnyH_take (i := 15) (oi := { dst := some 29, op := Go.Op.pick (Go.Operand.tmp 21) (Go.Operand.const (Go.Value.bool true)) (Go.Operand.tmp 28), type := 4, pos := "laws.go:609", after := #[{ on := 7, ground := Go.Ground.data }, { on := 14, ground := Go.Ground.data }], guard := none }) (v := ?_) rfl (by kernel_rfl) (by kernel_rfl) (by kernel_rfl) (fun _ _ _ h => h) (Or.inl ⟨by rfl, ?hy15⟩) (by assumption) ?_
  case hy15 => ((intro w hSw; (try dsimp only at hSw); go_simp); try with_reducible rfl)
  try simp only [Act.put, List.setIfInBounds_toArray, List.set_cons_zero, List.set_cons_succ]
  refine wpAnyH_take (i := 16) (oi := { dst := some 30, op := Go.Op.move (Go.Operand.tmp 29), type := 4, pos := "laws.go:609", after := #[{ on := 15, ground := Go.Ground.data }, { on := 13, ground := Go.Ground.chain }], guard := none }) (v := ?_) rfl (by kernel_rfl) (by kernel_rfl) (by kernel_rfl) (fun _ _ _ h => h) (Or.inl ⟨by rfl, ?hy16⟩) (by assumption) ?_
  case hy16 => ((intro w hSw; (try dsimp only at hSw); go_simp); try with_reducible rfl)
  try simp only [Act.put, List.setIfInBounds_toArray, List.set_cons_zero, List.set_cons_succ]
  refine wpAnyH_take (i := 17) (oi := { dst := some 31, op := Go.Op.load 29 (Go.Operand.tmp 3), type := 29, pos := "laws.go:609", after := #[{ on := 16, ground := Go.Ground.guard }], guard := some (16, false) }) (v := ?_) rfl (by kernel_rfl) (by kernel_rfl) (by kernel_rfl) (fun _ _ _ h => h) (Or.inl ⟨by rfl, ?hy17⟩) (by assumption) ?_
  case hy17 => ((intro w hSw; (try dsimp only at hSw); go_simp); try with_reducible rfl)
  try simp only [Act.put, List.setIfInBounds_toArray, List.set_cons_zero, List.set_cons_succ]
  refine wpAnyH_take (i := 18) (oi := { dst := some 32, op := Go.Op.load 29 (Go.Operand.tmp 3), type := 29, pos := "laws.go:609", after := #[{ on := 16, ground := Go.Ground.guard }], guard := some (16, false) }) (v := ?_) rfl (by kernel_rfl) (by kernel_rfl) (by kernel_rfl) (fun _ _ _ h => h) (Or.inl ⟨by rfl, ?hy18⟩) (by assumption) ?_
  case hy18 => ((intro w hSw; (try dsimp only at hSw); go_simp); try with_reducible rfl)
  try simp only [Act.put, List.setIfInBounds_toArray, List.set_cons_zero, List.set_cons_succ]
  refine wpAnyH_ready (rs := [19]) (by kernel_rfl) (by simp) ?_
  refine AllReadyH.cons (o := { dst := some 33, op := Go.Op.call { callee := Go.Callee.value (Go.Operand.func 22), args := #[Go.Operand.tmp 31, Go.Operand.tmp 32], argTypes := #[29, 29] }, type := 4, pos := "laws.go:609", after := #[{ on := 17, ground := Go.Ground.data }, { on := 18, ground := Go.Ground.data }, { on := 16, ground := Go.Ground.chain }, { on := 16, ground := Go.Ground.guard }], guard := some (16, false) }) rfl (fun K hK => ?_) AllReadyH.nil
  go_simp
  refine (AAA.out _ hHeld.2).mono ?_
  rintro e wr5 ⟨rfl, hbr5⟩
  replace kb := bel_trans hHeld.2 hbr5
  clear hbr5
  go_wp2_with fail
  refine hK.out _ _ ⟨HC2.out _ kb, kb⟩ (fun hHeld => ?_)
  clear hK K
  try simp only [Act.put, List.setIfInBounds_toArray, List.set_cons_zero, List.set_cons_succ]
  refine wpAnyH_take (i := 20) (oi := { dst := some 34, op := Go.Op.unOp Go.UnOp.not 4 (Go.Operand.tmp 33), type := 4, pos := "laws.go:609", after := #[{ on := 19, ground := Go.Ground.data }, { on := 16, ground := Go.Ground.guard }], guard := some (16, false) }) (v := ?_) rfl (by kernel_rfl) (by kernel_rfl) (by kernel_rfl) (fun _ _ _ h => h) (Or.inl ⟨by rfl, ?hy20⟩) (by assumption) ?_
  case hy20 => ((intro w hSw; (try dsimp only at hSw); go_simp); try with_reducible rfl)
  try simp only [Act.put, List.setIfInBounds_toArray, List.set_cons_zero, List.set_cons_succ]
  refine wpAnyH_take (i := 21) (oi := { dst := some 35, op := Go.Op.pick (Go.Operand.tmp 30) (Go.Operand.const (Go.Value.bool true)) (Go.Operand.tmp 34), type := 4, pos := "laws.go:609", after := #[{ on := 16, ground := Go.Ground.data }, { on := 20, ground := Go.Ground.data }], guard := none }) (v := ?_) rfl (by kernel_rfl) (by kernel_rfl) (by kernel_rfl) (fun _ _ _ h => h) (Or.inl ⟨by rfl, ?hy21⟩) (by assumption) ?_
  case hy21 => ((intro w hSw; (try dsimp only at hSw); go_simp); try with_reducible rfl)
  try simp only [Act.put, List.setIfInBounds_toArray, List.set_cons_zero, List.set_cons_succ]
  refine wpAnyH_done (by kernel_rfl) ?_ _
  clear p0 p1 p2 p3 p4 p5
  obtain ⟨p0, p1, p2, -, -, -⟩ := HC2.out _ kb
  have xc := (BoxC.new wr5 29 #[.int .i64 a1, .slice B m cb]).alloc (.cells #[] 73)
  have om := Own.made0 (enc := encWrite) (sz := 3) (e := 73) (base := wr5.heap.size + 1) (wr5.alloc (.cells #[.int .i64 a1, .slice B m cb] 29)) (by simp)
  simp only [World.size_alloc] at om
  have k2 := bel_alloc (bel_alloc kb (.cells #[.int .i64 a1, .slice B m cb] 29)) (.cells #[] 73)
  have k3 : Below wr5.heap.size wr5 _ := bel_alloc (bel_alloc (Below.refl _ wr5) (.cells #[.int .i64 a1, .slice B m cb] 29)) (.cells #[] 73)
  have rs := (HO1.out.on k2).sl
  have HD := Lib.hid p2
  go_wp2_with (first
    | (at_builtin; refine wpList_append_sl _ rfl _ _ 27 rfl (wr5.heap.size + 1) 73 i0 _ 3 32 Try.underlying27 hi0 hz0 hz1 hz2 rfl (by decide) encWrite_len encWrite_one _ [] rfl om _ B m cb lw rfl rs (by have := HM.out; unfold maxLen; simp; omega) (by have := HM.out; simp; omega) (by simp) ?_; intro v8 w8 o8 g8; rw [List.nil_append] at o8; obtain ⟨A8, c8, rfl, h8, -⟩ := o8.form; have x8 := xc.grown g8 (fun h => by have := (World.ownsRow.lt om _ h.symm).1; omega); have b8 := bel_grown k3 g8 (fun k hk => by have := (World.ownsRow.lt om k hk).1; omega); have oa8 := o8.alloc (.cells #[.string ⟨#[]⟩, .int .i64 0, .bool false] 73); have xa8 := x8.alloc (.cells #[.string ⟨#[]⟩, .int .i64 0, .bool false] 73); have ba8 := bel_alloc b8 (.cells #[.string ⟨#[]⟩, .int .i64 0, .bool false] 73); have ls := Sl.lit1 (enc := encWrite) w8 #[.string ⟨#[]⟩, .int .i64 0, .bool false] 73 (⟨#[]⟩, 0, false) rfl; have hz8 := x8.lt)
    | (at_builtin; refine wpList_append_sl _ rfl _ _ 27 rfl (wr5.heap.size + 1) 73 i0 _ 3 32 Try.underlying27 hi0 hz0 hz1 hz2 rfl (by decide) encWrite_len encWrite_one _ lw rfl oa8 _ (some ⟨w8.heap.size, 0, none⟩) 1 1 [(⟨#[]⟩, 0, false)] rfl ls (by have := HM.out; have := HL.out; unfold maxLen; omega) (by have := HM.out; have := HL.out; omega) (by rw [World.size_alloc]; omega) ?_; intro v9 w9 o9 g9; obtain ⟨A9, c9, rfl, -, -⟩ := o9.form; have x9 := xa8.grown g9 (fun h => by have := (World.ownsRow.lt oa8 _ h.symm).1; omega); have b9 := bel_grown ba8 g9 (fun k hk => by have := (World.ownsRow.lt oa8 k hk).1; omega); have hl9 : (lw ++ ([(⟨#[]⟩, 0, false)] : List Write)).length = m + 1 := (by rw [List.length_append, HL.out]; rfl); rw [hl9] at o9 ⊢; have f91 := x9.f 1; have c91 := x9.c (k := 1) rfl; have y9 := x9.set 1 (.slice A9 (m + 1) c9); have y90 := y9.c (k := 0) rfl; have y91 := y9.c (k := 1) rfl; have kb9 := bel_trans kb b9; have HP9 := HC2.out _ kb9; have P0 := HP9.1; have P1 := HP9.2.1; have P2 := HP9.2.2.1; have hdw := HD.out; clear xc om k2 k3 rs oa8 xa8 ba8 g9 HP9))
  have kbz := kb.size
  have kb10 := bel_set kb9 (p := ⟨wr5.heap.size, 1, none⟩) (by simp only; omega) (.slice A9 (m + 1) c9)
  have o10 := o9.box (k := 1) (v := .slice A9 (m + 1) c9) x9 (by decide)
  refine (implWorkSame a1 B m cb lw a1 A9 (m + 1) c9 (lw ++ [(⟨#[]⟩, 0, false)]) _ (HO1.out.on kb10).sl o10.sl (by have := HM.out; omega)).mono ?_
  rintro e w11 ⟨rfl, hb11⟩
  rw [WorkEq_longer]
  go_wp2
  go_ret
  exact ⟨rfl, bel_trans HB.out (bel_trans kb10 hb11)⟩
end Go.Proofs.Ytpofgidhhcolfaa
