/- The hall: contracts of eqHall, of HallNew of the program and of the reference. -/
import Derived.Test.YtpofgidhhcolfaaHN1
import Derived.Test.YtpofgidhhcolfaaT2
namespace Go.Proofs.Ytpofgidhhcolfaa
open Go.RowKit

set_option maxHeartbeats 4000000 in
set_option maxRecDepth 100000 in
theorem eqTalkS (g h c d : Nat) (w : World) (hg : ZCells w g) (hh : ZCells w h) :
    Calls Try.prog 123 #[.slice (some ⟨g, 0, none⟩) 3 c, .slice (some ⟨h, 0, none⟩) 3 d] w fun e w' => e = .returned (.bool true) ∧ Below w.heap.size w w' := by
  go_enter Try.func123, Try.ntmps123
  go_wp2_with fail
  go_loopw [5] (fun v5 wr => ∃ i : Nat, i ≤ 3 ∧ v5 = .int .i64 i ∧ Below w.heap.size w wr) (fun v5 _ => 3 - (intOf v5).toNat)
  case atStart => exact ⟨0, by omega, rfl, Below.refl _ _⟩
  case round =>
    obtain ⟨i, hi3, rfl, hbw⟩ := hrel
    by_cases hlt : i < 3
    · have hlt' : (i : Int) < 3 := by omega
      have i0 : (0 : Int) ≤ (i : Int) := by omega
      go_wp2_with fail
      refine wp_region_held_drew (S := (fun W' => (W'.cell? ⟨g, i * 8, none⟩ = some (.bool false) ∧ W'.cell? ⟨g, i * 8 + 1, none⟩ = some (.bool false) ∧ W'.cell? ⟨g, i * 8 + 2, none⟩ = some (.int .i64 0) ∧ W'.cell? ⟨g, i * 8 + 3, none⟩ = some (.slice none 0 0) ∧ W'.cell? ⟨g, i * 8 + 4, none⟩ = some (.slice none 0 0) ∧ W'.cell? ⟨g, i * 8 + 5, none⟩ = some (.bool false) ∧ W'.cell? ⟨g, i * 8 + 6, none⟩ = some (.bool true) ∧ W'.cell? ⟨g, i * 8 + 7, none⟩ = some (.string ByteArray.empty)) ∧ (W'.cell? ⟨h, i * 8, none⟩ = some (.bool false) ∧ W'.cell? ⟨h, i * 8 + 1, none⟩ = some (.bool false) ∧ W'.cell? ⟨h, i * 8 + 2, none⟩ = some (.int .i64 0) ∧ W'.cell? ⟨h, i * 8 + 3, none⟩ = some (.slice none 0 0) ∧ W'.cell? ⟨h, i * 8 + 4, none⟩ = some (.slice none 0 0) ∧ W'.cell? ⟨h, i * 8 + 5, none⟩ = some (.bool false) ∧ W'.cell? ⟨h, i * 8 + 6, none⟩ = some (.bool true) ∧ W'.cell? ⟨h, i * 8 + 7, none⟩ = some (.string ByteArray.empty)) ∧ Below w.heap.size w W')) (by kernel_rfl) ⟨((hg.on (bel_drewN hbw 1)) i hlt).1, ((hh.on (bel_drewN hbw 1)) i hlt).1, (bel_drewN hbw 1)⟩ (fun hHeld => ?_)
      refine wpAnyH_take (i := 0) (oi := { dst := some 17, op := Go.Op.move (Go.Operand.tmp 0), type := 85, pos := "exact.go:828", after := #[], guard := none }) (v := ?_) rfl (by kernel_rfl) (by kernel_rfl) (by kernel_rfl) (fun _ _ _ h => h) (Or.inl ⟨by rfl, ?hy0⟩) (by assumption) ?_
      case hy0 => ((intro w hSw; (try dsimp only at hSw); go_simp); try with_reducible rfl)
      try simp only [Act.put, List.setIfInBounds_toArray, List.set_cons_zero, List.set_cons_succ]
      refine wpAnyH_take (i := 1) (oi := { dst := some 18, op := Go.Op.move (Go.Operand.tmp 5), type := 3, pos := "exact.go:828", after := #[], guard := none }) (v := ?_) rfl (by kernel_rfl) (by kernel_rfl) (by kernel_rfl) (fun _ _ _ h => h) (Or.inl ⟨by rfl, ?hy1⟩) (by assumption) ?_
      case hy1 => ((intro w hSw; (try dsimp only at hSw); go_simp); try with_reducible rfl)
      try simp only [Act.put, List.setIfInBounds_toArray, List.set_cons_zero, List.set_cons_succ]
      refine wpAnyH_take (i := 2) (oi := { dst := some 19, op := Go.Op.indexAddr 85 (Go.Operand.tmp 17) (Go.Operand.tmp 18), type := 0, pos := "exact.go:828", after := #[{ on := 0, ground := Go.Ground.data }, { on := 1, ground := Go.Ground.data }], guard := none }) (v := ?_) rfl (by kernel_rfl) (by kernel_rfl) (by kernel_rfl) (fun _ _ _ h => h) (Or.inl ⟨by rfl, ?hy2⟩) (by assumption) ?_
      case hy2 => ((intro w hSw; (try dsimp only at hSw); go_simp); try with_reducible rfl)
      try simp only [Act.put, List.setIfInBounds_toArray, List.set_cons_zero, List.set_cons_succ]
      refine wpAnyH_take (i := 3) (oi := { dst := some 20, op := Go.Op.load 150 (Go.Operand.tmp 19), type := 150, pos := "exact.go:828", after := #[{ on := 2, ground := Go.Ground.data }], guard := none }) (v := ?_) rfl (by kernel_rfl) (by kernel_rfl) (by kernel_rfl) (fun _ _ _ h => h) (Or.inl ⟨by rfl, ?hy3⟩) (by assumption) ?_
      case hy3 => ((intro w hSw; (try dsimp only at hSw); go_simp); try with_reducible rfl)
      try simp only [Act.put, List.setIfInBounds_toArray, List.set_cons_zero, List.set_cons_succ]
      refine wpAnyH_take (i := 4) (oi := { dst := some 21, op := Go.Op.move (Go.Operand.tmp 1), type := 85, pos := "exact.go:828", after := #[], guard := none }) (v := ?_) rfl (by kernel_rfl) (by kernel_rfl) (by kernel_rfl) (fun _ _ _ h => h) (Or.inl ⟨by rfl, ?hy4⟩) (by assumption) ?_
      case hy4 => ((intro w hSw; (try dsimp only at hSw); go_simp); try with_reducible rfl)
      try simp only [Act.put, List.setIfInBounds_toArray, List.set_cons_zero, List.set_cons_succ]
      refine wpAnyH_take (i := 5) (oi := { dst := some 22, op := Go.Op.move (Go.Operand.tmp 5), type := 3, pos := "exact.go:828", after := #[], guard := none }) (v := ?_) rfl (by kernel_rfl) (by kernel_rfl) (by kernel_rfl) (fun _ _ _ h => h) (Or.inl ⟨by rfl, ?hy5⟩) (by assumption) ?_
      case hy5 => ((intro w hSw; (try dsimp only at hSw); go_simp); try with_reducible rfl)
      try simp only [Act.put, List.setIfInBounds_toArray, List.set_cons_zero, List.set_cons_succ]
      refine wpAnyH_take (i := 6) (oi := { dst := some 23, op := Go.Op.indexAddr 85 (Go.Operand.tmp 21) (Go.Operand.tmp 22), type := 0, pos := "exact.go:828", after := #[{ on := 4, ground := Go.Ground.data }, { on := 5, ground := Go.Ground.data }], guard := none }) (v := ?_) rfl (by kernel_rfl) (by kernel_rfl) (by kernel_rfl) (fun _ _ _ h => h) (Or.inl ⟨by rfl, ?hy6⟩) (by assumption) ?_
      case hy6 => ((intro w hSw; (try dsimp only at hSw); go_simp); try with_reducible rfl)
      try simp only [Act.put, List.setIfInBounds_toArray, List.set_cons_zero, List.set_cons_succ]
      refine wpAnyH_take (i := 7) (oi := { dst := some 24, op := Go.Op.load 150 (Go.Operand.tmp 23), type := 150, pos := "exact.go:828", after := #[{ on := 6, ground := Go.Ground.data }], guard := none }) (v := ?_) rfl (by kernel_rfl) (by kernel_rfl) (by kernel_rfl) (fun _ _ _ h => h) (Or.inl ⟨by rfl, ?hy7⟩) (by assumption) ?_
      case hy7 => ((intro w hSw; (try dsimp only at hSw); go_simp); try with_reducible rfl)
      try simp only [Act.put, List.setIfInBounds_toArray, List.set_cons_zero, List.set_cons_succ]
      refine wpAnyH_ready (rs := [8]) (by kernel_rfl) (by simp) ?_
      refine AllReadyH.cons (o := { dst := some 25, op := Go.Op.call { callee := Go.Callee.value (Go.Operand.func 149), args := #[Go.Operand.tmp 20, Go.Operand.tmp 24], argTypes := #[150, 150] }, type := 4, pos := "exact.go:828", after := #[{ on := 3, ground := Go.Ground.data }, { on := 7, ground := Go.Ground.data }], guard := none }) rfl (fun K hK => ?_) AllReadyH.nil
      go_simp
      refine (eqTalkZ _).mono ?_
      rintro e w1 ⟨rfl, hb1⟩
      have hb2 := bel_trans hHeld.2.2 hb1
      go_wp2_with fail
      refine hK.out _ _ ⟨((hg.on hb2) i hlt).1, ((hh.on hb2) i hlt).1, hb2⟩ (fun hHeld => ?_)
      clear hK K
      try simp only [Act.put, List.setIfInBounds_toArray, List.set_cons_zero, List.set_cons_succ]
      refine wpAnyH_take (i := 9) (oi := { dst := some 26, op := Go.Op.unOp Go.UnOp.not 4 (Go.Operand.tmp 25), type := 4, pos := "exact.go:828", after := #[{ on := 8, ground := Go.Ground.data }], guard := none }) (v := ?_) rfl (by kernel_rfl) (by kernel_rfl) (by kernel_rfl) (fun _ _ _ h => h) (Or.inl ⟨by rfl, ?hy9⟩) (by assumption) ?_
      case hy9 => ((intro w hSw; (try dsimp only at hSw); go_simp); try with_reducible rfl)
      try simp only [Act.put, List.setIfInBounds_toArray, List.set_cons_zero, List.set_cons_succ]
      refine wpAnyH_done (by kernel_rfl) ?_ _
      go_wp2_with fail
      go_roundw
      case rel => exact ⟨i + 1, by omega, by go_num, hb2⟩
      case measure => simp [intOf]; omega
    · have hlt' : ¬ (i : Int) < 3 := by omega
      go_wp2
      go_ret
      exact ⟨rfl, hbw⟩
set_option maxHeartbeats 1000000 in
theorem eqHall (A B : Option Addr) (c1 c2 g h c d : Nat) (w : World) (hg : ZCells w g) (hh : ZCells w h) :
    Calls Try.prog 69 #[.agg #[.int .i64 0, .slice A 0 c1, .slice (some ⟨g, 0, none⟩) 3 c], .agg #[.int .i64 0, .slice B 0 c2, .slice (some ⟨h, 0, none⟩) 3 d]] w fun e w' => e = .returned (.bool true) ∧ Below w.heap.size w w' := by
  have b0 := bel_alloc (bel_alloc (Below.refl _ w) (.cells #[.int .i64 0, .slice A 0 c1, .slice (some ⟨g, 0, none⟩) 3 c] 87)) (.cells #[.int .i64 0, .slice B 0 c2, .slice (some ⟨h, 0, none⟩) 3 d] 87)
  have xa := (BoxC.new w 87 #[.int .i64 0, .slice A 0 c1, .slice (some ⟨g, 0, none⟩) 3 c]).alloc (.cells #[.int .i64 0, .slice B 0 c2, .slice (some ⟨h, 0, none⟩) 3 d] 87)
  have xb := BoxC.new (w.alloc (.cells #[.int .i64 0, .slice A 0 c1, .slice (some ⟨g, 0, none⟩) 3 c] 87)) 87 #[.int .i64 0, .slice B 0 c2, .slice (some ⟨h, 0, none⟩) 3 d]
  simp only [World.size_alloc] at xb
  have p0 := xa.c (k := 0) rfl
  have p1 := xa.c (k := 1) rfl
  have p2 := xa.c (k := 2) rfl
  have q0 := xb.c (k := 0) rfl
  have q1 := xb.c (k := 1) rfl
  have q2 := xb.c (k := 2) rfl
  go_enter Try.func69, Try.ntmps69
  go_wp2_with fail
  generalize (w.alloc (.cells #[.int .i64 0, .slice A 0 c1, .slice (some ⟨g, 0, none⟩) 3 c] 87)).alloc (.cells #[.int .i64 0, .slice B 0 c2, .slice (some ⟨h, 0, none⟩) 3 d] 87) = w0 at *
  refine (eqVers 0 A 0 c1 [] 0 B 0 c2 [] w0 (Sl.nil _ _ _ _) (Sl.nil _ _ _ _) (by omega)).mono ?_
  rintro e w1 ⟨rfl, hb1⟩
  rw [VersEq_self]
  have b1 := bel_trans b0 hb1
  replace p2 := (xa.on hb1).c (k := 2) rfl
  replace q2 := (xb.on hb1).c (k := 2) rfl
  clear p0 p1 q0 q1
  go_wp2_with fail
  refine (eqTalkS g h c d w1 (hg.on b1) (hh.on b1)).mono ?_
  rintro e w2 ⟨rfl, hb2⟩
  go_wp2
  go_ret
  exact ⟨rfl, bel_trans b1 hb2⟩
set_option maxHeartbeats 1000000 in
theorem closedTalk (w : World) : Calls Try.prog 122 #[] w fun e w' => e = .returned (.agg #[.bool false, .bool false, .int .i64 0, .slice none 0 0, .slice none 0 0, .bool false, .bool true, .string ByteArray.empty]) ∧ Below w.heap.size w w' := by
  have x := BoxC.new w 150 #[.bool false, .bool false, .int .i64 0, .slice none 0 0, .slice none 0 0, .bool false, .bool true, .string ByteArray.empty]
  have x0 : (w.alloc (.cells #[.bool false, .bool false, .int .i64 0, .slice none 0 0, .slice none 0 0, .bool false, .bool true, .string ByteArray.empty] 150)).cell? ⟨w.heap.size, 0, none⟩ = some (.bool false) := x.c (k := 0) rfl
  have x1 : (w.alloc (.cells #[.bool false, .bool false, .int .i64 0, .slice none 0 0, .slice none 0 0, .bool false, .bool true, .string ByteArray.empty] 150)).cell? ⟨w.heap.size, 1, none⟩ = some (.bool false) := x.c (k := 1) rfl
  have x2 : (w.alloc (.cells #[.bool false, .bool false, .int .i64 0, .slice none 0 0, .slice none 0 0, .bool false, .bool true, .string ByteArray.empty] 150)).cell? ⟨w.heap.size, 2, none⟩ = some (.int .i64 0) := x.c (k := 2) rfl
  have x3 : (w.alloc (.cells #[.bool false, .bool false, .int .i64 0, .slice none 0 0, .slice none 0 0, .bool false, .bool true, .string ByteArray.empty] 150)).cell? ⟨w.heap.size, 3, none⟩ = some (.slice none 0 0) := x.c (k := 3) rfl
  have x4 : (w.alloc (.cells #[.bool false, .bool false, .int .i64 0, .slice none 0 0, .slice none 0 0, .bool false, .bool true, .string ByteArray.empty] 150)).cell? ⟨w.heap.size, 4, none⟩ = some (.slice none 0 0) := x.c (k := 4) rfl
  have x5 : (w.alloc (.cells #[.bool false, .bool false, .int .i64 0, .slice none 0 0, .slice none 0 0, .bool false, .bool true, .string ByteArray.empty] 150)).cell? ⟨w.heap.size, 5, none⟩ = some (.bool false) := x.c (k := 5) rfl
  have x6 : (w.alloc (.cells #[.bool false, .bool false, .int .i64 0, .slice none 0 0, .slice none 0 0, .bool false, .bool true, .string ByteArray.empty] 150)).cell? ⟨w.heap.size, 6, none⟩ = some (.bool true) := x.c (k := 6) rfl
  have x7 : (w.alloc (.cells #[.bool false, .bool false, .int .i64 0, .slice none 0 0, .slice none 0 0, .bool false, .bool true, .string ByteArray.empty] 150)).cell? ⟨w.heap.size, 7, none⟩ = some (.string ByteArray.empty) := x.c (k := 7) rfl
  go_enter Try.func122, Try.ntmps122
  go_wp2
  exact bodyPost_ret (v := .agg #[.bool false, .bool false, .int .i64 0, .slice none 0 0, .slice none 0 0, .bool false, .bool true, .string ByteArray.empty]) (by simp [results, Try.results122, go_sem] <;> rfl) rfl ⟨rfl, bel_alloc (Below.refl _ w) _⟩
/-- a new hall -/
def HallPost (w : World) (e : Ending) (w' : World) : Prop :=
  ∃ (L : Option Addr) (cl g c : Nat), e = .returned (.agg #[.int .i64 0, .slice L 0 cl, .slice (some ⟨g, 0, none⟩) 3 c]) ∧ w.heap.size ≤ g ∧ ZCells w' g ∧ Below w.heap.size w w'
def HallOwn (w : World) (e : Ending) (w' : World) : Prop :=
  ∃ (g : Nat), e = .returned (.agg #[.int .i64 0, .slice none 0 0, .slice (some ⟨g, 0, none⟩) 3 3]) ∧ w.heap.size ≤ g ∧ BoxC w' g 150 (mz 0) ∧ Below w.heap.size w w'
set_option maxHeartbeats 8000000 in
set_option maxRecDepth 100000 in
theorem implHallNew (w : World) : Calls Try.prog 68 #[] w (HallOwn w) := by
  have hmk := make150
  have b0 := bel_alloc (bel_alloc (Below.refl _ w) (.cells #[.int .i64 0, .slice none 0 0, .slice none 0 0] 87)) (.cells (nz 0) 150)
  have xa := (BoxC.new w 87 #[.int .i64 0, .slice none 0 0, .slice none 0 0]).alloc (.cells (nz 0) 150)
  have xb := BoxC.new (w.alloc (.cells #[.int .i64 0, .slice none 0 0, .slice none 0 0] 87)) 150 (nz 0)
  simp only [World.size_alloc] at xb
  go_enter Try.func68, Try.ntmps68
  go_wp2_with fail
  go_loopw [6] (fun v6 wr => ∃ j : Nat, j ≤ 3 ∧ v6 = .int .i64 (j : Int) ∧ BoxC wr (w.heap.size + 1) 150 (nz j) ∧ BoxC wr w.heap.size 87 #[.int .i64 0, .slice none 0 0, .slice none 0 0] ∧ Below w.heap.size w wr) (fun v6 _ => 3 - (intOf v6).toNat)
  case atStart => exact ⟨0, by omega, rfl, xb, xa, b0⟩
  case round =>
    clear xa xb b0
    obtain ⟨j, hj, rfl, hx, h0, hb⟩ := hrel
    have hcases : j = 0 ∨ j = 1 ∨ j = 2 ∨ j = 3 := by omega
    rcases hcases with rfl | rfl | rfl | rfl
    · skip
      go_wp2_with fail
      refine (closedTalk wr).mono ?_
      rintro e w1 ⟨rfl, hb1⟩
      have y1 := hx.on hb1
      have x1 := h0.on hb1
      have b1 := bel_trans hb hb1
      have hz := b1.size
      have c0 := y1.c (k := 0) rfl
      have f0 := y1.f 0
      have c1 := y1.c (k := 1) rfl
      have f1 := y1.f 1
      have c2 := y1.c (k := 2) rfl
      have f2 := y1.f 2
      have c3 := y1.c (k := 3) rfl
      have f3 := y1.f 3
      have c4 := y1.c (k := 4) rfl
      have f4 := y1.f 4
      have c5 := y1.c (k := 5) rfl
      have f5 := y1.f 5
      have c6 := y1.c (k := 6) rfl
      have f6 := y1.f 6
      have c7 := y1.c (k := 7) rfl
      have f7 := y1.f 7
      have Y2 := Lib.hid (show BoxC _ (w.heap.size + 1) 150 (nz 1) from ((((((((y1.set 0 (.bool false)).set 1 (.bool false)).set 2 (.int .i64 0)).set 3 (.slice none 0 0)).set 4 (.slice none 0 0)).set 5 (.bool false)).set 6 (.bool true)).set 7 (.string ByteArray.empty)))
      have X2 := Lib.hid ((((((((x1.other (B' := (w.heap.size + 1)) (k := 0) (x := .bool false) (by omega)).other (B' := (w.heap.size + 1)) (k := 1) (x := .bool false) (by omega)).other (B' := (w.heap.size + 1)) (k := 2) (x := .int .i64 0) (by omega)).other (B' := (w.heap.size + 1)) (k := 3) (x := .slice none 0 0) (by omega)).other (B' := (w.heap.size + 1)) (k := 4) (x := .slice none 0 0) (by omega)).other (B' := (w.heap.size + 1)) (k := 5) (x := .bool false) (by omega)).other (B' := (w.heap.size + 1)) (k := 6) (x := .bool true) (by omega)).other (B' := (w.heap.size + 1)) (k := 7) (x := .string ByteArray.empty) (by omega))
      have B2 := Lib.hid (bel_set (bel_set (bel_set (bel_set (bel_set (bel_set (bel_set (bel_set b1 (p := ⟨(w.heap.size + 1), 0, none⟩) (by simp only; omega) (.bool false)) (p := ⟨(w.heap.size + 1), 1, none⟩) (by simp only; omega) (.bool false)) (p := ⟨(w.heap.size + 1), 2, none⟩) (by simp only; omega) (.int .i64 0)) (p := ⟨(w.heap.size + 1), 3, none⟩) (by simp only; omega) (.slice none 0 0)) (p := ⟨(w.heap.size + 1), 4, none⟩) (by simp only; omega) (.slice none 0 0)) (p := ⟨(w.heap.size + 1), 5, none⟩) (by simp only; omega) (.bool false)) (p := ⟨(w.heap.size + 1), 6, none⟩) (by simp only; omega) (.bool true)) (p := ⟨(w.heap.size + 1), 7, none⟩) (by simp only; omega) (.string ByteArray.empty))
      clear y1 x1 b1 hx h0 hb hb1
      go_wp2_with fail
      go_roundw
      case rel => exact ⟨1, by omega, rfl, Y2.out, X2.out, B2.out⟩
      case measure => simp [intOf]
    · skip
      go_wp2_with fail
      refine (closedTalk wr).mono ?_
      rintro e w1 ⟨rfl, hb1⟩
      have y1 := hx.on hb1
      have x1 := h0.on hb1
      have b1 := bel_trans hb hb1
      have hz := b1.size
      have c0 := y1.c (k := 8) rfl
      have f0 := y1.f 8
      have c1 := y1.c (k := 9) rfl
      have f1 := y1.f 9
      have c2 := y1.c (k := 10) rfl
      have f2 := y1.f 10
      have c3 := y1.c (k := 11) rfl
      have f3 := y1.f 11
      have c4 := y1.c (k := 12) rfl
      have f4 := y1.f 12
      have c5 := y1.c (k := 13) rfl
      have f5 := y1.f 13
      have c6 := y1.c (k := 14) rfl
      have f6 := y1.f 14
      have c7 := y1.c (k := 15) rfl
      have f7 := y1.f 15
      have Y2 := Lib.hid (show BoxC _ (w.heap.size + 1) 150 (nz 2) from ((((((((y1.set 8 (.bool false)).set 9 (.bool false)).set 10 (.int .i64 0)).set 11 (.slice none 0 0)).set 12 (.slice none 0 0)).set 13 (.bool false)).set 14 (.bool true)).set 15 (.string ByteArray.empty)))
      have X2 := Lib.hid ((((((((x1.other (B' := (w.heap.size + 1)) (k := 8) (x := .bool false) (by omega)).other (B' := (w.heap.size + 1)) (k := 9) (x := .bool false) (by omega)).other (B' := (w.heap.size + 1)) (k := 10) (x := .int .i64 0) (by omega)).other (B' := (w.heap.size + 1)) (k := 11) (x := .slice none 0 0) (by omega)).other (B' := (w.heap.size + 1)) (k := 12) (x := .slice none 0 0) (by omega)).other (B' := (w.heap.size + 1)) (k := 13) (x := .bool false) (by omega)).other (B' := (w.heap.size + 1)) (k := 14) (x := .bool true) (by omega)).other (B' := (w.heap.size + 1)) (k := 15) (x := .string ByteArray.empty) (by omega))
      have B2 := Lib.hid (bel_set (bel_set (bel_set (bel_set (bel_set (bel_set (bel_set (bel_set b1 (p := ⟨(w.heap.size + 1), 8, none⟩) (by simp only; omega) (.bool false)) (p := ⟨(w.heap.size + 1), 9, none⟩) (by simp only; omega) (.bool false)) (p := ⟨(w.heap.size + 1), 10, none⟩) (by simp only; omega) (.int .i64 0)) (p := ⟨(w.heap.size + 1), 11, none⟩) (by simp only; omega) (.slice none 0 0)) (p := ⟨(w.heap.size + 1), 12, none⟩) (by simp only; omega) (.slice none 0 0)) (p := ⟨(w.heap.size + 1), 13, none⟩) (by simp only; omega) (.bool false)) (p := ⟨(w.heap.size + 1), 14, none⟩) (by simp only; omega) (.bool true)) (p := ⟨(w.heap.size + 1), 15, none⟩) (by simp only; omega) (.string ByteArray.empty))
      clear y1 x1 b1 hx h0 hb hb1
      go_wp2_with fail
      go_roundw
      case rel => exact ⟨2, by omega, rfl, Y2.out, X2.out, B2.out⟩
      case measure => simp [intOf]
    · skip
      go_wp2_with fail
      refine (closedTalk wr).mono ?_
      rintro e w1 ⟨rfl, hb1⟩
      have y1 := hx.on hb1
      have x1 := h0.on hb1
      have b1 := bel_trans hb hb1
      have hz := b1.size
      have c0 := y1.c (k := 16) rfl
      have f0 := y1.f 16
      have c1 := y1.c (k := 17) rfl
      have f1 := y1.f 17
      have c2 := y1.c (k := 18) rfl
      have f2 := y1.f 18
      have c3 := y1.c (k := 19) rfl
      have f3 := y1.f 19
      have c4 := y1.c (k := 20) rfl
      have f4 := y1.f 20
      have c5 := y1.c (k := 21) rfl
      have f5 := y1.f 21
      have c6 := y1.c (k := 22) rfl
      have f6 := y1.f 22
      have c7 := y1.c (k := 23) rfl
      have f7 := y1.f 23
      have Y2 := Lib.hid (show BoxC _ (w.heap.size + 1) 150 (nz 3) from ((((((((y1.set 16 (.bool false)).set 17 (.bool false)).set 18 (.int .i64 0)).set 19 (.slice none 0 0)).set 20 (.slice none 0 0)).set 21 (.bool false)).set 22 (.bool true)).set 23 (.string ByteArray.empty)))
      have X2 := Lib.hid ((((((((x1.other (B' := (w.heap.size + 1)) (k := 16) (x := .bool false) (by omega)).other (B' := (w.heap.size + 1)) (k := 17) (x := .bool false) (by omega)).other (B' := (w.heap.size + 1)) (k := 18) (x := .int .i64 0) (by omega)).other (B' := (w.heap.size + 1)) (k := 19) (x := .slice none 0 0) (by omega)).other (B' := (w.heap.size + 1)) (k := 20) (x := .slice none 0 0) (by omega)).other (B' := (w.heap.size + 1)) (k := 21) (x := .bool false) (by omega)).other (B' := (w.heap.size + 1)) (k := 22) (x := .bool true) (by omega)).other (B' := (w.heap.size + 1)) (k := 23) (x := .string ByteArray.empty) (by omega))
      have B2 := Lib.hid (bel_set (bel_set (bel_set (bel_set (bel_set (bel_set (bel_set (bel_set b1 (p := ⟨(w.heap.size + 1), 16, none⟩) (by simp only; omega) (.bool false)) (p := ⟨(w.heap.size + 1), 17, none⟩) (by simp only; omega) (.bool false)) (p := ⟨(w.heap.size + 1), 18, none⟩) (by simp only; omega) (.int .i64 0)) (p := ⟨(w.heap.size + 1), 19, none⟩) (by simp only; omega) (.slice none 0 0)) (p := ⟨(w.heap.size + 1), 20, none⟩) (by simp only; omega) (.slice none 0 0)) (p := ⟨(w.heap.size + 1), 21, none⟩) (by simp only; omega) (.bool false)) (p := ⟨(w.heap.size + 1), 22, none⟩) (by simp only; omega) (.bool true)) (p := ⟨(w.heap.size + 1), 23, none⟩) (by simp only; omega) (.string ByteArray.empty))
      clear y1 x1 b1 hx h0 hb hb1
      go_wp2_with fail
      go_roundw
      case rel => exact ⟨3, by omega, rfl, Y2.out, X2.out, B2.out⟩
      case measure => simp [intOf]
    · have f0 := h0.f 0
      have f1 := h0.f 1
      have f2 := h0.f 2
      have c0 := h0.c (k := 0) rfl
      have c1 := h0.c (k := 1) rfl
      have c2 := h0.c (k := 2) rfl
      have z := ((h0.set 0 (.int .i64 0)).set 1 (.slice none 0 0)).set 2 (.slice (some ⟨w.heap.size + 1, 0, none⟩) 3 3)
      have z0 := z.c (k := 0) rfl
      have z1 := z.c (k := 1) rfl
      have z2 := z.c (k := 2) rfl
      have HB := Lib.hid hb
      have HX := Lib.hid hx
      clear hb hx
      go_wp2_with fail
      exact bodyPost_ret (v := .agg #[.int .i64 0, .slice none 0 0, .slice (some ⟨w.heap.size + 1, 0, none⟩) 3 3]) (by simp [results, Try.results68, go_sem, z0, z1, z2]) rfl ⟨w.heap.size + 1, rfl, by omega, ((HX.out.other (by omega)).other (by omega)).other (by omega), bel_set (bel_set (bel_set HB.out (Nat.le_refl _) _) (Nat.le_refl _) _) (Nat.le_refl _) _⟩
/-! ### the reference's -/
def encZ (_ : Unit) : List Value := [.bool false, .bool false, .int .i64 0, .slice none 0 0, .slice none 0 0, .bool false, .bool true, .string ByteArray.empty]
theorem encZ_len : ∀ x, (encZ x).length = 8 := fun _ => rfl
theorem encZ_one : ∀ x, ∀ u ∈ encZ x, u.oneCell' = true := by
  intro x u hu
  simp only [encZ, List.mem_cons, List.not_mem_nil, or_false] at hu
  rcases hu with rfl | rfl | rfl | rfl | rfl | rfl | rfl | rfl <;> rfl
theorem zcells_own {w : World} {base g c : Nat} (h : Own encZ 8 150 w base (.slice (some ⟨g, 0, none⟩) 3 c) (List.replicate 3 ())) : ZCells w g := fun i hi => by
  have hx : (List.replicate 3 ())[i]? = some () := by simp [hi]
  refine ⟨⟨?_, h.cellAt encZ_len (j := 1) hx rfl, h.cellAt encZ_len (j := 2) hx rfl, h.cellAt encZ_len (j := 3) hx rfl, h.cellAt encZ_len (j := 4) hx rfl, h.cellAt encZ_len (j := 5) hx rfl, h.cellAt encZ_len (j := 6) hx rfl, h.cellAt encZ_len (j := 7) hx rfl⟩, (h.block rfl).2.1⟩
  have := h.cellAt encZ_len (j := 0) hx rfl
  rwa [Nat.add_zero] at this
set_option maxHeartbeats 8000000 in
set_option maxRecDepth 100000 in
theorem l7New (w : World) : Calls Try.prog 121 #[] w (HallPost w) := by
  obtain ⟨i0, hi0, hz0, hz1, hz2⟩ := info_parts info150
  have b0 := bel_alloc (bel_alloc (bel_alloc (Below.refl _ w) (.cells #[.int .i64 0, .slice none 0 0, .slice none 0 0] 87)) (.cells #[] 77)) (.cells #[.int .i64 0, .slice (some ⟨w.heap.size + 1, 0, none⟩) 0 0, .slice none 0 0] 87)
  have xa := ((BoxC.new w 87 #[.int .i64 0, .slice none 0 0, .slice none 0 0]).alloc (.cells #[] 77)).alloc (.cells #[.int .i64 0, .slice (some ⟨w.heap.size + 1, 0, none⟩) 0 0, .slice none 0 0] 87)
  have xb := BoxC.new ((w.alloc (.cells #[.int .i64 0, .slice none 0 0, .slice none 0 0] 87)).alloc (.cells #[] 77)) 87 #[.int .i64 0, .slice (some ⟨w.heap.size + 1, 0, none⟩) 0 0, .slice none 0 0]
  simp only [World.size_alloc] at xb
  go_enter Try.func121, Try.ntmps121
  go_wp2_with fail
  generalize ((w.alloc (.cells #[.int .i64 0, .slice none 0 0, .slice none 0 0] 87)).alloc (.cells #[] 77)).alloc (.cells #[.int .i64 0, .slice (some ⟨w.heap.size + 1, 0, none⟩) 0 0, .slice none 0 0] 87) = w0 at *
  go_loopw [2] (fun v2 wr => ∃ (j : Nat) (B : Option Addr) (cb : Nat), j ≤ 3 ∧ v2 = .int .i64 (j : Int) ∧ Own encZ 8 150 wr w.heap.size (.slice B j cb) (List.replicate j ()) ∧ BoxC wr (w.heap.size + 1 + 1) 87 #[.int .i64 0, .slice (some ⟨w.heap.size + 1, 0, none⟩) 0 0, .slice B j cb] ∧ BoxC wr w.heap.size 87 #[.int .i64 0, .slice none 0 0, .slice none 0 0] ∧ Below w.heap.size w wr) (fun v2 _ => 3 - (intOf v2).toNat)
  case atStart => exact ⟨0, none, 0, by omega, rfl, Own.nil _ _, xb, xa, b0⟩
  case round =>
    clear xa xb b0
    obtain ⟨j, B, cb, hj, rfl, ho, xb, xa, hb⟩ := hrel
    by_cases hlt : j < 3
    · have hlt' : (j : Int) < 3 := by omega
      have j0 : (0 : Int) ≤ (j : Int) := by omega
      have c2 := xb.c (k := 2) rfl
      have hlb := xb.lt
      have oa := ho.alloc (.cells #[.bool false, .bool false, .int .i64 0, .slice none 0 0, .slice none 0 0, .bool false, .bool true, .string ByteArray.empty] 150)
      have xb1 := xb.alloc (.cells #[.bool false, .bool false, .int .i64 0, .slice none 0 0, .slice none 0 0, .bool false, .bool true, .string ByteArray.empty] 150)
      have xa1 := xa.alloc (.cells #[.bool false, .bool false, .int .i64 0, .slice none 0 0, .slice none 0 0, .bool false, .bool true, .string ByteArray.empty] 150)
      have hb1 := bel_alloc hb (.cells #[.bool false, .bool false, .int .i64 0, .slice none 0 0, .slice none 0 0, .bool false, .bool true, .string ByteArray.empty] 150)
      have ls := Sl.lit1 (enc := encZ) wr #[.bool false, .bool false, .int .i64 0, .slice none 0 0, .slice none 0 0, .bool false, .bool true, .string ByteArray.empty] 150 () rfl
      have hl : (List.replicate j ()).length = j := List.length_replicate
      have HOA := Lib.hid oa
      have hsz := hb.size
      clear ho oa
      go_wp2_with (at_builtin; refine wpList_append_sl _ rfl _ _ 85 rfl w.heap.size 150 i0 _ 8 88 Try.underlying85 hi0 hz0 hz1 hz2 rfl (by decide) encZ_len encZ_one _ (List.replicate j ()) rfl HOA.out _ (some ⟨wr.heap.size, 0, none⟩) 1 1 [()] rfl ls (by unfold maxLen; omega) (by omega) (by rw [World.size_alloc]; omega) ?_; intro v9 w9 o9 g9; obtain ⟨A9, c9, rfl, -, -⟩ := o9.form; have xb9 := xb1.appended (by decide) HOA.out g9; have xa9 := xa1.appended (by decide) HOA.out g9; have hb9 := bel_grown hb1 g9 (fun k hk => (World.ownsRow.lt HOA.out k hk).1); have fb2 := xb9.f 2; have cb2 := xb9.c (k := 2) rfl)
      have hl2 : (List.replicate j () ++ [()]) = List.replicate (j + 1) () := by rw [List.replicate_succ']
      go_roundw
      case rel => 
        rw [hl2, List.length_replicate] at o9
        exact ⟨j + 1, A9, c9, by omega, by go_num, o9.box xb9 (by decide), xb9.set 2 (.slice A9 (j + 1) c9), xa9.other (by omega), bel_set hb9 (by simp only; omega) _⟩
      case measure => simp [intOf]; omega
    · obtain rfl : j = 3 := by omega
      have hlt' : ¬ ((3 : Nat) : Int) < 3 := by omega
      obtain ⟨g, rfl, hgb, -⟩ := ho.spot (by omega)
      have HZ := Lib.hid (zcells_own ho)
      have f0 := xa.f 0
      have f1 := xa.f 1
      have f2 := xa.f 2
      have c0 := xa.c (k := 0) rfl
      have c1 := xa.c (k := 1) rfl
      have c2 := xa.c (k := 2) rfl
      have d0 := xb.c (k := 0) rfl
      have d1 := xb.c (k := 1) rfl
      have d2 := xb.c (k := 2) rfl
      have z := ((xa.set 0 (.int .i64 0)).set 1 (.slice (some ⟨w.heap.size + 1, 0, none⟩) 0 0)).set 2 (.slice (some ⟨g, 0, none⟩) 3 cb)
      have z0 := z.c (k := 0) rfl
      have z1 := z.c (k := 1) rfl
      have z2 := z.c (k := 2) rfl
      have HB := Lib.hid hb
      have HO := Lib.hid (((ho.box (k := 0) (v := .int .i64 0) xa (by decide)).box (k := 1) (v := .slice (some ⟨w.heap.size + 1, 0, none⟩) 0 0) (xa.set 0 _) (by decide)).box (k := 2) (v := .slice (some ⟨g, 0, none⟩) 3 cb) ((xa.set 0 _).set 1 _) (by decide))
      clear hb ho
      go_wp2_with fail
      exact bodyPost_ret (v := .agg #[.int .i64 0, .slice (some ⟨w.heap.size + 1, 0, none⟩) 0 0, .slice (some ⟨g, 0, none⟩) 3 cb]) (by simp [results, Try.results121, go_sem, z0, z1, z2]) rfl ⟨_, _, g, cb, rfl, hgb, zcells_own HO.out, bel_set (bel_set (bel_set HB.out (Nat.le_refl _) _) (Nat.le_refl _) _) (Nat.le_refl _) _⟩
end Go.Proofs.Ytpofgidhhcolfaa
