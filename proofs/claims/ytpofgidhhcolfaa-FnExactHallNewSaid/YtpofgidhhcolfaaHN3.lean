/- The hall: contracts of what marks it and reads the marks; the law FnExactHallNew, walked. -/
import Derived.Test.YtpofgidhhcolfaaHN2
namespace Go.Proofs.Ytpofgidhhcolfaa
open Go.RowKit

theorem ZCells.setBox {W : World} {g B : Nat} (h : ZCells W g) (k : Nat) (v : Value) (hne : g ≠ B) : ZCells (W.setCell ⟨B, k, none⟩ v) g := fun i hi => by
  obtain ⟨⟨h0, h1, h2, h3, h4, h5, h6, h7⟩, h8⟩ := h i hi
  exact ⟨⟨setOther h0 hne, setOther h1 hne, setOther h2 hne, setOther h3 hne, setOther h4 hne, setOther h5 hne, setOther h6 hne, setOther h7 hne⟩, by simpa using h8⟩
theorem cell_turn {W W' : World} {g b o : Nat} {v : Value} (c : W.cell? ⟨b, o, none⟩ = some v) (ht : Turn (some ⟨g, 0, none⟩) W W') (hne : b ≠ g) : W'.cell? ⟨b, o, none⟩ = some v := by
  have hb := World.block_lt_of_cell? W _ c
  have h := ht.block b hb (by simpa using hne)
  rw [← c]
  unfold World.cell?
  dsimp only
  rw [h]
theorem ZCells.turn {W W' : World} {g B : Nat} (h : ZCells W g) (ht : Turn (some ⟨B, 0, none⟩) W W') (hne : g ≠ B) : ZCells W' g := fun i hi => by
  obtain ⟨⟨h0, h1, h2, h3, h4, h5, h6, h7⟩, h8⟩ := h i hi
  exact ⟨⟨cell_turn h0 ht hne, cell_turn h1 ht hne, cell_turn h2 ht hne, cell_turn h3 ht hne, cell_turn h4 ht hne, cell_turn h5 ht hne, cell_turn h6 ht hne, cell_turn h7 ht hne⟩, Nat.lt_of_lt_of_le h8 ht.size⟩
set_option maxHeartbeats 1000000 in
theorem markWNil (k : Int) (_ : 0 ≤ k) (w : World) : Calls Try.prog 100 #[.slice none 0 0, .int .i64 k] w fun e w' => e = .returned (.int .i64 k) ∧ w = w' := by
  go_enter Try.func100, Try.ntmps100
  go_wp2
  go_loopw [1, 5] (fun q i wr => q = .int .i64 k ∧ i = .int .i64 0 ∧ w = wr) (fun _ _ _ => 0)
  case atStart => exact ⟨rfl, rfl, rfl⟩
  case round =>
    obtain ⟨rfl, rfl, rfl⟩ := hrel
    go_wp2
    go_ret
    exact ⟨rfl, rfl⟩
set_option maxHeartbeats 1000000 in
theorem markNNil (k : Int) (_ : 0 ≤ k) (w : World) : Calls Try.prog 150 #[.slice none 0 0, .int .i64 k] w fun e w' => e = .returned (.int .i64 k) ∧ w = w' := by
  go_enter Try.func150, Try.ntmps150
  go_wp2
  go_loopw [1, 5] (fun q i wr => q = .int .i64 k ∧ i = .int .i64 0 ∧ w = wr) (fun _ _ _ => 0)
  case atStart => exact ⟨rfl, rfl, rfl⟩
  case round =>
    obtain ⟨rfl, rfl, rfl⟩ := hrel
    go_wp2
    go_ret
    exact ⟨rfl, rfl⟩
set_option maxHeartbeats 1000000 in
theorem heldWNil (k : Int) (_ : 0 ≤ k) (w : World) : Calls Try.prog 101 #[.slice none 0 0, .int .i64 k] w fun e w' => e = .returned (.int .i64 k) ∧ w = w' := by
  go_enter Try.func101, Try.ntmps101
  go_wp2
  go_loopw [1, 5] (fun q i wr => q = .int .i64 k ∧ i = .int .i64 0 ∧ w = wr) (fun _ _ _ => 0)
  case atStart => exact ⟨rfl, rfl, rfl⟩
  case round =>
    obtain ⟨rfl, rfl, rfl⟩ := hrel
    go_wp2
    go_ret
    exact ⟨rfl, rfl⟩
set_option maxHeartbeats 1000000 in
theorem heldNNil (k : Int) (_ : 0 ≤ k) (w : World) : Calls Try.prog 151 #[.slice none 0 0, .int .i64 k] w fun e w' => e = .returned (.int .i64 k) ∧ w = w' := by
  go_enter Try.func151, Try.ntmps151
  go_wp2
  go_loopw [1, 5] (fun q i wr => q = .int .i64 k ∧ i = .int .i64 0 ∧ w = wr) (fun _ _ _ => 0)
  case atStart => exact ⟨rfl, rfl, rfl⟩
  case round =>
    obtain ⟨rfl, rfl, rfl⟩ := hrel
    go_wp2
    go_ret
    exact ⟨rfl, rfl⟩
set_option maxHeartbeats 8000000 in
set_option maxRecDepth 100000 in
theorem markTalkS (g : Nat) (w : World) (hx0 : BoxC w g 150 (mz 0)) :
    Calls Try.prog 124 #[.slice (some ⟨g, 0, none⟩) 3 3, .int .i64 1] w fun e w' => e = .returned (.int .i64 19) ∧ BoxC w' g 150 (mz 3) ∧ Turn (some ⟨g, 0, none⟩) w w' := by
  go_enter Try.func124, Try.ntmps124
  go_wp2_with fail
  go_loopw [1, 5] (fun v1 v5 wr => (v1 = .int .i64 1 ∧ v5 = .int .i64 0 ∧ BoxC wr g 150 (mz 0) ∧ Turn (some ⟨g, 0, none⟩) w wr) ∨ (v1 = .int .i64 7 ∧ v5 = .int .i64 1 ∧ BoxC wr g 150 (mz 1) ∧ Turn (some ⟨g, 0, none⟩) w wr) ∨ (v1 = .int .i64 13 ∧ v5 = .int .i64 2 ∧ BoxC wr g 150 (mz 2) ∧ Turn (some ⟨g, 0, none⟩) w wr) ∨ (v1 = .int .i64 19 ∧ v5 = .int .i64 3 ∧ BoxC wr g 150 (mz 3) ∧ Turn (some ⟨g, 0, none⟩) w wr)) (fun _ v5 _ => 3 - (intOf v5).toNat)
  case atStart => exact .inl ⟨rfl, rfl, hx0, Turn.refl _ _⟩
  case round =>
    clear hx0
    rcases hrel with ⟨rfl, rfl, hx, ht⟩ | ⟨rfl, rfl, hx, ht⟩ | ⟨rfl, rfl, hx, ht⟩ | ⟨rfl, rfl, hx, ht⟩
    · have hC : ∀ W, Calls Try.prog 81 #[.int .i64 6] W fun e w' => e = .returned (.string (mk 6)) ∧ Below W.heap.size W w' := fun W => markText 6 W (by omega) (by omega)
      have HCC := Lib.hid hC
      clear hC
      have c0 := hx.c (k := 0) rfl
      have f0 := hx.f 0
      have c1 := hx.c (k := 1) rfl
      have f1 := hx.f 1
      have c2 := hx.c (k := 2) rfl
      have f2 := hx.f 2
      have c3 := hx.c (k := 3) rfl
      have f3 := hx.f 3
      have c4 := hx.c (k := 4) rfl
      have f4 := hx.f 4
      have c5 := hx.c (k := 5) rfl
      have f5 := hx.f 5
      have c6 := hx.c (k := 6) rfl
      have f6 := hx.f 6
      have c7 := hx.c (k := 7) rfl
      have f7 := hx.f 7
      have Y := Lib.hid (((((hx.set 0 (.bool false)).set 1 (.bool false)).set 2 (.int .i64 3)).set 5 (.bool false)).set 6 (.bool false))
      have TT := Lib.hid (((((ht.set 0 (.bool false)).set 1 (.bool false)).set 2 (.int .i64 3)).set 5 (.bool false)).set 6 (.bool false))
      clear hx ht
      go_wp2_with fail
      refine (markWNil 4 (by omega) _).mono ?_
      rintro e w1 ⟨rfl, rfl⟩
      go_wp2_with fail
      refine (markNNil 4 (by omega) _).mono ?_
      rintro e w1 ⟨rfl, rfl⟩
      go_wp2_with fail
      refine (HCC.out _).mono ?_
      rintro e w1 ⟨rfl, hb1⟩
      have y1 := Y.out.on hb1
      have t1 := TT.out.below hb1
      have cc := y1.c (k := 7) rfl
      have ff := y1.f 7
      have Y2 := Lib.hid (show BoxC _ g 150 (mz 1) from y1.set 7 (.string (mk 6)))
      have T2 := Lib.hid (t1.set 7 (.string (mk 6)))
      clear y1 t1 Y TT hb1
      go_wp2_with fail
      go_roundw
      case rel => exact .inr (.inl ⟨rfl, rfl, Y2.out, T2.out⟩)
      case measure => simp [intOf]
    · have hC : ∀ W, Calls Try.prog 81 #[.int .i64 12] W fun e w' => e = .returned (.string (mk 12)) ∧ Below W.heap.size W w' := fun W => markText 12 W (by omega) (by omega)
      have HCC := Lib.hid hC
      clear hC
      have c0 := hx.c (k := 8) rfl
      have f0 := hx.f 8
      have c1 := hx.c (k := 9) rfl
      have f1 := hx.f 9
      have c2 := hx.c (k := 10) rfl
      have f2 := hx.f 10
      have c3 := hx.c (k := 11) rfl
      have f3 := hx.f 11
      have c4 := hx.c (k := 12) rfl
      have f4 := hx.f 12
      have c5 := hx.c (k := 13) rfl
      have f5 := hx.f 13
      have c6 := hx.c (k := 14) rfl
      have f6 := hx.f 14
      have c7 := hx.c (k := 15) rfl
      have f7 := hx.f 15
      have Y := Lib.hid (((((hx.set 8 (.bool false)).set 9 (.bool false)).set 10 (.int .i64 9)).set 13 (.bool false)).set 14 (.bool false))
      have TT := Lib.hid (((((ht.set 8 (.bool false)).set 9 (.bool false)).set 10 (.int .i64 9)).set 13 (.bool false)).set 14 (.bool false))
      clear hx ht
      go_wp2_with fail
      refine (markWNil 10 (by omega) _).mono ?_
      rintro e w1 ⟨rfl, rfl⟩
      go_wp2_with fail
      refine (markNNil 10 (by omega) _).mono ?_
      rintro e w1 ⟨rfl, rfl⟩
      go_wp2_with fail
      refine (HCC.out _).mono ?_
      rintro e w1 ⟨rfl, hb1⟩
      have y1 := Y.out.on hb1
      have t1 := TT.out.below hb1
      have cc := y1.c (k := 15) rfl
      have ff := y1.f 15
      have Y2 := Lib.hid (show BoxC _ g 150 (mz 2) from y1.set 15 (.string (mk 12)))
      have T2 := Lib.hid (t1.set 15 (.string (mk 12)))
      clear y1 t1 Y TT hb1
      go_wp2_with fail
      go_roundw
      case rel => exact .inr (.inr (.inl ⟨rfl, rfl, Y2.out, T2.out⟩))
      case measure => simp [intOf]
    · have hC : ∀ W, Calls Try.prog 81 #[.int .i64 18] W fun e w' => e = .returned (.string (mk 18)) ∧ Below W.heap.size W w' := fun W => markText 18 W (by omega) (by omega)
      have HCC := Lib.hid hC
      clear hC
      have c0 := hx.c (k := 16) rfl
      have f0 := hx.f 16
      have c1 := hx.c (k := 17) rfl
      have f1 := hx.f 17
      have c2 := hx.c (k := 18) rfl
      have f2 := hx.f 18
      have c3 := hx.c (k := 19) rfl
      have f3 := hx.f 19
      have c4 := hx.c (k := 20) rfl
      have f4 := hx.f 20
      have c5 := hx.c (k := 21) rfl
      have f5 := hx.f 21
      have c6 := hx.c (k := 22) rfl
      have f6 := hx.f 22
      have c7 := hx.c (k := 23) rfl
      have f7 := hx.f 23
      have Y := Lib.hid (((((hx.set 16 (.bool false)).set 17 (.bool false)).set 18 (.int .i64 15)).set 21 (.bool false)).set 22 (.bool false))
      have TT := Lib.hid (((((ht.set 16 (.bool false)).set 17 (.bool false)).set 18 (.int .i64 15)).set 21 (.bool false)).set 22 (.bool false))
      clear hx ht
      go_wp2_with fail
      refine (markWNil 16 (by omega) _).mono ?_
      rintro e w1 ⟨rfl, rfl⟩
      go_wp2_with fail
      refine (markNNil 16 (by omega) _).mono ?_
      rintro e w1 ⟨rfl, rfl⟩
      go_wp2_with fail
      refine (HCC.out _).mono ?_
      rintro e w1 ⟨rfl, hb1⟩
      have y1 := Y.out.on hb1
      have t1 := TT.out.below hb1
      have cc := y1.c (k := 23) rfl
      have ff := y1.f 23
      have Y2 := Lib.hid (show BoxC _ g 150 (mz 3) from y1.set 23 (.string (mk 18)))
      have T2 := Lib.hid (t1.set 23 (.string (mk 18)))
      clear y1 t1 Y TT hb1
      go_wp2_with fail
      go_roundw
      case rel => exact .inr (.inr (.inr ⟨rfl, rfl, Y2.out, T2.out⟩))
      case measure => simp [intOf]
    · go_wp2
      go_ret
      exact ⟨rfl, hx, ht⟩
set_option maxHeartbeats 8000000 in
set_option maxRecDepth 100000 in
theorem heldTalkS (g : Nat) (w : World) (hx : BoxC w g 150 (mz 3)) :
    Calls Try.prog 125 #[.slice (some ⟨g, 0, none⟩) 3 3, .int .i64 1] w fun e w' => e = .returned (.int .i64 19) ∧ Below w.heap.size w w' := by
  go_enter Try.func125, Try.ntmps125
  go_wp2_with fail
  go_loopw [1, 5] (fun v1 v5 wr => (v1 = .int .i64 1 ∧ v5 = .int .i64 0 ∧ Below w.heap.size w wr) ∨ (v1 = .int .i64 7 ∧ v5 = .int .i64 1 ∧ Below w.heap.size w wr) ∨ (v1 = .int .i64 13 ∧ v5 = .int .i64 2 ∧ Below w.heap.size w wr) ∨ (v1 = .int .i64 19 ∧ v5 = .int .i64 3 ∧ Below w.heap.size w wr)) (fun _ v5 _ => 3 - (intOf v5).toNat)
  case atStart => exact .inl ⟨rfl, rfl, Below.refl _ _⟩
  case round =>
    rcases hrel with ⟨rfl, rfl, hbw⟩ | ⟨rfl, rfl, hbw⟩ | ⟨rfl, rfl, hbw⟩ | ⟨rfl, rfl, hbw⟩
    · have hC : ∀ W, Calls Try.prog 81 #[.int .i64 6] W fun e w' => e = .returned (.string (mk 6)) ∧ Below W.heap.size W w' := fun W => markText 6 W (by omega) (by omega)
      have HCC := Lib.hid hC
      clear hC
      have hxw := hx.on hbw
      have c0 : wr.cell? ⟨g, 0, none⟩ = some (.bool false) := hxw.c (k := 0) rfl
      have c1 : wr.cell? ⟨g, 1, none⟩ = some (.bool false) := hxw.c (k := 1) rfl
      have c2 : wr.cell? ⟨g, 2, none⟩ = some (.int .i64 3) := hxw.c (k := 2) rfl
      have c3 : wr.cell? ⟨g, 3, none⟩ = some (.slice none 0 0) := hxw.c (k := 3) rfl
      have c4 : wr.cell? ⟨g, 4, none⟩ = some (.slice none 0 0) := hxw.c (k := 4) rfl
      have c5 : wr.cell? ⟨g, 5, none⟩ = some (.bool false) := hxw.c (k := 5) rfl
      have c6 : wr.cell? ⟨g, 6, none⟩ = some (.bool false) := hxw.c (k := 6) rfl
      have c7 : wr.cell? ⟨g, 7, none⟩ = some (.string (mk 6)) := hxw.c (k := 7) rfl
      clear hxw
      go_wp2_with fail
      refine (heldWNil 4 (by omega) _).mono ?_
      rintro e w1 ⟨rfl, rfl⟩
      go_wp2_with fail
      refine (heldNNil 4 (by omega) _).mono ?_
      rintro e w1 ⟨rfl, rfl⟩
      go_wp2_with fail
      refine wp_region_held_drew (S := (fun W' => W'.cell? ⟨g, 7, none⟩ = some (.string (mk 6)) ∧ Below w.heap.size w W')) (by kernel_rfl) ⟨(hx.on (bel_drewN hbw 1)).c (k := 7) rfl, (bel_drewN hbw 1)⟩ (fun hHeld => ?_)
      refine wpAnyH_take (i := 0) (oi := { dst := some 89, op := Go.Op.move (Go.Operand.tmp 0), type := 85, pos := "exact.go:895", after := #[], guard := none }) (v := ?_) rfl (by kernel_rfl) (by kernel_rfl) (by kernel_rfl) (fun _ _ _ h => h) (Or.inl ⟨by rfl, ?hyr00⟩) (by assumption) ?_
      case hyr00 => ((intro w hSw; (try dsimp only at hSw); go_simp); try with_reducible rfl)
      try simp only [Act.put, List.setIfInBounds_toArray, List.set_cons_zero, List.set_cons_succ]
      refine wpAnyH_take (i := 1) (oi := { dst := some 90, op := Go.Op.move (Go.Operand.tmp 5), type := 3, pos := "exact.go:895", after := #[], guard := none }) (v := ?_) rfl (by kernel_rfl) (by kernel_rfl) (by kernel_rfl) (fun _ _ _ h => h) (Or.inl ⟨by rfl, ?hyr01⟩) (by assumption) ?_
      case hyr01 => ((intro w hSw; (try dsimp only at hSw); go_simp); try with_reducible rfl)
      try simp only [Act.put, List.setIfInBounds_toArray, List.set_cons_zero, List.set_cons_succ]
      refine wpAnyH_take (i := 2) (oi := { dst := some 91, op := Go.Op.indexAddr 85 (Go.Operand.tmp 89) (Go.Operand.tmp 90), type := 0, pos := "exact.go:895", after := #[{ on := 0, ground := Go.Ground.data }, { on := 1, ground := Go.Ground.data }], guard := none }) (v := ?_) rfl (by kernel_rfl) (by kernel_rfl) (by kernel_rfl) (fun _ _ _ h => h) (Or.inl ⟨by rfl, ?hyr02⟩) (by assumption) ?_
      case hyr02 => ((intro w hSw; (try dsimp only at hSw); go_simp); try with_reducible rfl)
      try simp only [Act.put, List.setIfInBounds_toArray, List.set_cons_zero, List.set_cons_succ]
      refine wpAnyH_take (i := 3) (oi := { dst := some 92, op := Go.Op.fieldAddr 150 (Go.Operand.tmp 91) 4, type := 0, pos := "exact.go:895", after := #[{ on := 2, ground := Go.Ground.data }], guard := none }) (v := ?_) rfl (by kernel_rfl) (by kernel_rfl) (by kernel_rfl) (fun _ _ _ h => h) (Or.inl ⟨by rfl, ?hyr03⟩) (by assumption) ?_
      case hyr03 => ((intro w hSw; (try dsimp only at hSw); go_simp); try with_reducible rfl)
      try simp only [Act.put, List.setIfInBounds_toArray, List.set_cons_zero, List.set_cons_succ]
      refine wpAnyH_take (i := 4) (oi := { dst := some 93, op := Go.Op.load 9 (Go.Operand.tmp 92), type := 9, pos := "exact.go:895", after := #[{ on := 3, ground := Go.Ground.data }], guard := none }) (v := ?_) rfl (by kernel_rfl) (by kernel_rfl) (by kernel_rfl) (fun _ _ _ h => h) (Or.inl ⟨by rfl, ?hyr04⟩) (by assumption) ?_
      case hyr04 => ((intro w hSw; (try dsimp only at hSw); go_simp); try with_reducible rfl)
      try simp only [Act.put, List.setIfInBounds_toArray, List.set_cons_zero, List.set_cons_succ]
      refine wpAnyH_take (i := 5) (oi := { dst := some 94, op := Go.Op.move (Go.Operand.tmp 1), type := 3, pos := "exact.go:895", after := #[], guard := none }) (v := ?_) rfl (by kernel_rfl) (by kernel_rfl) (by kernel_rfl) (fun _ _ _ h => h) (Or.inl ⟨by rfl, ?hyr05⟩) (by assumption) ?_
      case hyr05 => ((intro w hSw; (try dsimp only at hSw); go_simp); try with_reducible rfl)
      try simp only [Act.put, List.setIfInBounds_toArray, List.set_cons_zero, List.set_cons_succ]
      refine wpAnyH_ready (rs := [6]) (by kernel_rfl) (by simp) ?_
      refine AllReadyH.cons (o := { dst := some 95, op := Go.Op.call { callee := Go.Callee.value (Go.Operand.func 81), args := #[Go.Operand.tmp 94], argTypes := #[3] }, type := 9, pos := "exact.go:895", after := #[{ on := 5, ground := Go.Ground.data }], guard := none }) rfl (fun K hK => ?_) AllReadyH.nil
      go_simp
      refine (HCC.out _).mono ?_
      rintro e w1 ⟨rfl, hb1⟩
      have hb2 := bel_trans hHeld.2 hb1
      go_wp2_with fail
      refine hK.out _ _ ⟨(hx.on hb2).c (k := 7) rfl, hb2⟩ (fun hHeld => ?_)
      clear hK K
      try simp only [Act.put, List.setIfInBounds_toArray, List.set_cons_zero, List.set_cons_succ]
      refine wpAnyH_take (i := 7) (oi := { dst := some 96, op := Go.Op.binOp Go.BinOp.neq 9 (Go.Operand.tmp 93) (Go.Operand.tmp 95) 9, type := 4, pos := "exact.go:895", after := #[{ on := 4, ground := Go.Ground.data }, { on := 6, ground := Go.Ground.data }], guard := none }) (v := ?_) rfl (by kernel_rfl) (by kernel_rfl) (by kernel_rfl) (fun _ _ _ h => h) (Or.inl ⟨by rfl, ?hyr07⟩) (by assumption) ?_
      case hyr07 => ((intro w hSw; (try dsimp only at hSw); go_simp); try with_reducible rfl)
      try simp only [Act.put, List.setIfInBounds_toArray, List.set_cons_zero, List.set_cons_succ]
      refine wpAnyH_done (by kernel_rfl) ?_ _
      go_wp2_with fail
      go_roundw
      case rel => exact .inr (.inl ⟨rfl, rfl, hb2⟩)
      case measure => simp [intOf]
    · have hC : ∀ W, Calls Try.prog 81 #[.int .i64 12] W fun e w' => e = .returned (.string (mk 12)) ∧ Below W.heap.size W w' := fun W => markText 12 W (by omega) (by omega)
      have HCC := Lib.hid hC
      clear hC
      have hxw := hx.on hbw
      have c0 : wr.cell? ⟨g, 8, none⟩ = some (.bool false) := hxw.c (k := 8) rfl
      have c1 : wr.cell? ⟨g, 9, none⟩ = some (.bool false) := hxw.c (k := 9) rfl
      have c2 : wr.cell? ⟨g, 10, none⟩ = some (.int .i64 9) := hxw.c (k := 10) rfl
      have c3 : wr.cell? ⟨g, 11, none⟩ = some (.slice none 0 0) := hxw.c (k := 11) rfl
      have c4 : wr.cell? ⟨g, 12, none⟩ = some (.slice none 0 0) := hxw.c (k := 12) rfl
      have c5 : wr.cell? ⟨g, 13, none⟩ = some (.bool false) := hxw.c (k := 13) rfl
      have c6 : wr.cell? ⟨g, 14, none⟩ = some (.bool false) := hxw.c (k := 14) rfl
      have c7 : wr.cell? ⟨g, 15, none⟩ = some (.string (mk 12)) := hxw.c (k := 15) rfl
      clear hxw
      go_wp2_with fail
      refine (heldWNil 10 (by omega) _).mono ?_
      rintro e w1 ⟨rfl, rfl⟩
      go_wp2_with fail
      refine (heldNNil 10 (by omega) _).mono ?_
      rintro e w1 ⟨rfl, rfl⟩
      go_wp2_with fail
      refine wp_region_held_drew (S := (fun W' => W'.cell? ⟨g, 15, none⟩ = some (.string (mk 12)) ∧ Below w.heap.size w W')) (by kernel_rfl) ⟨(hx.on (bel_drewN hbw 1)).c (k := 15) rfl, (bel_drewN hbw 1)⟩ (fun hHeld => ?_)
      refine wpAnyH_take (i := 0) (oi := { dst := some 89, op := Go.Op.move (Go.Operand.tmp 0), type := 85, pos := "exact.go:895", after := #[], guard := none }) (v := ?_) rfl (by kernel_rfl) (by kernel_rfl) (by kernel_rfl) (fun _ _ _ h => h) (Or.inl ⟨by rfl, ?hyr10⟩) (by assumption) ?_
      case hyr10 => ((intro w hSw; (try dsimp only at hSw); go_simp); try with_reducible rfl)
      try simp only [Act.put, List.setIfInBounds_toArray, List.set_cons_zero, List.set_cons_succ]
      refine wpAnyH_take (i := 1) (oi := { dst := some 90, op := Go.Op.move (Go.Operand.tmp 5), type := 3, pos := "exact.go:895", after := #[], guard := none }) (v := ?_) rfl (by kernel_rfl) (by kernel_rfl) (by kernel_rfl) (fun _ _ _ h => h) (Or.inl ⟨by rfl, ?hyr11⟩) (by assumption) ?_
      case hyr11 => ((intro w hSw; (try dsimp only at hSw); go_simp); try with_reducible rfl)
      try simp only [Act.put, List.setIfInBounds_toArray, List.set_cons_zero, List.set_cons_succ]
      refine wpAnyH_take (i := 2) (oi := { dst := some 91, op := Go.Op.indexAddr 85 (Go.Operand.tmp 89) (Go.Operand.tmp 90), type := 0, pos := "exact.go:895", after := #[{ on := 0, ground := Go.Ground.data }, { on := 1, ground := Go.Ground.data }], guard := none }) (v := ?_) rfl (by kernel_rfl) (by kernel_rfl) (by kernel_rfl) (fun _ _ _ h => h) (Or.inl ⟨by rfl, ?hyr12⟩) (by assumption) ?_
      case hyr12 => ((intro w hSw; (try dsimp only at hSw); go_simp); try with_reducible rfl)
      try simp only [Act.put, List.setIfInBounds_toArray, List.set_cons_zero, List.set_cons_succ]
      refine wpAnyH_take (i := 3) (oi := { dst := some 92, op := Go.Op.fieldAddr 150 (Go.Operand.tmp 91) 4, type := 0, pos := "exact.go:895", after := #[{ on := 2, ground := Go.Ground.data }], guard := none }) (v := ?_) rfl (by kernel_rfl) (by kernel_rfl) (by kernel_rfl) (fun _ _ _ h => h) (Or.inl ⟨by rfl, ?hyr13⟩) (by assumption) ?_
      case hyr13 => ((intro w hSw; (try dsimp only at hSw); go_simp); try with_reducible rfl)
      try simp only [Act.put, List.setIfInBounds_toArray, List.set_cons_zero, List.set_cons_succ]
      refine wpAnyH_take (i := 4) (oi := { dst := some 93, op := Go.Op.load 9 (Go.Operand.tmp 92), type := 9, pos := "exact.go:895", after := #[{ on := 3, ground := Go.Ground.data }], guard := none }) (v := ?_) rfl (by kernel_rfl) (by kernel_rfl) (by kernel_rfl) (fun _ _ _ h => h) (Or.inl ⟨by rfl, ?hyr14⟩) (by assumption) ?_
      case hyr14 => ((intro w hSw; (try dsimp only at hSw); go_simp); try with_reducible rfl)
      try simp only [Act.put, List.setIfInBounds_toArray, List.set_cons_zero, List.set_cons_succ]
      refine wpAnyH_take (i := 5) (oi := { dst := some 94, op := Go.Op.move (Go.Operand.tmp 1), type := 3, pos := "exact.go:895", after := #[], guard := none }) (v := ?_) rfl (by kernel_rfl) (by kernel_rfl) (by kernel_rfl) (fun _ _ _ h => h) (Or.inl ⟨by rfl, ?hyr15⟩) (by assumption) ?_
      case hyr15 => ((intro w hSw; (try dsimp only at hSw); go_simp); try with_reducible rfl)
      try simp only [Act.put, List.setIfInBounds_toArray, List.set_cons_zero, List.set_cons_succ]
      refine wpAnyH_ready (rs := [6]) (by kernel_rfl) (by simp) ?_
      refine AllReadyH.cons (o := { dst := some 95, op := Go.Op.call { callee := Go.Callee.value (Go.Operand.func 81), args := #[Go.Operand.tmp 94], argTypes := #[3] }, type := 9, pos := "exact.go:895", after := #[{ on := 5, ground := Go.Ground.data }], guard := none }) rfl (fun K hK => ?_) AllReadyH.nil
      go_simp
      refine (HCC.out _).mono ?_
      rintro e w1 ⟨rfl, hb1⟩
      have hb2 := bel_trans hHeld.2 hb1
      go_wp2_with fail
      refine hK.out _ _ ⟨(hx.on hb2).c (k := 15) rfl, hb2⟩ (fun hHeld => ?_)
      clear hK K
      try simp only [Act.put, List.setIfInBounds_toArray, List.set_cons_zero, List.set_cons_succ]
      refine wpAnyH_take (i := 7) (oi := { dst := some 96, op := Go.Op.binOp Go.BinOp.neq 9 (Go.Operand.tmp 93) (Go.Operand.tmp 95) 9, type := 4, pos := "exact.go:895", after := #[{ on := 4, ground := Go.Ground.data }, { on := 6, ground := Go.Ground.data }], guard := none }) (v := ?_) rfl (by kernel_rfl) (by kernel_rfl) (by kernel_rfl) (fun _ _ _ h => h) (Or.inl ⟨by rfl, ?hyr17⟩) (by assumption) ?_
      case hyr17 => ((intro w hSw; (try dsimp only at hSw); go_simp); try with_reducible rfl)
      try simp only [Act.put, List.setIfInBounds_toArray, List.set_cons_zero, List.set_cons_succ]
      refine wpAnyH_done (by kernel_rfl) ?_ _
      go_wp2_with fail
      go_roundw
      case rel => exact .inr (.inr (.inl ⟨rfl, rfl, hb2⟩))
      case measure => simp [intOf]
    · have hC : ∀ W, Calls Try.prog 81 #[.int .i64 18] W fun e w' => e = .returned (.string (mk 18)) ∧ Below W.heap.size W w' := fun W => markText 18 W (by omega) (by omega)
      have HCC := Lib.hid hC
      clear hC
      have hxw := hx.on hbw
      have c0 : wr.cell? ⟨g, 16, none⟩ = some (.bool false) := hxw.c (k := 16) rfl
      have c1 : wr.cell? ⟨g, 17, none⟩ = some (.bool false) := hxw.c (k := 17) rfl
      have c2 : wr.cell? ⟨g, 18, none⟩ = some (.int .i64 15) := hxw.c (k := 18) rfl
      have c3 : wr.cell? ⟨g, 19, none⟩ = some (.slice none 0 0) := hxw.c (k := 19) rfl
      have c4 : wr.cell? ⟨g, 20, none⟩ = some (.slice none 0 0) := hxw.c (k := 20) rfl
      have c5 : wr.cell? ⟨g, 21, none⟩ = some (.bool false) := hxw.c (k := 21) rfl
      have c6 : wr.cell? ⟨g, 22, none⟩ = some (.bool false) := hxw.c (k := 22) rfl
      have c7 : wr.cell? ⟨g, 23, none⟩ = some (.string (mk 18)) := hxw.c (k := 23) rfl
      clear hxw
      go_wp2_with fail
      refine (heldWNil 16 (by omega) _).mono ?_
      rintro e w1 ⟨rfl, rfl⟩
      go_wp2_with fail
      refine (heldNNil 16 (by omega) _).mono ?_
      rintro e w1 ⟨rfl, rfl⟩
      go_wp2_with fail
      refine wp_region_held_drew (S := (fun W' => W'.cell? ⟨g, 23, none⟩ = some (.string (mk 18)) ∧ Below w.heap.size w W')) (by kernel_rfl) ⟨(hx.on (bel_drewN hbw 1)).c (k := 23) rfl, (bel_drewN hbw 1)⟩ (fun hHeld => ?_)
      refine wpAnyH_take (i := 0) (oi := { dst := some 89, op := Go.Op.move (Go.Operand.tmp 0), type := 85, pos := "exact.go:895", after := #[], guard := none }) (v := ?_) rfl (by kernel_rfl) (by kernel_rfl) (by kernel_rfl) (fun _ _ _ h => h) (Or.inl ⟨by rfl, ?hyr20⟩) (by assumption) ?_
      case hyr20 => ((intro w hSw; (try dsimp only at hSw); go_simp); try with_reducible rfl)
      try simp only [Act.put, List.setIfInBounds_toArray, List.set_cons_zero, List.set_cons_succ]
      refine wpAnyH_take (i := 1) (oi := { dst := some 90, op := Go.Op.move (Go.Operand.tmp 5), type := 3, pos := "exact.go:895", after := #[], guard := none }) (v := ?_) rfl (by kernel_rfl) (by kernel_rfl) (by kernel_rfl) (fun _ _ _ h => h) (Or.inl ⟨by rfl, ?hyr21⟩) (by assumption) ?_
      case hyr21 => ((intro w hSw; (try dsimp only at hSw); go_simp); try with_reducible rfl)
      try simp only [Act.put, List.setIfInBounds_toArray, List.set_cons_zero, List.set_cons_succ]
      refine wpAnyH_take (i := 2) (oi := { dst := some 91, op := Go.Op.indexAddr 85 (Go.Operand.tmp 89) (Go.Operand.tmp 90), type := 0, pos := "exact.go:895", after := #[{ on := 0, ground := Go.Ground.data }, { on := 1, ground := Go.Ground.data }], guard := none }) (v := ?_) rfl (by kernel_rfl) (by kernel_rfl) (by kernel_rfl) (fun _ _ _ h => h) (Or.inl ⟨by rfl, ?hyr22⟩) (by assumption) ?_
      case hyr22 => ((intro w hSw; (try dsimp only at hSw); go_simp); try with_reducible rfl)
      try simp only [Act.put, List.setIfInBounds_toArray, List.set_cons_zero, List.set_cons_succ]
      refine wpAnyH_take (i := 3) (oi := { dst := some 92, op := Go.Op.fieldAddr 150 (Go.Operand.tmp 91) 4, type := 0, pos := "exact.go:895", after := #[{ on := 2, ground := Go.Ground.data }], guard := none }) (v := ?_) rfl (by kernel_rfl) (by kernel_rfl) (by kernel_rfl) (fun _ _ _ h => h) (Or.inl ⟨by rfl, ?hyr23⟩) (by assumption) ?_
      case hyr23 => ((intro w hSw; (try dsimp only at hSw); go_simp); try with_reducible rfl)
      try simp only [Act.put, List.setIfInBounds_toArray, List.set_cons_zero, List.set_cons_succ]
      refine wpAnyH_take (i := 4) (oi := { dst := some 93, op := Go.Op.load 9 (Go.Operand.tmp 92), type := 9, pos := "exact.go:895", after := #[{ on := 3, ground := Go.Ground.data }], guard := none }) (v := ?_) rfl (by kernel_rfl) (by kernel_rfl) (by kernel_rfl) (fun _ _ _ h => h) (Or.inl ⟨by rfl, ?hyr24⟩) (by assumption) ?_
      case hyr24 => ((intro w hSw; (try dsimp only at hSw); go_simp); try with_reducible rfl)
      try simp only [Act.put, List.setIfInBounds_toArray, List.set_cons_zero, List.set_cons_succ]
      refine wpAnyH_take (i := 5) (oi := { dst := some 94, op := Go.Op.move (Go.Operand.tmp 1), type := 3, pos := "exact.go:895", after := #[], guard := none }) (v := ?_) rfl (by kernel_rfl) (by kernel_rfl) (by kernel_rfl) (fun _ _ _ h => h) (Or.inl ⟨by rfl, ?hyr25⟩) (by assumption) ?_
      case hyr25 => ((intro w hSw; (try dsimp only at hSw); go_simp); try with_reducible rfl)
      try simp only [Act.put, List.setIfInBounds_toArray, List.set_cons_zero, List.set_cons_succ]
      refine wpAnyH_ready (rs := [6]) (by kernel_rfl) (by simp) ?_
      refine AllReadyH.cons (o := { dst := some 95, op := Go.Op.call { callee := Go.Callee.value (Go.Operand.func 81), args := #[Go.Operand.tmp 94], argTypes := #[3] }, type := 9, pos := "exact.go:895", after := #[{ on := 5, ground := Go.Ground.data }], guard := none }) rfl (fun K hK => ?_) AllReadyH.nil
      go_simp
      refine (HCC.out _).mono ?_
      rintro e w1 ⟨rfl, hb1⟩
      have hb2 := bel_trans hHeld.2 hb1
      go_wp2_with fail
      refine hK.out _ _ ⟨(hx.on hb2).c (k := 23) rfl, hb2⟩ (fun hHeld => ?_)
      clear hK K
      try simp only [Act.put, List.setIfInBounds_toArray, List.set_cons_zero, List.set_cons_succ]
      refine wpAnyH_take (i := 7) (oi := { dst := some 96, op := Go.Op.binOp Go.BinOp.neq 9 (Go.Operand.tmp 93) (Go.Operand.tmp 95) 9, type := 4, pos := "exact.go:895", after := #[{ on := 4, ground := Go.Ground.data }, { on := 6, ground := Go.Ground.data }], guard := none }) (v := ?_) rfl (by kernel_rfl) (by kernel_rfl) (by kernel_rfl) (fun _ _ _ h => h) (Or.inl ⟨by rfl, ?hyr27⟩) (by assumption) ?_
      case hyr27 => ((intro w hSw; (try dsimp only at hSw); go_simp); try with_reducible rfl)
      try simp only [Act.put, List.setIfInBounds_toArray, List.set_cons_zero, List.set_cons_succ]
      refine wpAnyH_done (by kernel_rfl) ?_ _
      go_wp2_with fail
      go_roundw
      case rel => exact .inr (.inr (.inr ⟨rfl, rfl, hb2⟩))
      case measure => simp [intOf]
    · go_wp2
      go_ret
      exact ⟨rfl, hbw⟩
theorem markHall (g : Nat) (w : World) (hx : BoxC w g 150 (mz 0)) :
    Calls Try.prog 70 #[.agg #[.int .i64 0, .slice none 0 0, .slice (some ⟨g, 0, none⟩) 3 3], .int .i64 1] w fun e w' => e = .returned (.int .i64 19) ∧ BoxC w' g 150 (mz 3) ∧ Turn (some ⟨g, 0, none⟩) w w' := by
  have b0 := bel_alloc (Below.refl _ w) (.cells #[.int .i64 0, .slice none 0 0, .slice (some ⟨g, 0, none⟩) 3 3] 87)
  have xa := BoxC.new w 87 #[.int .i64 0, .slice none 0 0, .slice (some ⟨g, 0, none⟩) 3 3]
  have p0 := xa.c (k := 0) rfl
  have p1 := xa.c (k := 1) rfl
  have p2 := xa.c (k := 2) rfl
  have hx1 := hx.on b0
  go_enter Try.func70, Try.ntmps70
  go_wp2_with fail
  generalize w.alloc (.cells #[.int .i64 0, .slice none 0 0, .slice (some ⟨g, 0, none⟩) 3 3] 87) = w0 at *
  have hmv : Calls Try.prog 48 #[.agg #[.int .i64 0, .slice none 0 0], .int .i64 1] w0 (MarkVerPost w0 0 none 0 0 1) := markVers 0 none 0 0 1 0 [] w0 (Own.nil _ _) (by omega) (by omega) (by omega)
  refine hmv.mono ?_
  rintro e w1 ⟨rfl, -, ht1⟩
  have t1 := (Turn.of_below (A := some ⟨g, 0, none⟩) b0).trans (Turn.of_below (below_of_turnA (Below.refl _ w0) ht1 (fun x hx => by cases hx)))
  have hb1 := below_of_turnA (Below.refl _ w0) ht1 (fun x hx => by cases hx)
  replace p2 := (xa.on hb1).c (k := 2) rfl
  have hx2 := hx1.on hb1
  clear p0 p1 ht1 hx1 hb1
  go_wp2_with fail
  refine (markTalkS g w1 hx2).mono ?_
  rintro e w2 ⟨rfl, hx3, t2⟩
  go_wp2
  go_ret
  exact ⟨rfl, hx3, t1.trans t2⟩
theorem heldHall (g : Nat) (w : World) (hx : BoxC w g 150 (mz 3)) :
    Calls Try.prog 71 #[.agg #[.int .i64 0, .slice none 0 0, .slice (some ⟨g, 0, none⟩) 3 3], .int .i64 1] w fun e w' => e = .returned (.int .i64 19) ∧ Below w.heap.size w w' := by
  have b0 := bel_alloc (Below.refl _ w) (.cells #[.int .i64 0, .slice none 0 0, .slice (some ⟨g, 0, none⟩) 3 3] 87)
  have xa := BoxC.new w 87 #[.int .i64 0, .slice none 0 0, .slice (some ⟨g, 0, none⟩) 3 3]
  have p0 := xa.c (k := 0) rfl
  have p1 := xa.c (k := 1) rfl
  have p2 := xa.c (k := 2) rfl
  have hx1 := hx.on b0
  go_enter Try.func71, Try.ntmps71
  go_wp2_with fail
  generalize w.alloc (.cells #[.int .i64 0, .slice none 0 0, .slice (some ⟨g, 0, none⟩) 3 3] 87) = w0 at *
  have hmv : Calls Try.prog 53 #[.agg #[.int .i64 0, .slice none 0 0], .int .i64 1] w0 (fun e w' => e = .returned (.int .i64 1) ∧ Below w0.heap.size w0 w') := heldVers 0 none 0 0 1 w0 (Sl.nil _ _ _ _) (by omega) (by omega) (by omega)
  refine hmv.mono ?_
  rintro e w1 ⟨rfl, hb1⟩
  replace p2 := (xa.on hb1).c (k := 2) rfl
  have hx2 := hx1.on hb1
  have b1 := bel_trans b0 hb1
  clear p0 p1 hx1 hb1
  go_wp2_with fail
  refine (heldTalkS g w1 hx2).mono ?_
  rintro e w2 ⟨rfl, hb2⟩
  go_wp2
  go_ret
  exact ⟨rfl, bel_trans b1 hb2⟩
set_option maxHeartbeats 4000000 in
set_option maxRecDepth 100000 in
theorem specHallNew (w : World) : Calls Try.prog 67 #[] w (HallPost w) := by
  have x0 := BoxC.new w 87 #[.int .i64 0, .slice none 0 0, .slice none 0 0]
  have b0 := bel_alloc (Below.refl _ w) (.cells #[.int .i64 0, .slice none 0 0, .slice none 0 0] 87)
  have hlt : w.heap.size < (w.alloc (.cells #[.int .i64 0, .slice none 0 0, .slice none 0 0] 87)).heap.size := by simp
  go_enter Try.func67, Try.ntmps67
  go_wp2_with fail
  generalize w.alloc (.cells #[.int .i64 0, .slice none 0 0, .slice none 0 0] 87) = w0 at *
  refine (l7New w0).mono ?_
  rintro e w1 ⟨L, cl, g, c, rfl, hg0, hz, hb1⟩
  have x1 := x0.on hb1
  have b1 := bel_trans b0 hb1
  have f0 := x1.f 0
  have f1 := x1.f 1
  have f2 := x1.f 2
  have c0 := x1.c (k := 0) rfl
  have c1 := x1.c (k := 1) rfl
  have c2 := x1.c (k := 2) rfl
  have z := ((x1.set 0 (.int .i64 0)).set 1 (.slice L 0 cl)).set 2 (.slice (some ⟨g, 0, none⟩) 3 c)
  have z0 := z.c (k := 0) rfl
  have z1 := z.c (k := 1) rfl
  have z2 := z.c (k := 2) rfl
  have hne : g ≠ w.heap.size := by omega
  have HZ := Lib.hid (((hz.setBox 0 (.int .i64 0) hne).setBox 1 (.slice L 0 cl) hne).setBox 2 (.slice (some ⟨g, 0, none⟩) 3 c) hne)
  have HB := Lib.hid b1
  clear hz b1 b0 hb1
  go_wp2_with fail
  exact bodyPost_ret (v := .agg #[.int .i64 0, .slice L 0 cl, .slice (some ⟨g, 0, none⟩) 3 c]) (by simp [results, Try.results67, go_sem, z0, z1, z2]) rfl ⟨L, cl, g, c, rfl, by omega, HZ.out, bel_set (bel_set (bel_set HB.out (Nat.le_refl _) _) (Nat.le_refl _) _) (Nat.le_refl _) _⟩
set_option maxHeartbeats 8000000 in
set_option maxRecDepth 100000 in
theorem lawFnExactHallNew (w : World) : Calls Try.prog 17 #[] w fun e w' => e = .returned (.bool true) ∧ Below w.heap.size w w' := by
  go_enter Try.func17, Try.ntmps17
  go_wp2_with fail
  refine (specHallNew w).mono ?_
  rintro e w1 ⟨L, cl, s, cs, rfl, hs0, hs, hb1⟩
  have xs := BoxC.new w1 87 #[.int .i64 0, .slice L 0 cl, .slice (some ⟨s, 0, none⟩) 3 cs]
  replace hs := hs.on (bel_alloc (Below.refl _ w1) (.cells #[.int .i64 0, .slice L 0 cl, .slice (some ⟨s, 0, none⟩) 3 cs] 87))
  have b1 := bel_alloc hb1 (.cells #[.int .i64 0, .slice L 0 cl, .slice (some ⟨s, 0, none⟩) 3 cs] 87)
  have hz1 : w.heap.size ≤ w1.heap.size := hb1.size
  clear hb1
  go_wp2_with fail
  obtain ⟨D, hD⟩ : ∃ D, w1.heap.size = D := ⟨_, rfl⟩
  rw [hD] at xs hz1
  rw [hD]
  clear hD
  generalize w1.alloc (.cells #[.int .i64 0, .slice L 0 cl, .slice (some ⟨s, 0, none⟩) 3 cs] 87) = w2 at *
  refine (implHallNew w2).mono ?_
  rintro e w3 ⟨g, rfl, hg, hx, hb3⟩
  have xg := BoxC.new w3 87 #[.int .i64 0, .slice none 0 0, .slice (some ⟨g, 0, none⟩) 3 3]
  have hxlt := hx.lt
  have hxslt := xs.lt
  have hslt := (hs 0 (by omega)).2
  replace xs := (xs.on hb3).alloc (.cells #[.int .i64 0, .slice none 0 0, .slice (some ⟨g, 0, none⟩) 3 3] 87)
  replace hs := (hs.on hb3).on (bel_alloc (Below.refl _ w3) (.cells #[.int .i64 0, .slice none 0 0, .slice (some ⟨g, 0, none⟩) 3 3] 87))
  replace hx := hx.alloc (.cells #[.int .i64 0, .slice none 0 0, .slice (some ⟨g, 0, none⟩) 3 3] 87)
  have hDg : D < g := by omega
  have hsg : s < g := by omega
  have b3 := bel_alloc (bel_trans b1 hb3) (.cells #[.int .i64 0, .slice none 0 0, .slice (some ⟨g, 0, none⟩) 3 3] 87)
  have hwg : w.heap.size ≤ g := Nat.le_trans b1.size hg
  have hgE : g < w3.heap.size := hxlt
  clear b1 hb3
  have s0 := xs.c (k := 0) rfl
  have g0 := xg.c (k := 0) rfl
  have s1 := xs.c (k := 1) rfl
  have g1 := xg.c (k := 1) rfl
  have s2 := xs.c (k := 2) rfl
  have g2 := xg.c (k := 2) rfl
  go_wp2_with fail
  obtain ⟨E, hE⟩ : ∃ E, w3.heap.size = E := ⟨_, rfl⟩
  rw [hE] at xg hgE g0 g1 g2
  rw [hE]
  clear hE
  generalize w3.alloc (.cells #[.int .i64 0, .slice none 0 0, .slice (some ⟨g, 0, none⟩) 3 3] 87) = w4 at *
  refine (eqHall none L 0 cl g s 3 cs w4 hx.zcells hs).mono ?_
  rintro e w5 ⟨rfl, hb5⟩
  replace xs := xs.on hb5
  replace xg := xg.on hb5
  replace hx := hx.on hb5
  replace hs := hs.on hb5
  replace b3 := bel_trans b3 hb5
  replace s0 := xs.c (k := 0) rfl
  replace g0 := xg.c (k := 0) rfl
  replace s1 := xs.c (k := 1) rfl
  replace g1 := xg.c (k := 1) rfl
  replace s2 := xs.c (k := 2) rfl
  replace g2 := xg.c (k := 2) rfl
  clear hb5
  go_wp2_with fail
  refine (markHall g w5 hx).mono ?_
  rintro e w6 ⟨rfl, hy, t6⟩
  replace xs := xs.turn t6 (fun x hx => by cases hx; simp only; omega)
  replace xg := xg.turn t6 (fun x hx => by cases hx; simp only; omega)
  replace hs := hs.turn t6 (by omega)
  replace b3 := Turn.bel b3 t6 (fun x hx => by cases hx; exact hwg)
  replace s0 := xs.c (k := 0) rfl
  replace g0 := xg.c (k := 0) rfl
  replace s1 := xs.c (k := 1) rfl
  replace g1 := xg.c (k := 1) rfl
  replace s2 := xs.c (k := 2) rfl
  replace g2 := xg.c (k := 2) rfl
  clear t6 hx
  go_wp2_with fail
  refine (heldHall g w6 hy).mono ?_
  rintro e w7 ⟨rfl, hb7⟩
  replace xs := xs.on hb7
  replace xg := xg.on hb7
  replace hy := hy.on hb7
  replace hs := hs.on hb7
  replace b3 := bel_trans b3 hb7
  replace s0 := xs.c (k := 0) rfl
  replace g0 := xg.c (k := 0) rfl
  replace s1 := xs.c (k := 1) rfl
  replace g1 := xg.c (k := 1) rfl
  replace s2 := xs.c (k := 2) rfl
  replace g2 := xg.c (k := 2) rfl
  clear hb7
  go_wp2_with fail
  refine (implHallNew w7).mono ?_
  rintro e w8 ⟨h, rfl, hh, hxh, hb8⟩
  have xh := BoxC.new w8 87 #[.int .i64 0, .slice none 0 0, .slice (some ⟨h, 0, none⟩) 3 3]
  replace xs := (xs.on hb8).alloc (.cells #[.int .i64 0, .slice none 0 0, .slice (some ⟨h, 0, none⟩) 3 3] 87)
  replace xg := (xg.on hb8).alloc (.cells #[.int .i64 0, .slice none 0 0, .slice (some ⟨h, 0, none⟩) 3 3] 87)
  replace hy := (hy.on hb8).alloc (.cells #[.int .i64 0, .slice none 0 0, .slice (some ⟨h, 0, none⟩) 3 3] 87)
  replace hs := (hs.on hb8).on (bel_alloc (Below.refl _ w8) (.cells #[.int .i64 0, .slice none 0 0, .slice (some ⟨h, 0, none⟩) 3 3] 87))
  replace hxh := hxh.alloc (.cells #[.int .i64 0, .slice none 0 0, .slice (some ⟨h, 0, none⟩) 3 3] 87)
  replace b3 := bel_alloc (bel_trans b3 hb8) (.cells #[.int .i64 0, .slice none 0 0, .slice (some ⟨h, 0, none⟩) 3 3] 87)
  replace s0 := xs.c (k := 0) rfl
  replace g0 := xg.c (k := 0) rfl
  replace s1 := xs.c (k := 1) rfl
  replace g1 := xg.c (k := 1) rfl
  replace s2 := xs.c (k := 2) rfl
  replace g2 := xg.c (k := 2) rfl
  have d0 := xh.c (k := 0) rfl
  have d1 := xh.c (k := 1) rfl
  have d2 := xh.c (k := 2) rfl
  clear hb8
  go_wp2_with fail
  obtain ⟨H, hH⟩ : ∃ H, w8.heap.size = H := ⟨_, rfl⟩
  rw [hH] at xh d0 d1 d2
  rw [hH]
  clear hH
  generalize w8.alloc (.cells #[.int .i64 0, .slice none 0 0, .slice (some ⟨h, 0, none⟩) 3 3] 87) = w9 at *
  refine (eqHall none L 0 cl h s 3 cs w9 hxh.zcells hs).mono ?_
  rintro e w10 ⟨rfl, hb10⟩
  replace xs := xs.on hb10
  replace xg := xg.on hb10
  replace hy := hy.on hb10
  replace b3 := bel_trans b3 hb10
  replace s0 := xs.c (k := 0) rfl
  replace g0 := xg.c (k := 0) rfl
  replace s1 := xs.c (k := 1) rfl
  replace g1 := xg.c (k := 1) rfl
  replace s2 := xs.c (k := 2) rfl
  replace g2 := xg.c (k := 2) rfl
  clear hb10 d0 d1 d2 xh hxh hs
  go_wp2_with fail
  refine (heldHall g w10 hy).mono ?_
  rintro e w11 ⟨rfl, hb11⟩
  go_wp2
  go_ret
  exact ⟨rfl, bel_trans b3 hb11⟩
end Go.Proofs.Ytpofgidhhcolfaa
