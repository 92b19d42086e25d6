/- Contracts: DrawVersAt, DrawVersTrim. -/
import Derived.Test.YtpofgidhhcolfaaX10
namespace Go.Proofs.Ytpofgidhhcolfaa
open Go.RowKit

def DrawVTPost (w : World) (e : Ending) (w' : World) : Prop :=
  ∃ (now : Int) (B : Option Addr) (n cb : Nat) (lv : List Ver) (t : Int), e = .returned (.tuple #[.agg #[.int .i64 now, .slice B n cb], .int .i64 t]) ∧ Own encVer 4 77 w' w.heap.size (.slice B n cb) lv ∧ VerSWf lv ∧ n ≤ 100 ∧ -1000 ≤ now ∧ now ≤ 1000 ∧ Below w.heap.size w w'
set_option maxHeartbeats 4000000 in
set_option maxRecDepth 100000 in
theorem drawVersAt (A : Option Addr) (n c : Nat) (l : List UInt8) (w : World) (hr : Sl encB w w.heap.size A n l) (hn : n ≤ 1048576) (hc : n ≤ c) :
    Calls Try.prog 65 #[.slice A n c] w (DrawVTPost w) := by
  have HN := Lib.hid hn
  have HC := Lib.hid hc
  clear hn hc
  have x0 := BoxC.new w 39 #[.int .i64 0, .slice none 0 0]
  have b0 := bel_alloc (Below.refl _ w) (.cells #[.int .i64 0, .slice none 0 0] 39)
  have hz0 : (w.alloc (.cells #[.int .i64 0, .slice none 0 0] 39)).heap.size = w.heap.size + 1 := by simp
  have hr0 := hr.on b0
  go_enter Try.func65, Try.ntmps65
  go_wp2_with fail
  generalize w.alloc (.cells #[.int .i64 0, .slice none 0 0] 39) = w0 at *
  refine (l11Open A n c l w0 hr0 HN.out HC.out).mono ?_
  rintro e w1 ⟨A1, m, c1, l1, rfl, r1, hb1⟩
  rw [hz0] at r1
  rw [hz0]
  have x1 := x0.on hb1
  have b1 := bel_trans b0 hb1
  have hg : w.heap.size ≠ w.heap.size + 1 := by omega
  clear x0 hr0 hr hb1 b0 hz0
  go_wp2_with fail
  refine (l2Some (w.heap.size + 1) 0 A1 m c1 l1 w1 r1 (by omega)).mono ?_
  rintro e w2 ⟨now, B, cb, lv, p2, rfl, o2, hP2, hp2, r2, t2⟩
  have x2 := x1.turn t2 (fun x hx => by cases hx; exact hg)
  have b2 := Rd.bel b1 t2 (by omega)
  have hlen := hP2.small
  have h40 := hP2.1.2.1
  have h00 := hP2.1.1
  have hsw := hP2.swf
  have hz2 : w.heap.size ≤ w2.heap.size := b2.size
  have hg2 : w.heap.size + 1 < w2.heap.size := r2.lt
  clear hP2 r1 x1 t2 b1
  go_wp2_with fail
  refine (l2Bent (w.heap.size + 1) p2 40 A1 m c1 l1 now B lv.length cb lv w2 r2 (by omega) o2.sl hsw (by omega) (by omega) (by omega) (by omega) (by omega)).mono ?_
  rintro e w3 ⟨now3, B3, n3, c3, l3, p3, rfl, o3, hS3, hn3, hl3, hu3, hp3, r3, t3⟩
  have x3 := x2.turn t3 (fun x hx => by cases hx; exact hg)
  have b3 := Rd.bel b2 t3 (by omega)
  have hg3 := r3.lt
  have HS := Lib.hid hS3
  have hn100 : n3 ≤ 100 := by omega
  have hl1000 : -1000 ≤ now3 := by omega
  have hu1000 : now3 ≤ 1000 := by omega
  have hp3' : p3 ≤ 1000 := by omega
  have HP := Lib.hid hp3'
  have HQ := Lib.hid (⟨hn100, hl1000, hu1000⟩ : n3 ≤ 100 ∧ -1000 ≤ now3 ∧ now3 ≤ 1000)
  clear o2 t3 r2 x2 b2 hlen h40 h00 hsw hn3 hl3 hu3 hp3 hp2 hS3 hp3' hn100 hl1000 hu1000
  have x5 := BoxC.new w3 39 #[.int .i64 now3, .slice B3 n3 c3]
  have x0 := x3.alloc (.cells #[.int .i64 now3, .slice B3 n3 c3] 39)
  have o4 := o3.alloc (.cells #[.int .i64 now3, .slice B3 n3 c3] 39)
  have r4 := r3.on (bel_alloc (Below.refl _ w3) (.cells #[.int .i64 now3, .slice B3 n3 c3] 39))
  have b4 := bel_alloc b3 (.cells #[.int .i64 now3, .slice B3 n3 c3] 39)
  clear x3 o3 r3 b3
  go_wp2_with fail
  all_goals
    obtain ⟨D, hD⟩ : ∃ D, w3.heap.size = D := ⟨_, rfl⟩
    rw [hD] at x5 hg3
    rw [hD]
    clear hD
    generalize w3.alloc (.cells #[.int .i64 now3, .slice B3 n3 c3] 39) = w4 at *
    have hD0 : D ≠ w.heap.size := by omega
    have hD1 : w.heap.size ≠ D := by omega
    have hDg : D ≠ w.heap.size + 1 := by omega
    have q0 := x5.c (k := 0) rfl
    have q1 := x5.c (k := 1) rfl
  have hw1 : IntKind.i64.wrap (now3 + 1) = now3 + 1 := IntWalk.i64_in _ (by have := HQ.out; omega)
  refine wp_region_held_drew (S := (fun W' => W'.cell? ⟨D, 0, none⟩ = some (.int .i64 now3) ∧ W'.cell? ⟨D, 1, none⟩ = some (.slice B3 n3 c3))) (by kernel_rfl) ⟨q0, q1⟩ (fun hHeld => ?_)
  refine wpAnyH_take (i := 0) (oi := { dst := some 12, op := Go.Op.load 39 (Go.Operand.tmp 5), type := 39, pos := "l2_snap.go:241", after := #[], guard := none }) (v := ?_) rfl (by kernel_rfl) (by kernel_rfl) (by kernel_rfl) (fun _ _ _ h => h) (Or.inl ⟨by rfl, ?hy0⟩) (by assumption) ?_
  case hy0 => ((intro w hSw; (try dsimp only at hSw); go_simp); try with_reducible rfl)
  try simp only [Act.put, List.setIfInBounds_toArray, List.set_cons_zero, List.set_cons_succ]
  refine wpAnyH_take (i := 1) (oi := { dst := some 13, op := Go.Op.move (Go.Operand.tmp 4), type := 124, pos := "l2_snap.go:241", after := #[], guard := none }) (v := ?_) rfl (by kernel_rfl) (by kernel_rfl) (by kernel_rfl) (fun _ _ _ h => h) (Or.inl ⟨by rfl, ?hy1⟩) (by assumption) ?_
  case hy1 => ((intro w hSw; (try dsimp only at hSw); go_simp); try with_reducible rfl)
  try simp only [Act.put, List.setIfInBounds_toArray, List.set_cons_zero, List.set_cons_succ]
  refine wpAnyH_take (i := 2) (oi := { dst := some 14, op := Go.Op.fieldAddr 39 (Go.Operand.tmp 5) 0, type := 0, pos := "l2_snap.go:241", after := #[], guard := none }) (v := ?_) rfl (by kernel_rfl) (by kernel_rfl) (by kernel_rfl) (fun _ _ _ h => h) (Or.inl ⟨by rfl, ?hy2⟩) (by assumption) ?_
  case hy2 => ((intro w hSw; (try dsimp only at hSw); go_simp); try with_reducible rfl)
  try simp only [Act.put, List.setIfInBounds_toArray, List.set_cons_zero, List.set_cons_succ]
  refine wpAnyH_take (i := 3) (oi := { dst := some 15, op := Go.Op.load 3 (Go.Operand.tmp 14), type := 3, pos := "l2_snap.go:241", after := #[{ on := 2, ground := Go.Ground.data }], guard := none }) (v := ?_) rfl (by kernel_rfl) (by kernel_rfl) (by kernel_rfl) (fun _ _ _ h => h) (Or.inl ⟨by rfl, ?hy3⟩) (by assumption) ?_
  case hy3 => ((intro w hSw; (try dsimp only at hSw); go_simp); try with_reducible rfl)
  try simp only [Act.put, List.setIfInBounds_toArray, List.set_cons_zero, List.set_cons_succ]
  refine wpAnyH_take (i := 4) (oi := { dst := some 16, op := Go.Op.move (Go.Operand.tmp 4), type := 124, pos := "l2_snap.go:241", after := #[], guard := none }) (v := ?_) rfl (by kernel_rfl) (by kernel_rfl) (by kernel_rfl) (fun _ _ _ h => h) (Or.inl ⟨by rfl, ?hy4⟩) (by assumption) ?_
  case hy4 => ((intro w hSw; (try dsimp only at hSw); go_simp); try with_reducible rfl)
  try simp only [Act.put, List.setIfInBounds_toArray, List.set_cons_zero, List.set_cons_succ]
  refine wpAnyH_take (i := 5) (oi := { dst := some 17, op := Go.Op.fieldAddr 39 (Go.Operand.tmp 5) 0, type := 0, pos := "l2_snap.go:241", after := #[], guard := none }) (v := ?_) rfl (by kernel_rfl) (by kernel_rfl) (by kernel_rfl) (fun _ _ _ h => h) (Or.inl ⟨by rfl, ?hy5⟩) (by assumption) ?_
  case hy5 => ((intro w hSw; (try dsimp only at hSw); go_simp); try with_reducible rfl)
  try simp only [Act.put, List.setIfInBounds_toArray, List.set_cons_zero, List.set_cons_succ]
  refine wpAnyH_take (i := 6) (oi := { dst := some 18, op := Go.Op.load 3 (Go.Operand.tmp 17), type := 3, pos := "l2_snap.go:241", after := #[{ on := 5, ground := Go.Ground.data }], guard := none }) (v := ?_) rfl (by kernel_rfl) (by kernel_rfl) (by kernel_rfl) (fun _ _ _ h => h) (Or.inl ⟨by rfl, ?hy6⟩) (by assumption) ?_
  case hy6 => ((intro w hSw; (try dsimp only at hSw); go_simp); try with_reducible rfl)
  try simp only [Act.put, List.setIfInBounds_toArray, List.set_cons_zero, List.set_cons_succ]
  refine wpAnyH_take (i := 9) (oi := { dst := some 21, op := Go.Op.move (Go.Operand.tmp 4), type := 124, pos := "l2_snap.go:241", after := #[], guard := none }) (v := ?_) rfl (by kernel_rfl) (by kernel_rfl) (by kernel_rfl) (fun _ _ _ h => h) (Or.inl ⟨by rfl, ?hy9⟩) (by assumption) ?_
  case hy9 => ((intro w hSw; (try dsimp only at hSw); go_simp); try with_reducible rfl)
  try simp only [Act.put, List.setIfInBounds_toArray, List.set_cons_zero, List.set_cons_succ]
  refine wpAnyH_take (i := 10) (oi := { dst := some 22, op := Go.Op.fieldAddr 39 (Go.Operand.tmp 5) 0, type := 0, pos := "l2_snap.go:241", after := #[], guard := none }) (v := ?_) rfl (by kernel_rfl) (by kernel_rfl) (by kernel_rfl) (fun _ _ _ h => h) (Or.inl ⟨by rfl, ?hy10⟩) (by assumption) ?_
  case hy10 => ((intro w hSw; (try dsimp only at hSw); go_simp); try with_reducible rfl)
  try simp only [Act.put, List.setIfInBounds_toArray, List.set_cons_zero, List.set_cons_succ]
  refine wpAnyH_take (i := 11) (oi := { dst := some 23, op := Go.Op.load 3 (Go.Operand.tmp 22), type := 3, pos := "l2_snap.go:241", after := #[{ on := 10, ground := Go.Ground.data }], guard := none }) (v := ?_) rfl (by kernel_rfl) (by kernel_rfl) (by kernel_rfl) (fun _ _ _ h => h) (Or.inl ⟨by rfl, ?hy11⟩) (by assumption) ?_
  case hy11 => ((intro w hSw; (try dsimp only at hSw); go_simp); try with_reducible rfl)
  try simp only [Act.put, List.setIfInBounds_toArray, List.set_cons_zero, List.set_cons_succ]
  refine wpAnyH_take (i := 14) (oi := { dst := some 26, op := Go.Op.fieldAddr 39 (Go.Operand.tmp 5) 0, type := 0, pos := "l2_snap.go:241", after := #[], guard := none }) (v := ?_) rfl (by kernel_rfl) (by kernel_rfl) (by kernel_rfl) (fun _ _ _ h => h) (Or.inl ⟨by rfl, ?hy14⟩) (by assumption) ?_
  case hy14 => ((intro w hSw; (try dsimp only at hSw); go_simp); try with_reducible rfl)
  try simp only [Act.put, List.setIfInBounds_toArray, List.set_cons_zero, List.set_cons_succ]
  refine wpAnyH_take (i := 15) (oi := { dst := some 27, op := Go.Op.load 3 (Go.Operand.tmp 26), type := 3, pos := "l2_snap.go:241", after := #[{ on := 14, ground := Go.Ground.data }], guard := none }) (v := ?_) rfl (by kernel_rfl) (by kernel_rfl) (by kernel_rfl) (fun _ _ _ h => h) (Or.inl ⟨by rfl, ?hy15⟩) (by assumption) ?_
  case hy15 => ((intro w hSw; (try dsimp only at hSw); go_simp); try with_reducible rfl)
  try simp only [Act.put, List.setIfInBounds_toArray, List.set_cons_zero, List.set_cons_succ]
  refine wpAnyH_take (i := 16) (oi := { dst := some 28, op := Go.Op.binOp Go.BinOp.add 3 (Go.Operand.tmp 27) (Go.Operand.const (Go.Value.int Go.IntKind.i64 1)) 3, type := 3, pos := "l2_snap.go:241", after := #[{ on := 15, ground := Go.Ground.data }], guard := none }) (v := ?_) rfl (by kernel_rfl) (by kernel_rfl) (by kernel_rfl) (fun _ _ _ h => h) (Or.inl ⟨by rfl, ?hy16⟩) (by assumption) ?_
  case hy16 => ((intro w hSw; (try dsimp only at hSw); go_simp); try with_reducible rfl)
  try simp only [Act.put, List.setIfInBounds_toArray, List.set_cons_zero, List.set_cons_succ]
  refine wpAnyH_ready (rs := [7]) (by kernel_rfl) (by simp) ?_
  refine AllReadyH.cons (o := { dst := some 19, op := Go.Op.call { callee := Go.Callee.value (Go.Operand.func 117), args := #[Go.Operand.const (Go.Value.int Go.IntKind.i64 1), Go.Operand.tmp 18], argTypes := #[3, 3] }, type := 3, pos := "l2_snap.go:241", after := #[{ on := 6, ground := Go.Ground.data }], guard := none }) rfl (fun K hK => ?_) AllReadyH.nil
  go_simp
  replace x0 := x0.drew
  replace x5 := x5.drew
  replace o4 := o4.drew
  replace b4 := bel_drewN b4 1
  replace r4 := r4.drewN 1
  refine (l1MaxC _ _ _).mono ?_
  rintro e W ⟨rfl, rfl⟩
  go_wp2_with fail
  refine hK.out _ _ ⟨q0, q1⟩ (fun hHeld => ?_)
  clear hK K
  try simp only [Act.put, List.setIfInBounds_toArray, List.set_cons_zero, List.set_cons_succ]
  refine wpAnyH_ready (rs := [8]) (by kernel_rfl) (by simp) ?_
  refine AllReadyH.cons (o := { dst := some 20, op := Go.Op.call { callee := Go.Callee.value (Go.Operand.func 104), args := #[Go.Operand.tmp 16, Go.Operand.tmp 19], argTypes := #[124, 3] }, type := 3, pos := "l2_snap.go:241", after := #[{ on := 4, ground := Go.Ground.data }, { on := 7, ground := Go.Ground.data }, { on := 7, ground := Go.Ground.chain }], guard := none }) rfl (fun K hK => ?_) AllReadyH.nil
  go_simp
  refine (pickI (w.heap.size + 1) (p3) (max 1 now3) A1 m c1 l1 _ r4 (by omega) (by have := HQ.out; omega) (by have := HP.out; omega)).mono ?_
  rintro e w8 ⟨v8, rfl, -, -, r8, t8⟩
  replace x0 := x0.turn t8 (fun x hx => by cases hx; exact hg)
  replace x5 := x5.turn t8 (fun x hx => by cases hx; exact hDg)
  replace o4 := o4.farRd t8 hg2
  replace b4 := Rd.bel b4 t8 (by omega)
  clear r4
  have r4 := r8
  clear r8 t8
  replace q0 := x5.c (k := 0) rfl
  replace q1 := x5.c (k := 1) rfl
  go_wp2_with fail
  refine hK.out _ _ ⟨q0, q1⟩ (fun hHeld => ?_)
  clear hK K
  try simp only [Act.put, List.setIfInBounds_toArray, List.set_cons_zero, List.set_cons_succ]
  refine wpAnyH_ready (rs := [12]) (by kernel_rfl) (by simp) ?_
  refine AllReadyH.cons (o := { dst := some 24, op := Go.Op.call { callee := Go.Callee.value (Go.Operand.func 117), args := #[Go.Operand.const (Go.Value.int Go.IntKind.i64 1), Go.Operand.tmp 23], argTypes := #[3, 3] }, type := 3, pos := "l2_snap.go:241", after := #[{ on := 11, ground := Go.Ground.data }, { on := 8, ground := Go.Ground.chain }], guard := none }) rfl (fun K hK => ?_) AllReadyH.nil
  go_simp
  refine (l1MaxC _ _ _).mono ?_
  rintro e W ⟨rfl, rfl⟩
  go_wp2_with fail
  refine hK.out _ _ ⟨q0, q1⟩ (fun hHeld => ?_)
  clear hK K
  try simp only [Act.put, List.setIfInBounds_toArray, List.set_cons_zero, List.set_cons_succ]
  refine wpAnyH_ready (rs := [13]) (by kernel_rfl) (by simp) ?_
  refine AllReadyH.cons (o := { dst := some 25, op := Go.Op.call { callee := Go.Callee.value (Go.Operand.func 104), args := #[Go.Operand.tmp 21, Go.Operand.tmp 24], argTypes := #[124, 3] }, type := 3, pos := "l2_snap.go:241", after := #[{ on := 9, ground := Go.Ground.data }, { on := 12, ground := Go.Ground.data }, { on := 12, ground := Go.Ground.chain }], guard := none }) rfl (fun K hK => ?_) AllReadyH.nil
  go_simp
  refine (pickI (w.heap.size + 1) (p3 + 1) (max 1 now3) A1 m c1 l1 _ r4 (by omega) (by have := HQ.out; omega) (by have := HP.out; omega)).mono ?_
  rintro e w13 ⟨v13, rfl, -, -, r13, t13⟩
  replace x0 := x0.turn t13 (fun x hx => by cases hx; exact hg)
  replace x5 := x5.turn t13 (fun x hx => by cases hx; exact hDg)
  replace o4 := o4.farRd t13 hg2
  replace b4 := Rd.bel b4 t13 (by omega)
  clear r4
  have r4 := r13
  clear r13 t13
  replace q0 := x5.c (k := 0) rfl
  replace q1 := x5.c (k := 1) rfl
  go_wp2_with fail
  refine hK.out _ _ ⟨q0, q1⟩ (fun hHeld => ?_)
  clear hK K
  try simp only [Act.put, List.setIfInBounds_toArray, List.set_cons_zero, List.set_cons_succ]
  refine wpAnyH_ready (rs := [17]) (by kernel_rfl) (by simp) ?_
  refine AllReadyH.cons (o := { dst := some 29, op := Go.Op.buildSlice 144 7 #[(0, Go.Operand.tmp 15), (1, Go.Operand.tmp 20), (2, Go.Operand.tmp 25), (3, Go.Operand.const (Go.Value.int Go.IntKind.i64 0)), (4, Go.Operand.const (Go.Value.int Go.IntKind.i64 (-1))), (5, Go.Operand.tmp 28), (6, Go.Operand.const (Go.Value.int Go.IntKind.i64 9223372036854775807))], type := 144, pos := "l2_snap.go:241", after := #[{ on := 3, ground := Go.Ground.data }, { on := 8, ground := Go.Ground.data }, { on := 13, ground := Go.Ground.data }, { on := 16, ground := Go.Ground.data }], guard := none }) rfl (fun K hK => ?_) AllReadyH.nil
  replace x0 := x0.alloc (.cells #[.int .i64 now3, .int .i64 v8, .int .i64 v13, .int .i64 0, .int .i64 (-1), .int .i64 (now3 + 1), .int .i64 9223372036854775807] 3)
  replace x5 := x5.alloc (.cells #[.int .i64 now3, .int .i64 v8, .int .i64 v13, .int .i64 0, .int .i64 (-1), .int .i64 (now3 + 1), .int .i64 9223372036854775807] 3)
  replace o4 := o4.alloc (.cells #[.int .i64 now3, .int .i64 v8, .int .i64 v13, .int .i64 0, .int .i64 (-1), .int .i64 (now3 + 1), .int .i64 9223372036854775807] 3)
  replace b4 := bel_alloc b4 (.cells #[.int .i64 now3, .int .i64 v8, .int .i64 v13, .int .i64 0, .int .i64 (-1), .int .i64 (now3 + 1), .int .i64 9223372036854775807] 3)
  have hgw := r4.lt
  have r4a := r4.on (bel_alloc (Below.refl _ w13) (.cells #[.int .i64 now3, .int .i64 v8, .int .i64 v13, .int .i64 0, .int .i64 (-1), .int .i64 (now3 + 1), .int .i64 9223372036854775807] 3))
  have q0a := x5.c (k := 0) rfl
  have q1a := x5.c (k := 1) rfl
  go_simp
  try go_wp2_with fail
  refine hK.out _ _ ⟨q0a, q1a⟩ (fun hHeld => ?_)
  clear hK K
  try simp only [Act.put, List.setIfInBounds_toArray, List.set_cons_zero, List.set_cons_succ]
  refine wpAnyH_ready (rs := [18]) (by kernel_rfl) (by simp) ?_
  refine AllReadyH.cons (o := { dst := some 30, op := Go.Op.call { callee := Go.Callee.value (Go.Operand.func 116), args := #[Go.Operand.tmp 13, Go.Operand.tmp 29], argTypes := #[124, 144] }, type := 3, pos := "l2_snap.go:241", after := #[{ on := 1, ground := Go.Ground.data }, { on := 17, ground := Go.Ground.data }, { on := 13, ground := Go.Ground.chain }], guard := none }) rfl (fun K hK => ?_) AllReadyH.nil
  go_simp
  refine (numC (w.heap.size + 1) (p3 + 1 + 1) 7 7 w13.heap.size 0 A1 m c1 l1 [now3, v8, v13, 0, -1, now3 + 1, 9223372036854775807] _ r4a (by have := HP.out; omega) (Sl.lit (enc := encI) w13 #[.int .i64 now3, .int .i64 v8, .int .i64 v13, .int .i64 0, .int .i64 (-1), .int .i64 (now3 + 1), .int .i64 9223372036854775807] 3 [now3, v8, v13, 0, -1, now3 + 1, 9223372036854775807] rfl 7 rfl) (by omega) (by omega) (by omega)).mono ?_
  rintro e w18 ⟨t, rfl, -, r18, t18⟩
  replace x0 := x0.turn t18 (fun x hx => by cases hx; exact hg)
  replace x5 := x5.turn t18 (fun x hx => by cases hx; exact hDg)
  replace o4 := o4.farRd t18 hg2
  replace b4 := Rd.bel b4 t18 (by omega)
  clear r4
  have r4 := r18
  clear r18 t18
  replace q0 := x5.c (k := 0) rfl
  replace q1 := x5.c (k := 1) rfl
  go_wp2_with fail
  refine hK.out _ _ ⟨q0, q1⟩ (fun hHeld => ?_)
  clear hK K
  try simp only [Act.put, List.setIfInBounds_toArray, List.set_cons_zero, List.set_cons_succ]
  refine wpAnyH_ready (rs := [19]) (by kernel_rfl) (by simp) ?_
  refine AllReadyH.cons (o := { dst := none, op := Go.Op.store 39 (Go.Operand.tmp 2) (Go.Operand.tmp 12), type := 0, pos := "l2_snap.go:241", after := #[{ on := 0, ground := Go.Ground.data }, { on := 18, ground := Go.Ground.chain }, { on := 0, ground := Go.Ground.phase }, { on := 1, ground := Go.Ground.textOnly Go.Departure.lateStores }, { on := 2, ground := Go.Ground.textOnly Go.Departure.lateStores }, { on := 3, ground := Go.Ground.textOnly Go.Departure.lateStores }, { on := 4, ground := Go.Ground.textOnly Go.Departure.lateStores }, { on := 5, ground := Go.Ground.textOnly Go.Departure.lateStores }, { on := 6, ground := Go.Ground.textOnly Go.Departure.lateStores }, { on := 7, ground := Go.Ground.textOnly Go.Departure.lateStoresUnsure }, { on := 8, ground := Go.Ground.textOnly Go.Departure.lateStoresUnsure }, { on := 9, ground := Go.Ground.textOnly Go.Departure.lateStores }, { on := 10, ground := Go.Ground.textOnly Go.Departure.lateStores }, { on := 11, ground := Go.Ground.textOnly Go.Departure.lateStores }, { on := 12, ground := Go.Ground.textOnly Go.Departure.lateStoresUnsure }, { on := 13, ground := Go.Ground.textOnly Go.Departure.lateStoresUnsure }, { on := 14, ground := Go.Ground.textOnly Go.Departure.lateStores }, { on := 15, ground := Go.Ground.textOnly Go.Departure.lateStores }, { on := 16, ground := Go.Ground.textOnly Go.Departure.lateStores }, { on := 17, ground := Go.Ground.textOnly Go.Departure.lateStores }, { on := 18, ground := Go.Ground.textOnly Go.Departure.lateStoresUnsure }], guard := none }) rfl (fun K hK => ?_) AllReadyH.nil
  have q2 := x0.c (k := 0) rfl
  have q3 := x0.c (k := 1) rfl
  have f0 := x0.f 0
  have f1 := x0.f 1
  go_simp
  go_wp2_with fail
  refine hK.out _ _ ?hS (fun hHeld => ?_)
  case hS => exact ⟨setOther (setOther q0 hD0) hD0, setOther (setOther q1 hD0) hD0⟩
  clear hK K
  try simp only [Act.put, List.setIfInBounds_toArray, List.set_cons_zero, List.set_cons_succ]
  refine wpAnyH_take (i := 20) (oi := { dst := some 3, op := Go.Op.assign (Go.Operand.tmp 30), type := 3, pos := "l2_snap.go:241", after := #[{ on := 18, ground := Go.Ground.data }, { on := 19, ground := Go.Ground.chain }, { on := 0, ground := Go.Ground.phase }, { on := 1, ground := Go.Ground.phase }, { on := 2, ground := Go.Ground.phase }, { on := 3, ground := Go.Ground.phase }, { on := 4, ground := Go.Ground.phase }, { on := 5, ground := Go.Ground.phase }, { on := 6, ground := Go.Ground.phase }, { on := 7, ground := Go.Ground.phase }, { on := 8, ground := Go.Ground.phase }, { on := 9, ground := Go.Ground.phase }, { on := 10, ground := Go.Ground.phase }, { on := 11, ground := Go.Ground.phase }, { on := 12, ground := Go.Ground.phase }, { on := 13, ground := Go.Ground.phase }, { on := 14, ground := Go.Ground.phase }, { on := 15, ground := Go.Ground.phase }, { on := 16, ground := Go.Ground.phase }, { on := 17, ground := Go.Ground.phase }, { on := 18, ground := Go.Ground.phase }, { on := 19, ground := Go.Ground.phase }], guard := none }) (v := ?_) rfl (by kernel_rfl) (by kernel_rfl) (by kernel_rfl) (fun _ _ _ h => h) (Or.inl ⟨by rfl, ?hy20⟩) (by assumption) ?_
  case hy20 => ((intro w hSw; (try dsimp only at hSw); go_simp); try with_reducible rfl)
  try simp only [Act.put, List.setIfInBounds_toArray, List.set_cons_zero, List.set_cons_succ]
  refine wpAnyH_done (by kernel_rfl) ?_ _
  have z := (x0.set 0 (.int .i64 now3)).set 1 (.slice B3 n3 c3)
  have z0 := z.c (k := 0) rfl
  have z1 := z.c (k := 1) rfl
  go_wp2_with fail
  exact bodyPost_ret (v := .tuple #[.agg #[.int .i64 now3, .slice B3 n3 c3], .int .i64 t]) (by simp [results, Try.results65, go_sem, z0, z1]) rfl ⟨now3, B3, n3, c3, l3, t, rfl, ((o4.lower hz2).box x0 (by decide)).box (x0.set 0 _) (by decide), HS.out, HQ.out.1, HQ.out.2.1, HQ.out.2.2, bel_set (bel_set b4 (Nat.le_refl _) _) (Nat.le_refl _) _⟩
set_option maxHeartbeats 1000000 in
set_option maxRecDepth 100000 in
theorem drawVersTrim (A : Option Addr) (n c : Nat) (l : List UInt8) (w : World) (hr : Sl encB w w.heap.size A n l) (hn : n ≤ 1048576) (hc : n ≤ c) :
    Calls Try.prog 63 #[.slice A n c] w (DrawVTPost w) := by
  have x0 := BoxC.new w 39 #[.int .i64 0, .slice none 0 0]
  have b0 := bel_alloc (Below.refl _ w) (.cells #[.int .i64 0, .slice none 0 0] 39)
  have hr0 := hr.on b0
  have hz0 : w.heap.size ≤ (w.alloc (.cells #[.int .i64 0, .slice none 0 0] 39)).heap.size := by simp
  go_enter Try.func63, Try.ntmps63
  go_wp2_with fail
  generalize w.alloc (.cells #[.int .i64 0, .slice none 0 0] 39) = w0 at *
  refine (drawVersAt A n c l w0 hr0 hn hc).mono ?_
  rintro e w1 ⟨now, B, m, cb, lv, t, rfl, o1, hS, hm, hlo, hhi, b1⟩
  have x1 := x0.on b1
  have f0 := x1.f 0
  have f1 := x1.f 1
  have q0 := x1.c (k := 0) rfl
  have q1 := x1.c (k := 1) rfl
  have z := (x1.set 0 (.int .i64 now)).set 1 (.slice B m cb)
  have z0 := z.c (k := 0) rfl
  have z1 := z.c (k := 1) rfl
  have HS := Lib.hid hS
  have HO := Lib.hid o1
  have HB := Lib.hid (bel_trans b0 b1)
  clear hr hr0 x0 b0 b1 hS o1
  go_wp2_with fail
  exact bodyPost_ret (v := .tuple #[.agg #[.int .i64 now, .slice B m cb], .int .i64 t]) (by simp [results, Try.results63, go_sem, z0, z1]) rfl ⟨now, B, m, cb, lv, t, rfl, ((HO.out.lower hz0).box x1 (by decide)).box (x1.set 0 _) (by decide), HS.out, hm, hlo, hhi, bel_set (bel_set HB.out (Nat.le_refl _) _) (Nat.le_refl _) _⟩
end Go.Proofs.Ytpofgidhhcolfaa
