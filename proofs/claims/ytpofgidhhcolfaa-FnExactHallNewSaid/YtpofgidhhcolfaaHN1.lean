/- The hall of the chapter: three talks that stand closed; contracts of what compares, marks and reads it. -/
import Derived.Test.YtpofgidhhcolfaaV2
import Derived.Test.YtpofgidhhcolfaaW5
import Derived.Test.YtpofgidhhcolfaaQ
import Derived.Test.YtpofgidhhcolfaaMX
import Derived.Test.YtpofgidhhcolfaaV11
import Derived.Deep.RegionHeld3
namespace Go.Proofs.Ytpofgidhhcolfaa
open Go.RowKit

def nz (j : Nat) : Array Value := match j with
  | 0 => #[.bool false, .bool false, .int .i64 0, .slice none 0 0, .slice none 0 0, .bool false, .bool false, .string ByteArray.empty, .bool false, .bool false, .int .i64 0, .slice none 0 0, .slice none 0 0, .bool false, .bool false, .string ByteArray.empty, .bool false, .bool false, .int .i64 0, .slice none 0 0, .slice none 0 0, .bool false, .bool false, .string ByteArray.empty]
  | 1 => #[.bool false, .bool false, .int .i64 0, .slice none 0 0, .slice none 0 0, .bool false, .bool true, .string ByteArray.empty, .bool false, .bool false, .int .i64 0, .slice none 0 0, .slice none 0 0, .bool false, .bool false, .string ByteArray.empty, .bool false, .bool false, .int .i64 0, .slice none 0 0, .slice none 0 0, .bool false, .bool false, .string ByteArray.empty]
  | 2 => #[.bool false, .bool false, .int .i64 0, .slice none 0 0, .slice none 0 0, .bool false, .bool true, .string ByteArray.empty, .bool false, .bool false, .int .i64 0, .slice none 0 0, .slice none 0 0, .bool false, .bool true, .string ByteArray.empty, .bool false, .bool false, .int .i64 0, .slice none 0 0, .slice none 0 0, .bool false, .bool false, .string ByteArray.empty]
  | _ => #[.bool false, .bool false, .int .i64 0, .slice none 0 0, .slice none 0 0, .bool false, .bool true, .string ByteArray.empty, .bool false, .bool false, .int .i64 0, .slice none 0 0, .slice none 0 0, .bool false, .bool true, .string ByteArray.empty, .bool false, .bool false, .int .i64 0, .slice none 0 0, .slice none 0 0, .bool false, .bool true, .string ByteArray.empty]
def mz (j : Nat) : Array Value := match j with
  | 0 => #[.bool false, .bool false, .int .i64 0, .slice none 0 0, .slice none 0 0, .bool false, .bool true, .string ByteArray.empty, .bool false, .bool false, .int .i64 0, .slice none 0 0, .slice none 0 0, .bool false, .bool true, .string ByteArray.empty, .bool false, .bool false, .int .i64 0, .slice none 0 0, .slice none 0 0, .bool false, .bool true, .string ByteArray.empty]
  | 1 => #[.bool false, .bool false, .int .i64 3, .slice none 0 0, .slice none 0 0, .bool false, .bool false, .string (mk 6), .bool false, .bool false, .int .i64 0, .slice none 0 0, .slice none 0 0, .bool false, .bool true, .string ByteArray.empty, .bool false, .bool false, .int .i64 0, .slice none 0 0, .slice none 0 0, .bool false, .bool true, .string ByteArray.empty]
  | 2 => #[.bool false, .bool false, .int .i64 3, .slice none 0 0, .slice none 0 0, .bool false, .bool false, .string (mk 6), .bool false, .bool false, .int .i64 9, .slice none 0 0, .slice none 0 0, .bool false, .bool false, .string (mk 12), .bool false, .bool false, .int .i64 0, .slice none 0 0, .slice none 0 0, .bool false, .bool true, .string ByteArray.empty]
  | _ => #[.bool false, .bool false, .int .i64 3, .slice none 0 0, .slice none 0 0, .bool false, .bool false, .string (mk 6), .bool false, .bool false, .int .i64 9, .slice none 0 0, .slice none 0 0, .bool false, .bool false, .string (mk 12), .bool false, .bool false, .int .i64 15, .slice none 0 0, .slice none 0 0, .bool false, .bool false, .string (mk 18)]
/-- the row at g holds three closed talks -/
def ZCells (W : World) (g : Nat) : Prop := ∀ i, i < 3 → (W.cell? ⟨g, i * 8, none⟩ = some (.bool false) ∧ W.cell? ⟨g, i * 8 + 1, none⟩ = some (.bool false) ∧ W.cell? ⟨g, i * 8 + 2, none⟩ = some (.int .i64 0) ∧ W.cell? ⟨g, i * 8 + 3, none⟩ = some (.slice none 0 0) ∧ W.cell? ⟨g, i * 8 + 4, none⟩ = some (.slice none 0 0) ∧ W.cell? ⟨g, i * 8 + 5, none⟩ = some (.bool false) ∧ W.cell? ⟨g, i * 8 + 6, none⟩ = some (.bool true) ∧ W.cell? ⟨g, i * 8 + 7, none⟩ = some (.string ByteArray.empty)) ∧ g < W.heap.size
theorem ZCells.on {W W' : World} {g : Nat} (h : ZCells W g) (hb : Below W.heap.size W W') : ZCells W' g := fun i hi => by
  obtain ⟨⟨h0, h1, h2, h3, h4, h5, h6, h7⟩, h8⟩ := h i hi
  exact ⟨⟨keepC hb h0, keepC hb h1, keepC hb h2, keepC hb h3, keepC hb h4, keepC hb h5, keepC hb h6, keepC hb h7⟩, Nat.lt_of_lt_of_le h8 hb.size⟩
theorem BoxC.zcells {W : World} {g : Nat} (h : BoxC W g 150 (mz 0)) : ZCells W g := fun i hi => by
  match i, hi with
  | 0, _ => exact ⟨⟨h.c (k := 0) rfl, h.c (k := 1) rfl, h.c (k := 2) rfl, h.c (k := 3) rfl, h.c (k := 4) rfl, h.c (k := 5) rfl, h.c (k := 6) rfl, h.c (k := 7) rfl⟩, h.lt⟩
  | 1, _ => exact ⟨⟨h.c (k := 8) rfl, h.c (k := 9) rfl, h.c (k := 10) rfl, h.c (k := 11) rfl, h.c (k := 12) rfl, h.c (k := 13) rfl, h.c (k := 14) rfl, h.c (k := 15) rfl⟩, h.lt⟩
  | 2, _ => exact ⟨⟨h.c (k := 16) rfl, h.c (k := 17) rfl, h.c (k := 18) rfl, h.c (k := 19) rfl, h.c (k := 20) rfl, h.c (k := 21) rfl, h.c (k := 22) rfl, h.c (k := 23) rfl⟩, h.lt⟩
theorem info150 : (Try.prog.info? 150).map (fun i => (i.zero, i.size, i.bytes)) = some (some (.agg #[.bool false, .bool false, .int .i64 0, .slice none 0 0, .slice none 0 0, .bool false, .bool false, .string ByteArray.empty]), 8, 88) := by kernel_rfl
theorem make150 (W : World) : (Instr.makeSlice 85 (.int .i64 3) (.int .i64 3)).run Try.prog W = .ok (.slice (some ⟨W.heap.size, 0, none⟩) 3 3) (W.alloc (.cells (nz 0) 150)) := by
  obtain ⟨i0, hi, hz0, hz1, hz2⟩ := info_parts info150
  have := run_make_rowN (P := Try.prog) 85 150 i0 _ Try.underlying85 hi hz0 .i64 .i64 3 3 (Nat.le_refl _) (by rw [hz2]; omega) (by omega) W
  rw [hz1, show madeCells (Value.cells (.agg #[.bool false, .bool false, .int .i64 0, .slice none 0 0, .slice none 0 0, .bool false, .bool false, .string ByteArray.empty])) (3 * 8) = nz 0 from by kernel_rfl] at this
  exact this

/-! ### compared -/
set_option maxHeartbeats 1000000 in
theorem eqNamedNil (w : World) : Calls Try.prog 158 #[.slice none 0 0, .slice none 0 0] w fun e w' => e = .returned (.bool true) ∧ w = w' := by
  go_enter Try.func158, Try.ntmps158
  go_wp2
  go_loopw [5] (fun i wr => i = .int .i64 0 ∧ w = wr) (fun _ _ => 0)
  case atStart => exact ⟨rfl, rfl⟩
  case round =>
    obtain ⟨rfl, rfl⟩ := hrel
    go_wp2
    go_ret
    exact ⟨rfl, rfl⟩
set_option maxHeartbeats 1000000 in
theorem eqSeatZ (w : World) : Calls Try.prog 157 #[.agg #[.bool false, .bool false, .int .i64 0, .slice none 0 0], .agg #[.bool false, .bool false, .int .i64 0, .slice none 0 0]] w fun e w' => e = .returned (.bool true) ∧ Below w.heap.size w w' := by
  have b0 := bel_alloc (bel_alloc (Below.refl _ w) (.cells #[.bool false, .bool false, .int .i64 0, .slice none 0 0] 147)) (.cells #[.bool false, .bool false, .int .i64 0, .slice none 0 0] 147)
  have xa := (BoxC.new w 147 #[.bool false, .bool false, .int .i64 0, .slice none 0 0]).alloc (.cells #[.bool false, .bool false, .int .i64 0, .slice none 0 0] 147)
  have xb := BoxC.new (w.alloc (.cells #[.bool false, .bool false, .int .i64 0, .slice none 0 0] 147)) 147 #[.bool false, .bool false, .int .i64 0, .slice none 0 0]
  simp only [World.size_alloc] at xb
  have p0 := xa.c (k := 0) rfl
  have p1 := xa.c (k := 1) rfl
  have p2 := xa.c (k := 2) rfl
  have p3 := xa.c (k := 3) rfl
  have q0 := xb.c (k := 0) rfl
  have q1 := xb.c (k := 1) rfl
  have q2 := xb.c (k := 2) rfl
  have q3 := xb.c (k := 3) rfl
  go_enter Try.func157, Try.ntmps157
  go_wp2_with fail
  refine (eqWork 0 none 0 0 [] 0 none 0 0 [] _ (Sl.nil _ _ _ _) (Sl.nil _ _ _ _) (by omega)).mono ?_
  rintro e w1 ⟨rfl, hb1⟩
  rw [WorkEq_self]
  go_wp2
  go_ret
  exact ⟨rfl, bel_trans b0 hb1⟩
set_option maxHeartbeats 2000000 in
theorem eqTalkZ (w : World) : Calls Try.prog 149 #[.agg #[.bool false, .bool false, .int .i64 0, .slice none 0 0, .slice none 0 0, .bool false, .bool true, .string ByteArray.empty], .agg #[.bool false, .bool false, .int .i64 0, .slice none 0 0, .slice none 0 0, .bool false, .bool true, .string ByteArray.empty]] w fun e w' => e = .returned (.bool true) ∧ Below w.heap.size w w' := by
  have b0 := bel_alloc (bel_alloc (Below.refl _ w) (.cells #[.bool false, .bool false, .int .i64 0, .slice none 0 0, .slice none 0 0, .bool false, .bool true, .string ByteArray.empty] 150)) (.cells #[.bool false, .bool false, .int .i64 0, .slice none 0 0, .slice none 0 0, .bool false, .bool true, .string ByteArray.empty] 150)
  have xa := (BoxC.new w 150 #[.bool false, .bool false, .int .i64 0, .slice none 0 0, .slice none 0 0, .bool false, .bool true, .string ByteArray.empty]).alloc (.cells #[.bool false, .bool false, .int .i64 0, .slice none 0 0, .slice none 0 0, .bool false, .bool true, .string ByteArray.empty] 150)
  have xb := BoxC.new (w.alloc (.cells #[.bool false, .bool false, .int .i64 0, .slice none 0 0, .slice none 0 0, .bool false, .bool true, .string ByteArray.empty] 150)) 150 #[.bool false, .bool false, .int .i64 0, .slice none 0 0, .slice none 0 0, .bool false, .bool true, .string ByteArray.empty]
  simp only [World.size_alloc] at xb
  have p0 := xa.c (k := 0) rfl
  have q0 := xb.c (k := 0) rfl
  have p1 := xa.c (k := 1) rfl
  have q1 := xb.c (k := 1) rfl
  have p2 := xa.c (k := 2) rfl
  have q2 := xb.c (k := 2) rfl
  have p3 := xa.c (k := 3) rfl
  have q3 := xb.c (k := 3) rfl
  have p4 := xa.c (k := 4) rfl
  have q4 := xb.c (k := 4) rfl
  have p5 := xa.c (k := 5) rfl
  have q5 := xb.c (k := 5) rfl
  have p6 := xa.c (k := 6) rfl
  have q6 := xb.c (k := 6) rfl
  have p7 := xa.c (k := 7) rfl
  have q7 := xb.c (k := 7) rfl
  go_enter Try.func149, Try.ntmps149
  go_wp2_with fail
  generalize (w.alloc (.cells #[.bool false, .bool false, .int .i64 0, .slice none 0 0, .slice none 0 0, .bool false, .bool true, .string ByteArray.empty] 150)).alloc (.cells #[.bool false, .bool false, .int .i64 0, .slice none 0 0, .slice none 0 0, .bool false, .bool true, .string ByteArray.empty] 150) = w0 at *
  refine (eqSeatZ w0).mono ?_
  rintro e w1 ⟨rfl, hb1⟩
  replace xa := xa.on hb1
  replace xb := xb.on hb1
  replace p0 := xa.c (k := 0) rfl
  replace q0 := xb.c (k := 0) rfl
  replace p1 := xa.c (k := 1) rfl
  replace q1 := xb.c (k := 1) rfl
  replace p2 := xa.c (k := 2) rfl
  replace q2 := xb.c (k := 2) rfl
  replace p3 := xa.c (k := 3) rfl
  replace q3 := xb.c (k := 3) rfl
  replace p4 := xa.c (k := 4) rfl
  replace q4 := xb.c (k := 4) rfl
  replace p5 := xa.c (k := 5) rfl
  replace q5 := xb.c (k := 5) rfl
  replace p6 := xa.c (k := 6) rfl
  replace q6 := xb.c (k := 6) rfl
  replace p7 := xa.c (k := 7) rfl
  replace q7 := xb.c (k := 7) rfl
  go_wp2_with fail
  refine (eqNamedNil w1).mono ?_
  rintro e w2 ⟨rfl, rfl⟩
  go_wp2
  go_ret
  exact ⟨rfl, bel_trans b0 hb1⟩
end Go.Proofs.Ytpofgidhhcolfaa
