/- Contract: VersOk of the reference. -/
import Derived.Test.YtpofgidhhcolfaaV4
import Derived.Deep.RegionWith
import Derived.Deep.DrawnRows
namespace Go.Proofs.Ytpofgidhhcolfaa
open Go.RowKit
attribute [local go_sem ↓] Go.wp_at_zero Go.wp_at_succ

theorem versOk_head {now : Int} {l : List Ver} (h : ¬ (0 ≤ now ∧ now ≤ 40 ∧ l.length ≤ 60)) : versOk now l = false := versOk_false fun h' => h h'.1
theorem versOk_each {now : Int} {l : List Ver} (h : ¬ EachV now l) : versOk now l = false := versOk_false fun h' => h h'.2.1
theorem versOk_ahead {now : Int} {l : List Ver} (h : ¬ AheadP l) : versOk now l = false := versOk_false fun h' => h h'.2.2.1
theorem versOk_few {now : Int} {l : List Ver} (h : ¬ FewP now l) : versOk now l = false := versOk_false fun h' => h h'.2.2.2
set_option maxHeartbeats 4000000 in
set_option maxRecDepth 100000 in
theorem specVersOk (now : Int) (A : Option Addr) (n c : Nat) (l : List Ver) (w : World) (hr : Sl encVer w w.heap.size A n l) (hk : VerSWf l) (_hn : n ≤ 1048576) :
    Calls Try.prog 41 #[.agg #[.int .i64 now, .slice A n c]] w fun e w' => e = .returned (.bool (versOk now l)) ∧ Below w.heap.size w w' := by
  have HL := Lib.hid hr.len
  have HR := Lib.hid hr
  have HK := Lib.hid hk
  have b0 := bel_alloc (Below.refl _ w) (.cells #[.int .i64 now, .slice A n c] 39)
  obtain ⟨p0, p1⟩ := cell_new2Vers w (.int .i64 now) (.slice A n c) 39
  by_cases hd : 0 ≤ now ∧ now ≤ 40 ∧ n ≤ 60
  · obtain ⟨hd0, hd1, hd2⟩ := hd
    have hd2' : (n : Int) ≤ 60 := by omega
    have HD := Lib.hid (show 0 ≤ now ∧ now ≤ 40 ∧ l.length ≤ 60 from ⟨hd0, hd1, by rw [HL.out]; exact hd2⟩)
    have HC : Hid (∀ W, Below (w.heap.size + 1) (w.alloc (.cells #[.int .i64 now, .slice A n c] 39)) W → (W.cell? ⟨w.heap.size, 0, none⟩ = some (.int .i64 now) ∧ W.cell? ⟨w.heap.size, 1, none⟩ = some (.slice A n c)) ∧ Below w.heap.size w W ∧ w.heap.size + 1 ≤ W.heap.size) :=
      Lib.hid fun W hW => ⟨⟨(hW.cell (p := ⟨w.heap.size, 0, none⟩) (by simp)).trans p0, (hW.cell (p := ⟨w.heap.size, 1, none⟩) (by simp)).trans p1⟩, b0.trans (hW.mono (by omega)), by have := hW.size; simpa using this⟩
    have hb1 : Below (w.heap.size + 1) (w.alloc (.cells #[.int .i64 now, .slice A n c] 39)) (w.alloc (.cells #[.int .i64 now, .slice A n c] 39)) := Below.refl _ _
    generalize hw1 : w.alloc (.cells #[.int .i64 now, .slice A n c] 39) = w1 at *
    have HW := Lib.hid hw1
    clear hw1 hr hk p0 p1 b0
    obtain ⟨⟨p0, p1⟩, -, -⟩ := HC.out _ hb1
    go_enter Try.func41, Try.ntmps41
    go_wp2_with fail
    rw [HW.out]
    go_wp2_with fail
    go_loopw [3] (fun v3 wr => ∃ (i : Nat), i ≤ n ∧ v3 = .int .i64 i ∧ EachVTo now l i ∧ AheadTo l (i - 1) ∧ Below (w.heap.size + 1) w1 wr) (fun v3 _ => n - (intOf v3).toNat)
    case atStart => exact ⟨0, Nat.zero_le _, rfl, EachVTo.zero _ _, AheadTo.zero _, hb1⟩
    case round =>
      obtain ⟨i, hin, rfl, he, ha, hb⟩ := hrel
      clear p0 p1 hb1
      obtain ⟨⟨p0, p1⟩, hbw, hsz⟩ := HC.out _ hb
      by_cases h0 : i < n
      · have h0' : (i : Int) < (n : Int) := by omega
        have j0 : (0 : Int) ≤ (i : Int) := by omega
        obtain ⟨b, off, rfl, hbb⟩ := HR.out.spot (by omega)
        obtain ⟨f0, f1, f2, f3, hx, e0, e1, e2, e3⟩ := atVer (HR.out.keep hbw) h0
        have HX := Lib.hid hx
        have HWF := Lib.hid (HK.out.at_ hx)
        clear hx
        have HB := Lib.hid hb
        have C1 : Hid (∀ W, Calls Try.prog 88 #[.agg #[.string f0, .int .i64 f1, .int .i64 f2, .int .i64 f3], .int .i64 now] W fun e w' => e = .returned (.bool (verOk now (f0, f1, f2, f3))) ∧ Below W.heap.size W w') := Lib.hid fun W => specVer f0 f1 f2 f3 now W HWF.out
        cases hv : verOk now (f0, f1, f2, f3)
        · have HF := Lib.hid (versOk_each (not_eachV HX.out hv))
          rw [hv] at C1
          clear hv
          have HC2 : Hid (∀ W, Below wr.heap.size wr W → (W.cell? ⟨w.heap.size, 0, none⟩ = some (.int .i64 now) ∧ W.cell? ⟨w.heap.size, 1, none⟩ = some (.slice (some ⟨b, off, none⟩) n c)) ∧ (W.cell? ⟨b, off + i * 4, none⟩ = some (.string f0) ∧ W.cell? ⟨b, off + i * 4 + 1, none⟩ = some (.int .i64 f1) ∧ W.cell? ⟨b, off + i * 4 + 2, none⟩ = some (.int .i64 f2) ∧ W.cell? ⟨b, off + i * 4 + 3, none⟩ = some (.int .i64 f3))) :=
            Lib.hid fun W hW => ⟨⟨(hW.cell (p := ⟨w.heap.size, 0, none⟩) (by simp only; omega)).trans p0, (hW.cell (p := ⟨w.heap.size, 1, none⟩) (by simp only; omega)).trans p1⟩, (hW.cell (p := ⟨b, off + i * 4, none⟩) (by simp only; omega)).trans e0, (hW.cell (p := ⟨b, off + i * 4 + 1, none⟩) (by simp only; omega)).trans e1, (hW.cell (p := ⟨b, off + i * 4 + 2, none⟩) (by simp only; omega)).trans e2, (hW.cell (p := ⟨b, off + i * 4 + 3, none⟩) (by simp only; omega)).trans e3⟩
          go_wp2_with fail
          refine wp_region_held_drew (S := (fun W' => ((W'.cell? ⟨w.heap.size, 0, none⟩ = some (.int .i64 now) ∧ W'.cell? ⟨w.heap.size, 1, none⟩ = some (.slice (some ⟨b, off, none⟩) n c)) ∧ (W'.cell? ⟨b, off + i * 4, none⟩ = some (.string f0) ∧ W'.cell? ⟨b, off + i * 4 + 1, none⟩ = some (.int .i64 f1) ∧ W'.cell? ⟨b, off + i * 4 + 2, none⟩ = some (.int .i64 f2) ∧ W'.cell? ⟨b, off + i * 4 + 3, none⟩ = some (.int .i64 f3))) ∧ Below wr.heap.size wr W')) (by kernel_rfl) ⟨HC2.out _ (Below.refl _ _).drew, (Below.refl _ _).drew⟩ (fun hHeld => ?_)
          refine wpAnyH_take (i := 0) (oi := { dst := some 26, op := Go.Op.fieldAddr 39 (Go.Operand.tmp 1) 1, type := 0, pos := "l2_snap.go:36", after := #[], guard := none }) (v := ?_) rfl (by kernel_rfl) (by kernel_rfl) (by kernel_rfl) (fun _ _ _ h => h) (Or.inl ⟨by rfl, ?hy0⟩) (by assumption) ?_
          case hy0 => ((intro w hSw; (try dsimp only at hSw); go_simp); try with_reducible rfl)
          try simp only [Act.put, List.setIfInBounds_toArray, List.set_cons_zero, List.set_cons_succ]
          refine wpAnyH_take (i := 1) (oi := { dst := some 27, op := Go.Op.load 37 (Go.Operand.tmp 26), type := 37, pos := "l2_snap.go:36", after := #[{ on := 0, ground := Go.Ground.data }], guard := none }) (v := ?_) rfl (by kernel_rfl) (by kernel_rfl) (by kernel_rfl) (fun _ _ _ h => h) (Or.inl ⟨by rfl, ?hy1⟩) (by assumption) ?_
          case hy1 => ((intro w hSw; (try dsimp only at hSw); go_simp); try with_reducible rfl)
          try simp only [Act.put, List.setIfInBounds_toArray, List.set_cons_zero, List.set_cons_succ]
          refine wpAnyH_take (i := 2) (oi := { dst := some 28, op := Go.Op.move (Go.Operand.tmp 3), type := 3, pos := "l2_snap.go:36", after := #[], guard := none }) (v := ?_) rfl (by kernel_rfl) (by kernel_rfl) (by kernel_rfl) (fun _ _ _ h => h) (Or.inl ⟨by rfl, ?hy2⟩) (by assumption) ?_
          case hy2 => ((intro w hSw; (try dsimp only at hSw); go_simp); try with_reducible rfl)
          try simp only [Act.put, List.setIfInBounds_toArray, List.set_cons_zero, List.set_cons_succ]
          refine wpAnyH_take (i := 3) (oi := { dst := some 29, op := Go.Op.indexAddr 37 (Go.Operand.tmp 27) (Go.Operand.tmp 28), type := 0, pos := "l2_snap.go:36", after := #[{ on := 1, ground := Go.Ground.data }, { on := 2, ground := Go.Ground.data }], guard := none }) (v := ?_) rfl (by kernel_rfl) (by kernel_rfl) (by kernel_rfl) (fun _ _ _ h => h) (Or.inl ⟨by rfl, ?hy3⟩) (by assumption) ?_
          case hy3 => ((intro w hSw; (try dsimp only at hSw); go_simp); try with_reducible rfl)
          try simp only [Act.put, List.setIfInBounds_toArray, List.set_cons_zero, List.set_cons_succ]
          refine wpAnyH_take (i := 4) (oi := { dst := some 30, op := Go.Op.load 77 (Go.Operand.tmp 29), type := 77, pos := "l2_snap.go:36", after := #[{ on := 3, ground := Go.Ground.data }], guard := none }) (v := ?_) rfl (by kernel_rfl) (by kernel_rfl) (by kernel_rfl) (fun _ _ _ h => h) (Or.inl ⟨by rfl, ?hy4⟩) (by assumption) ?_
          case hy4 => ((intro w hSw; (try dsimp only at hSw); go_simp); try with_reducible rfl)
          try simp only [Act.put, List.setIfInBounds_toArray, List.set_cons_zero, List.set_cons_succ]
          refine wpAnyH_take (i := 5) (oi := { dst := some 31, op := Go.Op.fieldAddr 39 (Go.Operand.tmp 1) 0, type := 0, pos := "l2_snap.go:36", after := #[], guard := none }) (v := ?_) rfl (by kernel_rfl) (by kernel_rfl) (by kernel_rfl) (fun _ _ _ h => h) (Or.inl ⟨by rfl, ?hy5⟩) (by assumption) ?_
          case hy5 => ((intro w hSw; (try dsimp only at hSw); go_simp); try with_reducible rfl)
          try simp only [Act.put, List.setIfInBounds_toArray, List.set_cons_zero, List.set_cons_succ]
          refine wpAnyH_take (i := 6) (oi := { dst := some 32, op := Go.Op.load 3 (Go.Operand.tmp 31), type := 3, pos := "l2_snap.go:36", after := #[{ on := 5, ground := Go.Ground.data }], guard := none }) (v := ?_) rfl (by kernel_rfl) (by kernel_rfl) (by kernel_rfl) (fun _ _ _ h => h) (Or.inl ⟨by rfl, ?hy6⟩) (by assumption) ?_
          case hy6 => ((intro w hSw; (try dsimp only at hSw); go_simp); try with_reducible rfl)
          try simp only [Act.put, List.setIfInBounds_toArray, List.set_cons_zero, List.set_cons_succ]
          refine wpAnyH_ready (rs := [7]) (by kernel_rfl) (by simp) ?_
          refine AllReadyH.cons (o := { dst := some 33, op := Go.Op.call { callee := Go.Callee.value (Go.Operand.func 88), args := #[Go.Operand.tmp 30, Go.Operand.tmp 32], argTypes := #[77, 3] }, type := 4, pos := "l2_snap.go:36", after := #[{ on := 4, ground := Go.Ground.data }, { on := 6, ground := Go.Ground.data }], guard := none }) rfl (fun K hK => ?_) AllReadyH.nil
          go_simp
          refine (C1.out _).mono ?_
          rintro e W ⟨rfl, hbW'⟩
          have hbW := bel_trans ((Below.refl wr.heap.size wr).drew) hbW'
          go_wp2_with fail
          refine hK.out _ _ ⟨HC2.out _ hbW, hbW⟩ (fun hHeld => ?_)
          clear hK K
          try simp only [Act.put, List.setIfInBounds_toArray, List.set_cons_zero, List.set_cons_succ]
          refine wpAnyH_take (i := 8) (oi := { dst := some 34, op := Go.Op.unOp Go.UnOp.not 4 (Go.Operand.tmp 33), type := 4, pos := "l2_snap.go:36", after := #[{ on := 7, ground := Go.Ground.data }], guard := none }) (v := ?_) rfl (by kernel_rfl) (by kernel_rfl) (by kernel_rfl) (fun _ _ _ h => h) (Or.inl ⟨by rfl, ?hy8⟩) (by assumption) ?_
          case hy8 => ((intro w hSw; (try dsimp only at hSw); go_simp); try with_reducible rfl)
          try simp only [Act.put, List.setIfInBounds_toArray, List.set_cons_zero, List.set_cons_succ]
          refine wpAnyH_take (i := 9) (oi := { dst := some 35, op := Go.Op.move (Go.Operand.tmp 34), type := 4, pos := "l2_snap.go:36", after := #[{ on := 8, ground := Go.Ground.data }, { on := 7, ground := Go.Ground.chain }], guard := none }) (v := ?_) rfl (by kernel_rfl) (by kernel_rfl) (by kernel_rfl) (fun _ _ _ h => h) (Or.inl ⟨by rfl, ?hy9⟩) (by assumption) ?_
          case hy9 => ((intro w hSw; (try dsimp only at hSw); go_simp); try with_reducible rfl)
          try simp only [Act.put, List.setIfInBounds_toArray, List.set_cons_zero, List.set_cons_succ]
          refine wpAnyH_take (i := 10) (oi := { dst := some 36, op := Go.Op.move (Go.Operand.tmp 3), type := 3, pos := "l2_snap.go:36", after := #[{ on := 9, ground := Go.Ground.guard }], guard := some (9, false) }) (v := undef) rfl (by kernel_rfl) (by kernel_rfl) (by kernel_rfl) (fun _ _ _ h => h) (Or.inr ⟨by rfl, rfl⟩) (by assumption) ?_
          try simp only [Act.put, List.setIfInBounds_toArray, List.set_cons_zero, List.set_cons_succ]
          refine wpAnyH_take (i := 11) (oi := { dst := some 37, op := Go.Op.binOp Go.BinOp.gtr 3 (Go.Operand.tmp 36) (Go.Operand.const (Go.Value.int Go.IntKind.i64 0)) 3, type := 4, pos := "l2_snap.go:36", after := #[{ on := 10, ground := Go.Ground.data }, { on := 9, ground := Go.Ground.guard }], guard := some (9, false) }) (v := undef) rfl (by kernel_rfl) (by kernel_rfl) (by kernel_rfl) (fun _ _ _ h => h) (Or.inr ⟨by rfl, rfl⟩) (by assumption) ?_
          try simp only [Act.put, List.setIfInBounds_toArray, List.set_cons_zero, List.set_cons_succ]
          refine wpAnyH_take (i := 12) (oi := { dst := some 38, op := Go.Op.move (Go.Operand.tmp 37), type := 4, pos := "l2_snap.go:36", after := #[{ on := 11, ground := Go.Ground.data }, { on := 9, ground := Go.Ground.chain }, { on := 9, ground := Go.Ground.guard }], guard := some (9, false) }) (v := undef) rfl (by kernel_rfl) (by kernel_rfl) (by kernel_rfl) (fun _ _ _ h => h) (Or.inr ⟨by rfl, rfl⟩) (by assumption) ?_
          try simp only [Act.put, List.setIfInBounds_toArray, List.set_cons_zero, List.set_cons_succ]
          refine wpAnyH_take (i := 13) (oi := { dst := some 39, op := Go.Op.fieldAddr 39 (Go.Operand.tmp 1) 1, type := 0, pos := "l2_snap.go:36", after := #[{ on := 12, ground := Go.Ground.guard }], guard := some (12, true) }) (v := undef) rfl (by kernel_rfl) (by kernel_rfl) (by kernel_rfl) (fun _ _ _ h => h) (Or.inr ⟨by rfl, rfl⟩) (by assumption) ?_
          try simp only [Act.put, List.setIfInBounds_toArray, List.set_cons_zero, List.set_cons_succ]
          refine wpAnyH_take (i := 14) (oi := { dst := some 40, op := Go.Op.load 37 (Go.Operand.tmp 39), type := 37, pos := "l2_snap.go:36", after := #[{ on := 13, ground := Go.Ground.data }, { on := 12, ground := Go.Ground.guard }], guard := some (12, true) }) (v := undef) rfl (by kernel_rfl) (by kernel_rfl) (by kernel_rfl) (fun _ _ _ h => h) (Or.inr ⟨by rfl, rfl⟩) (by assumption) ?_
          try simp only [Act.put, List.setIfInBounds_toArray, List.set_cons_zero, List.set_cons_succ]
          refine wpAnyH_take (i := 15) (oi := { dst := some 41, op := Go.Op.move (Go.Operand.tmp 3), type := 3, pos := "l2_snap.go:36", after := #[{ on := 12, ground := Go.Ground.guard }], guard := some (12, true) }) (v := undef) rfl (by kernel_rfl) (by kernel_rfl) (by kernel_rfl) (fun _ _ _ h => h) (Or.inr ⟨by rfl, rfl⟩) (by assumption) ?_
          try simp only [Act.put, List.setIfInBounds_toArray, List.set_cons_zero, List.set_cons_succ]
          refine wpAnyH_take (i := 16) (oi := { dst := some 42, op := Go.Op.binOp Go.BinOp.sub 3 (Go.Operand.tmp 41) (Go.Operand.const (Go.Value.int Go.IntKind.i64 1)) 3, type := 3, pos := "l2_snap.go:36", after := #[{ on := 15, ground := Go.Ground.data }, { on := 12, ground := Go.Ground.guard }], guard := some (12, true) }) (v := undef) rfl (by kernel_rfl) (by kernel_rfl) (by kernel_rfl) (fun _ _ _ h => h) (Or.inr ⟨by rfl, rfl⟩) (by assumption) ?_
          try simp only [Act.put, List.setIfInBounds_toArray, List.set_cons_zero, List.set_cons_succ]
          refine wpAnyH_take (i := 17) (oi := { dst := some 43, op := Go.Op.indexAddr 37 (Go.Operand.tmp 40) (Go.Operand.tmp 42), type := 0, pos := "l2_snap.go:36", after := #[{ on := 14, ground := Go.Ground.data }, { on := 16, ground := Go.Ground.data }, { on := 12, ground := Go.Ground.guard }], guard := some (12, true) }) (v := undef) rfl (by kernel_rfl) (by kernel_rfl) (by kernel_rfl) (fun _ _ _ h => h) (Or.inr ⟨by rfl, rfl⟩) (by assumption) ?_
          try simp only [Act.put, List.setIfInBounds_toArray, List.set_cons_zero, List.set_cons_succ]
          refine wpAnyH_take (i := 18) (oi := { dst := some 44, op := Go.Op.load 77 (Go.Operand.tmp 43), type := 77, pos := "l2_snap.go:36", after := #[{ on := 17, ground := Go.Ground.data }, { on := 12, ground := Go.Ground.guard }], guard := some (12, true) }) (v := undef) rfl (by kernel_rfl) (by kernel_rfl) (by kernel_rfl) (fun _ _ _ h => h) (Or.inr ⟨by rfl, rfl⟩) (by assumption) ?_
          try simp only [Act.put, List.setIfInBounds_toArray, List.set_cons_zero, List.set_cons_succ]
          refine wpAnyH_take (i := 19) (oi := { dst := some 45, op := Go.Op.fieldAddr 39 (Go.Operand.tmp 1) 1, type := 0, pos := "l2_snap.go:36", after := #[{ on := 12, ground := Go.Ground.guard }], guard := some (12, true) }) (v := undef) rfl (by kernel_rfl) (by kernel_rfl) (by kernel_rfl) (fun _ _ _ h => h) (Or.inr ⟨by rfl, rfl⟩) (by assumption) ?_
          try simp only [Act.put, List.setIfInBounds_toArray, List.set_cons_zero, List.set_cons_succ]
          refine wpAnyH_take (i := 20) (oi := { dst := some 46, op := Go.Op.load 37 (Go.Operand.tmp 45), type := 37, pos := "l2_snap.go:36", after := #[{ on := 19, ground := Go.Ground.data }, { on := 12, ground := Go.Ground.guard }], guard := some (12, true) }) (v := undef) rfl (by kernel_rfl) (by kernel_rfl) (by kernel_rfl) (fun _ _ _ h => h) (Or.inr ⟨by rfl, rfl⟩) (by assumption) ?_
          try simp only [Act.put, List.setIfInBounds_toArray, List.set_cons_zero, List.set_cons_succ]
          refine wpAnyH_take (i := 21) (oi := { dst := some 47, op := Go.Op.move (Go.Operand.tmp 3), type := 3, pos := "l2_snap.go:36", after := #[{ on := 12, ground := Go.Ground.guard }], guard := some (12, true) }) (v := undef) rfl (by kernel_rfl) (by kernel_rfl) (by kernel_rfl) (fun _ _ _ h => h) (Or.inr ⟨by rfl, rfl⟩) (by assumption) ?_
          try simp only [Act.put, List.setIfInBounds_toArray, List.set_cons_zero, List.set_cons_succ]
          refine wpAnyH_take (i := 22) (oi := { dst := some 48, op := Go.Op.indexAddr 37 (Go.Operand.tmp 46) (Go.Operand.tmp 47), type := 0, pos := "l2_snap.go:36", after := #[{ on := 20, ground := Go.Ground.data }, { on := 21, ground := Go.Ground.data }, { on := 12, ground := Go.Ground.guard }], guard := some (12, true) }) (v := undef) rfl (by kernel_rfl) (by kernel_rfl) (by kernel_rfl) (fun _ _ _ h => h) (Or.inr ⟨by rfl, rfl⟩) (by assumption) ?_
          try simp only [Act.put, List.setIfInBounds_toArray, List.set_cons_zero, List.set_cons_succ]
          refine wpAnyH_take (i := 23) (oi := { dst := some 49, op := Go.Op.load 77 (Go.Operand.tmp 48), type := 77, pos := "l2_snap.go:36", after := #[{ on := 22, ground := Go.Ground.data }, { on := 12, ground := Go.Ground.guard }], guard := some (12, true) }) (v := undef) rfl (by kernel_rfl) (by kernel_rfl) (by kernel_rfl) (fun _ _ _ h => h) (Or.inr ⟨by rfl, rfl⟩) (by assumption) ?_
          try simp only [Act.put, List.setIfInBounds_toArray, List.set_cons_zero, List.set_cons_succ]
          refine wpAnyH_take (i := 24) (oi := { dst := some 50, op := Go.Op.call { callee := Go.Callee.value (Go.Operand.func 89), args := #[Go.Operand.tmp 44, Go.Operand.tmp 49], argTypes := #[77, 77] }, type := 4, pos := "l2_snap.go:36", after := #[{ on := 18, ground := Go.Ground.data }, { on := 23, ground := Go.Ground.data }, { on := 12, ground := Go.Ground.chain }, { on := 12, ground := Go.Ground.guard }], guard := some (12, true) }) (v := undef) rfl (by kernel_rfl) (by kernel_rfl) (by kernel_rfl) (fun _ _ _ h => h) (Or.inr ⟨by rfl, rfl⟩) (by assumption) ?_
          try simp only [Act.put, List.setIfInBounds_toArray, List.set_cons_zero, List.set_cons_succ]
          refine wpAnyH_take (i := 25) (oi := { dst := some 51, op := Go.Op.unOp Go.UnOp.not 4 (Go.Operand.tmp 50), type := 4, pos := "l2_snap.go:36", after := #[{ on := 24, ground := Go.Ground.data }, { on := 12, ground := Go.Ground.guard }], guard := some (12, true) }) (v := undef) rfl (by kernel_rfl) (by kernel_rfl) (by kernel_rfl) (fun _ _ _ h => h) (Or.inr ⟨by rfl, rfl⟩) (by assumption) ?_
          try simp only [Act.put, List.setIfInBounds_toArray, List.set_cons_zero, List.set_cons_succ]
          refine wpAnyH_take (i := 26) (oi := { dst := some 52, op := Go.Op.pick (Go.Operand.tmp 38) (Go.Operand.tmp 51) (Go.Operand.const (Go.Value.bool false)), type := 4, pos := "l2_snap.go:36", after := #[{ on := 12, ground := Go.Ground.data }, { on := 25, ground := Go.Ground.data }, { on := 9, ground := Go.Ground.guard }], guard := some (9, false) }) (v := undef) rfl (by kernel_rfl) (by kernel_rfl) (by kernel_rfl) (fun _ _ _ h => h) (Or.inr ⟨by rfl, rfl⟩) (by assumption) ?_
          try simp only [Act.put, List.setIfInBounds_toArray, List.set_cons_zero, List.set_cons_succ]
          refine wpAnyH_take (i := 27) (oi := { dst := some 53, op := Go.Op.pick (Go.Operand.tmp 35) (Go.Operand.const (Go.Value.bool true)) (Go.Operand.tmp 52), type := 4, pos := "l2_snap.go:36", after := #[{ on := 9, ground := Go.Ground.data }, { on := 26, ground := Go.Ground.data }], guard := none }) (v := ?_) rfl (by kernel_rfl) (by kernel_rfl) (by kernel_rfl) (fun _ _ _ h => h) (Or.inl ⟨by rfl, ?hy27⟩) (by assumption) ?_
          case hy27 => ((intro w hSw; (try dsimp only at hSw); go_simp); try with_reducible rfl)
          try simp only [Act.put, List.setIfInBounds_toArray, List.set_cons_zero, List.set_cons_succ]
          refine wpAnyH_done (by kernel_rfl) ?_ _
          go_wp2_with fail
          go_ret
          exact ⟨retBool HF.out.symm, bel_trans hbw hbW⟩
        · rw [hv] at C1
          have HE := Lib.hid (he.step HX.out hv)
          have HV := Lib.hid hv
          clear hv
          by_cases hi : 0 < i
          · obtain ⟨g0, g1, g2, g3, hy, d0, d1, d2, d3⟩ := atVer (HR.out.keep hbw) (show i - 1 < n by omega)
            have HY := Lib.hid hy
            clear hy
            have hi' : (0 : Int) < (i : Int) := by omega
            have hpi : ((i - 1 : Nat) : Int) = (i : Int) - 1 := by omega
            have hpn : ((i : Int) - 1).toNat = i - 1 := by omega
            have hp0 : (0 : Int) ≤ (i : Int) - 1 := by omega
            have hp1 : (i : Int) - 1 < (n : Int) := by omega
            have hp2 : (1 : Int) ≤ (i : Int) := by omega
            have hpw : IntKind.i64.wrap ((i : Int) - 1) = (i : Int) - 1 := IntWalk.i64_in _ (by omega)
            have HC2 : Hid (∀ W, Below wr.heap.size wr W → (W.cell? ⟨w.heap.size, 0, none⟩ = some (.int .i64 now) ∧ W.cell? ⟨w.heap.size, 1, none⟩ = some (.slice (some ⟨b, off, none⟩) n c)) ∧ (W.cell? ⟨b, off + i * 4, none⟩ = some (.string f0) ∧ W.cell? ⟨b, off + i * 4 + 1, none⟩ = some (.int .i64 f1) ∧ W.cell? ⟨b, off + i * 4 + 2, none⟩ = some (.int .i64 f2) ∧ W.cell? ⟨b, off + i * 4 + 3, none⟩ = some (.int .i64 f3))) :=
              Lib.hid fun W hW => ⟨⟨(hW.cell (p := ⟨w.heap.size, 0, none⟩) (by simp only; omega)).trans p0, (hW.cell (p := ⟨w.heap.size, 1, none⟩) (by simp only; omega)).trans p1⟩, (hW.cell (p := ⟨b, off + i * 4, none⟩) (by simp only; omega)).trans e0, (hW.cell (p := ⟨b, off + i * 4 + 1, none⟩) (by simp only; omega)).trans e1, (hW.cell (p := ⟨b, off + i * 4 + 2, none⟩) (by simp only; omega)).trans e2, (hW.cell (p := ⟨b, off + i * 4 + 3, none⟩) (by simp only; omega)).trans e3⟩
            have HC4 : Hid (∀ W, Below wr.heap.size wr W → (W.cell? ⟨b, off + (i - 1) * 4, none⟩ = some (.string g0) ∧ W.cell? ⟨b, off + (i - 1) * 4 + 1, none⟩ = some (.int .i64 g1) ∧ W.cell? ⟨b, off + (i - 1) * 4 + 2, none⟩ = some (.int .i64 g2) ∧ W.cell? ⟨b, off + (i - 1) * 4 + 3, none⟩ = some (.int .i64 g3))) :=
              Lib.hid fun W hW => ⟨(hW.cell (p := ⟨b, off + (i - 1) * 4, none⟩) (by simp only; omega)).trans d0, (hW.cell (p := ⟨b, off + (i - 1) * 4 + 1, none⟩) (by simp only; omega)).trans d1, (hW.cell (p := ⟨b, off + (i - 1) * 4 + 2, none⟩) (by simp only; omega)).trans d2, (hW.cell (p := ⟨b, off + (i - 1) * 4 + 3, none⟩) (by simp only; omega)).trans d3⟩
            have C2 : Hid (∀ W, Calls Try.prog 89 #[.agg #[.string g0, .int .i64 g1, .int .i64 g2, .int .i64 g3], .agg #[.string f0, .int .i64 f1, .int .i64 f2, .int .i64 f3]] W fun e w' => e = .returned (.bool (ahead (g0, g1, g2, g3) (f0, f1, f2, f3))) ∧ Below W.heap.size W w') := Lib.hid fun W => specAhead g0 g1 g2 g3 f0 f1 f2 f3 W
            cases hq : ahead (g0, g1, g2, g3) (f0, f1, f2, f3)
            · have HF := Lib.hid (versOk_ahead (now := now) (not_ahead hi HY.out HX.out hq))
              rw [hq] at C2
              clear hq
              go_wp2_with fail
              refine wp_region_held_drew (S := (fun W' => ((W'.cell? ⟨w.heap.size, 0, none⟩ = some (.int .i64 now) ∧ W'.cell? ⟨w.heap.size, 1, none⟩ = some (.slice (some ⟨b, off, none⟩) n c)) ∧ (W'.cell? ⟨b, off + i * 4, none⟩ = some (.string f0) ∧ W'.cell? ⟨b, off + i * 4 + 1, none⟩ = some (.int .i64 f1) ∧ W'.cell? ⟨b, off + i * 4 + 2, none⟩ = some (.int .i64 f2) ∧ W'.cell? ⟨b, off + i * 4 + 3, none⟩ = some (.int .i64 f3))) ∧ (W'.cell? ⟨b, off + (i - 1) * 4, none⟩ = some (.string g0) ∧ W'.cell? ⟨b, off + (i - 1) * 4 + 1, none⟩ = some (.int .i64 g1) ∧ W'.cell? ⟨b, off + (i - 1) * 4 + 2, none⟩ = some (.int .i64 g2) ∧ W'.cell? ⟨b, off + (i - 1) * 4 + 3, none⟩ = some (.int .i64 g3)) ∧ Below wr.heap.size wr W')) (by kernel_rfl) ⟨HC2.out _ (Below.refl _ _).drew, HC4.out _ (Below.refl _ _).drew, (Below.refl _ _).drew⟩ (fun hHeld => ?_)
              refine wpAnyH_take (i := 0) (oi := { dst := some 26, op := Go.Op.fieldAddr 39 (Go.Operand.tmp 1) 1, type := 0, pos := "l2_snap.go:36", after := #[], guard := none }) (v := ?_) rfl (by kernel_rfl) (by kernel_rfl) (by kernel_rfl) (fun _ _ _ h => h) (Or.inl ⟨by rfl, ?hy0⟩) (by assumption) ?_
              case hy0 => ((intro w hSw; (try dsimp only at hSw); go_simp); try with_reducible rfl)
              try simp only [Act.put, List.setIfInBounds_toArray, List.set_cons_zero, List.set_cons_succ]
              refine wpAnyH_take (i := 1) (oi := { dst := some 27, op := Go.Op.load 37 (Go.Operand.tmp 26), type := 37, pos := "l2_snap.go:36", after := #[{ on := 0, ground := Go.Ground.data }], guard := none }) (v := ?_) rfl (by kernel_rfl) (by kernel_rfl) (by kernel_rfl) (fun _ _ _ h => h) (Or.inl ⟨by rfl, ?hy1⟩) (by assumption) ?_
              case hy1 => ((intro w hSw; (try dsimp only at hSw); go_simp); try with_reducible rfl)
              try simp only [Act.put, List.setIfInBounds_toArray, List.set_cons_zero, List.set_cons_succ]
              refine wpAnyH_take (i := 2) (oi := { dst := some 28, op := Go.Op.move (Go.Operand.tmp 3), type := 3, pos := "l2_snap.go:36", after := #[], guard := none }) (v := ?_) rfl (by kernel_rfl) (by kernel_rfl) (by kernel_rfl) (fun _ _ _ h => h) (Or.inl ⟨by rfl, ?hy2⟩) (by assumption) ?_
              case hy2 => ((intro w hSw; (try dsimp only at hSw); go_simp); try with_reducible rfl)
              try simp only [Act.put, List.setIfInBounds_toArray, List.set_cons_zero, List.set_cons_succ]
              refine wpAnyH_take (i := 3) (oi := { dst := some 29, op := Go.Op.indexAddr 37 (Go.Operand.tmp 27) (Go.Operand.tmp 28), type := 0, pos := "l2_snap.go:36", after := #[{ on := 1, ground := Go.Ground.data }, { on := 2, ground := Go.Ground.data }], guard := none }) (v := ?_) rfl (by kernel_rfl) (by kernel_rfl) (by kernel_rfl) (fun _ _ _ h => h) (Or.inl ⟨by rfl, ?hy3⟩) (by assumption) ?_
              case hy3 => ((intro w hSw; (try dsimp only at hSw); go_simp); try with_reducible rfl)
              try simp only [Act.put, List.setIfInBounds_toArray, List.set_cons_zero, List.set_cons_succ]
              refine wpAnyH_take (i := 4) (oi := { dst := some 30, op := Go.Op.load 77 (Go.Operand.tmp 29), type := 77, pos := "l2_snap.go:36", after := #[{ on := 3, ground := Go.Ground.data }], guard := none }) (v := ?_) rfl (by kernel_rfl) (by kernel_rfl) (by kernel_rfl) (fun _ _ _ h => h) (Or.inl ⟨by rfl, ?hy4⟩) (by assumption) ?_
              case hy4 => ((intro w hSw; (try dsimp only at hSw); go_simp); try with_reducible rfl)
              try simp only [Act.put, List.setIfInBounds_toArray, List.set_cons_zero, List.set_cons_succ]
              refine wpAnyH_take (i := 5) (oi := { dst := some 31, op := Go.Op.fieldAddr 39 (Go.Operand.tmp 1) 0, type := 0, pos := "l2_snap.go:36", after := #[], guard := none }) (v := ?_) rfl (by kernel_rfl) (by kernel_rfl) (by kernel_rfl) (fun _ _ _ h => h) (Or.inl ⟨by rfl, ?hy5⟩) (by assumption) ?_
              case hy5 => ((intro w hSw; (try dsimp only at hSw); go_simp); try with_reducible rfl)
              try simp only [Act.put, List.setIfInBounds_toArray, List.set_cons_zero, List.set_cons_succ]
              refine wpAnyH_take (i := 6) (oi := { dst := some 32, op := Go.Op.load 3 (Go.Operand.tmp 31), type := 3, pos := "l2_snap.go:36", after := #[{ on := 5, ground := Go.Ground.data }], guard := none }) (v := ?_) rfl (by kernel_rfl) (by kernel_rfl) (by kernel_rfl) (fun _ _ _ h => h) (Or.inl ⟨by rfl, ?hy6⟩) (by assumption) ?_
              case hy6 => ((intro w hSw; (try dsimp only at hSw); go_simp); try with_reducible rfl)
              try simp only [Act.put, List.setIfInBounds_toArray, List.set_cons_zero, List.set_cons_succ]
              refine wpAnyH_ready (rs := [7]) (by kernel_rfl) (by simp) ?_
              refine AllReadyH.cons (o := { dst := some 33, op := Go.Op.call { callee := Go.Callee.value (Go.Operand.func 88), args := #[Go.Operand.tmp 30, Go.Operand.tmp 32], argTypes := #[77, 3] }, type := 4, pos := "l2_snap.go:36", after := #[{ on := 4, ground := Go.Ground.data }, { on := 6, ground := Go.Ground.data }], guard := none }) rfl (fun K hK => ?_) AllReadyH.nil
              go_simp
              refine (C1.out _).mono ?_
              rintro e W ⟨rfl, hbW'⟩
              have hbW := bel_trans ((Below.refl wr.heap.size wr).drew) hbW'
              go_wp2_with fail
              refine hK.out _ _ ⟨HC2.out _ hbW, HC4.out _ hbW, hbW⟩ (fun hHeld => ?_)
              clear hK K
              try simp only [Act.put, List.setIfInBounds_toArray, List.set_cons_zero, List.set_cons_succ]
              refine wpAnyH_take (i := 8) (oi := { dst := some 34, op := Go.Op.unOp Go.UnOp.not 4 (Go.Operand.tmp 33), type := 4, pos := "l2_snap.go:36", after := #[{ on := 7, ground := Go.Ground.data }], guard := none }) (v := ?_) rfl (by kernel_rfl) (by kernel_rfl) (by kernel_rfl) (fun _ _ _ h => h) (Or.inl ⟨by rfl, ?hy8⟩) (by assumption) ?_
              case hy8 => ((intro w hSw; (try dsimp only at hSw); go_simp); try with_reducible rfl)
              try simp only [Act.put, List.setIfInBounds_toArray, List.set_cons_zero, List.set_cons_succ]
              refine wpAnyH_take (i := 9) (oi := { dst := some 35, op := Go.Op.move (Go.Operand.tmp 34), type := 4, pos := "l2_snap.go:36", after := #[{ on := 8, ground := Go.Ground.data }, { on := 7, ground := Go.Ground.chain }], guard := none }) (v := ?_) rfl (by kernel_rfl) (by kernel_rfl) (by kernel_rfl) (fun _ _ _ h => h) (Or.inl ⟨by rfl, ?hy9⟩) (by assumption) ?_
              case hy9 => ((intro w hSw; (try dsimp only at hSw); go_simp); try with_reducible rfl)
              try simp only [Act.put, List.setIfInBounds_toArray, List.set_cons_zero, List.set_cons_succ]
              refine wpAnyH_take (i := 10) (oi := { dst := some 36, op := Go.Op.move (Go.Operand.tmp 3), type := 3, pos := "l2_snap.go:36", after := #[{ on := 9, ground := Go.Ground.guard }], guard := some (9, false) }) (v := ?_) rfl (by kernel_rfl) (by kernel_rfl) (by kernel_rfl) (fun _ _ _ h => h) (Or.inl ⟨by rfl, ?hy10⟩) (by assumption) ?_
              case hy10 => ((intro w hSw; (try dsimp only at hSw); go_simp); try with_reducible rfl)
              try simp only [Act.put, List.setIfInBounds_toArray, List.set_cons_zero, List.set_cons_succ]
              refine wpAnyH_take (i := 11) (oi := { dst := some 37, op := Go.Op.binOp Go.BinOp.gtr 3 (Go.Operand.tmp 36) (Go.Operand.const (Go.Value.int Go.IntKind.i64 0)) 3, type := 4, pos := "l2_snap.go:36", after := #[{ on := 10, ground := Go.Ground.data }, { on := 9, ground := Go.Ground.guard }], guard := some (9, false) }) (v := ?_) rfl (by kernel_rfl) (by kernel_rfl) (by kernel_rfl) (fun _ _ _ h => h) (Or.inl ⟨by rfl, ?hy11⟩) (by assumption) ?_
              case hy11 => ((intro w hSw; (try dsimp only at hSw); go_simp); try with_reducible rfl)
              try simp only [Act.put, List.setIfInBounds_toArray, List.set_cons_zero, List.set_cons_succ]
              refine wpAnyH_take (i := 12) (oi := { dst := some 38, op := Go.Op.move (Go.Operand.tmp 37), type := 4, pos := "l2_snap.go:36", after := #[{ on := 11, ground := Go.Ground.data }, { on := 9, ground := Go.Ground.chain }, { on := 9, ground := Go.Ground.guard }], guard := some (9, false) }) (v := ?_) rfl (by kernel_rfl) (by kernel_rfl) (by kernel_rfl) (fun _ _ _ h => h) (Or.inl ⟨by rfl, ?hy12⟩) (by assumption) ?_
              case hy12 => ((intro w hSw; (try dsimp only at hSw); go_simp); try with_reducible rfl)
              try simp only [Act.put, List.setIfInBounds_toArray, List.set_cons_zero, List.set_cons_succ]
              refine wpAnyH_take (i := 13) (oi := { dst := some 39, op := Go.Op.fieldAddr 39 (Go.Operand.tmp 1) 1, type := 0, pos := "l2_snap.go:36", after := #[{ on := 12, ground := Go.Ground.guard }], guard := some (12, true) }) (v := ?_) rfl (by kernel_rfl) (by kernel_rfl) (by kernel_rfl) (fun _ _ _ h => h) (Or.inl ⟨by rfl, ?hy13⟩) (by assumption) ?_
              case hy13 => ((intro w hSw; (try dsimp only at hSw); go_simp); try with_reducible rfl)
              try simp only [Act.put, List.setIfInBounds_toArray, List.set_cons_zero, List.set_cons_succ]
              refine wpAnyH_take (i := 14) (oi := { dst := some 40, op := Go.Op.load 37 (Go.Operand.tmp 39), type := 37, pos := "l2_snap.go:36", after := #[{ on := 13, ground := Go.Ground.data }, { on := 12, ground := Go.Ground.guard }], guard := some (12, true) }) (v := ?_) rfl (by kernel_rfl) (by kernel_rfl) (by kernel_rfl) (fun _ _ _ h => h) (Or.inl ⟨by rfl, ?hy14⟩) (by assumption) ?_
              case hy14 => ((intro w hSw; (try dsimp only at hSw); go_simp); try with_reducible rfl)
              try simp only [Act.put, List.setIfInBounds_toArray, List.set_cons_zero, List.set_cons_succ]
              refine wpAnyH_take (i := 15) (oi := { dst := some 41, op := Go.Op.move (Go.Operand.tmp 3), type := 3, pos := "l2_snap.go:36", after := #[{ on := 12, ground := Go.Ground.guard }], guard := some (12, true) }) (v := ?_) rfl (by kernel_rfl) (by kernel_rfl) (by kernel_rfl) (fun _ _ _ h => h) (Or.inl ⟨by rfl, ?hy15⟩) (by assumption) ?_
              case hy15 => ((intro w hSw; (try dsimp only at hSw); go_simp); try with_reducible rfl)
              try simp only [Act.put, List.setIfInBounds_toArray, List.set_cons_zero, List.set_cons_succ]
              refine wpAnyH_take (i := 16) (oi := { dst := some 42, op := Go.Op.binOp Go.BinOp.sub 3 (Go.Operand.tmp 41) (Go.Operand.const (Go.Value.int Go.IntKind.i64 1)) 3, type := 3, pos := "l2_snap.go:36", after := #[{ on := 15, ground := Go.Ground.data }, { on := 12, ground := Go.Ground.guard }], guard := some (12, true) }) (v := ?_) rfl (by kernel_rfl) (by kernel_rfl) (by kernel_rfl) (fun _ _ _ h => h) (Or.inl ⟨by rfl, ?hy16⟩) (by assumption) ?_
              case hy16 => ((intro w hSw; (try dsimp only at hSw); go_simp); try with_reducible rfl)
              try simp only [Act.put, List.setIfInBounds_toArray, List.set_cons_zero, List.set_cons_succ]
              refine wpAnyH_take (i := 17) (oi := { dst := some 43, op := Go.Op.indexAddr 37 (Go.Operand.tmp 40) (Go.Operand.tmp 42), type := 0, pos := "l2_snap.go:36", after := #[{ on := 14, ground := Go.Ground.data }, { on := 16, ground := Go.Ground.data }, { on := 12, ground := Go.Ground.guard }], guard := some (12, true) }) (v := ?_) rfl (by kernel_rfl) (by kernel_rfl) (by kernel_rfl) (fun _ _ _ h => h) (Or.inl ⟨by rfl, ?hy17⟩) (by assumption) ?_
              case hy17 => ((intro w hSw; (try dsimp only at hSw); go_simp); try with_reducible rfl)
              try simp only [Act.put, List.setIfInBounds_toArray, List.set_cons_zero, List.set_cons_succ]
              refine wpAnyH_take (i := 18) (oi := { dst := some 44, op := Go.Op.load 77 (Go.Operand.tmp 43), type := 77, pos := "l2_snap.go:36", after := #[{ on := 17, ground := Go.Ground.data }, { on := 12, ground := Go.Ground.guard }], guard := some (12, true) }) (v := ?_) rfl (by kernel_rfl) (by kernel_rfl) (by kernel_rfl) (fun _ _ _ h => h) (Or.inl ⟨by rfl, ?hy18⟩) (by assumption) ?_
              case hy18 => ((intro w hSw; (try dsimp only at hSw); go_simp); try with_reducible rfl)
              try simp only [Act.put, List.setIfInBounds_toArray, List.set_cons_zero, List.set_cons_succ]
              refine wpAnyH_take (i := 19) (oi := { dst := some 45, op := Go.Op.fieldAddr 39 (Go.Operand.tmp 1) 1, type := 0, pos := "l2_snap.go:36", after := #[{ on := 12, ground := Go.Ground.guard }], guard := some (12, true) }) (v := ?_) rfl (by kernel_rfl) (by kernel_rfl) (by kernel_rfl) (fun _ _ _ h => h) (Or.inl ⟨by rfl, ?hy19⟩) (by assumption) ?_
              case hy19 => ((intro w hSw; (try dsimp only at hSw); go_simp); try with_reducible rfl)
              try simp only [Act.put, List.setIfInBounds_toArray, List.set_cons_zero, List.set_cons_succ]
              refine wpAnyH_take (i := 20) (oi := { dst := some 46, op := Go.Op.load 37 (Go.Operand.tmp 45), type := 37, pos := "l2_snap.go:36", after := #[{ on := 19, ground := Go.Ground.data }, { on := 12, ground := Go.Ground.guard }], guard := some (12, true) }) (v := ?_) rfl (by kernel_rfl) (by kernel_rfl) (by kernel_rfl) (fun _ _ _ h => h) (Or.inl ⟨by rfl, ?hy20⟩) (by assumption) ?_
              case hy20 => ((intro w hSw; (try dsimp only at hSw); go_simp); try with_reducible rfl)
              try simp only [Act.put, List.setIfInBounds_toArray, List.set_cons_zero, List.set_cons_succ]
              refine wpAnyH_take (i := 21) (oi := { dst := some 47, op := Go.Op.move (Go.Operand.tmp 3), type := 3, pos := "l2_snap.go:36", after := #[{ on := 12, ground := Go.Ground.guard }], guard := some (12, true) }) (v := ?_) rfl (by kernel_rfl) (by kernel_rfl) (by kernel_rfl) (fun _ _ _ h => h) (Or.inl ⟨by rfl, ?hy21⟩) (by assumption) ?_
              case hy21 => ((intro w hSw; (try dsimp only at hSw); go_simp); try with_reducible rfl)
              try simp only [Act.put, List.setIfInBounds_toArray, List.set_cons_zero, List.set_cons_succ]
              refine wpAnyH_take (i := 22) (oi := { dst := some 48, op := Go.Op.indexAddr 37 (Go.Operand.tmp 46) (Go.Operand.tmp 47), type := 0, pos := "l2_snap.go:36", after := #[{ on := 20, ground := Go.Ground.data }, { on := 21, ground := Go.Ground.data }, { on := 12, ground := Go.Ground.guard }], guard := some (12, true) }) (v := ?_) rfl (by kernel_rfl) (by kernel_rfl) (by kernel_rfl) (fun _ _ _ h => h) (Or.inl ⟨by rfl, ?hy22⟩) (by assumption) ?_
              case hy22 => ((intro w hSw; (try dsimp only at hSw); go_simp); try with_reducible rfl)
              try simp only [Act.put, List.setIfInBounds_toArray, List.set_cons_zero, List.set_cons_succ]
              refine wpAnyH_take (i := 23) (oi := { dst := some 49, op := Go.Op.load 77 (Go.Operand.tmp 48), type := 77, pos := "l2_snap.go:36", after := #[{ on := 22, ground := Go.Ground.data }, { on := 12, ground := Go.Ground.guard }], guard := some (12, true) }) (v := ?_) rfl (by kernel_rfl) (by kernel_rfl) (by kernel_rfl) (fun _ _ _ h => h) (Or.inl ⟨by rfl, ?hy23⟩) (by assumption) ?_
              case hy23 => ((intro w hSw; (try dsimp only at hSw); go_simp); try with_reducible rfl)
              try simp only [Act.put, List.setIfInBounds_toArray, List.set_cons_zero, List.set_cons_succ]
              refine wpAnyH_ready (rs := [24]) (by kernel_rfl) (by simp) ?_
              refine AllReadyH.cons (o := { dst := some 50, op := Go.Op.call { callee := Go.Callee.value (Go.Operand.func 89), args := #[Go.Operand.tmp 44, Go.Operand.tmp 49], argTypes := #[77, 77] }, type := 4, pos := "l2_snap.go:36", after := #[{ on := 18, ground := Go.Ground.data }, { on := 23, ground := Go.Ground.data }, { on := 12, ground := Go.Ground.chain }, { on := 12, ground := Go.Ground.guard }], guard := some (12, true) }) rfl (fun K hK => ?_) AllReadyH.nil
              go_simp
              refine (C2.out _).mono ?_
              rintro e W2 ⟨rfl, hbX'⟩
              have hbX := bel_trans hbW hbX'
              go_wp2_with fail
              refine hK.out _ _ ⟨HC2.out _ hbX, HC4.out _ hbX, hbX⟩ (fun hHeld => ?_)
              clear hK K
              try simp only [Act.put, List.setIfInBounds_toArray, List.set_cons_zero, List.set_cons_succ]
              refine wpAnyH_take (i := 25) (oi := { dst := some 51, op := Go.Op.unOp Go.UnOp.not 4 (Go.Operand.tmp 50), type := 4, pos := "l2_snap.go:36", after := #[{ on := 24, ground := Go.Ground.data }, { on := 12, ground := Go.Ground.guard }], guard := some (12, true) }) (v := ?_) rfl (by kernel_rfl) (by kernel_rfl) (by kernel_rfl) (fun _ _ _ h => h) (Or.inl ⟨by rfl, ?hy25⟩) (by assumption) ?_
              case hy25 => ((intro w hSw; (try dsimp only at hSw); go_simp); try with_reducible rfl)
              try simp only [Act.put, List.setIfInBounds_toArray, List.set_cons_zero, List.set_cons_succ]
              refine wpAnyH_take (i := 26) (oi := { dst := some 52, op := Go.Op.pick (Go.Operand.tmp 38) (Go.Operand.tmp 51) (Go.Operand.const (Go.Value.bool false)), type := 4, pos := "l2_snap.go:36", after := #[{ on := 12, ground := Go.Ground.data }, { on := 25, ground := Go.Ground.data }, { on := 9, ground := Go.Ground.guard }], guard := some (9, false) }) (v := ?_) rfl (by kernel_rfl) (by kernel_rfl) (by kernel_rfl) (fun _ _ _ h => h) (Or.inl ⟨by rfl, ?hy26⟩) (by assumption) ?_
              case hy26 => ((intro w hSw; (try dsimp only at hSw); go_simp); try with_reducible rfl)
              try simp only [Act.put, List.setIfInBounds_toArray, List.set_cons_zero, List.set_cons_succ]
              refine wpAnyH_take (i := 27) (oi := { dst := some 53, op := Go.Op.pick (Go.Operand.tmp 35) (Go.Operand.const (Go.Value.bool true)) (Go.Operand.tmp 52), type := 4, pos := "l2_snap.go:36", after := #[{ on := 9, ground := Go.Ground.data }, { on := 26, ground := Go.Ground.data }], guard := none }) (v := ?_) rfl (by kernel_rfl) (by kernel_rfl) (by kernel_rfl) (fun _ _ _ h => h) (Or.inl ⟨by rfl, ?hy27⟩) (by assumption) ?_
              case hy27 => ((intro w hSw; (try dsimp only at hSw); go_simp); try with_reducible rfl)
              try simp only [Act.put, List.setIfInBounds_toArray, List.set_cons_zero, List.set_cons_succ]
              refine wpAnyH_done (by kernel_rfl) ?_ _
              go_wp2_with fail
              go_ret
              exact ⟨retBool HF.out.symm, bel_trans hbw hbX⟩
            · have HA := Lib.hid (ha.step hi HY.out HX.out hq)
              rw [hq] at C2
              clear hq
              go_wp2_with fail
              refine wp_region_held_drew (S := (fun W' => ((W'.cell? ⟨w.heap.size, 0, none⟩ = some (.int .i64 now) ∧ W'.cell? ⟨w.heap.size, 1, none⟩ = some (.slice (some ⟨b, off, none⟩) n c)) ∧ (W'.cell? ⟨b, off + i * 4, none⟩ = some (.string f0) ∧ W'.cell? ⟨b, off + i * 4 + 1, none⟩ = some (.int .i64 f1) ∧ W'.cell? ⟨b, off + i * 4 + 2, none⟩ = some (.int .i64 f2) ∧ W'.cell? ⟨b, off + i * 4 + 3, none⟩ = some (.int .i64 f3))) ∧ (W'.cell? ⟨b, off + (i - 1) * 4, none⟩ = some (.string g0) ∧ W'.cell? ⟨b, off + (i - 1) * 4 + 1, none⟩ = some (.int .i64 g1) ∧ W'.cell? ⟨b, off + (i - 1) * 4 + 2, none⟩ = some (.int .i64 g2) ∧ W'.cell? ⟨b, off + (i - 1) * 4 + 3, none⟩ = some (.int .i64 g3)) ∧ Below wr.heap.size wr W')) (by kernel_rfl) ⟨HC2.out _ (Below.refl _ _).drew, HC4.out _ (Below.refl _ _).drew, (Below.refl _ _).drew⟩ (fun hHeld => ?_)
              refine wpAnyH_take (i := 0) (oi := { dst := some 26, op := Go.Op.fieldAddr 39 (Go.Operand.tmp 1) 1, type := 0, pos := "l2_snap.go:36", after := #[], guard := none }) (v := ?_) rfl (by kernel_rfl) (by kernel_rfl) (by kernel_rfl) (fun _ _ _ h => h) (Or.inl ⟨by rfl, ?hy0⟩) (by assumption) ?_
              case hy0 => ((intro w hSw; (try dsimp only at hSw); go_simp); try with_reducible rfl)
              try simp only [Act.put, List.setIfInBounds_toArray, List.set_cons_zero, List.set_cons_succ]
              refine wpAnyH_take (i := 1) (oi := { dst := some 27, op := Go.Op.load 37 (Go.Operand.tmp 26), type := 37, pos := "l2_snap.go:36", after := #[{ on := 0, ground := Go.Ground.data }], guard := none }) (v := ?_) rfl (by kernel_rfl) (by kernel_rfl) (by kernel_rfl) (fun _ _ _ h => h) (Or.inl ⟨by rfl, ?hy1⟩) (by assumption) ?_
              case hy1 => ((intro w hSw; (try dsimp only at hSw); go_simp); try with_reducible rfl)
              try simp only [Act.put, List.setIfInBounds_toArray, List.set_cons_zero, List.set_cons_succ]
              refine wpAnyH_take (i := 2) (oi := { dst := some 28, op := Go.Op.move (Go.Operand.tmp 3), type := 3, pos := "l2_snap.go:36", after := #[], guard := none }) (v := ?_) rfl (by kernel_rfl) (by kernel_rfl) (by kernel_rfl) (fun _ _ _ h => h) (Or.inl ⟨by rfl, ?hy2⟩) (by assumption) ?_
              case hy2 => ((intro w hSw; (try dsimp only at hSw); go_simp); try with_reducible rfl)
              try simp only [Act.put, List.setIfInBounds_toArray, List.set_cons_zero, List.set_cons_succ]
              refine wpAnyH_take (i := 3) (oi := { dst := some 29, op := Go.Op.indexAddr 37 (Go.Operand.tmp 27) (Go.Operand.tmp 28), type := 0, pos := "l2_snap.go:36", after := #[{ on := 1, ground := Go.Ground.data }, { on := 2, ground := Go.Ground.data }], guard := none }) (v := ?_) rfl (by kernel_rfl) (by kernel_rfl) (by kernel_rfl) (fun _ _ _ h => h) (Or.inl ⟨by rfl, ?hy3⟩) (by assumption) ?_
              case hy3 => ((intro w hSw; (try dsimp only at hSw); go_simp); try with_reducible rfl)
              try simp only [Act.put, List.setIfInBounds_toArray, List.set_cons_zero, List.set_cons_succ]
              refine wpAnyH_take (i := 4) (oi := { dst := some 30, op := Go.Op.load 77 (Go.Operand.tmp 29), type := 77, pos := "l2_snap.go:36", after := #[{ on := 3, ground := Go.Ground.data }], guard := none }) (v := ?_) rfl (by kernel_rfl) (by kernel_rfl) (by kernel_rfl) (fun _ _ _ h => h) (Or.inl ⟨by rfl, ?hy4⟩) (by assumption) ?_
              case hy4 => ((intro w hSw; (try dsimp only at hSw); go_simp); try with_reducible rfl)
              try simp only [Act.put, List.setIfInBounds_toArray, List.set_cons_zero, List.set_cons_succ]
              refine wpAnyH_take (i := 5) (oi := { dst := some 31, op := Go.Op.fieldAddr 39 (Go.Operand.tmp 1) 0, type := 0, pos := "l2_snap.go:36", after := #[], guard := none }) (v := ?_) rfl (by kernel_rfl) (by kernel_rfl) (by kernel_rfl) (fun _ _ _ h => h) (Or.inl ⟨by rfl, ?hy5⟩) (by assumption) ?_
              case hy5 => ((intro w hSw; (try dsimp only at hSw); go_simp); try with_reducible rfl)
              try simp only [Act.put, List.setIfInBounds_toArray, List.set_cons_zero, List.set_cons_succ]
              refine wpAnyH_take (i := 6) (oi := { dst := some 32, op := Go.Op.load 3 (Go.Operand.tmp 31), type := 3, pos := "l2_snap.go:36", after := #[{ on := 5, ground := Go.Ground.data }], guard := none }) (v := ?_) rfl (by kernel_rfl) (by kernel_rfl) (by kernel_rfl) (fun _ _ _ h => h) (Or.inl ⟨by rfl, ?hy6⟩) (by assumption) ?_
              case hy6 => ((intro w hSw; (try dsimp only at hSw); go_simp); try with_reducible rfl)
              try simp only [Act.put, List.setIfInBounds_toArray, List.set_cons_zero, List.set_cons_succ]
              refine wpAnyH_ready (rs := [7]) (by kernel_rfl) (by simp) ?_
              refine AllReadyH.cons (o := { dst := some 33, op := Go.Op.call { callee := Go.Callee.value (Go.Operand.func 88), args := #[Go.Operand.tmp 30, Go.Operand.tmp 32], argTypes := #[77, 3] }, type := 4, pos := "l2_snap.go:36", after := #[{ on := 4, ground := Go.Ground.data }, { on := 6, ground := Go.Ground.data }], guard := none }) rfl (fun K hK => ?_) AllReadyH.nil
              go_simp
              refine (C1.out _).mono ?_
              rintro e W ⟨rfl, hbW'⟩
              have hbW := bel_trans ((Below.refl wr.heap.size wr).drew) hbW'
              go_wp2_with fail
              refine hK.out _ _ ⟨HC2.out _ hbW, HC4.out _ hbW, hbW⟩ (fun hHeld => ?_)
              clear hK K
              try simp only [Act.put, List.setIfInBounds_toArray, List.set_cons_zero, List.set_cons_succ]
              refine wpAnyH_take (i := 8) (oi := { dst := some 34, op := Go.Op.unOp Go.UnOp.not 4 (Go.Operand.tmp 33), type := 4, pos := "l2_snap.go:36", after := #[{ on := 7, ground := Go.Ground.data }], guard := none }) (v := ?_) rfl (by kernel_rfl) (by kernel_rfl) (by kernel_rfl) (fun _ _ _ h => h) (Or.inl ⟨by rfl, ?hy8⟩) (by assumption) ?_
              case hy8 => ((intro w hSw; (try dsimp only at hSw); go_simp); try with_reducible rfl)
              try simp only [Act.put, List.setIfInBounds_toArray, List.set_cons_zero, List.set_cons_succ]
              refine wpAnyH_take (i := 9) (oi := { dst := some 35, op := Go.Op.move (Go.Operand.tmp 34), type := 4, pos := "l2_snap.go:36", after := #[{ on := 8, ground := Go.Ground.data }, { on := 7, ground := Go.Ground.chain }], guard := none }) (v := ?_) rfl (by kernel_rfl) (by kernel_rfl) (by kernel_rfl) (fun _ _ _ h => h) (Or.inl ⟨by rfl, ?hy9⟩) (by assumption) ?_
              case hy9 => ((intro w hSw; (try dsimp only at hSw); go_simp); try with_reducible rfl)
              try simp only [Act.put, List.setIfInBounds_toArray, List.set_cons_zero, List.set_cons_succ]
              refine wpAnyH_take (i := 10) (oi := { dst := some 36, op := Go.Op.move (Go.Operand.tmp 3), type := 3, pos := "l2_snap.go:36", after := #[{ on := 9, ground := Go.Ground.guard }], guard := some (9, false) }) (v := ?_) rfl (by kernel_rfl) (by kernel_rfl) (by kernel_rfl) (fun _ _ _ h => h) (Or.inl ⟨by rfl, ?hy10⟩) (by assumption) ?_
              case hy10 => ((intro w hSw; (try dsimp only at hSw); go_simp); try with_reducible rfl)
              try simp only [Act.put, List.setIfInBounds_toArray, List.set_cons_zero, List.set_cons_succ]
              refine wpAnyH_take (i := 11) (oi := { dst := some 37, op := Go.Op.binOp Go.BinOp.gtr 3 (Go.Operand.tmp 36) (Go.Operand.const (Go.Value.int Go.IntKind.i64 0)) 3, type := 4, pos := "l2_snap.go:36", after := #[{ on := 10, ground := Go.Ground.data }, { on := 9, ground := Go.Ground.guard }], guard := some (9, false) }) (v := ?_) rfl (by kernel_rfl) (by kernel_rfl) (by kernel_rfl) (fun _ _ _ h => h) (Or.inl ⟨by rfl, ?hy11⟩) (by assumption) ?_
              case hy11 => ((intro w hSw; (try dsimp only at hSw); go_simp); try with_reducible rfl)
              try simp only [Act.put, List.setIfInBounds_toArray, List.set_cons_zero, List.set_cons_succ]
              refine wpAnyH_take (i := 12) (oi := { dst := some 38, op := Go.Op.move (Go.Operand.tmp 37), type := 4, pos := "l2_snap.go:36", after := #[{ on := 11, ground := Go.Ground.data }, { on := 9, ground := Go.Ground.chain }, { on := 9, ground := Go.Ground.guard }], guard := some (9, false) }) (v := ?_) rfl (by kernel_rfl) (by kernel_rfl) (by kernel_rfl) (fun _ _ _ h => h) (Or.inl ⟨by rfl, ?hy12⟩) (by assumption) ?_
              case hy12 => ((intro w hSw; (try dsimp only at hSw); go_simp); try with_reducible rfl)
              try simp only [Act.put, List.setIfInBounds_toArray, List.set_cons_zero, List.set_cons_succ]
              refine wpAnyH_take (i := 13) (oi := { dst := some 39, op := Go.Op.fieldAddr 39 (Go.Operand.tmp 1) 1, type := 0, pos := "l2_snap.go:36", after := #[{ on := 12, ground := Go.Ground.guard }], guard := some (12, true) }) (v := ?_) rfl (by kernel_rfl) (by kernel_rfl) (by kernel_rfl) (fun _ _ _ h => h) (Or.inl ⟨by rfl, ?hy13⟩) (by assumption) ?_
              case hy13 => ((intro w hSw; (try dsimp only at hSw); go_simp); try with_reducible rfl)
              try simp only [Act.put, List.setIfInBounds_toArray, List.set_cons_zero, List.set_cons_succ]
              refine wpAnyH_take (i := 14) (oi := { dst := some 40, op := Go.Op.load 37 (Go.Operand.tmp 39), type := 37, pos := "l2_snap.go:36", after := #[{ on := 13, ground := Go.Ground.data }, { on := 12, ground := Go.Ground.guard }], guard := some (12, true) }) (v := ?_) rfl (by kernel_rfl) (by kernel_rfl) (by kernel_rfl) (fun _ _ _ h => h) (Or.inl ⟨by rfl, ?hy14⟩) (by assumption) ?_
              case hy14 => ((intro w hSw; (try dsimp only at hSw); go_simp); try with_reducible rfl)
              try simp only [Act.put, List.setIfInBounds_toArray, List.set_cons_zero, List.set_cons_succ]
              refine wpAnyH_take (i := 15) (oi := { dst := some 41, op := Go.Op.move (Go.Operand.tmp 3), type := 3, pos := "l2_snap.go:36", after := #[{ on := 12, ground := Go.Ground.guard }], guard := some (12, true) }) (v := ?_) rfl (by kernel_rfl) (by kernel_rfl) (by kernel_rfl) (fun _ _ _ h => h) (Or.inl ⟨by rfl, ?hy15⟩) (by assumption) ?_
              case hy15 => ((intro w hSw; (try dsimp only at hSw); go_simp); try with_reducible rfl)
              try simp only [Act.put, List.setIfInBounds_toArray, List.set_cons_zero, List.set_cons_succ]
              refine wpAnyH_take (i := 16) (oi := { dst := some 42, op := Go.Op.binOp Go.BinOp.sub 3 (Go.Operand.tmp 41) (Go.Operand.const (Go.Value.int Go.IntKind.i64 1)) 3, type := 3, pos := "l2_snap.go:36", after := #[{ on := 15, ground := Go.Ground.data }, { on := 12, ground := Go.Ground.guard }], guard := some (12, true) }) (v := ?_) rfl (by kernel_rfl) (by kernel_rfl) (by kernel_rfl) (fun _ _ _ h => h) (Or.inl ⟨by rfl, ?hy16⟩) (by assumption) ?_
              case hy16 => ((intro w hSw; (try dsimp only at hSw); go_simp); try with_reducible rfl)
              try simp only [Act.put, List.setIfInBounds_toArray, List.set_cons_zero, List.set_cons_succ]
              refine wpAnyH_take (i := 17) (oi := { dst := some 43, op := Go.Op.indexAddr 37 (Go.Operand.tmp 40) (Go.Operand.tmp 42), type := 0, pos := "l2_snap.go:36", after := #[{ on := 14, ground := Go.Ground.data }, { on := 16, ground := Go.Ground.data }, { on := 12, ground := Go.Ground.guard }], guard := some (12, true) }) (v := ?_) rfl (by kernel_rfl) (by kernel_rfl) (by kernel_rfl) (fun _ _ _ h => h) (Or.inl ⟨by rfl, ?hy17⟩) (by assumption) ?_
              case hy17 => ((intro w hSw; (try dsimp only at hSw); go_simp); try with_reducible rfl)
              try simp only [Act.put, List.setIfInBounds_toArray, List.set_cons_zero, List.set_cons_succ]
              refine wpAnyH_take (i := 18) (oi := { dst := some 44, op := Go.Op.load 77 (Go.Operand.tmp 43), type := 77, pos := "l2_snap.go:36", after := #[{ on := 17, ground := Go.Ground.data }, { on := 12, ground := Go.Ground.guard }], guard := some (12, true) }) (v := ?_) rfl (by kernel_rfl) (by kernel_rfl) (by kernel_rfl) (fun _ _ _ h => h) (Or.inl ⟨by rfl, ?hy18⟩) (by assumption) ?_
              case hy18 => ((intro w hSw; (try dsimp only at hSw); go_simp); try with_reducible rfl)
              try simp only [Act.put, List.setIfInBounds_toArray, List.set_cons_zero, List.set_cons_succ]
              refine wpAnyH_take (i := 19) (oi := { dst := some 45, op := Go.Op.fieldAddr 39 (Go.Operand.tmp 1) 1, type := 0, pos := "l2_snap.go:36", after := #[{ on := 12, ground := Go.Ground.guard }], guard := some (12, true) }) (v := ?_) rfl (by kernel_rfl) (by kernel_rfl) (by kernel_rfl) (fun _ _ _ h => h) (Or.inl ⟨by rfl, ?hy19⟩) (by assumption) ?_
              case hy19 => ((intro w hSw; (try dsimp only at hSw); go_simp); try with_reducible rfl)
              try simp only [Act.put, List.setIfInBounds_toArray, List.set_cons_zero, List.set_cons_succ]
              refine wpAnyH_take (i := 20) (oi := { dst := some 46, op := Go.Op.load 37 (Go.Operand.tmp 45), type := 37, pos := "l2_snap.go:36", after := #[{ on := 19, ground := Go.Ground.data }, { on := 12, ground := Go.Ground.guard }], guard := some (12, true) }) (v := ?_) rfl (by kernel_rfl) (by kernel_rfl) (by kernel_rfl) (fun _ _ _ h => h) (Or.inl ⟨by rfl, ?hy20⟩) (by assumption) ?_
              case hy20 => ((intro w hSw; (try dsimp only at hSw); go_simp); try with_reducible rfl)
              try simp only [Act.put, List.setIfInBounds_toArray, List.set_cons_zero, List.set_cons_succ]
              refine wpAnyH_take (i := 21) (oi := { dst := some 47, op := Go.Op.move (Go.Operand.tmp 3), type := 3, pos := "l2_snap.go:36", after := #[{ on := 12, ground := Go.Ground.guard }], guard := some (12, true) }) (v := ?_) rfl (by kernel_rfl) (by kernel_rfl) (by kernel_rfl) (fun _ _ _ h => h) (Or.inl ⟨by rfl, ?hy21⟩) (by assumption) ?_
              case hy21 => ((intro w hSw; (try dsimp only at hSw); go_simp); try with_reducible rfl)
              try simp only [Act.put, List.setIfInBounds_toArray, List.set_cons_zero, List.set_cons_succ]
              refine wpAnyH_take (i := 22) (oi := { dst := some 48, op := Go.Op.indexAddr 37 (Go.Operand.tmp 46) (Go.Operand.tmp 47), type := 0, pos := "l2_snap.go:36", after := #[{ on := 20, ground := Go.Ground.data }, { on := 21, ground := Go.Ground.data }, { on := 12, ground := Go.Ground.guard }], guard := some (12, true) }) (v := ?_) rfl (by kernel_rfl) (by kernel_rfl) (by kernel_rfl) (fun _ _ _ h => h) (Or.inl ⟨by rfl, ?hy22⟩) (by assumption) ?_
              case hy22 => ((intro w hSw; (try dsimp only at hSw); go_simp); try with_reducible rfl)
              try simp only [Act.put, List.setIfInBounds_toArray, List.set_cons_zero, List.set_cons_succ]
              refine wpAnyH_take (i := 23) (oi := { dst := some 49, op := Go.Op.load 77 (Go.Operand.tmp 48), type := 77, pos := "l2_snap.go:36", after := #[{ on := 22, ground := Go.Ground.data }, { on := 12, ground := Go.Ground.guard }], guard := some (12, true) }) (v := ?_) rfl (by kernel_rfl) (by kernel_rfl) (by kernel_rfl) (fun _ _ _ h => h) (Or.inl ⟨by rfl, ?hy23⟩) (by assumption) ?_
              case hy23 => ((intro w hSw; (try dsimp only at hSw); go_simp); try with_reducible rfl)
              try simp only [Act.put, List.setIfInBounds_toArray, List.set_cons_zero, List.set_cons_succ]
              refine wpAnyH_ready (rs := [24]) (by kernel_rfl) (by simp) ?_
              refine AllReadyH.cons (o := { dst := some 50, op := Go.Op.call { callee := Go.Callee.value (Go.Operand.func 89), args := #[Go.Operand.tmp 44, Go.Operand.tmp 49], argTypes := #[77, 77] }, type := 4, pos := "l2_snap.go:36", after := #[{ on := 18, ground := Go.Ground.data }, { on := 23, ground := Go.Ground.data }, { on := 12, ground := Go.Ground.chain }, { on := 12, ground := Go.Ground.guard }], guard := some (12, true) }) rfl (fun K hK => ?_) AllReadyH.nil
              go_simp
              refine (C2.out _).mono ?_
              rintro e W2 ⟨rfl, hbX'⟩
              have hbX := bel_trans hbW hbX'
              go_wp2_with fail
              refine hK.out _ _ ⟨HC2.out _ hbX, HC4.out _ hbX, hbX⟩ (fun hHeld => ?_)
              clear hK K
              try simp only [Act.put, List.setIfInBounds_toArray, List.set_cons_zero, List.set_cons_succ]
              refine wpAnyH_take (i := 25) (oi := { dst := some 51, op := Go.Op.unOp Go.UnOp.not 4 (Go.Operand.tmp 50), type := 4, pos := "l2_snap.go:36", after := #[{ on := 24, ground := Go.Ground.data }, { on := 12, ground := Go.Ground.guard }], guard := some (12, true) }) (v := ?_) rfl (by kernel_rfl) (by kernel_rfl) (by kernel_rfl) (fun _ _ _ h => h) (Or.inl ⟨by rfl, ?hy25⟩) (by assumption) ?_
              case hy25 => ((intro w hSw; (try dsimp only at hSw); go_simp); try with_reducible rfl)
              try simp only [Act.put, List.setIfInBounds_toArray, List.set_cons_zero, List.set_cons_succ]
              refine wpAnyH_take (i := 26) (oi := { dst := some 52, op := Go.Op.pick (Go.Operand.tmp 38) (Go.Operand.tmp 51) (Go.Operand.const (Go.Value.bool false)), type := 4, pos := "l2_snap.go:36", after := #[{ on := 12, ground := Go.Ground.data }, { on := 25, ground := Go.Ground.data }, { on := 9, ground := Go.Ground.guard }], guard := some (9, false) }) (v := ?_) rfl (by kernel_rfl) (by kernel_rfl) (by kernel_rfl) (fun _ _ _ h => h) (Or.inl ⟨by rfl, ?hy26⟩) (by assumption) ?_
              case hy26 => ((intro w hSw; (try dsimp only at hSw); go_simp); try with_reducible rfl)
              try simp only [Act.put, List.setIfInBounds_toArray, List.set_cons_zero, List.set_cons_succ]
              refine wpAnyH_take (i := 27) (oi := { dst := some 53, op := Go.Op.pick (Go.Operand.tmp 35) (Go.Operand.const (Go.Value.bool true)) (Go.Operand.tmp 52), type := 4, pos := "l2_snap.go:36", after := #[{ on := 9, ground := Go.Ground.data }, { on := 26, ground := Go.Ground.data }], guard := none }) (v := ?_) rfl (by kernel_rfl) (by kernel_rfl) (by kernel_rfl) (fun _ _ _ h => h) (Or.inl ⟨by rfl, ?hy27⟩) (by assumption) ?_
              case hy27 => ((intro w hSw; (try dsimp only at hSw); go_simp); try with_reducible rfl)
              try simp only [Act.put, List.setIfInBounds_toArray, List.set_cons_zero, List.set_cons_succ]
              refine wpAnyH_done (by kernel_rfl) ?_ _
              go_wp2_with fail
              go_roundw
              case rel => exact ⟨i + 1, by omega, by simp, HE.out, HA.out, HB.out.trans (hbX.mono (by omega))⟩
              case measure => simp [intOf]; omega
          · obtain rfl : i = 0 := by omega
            simp only [Nat.zero_mul, Nat.add_zero] at e0 e1 e2 e3
            have HC2 : Hid (∀ W, Below wr.heap.size wr W → (W.cell? ⟨w.heap.size, 0, none⟩ = some (.int .i64 now) ∧ W.cell? ⟨w.heap.size, 1, none⟩ = some (.slice (some ⟨b, off, none⟩) n c)) ∧ (W.cell? ⟨b, off, none⟩ = some (.string f0) ∧ W.cell? ⟨b, off + 1, none⟩ = some (.int .i64 f1) ∧ W.cell? ⟨b, off + 2, none⟩ = some (.int .i64 f2) ∧ W.cell? ⟨b, off + 3, none⟩ = some (.int .i64 f3))) :=
              Lib.hid fun W hW => ⟨⟨(hW.cell (p := ⟨w.heap.size, 0, none⟩) (by simp only; omega)).trans p0, (hW.cell (p := ⟨w.heap.size, 1, none⟩) (by simp only; omega)).trans p1⟩, (hW.cell (p := ⟨b, off, none⟩) (by simp only; omega)).trans e0, (hW.cell (p := ⟨b, off + 1, none⟩) (by simp only; omega)).trans e1, (hW.cell (p := ⟨b, off + 2, none⟩) (by simp only; omega)).trans e2, (hW.cell (p := ⟨b, off + 3, none⟩) (by simp only; omega)).trans e3⟩
            have hz0 : decide ((0 : Int) < 0) = false := by decide
            go_wp2_with fail
            refine wp_region_held_drew (S := (fun W' => ((W'.cell? ⟨w.heap.size, 0, none⟩ = some (.int .i64 now) ∧ W'.cell? ⟨w.heap.size, 1, none⟩ = some (.slice (some ⟨b, off, none⟩) n c)) ∧ (W'.cell? ⟨b, off, none⟩ = some (.string f0) ∧ W'.cell? ⟨b, off + 1, none⟩ = some (.int .i64 f1) ∧ W'.cell? ⟨b, off + 2, none⟩ = some (.int .i64 f2) ∧ W'.cell? ⟨b, off + 3, none⟩ = some (.int .i64 f3))) ∧ Below wr.heap.size wr W')) (by kernel_rfl) ⟨HC2.out _ (Below.refl _ _).drew, (Below.refl _ _).drew⟩ (fun hHeld => ?_)
            refine wpAnyH_take (i := 0) (oi := { dst := some 26, op := Go.Op.fieldAddr 39 (Go.Operand.tmp 1) 1, type := 0, pos := "l2_snap.go:36", after := #[], guard := none }) (v := ?_) rfl (by kernel_rfl) (by kernel_rfl) (by kernel_rfl) (fun _ _ _ h => h) (Or.inl ⟨by rfl, ?hy0⟩) (by assumption) ?_
            case hy0 => ((intro w hSw; (try dsimp only at hSw); go_simp); try with_reducible rfl)
            try simp only [Act.put, List.setIfInBounds_toArray, List.set_cons_zero, List.set_cons_succ]
            refine wpAnyH_take (i := 1) (oi := { dst := some 27, op := Go.Op.load 37 (Go.Operand.tmp 26), type := 37, pos := "l2_snap.go:36", after := #[{ on := 0, ground := Go.Ground.data }], guard := none }) (v := ?_) rfl (by kernel_rfl) (by kernel_rfl) (by kernel_rfl) (fun _ _ _ h => h) (Or.inl ⟨by rfl, ?hy1⟩) (by assumption) ?_
            case hy1 => ((intro w hSw; (try dsimp only at hSw); go_simp); try with_reducible rfl)
            try simp only [Act.put, List.setIfInBounds_toArray, List.set_cons_zero, List.set_cons_succ]
            refine wpAnyH_take (i := 2) (oi := { dst := some 28, op := Go.Op.move (Go.Operand.tmp 3), type := 3, pos := "l2_snap.go:36", after := #[], guard := none }) (v := ?_) rfl (by kernel_rfl) (by kernel_rfl) (by kernel_rfl) (fun _ _ _ h => h) (Or.inl ⟨by rfl, ?hy2⟩) (by assumption) ?_
            case hy2 => ((intro w hSw; (try dsimp only at hSw); go_simp); try with_reducible rfl)
            try simp only [Act.put, List.setIfInBounds_toArray, List.set_cons_zero, List.set_cons_succ]
            refine wpAnyH_take (i := 3) (oi := { dst := some 29, op := Go.Op.indexAddr 37 (Go.Operand.tmp 27) (Go.Operand.tmp 28), type := 0, pos := "l2_snap.go:36", after := #[{ on := 1, ground := Go.Ground.data }, { on := 2, ground := Go.Ground.data }], guard := none }) (v := ?_) rfl (by kernel_rfl) (by kernel_rfl) (by kernel_rfl) (fun _ _ _ h => h) (Or.inl ⟨by rfl, ?hy3⟩) (by assumption) ?_
            case hy3 => ((intro w hSw; (try dsimp only at hSw); go_simp); try with_reducible rfl)
            try simp only [Act.put, List.setIfInBounds_toArray, List.set_cons_zero, List.set_cons_succ]
            refine wpAnyH_take (i := 4) (oi := { dst := some 30, op := Go.Op.load 77 (Go.Operand.tmp 29), type := 77, pos := "l2_snap.go:36", after := #[{ on := 3, ground := Go.Ground.data }], guard := none }) (v := ?_) rfl (by kernel_rfl) (by kernel_rfl) (by kernel_rfl) (fun _ _ _ h => h) (Or.inl ⟨by rfl, ?hy4⟩) (by assumption) ?_
            case hy4 => ((intro w hSw; (try dsimp only at hSw); go_simp); try with_reducible rfl)
            try simp only [Act.put, List.setIfInBounds_toArray, List.set_cons_zero, List.set_cons_succ]
            refine wpAnyH_take (i := 5) (oi := { dst := some 31, op := Go.Op.fieldAddr 39 (Go.Operand.tmp 1) 0, type := 0, pos := "l2_snap.go:36", after := #[], guard := none }) (v := ?_) rfl (by kernel_rfl) (by kernel_rfl) (by kernel_rfl) (fun _ _ _ h => h) (Or.inl ⟨by rfl, ?hy5⟩) (by assumption) ?_
            case hy5 => ((intro w hSw; (try dsimp only at hSw); go_simp); try with_reducible rfl)
            try simp only [Act.put, List.setIfInBounds_toArray, List.set_cons_zero, List.set_cons_succ]
            refine wpAnyH_take (i := 6) (oi := { dst := some 32, op := Go.Op.load 3 (Go.Operand.tmp 31), type := 3, pos := "l2_snap.go:36", after := #[{ on := 5, ground := Go.Ground.data }], guard := none }) (v := ?_) rfl (by kernel_rfl) (by kernel_rfl) (by kernel_rfl) (fun _ _ _ h => h) (Or.inl ⟨by rfl, ?hy6⟩) (by assumption) ?_
            case hy6 => ((intro w hSw; (try dsimp only at hSw); go_simp); try with_reducible rfl)
            try simp only [Act.put, List.setIfInBounds_toArray, List.set_cons_zero, List.set_cons_succ]
            refine wpAnyH_ready (rs := [7]) (by kernel_rfl) (by simp) ?_
            refine AllReadyH.cons (o := { dst := some 33, op := Go.Op.call { callee := Go.Callee.value (Go.Operand.func 88), args := #[Go.Operand.tmp 30, Go.Operand.tmp 32], argTypes := #[77, 3] }, type := 4, pos := "l2_snap.go:36", after := #[{ on := 4, ground := Go.Ground.data }, { on := 6, ground := Go.Ground.data }], guard := none }) rfl (fun K hK => ?_) AllReadyH.nil
            go_simp
            refine (C1.out _).mono ?_
            rintro e W ⟨rfl, hbW'⟩
            have hbW := bel_trans ((Below.refl wr.heap.size wr).drew) hbW'
            go_wp2_with fail
            refine hK.out _ _ ⟨HC2.out _ hbW, hbW⟩ (fun hHeld => ?_)
            clear hK K
            try simp only [Act.put, List.setIfInBounds_toArray, List.set_cons_zero, List.set_cons_succ]
            refine wpAnyH_take (i := 8) (oi := { dst := some 34, op := Go.Op.unOp Go.UnOp.not 4 (Go.Operand.tmp 33), type := 4, pos := "l2_snap.go:36", after := #[{ on := 7, ground := Go.Ground.data }], guard := none }) (v := ?_) rfl (by kernel_rfl) (by kernel_rfl) (by kernel_rfl) (fun _ _ _ h => h) (Or.inl ⟨by rfl, ?hy8⟩) (by assumption) ?_
            case hy8 => ((intro w hSw; (try dsimp only at hSw); go_simp); try with_reducible rfl)
            try simp only [Act.put, List.setIfInBounds_toArray, List.set_cons_zero, List.set_cons_succ]
            refine wpAnyH_take (i := 9) (oi := { dst := some 35, op := Go.Op.move (Go.Operand.tmp 34), type := 4, pos := "l2_snap.go:36", after := #[{ on := 8, ground := Go.Ground.data }, { on := 7, ground := Go.Ground.chain }], guard := none }) (v := ?_) rfl (by kernel_rfl) (by kernel_rfl) (by kernel_rfl) (fun _ _ _ h => h) (Or.inl ⟨by rfl, ?hy9⟩) (by assumption) ?_
            case hy9 => ((intro w hSw; (try dsimp only at hSw); go_simp); try with_reducible rfl)
            try simp only [Act.put, List.setIfInBounds_toArray, List.set_cons_zero, List.set_cons_succ]
            refine wpAnyH_take (i := 10) (oi := { dst := some 36, op := Go.Op.move (Go.Operand.tmp 3), type := 3, pos := "l2_snap.go:36", after := #[{ on := 9, ground := Go.Ground.guard }], guard := some (9, false) }) (v := ?_) rfl (by kernel_rfl) (by kernel_rfl) (by kernel_rfl) (fun _ _ _ h => h) (Or.inl ⟨by rfl, ?hy10⟩) (by assumption) ?_
            case hy10 => ((intro w hSw; (try dsimp only at hSw); go_simp); try with_reducible rfl)
            try simp only [Act.put, List.setIfInBounds_toArray, List.set_cons_zero, List.set_cons_succ]
            refine wpAnyH_take (i := 11) (oi := { dst := some 37, op := Go.Op.binOp Go.BinOp.gtr 3 (Go.Operand.tmp 36) (Go.Operand.const (Go.Value.int Go.IntKind.i64 0)) 3, type := 4, pos := "l2_snap.go:36", after := #[{ on := 10, ground := Go.Ground.data }, { on := 9, ground := Go.Ground.guard }], guard := some (9, false) }) (v := ?_) rfl (by kernel_rfl) (by kernel_rfl) (by kernel_rfl) (fun _ _ _ h => h) (Or.inl ⟨by rfl, ?hy11⟩) (by assumption) ?_
            case hy11 => ((intro w hSw; (try dsimp only at hSw); go_simp); try with_reducible rfl)
            try simp only [Act.put, List.setIfInBounds_toArray, List.set_cons_zero, List.set_cons_succ]
            refine wpAnyH_take (i := 12) (oi := { dst := some 38, op := Go.Op.move (Go.Operand.tmp 37), type := 4, pos := "l2_snap.go:36", after := #[{ on := 11, ground := Go.Ground.data }, { on := 9, ground := Go.Ground.chain }, { on := 9, ground := Go.Ground.guard }], guard := some (9, false) }) (v := ?_) rfl (by kernel_rfl) (by kernel_rfl) (by kernel_rfl) (fun _ _ _ h => h) (Or.inl ⟨by rfl, ?hy12⟩) (by assumption) ?_
            case hy12 => ((intro w hSw; (try dsimp only at hSw); go_simp); try with_reducible rfl)
            try simp only [Act.put, List.setIfInBounds_toArray, List.set_cons_zero, List.set_cons_succ]
            refine wpAnyH_take (i := 13) (oi := { dst := some 39, op := Go.Op.fieldAddr 39 (Go.Operand.tmp 1) 1, type := 0, pos := "l2_snap.go:36", after := #[{ on := 12, ground := Go.Ground.guard }], guard := some (12, true) }) (v := undef) rfl (by kernel_rfl) (by kernel_rfl) (by kernel_rfl) (fun _ _ _ h => h) (Or.inr ⟨by rfl, rfl⟩) (by assumption) ?_
            try simp only [Act.put, List.setIfInBounds_toArray, List.set_cons_zero, List.set_cons_succ]
            refine wpAnyH_take (i := 14) (oi := { dst := some 40, op := Go.Op.load 37 (Go.Operand.tmp 39), type := 37, pos := "l2_snap.go:36", after := #[{ on := 13, ground := Go.Ground.data }, { on := 12, ground := Go.Ground.guard }], guard := some (12, true) }) (v := undef) rfl (by kernel_rfl) (by kernel_rfl) (by kernel_rfl) (fun _ _ _ h => h) (Or.inr ⟨by rfl, rfl⟩) (by assumption) ?_
            try simp only [Act.put, List.setIfInBounds_toArray, List.set_cons_zero, List.set_cons_succ]
            refine wpAnyH_take (i := 15) (oi := { dst := some 41, op := Go.Op.move (Go.Operand.tmp 3), type := 3, pos := "l2_snap.go:36", after := #[{ on := 12, ground := Go.Ground.guard }], guard := some (12, true) }) (v := undef) rfl (by kernel_rfl) (by kernel_rfl) (by kernel_rfl) (fun _ _ _ h => h) (Or.inr ⟨by rfl, rfl⟩) (by assumption) ?_
            try simp only [Act.put, List.setIfInBounds_toArray, List.set_cons_zero, List.set_cons_succ]
            refine wpAnyH_take (i := 16) (oi := { dst := some 42, op := Go.Op.binOp Go.BinOp.sub 3 (Go.Operand.tmp 41) (Go.Operand.const (Go.Value.int Go.IntKind.i64 1)) 3, type := 3, pos := "l2_snap.go:36", after := #[{ on := 15, ground := Go.Ground.data }, { on := 12, ground := Go.Ground.guard }], guard := some (12, true) }) (v := undef) rfl (by kernel_rfl) (by kernel_rfl) (by kernel_rfl) (fun _ _ _ h => h) (Or.inr ⟨by rfl, rfl⟩) (by assumption) ?_
            try simp only [Act.put, List.setIfInBounds_toArray, List.set_cons_zero, List.set_cons_succ]
            refine wpAnyH_take (i := 17) (oi := { dst := some 43, op := Go.Op.indexAddr 37 (Go.Operand.tmp 40) (Go.Operand.tmp 42), type := 0, pos := "l2_snap.go:36", after := #[{ on := 14, ground := Go.Ground.data }, { on := 16, ground := Go.Ground.data }, { on := 12, ground := Go.Ground.guard }], guard := some (12, true) }) (v := undef) rfl (by kernel_rfl) (by kernel_rfl) (by kernel_rfl) (fun _ _ _ h => h) (Or.inr ⟨by rfl, rfl⟩) (by assumption) ?_
            try simp only [Act.put, List.setIfInBounds_toArray, List.set_cons_zero, List.set_cons_succ]
            refine wpAnyH_take (i := 18) (oi := { dst := some 44, op := Go.Op.load 77 (Go.Operand.tmp 43), type := 77, pos := "l2_snap.go:36", after := #[{ on := 17, ground := Go.Ground.data }, { on := 12, ground := Go.Ground.guard }], guard := some (12, true) }) (v := undef) rfl (by kernel_rfl) (by kernel_rfl) (by kernel_rfl) (fun _ _ _ h => h) (Or.inr ⟨by rfl, rfl⟩) (by assumption) ?_
            try simp only [Act.put, List.setIfInBounds_toArray, List.set_cons_zero, List.set_cons_succ]
            refine wpAnyH_take (i := 19) (oi := { dst := some 45, op := Go.Op.fieldAddr 39 (Go.Operand.tmp 1) 1, type := 0, pos := "l2_snap.go:36", after := #[{ on := 12, ground := Go.Ground.guard }], guard := some (12, true) }) (v := undef) rfl (by kernel_rfl) (by kernel_rfl) (by kernel_rfl) (fun _ _ _ h => h) (Or.inr ⟨by rfl, rfl⟩) (by assumption) ?_
            try simp only [Act.put, List.setIfInBounds_toArray, List.set_cons_zero, List.set_cons_succ]
            refine wpAnyH_take (i := 20) (oi := { dst := some 46, op := Go.Op.load 37 (Go.Operand.tmp 45), type := 37, pos := "l2_snap.go:36", after := #[{ on := 19, ground := Go.Ground.data }, { on := 12, ground := Go.Ground.guard }], guard := some (12, true) }) (v := undef) rfl (by kernel_rfl) (by kernel_rfl) (by kernel_rfl) (fun _ _ _ h => h) (Or.inr ⟨by rfl, rfl⟩) (by assumption) ?_
            try simp only [Act.put, List.setIfInBounds_toArray, List.set_cons_zero, List.set_cons_succ]
            refine wpAnyH_take (i := 21) (oi := { dst := some 47, op := Go.Op.move (Go.Operand.tmp 3), type := 3, pos := "l2_snap.go:36", after := #[{ on := 12, ground := Go.Ground.guard }], guard := some (12, true) }) (v := undef) rfl (by kernel_rfl) (by kernel_rfl) (by kernel_rfl) (fun _ _ _ h => h) (Or.inr ⟨by rfl, rfl⟩) (by assumption) ?_
            try simp only [Act.put, List.setIfInBounds_toArray, List.set_cons_zero, List.set_cons_succ]
            refine wpAnyH_take (i := 22) (oi := { dst := some 48, op := Go.Op.indexAddr 37 (Go.Operand.tmp 46) (Go.Operand.tmp 47), type := 0, pos := "l2_snap.go:36", after := #[{ on := 20, ground := Go.Ground.data }, { on := 21, ground := Go.Ground.data }, { on := 12, ground := Go.Ground.guard }], guard := some (12, true) }) (v := undef) rfl (by kernel_rfl) (by kernel_rfl) (by kernel_rfl) (fun _ _ _ h => h) (Or.inr ⟨by rfl, rfl⟩) (by assumption) ?_
            try simp only [Act.put, List.setIfInBounds_toArray, List.set_cons_zero, List.set_cons_succ]
            refine wpAnyH_take (i := 23) (oi := { dst := some 49, op := Go.Op.load 77 (Go.Operand.tmp 48), type := 77, pos := "l2_snap.go:36", after := #[{ on := 22, ground := Go.Ground.data }, { on := 12, ground := Go.Ground.guard }], guard := some (12, true) }) (v := undef) rfl (by kernel_rfl) (by kernel_rfl) (by kernel_rfl) (fun _ _ _ h => h) (Or.inr ⟨by rfl, rfl⟩) (by assumption) ?_
            try simp only [Act.put, List.setIfInBounds_toArray, List.set_cons_zero, List.set_cons_succ]
            refine wpAnyH_take (i := 24) (oi := { dst := some 50, op := Go.Op.call { callee := Go.Callee.value (Go.Operand.func 89), args := #[Go.Operand.tmp 44, Go.Operand.tmp 49], argTypes := #[77, 77] }, type := 4, pos := "l2_snap.go:36", after := #[{ on := 18, ground := Go.Ground.data }, { on := 23, ground := Go.Ground.data }, { on := 12, ground := Go.Ground.chain }, { on := 12, ground := Go.Ground.guard }], guard := some (12, true) }) (v := undef) rfl (by kernel_rfl) (by kernel_rfl) (by kernel_rfl) (fun _ _ _ h => h) (Or.inr ⟨by rfl, rfl⟩) (by assumption) ?_
            try simp only [Act.put, List.setIfInBounds_toArray, List.set_cons_zero, List.set_cons_succ]
            refine wpAnyH_take (i := 25) (oi := { dst := some 51, op := Go.Op.unOp Go.UnOp.not 4 (Go.Operand.tmp 50), type := 4, pos := "l2_snap.go:36", after := #[{ on := 24, ground := Go.Ground.data }, { on := 12, ground := Go.Ground.guard }], guard := some (12, true) }) (v := undef) rfl (by kernel_rfl) (by kernel_rfl) (by kernel_rfl) (fun _ _ _ h => h) (Or.inr ⟨by rfl, rfl⟩) (by assumption) ?_
            try simp only [Act.put, List.setIfInBounds_toArray, List.set_cons_zero, List.set_cons_succ]
            refine wpAnyH_take (i := 26) (oi := { dst := some 52, op := Go.Op.pick (Go.Operand.tmp 38) (Go.Operand.tmp 51) (Go.Operand.const (Go.Value.bool false)), type := 4, pos := "l2_snap.go:36", after := #[{ on := 12, ground := Go.Ground.data }, { on := 25, ground := Go.Ground.data }, { on := 9, ground := Go.Ground.guard }], guard := some (9, false) }) (v := ?_) rfl (by kernel_rfl) (by kernel_rfl) (by kernel_rfl) (fun _ _ _ h => h) (Or.inl ⟨by rfl, ?hy26⟩) (by assumption) ?_
            case hy26 => ((intro w hSw; (try dsimp only at hSw); go_simp); try with_reducible rfl)
            try simp only [Act.put, List.setIfInBounds_toArray, List.set_cons_zero, List.set_cons_succ]
            refine wpAnyH_take (i := 27) (oi := { dst := some 53, op := Go.Op.pick (Go.Operand.tmp 35) (Go.Operand.const (Go.Value.bool true)) (Go.Operand.tmp 52), type := 4, pos := "l2_snap.go:36", after := #[{ on := 9, ground := Go.Ground.data }, { on := 26, ground := Go.Ground.data }], guard := none }) (v := ?_) rfl (by kernel_rfl) (by kernel_rfl) (by kernel_rfl) (fun _ _ _ h => h) (Or.inl ⟨by rfl, ?hy27⟩) (by assumption) ?_
            case hy27 => ((intro w hSw; (try dsimp only at hSw); go_simp); try with_reducible rfl)
            try simp only [Act.put, List.setIfInBounds_toArray, List.set_cons_zero, List.set_cons_succ]
            refine wpAnyH_done (by kernel_rfl) ?_ _
            go_wp2_with fail
            go_roundw
            case rel => exact ⟨1, by omega, by simp, HE.out, AheadTo.zero _, HB.out.trans (hbW.mono (by omega))⟩
            case measure => simp [intOf]; omega
      · obtain rfl : i = n := by omega
        have h0' : ¬ ((i : Int) < (i : Int)) := by omega
        have hev := he.all (Nat.le_of_eq HL.out)
        have haa := ha.all (by rw [HL.out]; omega)
        have HEV := Lib.hid hev
        have HAA := Lib.hid haa
        clear hev haa he ha
        go_wp2_with fail
        obtain ⟨wo, rfl⟩ : ∃ wo : World, wo = wr := ⟨_, rfl⟩
        have HB := Lib.hid hb
        clear hb p0 p1 hbw
        go_loopw [4] (fun v4 wr => ∃ (k : Nat), (k : Int) ≤ now + 1 ∧ v4 = .int .i64 k ∧ FewTo l k ∧ Below (w.heap.size + 1) w1 wr) (fun v4 _ => 41 - (intOf v4).toNat)
        case atStart => exact ⟨0, by omega, rfl, FewTo.zero _, HB.out⟩
        case round =>
          obtain ⟨k, hk, rfl, hf, hb⟩ := hrel
          obtain ⟨⟨p0, p1⟩, hbw, hsz'⟩ := HC.out _ hb
          by_cases hkn : (k : Int) ≤ now
          · have hln := at_len l (k : Int)
            rw [HL.out] at hln
            have HAL := Lib.hid (at_seen l (k : Int))
            go_wp2_with fail
            refine (specAt now A i c l (k : Int) _ (HR.out.on hbw) (by omega)).mono ?_
            rintro e W2 ⟨v, rfl, ho, hbW⟩
            obtain ⟨av, cv, rfl⟩ : ∃ a c, v = .slice a (atL l k).length c := by
              obtain ⟨a, c, h, _⟩ := ho.form; exact ⟨a, c, h⟩
            have hb2 := hb.trans (hbW.mono (by omega))
            have hbw2 := bel_trans hbw hbW
            by_cases hbig : (atL l (k : Int)).length ≤ 10
            · have HS := Lib.hid (hf.step (by rw [← HAL.out]; exact hbig))
              generalize (atL l (k : Int)).length = q at *
              have hbig' : (q : Int) ≤ 10 := by omega
              go_wp2_with fail
              go_roundw
              case rel => exact ⟨k + 1, by omega, by simp, HS.out, hb2⟩
              case measure => simp [intOf]; omega
            · have HF := Lib.hid (versOk_few (now := now) (l := l) (not_few hkn (by rw [← HAL.out]; omega)))
              generalize (atL l (k : Int)).length = q at *
              have hbig' : (10 : Int) < (q : Int) := by omega
              go_wp2_with fail
              go_ret
              exact ⟨retBool HF.out.symm, hbw2⟩
          · have HF := Lib.hid (versOk_true (now := now) (l := l) ⟨HD.out, HEV.out, HAA.out, hf.all (by omega)⟩)
            have hkn' : now < (k : Int) := by omega
            go_wp2_with fail
            go_ret
            exact ⟨retBool HF.out.symm, hbw⟩
  · have HF := Lib.hid (versOk_head (now := now) (l := l) (by rw [HL.out]; exact hd))
    go_enter Try.func41, Try.ntmps41
    go_wp2
    all_goals first
      | (go_ret; exact ⟨retBool HF.out.symm, b0⟩)
      | (exfalso; omega)
end Go.Proofs.Ytpofgidhhcolfaa
