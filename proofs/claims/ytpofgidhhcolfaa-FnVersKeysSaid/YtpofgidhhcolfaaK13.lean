/- The law FnVersKeys, walked. -/
import Derived.Test.YtpofgidhhcolfaaX10
import Derived.Test.YtpofgidhhcolfaaPV
import Derived.Test.YtpofgidhhcolfaaV10
namespace Go.Proofs.Ytpofgidhhcolfaa
open Go.RowKit

set_option maxHeartbeats 4000000 in
set_option maxRecDepth 100000 in
theorem lawFnVersKeys (A : Option Addr) (n c : Nat) (l : List UInt8) (w : World) (hr : Sl encB w w.heap.size A n l) (hn : n ≤ maxLen) (hc : n ≤ c) :
    Calls Try.prog 13 #[.slice A n c] w fun e w' => e = .returned (.bool true) ∧ Below w.heap.size w w' := by
  unfold maxLen at hn
  by_cases hbig : 1048576 < n
  · have hb : (1048576 : Int) < (n : Int) := by omega
    go_enter Try.func13, Try.ntmps13
    go_wp2
    go_ret
    exact ⟨rfl, Below.refl _ _⟩
  have hb : ¬ (1048576 : Int) < (n : Int) := by omega
  go_enter Try.func13, Try.ntmps13
  go_wp2_with fail
  refine (drawVersOk A n c l w hr (by omega) hc).mono ?_
  rintro e w1 ⟨now, B, m, cb, lv, rfl, o1, hS, hm, hlo, hhi, b1⟩
  have HS := Lib.hid hS
  have hL := o1.len
  clear hr hn hc hb hbig hS
  have x2 := BoxC.new w1 39 #[.int .i64 now, .slice B m cb]
  have o2 := o1.alloc (.cells #[.int .i64 now, .slice B m cb] 39)
  have b2 := bel_alloc b1 (.cells #[.int .i64 now, .slice B m cb] 39)
  go_wp2_with fail
  obtain ⟨D, hD⟩ : ∃ D, w1.heap.size = D := ⟨_, rfl⟩
  rw [hD] at x2
  rw [hD]
  clear hD o1 b1
  generalize w1.alloc (.cells #[.int .i64 now, .slice B m cb] 39) = w2 at *
  have HO := Lib.hid o2
  have HX := Lib.hid x2
  have HB := Lib.hid b2
  have HM := Lib.hid hm
  have HL := Lib.hid hL
  clear hL
  have OK : Hid (∀ W, Below w2.heap.size w2 W → Calls Try.prog 42 #[.agg #[.int .i64 now, .slice B m cb]] W fun e w' => e = .returned (.bool (versOk now lv)) ∧ Below W.heap.size W w') := Lib.hid fun W hW => implVersOk now B m cb lv W (HO.out.on hW).sl HS.out (by have := HM.out; omega)
  have OS : Hid (∀ W, Below w2.heap.size w2 W → Calls Try.prog 41 #[.agg #[.int .i64 now, .slice B m cb]] W fun e w' => e = .returned (.bool (versOk now lv)) ∧ Below W.heap.size W w') := Lib.hid fun W hW => specVersOk now B m cb lv W (HO.out.on hW).sl HS.out (by have := HM.out; omega)
  have HC : Hid (∀ W, Below w2.heap.size w2 W → W.cell? ⟨D, 0, none⟩ = some (.int .i64 now) ∧ W.cell? ⟨D, 1, none⟩ = some (.slice B m cb) ∧ D < W.heap.size) := Lib.hid fun W hW => ⟨(HX.out.on hW).c (k := 0) rfl, (HX.out.on hW).c (k := 1) rfl, (HX.out.on hW).lt⟩
  obtain ⟨p0, p1, p2⟩ := HC.out w2 (Below.refl _ _)
  clear o2 x2 b2 hm
  cases hok : versOk now lv
  · rw [hok] at OK OS
    clear hok
    go_wp2_with fail
    refine (OK.out w2 (Below.refl _ _)).mono ?_
    rintro e w3 ⟨rfl, hb3⟩
    obtain ⟨p0, p1, p2⟩ := HC.out w3 hb3
    go_wp2_with fail
    refine (OS.out w3 hb3).mono ?_
    rintro e w4 ⟨rfl, hb4⟩
    have hb5 := bel_trans hb3 hb4
    obtain ⟨p0, p1, p2⟩ := HC.out w4 hb5
    go_wp2_with fail
    refine (OS.out w4 hb5).mono ?_
    rintro e w6 ⟨rfl, hb6⟩
    go_wp2
    go_ret
    exact ⟨rfl, bel_trans HB.out (bel_trans hb5 hb6)⟩
  rw [hok] at OK OS
  have HP := Lib.hid (versOk_iff.1 hok)
  have HK := Lib.hid hok
  clear hok
  go_wp2_with fail
  refine (OK.out w2 (Below.refl _ _)).mono ?_
  rintro e w3 ⟨rfl, hb3⟩
  obtain ⟨p0, p1, p2⟩ := HC.out w3 hb3
  go_wp2_with fail
  refine (OS.out w3 hb3).mono ?_
  rintro e w4 ⟨rfl, hb4⟩
  have hb5 := bel_trans hb3 hb4
  clear hb3 hb4 OK OS
  go_wp2_with fail
  go_loopw [5] (fun v5 wr => ∃ i : Nat, v5 = .int .i64 i ∧ i ≤ m ∧ Below w2.heap.size w2 wr) (fun v5 _ => m - (intOf v5).toNat)
  case atStart => exact ⟨0, rfl, Nat.zero_le _, hb5⟩
  case round =>
    clear hb5 p0 p1 p2
    have hmB : (m : Int) ≤ 100 := by have := HM.out; omega
    obtain ⟨i, rfl, him, hbw⟩ := hrel
    obtain ⟨p0, p1, p2⟩ := HC.out wr hbw
    by_cases hlt : i < m
    · have hlt' : (i : Int) < (m : Int) := by omega
      have i0 : (0 : Int) ≤ (i : Int) := by omega
      have HBW := Lib.hid hbw
      obtain ⟨d, rfl⟩ := HO.out.zero hlt
      have HE : Hid (∃ f0 f1 f2 f3, lv[i]? = some (f0, f1, f2, f3) ∧ ∀ W, Below w2.heap.size w2 W → W.cell? ⟨d, i * 4, none⟩ = some (.string f0) ∧ W.cell? ⟨d, i * 4 + 1, none⟩ = some (.int .i64 f1) ∧ W.cell? ⟨d, i * 4 + 2, none⟩ = some (.int .i64 f2) ∧ W.cell? ⟨d, i * 4 + 3, none⟩ = some (.int .i64 f3) ∧ d < W.heap.size) := by
        refine Lib.hid ?_
        obtain ⟨f0, f1, f2, f3, hx, -⟩ := atVer HO.out.sl hlt
        refine ⟨f0, f1, f2, f3, hx, fun W hW => ?_⟩
        obtain ⟨g0, g1, g2, g3, hx', e0, e1, e2, e3⟩ := atVer (HO.out.on hW).sl hlt
        rw [hx] at hx'
        cases hx'
        simp only [Nat.zero_add] at e0 e1 e2 e3
        exact ⟨e0, e1, e2, e3, ((HO.out.on hW).block rfl).2.1⟩
      obtain ⟨f0, f1, f2, f3, hx, hce⟩ := HE.out
      have HF := Lib.hid hx
      have HCE := Lib.hid hce
      clear hx hce HE
      obtain ⟨e0, e1, e2, e3, e4⟩ := HCE.out wr hbw
      go_wp2_with fail
      go_loopw [6] (fun v6 wq => ∃ k : Nat, v6 = .int .i64 k ∧ k ≤ i ∧ Below w2.heap.size w2 wq) (fun v6 _ => i - (intOf v6).toNat)
      case atStart => exact ⟨0, rfl, Nat.zero_le _, hbw⟩
      case round =>
        clear p0 p1 p2 e0 e1 e2 e3 e4 hbw
        obtain ⟨k, rfl, hki, hbq⟩ := hrel
        by_cases hkt : k < i
        · have hkt' : (k : Int) < (i : Int) := by omega
          have k0 : (0 : Int) ≤ (k : Int) := by omega
          have k1 : (k : Int) < (m : Int) := by omega
          obtain ⟨g0, g1, g2, g3, hy, c0, c1, c2, c3⟩ := atVer (HO.out.on hbq).sl (k := k) (by omega)
          simp only [Nat.zero_add] at c0 c1 c2 c3
          have HOV := Lib.hid (over_keys HP.out hkt hy HF.out)
          clear hy
          obtain ⟨p0, p1, p2⟩ := HC.out wr hbq
          obtain ⟨e0, e1, e2, e3, e4⟩ := HCE.out wr hbq
          have xa := (BoxC.new wr 77 #[.string g0, .int .i64 g1, .int .i64 g2, .int .i64 g3]).alloc (.cells #[.string f0, .int .i64 f1, .int .i64 f2, .int .i64 f3] 77)
          have xb := BoxC.new (wr.alloc (.cells #[.string g0, .int .i64 g1, .int .i64 g2, .int .i64 g3] 77)) 77 #[.string f0, .int .i64 f1, .int .i64 f2, .int .i64 f3]
          simp only [World.size_alloc] at xb
          have ca0 := xa.c (k := 0) rfl
          have ca3 := xa.c (k := 3) rfl
          have cb0 := xb.c (k := 0) rfl
          have cb2 := xb.c (k := 2) rfl
          cases hk : (g0.toList == f0.toList)
          · go_wp2_with fail
            go_roundw
            case rel => exact ⟨k + 1, by go_num, by omega, bel_alloc (bel_alloc hbq _) _⟩
            case measure => simp [intOf]; omega
          · have hge : g0 = f0 := keq_iff.1 (show keq g0 f0 = true from hk)
            have q1 : 0 < g3 := (HOV.out hge).1
            have q2 : g3 ≤ f2 := (HOV.out hge).2
            have z1 : (g3 == 0) = false := by simp; omega
            have z2 : ¬ f2 < g3 := by omega
            clear q1 q2
            go_wp2_with fail
            go_roundw
            case rel => exact ⟨k + 1, by go_num, by omega, bel_alloc (bel_alloc hbq _) _⟩
            case measure => simp [intOf]; omega
        · obtain rfl : k = i := by omega
          obtain ⟨p0, p1, p2⟩ := HC.out wr hbq
          obtain ⟨e0, e1, e2, e3, e4⟩ := HCE.out wr hbq
          have hkt' : ¬ (k : Int) < (k : Int) := by omega
          by_cases h0 : f3 = 0
          · subst h0
            have hmem := List.mem_of_getElem? HF.out
            have hvis := open_vis HP.out hmem rfl
            have HG := Lib.hid (at_get HP.out HP.out.1.1 (Int.le_refl now) hmem hvis)
            have HLA := Lib.hid (open_last HP.out HF.out rfl)
            clear hmem hvis
            go_wp2_with fail
            refine wp_region_held_drew (S := (fun W' => (W'.cell? ⟨D, 0, none⟩ = some (.int .i64 now) ∧ W'.cell? ⟨D, 1, none⟩ = some (.slice (some ⟨d, 0, none⟩) m cb) ∧ W'.cell? ⟨d, k * 4, none⟩ = some (.string f0) ∧ W'.cell? ⟨d, k * 4 + 1, none⟩ = some (.int .i64 f1) ∧ W'.cell? ⟨d, k * 4 + 2, none⟩ = some (.int .i64 f2)) ∧ Below w2.heap.size w2 W')) (by kernel_rfl) ⟨⟨(HC.out _ (bel_drewN hbq 1)).1, (HC.out _ (bel_drewN hbq 1)).2.1, (HCE.out _ (bel_drewN hbq 1)).1, (HCE.out _ (bel_drewN hbq 1)).2.1, (HCE.out _ (bel_drewN hbq 1)).2.2.1⟩, (bel_drewN hbq 1)⟩ (fun hHeld => ?_)
            refine wpAnyH_take (i := 0) (oi := { dst := some 77, op := Go.Op.load 39 (Go.Operand.tmp 3), type := 39, pos := "laws.go:447", after := #[], guard := none }) (v := ?_) rfl (by kernel_rfl) (by kernel_rfl) (by kernel_rfl) (fun _ _ _ h => h) (Or.inl ⟨by rfl, ?hy0⟩) (by assumption) ?_
            case hy0 => ((intro w hSw; (try dsimp only at hSw); go_simp); try with_reducible rfl)
            try simp only [Act.put, List.setIfInBounds_toArray, List.set_cons_zero, List.set_cons_succ]
            refine wpAnyH_take (i := 1) (oi := { dst := some 78, op := Go.Op.fieldAddr 39 (Go.Operand.tmp 3) 0, type := 0, pos := "laws.go:447", after := #[], guard := none }) (v := ?_) rfl (by kernel_rfl) (by kernel_rfl) (by kernel_rfl) (fun _ _ _ h => h) (Or.inl ⟨by rfl, ?hy1⟩) (by assumption) ?_
            case hy1 => ((intro w hSw; (try dsimp only at hSw); go_simp); try with_reducible rfl)
            try simp only [Act.put, List.setIfInBounds_toArray, List.set_cons_zero, List.set_cons_succ]
            refine wpAnyH_take (i := 2) (oi := { dst := some 79, op := Go.Op.load 3 (Go.Operand.tmp 78), type := 3, pos := "laws.go:447", after := #[{ on := 1, ground := Go.Ground.data }], guard := none }) (v := ?_) rfl (by kernel_rfl) (by kernel_rfl) (by kernel_rfl) (fun _ _ _ h => h) (Or.inl ⟨by rfl, ?hy2⟩) (by assumption) ?_
            case hy2 => ((intro w hSw; (try dsimp only at hSw); go_simp); try with_reducible rfl)
            try simp only [Act.put, List.setIfInBounds_toArray, List.set_cons_zero, List.set_cons_succ]
            refine wpAnyH_take (i := 4) (oi := { dst := some 81, op := Go.Op.fieldAddr 39 (Go.Operand.tmp 3) 1, type := 0, pos := "laws.go:447", after := #[], guard := none }) (v := ?_) rfl (by kernel_rfl) (by kernel_rfl) (by kernel_rfl) (fun _ _ _ h => h) (Or.inl ⟨by rfl, ?hy4⟩) (by assumption) ?_
            case hy4 => ((intro w hSw; (try dsimp only at hSw); go_simp); try with_reducible rfl)
            try simp only [Act.put, List.setIfInBounds_toArray, List.set_cons_zero, List.set_cons_succ]
            refine wpAnyH_take (i := 5) (oi := { dst := some 82, op := Go.Op.load 37 (Go.Operand.tmp 81), type := 37, pos := "laws.go:447", after := #[{ on := 4, ground := Go.Ground.data }], guard := none }) (v := ?_) rfl (by kernel_rfl) (by kernel_rfl) (by kernel_rfl) (fun _ _ _ h => h) (Or.inl ⟨by rfl, ?hy5⟩) (by assumption) ?_
            case hy5 => ((intro w hSw; (try dsimp only at hSw); go_simp); try with_reducible rfl)
            try simp only [Act.put, List.setIfInBounds_toArray, List.set_cons_zero, List.set_cons_succ]
            refine wpAnyH_take (i := 6) (oi := { dst := some 83, op := Go.Op.move (Go.Operand.tmp 5), type := 3, pos := "laws.go:447", after := #[], guard := none }) (v := ?_) rfl (by kernel_rfl) (by kernel_rfl) (by kernel_rfl) (fun _ _ _ h => h) (Or.inl ⟨by rfl, ?hy6⟩) (by assumption) ?_
            case hy6 => ((intro w hSw; (try dsimp only at hSw); go_simp); try with_reducible rfl)
            try simp only [Act.put, List.setIfInBounds_toArray, List.set_cons_zero, List.set_cons_succ]
            refine wpAnyH_take (i := 7) (oi := { dst := some 84, op := Go.Op.indexAddr 37 (Go.Operand.tmp 82) (Go.Operand.tmp 83), type := 0, pos := "laws.go:447", after := #[{ on := 5, ground := Go.Ground.data }, { on := 6, ground := Go.Ground.data }], guard := none }) (v := ?_) rfl (by kernel_rfl) (by kernel_rfl) (by kernel_rfl) (fun _ _ _ h => h) (Or.inl ⟨by rfl, ?hy7⟩) (by assumption) ?_
            case hy7 => ((intro w hSw; (try dsimp only at hSw); go_simp); try with_reducible rfl)
            try simp only [Act.put, List.setIfInBounds_toArray, List.set_cons_zero, List.set_cons_succ]
            refine wpAnyH_take (i := 8) (oi := { dst := some 85, op := Go.Op.fieldAddr 77 (Go.Operand.tmp 84) 0, type := 0, pos := "laws.go:447", after := #[{ on := 7, ground := Go.Ground.data }], guard := none }) (v := ?_) rfl (by kernel_rfl) (by kernel_rfl) (by kernel_rfl) (fun _ _ _ h => h) (Or.inl ⟨by rfl, ?hy8⟩) (by assumption) ?_
            case hy8 => ((intro w hSw; (try dsimp only at hSw); go_simp); try with_reducible rfl)
            try simp only [Act.put, List.setIfInBounds_toArray, List.set_cons_zero, List.set_cons_succ]
            refine wpAnyH_take (i := 9) (oi := { dst := some 86, op := Go.Op.load 9 (Go.Operand.tmp 85), type := 9, pos := "laws.go:447", after := #[{ on := 8, ground := Go.Ground.data }], guard := none }) (v := ?_) rfl (by kernel_rfl) (by kernel_rfl) (by kernel_rfl) (fun _ _ _ h => h) (Or.inl ⟨by rfl, ?hy9⟩) (by assumption) ?_
            case hy9 => ((intro w hSw; (try dsimp only at hSw); go_simp); try with_reducible rfl)
            try simp only [Act.put, List.setIfInBounds_toArray, List.set_cons_zero, List.set_cons_succ]
            refine wpAnyH_ready (rs := [3]) (by kernel_rfl) (by simp) ?_
            refine AllReadyH.cons (o := { dst := some 80, op := Go.Op.call { callee := Go.Callee.value (Go.Operand.func 46), args := #[Go.Operand.tmp 77, Go.Operand.tmp 79], argTypes := #[39, 3] }, type := 59, pos := "laws.go:447", after := #[{ on := 0, ground := Go.Ground.data }, { on := 2, ground := Go.Ground.data }], guard := none }) rfl (fun K hK => ?_) AllReadyH.nil
            go_simp
            refine (implVersAt now _ m cb lv now _ (HO.out.on hHeld.2).sl HS.out (by have := HM.out; omega)).mono ?_
            rintro e wa ⟨va, rfl, oa, hba⟩
            obtain ⟨R, cR, rfl, -, -⟩ := oa.form
            rw [atRes_ok HK.out HP.out.1.1 (Int.le_refl now)] at oa ⊢
            have hbA := bel_trans hHeld.2 hba
            have HRW := Lib.hid (at_rowsP HP.out HP.out.1.1 (Int.le_refl now))
            go_wp2_with fail
            refine hK.out _ _ ⟨⟨(HC.out _ hbA).1, (HC.out _ hbA).2.1, (HCE.out _ hbA).1, (HCE.out _ hbA).2.1, (HCE.out _ hbA).2.2.1⟩, hbA⟩ (fun hHeld => ?_)
            clear hK K
            try simp only [Act.put, List.setIfInBounds_toArray, List.set_cons_zero, List.set_cons_succ]
            refine wpAnyH_ready (rs := [10]) (by kernel_rfl) (by simp) ?_
            refine AllReadyH.cons (o := { dst := some 87, op := Go.Op.call { callee := Go.Callee.value (Go.Operand.func 61), args := #[Go.Operand.tmp 80, Go.Operand.tmp 86], argTypes := #[59, 9] }, type := 78, pos := "laws.go:447", after := #[{ on := 3, ground := Go.Ground.data }, { on := 9, ground := Go.Ground.data }, { on := 3, ground := Go.Ground.chain }], guard := none }) rfl (fun K hK => ?_) AllReadyH.nil
            go_simp
            refine (implRowsGet R _ cR _ f0 _ oa.sl HRW.out.sm.wf (by have := HRW.out.1; omega)).mono ?_
            rintro e wb ⟨rfl, hbb⟩
            have hb18 := bel_trans hbA hbb
            rw [HG.out.1, HG.out.2]
            go_wp2_with fail
            refine hK.out _ _ ⟨⟨(HC.out _ hb18).1, (HC.out _ hb18).2.1, (HCE.out _ hb18).1, (HCE.out _ hb18).2.1, (HCE.out _ hb18).2.2.1⟩, hb18⟩ (fun hHeld => ?_)
            clear hK K
            try simp only [Act.put, List.setIfInBounds_toArray, List.set_cons_zero, List.set_cons_succ]
            refine wpAnyH_take (i := 11) (oi := { dst := some 76, op := Go.Op.move (Go.Operand.tmp 87), type := 78, pos := "laws.go:447", after := #[{ on := 10, ground := Go.Ground.data }], guard := none }) (v := ?_) rfl (by kernel_rfl) (by kernel_rfl) (by kernel_rfl) (fun _ _ _ h => h) (Or.inl ⟨by rfl, ?hy11⟩) (by assumption) ?_
            case hy11 => ((intro w hSw; (try dsimp only at hSw); go_simp); try with_reducible rfl)
            try simp only [Act.put, List.setIfInBounds_toArray, List.set_cons_zero, List.set_cons_succ]
            refine wpAnyH_take (i := 12) (oi := { dst := some 88, op := Go.Op.extract (Go.Operand.tmp 76) 0, type := 3, pos := "laws.go:447", after := #[{ on := 11, ground := Go.Ground.data }], guard := none }) (v := ?_) rfl (by kernel_rfl) (by kernel_rfl) (by kernel_rfl) (fun _ _ _ h => h) (Or.inl ⟨by rfl, ?hy12⟩) (by assumption) ?_
            case hy12 => ((intro w hSw; (try dsimp only at hSw); go_simp); try with_reducible rfl)
            try simp only [Act.put, List.setIfInBounds_toArray, List.set_cons_zero, List.set_cons_succ]
            refine wpAnyH_take (i := 13) (oi := { dst := some 89, op := Go.Op.extract (Go.Operand.tmp 76) 1, type := 4, pos := "laws.go:447", after := #[{ on := 11, ground := Go.Ground.data }, { on := 14, ground := Go.Ground.gcOnly Go.Departure.lateStores }], guard := none }) (v := ?_) rfl (by kernel_rfl) (by kernel_rfl) (by kernel_rfl) (fun _ _ _ h => h) (Or.inl ⟨by rfl, ?hy13⟩) (by assumption) ?_
            case hy13 => ((intro w hSw; (try dsimp only at hSw); go_simp); try with_reducible rfl)
            try simp only [Act.put, List.setIfInBounds_toArray, List.set_cons_zero, List.set_cons_succ]
            refine wpAnyH_take (i := 14) (oi := { dst := some 9, op := Go.Op.assign (Go.Operand.tmp 88), type := 3, pos := "laws.go:447", after := #[{ on := 12, ground := Go.Ground.data }, { on := 10, ground := Go.Ground.chain }, { on := 0, ground := Go.Ground.phase }, { on := 1, ground := Go.Ground.phase }, { on := 2, ground := Go.Ground.phase }, { on := 3, ground := Go.Ground.phase }, { on := 4, ground := Go.Ground.phase }, { on := 5, ground := Go.Ground.phase }, { on := 6, ground := Go.Ground.phase }, { on := 7, ground := Go.Ground.phase }, { on := 8, ground := Go.Ground.phase }, { on := 9, ground := Go.Ground.phase }, { on := 10, ground := Go.Ground.phase }, { on := 11, ground := Go.Ground.phase }, { on := 12, ground := Go.Ground.phase }, { on := 13, ground := Go.Ground.textOnly Go.Departure.lateStores }], guard := none }) (v := ?_) rfl (by kernel_rfl) (by kernel_rfl) (by kernel_rfl) (fun _ _ _ h => h) (Or.inl ⟨by rfl, ?hy14⟩) (by assumption) ?_
            case hy14 => ((intro w hSw; (try dsimp only at hSw); go_simp); try with_reducible rfl)
            try simp only [Act.put, List.setIfInBounds_toArray, List.set_cons_zero, List.set_cons_succ]
            refine wpAnyH_take (i := 15) (oi := { dst := some 10, op := Go.Op.assign (Go.Operand.tmp 89), type := 4, pos := "laws.go:447", after := #[{ on := 13, ground := Go.Ground.data }, { on := 14, ground := Go.Ground.chain }, { on := 0, ground := Go.Ground.phase }, { on := 1, ground := Go.Ground.phase }, { on := 2, ground := Go.Ground.phase }, { on := 3, ground := Go.Ground.phase }, { on := 4, ground := Go.Ground.phase }, { on := 5, ground := Go.Ground.phase }, { on := 6, ground := Go.Ground.phase }, { on := 7, ground := Go.Ground.phase }, { on := 8, ground := Go.Ground.phase }, { on := 9, ground := Go.Ground.phase }, { on := 10, ground := Go.Ground.phase }, { on := 11, ground := Go.Ground.phase }, { on := 12, ground := Go.Ground.phase }, { on := 13, ground := Go.Ground.phase }, { on := 14, ground := Go.Ground.phase }], guard := none }) (v := ?_) rfl (by kernel_rfl) (by kernel_rfl) (by kernel_rfl) (fun _ _ _ h => h) (Or.inl ⟨by rfl, ?hy15⟩) (by assumption) ?_
            case hy15 => ((intro w hSw; (try dsimp only at hSw); go_simp); try with_reducible rfl)
            try simp only [Act.put, List.setIfInBounds_toArray, List.set_cons_zero, List.set_cons_succ]
            refine wpAnyH_done (by kernel_rfl) ?_ _
            go_wp2_with fail
            refine wp_region_held_drew (S := (fun W' => (W'.cell? ⟨D, 0, none⟩ = some (.int .i64 now) ∧ W'.cell? ⟨D, 1, none⟩ = some (.slice (some ⟨d, 0, none⟩) m cb) ∧ W'.cell? ⟨d, k * 4, none⟩ = some (.string f0) ∧ W'.cell? ⟨d, k * 4 + 1, none⟩ = some (.int .i64 f1) ∧ W'.cell? ⟨d, k * 4 + 2, none⟩ = some (.int .i64 f2)) ∧ Below w2.heap.size w2 W')) (by kernel_rfl) ⟨⟨(HC.out _ (bel_drewN hb18 1)).1, (HC.out _ (bel_drewN hb18 1)).2.1, (HCE.out _ (bel_drewN hb18 1)).1, (HCE.out _ (bel_drewN hb18 1)).2.1, (HCE.out _ (bel_drewN hb18 1)).2.2.1⟩, (bel_drewN hb18 1)⟩ (fun hHeld => ?_)
            refine wpAnyH_take (i := 0) (oi := { dst := some 90, op := Go.Op.move (Go.Operand.tmp 10), type := 4, pos := "laws.go:448", after := #[], guard := none }) (v := ?_) rfl (by kernel_rfl) (by kernel_rfl) (by kernel_rfl) (fun _ _ _ h => h) (Or.inl ⟨by rfl, ?hy0⟩) (by assumption) ?_
            case hy0 => ((intro w hSw; (try dsimp only at hSw); go_simp); try with_reducible rfl)
            try simp only [Act.put, List.setIfInBounds_toArray, List.set_cons_zero, List.set_cons_succ]
            refine wpAnyH_take (i := 1) (oi := { dst := some 91, op := Go.Op.unOp Go.UnOp.not 4 (Go.Operand.tmp 90), type := 4, pos := "laws.go:448", after := #[{ on := 0, ground := Go.Ground.data }], guard := none }) (v := ?_) rfl (by kernel_rfl) (by kernel_rfl) (by kernel_rfl) (fun _ _ _ h => h) (Or.inl ⟨by rfl, ?hy1⟩) (by assumption) ?_
            case hy1 => ((intro w hSw; (try dsimp only at hSw); go_simp); try with_reducible rfl)
            try simp only [Act.put, List.setIfInBounds_toArray, List.set_cons_zero, List.set_cons_succ]
            refine wpAnyH_take (i := 2) (oi := { dst := some 92, op := Go.Op.move (Go.Operand.tmp 91), type := 4, pos := "laws.go:448", after := #[{ on := 1, ground := Go.Ground.data }], guard := none }) (v := ?_) rfl (by kernel_rfl) (by kernel_rfl) (by kernel_rfl) (fun _ _ _ h => h) (Or.inl ⟨by rfl, ?hy2⟩) (by assumption) ?_
            case hy2 => ((intro w hSw; (try dsimp only at hSw); go_simp); try with_reducible rfl)
            try simp only [Act.put, List.setIfInBounds_toArray, List.set_cons_zero, List.set_cons_succ]
            refine wpAnyH_take (i := 3) (oi := { dst := some 93, op := Go.Op.move (Go.Operand.tmp 9), type := 3, pos := "laws.go:448", after := #[{ on := 2, ground := Go.Ground.guard }], guard := some (2, false) }) (v := ?_) rfl (by kernel_rfl) (by kernel_rfl) (by kernel_rfl) (fun _ _ _ h => h) (Or.inl ⟨by rfl, ?hy3⟩) (by assumption) ?_
            case hy3 => ((intro w hSw; (try dsimp only at hSw); go_simp); try with_reducible rfl)
            try simp only [Act.put, List.setIfInBounds_toArray, List.set_cons_zero, List.set_cons_succ]
            refine wpAnyH_take (i := 4) (oi := { dst := some 94, op := Go.Op.fieldAddr 39 (Go.Operand.tmp 3) 1, type := 0, pos := "laws.go:448", after := #[{ on := 2, ground := Go.Ground.guard }], guard := some (2, false) }) (v := ?_) rfl (by kernel_rfl) (by kernel_rfl) (by kernel_rfl) (fun _ _ _ h => h) (Or.inl ⟨by rfl, ?hy4⟩) (by assumption) ?_
            case hy4 => ((intro w hSw; (try dsimp only at hSw); go_simp); try with_reducible rfl)
            try simp only [Act.put, List.setIfInBounds_toArray, List.set_cons_zero, List.set_cons_succ]
            refine wpAnyH_take (i := 5) (oi := { dst := some 95, op := Go.Op.load 37 (Go.Operand.tmp 94), type := 37, pos := "laws.go:448", after := #[{ on := 4, ground := Go.Ground.data }, { on := 2, ground := Go.Ground.guard }], guard := some (2, false) }) (v := ?_) rfl (by kernel_rfl) (by kernel_rfl) (by kernel_rfl) (fun _ _ _ h => h) (Or.inl ⟨by rfl, ?hy5⟩) (by assumption) ?_
            case hy5 => ((intro w hSw; (try dsimp only at hSw); go_simp); try with_reducible rfl)
            try simp only [Act.put, List.setIfInBounds_toArray, List.set_cons_zero, List.set_cons_succ]
            refine wpAnyH_take (i := 6) (oi := { dst := some 96, op := Go.Op.move (Go.Operand.tmp 5), type := 3, pos := "laws.go:448", after := #[{ on := 2, ground := Go.Ground.guard }], guard := some (2, false) }) (v := ?_) rfl (by kernel_rfl) (by kernel_rfl) (by kernel_rfl) (fun _ _ _ h => h) (Or.inl ⟨by rfl, ?hy6⟩) (by assumption) ?_
            case hy6 => ((intro w hSw; (try dsimp only at hSw); go_simp); try with_reducible rfl)
            try simp only [Act.put, List.setIfInBounds_toArray, List.set_cons_zero, List.set_cons_succ]
            refine wpAnyH_take (i := 7) (oi := { dst := some 97, op := Go.Op.indexAddr 37 (Go.Operand.tmp 95) (Go.Operand.tmp 96), type := 0, pos := "laws.go:448", after := #[{ on := 5, ground := Go.Ground.data }, { on := 6, ground := Go.Ground.data }, { on := 2, ground := Go.Ground.guard }], guard := some (2, false) }) (v := ?_) rfl (by kernel_rfl) (by kernel_rfl) (by kernel_rfl) (fun _ _ _ h => h) (Or.inl ⟨by rfl, ?hy7⟩) (by assumption) ?_
            case hy7 => ((intro w hSw; (try dsimp only at hSw); go_simp); try with_reducible rfl)
            try simp only [Act.put, List.setIfInBounds_toArray, List.set_cons_zero, List.set_cons_succ]
            refine wpAnyH_take (i := 8) (oi := { dst := some 98, op := Go.Op.fieldAddr 77 (Go.Operand.tmp 97) 1, type := 0, pos := "laws.go:448", after := #[{ on := 7, ground := Go.Ground.data }, { on := 2, ground := Go.Ground.guard }], guard := some (2, false) }) (v := ?_) rfl (by kernel_rfl) (by kernel_rfl) (by kernel_rfl) (fun _ _ _ h => h) (Or.inl ⟨by rfl, ?hy8⟩) (by assumption) ?_
            case hy8 => ((intro w hSw; (try dsimp only at hSw); go_simp); try with_reducible rfl)
            try simp only [Act.put, List.setIfInBounds_toArray, List.set_cons_zero, List.set_cons_succ]
            refine wpAnyH_take (i := 9) (oi := { dst := some 99, op := Go.Op.load 3 (Go.Operand.tmp 98), type := 3, pos := "laws.go:448", after := #[{ on := 8, ground := Go.Ground.data }, { on := 2, ground := Go.Ground.guard }], guard := some (2, false) }) (v := ?_) rfl (by kernel_rfl) (by kernel_rfl) (by kernel_rfl) (fun _ _ _ h => h) (Or.inl ⟨by rfl, ?hy9⟩) (by assumption) ?_
            case hy9 => ((intro w hSw; (try dsimp only at hSw); go_simp); try with_reducible rfl)
            try simp only [Act.put, List.setIfInBounds_toArray, List.set_cons_zero, List.set_cons_succ]
            refine wpAnyH_take (i := 10) (oi := { dst := some 100, op := Go.Op.binOp Go.BinOp.neq 3 (Go.Operand.tmp 93) (Go.Operand.tmp 99) 3, type := 4, pos := "laws.go:448", after := #[{ on := 3, ground := Go.Ground.data }, { on := 9, ground := Go.Ground.data }, { on := 2, ground := Go.Ground.guard }], guard := some (2, false) }) (v := ?_) rfl (by kernel_rfl) (by kernel_rfl) (by kernel_rfl) (fun _ _ _ h => h) (Or.inl ⟨by rfl, ?hy10⟩) (by assumption) ?_
            case hy10 => ((intro w hSw; (try dsimp only at hSw); go_simp); try with_reducible rfl)
            try simp only [Act.put, List.setIfInBounds_toArray, List.set_cons_zero, List.set_cons_succ]
            refine wpAnyH_take (i := 11) (oi := { dst := some 101, op := Go.Op.pick (Go.Operand.tmp 92) (Go.Operand.const (Go.Value.bool true)) (Go.Operand.tmp 100), type := 4, pos := "laws.go:448", after := #[{ on := 2, ground := Go.Ground.data }, { on := 10, ground := Go.Ground.data }], guard := none }) (v := ?_) rfl (by kernel_rfl) (by kernel_rfl) (by kernel_rfl) (fun _ _ _ h => h) (Or.inl ⟨by rfl, ?hy11⟩) (by assumption) ?_
            case hy11 => ((intro w hSw; (try dsimp only at hSw); go_simp); try with_reducible rfl)
            try simp only [Act.put, List.setIfInBounds_toArray, List.set_cons_zero, List.set_cons_succ]
            refine wpAnyH_take (i := 12) (oi := { dst := some 102, op := Go.Op.move (Go.Operand.tmp 101), type := 4, pos := "laws.go:448", after := #[{ on := 11, ground := Go.Ground.data }, { on := 2, ground := Go.Ground.chain }], guard := none }) (v := ?_) rfl (by kernel_rfl) (by kernel_rfl) (by kernel_rfl) (fun _ _ _ h => h) (Or.inl ⟨by rfl, ?hy12⟩) (by assumption) ?_
            case hy12 => ((intro w hSw; (try dsimp only at hSw); go_simp); try with_reducible rfl)
            try simp only [Act.put, List.setIfInBounds_toArray, List.set_cons_zero, List.set_cons_succ]
            refine wpAnyH_take (i := 13) (oi := { dst := some 103, op := Go.Op.load 39 (Go.Operand.tmp 3), type := 39, pos := "laws.go:448", after := #[{ on := 12, ground := Go.Ground.guard }], guard := some (12, false) }) (v := ?_) rfl (by kernel_rfl) (by kernel_rfl) (by kernel_rfl) (fun _ _ _ h => h) (Or.inl ⟨by rfl, ?hy13⟩) (by assumption) ?_
            case hy13 => ((intro w hSw; (try dsimp only at hSw); go_simp); try with_reducible rfl)
            try simp only [Act.put, List.setIfInBounds_toArray, List.set_cons_zero, List.set_cons_succ]
            refine wpAnyH_take (i := 14) (oi := { dst := some 104, op := Go.Op.fieldAddr 39 (Go.Operand.tmp 3) 1, type := 0, pos := "laws.go:448", after := #[{ on := 12, ground := Go.Ground.guard }], guard := some (12, false) }) (v := ?_) rfl (by kernel_rfl) (by kernel_rfl) (by kernel_rfl) (fun _ _ _ h => h) (Or.inl ⟨by rfl, ?hy14⟩) (by assumption) ?_
            case hy14 => ((intro w hSw; (try dsimp only at hSw); go_simp); try with_reducible rfl)
            try simp only [Act.put, List.setIfInBounds_toArray, List.set_cons_zero, List.set_cons_succ]
            refine wpAnyH_take (i := 15) (oi := { dst := some 105, op := Go.Op.load 37 (Go.Operand.tmp 104), type := 37, pos := "laws.go:448", after := #[{ on := 14, ground := Go.Ground.data }, { on := 12, ground := Go.Ground.guard }], guard := some (12, false) }) (v := ?_) rfl (by kernel_rfl) (by kernel_rfl) (by kernel_rfl) (fun _ _ _ h => h) (Or.inl ⟨by rfl, ?hy15⟩) (by assumption) ?_
            case hy15 => ((intro w hSw; (try dsimp only at hSw); go_simp); try with_reducible rfl)
            try simp only [Act.put, List.setIfInBounds_toArray, List.set_cons_zero, List.set_cons_succ]
            refine wpAnyH_take (i := 16) (oi := { dst := some 106, op := Go.Op.move (Go.Operand.tmp 5), type := 3, pos := "laws.go:448", after := #[{ on := 12, ground := Go.Ground.guard }], guard := some (12, false) }) (v := ?_) rfl (by kernel_rfl) (by kernel_rfl) (by kernel_rfl) (fun _ _ _ h => h) (Or.inl ⟨by rfl, ?hy16⟩) (by assumption) ?_
            case hy16 => ((intro w hSw; (try dsimp only at hSw); go_simp); try with_reducible rfl)
            try simp only [Act.put, List.setIfInBounds_toArray, List.set_cons_zero, List.set_cons_succ]
            refine wpAnyH_take (i := 17) (oi := { dst := some 107, op := Go.Op.indexAddr 37 (Go.Operand.tmp 105) (Go.Operand.tmp 106), type := 0, pos := "laws.go:448", after := #[{ on := 15, ground := Go.Ground.data }, { on := 16, ground := Go.Ground.data }, { on := 12, ground := Go.Ground.guard }], guard := some (12, false) }) (v := ?_) rfl (by kernel_rfl) (by kernel_rfl) (by kernel_rfl) (fun _ _ _ h => h) (Or.inl ⟨by rfl, ?hy17⟩) (by assumption) ?_
            case hy17 => ((intro w hSw; (try dsimp only at hSw); go_simp); try with_reducible rfl)
            try simp only [Act.put, List.setIfInBounds_toArray, List.set_cons_zero, List.set_cons_succ]
            refine wpAnyH_take (i := 18) (oi := { dst := some 108, op := Go.Op.fieldAddr 77 (Go.Operand.tmp 107) 0, type := 0, pos := "laws.go:448", after := #[{ on := 17, ground := Go.Ground.data }, { on := 12, ground := Go.Ground.guard }], guard := some (12, false) }) (v := ?_) rfl (by kernel_rfl) (by kernel_rfl) (by kernel_rfl) (fun _ _ _ h => h) (Or.inl ⟨by rfl, ?hy18⟩) (by assumption) ?_
            case hy18 => ((intro w hSw; (try dsimp only at hSw); go_simp); try with_reducible rfl)
            try simp only [Act.put, List.setIfInBounds_toArray, List.set_cons_zero, List.set_cons_succ]
            refine wpAnyH_take (i := 19) (oi := { dst := some 109, op := Go.Op.load 9 (Go.Operand.tmp 108), type := 9, pos := "laws.go:448", after := #[{ on := 18, ground := Go.Ground.data }, { on := 12, ground := Go.Ground.guard }], guard := some (12, false) }) (v := ?_) rfl (by kernel_rfl) (by kernel_rfl) (by kernel_rfl) (fun _ _ _ h => h) (Or.inl ⟨by rfl, ?hy19⟩) (by assumption) ?_
            case hy19 => ((intro w hSw; (try dsimp only at hSw); go_simp); try with_reducible rfl)
            try simp only [Act.put, List.setIfInBounds_toArray, List.set_cons_zero, List.set_cons_succ]
            refine wpAnyH_take (i := 21) (oi := { dst := some 111, op := Go.Op.fieldAddr 39 (Go.Operand.tmp 3) 1, type := 0, pos := "laws.go:448", after := #[{ on := 12, ground := Go.Ground.guard }], guard := some (12, false) }) (v := ?_) rfl (by kernel_rfl) (by kernel_rfl) (by kernel_rfl) (fun _ _ _ h => h) (Or.inl ⟨by rfl, ?hy21⟩) (by assumption) ?_
            case hy21 => ((intro w hSw; (try dsimp only at hSw); go_simp); try with_reducible rfl)
            try simp only [Act.put, List.setIfInBounds_toArray, List.set_cons_zero, List.set_cons_succ]
            refine wpAnyH_take (i := 22) (oi := { dst := some 112, op := Go.Op.load 37 (Go.Operand.tmp 111), type := 37, pos := "laws.go:448", after := #[{ on := 21, ground := Go.Ground.data }, { on := 12, ground := Go.Ground.guard }], guard := some (12, false) }) (v := ?_) rfl (by kernel_rfl) (by kernel_rfl) (by kernel_rfl) (fun _ _ _ h => h) (Or.inl ⟨by rfl, ?hy22⟩) (by assumption) ?_
            case hy22 => ((intro w hSw; (try dsimp only at hSw); go_simp); try with_reducible rfl)
            try simp only [Act.put, List.setIfInBounds_toArray, List.set_cons_zero, List.set_cons_succ]
            refine wpAnyH_take (i := 23) (oi := { dst := some 113, op := Go.Op.move (Go.Operand.tmp 5), type := 3, pos := "laws.go:448", after := #[{ on := 12, ground := Go.Ground.guard }], guard := some (12, false) }) (v := ?_) rfl (by kernel_rfl) (by kernel_rfl) (by kernel_rfl) (fun _ _ _ h => h) (Or.inl ⟨by rfl, ?hy23⟩) (by assumption) ?_
            case hy23 => ((intro w hSw; (try dsimp only at hSw); go_simp); try with_reducible rfl)
            try simp only [Act.put, List.setIfInBounds_toArray, List.set_cons_zero, List.set_cons_succ]
            refine wpAnyH_take (i := 24) (oi := { dst := some 114, op := Go.Op.indexAddr 37 (Go.Operand.tmp 112) (Go.Operand.tmp 113), type := 0, pos := "laws.go:448", after := #[{ on := 22, ground := Go.Ground.data }, { on := 23, ground := Go.Ground.data }, { on := 12, ground := Go.Ground.guard }], guard := some (12, false) }) (v := ?_) rfl (by kernel_rfl) (by kernel_rfl) (by kernel_rfl) (fun _ _ _ h => h) (Or.inl ⟨by rfl, ?hy24⟩) (by assumption) ?_
            case hy24 => ((intro w hSw; (try dsimp only at hSw); go_simp); try with_reducible rfl)
            try simp only [Act.put, List.setIfInBounds_toArray, List.set_cons_zero, List.set_cons_succ]
            refine wpAnyH_take (i := 25) (oi := { dst := some 115, op := Go.Op.fieldAddr 77 (Go.Operand.tmp 114) 2, type := 0, pos := "laws.go:448", after := #[{ on := 24, ground := Go.Ground.data }, { on := 12, ground := Go.Ground.guard }], guard := some (12, false) }) (v := ?_) rfl (by kernel_rfl) (by kernel_rfl) (by kernel_rfl) (fun _ _ _ h => h) (Or.inl ⟨by rfl, ?hy25⟩) (by assumption) ?_
            case hy25 => ((intro w hSw; (try dsimp only at hSw); go_simp); try with_reducible rfl)
            try simp only [Act.put, List.setIfInBounds_toArray, List.set_cons_zero, List.set_cons_succ]
            refine wpAnyH_take (i := 26) (oi := { dst := some 116, op := Go.Op.load 3 (Go.Operand.tmp 115), type := 3, pos := "laws.go:448", after := #[{ on := 25, ground := Go.Ground.data }, { on := 12, ground := Go.Ground.guard }], guard := some (12, false) }) (v := ?_) rfl (by kernel_rfl) (by kernel_rfl) (by kernel_rfl) (fun _ _ _ h => h) (Or.inl ⟨by rfl, ?hy26⟩) (by assumption) ?_
            case hy26 => ((intro w hSw; (try dsimp only at hSw); go_simp); try with_reducible rfl)
            try simp only [Act.put, List.setIfInBounds_toArray, List.set_cons_zero, List.set_cons_succ]
            refine wpAnyH_ready (rs := [20]) (by kernel_rfl) (by simp) ?_
            refine AllReadyH.cons (o := { dst := some 110, op := Go.Op.call { callee := Go.Callee.value (Go.Operand.func 44), args := #[Go.Operand.tmp 103, Go.Operand.tmp 109], argTypes := #[39, 9] }, type := 3, pos := "laws.go:448", after := #[{ on := 13, ground := Go.Ground.data }, { on := 19, ground := Go.Ground.data }, { on := 12, ground := Go.Ground.chain }, { on := 12, ground := Go.Ground.guard }], guard := some (12, false) }) rfl (fun K hK => ?_) AllReadyH.nil
            go_simp
            refine (implVersLast now _ m cb lv f0 _ (HO.out.on hHeld.2).sl HS.out (by have := HM.out; omega)).mono ?_
            rintro e wc ⟨rfl, hbc⟩
            have hb19 := bel_trans hHeld.2 hbc
            rw [lastRes_ok HK.out, HLA.out]
            go_wp2_with fail
            refine hK.out _ _ ⟨⟨(HC.out _ hb19).1, (HC.out _ hb19).2.1, (HCE.out _ hb19).1, (HCE.out _ hb19).2.1, (HCE.out _ hb19).2.2.1⟩, hb19⟩ (fun hHeld => ?_)
            clear hK K
            try simp only [Act.put, List.setIfInBounds_toArray, List.set_cons_zero, List.set_cons_succ]
            refine wpAnyH_take (i := 27) (oi := { dst := some 117, op := Go.Op.binOp Go.BinOp.neq 3 (Go.Operand.tmp 110) (Go.Operand.tmp 116) 3, type := 4, pos := "laws.go:448", after := #[{ on := 20, ground := Go.Ground.data }, { on := 26, ground := Go.Ground.data }, { on := 12, ground := Go.Ground.guard }], guard := some (12, false) }) (v := ?_) rfl (by kernel_rfl) (by kernel_rfl) (by kernel_rfl) (fun _ _ _ h => h) (Or.inl ⟨by rfl, ?hy27⟩) (by assumption) ?_
            case hy27 => ((intro w hSw; (try dsimp only at hSw); go_simp); try with_reducible rfl)
            try simp only [Act.put, List.setIfInBounds_toArray, List.set_cons_zero, List.set_cons_succ]
            refine wpAnyH_take (i := 28) (oi := { dst := some 118, op := Go.Op.pick (Go.Operand.tmp 102) (Go.Operand.const (Go.Value.bool true)) (Go.Operand.tmp 117), type := 4, pos := "laws.go:448", after := #[{ on := 12, ground := Go.Ground.data }, { on := 27, ground := Go.Ground.data }], guard := none }) (v := ?_) rfl (by kernel_rfl) (by kernel_rfl) (by kernel_rfl) (fun _ _ _ h => h) (Or.inl ⟨by rfl, ?hy28⟩) (by assumption) ?_
            case hy28 => ((intro w hSw; (try dsimp only at hSw); go_simp); try with_reducible rfl)
            try simp only [Act.put, List.setIfInBounds_toArray, List.set_cons_zero, List.set_cons_succ]
            refine wpAnyH_done (by kernel_rfl) ?_ _
            go_wp2_with fail
            go_roundw
            case rel => exact ⟨k + 1, by go_num, by omega, hb19⟩
            case measure => simp [intOf]; omega
          · have z1 : (f3 == 0) = false := by simp; omega
            go_wp2_with fail
            go_roundw
            case rel => exact ⟨k + 1, by go_num, by omega, hbq⟩
            case measure => simp [intOf]; omega
    · obtain rfl : i = m := by omega
      have hlt' : ¬ (i : Int) < (i : Int) := by omega
      go_wp2
      go_ret
      exact ⟨rfl, bel_trans HB.out hbw⟩
end Go.Proofs.Ytpofgidhhcolfaa
