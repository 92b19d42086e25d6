/- Contract: DrawVersSame. -/
import Derived.Test.YtpofgidhhcolfaaX13
namespace Go.Proofs.Ytpofgidhhcolfaa
open Go.RowKit

theorem Rd.drew {w : World} {g p : Nat} {A : Option Addr} {m c : Nat} {l : List UInt8} (h : Rd w g p A m c l) : Rd w.drew g p A m c l := h
def DrawVVPost (w : World) (e : Ending) (w' : World) : Prop :=
  ∃ (now : Int) (B : Option Addr) (n cb : Nat) (lv : List Ver) (now2 : Int) (B2 : Option Addr) (n2 cb2 : Nat) (lv2 : List Ver), e = .returned (.tuple #[.agg #[.int .i64 now, .slice B n cb], .agg #[.int .i64 now2, .slice B2 n2 cb2]]) ∧
    Own encVer 4 77 w' w.heap.size (.slice B n cb) lv ∧ Own encVer 4 77 w' w.heap.size (.slice B2 n2 cb2) lv2 ∧ n ≤ 200 ∧ n2 ≤ 200 ∧ -1000 ≤ now ∧ now ≤ 1000 ∧ Below w.heap.size w w'
set_option maxHeartbeats 8000000 in
set_option maxRecDepth 100000 in
theorem drawVersSame (A : Option Addr) (n c : Nat) (l : List UInt8) (w : World) (hr : Sl encB w w.heap.size A n l) (hn : n ≤ 1048576) (hc : n ≤ c) :
    Calls Try.prog 58 #[.slice A n c] w (DrawVVPost w) := by
  have HN := Lib.hid hn
  have HC := Lib.hid hc
  clear hn hc
  have xa := (BoxC.new w 39 #[.int .i64 0, .slice none 0 0]).alloc (.cells #[.int .i64 0, .slice none 0 0] 39)
  have xb := BoxC.new (w.alloc (.cells #[.int .i64 0, .slice none 0 0] 39)) 39 #[.int .i64 0, .slice none 0 0]
  simp only [World.size_alloc] at xb
  have b0 := bel_alloc (bel_alloc (Below.refl _ w) (.cells #[.int .i64 0, .slice none 0 0] 39)) (.cells #[.int .i64 0, .slice none 0 0] 39)
  have hz0 : ((w.alloc (.cells #[.int .i64 0, .slice none 0 0] 39)).alloc (.cells #[.int .i64 0, .slice none 0 0] 39)).heap.size = w.heap.size + 2 := by simp
  have hr0 := hr.on b0
  go_enter Try.func58, Try.ntmps58
  go_wp2_with fail
  generalize (w.alloc (.cells #[.int .i64 0, .slice none 0 0] 39)).alloc (.cells #[.int .i64 0, .slice none 0 0] 39) = w0 at *
  refine (l11Open A n c l w0 hr0 HN.out HC.out).mono ?_
  rintro e w1 ⟨A1, m, c1, l1, rfl, r1, hb1⟩
  rw [hz0] at r1
  rw [hz0]
  replace xa := xa.on hb1
  replace xb := xb.on hb1
  have b1 := bel_trans b0 hb1
  have ha2 : w.heap.size ≠ w.heap.size + 2 := by omega
  have hb2 : w.heap.size + 1 ≠ w.heap.size + 2 := by omega
  have hg2 := r1.lt
  have hz1 : w.heap.size ≤ w1.heap.size := b1.size
  clear hr0 hr hb1 b0 hz0
  go_wp2_with fail
  refine (l2Some (w.heap.size + 2) 0 A1 m c1 l1 w1 r1 (by omega)).mono ?_
  rintro e w2 ⟨now, B, cb, lv, p2, rfl, o2, hP2, hp2, r2, t2⟩
  replace xa := xa.turn t2 (fun x hx => by cases hx; exact ha2)
  replace xb := xb.turn t2 (fun x hx => by cases hx; exact hb2)
  have b2 := Rd.bel b1 t2 (by omega)
  have HVP := Lib.hid hP2
  have HP : Hid (p2 ≤ 650) := Lib.hid (by omega)
  have HQ : Hid (lv.length ≤ 60 ∧ 0 ≤ now ∧ now ≤ 40) := Lib.hid ⟨hP2.small, hP2.1.1, hP2.1.2.1⟩
  have hRP := at_rowsP hP2 hP2.1.1 (Int.le_refl now)
  have HRL : Hid ((atL lv now).length ≤ 1000) := Lib.hid (by have := hRP.1; omega)
  have HRS : Hid (∀ r ∈ atL lv now, r.1.size ≤ 3) := Lib.hid (fun r hr => by have := hRP.small r hr; omega)
  clear hRP hP2 r1 t2 b1 hp2
  have hD1 := r2.lt
  have hD2 := xb.lt
  have xd := BoxC.new w2 39 #[.int .i64 now, .slice B lv.length cb]
  replace xa := xa.alloc (.cells #[.int .i64 now, .slice B lv.length cb] 39)
  replace xb := xb.alloc (.cells #[.int .i64 now, .slice B lv.length cb] 39)
  replace o2 := o2.alloc (.cells #[.int .i64 now, .slice B lv.length cb] 39)
  have r4 := r2.on (bel_alloc (Below.refl _ w2) (.cells #[.int .i64 now, .slice B lv.length cb] 39))
  have b4 := bel_alloc b2 (.cells #[.int .i64 now, .slice B lv.length cb] 39)
  clear r2 b2
  go_wp2_with fail
  obtain ⟨D, hD⟩ : ∃ D, w2.heap.size = D := ⟨_, rfl⟩
  rw [hD] at xd hD1 hD2
  rw [hD]
  clear hD
  generalize w2.alloc (.cells #[.int .i64 now, .slice B lv.length cb] 39) = w3 at *
  have hDg : D ≠ w.heap.size + 2 := by omega
  have hDa : D ≠ w.heap.size := by omega
  have hDb : D ≠ w.heap.size + 1 := by omega
  have qxd0 := xd.c (k := 0) rfl
  have qxd1 := xd.c (k := 1) rfl
  refine (pick (w.heap.size + 2) p2 2 A1 m c1 l1 w3 r4 (by omega) (by omega) (by have := HP.out; omega)).mono ?_
  rintro e w4 ⟨v, rfl, hv, r5, t5⟩
  replace xa := xa.turn t5 (fun x hx => by cases hx; exact ha2)
  replace xb := xb.turn t5 (fun x hx => by cases hx; exact hb2)
  replace xd := xd.turn t5 (fun x hx => by cases hx; exact hDg)
  replace o2 := o2.farRd t5 hg2
  replace b4 := Rd.bel b4 t5 (by omega)
  clear r4
  have r4 := r5
  clear r5 t5
  replace qxd0 := xd.c (k := 0) rfl
  replace qxd1 := xd.c (k := 1) rfl
  by_cases hv0 : v = 0
  · subst hv0
    go_wp2_with fail
    refine wp_region_held_drew (S := (fun W' => W'.cell? ⟨D, 0, none⟩ = some (.int .i64 now) ∧ W'.cell? ⟨D, 1, none⟩ = some (.slice B lv.length cb))) (by kernel_rfl) ⟨qxd0, qxd1⟩ (fun hHeld => ?_)
    replace xa := xa.drew
    replace xb := xb.drew
    replace xd := xd.drew
    replace o2 := o2.drew
    replace r4 := r4.drew
    replace b4 := b4.drew
    replace qxd0 := xd.c (k := 0) rfl
    replace qxd1 := xd.c (k := 1) rfl
    generalize w4.drew = wy at *
    refine wpAnyH_take (i := 0) (oi := { dst := some 16, op := Go.Op.load 39 (Go.Operand.tmp 5), type := 39, pos := "l2_snap.go:284", after := #[], guard := none }) (v := ?_) rfl (by kernel_rfl) (by kernel_rfl) (by kernel_rfl) (fun _ _ _ h => h) (Or.inl ⟨by rfl, ?hy1_0⟩) (by assumption) ?_
    case hy1_0 => ((intro w hSw; (try dsimp only at hSw); go_simp); try with_reducible rfl)
    try simp only [Act.put, List.setIfInBounds_toArray, List.set_cons_zero, List.set_cons_succ]
    refine wpAnyH_take (i := 1) (oi := { dst := some 17, op := Go.Op.move (Go.Operand.tmp 4), type := 124, pos := "l2_snap.go:284", after := #[], guard := none }) (v := ?_) rfl (by kernel_rfl) (by kernel_rfl) (by kernel_rfl) (fun _ _ _ h => h) (Or.inl ⟨by rfl, ?hy1_1⟩) (by assumption) ?_
    case hy1_1 => ((intro w hSw; (try dsimp only at hSw); go_simp); try with_reducible rfl)
    try simp only [Act.put, List.setIfInBounds_toArray, List.set_cons_zero, List.set_cons_succ]
    refine wpAnyH_take (i := 2) (oi := { dst := some 18, op := Go.Op.load 39 (Go.Operand.tmp 5), type := 39, pos := "l2_snap.go:284", after := #[], guard := none }) (v := ?_) rfl (by kernel_rfl) (by kernel_rfl) (by kernel_rfl) (fun _ _ _ h => h) (Or.inl ⟨by rfl, ?hy1_2⟩) (by assumption) ?_
    case hy1_2 => ((intro w hSw; (try dsimp only at hSw); go_simp); try with_reducible rfl)
    try simp only [Act.put, List.setIfInBounds_toArray, List.set_cons_zero, List.set_cons_succ]
    refine wpAnyH_take (i := 3) (oi := { dst := some 19, op := Go.Op.fieldAddr 39 (Go.Operand.tmp 5) 0, type := 0, pos := "l2_snap.go:284", after := #[], guard := none }) (v := ?_) rfl (by kernel_rfl) (by kernel_rfl) (by kernel_rfl) (fun _ _ _ h => h) (Or.inl ⟨by rfl, ?hy1_3⟩) (by assumption) ?_
    case hy1_3 => ((intro w hSw; (try dsimp only at hSw); go_simp); try with_reducible rfl)
    try simp only [Act.put, List.setIfInBounds_toArray, List.set_cons_zero, List.set_cons_succ]
    refine wpAnyH_take (i := 4) (oi := { dst := some 20, op := Go.Op.load 3 (Go.Operand.tmp 19), type := 3, pos := "l2_snap.go:284", after := #[{ on := 3, ground := Go.Ground.data }], guard := none }) (v := ?_) rfl (by kernel_rfl) (by kernel_rfl) (by kernel_rfl) (fun _ _ _ h => h) (Or.inl ⟨by rfl, ?hy1_4⟩) (by assumption) ?_
    case hy1_4 => ((intro w hSw; (try dsimp only at hSw); go_simp); try with_reducible rfl)
    try simp only [Act.put, List.setIfInBounds_toArray, List.set_cons_zero, List.set_cons_succ]
    refine wpAnyH_ready (rs := [5, 11]) (by kernel_rfl) (by simp) ?_
    refine (AllReadyH.cons (o := { dst := some 21, op := Go.Op.call { callee := Go.Callee.value (Go.Operand.func 90), args := #[Go.Operand.tmp 18, Go.Operand.tmp 20], argTypes := #[39, 3] }, type := 59, pos := "l2_snap.go:284", after := #[{ on := 2, ground := Go.Ground.data }, { on := 4, ground := Go.Ground.data }], guard := none }) rfl (fun K hK => ?_) (AllReadyH.cons (o := { dst := some 6, op := Go.Op.alloc 39, type := 0, pos := "l2_snap.go:284", after := #[], guard := none }) rfl (fun K hK => ?_) AllReadyH.nil))
    · skip
      go_simp
      have hgG := r4.lt
      refine (specAt now B lv.length cb lv now _ o2.sl (by have := HVP.out.1.2.2; omega)).mono ?_
      rintro e w5 ⟨v5, rfl, oR, hb5⟩
      obtain ⟨R, cR, rfl, -, -⟩ := oR.form
      replace xa := xa.on hb5
      replace xb := xb.on hb5
      replace xd := xd.on hb5
      replace o2 := o2.on hb5
      replace r4 := r4.on hb5
      replace b4 := bel_trans b4 hb5
      replace qxd0 := xd.c (k := 0) rfl
      replace qxd1 := xd.c (k := 1) rfl
      clear hb5
      go_wp2_with fail
      refine hK.out _ _ ⟨qxd0, qxd1⟩ (fun hHeld => ?_)
      clear hK K
      try simp only [Act.put, List.setIfInBounds_toArray, List.set_cons_zero, List.set_cons_succ]
      refine wpAnyH_ready (rs := [6, 11]) (by kernel_rfl) (by simp) ?_
      refine (AllReadyH.cons (o := { dst := some 22, op := Go.Op.call { callee := Go.Callee.value (Go.Operand.func 106), args := #[Go.Operand.tmp 17, Go.Operand.tmp 21], argTypes := #[124, 59] }, type := 27, pos := "l2_snap.go:284", after := #[{ on := 1, ground := Go.Ground.data }, { on := 5, ground := Go.Ground.data }, { on := 5, ground := Go.Ground.chain }], guard := none }) rfl (fun K hK => ?_) (AllReadyH.cons (o := { dst := some 6, op := Go.Op.alloc 39, type := 0, pos := "l2_snap.go:284", after := #[], guard := none }) rfl (fun K hK => ?_) AllReadyH.nil))
      · skip
        go_simp
        refine (l2Writes (w.heap.size + 2) (p2 + 1) A1 m c1 l1 R (atL lv now).length cR (atL lv now) _ r4 (by have := HP.out; omega) oR.sl HRL.out (fun x hx => by have := (oR.block hx).1; omega) HRS.out).mono ?_
        rintro e w6 ⟨W6, cW, lw, p6, rfl, oW, hWl, hWs, hp6, r6, t6⟩
        clear oR
        replace xa := xa.turn t6 (fun x hx => by cases hx; exact ha2)
        replace xb := xb.turn t6 (fun x hx => by cases hx; exact hb2)
        replace xd := xd.turn t6 (fun x hx => by cases hx; exact hDg)
        replace o2 := o2.farRd t6 hg2
        replace b4 := Rd.bel b4 t6 (by omega)
        clear r4
        have r4 := r6
        clear r6 t6
        replace qxd0 := xd.c (k := 0) rfl
        replace qxd1 := xd.c (k := 1) rfl
        have HWl := Lib.hid hWl
        have HWs := Lib.hid hWs
        clear hWl hWs hp6
        go_wp2_with fail
        refine hK.out _ _ ⟨qxd0, qxd1⟩ (fun hHeld => ?_)
        clear hK K
        try simp only [Act.put, List.setIfInBounds_toArray, List.set_cons_zero, List.set_cons_succ]
        refine wpAnyH_ready (rs := [7, 11]) (by kernel_rfl) (by simp) ?_
        refine (AllReadyH.cons (o := { dst := some 23, op := Go.Op.call { callee := Go.Callee.value (Go.Operand.func 105), args := #[Go.Operand.tmp 16, Go.Operand.tmp 22], argTypes := #[39, 27] }, type := 128, pos := "l2_snap.go:284", after := #[{ on := 0, ground := Go.Ground.data }, { on := 6, ground := Go.Ground.data }, { on := 6, ground := Go.Ground.chain }], guard := none }) rfl (fun K hK => ?_) (AllReadyH.cons (o := { dst := some 6, op := Go.Op.alloc 39, type := 0, pos := "l2_snap.go:284", after := #[], guard := none }) rfl (fun K hK => ?_) AllReadyH.nil))
        · skip
          go_simp
          have hz6 := b4.size
          refine (versDo now B lv.length cb lv W6 lw.length cW lw _ o2.sl HVP.out oW.sl HWs.out.wf (by have := HWl.out; omega)).mono ?_
          rintro e w7 ⟨v7, ok7, rfl, now7, A7, c7, l7, rfl, hP7, o7, hb7⟩
          clear oW
          replace xa := xa.on hb7
          replace xb := xb.on hb7
          replace xd := xd.on hb7
          replace o2 := o2.on hb7
          replace r4 := r4.on hb7
          replace b4 := bel_trans b4 hb7
          replace qxd0 := xd.c (k := 0) rfl
          replace qxd1 := xd.c (k := 1) rfl
          clear hb7
          have hl7 := hP7.1.2.2
          clear hP7 r4
          go_wp2_with fail
          refine hK.out _ _ ⟨qxd0, qxd1⟩ (fun hHeld => ?_)
          clear hK K
          try simp only [Act.put, List.setIfInBounds_toArray, List.set_cons_zero, List.set_cons_succ]
          refine wpAnyH_take (i := 8) (oi := { dst := some 15, op := Go.Op.move (Go.Operand.tmp 23), type := 128, pos := "l2_snap.go:284", after := #[{ on := 7, ground := Go.Ground.data }], guard := none }) (v := ?_) rfl (by kernel_rfl) (by kernel_rfl) (by kernel_rfl) (fun _ _ _ h => h) (Or.inl ⟨by rfl, ?hy2_8⟩) (by assumption) ?_
          case hy2_8 => ((intro w hSw; (try dsimp only at hSw); go_simp); try with_reducible rfl)
          try simp only [Act.put, List.setIfInBounds_toArray, List.set_cons_zero, List.set_cons_succ]
          refine wpAnyH_take (i := 9) (oi := { dst := some 24, op := Go.Op.extract (Go.Operand.tmp 15) 0, type := 39, pos := "l2_snap.go:284", after := #[{ on := 8, ground := Go.Ground.data }], guard := none }) (v := ?_) rfl (by kernel_rfl) (by kernel_rfl) (by kernel_rfl) (fun _ _ _ h => h) (Or.inl ⟨by rfl, ?hy2_9⟩) (by assumption) ?_
          case hy2_9 => ((intro w hSw; (try dsimp only at hSw); go_simp); try with_reducible rfl)
          try simp only [Act.put, List.setIfInBounds_toArray, List.set_cons_zero, List.set_cons_succ]
          refine wpAnyH_take (i := 10) (oi := { dst := some 25, op := Go.Op.extract (Go.Operand.tmp 15) 1, type := 4, pos := "l2_snap.go:284", after := #[{ on := 8, ground := Go.Ground.data }, { on := 12, ground := Go.Ground.gcOnly Go.Departure.lateStores }], guard := none }) (v := ?_) rfl (by kernel_rfl) (by kernel_rfl) (by kernel_rfl) (fun _ _ _ h => h) (Or.inl ⟨by rfl, ?hy2_10⟩) (by assumption) ?_
          case hy2_10 => ((intro w hSw; (try dsimp only at hSw); go_simp); try with_reducible rfl)
          try simp only [Act.put, List.setIfInBounds_toArray, List.set_cons_zero, List.set_cons_succ]
          refine wpAnyH_ready (rs := [11]) (by kernel_rfl) (by simp) ?_
          refine (AllReadyH.cons (o := { dst := some 6, op := Go.Op.alloc 39, type := 0, pos := "l2_snap.go:284", after := #[], guard := none }) rfl (fun K hK => ?_) AllReadyH.nil)
          have hEb := b4.size
          have hED := xd.lt
          have hEb2 := xb.lt
          have hEg : w.heap.size + 2 < w7.heap.size := by omega
          replace xa := xa.alloc (.cells #[.int .i64 0, .slice none 0 0] 39)
          replace xb := xb.alloc (.cells #[.int .i64 0, .slice none 0 0] 39)
          replace xd := xd.alloc (.cells #[.int .i64 0, .slice none 0 0] 39)
          replace o2 := o2.alloc (.cells #[.int .i64 0, .slice none 0 0] 39)
          replace o7 := o7.alloc (.cells #[.int .i64 0, .slice none 0 0] 39)
          replace b4 := bel_alloc b4 (.cells #[.int .i64 0, .slice none 0 0] 39)
          replace qxd0 := xd.c (k := 0) rfl
          replace qxd1 := xd.c (k := 1) rfl
          have xe : BoxC (w7.alloc (.cells #[.int .i64 0, .slice none 0 0] 39)) w7.heap.size 39 #[.int .i64 0, .slice none 0 0] := BoxC.new w7 39 #[.int .i64 0, .slice none 0 0]
          go_simp
          try go_wp2_with fail
          refine hK.out _ _ ⟨qxd0, qxd1⟩ (fun hHeld => ?_)
          clear hK K
          try simp only [Act.put, List.setIfInBounds_toArray, List.set_cons_zero, List.set_cons_succ]
          generalize w7.alloc (.cells #[.int .i64 0, .slice none 0 0] 39) = wa at *
          refine wpAnyH_ready (rs := [12]) (by kernel_rfl) (by simp) ?_
          refine (AllReadyH.cons (o := { dst := none, op := Go.Op.store 39 (Go.Operand.tmp 6) (Go.Operand.tmp 24), type := 0, pos := "l2_snap.go:284", after := #[{ on := 11, ground := Go.Ground.data }, { on := 9, ground := Go.Ground.data }, { on := 7, ground := Go.Ground.chain }, { on := 0, ground := Go.Ground.phase }, { on := 1, ground := Go.Ground.phase }, { on := 2, ground := Go.Ground.phase }, { on := 3, ground := Go.Ground.phase }, { on := 4, ground := Go.Ground.phase }, { on := 5, ground := Go.Ground.phase }, { on := 6, ground := Go.Ground.phase }, { on := 7, ground := Go.Ground.phase }, { on := 8, ground := Go.Ground.phase }, { on := 9, ground := Go.Ground.phase }, { on := 10, ground := Go.Ground.textOnly Go.Departure.lateStores }, { on := 11, ground := Go.Ground.phase }], guard := none }) rfl (fun K hK => ?_) AllReadyH.nil)
          have s0 := xe.c (k := 0) rfl
          have s1 := xe.c (k := 1) rfl
          have f0 := xe.f 0
          have f1 := xe.f 1
          go_simp
          try go_wp2_with fail
          clear s0 s1 f0 f1
          replace o2 := (o2.box (k := 0) (v := .int .i64 now7) xe (by decide)).box (k := 1) (v := .slice A7 l7.length c7) (xe.set 0 (.int .i64 now7)) (by decide)
          replace o7 := (o7.box (k := 0) (v := .int .i64 now7) xe (by decide)).box (k := 1) (v := .slice A7 l7.length c7) (xe.set 0 (.int .i64 now7)) (by decide)
          replace xa := (xa.other (B' := w7.heap.size) (k := 0) (x := .int .i64 now7) (by omega)).other (B' := w7.heap.size) (k := 1) (x := .slice A7 l7.length c7) (by omega)
          replace xb := (xb.other (B' := w7.heap.size) (k := 0) (x := .int .i64 now7) (by omega)).other (B' := w7.heap.size) (k := 1) (x := .slice A7 l7.length c7) (by omega)
          replace xd := (xd.other (B' := w7.heap.size) (k := 0) (x := .int .i64 now7) (by omega)).other (B' := w7.heap.size) (k := 1) (x := .slice A7 l7.length c7) (by omega)
          replace xe := (xe.set 0 (.int .i64 now7)).set 1 (.slice A7 l7.length c7)
          replace b4 := bel_set (bel_set b4 (p := ⟨w7.heap.size, 0, none⟩) (by simp only; omega) (.int .i64 now7)) (p := ⟨w7.heap.size, 1, none⟩) (by simp only; omega) (.slice A7 l7.length c7)
          replace qxd0 := xd.c (k := 0) rfl
          replace qxd1 := xd.c (k := 1) rfl
          refine hK.out _ _ ⟨qxd0, qxd1⟩ (fun hHeld => ?_)
          clear hK K
          try simp only [Act.put, List.setIfInBounds_toArray, List.set_cons_zero, List.set_cons_succ]
          refine wpAnyH_take (i := 13) (oi := { dst := some 7, op := Go.Op.assign (Go.Operand.tmp 25), type := 4, pos := "l2_snap.go:284", after := #[{ on := 10, ground := Go.Ground.data }, { on := 12, ground := Go.Ground.chain }, { on := 0, ground := Go.Ground.phase }, { on := 1, ground := Go.Ground.phase }, { on := 2, ground := Go.Ground.phase }, { on := 3, ground := Go.Ground.phase }, { on := 4, ground := Go.Ground.phase }, { on := 5, ground := Go.Ground.phase }, { on := 6, ground := Go.Ground.phase }, { on := 7, ground := Go.Ground.phase }, { on := 8, ground := Go.Ground.phase }, { on := 9, ground := Go.Ground.phase }, { on := 10, ground := Go.Ground.phase }, { on := 11, ground := Go.Ground.phase }, { on := 12, ground := Go.Ground.phase }], guard := none }) (v := ?_) rfl (by kernel_rfl) (by kernel_rfl) (by kernel_rfl) (fun _ _ _ h => h) (Or.inl ⟨by rfl, ?hy3_13⟩) (by assumption) ?_
          case hy3_13 => ((intro w hSw; (try dsimp only at hSw); go_simp); try with_reducible rfl)
          try simp only [Act.put, List.setIfInBounds_toArray, List.set_cons_zero, List.set_cons_succ]
          refine wpAnyH_done (by kernel_rfl) ?_ _
          generalize (wa.setCell ⟨w7.heap.size, 0, none⟩ (.int .i64 now7)).setCell ⟨w7.heap.size, 1, none⟩ (.slice A7 l7.length c7) = wz at *
          have qxe0 := xe.c (k := 0) rfl
          have qxe1 := xe.c (k := 1) rfl
          go_wp2_with fail
          refine wp_region_held_drew (S := (fun W' => W'.cell? ⟨D, 0, none⟩ = some (.int .i64 now) ∧ W'.cell? ⟨D, 1, none⟩ = some (.slice B lv.length cb) ∧ W'.cell? ⟨w7.heap.size, 0, none⟩ = some (.int .i64 now7) ∧ W'.cell? ⟨w7.heap.size, 1, none⟩ = some (.slice A7 l7.length c7))) (by kernel_rfl) ⟨qxd0, qxd1, qxe0, qxe1⟩ (fun hHeld => ?_)
          replace xa := xa.drew
          replace xb := xb.drew
          replace xd := xd.drew
          replace xe := xe.drew
          replace o2 := o2.drew
          replace o7 := o7.drew
          replace b4 := b4.drew
          replace qxd0 := xd.c (k := 0) rfl
          replace qxd1 := xd.c (k := 1) rfl
          replace qxe0 := xe.c (k := 0) rfl
          replace qxe1 := xe.c (k := 1) rfl
          generalize wz.drew = wt at *
          refine wpAnyH_take (i := 0) (oi := { dst := some 26, op := Go.Op.load 39 (Go.Operand.tmp 5), type := 39, pos := "l2_snap.go:285", after := #[], guard := none }) (v := ?_) rfl (by kernel_rfl) (by kernel_rfl) (by kernel_rfl) (fun _ _ _ h => h) (Or.inl ⟨by rfl, ?hy4_0⟩) (by assumption) ?_
          case hy4_0 => ((intro w hSw; (try dsimp only at hSw); go_simp); try with_reducible rfl)
          try simp only [Act.put, List.setIfInBounds_toArray, List.set_cons_zero, List.set_cons_succ]
          refine wpAnyH_take (i := 1) (oi := { dst := some 27, op := Go.Op.load 39 (Go.Operand.tmp 6), type := 39, pos := "l2_snap.go:285", after := #[{ on := 2, ground := Go.Ground.gcOnly Go.Departure.lateStores }], guard := none }) (v := ?_) rfl (by kernel_rfl) (by kernel_rfl) (by kernel_rfl) (fun _ _ _ h => h) (Or.inl ⟨by rfl, ?hy4_1⟩) (by assumption) ?_
          case hy4_1 => ((intro w hSw; (try dsimp only at hSw); go_simp); try with_reducible rfl)
          try simp only [Act.put, List.setIfInBounds_toArray, List.set_cons_zero, List.set_cons_succ]
          refine wpAnyH_ready (rs := [2]) (by kernel_rfl) (by simp) ?_
          refine (AllReadyH.cons (o := { dst := none, op := Go.Op.store 39 (Go.Operand.tmp 2) (Go.Operand.tmp 26), type := 0, pos := "l2_snap.go:285", after := #[{ on := 0, ground := Go.Ground.data }, { on := 0, ground := Go.Ground.phase }, { on := 1, ground := Go.Ground.textOnly Go.Departure.lateStores }], guard := none }) rfl (fun K hK => ?_) AllReadyH.nil)
          have s0 := xa.c (k := 0) rfl
          have s1 := xa.c (k := 1) rfl
          have f0 := xa.f 0
          have f1 := xa.f 1
          go_simp
          try go_wp2_with fail
          clear s0 s1 f0 f1
          replace o2 := (o2.box (k := 0) (v := .int .i64 now) xa (by decide)).box (k := 1) (v := .slice B lv.length cb) (xa.set 0 (.int .i64 now)) (by decide)
          replace o7 := (o7.box (k := 0) (v := .int .i64 now) xa (by decide)).box (k := 1) (v := .slice B lv.length cb) (xa.set 0 (.int .i64 now)) (by decide)
          replace xb := (xb.other (B' := w.heap.size) (k := 0) (x := .int .i64 now) (by omega)).other (B' := w.heap.size) (k := 1) (x := .slice B lv.length cb) (by omega)
          replace xd := (xd.other (B' := w.heap.size) (k := 0) (x := .int .i64 now) (by omega)).other (B' := w.heap.size) (k := 1) (x := .slice B lv.length cb) (by omega)
          replace xe := (xe.other (B' := w.heap.size) (k := 0) (x := .int .i64 now) (by omega)).other (B' := w.heap.size) (k := 1) (x := .slice B lv.length cb) (by omega)
          replace xa := (xa.set 0 (.int .i64 now)).set 1 (.slice B lv.length cb)
          replace b4 := bel_set (bel_set b4 (p := ⟨w.heap.size, 0, none⟩) (by simp only; omega) (.int .i64 now)) (p := ⟨w.heap.size, 1, none⟩) (by simp only; omega) (.slice B lv.length cb)
          replace qxd0 := xd.c (k := 0) rfl
          replace qxd1 := xd.c (k := 1) rfl
          replace qxe0 := xe.c (k := 0) rfl
          replace qxe1 := xe.c (k := 1) rfl
          refine hK.out _ _ ⟨qxd0, qxd1, qxe0, qxe1⟩ (fun hHeld => ?_)
          clear hK K
          try simp only [Act.put, List.setIfInBounds_toArray, List.set_cons_zero, List.set_cons_succ]
          refine wpAnyH_ready (rs := [3]) (by kernel_rfl) (by simp) ?_
          refine (AllReadyH.cons (o := { dst := none, op := Go.Op.store 39 (Go.Operand.tmp 3) (Go.Operand.tmp 27), type := 0, pos := "l2_snap.go:285", after := #[{ on := 1, ground := Go.Ground.data }, { on := 2, ground := Go.Ground.chain }, { on := 0, ground := Go.Ground.phase }, { on := 1, ground := Go.Ground.phase }, { on := 2, ground := Go.Ground.phase }], guard := none }) rfl (fun K hK => ?_) AllReadyH.nil)
          have s0 := xb.c (k := 0) rfl
          have s1 := xb.c (k := 1) rfl
          have f0 := xb.f 0
          have f1 := xb.f 1
          go_simp
          try go_wp2_with fail
          clear s0 s1 f0 f1
          replace o2 := (o2.box (k := 0) (v := .int .i64 now7) xb (by decide)).box (k := 1) (v := .slice A7 l7.length c7) (xb.set 0 (.int .i64 now7)) (by decide)
          replace o7 := (o7.box (k := 0) (v := .int .i64 now7) xb (by decide)).box (k := 1) (v := .slice A7 l7.length c7) (xb.set 0 (.int .i64 now7)) (by decide)
          replace xa := (xa.other (B' := (w.heap.size + 1)) (k := 0) (x := .int .i64 now7) (by omega)).other (B' := (w.heap.size + 1)) (k := 1) (x := .slice A7 l7.length c7) (by omega)
          replace xd := (xd.other (B' := (w.heap.size + 1)) (k := 0) (x := .int .i64 now7) (by omega)).other (B' := (w.heap.size + 1)) (k := 1) (x := .slice A7 l7.length c7) (by omega)
          replace xe := (xe.other (B' := (w.heap.size + 1)) (k := 0) (x := .int .i64 now7) (by omega)).other (B' := (w.heap.size + 1)) (k := 1) (x := .slice A7 l7.length c7) (by omega)
          replace xb := (xb.set 0 (.int .i64 now7)).set 1 (.slice A7 l7.length c7)
          replace b4 := bel_set (bel_set b4 (p := ⟨(w.heap.size + 1), 0, none⟩) (by simp only; omega) (.int .i64 now7)) (p := ⟨(w.heap.size + 1), 1, none⟩) (by simp only; omega) (.slice A7 l7.length c7)
          replace qxd0 := xd.c (k := 0) rfl
          replace qxd1 := xd.c (k := 1) rfl
          replace qxe0 := xe.c (k := 0) rfl
          replace qxe1 := xe.c (k := 1) rfl
          refine hK.out _ _ ⟨qxd0, qxd1, qxe0, qxe1⟩ (fun hHeld => ?_)
          clear hK K
          try simp only [Act.put, List.setIfInBounds_toArray, List.set_cons_zero, List.set_cons_succ]
          refine wpAnyH_done (by kernel_rfl) ?_ _
          have z0 := xa.c (k := 0) rfl
          have z1 := xa.c (k := 1) rfl
          have z2 := xb.c (k := 0) rfl
          have z3 := xb.c (k := 1) rfl
          have HOA := Lib.hid (o2.lower hz1)
          have HOB := Lib.hid (o7.lower hz6)
          have HBB := Lib.hid b4
          clear o2 o7 b4
          go_wp2_with fail
          exact bodyPost_ret (v := .tuple #[.agg #[.int .i64 now, .slice B lv.length cb], .agg #[.int .i64 now7, .slice A7 l7.length c7]]) (by simp [results, Try.results58, go_sem, z0, z1, z2, z3]) rfl ⟨now, B, lv.length, cb, lv, now7, A7, l7.length, c7, l7, rfl, HOA.out, HOB.out, by have := HQ.out; omega, by have := HQ.out; omega, by have := HQ.out; omega, by have := HQ.out; omega, HBB.out⟩
        · skip
          have hEb := b4.size
          have hED := xd.lt
          have hEb2 := xb.lt
          have hEg := r4.lt
          replace xa := xa.alloc (.cells #[.int .i64 0, .slice none 0 0] 39)
          replace xb := xb.alloc (.cells #[.int .i64 0, .slice none 0 0] 39)
          replace xd := xd.alloc (.cells #[.int .i64 0, .slice none 0 0] 39)
          replace o2 := o2.alloc (.cells #[.int .i64 0, .slice none 0 0] 39)
          replace oW := oW.alloc (.cells #[.int .i64 0, .slice none 0 0] 39)
          replace r4 := r4.on (bel_alloc (Below.refl _ _) (.cells #[.int .i64 0, .slice none 0 0] 39))
          replace b4 := bel_alloc b4 (.cells #[.int .i64 0, .slice none 0 0] 39)
          replace qxd0 := xd.c (k := 0) rfl
          replace qxd1 := xd.c (k := 1) rfl
          have xe : BoxC (w6.alloc (.cells #[.int .i64 0, .slice none 0 0] 39)) w6.heap.size 39 #[.int .i64 0, .slice none 0 0] := BoxC.new w6 39 #[.int .i64 0, .slice none 0 0]
          go_simp
          try go_wp2_with fail
          refine hK.out _ _ ⟨qxd0, qxd1⟩ (fun hHeld => ?_)
          clear hK K
          try simp only [Act.put, List.setIfInBounds_toArray, List.set_cons_zero, List.set_cons_succ]
          generalize w6.alloc (.cells #[.int .i64 0, .slice none 0 0] 39) = wa at *
          refine wpAnyH_ready (rs := [7]) (by kernel_rfl) (by simp) ?_
          refine (AllReadyH.cons (o := { dst := some 23, op := Go.Op.call { callee := Go.Callee.value (Go.Operand.func 105), args := #[Go.Operand.tmp 16, Go.Operand.tmp 22], argTypes := #[39, 27] }, type := 128, pos := "l2_snap.go:284", after := #[{ on := 0, ground := Go.Ground.data }, { on := 6, ground := Go.Ground.data }, { on := 6, ground := Go.Ground.chain }], guard := none }) rfl (fun K hK => ?_) AllReadyH.nil)
          go_simp
          have hz6 := b4.size
          refine (versDo now B lv.length cb lv W6 lw.length cW lw _ o2.sl HVP.out oW.sl HWs.out.wf (by have := HWl.out; omega)).mono ?_
          rintro e w7 ⟨v7, ok7, rfl, now7, A7, c7, l7, rfl, hP7, o7, hb7⟩
          clear oW
          replace xa := xa.on hb7
          replace xb := xb.on hb7
          replace xd := xd.on hb7
          replace xe := xe.on hb7
          replace o2 := o2.on hb7
          replace r4 := r4.on hb7
          replace b4 := bel_trans b4 hb7
          replace qxd0 := xd.c (k := 0) rfl
          replace qxd1 := xd.c (k := 1) rfl
          clear hb7
          have hl7 := hP7.1.2.2
          clear hP7 r4
          go_wp2_with fail
          refine hK.out _ _ ⟨qxd0, qxd1⟩ (fun hHeld => ?_)
          clear hK K
          try simp only [Act.put, List.setIfInBounds_toArray, List.set_cons_zero, List.set_cons_succ]
          refine wpAnyH_take (i := 8) (oi := { dst := some 15, op := Go.Op.move (Go.Operand.tmp 23), type := 128, pos := "l2_snap.go:284", after := #[{ on := 7, ground := Go.Ground.data }], guard := none }) (v := ?_) rfl (by kernel_rfl) (by kernel_rfl) (by kernel_rfl) (fun _ _ _ h => h) (Or.inl ⟨by rfl, ?hy5_8⟩) (by assumption) ?_
          case hy5_8 => ((intro w hSw; (try dsimp only at hSw); go_simp); try with_reducible rfl)
          try simp only [Act.put, List.setIfInBounds_toArray, List.set_cons_zero, List.set_cons_succ]
          refine wpAnyH_take (i := 9) (oi := { dst := some 24, op := Go.Op.extract (Go.Operand.tmp 15) 0, type := 39, pos := "l2_snap.go:284", after := #[{ on := 8, ground := Go.Ground.data }], guard := none }) (v := ?_) rfl (by kernel_rfl) (by kernel_rfl) (by kernel_rfl) (fun _ _ _ h => h) (Or.inl ⟨by rfl, ?hy5_9⟩) (by assumption) ?_
          case hy5_9 => ((intro w hSw; (try dsimp only at hSw); go_simp); try with_reducible rfl)
          try simp only [Act.put, List.setIfInBounds_toArray, List.set_cons_zero, List.set_cons_succ]
          refine wpAnyH_take (i := 10) (oi := { dst := some 25, op := Go.Op.extract (Go.Operand.tmp 15) 1, type := 4, pos := "l2_snap.go:284", after := #[{ on := 8, ground := Go.Ground.data }, { on := 12, ground := Go.Ground.gcOnly Go.Departure.lateStores }], guard := none }) (v := ?_) rfl (by kernel_rfl) (by kernel_rfl) (by kernel_rfl) (fun _ _ _ h => h) (Or.inl ⟨by rfl, ?hy5_10⟩) (by assumption) ?_
          case hy5_10 => ((intro w hSw; (try dsimp only at hSw); go_simp); try with_reducible rfl)
          try simp only [Act.put, List.setIfInBounds_toArray, List.set_cons_zero, List.set_cons_succ]
          refine wpAnyH_ready (rs := [12]) (by kernel_rfl) (by simp) ?_
          refine (AllReadyH.cons (o := { dst := none, op := Go.Op.store 39 (Go.Operand.tmp 6) (Go.Operand.tmp 24), type := 0, pos := "l2_snap.go:284", after := #[{ on := 11, ground := Go.Ground.data }, { on := 9, ground := Go.Ground.data }, { on := 7, ground := Go.Ground.chain }, { on := 0, ground := Go.Ground.phase }, { on := 1, ground := Go.Ground.phase }, { on := 2, ground := Go.Ground.phase }, { on := 3, ground := Go.Ground.phase }, { on := 4, ground := Go.Ground.phase }, { on := 5, ground := Go.Ground.phase }, { on := 6, ground := Go.Ground.phase }, { on := 7, ground := Go.Ground.phase }, { on := 8, ground := Go.Ground.phase }, { on := 9, ground := Go.Ground.phase }, { on := 10, ground := Go.Ground.textOnly Go.Departure.lateStores }, { on := 11, ground := Go.Ground.phase }], guard := none }) rfl (fun K hK => ?_) AllReadyH.nil)
          have s0 := xe.c (k := 0) rfl
          have s1 := xe.c (k := 1) rfl
          have f0 := xe.f 0
          have f1 := xe.f 1
          go_simp
          try go_wp2_with fail
          clear s0 s1 f0 f1
          replace o2 := (o2.box (k := 0) (v := .int .i64 now7) xe (by decide)).box (k := 1) (v := .slice A7 l7.length c7) (xe.set 0 (.int .i64 now7)) (by decide)
          replace o7 := (o7.box (k := 0) (v := .int .i64 now7) xe (by decide)).box (k := 1) (v := .slice A7 l7.length c7) (xe.set 0 (.int .i64 now7)) (by decide)
          replace xa := (xa.other (B' := w6.heap.size) (k := 0) (x := .int .i64 now7) (by omega)).other (B' := w6.heap.size) (k := 1) (x := .slice A7 l7.length c7) (by omega)
          replace xb := (xb.other (B' := w6.heap.size) (k := 0) (x := .int .i64 now7) (by omega)).other (B' := w6.heap.size) (k := 1) (x := .slice A7 l7.length c7) (by omega)
          replace xd := (xd.other (B' := w6.heap.size) (k := 0) (x := .int .i64 now7) (by omega)).other (B' := w6.heap.size) (k := 1) (x := .slice A7 l7.length c7) (by omega)
          replace xe := (xe.set 0 (.int .i64 now7)).set 1 (.slice A7 l7.length c7)
          replace b4 := bel_set (bel_set b4 (p := ⟨w6.heap.size, 0, none⟩) (by simp only; omega) (.int .i64 now7)) (p := ⟨w6.heap.size, 1, none⟩) (by simp only; omega) (.slice A7 l7.length c7)
          replace qxd0 := xd.c (k := 0) rfl
          replace qxd1 := xd.c (k := 1) rfl
          refine hK.out _ _ ⟨qxd0, qxd1⟩ (fun hHeld => ?_)
          clear hK K
          try simp only [Act.put, List.setIfInBounds_toArray, List.set_cons_zero, List.set_cons_succ]
          refine wpAnyH_take (i := 13) (oi := { dst := some 7, op := Go.Op.assign (Go.Operand.tmp 25), type := 4, pos := "l2_snap.go:284", after := #[{ on := 10, ground := Go.Ground.data }, { on := 12, ground := Go.Ground.chain }, { on := 0, ground := Go.Ground.phase }, { on := 1, ground := Go.Ground.phase }, { on := 2, ground := Go.Ground.phase }, { on := 3, ground := Go.Ground.phase }, { on := 4, ground := Go.Ground.phase }, { on := 5, ground := Go.Ground.phase }, { on := 6, ground := Go.Ground.phase }, { on := 7, ground := Go.Ground.phase }, { on := 8, ground := Go.Ground.phase }, { on := 9, ground := Go.Ground.phase }, { on := 10, ground := Go.Ground.phase }, { on := 11, ground := Go.Ground.phase }, { on := 12, ground := Go.Ground.phase }], guard := none }) (v := ?_) rfl (by kernel_rfl) (by kernel_rfl) (by kernel_rfl) (fun _ _ _ h => h) (Or.inl ⟨by rfl, ?hy6_13⟩) (by assumption) ?_
          case hy6_13 => ((intro w hSw; (try dsimp only at hSw); go_simp); try with_reducible rfl)
          try simp only [Act.put, List.setIfInBounds_toArray, List.set_cons_zero, List.set_cons_succ]
          refine wpAnyH_done (by kernel_rfl) ?_ _
          generalize (w7.setCell ⟨w6.heap.size, 0, none⟩ (.int .i64 now7)).setCell ⟨w6.heap.size, 1, none⟩ (.slice A7 l7.length c7) = wz at *
          have qxe0 := xe.c (k := 0) rfl
          have qxe1 := xe.c (k := 1) rfl
          go_wp2_with fail
          refine wp_region_held_drew (S := (fun W' => W'.cell? ⟨D, 0, none⟩ = some (.int .i64 now) ∧ W'.cell? ⟨D, 1, none⟩ = some (.slice B lv.length cb) ∧ W'.cell? ⟨w6.heap.size, 0, none⟩ = some (.int .i64 now7) ∧ W'.cell? ⟨w6.heap.size, 1, none⟩ = some (.slice A7 l7.length c7))) (by kernel_rfl) ⟨qxd0, qxd1, qxe0, qxe1⟩ (fun hHeld => ?_)
          replace xa := xa.drew
          replace xb := xb.drew
          replace xd := xd.drew
          replace xe := xe.drew
          replace o2 := o2.drew
          replace o7 := o7.drew
          replace b4 := b4.drew
          replace qxd0 := xd.c (k := 0) rfl
          replace qxd1 := xd.c (k := 1) rfl
          replace qxe0 := xe.c (k := 0) rfl
          replace qxe1 := xe.c (k := 1) rfl
          generalize wz.drew = wt at *
          refine wpAnyH_take (i := 0) (oi := { dst := some 26, op := Go.Op.load 39 (Go.Operand.tmp 5), type := 39, pos := "l2_snap.go:285", after := #[], guard := none }) (v := ?_) rfl (by kernel_rfl) (by kernel_rfl) (by kernel_rfl) (fun _ _ _ h => h) (Or.inl ⟨by rfl, ?hy7_0⟩) (by assumption) ?_
          case hy7_0 => ((intro w hSw; (try dsimp only at hSw); go_simp); try with_reducible rfl)
          try simp only [Act.put, List.setIfInBounds_toArray, List.set_cons_zero, List.set_cons_succ]
          refine wpAnyH_take (i := 1) (oi := { dst := some 27, op := Go.Op.load 39 (Go.Operand.tmp 6), type := 39, pos := "l2_snap.go:285", after := #[{ on := 2, ground := Go.Ground.gcOnly Go.Departure.lateStores }], guard := none }) (v := ?_) rfl (by kernel_rfl) (by kernel_rfl) (by kernel_rfl) (fun _ _ _ h => h) (Or.inl ⟨by rfl, ?hy7_1⟩) (by assumption) ?_
          case hy7_1 => ((intro w hSw; (try dsimp only at hSw); go_simp); try with_reducible rfl)
          try simp only [Act.put, List.setIfInBounds_toArray, List.set_cons_zero, List.set_cons_succ]
          refine wpAnyH_ready (rs := [2]) (by kernel_rfl) (by simp) ?_
          refine (AllReadyH.cons (o := { dst := none, op := Go.Op.store 39 (Go.Operand.tmp 2) (Go.Operand.tmp 26), type := 0, pos := "l2_snap.go:285", after := #[{ on := 0, ground := Go.Ground.data }, { on := 0, ground := Go.Ground.phase }, { on := 1, ground := Go.Ground.textOnly Go.Departure.lateStores }], guard := none }) rfl (fun K hK => ?_) AllReadyH.nil)
          have s0 := xa.c (k := 0) rfl
          have s1 := xa.c (k := 1) rfl
          have f0 := xa.f 0
          have f1 := xa.f 1
          go_simp
          try go_wp2_with fail
          clear s0 s1 f0 f1
          replace o2 := (o2.box (k := 0) (v := .int .i64 now) xa (by decide)).box (k := 1) (v := .slice B lv.length cb) (xa.set 0 (.int .i64 now)) (by decide)
          replace o7 := (o7.box (k := 0) (v := .int .i64 now) xa (by decide)).box (k := 1) (v := .slice B lv.length cb) (xa.set 0 (.int .i64 now)) (by decide)
          replace xb := (xb.other (B' := w.heap.size) (k := 0) (x := .int .i64 now) (by omega)).other (B' := w.heap.size) (k := 1) (x := .slice B lv.length cb) (by omega)
          replace xd := (xd.other (B' := w.heap.size) (k := 0) (x := .int .i64 now) (by omega)).other (B' := w.heap.size) (k := 1) (x := .slice B lv.length cb) (by omega)
          replace xe := (xe.other (B' := w.heap.size) (k := 0) (x := .int .i64 now) (by omega)).other (B' := w.heap.size) (k := 1) (x := .slice B lv.length cb) (by omega)
          replace xa := (xa.set 0 (.int .i64 now)).set 1 (.slice B lv.length cb)
          replace b4 := bel_set (bel_set b4 (p := ⟨w.heap.size, 0, none⟩) (by simp only; omega) (.int .i64 now)) (p := ⟨w.heap.size, 1, none⟩) (by simp only; omega) (.slice B lv.length cb)
          replace qxd0 := xd.c (k := 0) rfl
          replace qxd1 := xd.c (k := 1) rfl
          replace qxe0 := xe.c (k := 0) rfl
          replace qxe1 := xe.c (k := 1) rfl
          refine hK.out _ _ ⟨qxd0, qxd1, qxe0, qxe1⟩ (fun hHeld => ?_)
          clear hK K
          try simp only [Act.put, List.setIfInBounds_toArray, List.set_cons_zero, List.set_cons_succ]
          refine wpAnyH_ready (rs := [3]) (by kernel_rfl) (by simp) ?_
          refine (AllReadyH.cons (o := { dst := none, op := Go.Op.store 39 (Go.Operand.tmp 3) (Go.Operand.tmp 27), type := 0, pos := "l2_snap.go:285", after := #[{ on := 1, ground := Go.Ground.data }, { on := 2, ground := Go.Ground.chain }, { on := 0, ground := Go.Ground.phase }, { on := 1, ground := Go.Ground.phase }, { on := 2, ground := Go.Ground.phase }], guard := none }) rfl (fun K hK => ?_) AllReadyH.nil)
          have s0 := xb.c (k := 0) rfl
          have s1 := xb.c (k := 1) rfl
          have f0 := xb.f 0
          have f1 := xb.f 1
          go_simp
          try go_wp2_with fail
          clear s0 s1 f0 f1
          replace o2 := (o2.box (k := 0) (v := .int .i64 now7) xb (by decide)).box (k := 1) (v := .slice A7 l7.length c7) (xb.set 0 (.int .i64 now7)) (by decide)
          replace o7 := (o7.box (k := 0) (v := .int .i64 now7) xb (by decide)).box (k := 1) (v := .slice A7 l7.length c7) (xb.set 0 (.int .i64 now7)) (by decide)
          replace xa := (xa.other (B' := (w.heap.size + 1)) (k := 0) (x := .int .i64 now7) (by omega)).other (B' := (w.heap.size + 1)) (k := 1) (x := .slice A7 l7.length c7) (by omega)
          replace xd := (xd.other (B' := (w.heap.size + 1)) (k := 0) (x := .int .i64 now7) (by omega)).other (B' := (w.heap.size + 1)) (k := 1) (x := .slice A7 l7.length c7) (by omega)
          replace xe := (xe.other (B' := (w.heap.size + 1)) (k := 0) (x := .int .i64 now7) (by omega)).other (B' := (w.heap.size + 1)) (k := 1) (x := .slice A7 l7.length c7) (by omega)
          replace xb := (xb.set 0 (.int .i64 now7)).set 1 (.slice A7 l7.length c7)
          replace b4 := bel_set (bel_set b4 (p := ⟨(w.heap.size + 1), 0, none⟩) (by simp only; omega) (.int .i64 now7)) (p := ⟨(w.heap.size + 1), 1, none⟩) (by simp only; omega) (.slice A7 l7.length c7)
          replace qxd0 := xd.c (k := 0) rfl
          replace qxd1 := xd.c (k := 1) rfl
          replace qxe0 := xe.c (k := 0) rfl
          replace qxe1 := xe.c (k := 1) rfl
          refine hK.out _ _ ⟨qxd0, qxd1, qxe0, qxe1⟩ (fun hHeld => ?_)
          clear hK K
          try simp only [Act.put, List.setIfInBounds_toArray, List.set_cons_zero, List.set_cons_succ]
          refine wpAnyH_done (by kernel_rfl) ?_ _
          have z0 := xa.c (k := 0) rfl
          have z1 := xa.c (k := 1) rfl
          have z2 := xb.c (k := 0) rfl
          have z3 := xb.c (k := 1) rfl
          have HOA := Lib.hid (o2.lower hz1)
          have HOB := Lib.hid (o7.lower hz6)
          have HBB := Lib.hid b4
          clear o2 o7 b4
          go_wp2_with fail
          exact bodyPost_ret (v := .tuple #[.agg #[.int .i64 now, .slice B lv.length cb], .agg #[.int .i64 now7, .slice A7 l7.length c7]]) (by simp [results, Try.results58, go_sem, z0, z1, z2, z3]) rfl ⟨now, B, lv.length, cb, lv, now7, A7, l7.length, c7, l7, rfl, HOA.out, HOB.out, by have := HQ.out; omega, by have := HQ.out; omega, by have := HQ.out; omega, by have := HQ.out; omega, HBB.out⟩
      · skip
        have hEb := b4.size
        have hED := xd.lt
        have hEb2 := xb.lt
        have hEg := r4.lt
        replace xa := xa.alloc (.cells #[.int .i64 0, .slice none 0 0] 39)
        replace xb := xb.alloc (.cells #[.int .i64 0, .slice none 0 0] 39)
        replace xd := xd.alloc (.cells #[.int .i64 0, .slice none 0 0] 39)
        replace o2 := o2.alloc (.cells #[.int .i64 0, .slice none 0 0] 39)
        replace oR := oR.alloc (.cells #[.int .i64 0, .slice none 0 0] 39)
        replace r4 := r4.on (bel_alloc (Below.refl _ _) (.cells #[.int .i64 0, .slice none 0 0] 39))
        replace b4 := bel_alloc b4 (.cells #[.int .i64 0, .slice none 0 0] 39)
        replace qxd0 := xd.c (k := 0) rfl
        replace qxd1 := xd.c (k := 1) rfl
        have xe : BoxC (w5.alloc (.cells #[.int .i64 0, .slice none 0 0] 39)) w5.heap.size 39 #[.int .i64 0, .slice none 0 0] := BoxC.new w5 39 #[.int .i64 0, .slice none 0 0]
        go_simp
        try go_wp2_with fail
        refine hK.out _ _ ⟨qxd0, qxd1⟩ (fun hHeld => ?_)
        clear hK K
        try simp only [Act.put, List.setIfInBounds_toArray, List.set_cons_zero, List.set_cons_succ]
        generalize w5.alloc (.cells #[.int .i64 0, .slice none 0 0] 39) = wa at *
        refine wpAnyH_ready (rs := [6]) (by kernel_rfl) (by simp) ?_
        refine (AllReadyH.cons (o := { dst := some 22, op := Go.Op.call { callee := Go.Callee.value (Go.Operand.func 106), args := #[Go.Operand.tmp 17, Go.Operand.tmp 21], argTypes := #[124, 59] }, type := 27, pos := "l2_snap.go:284", after := #[{ on := 1, ground := Go.Ground.data }, { on := 5, ground := Go.Ground.data }, { on := 5, ground := Go.Ground.chain }], guard := none }) rfl (fun K hK => ?_) AllReadyH.nil)
        go_simp
        refine (l2Writes (w.heap.size + 2) (p2 + 1) A1 m c1 l1 R (atL lv now).length cR (atL lv now) _ r4 (by have := HP.out; omega) oR.sl HRL.out (fun x hx => by have := (oR.block hx).1; omega) HRS.out).mono ?_
        rintro e w6 ⟨W6, cW, lw, p6, rfl, oW, hWl, hWs, hp6, r6, t6⟩
        clear oR
        replace xa := xa.turn t6 (fun x hx => by cases hx; exact ha2)
        replace xb := xb.turn t6 (fun x hx => by cases hx; exact hb2)
        replace xd := xd.turn t6 (fun x hx => by cases hx; exact hDg)
        replace xe := xe.turn t6 (fun x hx => by cases hx; exact (by simp only; omega))
        replace o2 := o2.farRd t6 hg2
        replace b4 := Rd.bel b4 t6 (by omega)
        clear r4
        have r4 := r6
        clear r6 t6
        replace qxd0 := xd.c (k := 0) rfl
        replace qxd1 := xd.c (k := 1) rfl
        have HWl := Lib.hid hWl
        have HWs := Lib.hid hWs
        clear hWl hWs hp6
        go_wp2_with fail
        refine hK.out _ _ ⟨qxd0, qxd1⟩ (fun hHeld => ?_)
        clear hK K
        try simp only [Act.put, List.setIfInBounds_toArray, List.set_cons_zero, List.set_cons_succ]
        refine wpAnyH_ready (rs := [7]) (by kernel_rfl) (by simp) ?_
        refine (AllReadyH.cons (o := { dst := some 23, op := Go.Op.call { callee := Go.Callee.value (Go.Operand.func 105), args := #[Go.Operand.tmp 16, Go.Operand.tmp 22], argTypes := #[39, 27] }, type := 128, pos := "l2_snap.go:284", after := #[{ on := 0, ground := Go.Ground.data }, { on := 6, ground := Go.Ground.data }, { on := 6, ground := Go.Ground.chain }], guard := none }) rfl (fun K hK => ?_) AllReadyH.nil)
        go_simp
        have hz6 := b4.size
        refine (versDo now B lv.length cb lv W6 lw.length cW lw _ o2.sl HVP.out oW.sl HWs.out.wf (by have := HWl.out; omega)).mono ?_
        rintro e w7 ⟨v7, ok7, rfl, now7, A7, c7, l7, rfl, hP7, o7, hb7⟩
        clear oW
        replace xa := xa.on hb7
        replace xb := xb.on hb7
        replace xd := xd.on hb7
        replace xe := xe.on hb7
        replace o2 := o2.on hb7
        replace r4 := r4.on hb7
        replace b4 := bel_trans b4 hb7
        replace qxd0 := xd.c (k := 0) rfl
        replace qxd1 := xd.c (k := 1) rfl
        clear hb7
        have hl7 := hP7.1.2.2
        clear hP7 r4
        go_wp2_with fail
        refine hK.out _ _ ⟨qxd0, qxd1⟩ (fun hHeld => ?_)
        clear hK K
        try simp only [Act.put, List.setIfInBounds_toArray, List.set_cons_zero, List.set_cons_succ]
        refine wpAnyH_take (i := 8) (oi := { dst := some 15, op := Go.Op.move (Go.Operand.tmp 23), type := 128, pos := "l2_snap.go:284", after := #[{ on := 7, ground := Go.Ground.data }], guard := none }) (v := ?_) rfl (by kernel_rfl) (by kernel_rfl) (by kernel_rfl) (fun _ _ _ h => h) (Or.inl ⟨by rfl, ?hy8_8⟩) (by assumption) ?_
        case hy8_8 => ((intro w hSw; (try dsimp only at hSw); go_simp); try with_reducible rfl)
        try simp only [Act.put, List.setIfInBounds_toArray, List.set_cons_zero, List.set_cons_succ]
        refine wpAnyH_take (i := 9) (oi := { dst := some 24, op := Go.Op.extract (Go.Operand.tmp 15) 0, type := 39, pos := "l2_snap.go:284", after := #[{ on := 8, ground := Go.Ground.data }], guard := none }) (v := ?_) rfl (by kernel_rfl) (by kernel_rfl) (by kernel_rfl) (fun _ _ _ h => h) (Or.inl ⟨by rfl, ?hy8_9⟩) (by assumption) ?_
        case hy8_9 => ((intro w hSw; (try dsimp only at hSw); go_simp); try with_reducible rfl)
        try simp only [Act.put, List.setIfInBounds_toArray, List.set_cons_zero, List.set_cons_succ]
        refine wpAnyH_take (i := 10) (oi := { dst := some 25, op := Go.Op.extract (Go.Operand.tmp 15) 1, type := 4, pos := "l2_snap.go:284", after := #[{ on := 8, ground := Go.Ground.data }, { on := 12, ground := Go.Ground.gcOnly Go.Departure.lateStores }], guard := none }) (v := ?_) rfl (by kernel_rfl) (by kernel_rfl) (by kernel_rfl) (fun _ _ _ h => h) (Or.inl ⟨by rfl, ?hy8_10⟩) (by assumption) ?_
        case hy8_10 => ((intro w hSw; (try dsimp only at hSw); go_simp); try with_reducible rfl)
        try simp only [Act.put, List.setIfInBounds_toArray, List.set_cons_zero, List.set_cons_succ]
        refine wpAnyH_ready (rs := [12]) (by kernel_rfl) (by simp) ?_
        refine (AllReadyH.cons (o := { dst := none, op := Go.Op.store 39 (Go.Operand.tmp 6) (Go.Operand.tmp 24), type := 0, pos := "l2_snap.go:284", after := #[{ on := 11, ground := Go.Ground.data }, { on := 9, ground := Go.Ground.data }, { on := 7, ground := Go.Ground.chain }, { on := 0, ground := Go.Ground.phase }, { on := 1, ground := Go.Ground.phase }, { on := 2, ground := Go.Ground.phase }, { on := 3, ground := Go.Ground.phase }, { on := 4, ground := Go.Ground.phase }, { on := 5, ground := Go.Ground.phase }, { on := 6, ground := Go.Ground.phase }, { on := 7, ground := Go.Ground.phase }, { on := 8, ground := Go.Ground.phase }, { on := 9, ground := Go.Ground.phase }, { on := 10, ground := Go.Ground.textOnly Go.Departure.lateStores }, { on := 11, ground := Go.Ground.phase }], guard := none }) rfl (fun K hK => ?_) AllReadyH.nil)
        have s0 := xe.c (k := 0) rfl
        have s1 := xe.c (k := 1) rfl
        have f0 := xe.f 0
        have f1 := xe.f 1
        go_simp
        try go_wp2_with fail
        clear s0 s1 f0 f1
        replace o2 := (o2.box (k := 0) (v := .int .i64 now7) xe (by decide)).box (k := 1) (v := .slice A7 l7.length c7) (xe.set 0 (.int .i64 now7)) (by decide)
        replace o7 := (o7.box (k := 0) (v := .int .i64 now7) xe (by decide)).box (k := 1) (v := .slice A7 l7.length c7) (xe.set 0 (.int .i64 now7)) (by decide)
        replace xa := (xa.other (B' := w5.heap.size) (k := 0) (x := .int .i64 now7) (by omega)).other (B' := w5.heap.size) (k := 1) (x := .slice A7 l7.length c7) (by omega)
        replace xb := (xb.other (B' := w5.heap.size) (k := 0) (x := .int .i64 now7) (by omega)).other (B' := w5.heap.size) (k := 1) (x := .slice A7 l7.length c7) (by omega)
        replace xd := (xd.other (B' := w5.heap.size) (k := 0) (x := .int .i64 now7) (by omega)).other (B' := w5.heap.size) (k := 1) (x := .slice A7 l7.length c7) (by omega)
        replace xe := (xe.set 0 (.int .i64 now7)).set 1 (.slice A7 l7.length c7)
        replace b4 := bel_set (bel_set b4 (p := ⟨w5.heap.size, 0, none⟩) (by simp only; omega) (.int .i64 now7)) (p := ⟨w5.heap.size, 1, none⟩) (by simp only; omega) (.slice A7 l7.length c7)
        replace qxd0 := xd.c (k := 0) rfl
        replace qxd1 := xd.c (k := 1) rfl
        refine hK.out _ _ ⟨qxd0, qxd1⟩ (fun hHeld => ?_)
        clear hK K
        try simp only [Act.put, List.setIfInBounds_toArray, List.set_cons_zero, List.set_cons_succ]
        refine wpAnyH_take (i := 13) (oi := { dst := some 7, op := Go.Op.assign (Go.Operand.tmp 25), type := 4, pos := "l2_snap.go:284", after := #[{ on := 10, ground := Go.Ground.data }, { on := 12, ground := Go.Ground.chain }, { on := 0, ground := Go.Ground.phase }, { on := 1, ground := Go.Ground.phase }, { on := 2, ground := Go.Ground.phase }, { on := 3, ground := Go.Ground.phase }, { on := 4, ground := Go.Ground.phase }, { on := 5, ground := Go.Ground.phase }, { on := 6, ground := Go.Ground.phase }, { on := 7, ground := Go.Ground.phase }, { on := 8, ground := Go.Ground.phase }, { on := 9, ground := Go.Ground.phase }, { on := 10, ground := Go.Ground.phase }, { on := 11, ground := Go.Ground.phase }, { on := 12, ground := Go.Ground.phase }], guard := none }) (v := ?_) rfl (by kernel_rfl) (by kernel_rfl) (by kernel_rfl) (fun _ _ _ h => h) (Or.inl ⟨by rfl, ?hy9_13⟩) (by assumption) ?_
        case hy9_13 => ((intro w hSw; (try dsimp only at hSw); go_simp); try with_reducible rfl)
        try simp only [Act.put, List.setIfInBounds_toArray, List.set_cons_zero, List.set_cons_succ]
        refine wpAnyH_done (by kernel_rfl) ?_ _
        generalize (w7.setCell ⟨w5.heap.size, 0, none⟩ (.int .i64 now7)).setCell ⟨w5.heap.size, 1, none⟩ (.slice A7 l7.length c7) = wz at *
        have qxe0 := xe.c (k := 0) rfl
        have qxe1 := xe.c (k := 1) rfl
        go_wp2_with fail
        refine wp_region_held_drew (S := (fun W' => W'.cell? ⟨D, 0, none⟩ = some (.int .i64 now) ∧ W'.cell? ⟨D, 1, none⟩ = some (.slice B lv.length cb) ∧ W'.cell? ⟨w5.heap.size, 0, none⟩ = some (.int .i64 now7) ∧ W'.cell? ⟨w5.heap.size, 1, none⟩ = some (.slice A7 l7.length c7))) (by kernel_rfl) ⟨qxd0, qxd1, qxe0, qxe1⟩ (fun hHeld => ?_)
        replace xa := xa.drew
        replace xb := xb.drew
        replace xd := xd.drew
        replace xe := xe.drew
        replace o2 := o2.drew
        replace o7 := o7.drew
        replace b4 := b4.drew
        replace qxd0 := xd.c (k := 0) rfl
        replace qxd1 := xd.c (k := 1) rfl
        replace qxe0 := xe.c (k := 0) rfl
        replace qxe1 := xe.c (k := 1) rfl
        generalize wz.drew = wt at *
        refine wpAnyH_take (i := 0) (oi := { dst := some 26, op := Go.Op.load 39 (Go.Operand.tmp 5), type := 39, pos := "l2_snap.go:285", after := #[], guard := none }) (v := ?_) rfl (by kernel_rfl) (by kernel_rfl) (by kernel_rfl) (fun _ _ _ h => h) (Or.inl ⟨by rfl, ?hy10_0⟩) (by assumption) ?_
        case hy10_0 => ((intro w hSw; (try dsimp only at hSw); go_simp); try with_reducible rfl)
        try simp only [Act.put, List.setIfInBounds_toArray, List.set_cons_zero, List.set_cons_succ]
        refine wpAnyH_take (i := 1) (oi := { dst := some 27, op := Go.Op.load 39 (Go.Operand.tmp 6), type := 39, pos := "l2_snap.go:285", after := #[{ on := 2, ground := Go.Ground.gcOnly Go.Departure.lateStores }], guard := none }) (v := ?_) rfl (by kernel_rfl) (by kernel_rfl) (by kernel_rfl) (fun _ _ _ h => h) (Or.inl ⟨by rfl, ?hy10_1⟩) (by assumption) ?_
        case hy10_1 => ((intro w hSw; (try dsimp only at hSw); go_simp); try with_reducible rfl)
        try simp only [Act.put, List.setIfInBounds_toArray, List.set_cons_zero, List.set_cons_succ]
        refine wpAnyH_ready (rs := [2]) (by kernel_rfl) (by simp) ?_
        refine (AllReadyH.cons (o := { dst := none, op := Go.Op.store 39 (Go.Operand.tmp 2) (Go.Operand.tmp 26), type := 0, pos := "l2_snap.go:285", after := #[{ on := 0, ground := Go.Ground.data }, { on := 0, ground := Go.Ground.phase }, { on := 1, ground := Go.Ground.textOnly Go.Departure.lateStores }], guard := none }) rfl (fun K hK => ?_) AllReadyH.nil)
        have s0 := xa.c (k := 0) rfl
        have s1 := xa.c (k := 1) rfl
        have f0 := xa.f 0
        have f1 := xa.f 1
        go_simp
        try go_wp2_with fail
        clear s0 s1 f0 f1
        replace o2 := (o2.box (k := 0) (v := .int .i64 now) xa (by decide)).box (k := 1) (v := .slice B lv.length cb) (xa.set 0 (.int .i64 now)) (by decide)
        replace o7 := (o7.box (k := 0) (v := .int .i64 now) xa (by decide)).box (k := 1) (v := .slice B lv.length cb) (xa.set 0 (.int .i64 now)) (by decide)
        replace xb := (xb.other (B' := w.heap.size) (k := 0) (x := .int .i64 now) (by omega)).other (B' := w.heap.size) (k := 1) (x := .slice B lv.length cb) (by omega)
        replace xd := (xd.other (B' := w.heap.size) (k := 0) (x := .int .i64 now) (by omega)).other (B' := w.heap.size) (k := 1) (x := .slice B lv.length cb) (by omega)
        replace xe := (xe.other (B' := w.heap.size) (k := 0) (x := .int .i64 now) (by omega)).other (B' := w.heap.size) (k := 1) (x := .slice B lv.length cb) (by omega)
        replace xa := (xa.set 0 (.int .i64 now)).set 1 (.slice B lv.length cb)
        replace b4 := bel_set (bel_set b4 (p := ⟨w.heap.size, 0, none⟩) (by simp only; omega) (.int .i64 now)) (p := ⟨w.heap.size, 1, none⟩) (by simp only; omega) (.slice B lv.length cb)
        replace qxd0 := xd.c (k := 0) rfl
        replace qxd1 := xd.c (k := 1) rfl
        replace qxe0 := xe.c (k := 0) rfl
        replace qxe1 := xe.c (k := 1) rfl
        refine hK.out _ _ ⟨qxd0, qxd1, qxe0, qxe1⟩ (fun hHeld => ?_)
        clear hK K
        try simp only [Act.put, List.setIfInBounds_toArray, List.set_cons_zero, List.set_cons_succ]
        refine wpAnyH_ready (rs := [3]) (by kernel_rfl) (by simp) ?_
        refine (AllReadyH.cons (o := { dst := none, op := Go.Op.store 39 (Go.Operand.tmp 3) (Go.Operand.tmp 27), type := 0, pos := "l2_snap.go:285", after := #[{ on := 1, ground := Go.Ground.data }, { on := 2, ground := Go.Ground.chain }, { on := 0, ground := Go.Ground.phase }, { on := 1, ground := Go.Ground.phase }, { on := 2, ground := Go.Ground.phase }], guard := none }) rfl (fun K hK => ?_) AllReadyH.nil)
        have s0 := xb.c (k := 0) rfl
        have s1 := xb.c (k := 1) rfl
        have f0 := xb.f 0
        have f1 := xb.f 1
        go_simp
        try go_wp2_with fail
        clear s0 s1 f0 f1
        replace o2 := (o2.box (k := 0) (v := .int .i64 now7) xb (by decide)).box (k := 1) (v := .slice A7 l7.length c7) (xb.set 0 (.int .i64 now7)) (by decide)
        replace o7 := (o7.box (k := 0) (v := .int .i64 now7) xb (by decide)).box (k := 1) (v := .slice A7 l7.length c7) (xb.set 0 (.int .i64 now7)) (by decide)
        replace xa := (xa.other (B' := (w.heap.size + 1)) (k := 0) (x := .int .i64 now7) (by omega)).other (B' := (w.heap.size + 1)) (k := 1) (x := .slice A7 l7.length c7) (by omega)
        replace xd := (xd.other (B' := (w.heap.size + 1)) (k := 0) (x := .int .i64 now7) (by omega)).other (B' := (w.heap.size + 1)) (k := 1) (x := .slice A7 l7.length c7) (by omega)
        replace xe := (xe.other (B' := (w.heap.size + 1)) (k := 0) (x := .int .i64 now7) (by omega)).other (B' := (w.heap.size + 1)) (k := 1) (x := .slice A7 l7.length c7) (by omega)
        replace xb := (xb.set 0 (.int .i64 now7)).set 1 (.slice A7 l7.length c7)
        replace b4 := bel_set (bel_set b4 (p := ⟨(w.heap.size + 1), 0, none⟩) (by simp only; omega) (.int .i64 now7)) (p := ⟨(w.heap.size + 1), 1, none⟩) (by simp only; omega) (.slice A7 l7.length c7)
        replace qxd0 := xd.c (k := 0) rfl
        replace qxd1 := xd.c (k := 1) rfl
        replace qxe0 := xe.c (k := 0) rfl
        replace qxe1 := xe.c (k := 1) rfl
        refine hK.out _ _ ⟨qxd0, qxd1, qxe0, qxe1⟩ (fun hHeld => ?_)
        clear hK K
        try simp only [Act.put, List.setIfInBounds_toArray, List.set_cons_zero, List.set_cons_succ]
        refine wpAnyH_done (by kernel_rfl) ?_ _
        have z0 := xa.c (k := 0) rfl
        have z1 := xa.c (k := 1) rfl
        have z2 := xb.c (k := 0) rfl
        have z3 := xb.c (k := 1) rfl
        have HOA := Lib.hid (o2.lower hz1)
        have HOB := Lib.hid (o7.lower hz6)
        have HBB := Lib.hid b4
        clear o2 o7 b4
        go_wp2_with fail
        exact bodyPost_ret (v := .tuple #[.agg #[.int .i64 now, .slice B lv.length cb], .agg #[.int .i64 now7, .slice A7 l7.length c7]]) (by simp [results, Try.results58, go_sem, z0, z1, z2, z3]) rfl ⟨now, B, lv.length, cb, lv, now7, A7, l7.length, c7, l7, rfl, HOA.out, HOB.out, by have := HQ.out; omega, by have := HQ.out; omega, by have := HQ.out; omega, by have := HQ.out; omega, HBB.out⟩
    · skip
      have hEb := b4.size
      have hED := xd.lt
      have hEb2 := xb.lt
      have hEg := r4.lt
      replace xa := xa.alloc (.cells #[.int .i64 0, .slice none 0 0] 39)
      replace xb := xb.alloc (.cells #[.int .i64 0, .slice none 0 0] 39)
      replace xd := xd.alloc (.cells #[.int .i64 0, .slice none 0 0] 39)
      replace o2 := o2.alloc (.cells #[.int .i64 0, .slice none 0 0] 39)
      replace r4 := r4.on (bel_alloc (Below.refl _ _) (.cells #[.int .i64 0, .slice none 0 0] 39))
      replace b4 := bel_alloc b4 (.cells #[.int .i64 0, .slice none 0 0] 39)
      replace qxd0 := xd.c (k := 0) rfl
      replace qxd1 := xd.c (k := 1) rfl
      have xe : BoxC (wy.alloc (.cells #[.int .i64 0, .slice none 0 0] 39)) wy.heap.size 39 #[.int .i64 0, .slice none 0 0] := BoxC.new wy 39 #[.int .i64 0, .slice none 0 0]
      go_simp
      try go_wp2_with fail
      refine hK.out _ _ ⟨qxd0, qxd1⟩ (fun hHeld => ?_)
      clear hK K
      try simp only [Act.put, List.setIfInBounds_toArray, List.set_cons_zero, List.set_cons_succ]
      generalize wy.alloc (.cells #[.int .i64 0, .slice none 0 0] 39) = wa at *
      refine wpAnyH_ready (rs := [5]) (by kernel_rfl) (by simp) ?_
      refine (AllReadyH.cons (o := { dst := some 21, op := Go.Op.call { callee := Go.Callee.value (Go.Operand.func 90), args := #[Go.Operand.tmp 18, Go.Operand.tmp 20], argTypes := #[39, 3] }, type := 59, pos := "l2_snap.go:284", after := #[{ on := 2, ground := Go.Ground.data }, { on := 4, ground := Go.Ground.data }], guard := none }) rfl (fun K hK => ?_) AllReadyH.nil)
      go_simp
      have hgG := r4.lt
      refine (specAt now B lv.length cb lv now _ o2.sl (by have := HVP.out.1.2.2; omega)).mono ?_
      rintro e w5 ⟨v5, rfl, oR, hb5⟩
      obtain ⟨R, cR, rfl, -, -⟩ := oR.form
      replace xa := xa.on hb5
      replace xb := xb.on hb5
      replace xd := xd.on hb5
      replace xe := xe.on hb5
      replace o2 := o2.on hb5
      replace r4 := r4.on hb5
      replace b4 := bel_trans b4 hb5
      replace qxd0 := xd.c (k := 0) rfl
      replace qxd1 := xd.c (k := 1) rfl
      clear hb5
      go_wp2_with fail
      refine hK.out _ _ ⟨qxd0, qxd1⟩ (fun hHeld => ?_)
      clear hK K
      try simp only [Act.put, List.setIfInBounds_toArray, List.set_cons_zero, List.set_cons_succ]
      refine wpAnyH_ready (rs := [6]) (by kernel_rfl) (by simp) ?_
      refine (AllReadyH.cons (o := { dst := some 22, op := Go.Op.call { callee := Go.Callee.value (Go.Operand.func 106), args := #[Go.Operand.tmp 17, Go.Operand.tmp 21], argTypes := #[124, 59] }, type := 27, pos := "l2_snap.go:284", after := #[{ on := 1, ground := Go.Ground.data }, { on := 5, ground := Go.Ground.data }, { on := 5, ground := Go.Ground.chain }], guard := none }) rfl (fun K hK => ?_) AllReadyH.nil)
      go_simp
      refine (l2Writes (w.heap.size + 2) (p2 + 1) A1 m c1 l1 R (atL lv now).length cR (atL lv now) _ r4 (by have := HP.out; omega) oR.sl HRL.out (fun x hx => by have := (oR.block hx).1; omega) HRS.out).mono ?_
      rintro e w6 ⟨W6, cW, lw, p6, rfl, oW, hWl, hWs, hp6, r6, t6⟩
      clear oR
      replace xa := xa.turn t6 (fun x hx => by cases hx; exact ha2)
      replace xb := xb.turn t6 (fun x hx => by cases hx; exact hb2)
      replace xd := xd.turn t6 (fun x hx => by cases hx; exact hDg)
      replace xe := xe.turn t6 (fun x hx => by cases hx; exact (by simp only; omega))
      replace o2 := o2.farRd t6 hg2
      replace b4 := Rd.bel b4 t6 (by omega)
      clear r4
      have r4 := r6
      clear r6 t6
      replace qxd0 := xd.c (k := 0) rfl
      replace qxd1 := xd.c (k := 1) rfl
      have HWl := Lib.hid hWl
      have HWs := Lib.hid hWs
      clear hWl hWs hp6
      go_wp2_with fail
      refine hK.out _ _ ⟨qxd0, qxd1⟩ (fun hHeld => ?_)
      clear hK K
      try simp only [Act.put, List.setIfInBounds_toArray, List.set_cons_zero, List.set_cons_succ]
      refine wpAnyH_ready (rs := [7]) (by kernel_rfl) (by simp) ?_
      refine (AllReadyH.cons (o := { dst := some 23, op := Go.Op.call { callee := Go.Callee.value (Go.Operand.func 105), args := #[Go.Operand.tmp 16, Go.Operand.tmp 22], argTypes := #[39, 27] }, type := 128, pos := "l2_snap.go:284", after := #[{ on := 0, ground := Go.Ground.data }, { on := 6, ground := Go.Ground.data }, { on := 6, ground := Go.Ground.chain }], guard := none }) rfl (fun K hK => ?_) AllReadyH.nil)
      go_simp
      have hz6 := b4.size
      refine (versDo now B lv.length cb lv W6 lw.length cW lw _ o2.sl HVP.out oW.sl HWs.out.wf (by have := HWl.out; omega)).mono ?_
      rintro e w7 ⟨v7, ok7, rfl, now7, A7, c7, l7, rfl, hP7, o7, hb7⟩
      clear oW
      replace xa := xa.on hb7
      replace xb := xb.on hb7
      replace xd := xd.on hb7
      replace xe := xe.on hb7
      replace o2 := o2.on hb7
      replace r4 := r4.on hb7
      replace b4 := bel_trans b4 hb7
      replace qxd0 := xd.c (k := 0) rfl
      replace qxd1 := xd.c (k := 1) rfl
      clear hb7
      have hl7 := hP7.1.2.2
      clear hP7 r4
      go_wp2_with fail
      refine hK.out _ _ ⟨qxd0, qxd1⟩ (fun hHeld => ?_)
      clear hK K
      try simp only [Act.put, List.setIfInBounds_toArray, List.set_cons_zero, List.set_cons_succ]
      refine wpAnyH_take (i := 8) (oi := { dst := some 15, op := Go.Op.move (Go.Operand.tmp 23), type := 128, pos := "l2_snap.go:284", after := #[{ on := 7, ground := Go.Ground.data }], guard := none }) (v := ?_) rfl (by kernel_rfl) (by kernel_rfl) (by kernel_rfl) (fun _ _ _ h => h) (Or.inl ⟨by rfl, ?hy11_8⟩) (by assumption) ?_
      case hy11_8 => ((intro w hSw; (try dsimp only at hSw); go_simp); try with_reducible rfl)
      try simp only [Act.put, List.setIfInBounds_toArray, List.set_cons_zero, List.set_cons_succ]
      refine wpAnyH_take (i := 9) (oi := { dst := some 24, op := Go.Op.extract (Go.Operand.tmp 15) 0, type := 39, pos := "l2_snap.go:284", after := #[{ on := 8, ground := Go.Ground.data }], guard := none }) (v := ?_) rfl (by kernel_rfl) (by kernel_rfl) (by kernel_rfl) (fun _ _ _ h => h) (Or.inl ⟨by rfl, ?hy11_9⟩) (by assumption) ?_
      case hy11_9 => ((intro w hSw; (try dsimp only at hSw); go_simp); try with_reducible rfl)
      try simp only [Act.put, List.setIfInBounds_toArray, List.set_cons_zero, List.set_cons_succ]
      refine wpAnyH_take (i := 10) (oi := { dst := some 25, op := Go.Op.extract (Go.Operand.tmp 15) 1, type := 4, pos := "l2_snap.go:284", after := #[{ on := 8, ground := Go.Ground.data }, { on := 12, ground := Go.Ground.gcOnly Go.Departure.lateStores }], guard := none }) (v := ?_) rfl (by kernel_rfl) (by kernel_rfl) (by kernel_rfl) (fun _ _ _ h => h) (Or.inl ⟨by rfl, ?hy11_10⟩) (by assumption) ?_
      case hy11_10 => ((intro w hSw; (try dsimp only at hSw); go_simp); try with_reducible rfl)
      try simp only [Act.put, List.setIfInBounds_toArray, List.set_cons_zero, List.set_cons_succ]
      refine wpAnyH_ready (rs := [12]) (by kernel_rfl) (by simp) ?_
      refine (AllReadyH.cons (o := { dst := none, op := Go.Op.store 39 (Go.Operand.tmp 6) (Go.Operand.tmp 24), type := 0, pos := "l2_snap.go:284", after := #[{ on := 11, ground := Go.Ground.data }, { on := 9, ground := Go.Ground.data }, { on := 7, ground := Go.Ground.chain }, { on := 0, ground := Go.Ground.phase }, { on := 1, ground := Go.Ground.phase }, { on := 2, ground := Go.Ground.phase }, { on := 3, ground := Go.Ground.phase }, { on := 4, ground := Go.Ground.phase }, { on := 5, ground := Go.Ground.phase }, { on := 6, ground := Go.Ground.phase }, { on := 7, ground := Go.Ground.phase }, { on := 8, ground := Go.Ground.phase }, { on := 9, ground := Go.Ground.phase }, { on := 10, ground := Go.Ground.textOnly Go.Departure.lateStores }, { on := 11, ground := Go.Ground.phase }], guard := none }) rfl (fun K hK => ?_) AllReadyH.nil)
      have s0 := xe.c (k := 0) rfl
      have s1 := xe.c (k := 1) rfl
      have f0 := xe.f 0
      have f1 := xe.f 1
      go_simp
      try go_wp2_with fail
      clear s0 s1 f0 f1
      replace o2 := (o2.box (k := 0) (v := .int .i64 now7) xe (by decide)).box (k := 1) (v := .slice A7 l7.length c7) (xe.set 0 (.int .i64 now7)) (by decide)
      replace o7 := (o7.box (k := 0) (v := .int .i64 now7) xe (by decide)).box (k := 1) (v := .slice A7 l7.length c7) (xe.set 0 (.int .i64 now7)) (by decide)
      replace xa := (xa.other (B' := wy.heap.size) (k := 0) (x := .int .i64 now7) (by omega)).other (B' := wy.heap.size) (k := 1) (x := .slice A7 l7.length c7) (by omega)
      replace xb := (xb.other (B' := wy.heap.size) (k := 0) (x := .int .i64 now7) (by omega)).other (B' := wy.heap.size) (k := 1) (x := .slice A7 l7.length c7) (by omega)
      replace xd := (xd.other (B' := wy.heap.size) (k := 0) (x := .int .i64 now7) (by omega)).other (B' := wy.heap.size) (k := 1) (x := .slice A7 l7.length c7) (by omega)
      replace xe := (xe.set 0 (.int .i64 now7)).set 1 (.slice A7 l7.length c7)
      replace b4 := bel_set (bel_set b4 (p := ⟨wy.heap.size, 0, none⟩) (by simp only; omega) (.int .i64 now7)) (p := ⟨wy.heap.size, 1, none⟩) (by simp only; omega) (.slice A7 l7.length c7)
      replace qxd0 := xd.c (k := 0) rfl
      replace qxd1 := xd.c (k := 1) rfl
      refine hK.out _ _ ⟨qxd0, qxd1⟩ (fun hHeld => ?_)
      clear hK K
      try simp only [Act.put, List.setIfInBounds_toArray, List.set_cons_zero, List.set_cons_succ]
      refine wpAnyH_take (i := 13) (oi := { dst := some 7, op := Go.Op.assign (Go.Operand.tmp 25), type := 4, pos := "l2_snap.go:284", after := #[{ on := 10, ground := Go.Ground.data }, { on := 12, ground := Go.Ground.chain }, { on := 0, ground := Go.Ground.phase }, { on := 1, ground := Go.Ground.phase }, { on := 2, ground := Go.Ground.phase }, { on := 3, ground := Go.Ground.phase }, { on := 4, ground := Go.Ground.phase }, { on := 5, ground := Go.Ground.phase }, { on := 6, ground := Go.Ground.phase }, { on := 7, ground := Go.Ground.phase }, { on := 8, ground := Go.Ground.phase }, { on := 9, ground := Go.Ground.phase }, { on := 10, ground := Go.Ground.phase }, { on := 11, ground := Go.Ground.phase }, { on := 12, ground := Go.Ground.phase }], guard := none }) (v := ?_) rfl (by kernel_rfl) (by kernel_rfl) (by kernel_rfl) (fun _ _ _ h => h) (Or.inl ⟨by rfl, ?hy12_13⟩) (by assumption) ?_
      case hy12_13 => ((intro w hSw; (try dsimp only at hSw); go_simp); try with_reducible rfl)
      try simp only [Act.put, List.setIfInBounds_toArray, List.set_cons_zero, List.set_cons_succ]
      refine wpAnyH_done (by kernel_rfl) ?_ _
      generalize (w7.setCell ⟨wy.heap.size, 0, none⟩ (.int .i64 now7)).setCell ⟨wy.heap.size, 1, none⟩ (.slice A7 l7.length c7) = wz at *
      have qxe0 := xe.c (k := 0) rfl
      have qxe1 := xe.c (k := 1) rfl
      go_wp2_with fail
      refine wp_region_held_drew (S := (fun W' => W'.cell? ⟨D, 0, none⟩ = some (.int .i64 now) ∧ W'.cell? ⟨D, 1, none⟩ = some (.slice B lv.length cb) ∧ W'.cell? ⟨wy.heap.size, 0, none⟩ = some (.int .i64 now7) ∧ W'.cell? ⟨wy.heap.size, 1, none⟩ = some (.slice A7 l7.length c7))) (by kernel_rfl) ⟨qxd0, qxd1, qxe0, qxe1⟩ (fun hHeld => ?_)
      replace xa := xa.drew
      replace xb := xb.drew
      replace xd := xd.drew
      replace xe := xe.drew
      replace o2 := o2.drew
      replace o7 := o7.drew
      replace b4 := b4.drew
      replace qxd0 := xd.c (k := 0) rfl
      replace qxd1 := xd.c (k := 1) rfl
      replace qxe0 := xe.c (k := 0) rfl
      replace qxe1 := xe.c (k := 1) rfl
      generalize wz.drew = wt at *
      refine wpAnyH_take (i := 0) (oi := { dst := some 26, op := Go.Op.load 39 (Go.Operand.tmp 5), type := 39, pos := "l2_snap.go:285", after := #[], guard := none }) (v := ?_) rfl (by kernel_rfl) (by kernel_rfl) (by kernel_rfl) (fun _ _ _ h => h) (Or.inl ⟨by rfl, ?hy13_0⟩) (by assumption) ?_
      case hy13_0 => ((intro w hSw; (try dsimp only at hSw); go_simp); try with_reducible rfl)
      try simp only [Act.put, List.setIfInBounds_toArray, List.set_cons_zero, List.set_cons_succ]
      refine wpAnyH_take (i := 1) (oi := { dst := some 27, op := Go.Op.load 39 (Go.Operand.tmp 6), type := 39, pos := "l2_snap.go:285", after := #[{ on := 2, ground := Go.Ground.gcOnly Go.Departure.lateStores }], guard := none }) (v := ?_) rfl (by kernel_rfl) (by kernel_rfl) (by kernel_rfl) (fun _ _ _ h => h) (Or.inl ⟨by rfl, ?hy13_1⟩) (by assumption) ?_
      case hy13_1 => ((intro w hSw; (try dsimp only at hSw); go_simp); try with_reducible rfl)
      try simp only [Act.put, List.setIfInBounds_toArray, List.set_cons_zero, List.set_cons_succ]
      refine wpAnyH_ready (rs := [2]) (by kernel_rfl) (by simp) ?_
      refine (AllReadyH.cons (o := { dst := none, op := Go.Op.store 39 (Go.Operand.tmp 2) (Go.Operand.tmp 26), type := 0, pos := "l2_snap.go:285", after := #[{ on := 0, ground := Go.Ground.data }, { on := 0, ground := Go.Ground.phase }, { on := 1, ground := Go.Ground.textOnly Go.Departure.lateStores }], guard := none }) rfl (fun K hK => ?_) AllReadyH.nil)
      have s0 := xa.c (k := 0) rfl
      have s1 := xa.c (k := 1) rfl
      have f0 := xa.f 0
      have f1 := xa.f 1
      go_simp
      try go_wp2_with fail
      clear s0 s1 f0 f1
      replace o2 := (o2.box (k := 0) (v := .int .i64 now) xa (by decide)).box (k := 1) (v := .slice B lv.length cb) (xa.set 0 (.int .i64 now)) (by decide)
      replace o7 := (o7.box (k := 0) (v := .int .i64 now) xa (by decide)).box (k := 1) (v := .slice B lv.length cb) (xa.set 0 (.int .i64 now)) (by decide)
      replace xb := (xb.other (B' := w.heap.size) (k := 0) (x := .int .i64 now) (by omega)).other (B' := w.heap.size) (k := 1) (x := .slice B lv.length cb) (by omega)
      replace xd := (xd.other (B' := w.heap.size) (k := 0) (x := .int .i64 now) (by omega)).other (B' := w.heap.size) (k := 1) (x := .slice B lv.length cb) (by omega)
      replace xe := (xe.other (B' := w.heap.size) (k := 0) (x := .int .i64 now) (by omega)).other (B' := w.heap.size) (k := 1) (x := .slice B lv.length cb) (by omega)
      replace xa := (xa.set 0 (.int .i64 now)).set 1 (.slice B lv.length cb)
      replace b4 := bel_set (bel_set b4 (p := ⟨w.heap.size, 0, none⟩) (by simp only; omega) (.int .i64 now)) (p := ⟨w.heap.size, 1, none⟩) (by simp only; omega) (.slice B lv.length cb)
      replace qxd0 := xd.c (k := 0) rfl
      replace qxd1 := xd.c (k := 1) rfl
      replace qxe0 := xe.c (k := 0) rfl
      replace qxe1 := xe.c (k := 1) rfl
      refine hK.out _ _ ⟨qxd0, qxd1, qxe0, qxe1⟩ (fun hHeld => ?_)
      clear hK K
      try simp only [Act.put, List.setIfInBounds_toArray, List.set_cons_zero, List.set_cons_succ]
      refine wpAnyH_ready (rs := [3]) (by kernel_rfl) (by simp) ?_
      refine (AllReadyH.cons (o := { dst := none, op := Go.Op.store 39 (Go.Operand.tmp 3) (Go.Operand.tmp 27), type := 0, pos := "l2_snap.go:285", after := #[{ on := 1, ground := Go.Ground.data }, { on := 2, ground := Go.Ground.chain }, { on := 0, ground := Go.Ground.phase }, { on := 1, ground := Go.Ground.phase }, { on := 2, ground := Go.Ground.phase }], guard := none }) rfl (fun K hK => ?_) AllReadyH.nil)
      have s0 := xb.c (k := 0) rfl
      have s1 := xb.c (k := 1) rfl
      have f0 := xb.f 0
      have f1 := xb.f 1
      go_simp
      try go_wp2_with fail
      clear s0 s1 f0 f1
      replace o2 := (o2.box (k := 0) (v := .int .i64 now7) xb (by decide)).box (k := 1) (v := .slice A7 l7.length c7) (xb.set 0 (.int .i64 now7)) (by decide)
      replace o7 := (o7.box (k := 0) (v := .int .i64 now7) xb (by decide)).box (k := 1) (v := .slice A7 l7.length c7) (xb.set 0 (.int .i64 now7)) (by decide)
      replace xa := (xa.other (B' := (w.heap.size + 1)) (k := 0) (x := .int .i64 now7) (by omega)).other (B' := (w.heap.size + 1)) (k := 1) (x := .slice A7 l7.length c7) (by omega)
      replace xd := (xd.other (B' := (w.heap.size + 1)) (k := 0) (x := .int .i64 now7) (by omega)).other (B' := (w.heap.size + 1)) (k := 1) (x := .slice A7 l7.length c7) (by omega)
      replace xe := (xe.other (B' := (w.heap.size + 1)) (k := 0) (x := .int .i64 now7) (by omega)).other (B' := (w.heap.size + 1)) (k := 1) (x := .slice A7 l7.length c7) (by omega)
      replace xb := (xb.set 0 (.int .i64 now7)).set 1 (.slice A7 l7.length c7)
      replace b4 := bel_set (bel_set b4 (p := ⟨(w.heap.size + 1), 0, none⟩) (by simp only; omega) (.int .i64 now7)) (p := ⟨(w.heap.size + 1), 1, none⟩) (by simp only; omega) (.slice A7 l7.length c7)
      replace qxd0 := xd.c (k := 0) rfl
      replace qxd1 := xd.c (k := 1) rfl
      replace qxe0 := xe.c (k := 0) rfl
      replace qxe1 := xe.c (k := 1) rfl
      refine hK.out _ _ ⟨qxd0, qxd1, qxe0, qxe1⟩ (fun hHeld => ?_)
      clear hK K
      try simp only [Act.put, List.setIfInBounds_toArray, List.set_cons_zero, List.set_cons_succ]
      refine wpAnyH_done (by kernel_rfl) ?_ _
      have z0 := xa.c (k := 0) rfl
      have z1 := xa.c (k := 1) rfl
      have z2 := xb.c (k := 0) rfl
      have z3 := xb.c (k := 1) rfl
      have HOA := Lib.hid (o2.lower hz1)
      have HOB := Lib.hid (o7.lower hz6)
      have HBB := Lib.hid b4
      clear o2 o7 b4
      go_wp2_with fail
      exact bodyPost_ret (v := .tuple #[.agg #[.int .i64 now, .slice B lv.length cb], .agg #[.int .i64 now7, .slice A7 l7.length c7]]) (by simp [results, Try.results58, go_sem, z0, z1, z2, z3]) rfl ⟨now, B, lv.length, cb, lv, now7, A7, l7.length, c7, l7, rfl, HOA.out, HOB.out, by have := HQ.out; omega, by have := HQ.out; omega, by have := HQ.out; omega, by have := HQ.out; omega, HBB.out⟩
  · have hv1 : ((v : Int) == 0) = false := by simp; omega
    clear hv0 hv
    go_wp2_with fail
    refine wp_region_held_drew (S := (fun W' => W'.cell? ⟨D, 0, none⟩ = some (.int .i64 now) ∧ W'.cell? ⟨D, 1, none⟩ = some (.slice B lv.length cb))) (by kernel_rfl) ⟨qxd0, qxd1⟩ (fun hHeld => ?_)
    replace xa := xa.drew
    replace xb := xb.drew
    replace xd := xd.drew
    replace o2 := o2.drew
    replace r4 := r4.drew
    replace b4 := b4.drew
    replace qxd0 := xd.c (k := 0) rfl
    replace qxd1 := xd.c (k := 1) rfl
    refine wpAnyH_take (i := 0) (oi := { dst := some 28, op := Go.Op.load 39 (Go.Operand.tmp 5), type := 39, pos := "l2_snap.go:287", after := #[], guard := none }) (v := ?_) rfl (by kernel_rfl) (by kernel_rfl) (by kernel_rfl) (fun _ _ _ h => h) (Or.inl ⟨by rfl, ?hy14_0⟩) (by assumption) ?_
    case hy14_0 => ((intro w hSw; (try dsimp only at hSw); go_simp); try with_reducible rfl)
    try simp only [Act.put, List.setIfInBounds_toArray, List.set_cons_zero, List.set_cons_succ]
    refine wpAnyH_take (i := 1) (oi := { dst := some 29, op := Go.Op.move (Go.Operand.tmp 4), type := 124, pos := "l2_snap.go:287", after := #[], guard := none }) (v := ?_) rfl (by kernel_rfl) (by kernel_rfl) (by kernel_rfl) (fun _ _ _ h => h) (Or.inl ⟨by rfl, ?hy14_1⟩) (by assumption) ?_
    case hy14_1 => ((intro w hSw; (try dsimp only at hSw); go_simp); try with_reducible rfl)
    try simp only [Act.put, List.setIfInBounds_toArray, List.set_cons_zero, List.set_cons_succ]
    refine wpAnyH_take (i := 2) (oi := { dst := some 30, op := Go.Op.move (Go.Operand.tmp 4), type := 124, pos := "l2_snap.go:287", after := #[], guard := none }) (v := ?_) rfl (by kernel_rfl) (by kernel_rfl) (by kernel_rfl) (fun _ _ _ h => h) (Or.inl ⟨by rfl, ?hy14_2⟩) (by assumption) ?_
    case hy14_2 => ((intro w hSw; (try dsimp only at hSw); go_simp); try with_reducible rfl)
    try simp only [Act.put, List.setIfInBounds_toArray, List.set_cons_zero, List.set_cons_succ]
    refine wpAnyH_take (i := 3) (oi := { dst := some 31, op := Go.Op.load 39 (Go.Operand.tmp 5), type := 39, pos := "l2_snap.go:287", after := #[], guard := none }) (v := ?_) rfl (by kernel_rfl) (by kernel_rfl) (by kernel_rfl) (fun _ _ _ h => h) (Or.inl ⟨by rfl, ?hy14_3⟩) (by assumption) ?_
    case hy14_3 => ((intro w hSw; (try dsimp only at hSw); go_simp); try with_reducible rfl)
    try simp only [Act.put, List.setIfInBounds_toArray, List.set_cons_zero, List.set_cons_succ]
    refine wpAnyH_ready (rs := [4]) (by kernel_rfl) (by simp) ?_
    refine (AllReadyH.cons (o := { dst := some 32, op := Go.Op.call { callee := Go.Callee.value (Go.Operand.func 107), args := #[Go.Operand.tmp 30, Go.Operand.tmp 31], argTypes := #[124, 39] }, type := 39, pos := "l2_snap.go:287", after := #[{ on := 2, ground := Go.Ground.data }, { on := 3, ground := Go.Ground.data }], guard := none }) rfl (fun K hK => ?_) AllReadyH.nil)
    go_simp
    have hgG := r4.lt
    refine (l2Bent (w.heap.size + 2) (p2 + 1) 40 A1 m c1 l1 now B lv.length cb lv _ r4 (by have := HP.out; omega) o2.sl HVP.out.swf (by have := HVP.out.1.2.2; omega) (by omega) (by omega) (by have := HQ.out; omega) (by have := HQ.out; omega)).mono ?_
    rintro e w5 ⟨now5, B5, n5, c5, l5, p5, rfl, o5, hS5, hn5, hl5, hu5, hp5, r5, t5⟩
    replace xa := xa.turn t5 (fun x hx => by cases hx; exact ha2)
    replace xb := xb.turn t5 (fun x hx => by cases hx; exact hb2)
    replace xd := xd.turn t5 (fun x hx => by cases hx; exact hDg)
    replace o2 := o2.farRd t5 hg2
    replace b4 := Rd.bel b4 t5 (by omega)
    clear r4
    have r4 := r5
    clear r5 t5
    replace qxd0 := xd.c (k := 0) rfl
    replace qxd1 := xd.c (k := 1) rfl
    go_wp2_with fail
    refine hK.out _ _ ⟨qxd0, qxd1⟩ (fun hHeld => ?_)
    clear hK K
    try simp only [Act.put, List.setIfInBounds_toArray, List.set_cons_zero, List.set_cons_succ]
    refine wpAnyH_ready (rs := [5]) (by kernel_rfl) (by simp) ?_
    refine (AllReadyH.cons (o := { dst := some 33, op := Go.Op.call { callee := Go.Callee.value (Go.Operand.func 107), args := #[Go.Operand.tmp 29, Go.Operand.tmp 32], argTypes := #[124, 39] }, type := 39, pos := "l2_snap.go:287", after := #[{ on := 1, ground := Go.Ground.data }, { on := 4, ground := Go.Ground.data }, { on := 4, ground := Go.Ground.chain }], guard := none }) rfl (fun K hK => ?_) AllReadyH.nil)
    go_simp
    have hz6 := b4.size
    refine (l2Bent (w.heap.size + 2) p5 81 A1 m c1 l1 now5 B5 n5 c5 l5 _ r4 (by have := HP.out; omega) o5.sl hS5 (by have := HVP.out.1.2.2; omega) (by omega) (by omega) (by omega) (by omega)).mono ?_
    rintro e w7 ⟨now7, A7, n7, c7, l7, p7, rfl, o7, -, hn7, -, -, -, r7, t7⟩
    clear o5
    replace xa := xa.turn t7 (fun x hx => by cases hx; exact ha2)
    replace xb := xb.turn t7 (fun x hx => by cases hx; exact hb2)
    replace xd := xd.turn t7 (fun x hx => by cases hx; exact hDg)
    replace o2 := o2.farRd t7 hg2
    replace b4 := Rd.bel b4 t7 (by omega)
    clear r4
    have r4 := r7
    clear r7 t7
    replace qxd0 := xd.c (k := 0) rfl
    replace qxd1 := xd.c (k := 1) rfl
    go_wp2_with fail
    refine hK.out _ _ ⟨qxd0, qxd1⟩ (fun hHeld => ?_)
    clear hK K
    try simp only [Act.put, List.setIfInBounds_toArray, List.set_cons_zero, List.set_cons_succ]
    refine wpAnyH_ready (rs := [6]) (by kernel_rfl) (by simp) ?_
    refine (AllReadyH.cons (o := { dst := none, op := Go.Op.store 39 (Go.Operand.tmp 2) (Go.Operand.tmp 28), type := 0, pos := "l2_snap.go:287", after := #[{ on := 0, ground := Go.Ground.data }, { on := 5, ground := Go.Ground.chain }, { on := 0, ground := Go.Ground.phase }, { on := 1, ground := Go.Ground.textOnly Go.Departure.lateStores }, { on := 2, ground := Go.Ground.textOnly Go.Departure.lateStores }, { on := 3, ground := Go.Ground.textOnly Go.Departure.lateStores }, { on := 4, ground := Go.Ground.textOnly Go.Departure.lateStoresUnsure }, { on := 5, ground := Go.Ground.textOnly Go.Departure.lateStoresUnsure }], guard := none }) rfl (fun K hK => ?_) AllReadyH.nil)
    have s0 := xa.c (k := 0) rfl
    have s1 := xa.c (k := 1) rfl
    have f0 := xa.f 0
    have f1 := xa.f 1
    go_simp
    try go_wp2_with fail
    clear s0 s1 f0 f1
    replace o2 := (o2.box (k := 0) (v := .int .i64 now) xa (by decide)).box (k := 1) (v := .slice B lv.length cb) (xa.set 0 (.int .i64 now)) (by decide)
    replace o7 := (o7.box (k := 0) (v := .int .i64 now) xa (by decide)).box (k := 1) (v := .slice B lv.length cb) (xa.set 0 (.int .i64 now)) (by decide)
    replace xb := (xb.other (B' := w.heap.size) (k := 0) (x := .int .i64 now) (by omega)).other (B' := w.heap.size) (k := 1) (x := .slice B lv.length cb) (by omega)
    replace xd := (xd.other (B' := w.heap.size) (k := 0) (x := .int .i64 now) (by omega)).other (B' := w.heap.size) (k := 1) (x := .slice B lv.length cb) (by omega)
    replace xa := (xa.set 0 (.int .i64 now)).set 1 (.slice B lv.length cb)
    replace b4 := bel_set (bel_set b4 (p := ⟨w.heap.size, 0, none⟩) (by simp only; omega) (.int .i64 now)) (p := ⟨w.heap.size, 1, none⟩) (by simp only; omega) (.slice B lv.length cb)
    replace qxd0 := xd.c (k := 0) rfl
    replace qxd1 := xd.c (k := 1) rfl
    refine hK.out _ _ ⟨qxd0, qxd1⟩ (fun hHeld => ?_)
    clear hK K
    try simp only [Act.put, List.setIfInBounds_toArray, List.set_cons_zero, List.set_cons_succ]
    refine wpAnyH_ready (rs := [7]) (by kernel_rfl) (by simp) ?_
    refine (AllReadyH.cons (o := { dst := none, op := Go.Op.store 39 (Go.Operand.tmp 3) (Go.Operand.tmp 33), type := 0, pos := "l2_snap.go:287", after := #[{ on := 5, ground := Go.Ground.data }, { on := 6, ground := Go.Ground.chain }, { on := 0, ground := Go.Ground.phase }, { on := 1, ground := Go.Ground.phase }, { on := 2, ground := Go.Ground.phase }, { on := 3, ground := Go.Ground.phase }, { on := 4, ground := Go.Ground.phase }, { on := 5, ground := Go.Ground.phase }, { on := 6, ground := Go.Ground.phase }], guard := none }) rfl (fun K hK => ?_) AllReadyH.nil)
    have s0 := xb.c (k := 0) rfl
    have s1 := xb.c (k := 1) rfl
    have f0 := xb.f 0
    have f1 := xb.f 1
    go_simp
    try go_wp2_with fail
    clear s0 s1 f0 f1
    replace o2 := (o2.box (k := 0) (v := .int .i64 now7) xb (by decide)).box (k := 1) (v := .slice A7 n7 c7) (xb.set 0 (.int .i64 now7)) (by decide)
    replace o7 := (o7.box (k := 0) (v := .int .i64 now7) xb (by decide)).box (k := 1) (v := .slice A7 n7 c7) (xb.set 0 (.int .i64 now7)) (by decide)
    replace xa := (xa.other (B' := (w.heap.size + 1)) (k := 0) (x := .int .i64 now7) (by omega)).other (B' := (w.heap.size + 1)) (k := 1) (x := .slice A7 n7 c7) (by omega)
    replace xd := (xd.other (B' := (w.heap.size + 1)) (k := 0) (x := .int .i64 now7) (by omega)).other (B' := (w.heap.size + 1)) (k := 1) (x := .slice A7 n7 c7) (by omega)
    replace xb := (xb.set 0 (.int .i64 now7)).set 1 (.slice A7 n7 c7)
    replace b4 := bel_set (bel_set b4 (p := ⟨(w.heap.size + 1), 0, none⟩) (by simp only; omega) (.int .i64 now7)) (p := ⟨(w.heap.size + 1), 1, none⟩) (by simp only; omega) (.slice A7 n7 c7)
    replace qxd0 := xd.c (k := 0) rfl
    replace qxd1 := xd.c (k := 1) rfl
    refine hK.out _ _ ⟨qxd0, qxd1⟩ (fun hHeld => ?_)
    clear hK K
    try simp only [Act.put, List.setIfInBounds_toArray, List.set_cons_zero, List.set_cons_succ]
    refine wpAnyH_done (by kernel_rfl) ?_ _
    have z0 := xa.c (k := 0) rfl
    have z1 := xa.c (k := 1) rfl
    have z2 := xb.c (k := 0) rfl
    have z3 := xb.c (k := 1) rfl
    have HOA := Lib.hid (o2.lower hz1)
    have HOB := Lib.hid (o7.lower hz6)
    have HBB := Lib.hid b4
    clear o2 o7 b4
    go_wp2_with fail
    exact bodyPost_ret (v := .tuple #[.agg #[.int .i64 now, .slice B lv.length cb], .agg #[.int .i64 now7, .slice A7 n7 c7]]) (by simp [results, Try.results58, go_sem, z0, z1, z2, z3]) rfl ⟨now, B, lv.length, cb, lv, now7, A7, n7, c7, l7, rfl, HOA.out, HOB.out, by have := HQ.out; omega, by have := HQ.out; omega, by have := HQ.out; omega, by have := HQ.out; omega, HBB.out⟩
end Go.Proofs.Ytpofgidhhcolfaa
