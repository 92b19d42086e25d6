/- Contract: DrawVersLast. -/
import Derived.Test.YtpofgidhhcolfaaX10
namespace Go.Proofs.Ytpofgidhhcolfaa
open Go.RowKit

def DrawVKPost (w : World) (e : Ending) (w' : World) : Prop :=
  ∃ (now : Int) (B : Option Addr) (n cb : Nat) (lv : List Ver) (key : ByteArray), e = .returned (.tuple #[.agg #[.int .i64 now, .slice B n cb], .string key]) ∧ Own encVer 4 77 w' w.heap.size (.slice B n cb) lv ∧ VerSWf lv ∧ n ≤ 100 ∧ -1000 ≤ now ∧ now ≤ 1000 ∧ key.size ≤ maxLen ∧ Below w.heap.size w w'
set_option maxHeartbeats 4000000 in
set_option maxRecDepth 100000 in
theorem drawVersLast (A : Option Addr) (n c : Nat) (l : List UInt8) (w : World) (hr : Sl encB w w.heap.size A n l) (hn : n ≤ 1048576) (hc : n ≤ c) :
    Calls Try.prog 72 #[.slice A n c] w (DrawVKPost w) := by
  have HN := Lib.hid hn
  have HC := Lib.hid hc
  clear hn hc
  have x0 := BoxC.new w 39 #[.int .i64 0, .slice none 0 0]
  have b0 := bel_alloc (Below.refl _ w) (.cells #[.int .i64 0, .slice none 0 0] 39)
  have hz0 : (w.alloc (.cells #[.int .i64 0, .slice none 0 0] 39)).heap.size = w.heap.size + 1 := by simp
  have hr0 := hr.on b0
  go_enter Try.func72, Try.ntmps72
  go_wp2_with fail
  generalize w.alloc (.cells #[.int .i64 0, .slice none 0 0] 39) = w0 at *
  refine (l11Open A n c l w0 hr0 HN.out HC.out).mono ?_
  rintro e w1 ⟨A1, m, c1, l1, rfl, r1, hb1⟩
  rw [hz0] at r1
  rw [hz0]
  have x1 := x0.on hb1
  have b1 := bel_trans b0 hb1
  have hg : w.heap.size ≠ w.heap.size + 1 := by omega
  clear x0 hr0 hr hb1 b0 hz0
  go_wp2_with fail
  refine (l2Some (w.heap.size + 1) 0 A1 m c1 l1 w1 r1 (by omega)).mono ?_
  rintro e w2 ⟨now, B, cb, lv, p2, rfl, o2, hP2, hp2, r2, t2⟩
  have x2 := x1.turn t2 (fun x hx => by cases hx; exact hg)
  have b2 := Rd.bel b1 t2 (by omega)
  have hlen := hP2.small
  have h40 := hP2.1.2.1
  have h00 := hP2.1.1
  have hsw := hP2.swf
  have hz2 : w.heap.size ≤ w2.heap.size := b2.size
  have hg2 : w.heap.size + 1 < w2.heap.size := r2.lt
  clear hP2 r1 x1 t2 b1
  go_wp2_with fail
  refine (l2Bent (w.heap.size + 1) p2 40 A1 m c1 l1 now B lv.length cb lv w2 r2 (by omega) o2.sl hsw (by omega) (by omega) (by omega) (by omega) (by omega)).mono ?_
  rintro e w3 ⟨now3, B3, n3, c3, l3, p3, rfl, o3, hS3, hn3, hl3, hu3, hp3, r3, t3⟩
  have x3 := x2.turn t3 (fun x hx => by cases hx; exact hg)
  have b3 := Rd.bel b2 t3 (by omega)
  have hg3 := r3.lt
  have HS := Lib.hid hS3
  have hn100 : n3 ≤ 100 := by omega
  have hl1000 : -1000 ≤ now3 := by omega
  have hu1000 : now3 ≤ 1000 := by omega
  have hp3' : p3 ≤ 1000 := by omega
  have HP := Lib.hid hp3'
  have HQ := Lib.hid (⟨hn100, hl1000, hu1000⟩ : n3 ≤ 100 ∧ -1000 ≤ now3 ∧ now3 ≤ 1000)
  clear o2 t3 r2 x2 b2 hlen h40 h00 hsw hn3 hl3 hu3 hp3 hp2 hS3 hp3' hn100 hl1000 hu1000
  have x5 := BoxC.new w3 39 #[.int .i64 now3, .slice B3 n3 c3]
  have x0 := x3.alloc (.cells #[.int .i64 now3, .slice B3 n3 c3] 39)
  have o4 := o3.alloc (.cells #[.int .i64 now3, .slice B3 n3 c3] 39)
  have r4 := r3.on (bel_alloc (Below.refl _ w3) (.cells #[.int .i64 now3, .slice B3 n3 c3] 39))
  have b4 := bel_alloc b3 (.cells #[.int .i64 now3, .slice B3 n3 c3] 39)
  clear x3 o3 r3 b3
  go_wp2_with fail
  all_goals
    obtain ⟨D, hD⟩ : ∃ D, w3.heap.size = D := ⟨_, rfl⟩
    rw [hD] at x5 hg3
    rw [hD]
    clear hD
    generalize w3.alloc (.cells #[.int .i64 now3, .slice B3 n3 c3] 39) = w4 at *
    have hD0 : D ≠ w.heap.size := by omega
    have hD1 : w.heap.size ≠ D := by omega
    have hDg : D ≠ w.heap.size + 1 := by omega
    have q0 := x5.c (k := 0) rfl
    have q1 := x5.c (k := 1) rfl
  · rename_i hnp0
    go_wp2_with fail
    refine (pick (w.heap.size + 1) (p3) 2 A1 m c1 l1 w4 r4 (by omega) (by omega) (by have := HP.out; omega)).mono ?_
    rintro e w5 ⟨v, rfl, hv, r5, t5⟩
    replace x0 := x0.turn t5 (fun x hx => by cases hx; exact hg)
    replace x5 := x5.turn t5 (fun x hx => by cases hx; exact hDg)
    replace o4 := o4.farRd t5 hg2
    replace b4 := Rd.bel b4 t5 (by omega)
    clear r4
    have r4 := r5
    clear r5 t5
    replace q0 := x5.c (k := 0) rfl
    replace q1 := x5.c (k := 1) rfl
    by_cases hv0 : v = 0
    · subst hv0
      obtain ⟨d, rfl⟩ := o4.zero (k := 0) (by omega)
      go_wp2_with fail
      refine wp_region_held_drew (S := (fun W' => W'.cell? ⟨D, 0, none⟩ = some (.int .i64 now3) ∧ W'.cell? ⟨D, 1, none⟩ = some (.slice (some ⟨d, 0, none⟩) n3 c3) ∧ Own encVer 4 77 W' w2.heap.size (.slice (some ⟨d, 0, none⟩) n3 c3) l3)) (by kernel_rfl) ⟨q0, q1, o4⟩ (fun hHeld => ?_)
      refine wpAnyH_take (i := 0) (oi := { dst := some 21, op := Go.Op.load 39 (Go.Operand.tmp 5), type := 39, pos := "l2_snap.go:249", after := #[], guard := none }) (v := ?_) rfl (by kernel_rfl) (by kernel_rfl) (by kernel_rfl) (fun _ _ _ h => h) (Or.inl ⟨by rfl, ?hyc0⟩) (by assumption) ?_
      case hyc0 => ((intro w hSw; (try dsimp only at hSw); go_simp); try with_reducible rfl)
      try simp only [Act.put, List.setIfInBounds_toArray, List.set_cons_zero, List.set_cons_succ]
      refine wpAnyH_take (i := 1) (oi := { dst := some 22, op := Go.Op.fieldAddr 39 (Go.Operand.tmp 5) 1, type := 0, pos := "l2_snap.go:249", after := #[{ on := 11, ground := Go.Ground.gcOnly Go.Departure.lateStores }], guard := none }) (v := ?_) rfl (by kernel_rfl) (by kernel_rfl) (by kernel_rfl) (fun _ _ _ h => h) (Or.inl ⟨by rfl, ?hyc1⟩) (by assumption) ?_
      case hyc1 => ((intro w hSw; (try dsimp only at hSw); go_simp); try with_reducible rfl)
      try simp only [Act.put, List.setIfInBounds_toArray, List.set_cons_zero, List.set_cons_succ]
      refine wpAnyH_take (i := 2) (oi := { dst := some 23, op := Go.Op.load 37 (Go.Operand.tmp 22), type := 37, pos := "l2_snap.go:249", after := #[{ on := 1, ground := Go.Ground.data }, { on := 11, ground := Go.Ground.gcOnly Go.Departure.lateStores }], guard := none }) (v := ?_) rfl (by kernel_rfl) (by kernel_rfl) (by kernel_rfl) (fun _ _ _ h => h) (Or.inl ⟨by rfl, ?hyc2⟩) (by assumption) ?_
      case hyc2 => ((intro w hSw; (try dsimp only at hSw); go_simp); try with_reducible rfl)
      try simp only [Act.put, List.setIfInBounds_toArray, List.set_cons_zero, List.set_cons_succ]
      refine wpAnyH_take (i := 3) (oi := { dst := some 24, op := Go.Op.move (Go.Operand.tmp 4), type := 124, pos := "l2_snap.go:249", after := #[], guard := none }) (v := ?_) rfl (by kernel_rfl) (by kernel_rfl) (by kernel_rfl) (fun _ _ _ h => h) (Or.inl ⟨by rfl, ?hyc3⟩) (by assumption) ?_
      case hyc3 => ((intro w hSw; (try dsimp only at hSw); go_simp); try with_reducible rfl)
      try simp only [Act.put, List.setIfInBounds_toArray, List.set_cons_zero, List.set_cons_succ]
      refine wpAnyH_take (i := 4) (oi := { dst := some 25, op := Go.Op.fieldAddr 39 (Go.Operand.tmp 5) 1, type := 0, pos := "l2_snap.go:249", after := #[], guard := none }) (v := ?_) rfl (by kernel_rfl) (by kernel_rfl) (by kernel_rfl) (fun _ _ _ h => h) (Or.inl ⟨by rfl, ?hyc4⟩) (by assumption) ?_
      case hyc4 => ((intro w hSw; (try dsimp only at hSw); go_simp); try with_reducible rfl)
      try simp only [Act.put, List.setIfInBounds_toArray, List.set_cons_zero, List.set_cons_succ]
      refine wpAnyH_take (i := 5) (oi := { dst := some 26, op := Go.Op.load 37 (Go.Operand.tmp 25), type := 37, pos := "l2_snap.go:249", after := #[{ on := 4, ground := Go.Ground.data }], guard := none }) (v := ?_) rfl (by kernel_rfl) (by kernel_rfl) (by kernel_rfl) (fun _ _ _ h => h) (Or.inl ⟨by rfl, ?hyc5⟩) (by assumption) ?_
      case hyc5 => ((intro w hSw; (try dsimp only at hSw); go_simp); try with_reducible rfl)
      try simp only [Act.put, List.setIfInBounds_toArray, List.set_cons_zero, List.set_cons_succ]
      refine wpAnyH_take (i := 6) (oi := { dst := some 27, op := Go.Op.call { callee := Go.Callee.builtin Go.Builtin.len, args := #[Go.Operand.tmp 26], argTypes := #[37] }, type := 3, pos := "l2_snap.go:249", after := #[{ on := 5, ground := Go.Ground.data }], guard := none }) (v := ?_) rfl (by kernel_rfl) (by kernel_rfl) (by kernel_rfl) (fun _ _ _ h => h) (Or.inl ⟨by rfl, ?hyc6⟩) (by assumption) ?_
      case hyc6 => ((intro w hSw; (try dsimp only at hSw); go_simp); try with_reducible rfl)
      try simp only [Act.put, List.setIfInBounds_toArray, List.set_cons_zero, List.set_cons_succ]
      refine wpAnyH_ready (rs := [7]) (by kernel_rfl) (by simp) ?_
      refine AllReadyH.cons (o := { dst := some 28, op := Go.Op.call { callee := Go.Callee.value (Go.Operand.func 104), args := #[Go.Operand.tmp 24, Go.Operand.tmp 27], argTypes := #[124, 3] }, type := 3, pos := "l2_snap.go:249", after := #[{ on := 3, ground := Go.Ground.data }, { on := 6, ground := Go.Ground.data }], guard := none }) rfl (fun K hK => ?_) AllReadyH.nil
      go_simp
      replace x0 := x0.drew
      replace x5 := x5.drew
      replace o4 := o4.drew
      replace b4 := bel_drewN b4 1
      replace r4 := r4.drewN 1
      refine (pick (w.heap.size + 1) (p3 + 1) n3 A1 m c1 l1 _ r4 (by omega) (by have := HQ.out.1; omega) (by have := HP.out; omega)).mono ?_
      rintro e w6 ⟨j, rfl, hj, r6, t6⟩
      replace x0 := x0.turn t6 (fun x hx => by cases hx; exact hg)
      replace x5 := x5.turn t6 (fun x hx => by cases hx; exact hDg)
      replace o4 := o4.farRd t6 hg2
      replace b4 := Rd.bel b4 t6 (by omega)
      clear r4
      have r4 := r6
      clear r6 t6
      replace q0 := x5.c (k := 0) rfl
      replace q1 := x5.c (k := 1) rfl
      have j0 : (0 : Int) ≤ (j : Int) := by omega
      have j1 : (j : Int) < (n3 : Int) := by omega
      obtain ⟨g0, g1, g2, g3, hx, -, -, -, -⟩ := atVer o4.sl hj
      have hkey : g0.size ≤ maxLen := HS.out.at_ hx
      have HXX := Lib.hid hx
      clear hx
      go_wp2_with fail
      refine hK.out _ _ ⟨q0, q1, o4⟩ (fun hHeld => ?_)
      clear hK K
      try simp only [Act.put, List.setIfInBounds_toArray, List.set_cons_zero, List.set_cons_succ]
      refine wpAnyH_take (i := 8) (oi := { dst := some 29, op := Go.Op.indexAddr 37 (Go.Operand.tmp 23) (Go.Operand.tmp 28), type := 0, pos := "l2_snap.go:249", after := #[{ on := 2, ground := Go.Ground.data }, { on := 7, ground := Go.Ground.data }, { on := 11, ground := Go.Ground.gcOnly Go.Departure.lateStores }], guard := none }) (v := ?_) rfl (by kernel_rfl) (by kernel_rfl) (by kernel_rfl) (fun _ _ _ h => h) (Or.inl ⟨by rfl, ?hyc8⟩) (by assumption) ?_
      case hyc8 => ((intro w hSw; (try dsimp only at hSw); go_simp); try with_reducible rfl)
      try simp only [Act.put, List.setIfInBounds_toArray, List.set_cons_zero, List.set_cons_succ]
      refine wpAnyH_take (i := 9) (oi := { dst := some 30, op := Go.Op.fieldAddr 77 (Go.Operand.tmp 29) 0, type := 0, pos := "l2_snap.go:249", after := #[{ on := 8, ground := Go.Ground.data }, { on := 11, ground := Go.Ground.gcOnly Go.Departure.lateStores }], guard := none }) (v := ?_) rfl (by kernel_rfl) (by kernel_rfl) (by kernel_rfl) (fun _ _ _ h => h) (Or.inl ⟨by rfl, ?hyc9⟩) (by assumption) ?_
      case hyc9 => ((intro w hSw; (try dsimp only at hSw); go_simp); try with_reducible rfl)
      try simp only [Act.put, List.setIfInBounds_toArray, List.set_cons_zero, List.set_cons_succ]
      refine wpAnyH_take (i := 10) (oi := { dst := some 31, op := Go.Op.load 9 (Go.Operand.tmp 30), type := 9, pos := "l2_snap.go:249", after := #[{ on := 9, ground := Go.Ground.data }, { on := 11, ground := Go.Ground.gcOnly Go.Departure.lateStores }], guard := none }) (v := ?_) rfl (by kernel_rfl) (by kernel_rfl) (by kernel_rfl) (fun _ _ _ h => h) (Or.inl ⟨by rfl, ?hyc10⟩) (by assumption) ?_
      case hyc10 => ((intro w hSw; (try dsimp only at hSw); have e0 := hSw.2.2.cellAt encVer_len (j := 0) HXX.out rfl; simp only [Nat.add_zero] at e0; go_simp); try with_reducible rfl)
      try simp only [Act.put, List.setIfInBounds_toArray, List.set_cons_zero, List.set_cons_succ]
      refine wpAnyH_ready (rs := [11]) (by kernel_rfl) (by simp) ?_
      refine AllReadyH.cons (o := { dst := none, op := Go.Op.store 39 (Go.Operand.tmp 2) (Go.Operand.tmp 21), type := 0, pos := "l2_snap.go:249", after := #[{ on := 0, ground := Go.Ground.data }, { on := 7, ground := Go.Ground.chain }, { on := 0, ground := Go.Ground.phase }, { on := 1, ground := Go.Ground.textOnly Go.Departure.lateStores }, { on := 2, ground := Go.Ground.textOnly Go.Departure.lateStores }, { on := 3, ground := Go.Ground.textOnly Go.Departure.lateStores }, { on := 4, ground := Go.Ground.textOnly Go.Departure.lateStores }, { on := 5, ground := Go.Ground.textOnly Go.Departure.lateStores }, { on := 6, ground := Go.Ground.textOnly Go.Departure.lateStoresUnsure }, { on := 7, ground := Go.Ground.textOnly Go.Departure.lateStoresUnsure }, { on := 8, ground := Go.Ground.textOnly Go.Departure.lateStores }, { on := 9, ground := Go.Ground.textOnly Go.Departure.lateStores }, { on := 10, ground := Go.Ground.textOnly Go.Departure.lateStores }], guard := none }) rfl (fun K hK => ?_) AllReadyH.nil
      have q2 := x0.c (k := 0) rfl
      have q3 := x0.c (k := 1) rfl
      have f0 := x0.f 0
      have f1 := x0.f 1
      go_simp
      go_wp2_with fail
      refine hK.out _ _ ?hSc (fun hHeld => ?_)
      case hSc => exact ⟨setOther (setOther q0 hD0) hD0, setOther (setOther q1 hD0) hD0, (o4.box x0 (by decide)).box (x0.set 0 _) (by decide)⟩
      clear hK K
      try simp only [Act.put, List.setIfInBounds_toArray, List.set_cons_zero, List.set_cons_succ]
      refine wpAnyH_take (i := 12) (oi := { dst := some 3, op := Go.Op.assign (Go.Operand.tmp 31), type := 9, pos := "l2_snap.go:249", after := #[{ on := 10, ground := Go.Ground.data }, { on := 11, ground := Go.Ground.chain }, { on := 0, ground := Go.Ground.phase }, { on := 1, ground := Go.Ground.phase }, { on := 2, ground := Go.Ground.phase }, { on := 3, ground := Go.Ground.phase }, { on := 4, ground := Go.Ground.phase }, { on := 5, ground := Go.Ground.phase }, { on := 6, ground := Go.Ground.phase }, { on := 7, ground := Go.Ground.phase }, { on := 8, ground := Go.Ground.phase }, { on := 9, ground := Go.Ground.phase }, { on := 10, ground := Go.Ground.phase }, { on := 11, ground := Go.Ground.phase }], guard := none }) (v := ?_) rfl (by kernel_rfl) (by kernel_rfl) (by kernel_rfl) (fun _ _ _ h => h) (Or.inl ⟨by rfl, ?hyc12⟩) (by assumption) ?_
      case hyc12 => ((intro w hSw; (try dsimp only at hSw); go_simp); try with_reducible rfl)
      try simp only [Act.put, List.setIfInBounds_toArray, List.set_cons_zero, List.set_cons_succ]
      refine wpAnyH_done (by kernel_rfl) ?_ _
      have z := (x0.set 0 (.int .i64 now3)).set 1 (.slice (some ⟨d, 0, none⟩) n3 c3)
      have z0 := z.c (k := 0) rfl
      have z1 := z.c (k := 1) rfl
      go_wp2_with fail
      exact bodyPost_ret (v := .tuple #[.agg #[.int .i64 now3, .slice (some ⟨d, 0, none⟩) n3 c3], .string g0]) (by simp [results, Try.results72, go_sem, z0, z1]) rfl ⟨now3, (some ⟨d, 0, none⟩), n3, c3, l3, g0, rfl, ((o4.lower hz2).box x0 (by decide)).box (x0.set 0 _) (by decide), HS.out, HQ.out.1, HQ.out.2.1, HQ.out.2.2, hkey, bel_set (bel_set b4 (Nat.le_refl _) _) (Nat.le_refl _) _⟩
    · have hv1 : ((v : Int) == 0) = false := by simp; omega
      go_wp2_with fail
      refine wp_region_held_drew (S := (fun W' => W'.cell? ⟨D, 0, none⟩ = some (.int .i64 now3) ∧ W'.cell? ⟨D, 1, none⟩ = some (.slice B3 n3 c3))) (by kernel_rfl) ⟨q0, q1⟩ (fun hHeld => ?_)
      refine wpAnyH_take (i := 0) (oi := { dst := some 32, op := Go.Op.load 39 (Go.Operand.tmp 5), type := 39, pos := "l2_snap.go:251", after := #[], guard := none }) (v := ?_) rfl (by kernel_rfl) (by kernel_rfl) (by kernel_rfl) (fun _ _ _ h => h) (Or.inl ⟨by rfl, ?hya0⟩) (by assumption) ?_
      case hya0 => ((intro w hSw; (try dsimp only at hSw); go_simp); try with_reducible rfl)
      try simp only [Act.put, List.setIfInBounds_toArray, List.set_cons_zero, List.set_cons_succ]
      refine wpAnyH_take (i := 1) (oi := { dst := some 33, op := Go.Op.move (Go.Operand.tmp 4), type := 124, pos := "l2_snap.go:251", after := #[], guard := none }) (v := ?_) rfl (by kernel_rfl) (by kernel_rfl) (by kernel_rfl) (fun _ _ _ h => h) (Or.inl ⟨by rfl, ?hya1⟩) (by assumption) ?_
      case hya1 => ((intro w hSw; (try dsimp only at hSw); go_simp); try with_reducible rfl)
      try simp only [Act.put, List.setIfInBounds_toArray, List.set_cons_zero, List.set_cons_succ]
      refine wpAnyH_ready (rs := [2]) (by kernel_rfl) (by simp) ?_
      refine AllReadyH.cons (o := { dst := some 34, op := Go.Op.call { callee := Go.Callee.value (Go.Operand.func 126), args := #[Go.Operand.tmp 33], argTypes := #[124] }, type := 9, pos := "l2_snap.go:251", after := #[{ on := 1, ground := Go.Ground.data }], guard := none }) rfl (fun K hK => ?_) AllReadyH.nil
      go_simp
      replace x0 := x0.drew
      replace x5 := x5.drew
      replace o4 := o4.drew
      replace b4 := bel_drewN b4 1
      replace r4 := r4.drewN 1
      refine (l1Key (w.heap.size + 1) (p3 + 1) A1 m c1 l1 _ r4 (by have := HP.out; omega)).mono ?_
      rintro e w5 ⟨key, rfl, hkey, r5, t5⟩
      replace x0 := x0.turn t5 (fun x hx => by cases hx; exact hg)
      replace x5 := x5.turn t5 (fun x hx => by cases hx; exact hDg)
      replace o4 := o4.farRd t5 hg2
      replace b4 := Rd.bel b4 t5 (by omega)
      clear r4
      have r4 := r5
      clear r5 t5
      replace q0 := x5.c (k := 0) rfl
      replace q1 := x5.c (k := 1) rfl
      go_wp2_with fail
      refine hK.out _ _ ⟨q0, q1⟩ (fun hHeld => ?_)
      clear hK K
      try simp only [Act.put, List.setIfInBounds_toArray, List.set_cons_zero, List.set_cons_succ]
      refine wpAnyH_ready (rs := [3]) (by kernel_rfl) (by simp) ?_
      refine AllReadyH.cons (o := { dst := none, op := Go.Op.store 39 (Go.Operand.tmp 2) (Go.Operand.tmp 32), type := 0, pos := "l2_snap.go:251", after := #[{ on := 0, ground := Go.Ground.data }, { on := 2, ground := Go.Ground.chain }, { on := 0, ground := Go.Ground.phase }, { on := 1, ground := Go.Ground.textOnly Go.Departure.lateStores }, { on := 2, ground := Go.Ground.textOnly Go.Departure.lateStoresUnsure }], guard := none }) rfl (fun K hK => ?_) AllReadyH.nil
      have q2 := x0.c (k := 0) rfl
      have q3 := x0.c (k := 1) rfl
      have f0 := x0.f 0
      have f1 := x0.f 1
      go_simp
      go_wp2_with fail
      refine hK.out _ _ ?hSa (fun hHeld => ?_)
      case hSa => exact ⟨setOther (setOther q0 hD0) hD0, setOther (setOther q1 hD0) hD0⟩
      clear hK K
      try simp only [Act.put, List.setIfInBounds_toArray, List.set_cons_zero, List.set_cons_succ]
      refine wpAnyH_take (i := 4) (oi := { dst := some 3, op := Go.Op.assign (Go.Operand.tmp 34), type := 9, pos := "l2_snap.go:251", after := #[{ on := 2, ground := Go.Ground.data }, { on := 3, ground := Go.Ground.chain }, { on := 0, ground := Go.Ground.phase }, { on := 1, ground := Go.Ground.phase }, { on := 2, ground := Go.Ground.phase }, { on := 3, ground := Go.Ground.phase }], guard := none }) (v := ?_) rfl (by kernel_rfl) (by kernel_rfl) (by kernel_rfl) (fun _ _ _ h => h) (Or.inl ⟨by rfl, ?hya4⟩) (by assumption) ?_
      case hya4 => ((intro w hSw; (try dsimp only at hSw); go_simp); try with_reducible rfl)
      try simp only [Act.put, List.setIfInBounds_toArray, List.set_cons_zero, List.set_cons_succ]
      refine wpAnyH_done (by kernel_rfl) ?_ _
      have z := (x0.set 0 (.int .i64 now3)).set 1 (.slice B3 n3 c3)
      have z0 := z.c (k := 0) rfl
      have z1 := z.c (k := 1) rfl
      go_wp2_with fail
      exact bodyPost_ret (v := .tuple #[.agg #[.int .i64 now3, .slice B3 n3 c3], .string key]) (by simp [results, Try.results72, go_sem, z0, z1]) rfl ⟨now3, B3, n3, c3, l3, key, rfl, ((o4.lower hz2).box x0 (by decide)).box (x0.set 0 _) (by decide), HS.out, HQ.out.1, HQ.out.2.1, HQ.out.2.2, Nat.le_trans hkey (by decide), bel_set (bel_set b4 (Nat.le_refl _) _) (Nat.le_refl _) _⟩
  · skip
    refine wp_region_held_drew (S := (fun W' => W'.cell? ⟨D, 0, none⟩ = some (.int .i64 now3) ∧ W'.cell? ⟨D, 1, none⟩ = some (.slice B3 n3 c3))) (by kernel_rfl) ⟨q0, q1⟩ (fun hHeld => ?_)
    refine wpAnyH_take (i := 0) (oi := { dst := some 32, op := Go.Op.load 39 (Go.Operand.tmp 5), type := 39, pos := "l2_snap.go:251", after := #[], guard := none }) (v := ?_) rfl (by kernel_rfl) (by kernel_rfl) (by kernel_rfl) (fun _ _ _ h => h) (Or.inl ⟨by rfl, ?hyb0⟩) (by assumption) ?_
    case hyb0 => ((intro w hSw; (try dsimp only at hSw); go_simp); try with_reducible rfl)
    try simp only [Act.put, List.setIfInBounds_toArray, List.set_cons_zero, List.set_cons_succ]
    refine wpAnyH_take (i := 1) (oi := { dst := some 33, op := Go.Op.move (Go.Operand.tmp 4), type := 124, pos := "l2_snap.go:251", after := #[], guard := none }) (v := ?_) rfl (by kernel_rfl) (by kernel_rfl) (by kernel_rfl) (fun _ _ _ h => h) (Or.inl ⟨by rfl, ?hyb1⟩) (by assumption) ?_
    case hyb1 => ((intro w hSw; (try dsimp only at hSw); go_simp); try with_reducible rfl)
    try simp only [Act.put, List.setIfInBounds_toArray, List.set_cons_zero, List.set_cons_succ]
    refine wpAnyH_ready (rs := [2]) (by kernel_rfl) (by simp) ?_
    refine AllReadyH.cons (o := { dst := some 34, op := Go.Op.call { callee := Go.Callee.value (Go.Operand.func 126), args := #[Go.Operand.tmp 33], argTypes := #[124] }, type := 9, pos := "l2_snap.go:251", after := #[{ on := 1, ground := Go.Ground.data }], guard := none }) rfl (fun K hK => ?_) AllReadyH.nil
    go_simp
    replace x0 := x0.drew
    replace x5 := x5.drew
    replace o4 := o4.drew
    replace b4 := bel_drewN b4 1
    replace r4 := r4.drewN 1
    refine (l1Key (w.heap.size + 1) (p3) A1 m c1 l1 _ r4 (by have := HP.out; omega)).mono ?_
    rintro e w5 ⟨key, rfl, hkey, r5, t5⟩
    replace x0 := x0.turn t5 (fun x hx => by cases hx; exact hg)
    replace x5 := x5.turn t5 (fun x hx => by cases hx; exact hDg)
    replace o4 := o4.farRd t5 hg2
    replace b4 := Rd.bel b4 t5 (by omega)
    clear r4
    have r4 := r5
    clear r5 t5
    replace q0 := x5.c (k := 0) rfl
    replace q1 := x5.c (k := 1) rfl
    go_wp2_with fail
    refine hK.out _ _ ⟨q0, q1⟩ (fun hHeld => ?_)
    clear hK K
    try simp only [Act.put, List.setIfInBounds_toArray, List.set_cons_zero, List.set_cons_succ]
    refine wpAnyH_ready (rs := [3]) (by kernel_rfl) (by simp) ?_
    refine AllReadyH.cons (o := { dst := none, op := Go.Op.store 39 (Go.Operand.tmp 2) (Go.Operand.tmp 32), type := 0, pos := "l2_snap.go:251", after := #[{ on := 0, ground := Go.Ground.data }, { on := 2, ground := Go.Ground.chain }, { on := 0, ground := Go.Ground.phase }, { on := 1, ground := Go.Ground.textOnly Go.Departure.lateStores }, { on := 2, ground := Go.Ground.textOnly Go.Departure.lateStoresUnsure }], guard := none }) rfl (fun K hK => ?_) AllReadyH.nil
    have q2 := x0.c (k := 0) rfl
    have q3 := x0.c (k := 1) rfl
    have f0 := x0.f 0
    have f1 := x0.f 1
    go_simp
    go_wp2_with fail
    refine hK.out _ _ ?hSb (fun hHeld => ?_)
    case hSb => exact ⟨setOther (setOther q0 hD0) hD0, setOther (setOther q1 hD0) hD0⟩
    clear hK K
    try simp only [Act.put, List.setIfInBounds_toArray, List.set_cons_zero, List.set_cons_succ]
    refine wpAnyH_take (i := 4) (oi := { dst := some 3, op := Go.Op.assign (Go.Operand.tmp 34), type := 9, pos := "l2_snap.go:251", after := #[{ on := 2, ground := Go.Ground.data }, { on := 3, ground := Go.Ground.chain }, { on := 0, ground := Go.Ground.phase }, { on := 1, ground := Go.Ground.phase }, { on := 2, ground := Go.Ground.phase }, { on := 3, ground := Go.Ground.phase }], guard := none }) (v := ?_) rfl (by kernel_rfl) (by kernel_rfl) (by kernel_rfl) (fun _ _ _ h => h) (Or.inl ⟨by rfl, ?hyb4⟩) (by assumption) ?_
    case hyb4 => ((intro w hSw; (try dsimp only at hSw); go_simp); try with_reducible rfl)
    try simp only [Act.put, List.setIfInBounds_toArray, List.set_cons_zero, List.set_cons_succ]
    refine wpAnyH_done (by kernel_rfl) ?_ _
    have z := (x0.set 0 (.int .i64 now3)).set 1 (.slice B3 n3 c3)
    have z0 := z.c (k := 0) rfl
    have z1 := z.c (k := 1) rfl
    go_wp2_with fail
    exact bodyPost_ret (v := .tuple #[.agg #[.int .i64 now3, .slice B3 n3 c3], .string key]) (by simp [results, Try.results72, go_sem, z0, z1]) rfl ⟨now3, B3, n3, c3, l3, key, rfl, ((o4.lower hz2).box x0 (by decide)).box (x0.set 0 _) (by decide), HS.out, HQ.out.1, HQ.out.2.1, HQ.out.2.2, Nat.le_trans hkey (by decide), bel_set (bel_set b4 (Nat.le_refl _) _) (Nat.le_refl _) _⟩
end Go.Proofs.Ytpofgidhhcolfaa
