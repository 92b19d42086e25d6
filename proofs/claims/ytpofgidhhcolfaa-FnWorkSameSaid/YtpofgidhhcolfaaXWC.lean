/- Contracts: l3Bent, DrawWorkSame. -/
import Derived.Test.YtpofgidhhcolfaaXWB
namespace Go.Proofs.Ytpofgidhhcolfaa
open Go.RowKit

def is8 : List Int := [2, 3, 1, 0, 5, 8]
theorem is8_small : ∀ s ∈ is8, ∃ k : Nat, s = (k : Int) ∧ k ≤ 8 := by
  intro s hs
  simp only [is8, List.mem_cons, List.not_mem_nil, or_false] at hs
  exact ⟨s.toNat, by omega, by omega⟩
def SomeWPost (w : World) (g p : Nat) (now : Int) (A : Option Addr) (m c : Nat) (l : List UInt8) (e : Ending) (w' : World) : Prop :=
  ∃ (at_ : Int) (B : Option Addr) (cb : Nat) (lw : List Write) (p' : Nat), e = .returned (.agg #[.int .i64 at_, .slice B lw.length cb]) ∧ Own encWrite 3 73 w' w.heap.size (.slice B lw.length cb) lw ∧ SmallW lw ∧ lw.length ≤ 9 ∧ 0 ≤ at_ ∧ at_ ≤ now ∧ p' ≤ p + 100 ∧ Rd w' g p' A m c l ∧ Turn (some ⟨g, 0, none⟩) w w'
def SomeWRel (w : World) (g p D : Nat) (now : Int) (A : Option Addr) (n c : Nat) (A0 : Option Addr) (m0 c0 : Nat) (l0 : List UInt8) (v6 : Value) (wr : World) : Prop :=
  ∃ (k p' : Nat) (at_ : Int) (B : Option Addr) (cb : Nat) (lw : List Write), v6 = .int .i64 (k : Int) ∧ k ≤ 8 ∧ 0 ≤ at_ ∧ at_ ≤ now ∧ Own encWrite 3 73 wr w.heap.size (.slice B lw.length cb) lw ∧ SmallW lw ∧ lw.length + k ≤ 8 ∧
    BoxC wr w.heap.size 39 #[.int .i64 now, .slice A n c] ∧ BoxC wr (w.heap.size + 1) 29 #[.int .i64 0, .slice none 0 0] ∧ BoxC wr D 29 #[.int .i64 at_, .slice B lw.length cb] ∧ p' + 10 * k ≤ p + 90 ∧ Rd wr g p' A0 m0 c0 l0 ∧ Turn (some ⟨g, 0, none⟩) w wr
set_option maxHeartbeats 40000000 in
set_option maxRecDepth 100000 in
theorem l3Some (g p : Nat) (A0 : Option Addr) (m0 c0 : Nat) (l0 : List UInt8) (now : Int) (A : Option Addr) (n c : Nat) (lv : List Ver) (w : World) (hrd : Rd w g p A0 m0 c0 l0) (hp : p ≤ 1000) (hr : Sl encVer w w.heap.size A n lv) (hP : VersP now lv) (hne : ∀ x, A = some x → g ≠ x.block) :
    Calls Try.prog 112 #[.pointer (some ⟨g, 0, none⟩), .agg #[.int .i64 now, .slice A n c]] w (SomeWPost w g p now A0 m0 c0 l0) := by
  have HN : Hid (n ≤ 60) := Lib.hid (by have := hP.1.2.2; rw [hr.len] at this; exact this)
  have HP := Lib.hid hp
  have HVP := Lib.hid hP
  have h00 : 0 ≤ now := hP.1.1
  have h40 : now ≤ 40 := hP.1.2.1
  have HV : Hid (∀ W, Turn (some ⟨g, 0, none⟩) w W → Sl encVer W W.heap.size A n lv) := Lib.hid fun W hW => hr.turnG hW hne
  have hRP := at_rowsP hP hP.1.1 (Int.le_refl now)
  have HRL : Hid ((atL lv now).length ≤ 1000) := Lib.hid (by have := hRP.1; omega)
  have HRS : Hid (∀ r ∈ atL lv now, r.1.size ≤ 3) := Lib.hid (fun r hr => by have := hRP.small r hr; omega)
  have hg := hrd.lt
  have x3 := (BoxC.new w 39 #[.int .i64 now, .slice A n c]).alloc (.cells #[.int .i64 0, .slice none 0 0] 29)
  have x4 := BoxC.new (w.alloc (.cells #[.int .i64 now, .slice A n c] 39)) 29 #[.int .i64 0, .slice none 0 0]
  simp only [World.size_alloc] at x4
  have b0 := bel_alloc (bel_alloc (Below.refl _ w) (.cells #[.int .i64 now, .slice A n c] 39)) (.cells #[.int .i64 0, .slice none 0 0] 29)
  have r4 := hrd.on b0
  have T4 : Turn (some ⟨g, 0, none⟩) w _ := Turn.of_below b0
  clear hr hP hne hRP hp hrd b0
  have qx30 := x3.c (k := 0) rfl
  have qx31 := x3.c (k := 1) rfl
  go_enter Try.func112, Try.ntmps112
  go_wp2_with fail
  generalize (w.alloc (.cells #[.int .i64 now, .slice A n c] 39)).alloc (.cells #[.int .i64 0, .slice none 0 0] 29) = w0 at *
  refine (workNewP now A n c lv w0 (HV.out _ T4) HVP.out (by have := HN.out; omega)).mono ?_
  rintro e w1 ⟨A1, c1, rfl, o2, hb1⟩
  replace o2 := o2.lower (base' := w.heap.size) T4.size
  replace x3 := x3.on hb1
  replace x4 := x4.on hb1
  replace r4 := r4.on hb1
  replace T4 := T4.below hb1
  replace qx30 := x3.c (k := 0) rfl
  replace qx31 := x3.c (k := 1) rfl
  clear hb1
  have hD1 := x4.lt
  have x5 := BoxC.new w1 29 #[.int .i64 now, .slice A1 0 c1]
  replace x3 := x3.alloc (.cells #[.int .i64 now, .slice A1 0 c1] 29)
  replace x4 := x4.alloc (.cells #[.int .i64 now, .slice A1 0 c1] 29)
  replace o2 := o2.alloc (.cells #[.int .i64 now, .slice A1 0 c1] 29)
  replace r4 := r4.on (bel_alloc (Below.refl _ _) (.cells #[.int .i64 now, .slice A1 0 c1] 29))
  replace T4 := T4.alloc (.cells #[.int .i64 now, .slice A1 0 c1] 29)
  replace qx30 := x3.c (k := 0) rfl
  replace qx31 := x3.c (k := 1) rfl
  have qx50 := x5.c (k := 0) rfl
  have qx51 := x5.c (k := 1) rfl
  go_wp2_with fail
  obtain ⟨D, hD⟩ : ∃ D, w1.heap.size = D := ⟨_, rfl⟩
  rw [hD] at x5 hD1 qx50 qx51
  rw [hD]
  clear hD
  generalize w1.alloc (.cells #[.int .i64 now, .slice A1 0 c1] 29) = w2 at *
  refine (pick g p 2 A0 m0 c0 l0 w2 r4 (by omega) (by omega) (by have := HP.out; omega)).mono ?_
  rintro e w3 ⟨v, rfl, hv, r3, t3⟩
  replace x3 := x3.turn t3 (fun x hx => by cases hx; simp only; omega)
  replace x4 := x4.turn t3 (fun x hx => by cases hx; simp only; omega)
  replace x5 := x5.turn t3 (fun x hx => by cases hx; simp only; omega)
  replace o2 := o2.farRd t3 hg
  replace T4 := T4.trans t3
  clear r4
  have r4 := r3
  clear r3 t3
  replace qx30 := x3.c (k := 0) rfl
  replace qx31 := x3.c (k := 1) rfl
  replace qx50 := x5.c (k := 0) rfl
  replace qx51 := x5.c (k := 1) rfl
  by_cases hv0 : v = 0
  · subst hv0
    have e1 : IntKind.i64.wrap (now + 1) = now + 1 := IntWalk.i64_in _ (by omega)
    have qf := x5.f 0
    go_wp2_with fail
    refine (pickI g (p + 1) (now + 1) A0 m0 c0 l0 w3 r4 (by omega) (by omega) (by have := HP.out; omega)).mono ?_
    rintro e w4 ⟨v4, rfl, hv40, hv41, r5, t5⟩
    replace x3 := x3.turn t5 (fun x hx => by cases hx; simp only; omega)
    replace x4 := x4.turn t5 (fun x hx => by cases hx; simp only; omega)
    replace x5 := x5.turn t5 (fun x hx => by cases hx; simp only; omega)
    replace o2 := o2.farRd t5 hg
    replace T4 := T4.trans t5
    clear r4
    have r4 := r5
    clear r5 t5
    replace qx30 := x3.c (k := 0) rfl
    replace qx31 := x3.c (k := 1) rfl
    replace qx50 := x5.c (k := 0) rfl
    replace qx51 := x5.c (k := 1) rfl
    replace qf := x5.f 0
    go_wp2_with fail
    clear qf
    replace o2 := o2.box (k := 0) (v := .int .i64 v4) x5 (by decide)
    replace x3 := x3.other (B' := D) (k := 0) (x := .int .i64 v4) (by omega)
    replace x4 := x4.other (B' := D) (k := 0) (x := .int .i64 v4) (by omega)
    replace r4 := r4.setB (B := D) 0 (.int .i64 v4) (by omega)
    replace T4 := T4.setOwn (d := D) (o := 0) (by omega) (.int .i64 v4)
    replace x5 := x5.set 0 (.int .i64 v4)
    replace x3 := x3
    replace qx30 := x3.c (k := 0) rfl
    replace qx31 := x3.c (k := 1) rfl
    replace qx50 := x5.c (k := 0) rfl
    replace qx51 := x5.c (k := 1) rfl
    have hz5 : (w4.setCell ⟨D, 0, none⟩ (.int .i64 v4)).heap.size = w4.heap.size := by simp
    generalize w4.setCell ⟨D, 0, none⟩ (.int .i64 v4) = w5 at *
    rw [← hz5]
    have hgw := r4.lt
    have r5 := r4.on (bel_alloc (Below.refl _ w5) (.cells #[.int .i64 2, .int .i64 3, .int .i64 1, .int .i64 0, .int .i64 5, .int .i64 8] 3))
    refine (numC g (p + 1 + 1) 6 6 w5.heap.size 0 A0 m0 c0 l0 is8 _ r5 (by have := HP.out; omega) (Sl.lit (enc := encI) w5 #[.int .i64 2, .int .i64 3, .int .i64 1, .int .i64 0, .int .i64 5, .int .i64 8] 3 is8 rfl 6 rfl) (by omega) (by omega) (by omega)).mono ?_
    rintro e w6 ⟨s, rfl, hs, r6, t6⟩
    obtain ⟨k0, rfl, hk0⟩ := is8_small s hs
    clear r5 hgw hs
    replace x3 := x3.alloc (.cells #[.int .i64 2, .int .i64 3, .int .i64 1, .int .i64 0, .int .i64 5, .int .i64 8] 3)
    replace x4 := x4.alloc (.cells #[.int .i64 2, .int .i64 3, .int .i64 1, .int .i64 0, .int .i64 5, .int .i64 8] 3)
    replace x5 := x5.alloc (.cells #[.int .i64 2, .int .i64 3, .int .i64 1, .int .i64 0, .int .i64 5, .int .i64 8] 3)
    replace o2 := o2.alloc (.cells #[.int .i64 2, .int .i64 3, .int .i64 1, .int .i64 0, .int .i64 5, .int .i64 8] 3)
    replace r4 := r4.on (bel_alloc (Below.refl _ _) (.cells #[.int .i64 2, .int .i64 3, .int .i64 1, .int .i64 0, .int .i64 5, .int .i64 8] 3))
    replace T4 := T4.alloc (.cells #[.int .i64 2, .int .i64 3, .int .i64 1, .int .i64 0, .int .i64 5, .int .i64 8] 3)
    replace qx30 := x3.c (k := 0) rfl
    replace qx31 := x3.c (k := 1) rfl
    replace qx50 := x5.c (k := 0) rfl
    replace qx51 := x5.c (k := 1) rfl
    replace x3 := x3.turn t6 (fun x hx => by cases hx; simp only; omega)
    replace x4 := x4.turn t6 (fun x hx => by cases hx; simp only; omega)
    replace x5 := x5.turn t6 (fun x hx => by cases hx; simp only; omega)
    replace o2 := o2.farRd t6 hg
    replace T4 := T4.trans t6
    clear r4
    have r4 := r6
    clear r6 t6
    replace qx30 := x3.c (k := 0) rfl
    replace qx31 := x3.c (k := 1) rfl
    replace qx50 := x5.c (k := 0) rfl
    replace qx51 := x5.c (k := 1) rfl
    go_wp2_with fail
    go_loopw [6] (SomeWRel w g p D now A n c A0 m0 c0 l0) (fun v6 _ => (intOf v6).toNat)
    case atStart => exact ⟨k0, p + 1 + 1 + 1, v4, A1, c1, [], rfl, hk0, by omega, by omega, o2, SmallW.nil, by simp; omega, x3, x4, x5, by omega, r4, T4⟩
    case round =>
      clear x3 x4 x5 o2 r4 T4 qx30 qx31 qx50 qx51
      obtain ⟨k, p', at_, B, cb, lw, rfl, hk, hat0, hat1, o2, hSm, hlen, x3, x4, x5, hp', r4, T4⟩ := hrel
      have HPP := Lib.hid hp'
      clear hp'
      have HSM := Lib.hid hSm
      have HLEN := Lib.hid hlen
      clear hSm hlen
      have HAT := Lib.hid (And.intro hat0 hat1)
      have qx30 := x3.c (k := 0) rfl
      have qx31 := x3.c (k := 1) rfl
      have qx50 := x5.c (k := 0) rfl
      have qx51 := x5.c (k := 1) rfl
      by_cases hk1 : 0 < k
      · go_wp2_with fail
        refine wp_region_held_drew (S := (fun W' => W'.cell? ⟨w.heap.size, 0, none⟩ = some (.int .i64 now) ∧ W'.cell? ⟨w.heap.size, 1, none⟩ = some (.slice A n c) ∧ W'.cell? ⟨D, 0, none⟩ = some (.int .i64 at_) ∧ W'.cell? ⟨D, 1, none⟩ = some (.slice B lw.length cb))) (by kernel_rfl) ⟨qx30, qx31, qx50, qx51⟩ (fun hHeld => ?_)
        replace x3 := x3.drew
        replace x4 := x4.drew
        replace x5 := x5.drew
        replace o2 := o2.drew
        replace r4 := r4.drew
        replace T4 := T4.drew
        replace qx30 := x3.c (k := 0) rfl
        replace qx31 := x3.c (k := 1) rfl
        replace qx50 := x5.c (k := 0) rfl
        replace qx51 := x5.c (k := 1) rfl
        generalize wr.drew = wy at *
        refine wpAnyH_take (i := 0) (oi := { dst := some 28, op := Go.Op.load 39 (Go.Operand.tmp 3), type := 39, pos := "l3_work.go:132", after := #[], guard := none }) (v := ?_) rfl (by kernel_rfl) (by kernel_rfl) (by kernel_rfl) (fun _ _ _ h => h) (Or.inl ⟨by rfl, ?hy1_0⟩) (by assumption) ?_
        case hy1_0 => ((intro w hSw; (try dsimp only at hSw); go_simp); try with_reducible rfl)
        try simp only [Act.put, List.setIfInBounds_toArray, List.set_cons_zero, List.set_cons_succ]
        refine wpAnyH_take (i := 1) (oi := { dst := some 29, op := Go.Op.load 29 (Go.Operand.tmp 5), type := 29, pos := "l3_work.go:132", after := #[], guard := none }) (v := ?_) rfl (by kernel_rfl) (by kernel_rfl) (by kernel_rfl) (fun _ _ _ h => h) (Or.inl ⟨by rfl, ?hy1_1⟩) (by assumption) ?_
        case hy1_1 => ((intro w hSw; (try dsimp only at hSw); go_simp); try with_reducible rfl)
        try simp only [Act.put, List.setIfInBounds_toArray, List.set_cons_zero, List.set_cons_succ]
        refine wpAnyH_take (i := 2) (oi := { dst := some 30, op := Go.Op.move (Go.Operand.tmp 0), type := 124, pos := "l3_work.go:132", after := #[], guard := none }) (v := ?_) rfl (by kernel_rfl) (by kernel_rfl) (by kernel_rfl) (fun _ _ _ h => h) (Or.inl ⟨by rfl, ?hy1_2⟩) (by assumption) ?_
        case hy1_2 => ((intro w hSw; (try dsimp only at hSw); go_simp); try with_reducible rfl)
        try simp only [Act.put, List.setIfInBounds_toArray, List.set_cons_zero, List.set_cons_succ]
        refine wpAnyH_take (i := 3) (oi := { dst := some 31, op := Go.Op.load 39 (Go.Operand.tmp 3), type := 39, pos := "l3_work.go:132", after := #[], guard := none }) (v := ?_) rfl (by kernel_rfl) (by kernel_rfl) (by kernel_rfl) (fun _ _ _ h => h) (Or.inl ⟨by rfl, ?hy1_3⟩) (by assumption) ?_
        case hy1_3 => ((intro w hSw; (try dsimp only at hSw); go_simp); try with_reducible rfl)
        try simp only [Act.put, List.setIfInBounds_toArray, List.set_cons_zero, List.set_cons_succ]
        refine wpAnyH_take (i := 4) (oi := { dst := some 32, op := Go.Op.fieldAddr 39 (Go.Operand.tmp 3) 0, type := 0, pos := "l3_work.go:132", after := #[], guard := none }) (v := ?_) rfl (by kernel_rfl) (by kernel_rfl) (by kernel_rfl) (fun _ _ _ h => h) (Or.inl ⟨by rfl, ?hy1_4⟩) (by assumption) ?_
        case hy1_4 => ((intro w hSw; (try dsimp only at hSw); go_simp); try with_reducible rfl)
        try simp only [Act.put, List.setIfInBounds_toArray, List.set_cons_zero, List.set_cons_succ]
        refine wpAnyH_take (i := 5) (oi := { dst := some 33, op := Go.Op.load 3 (Go.Operand.tmp 32), type := 3, pos := "l3_work.go:132", after := #[{ on := 4, ground := Go.Ground.data }], guard := none }) (v := ?_) rfl (by kernel_rfl) (by kernel_rfl) (by kernel_rfl) (fun _ _ _ h => h) (Or.inl ⟨by rfl, ?hy1_5⟩) (by assumption) ?_
        case hy1_5 => ((intro w hSw; (try dsimp only at hSw); go_simp); try with_reducible rfl)
        try simp only [Act.put, List.setIfInBounds_toArray, List.set_cons_zero, List.set_cons_succ]
        refine wpAnyH_ready (rs := [6, 12]) (by kernel_rfl) (by simp) ?_
        refine (AllReadyH.cons (o := { dst := some 34, op := Go.Op.call { callee := Go.Callee.value (Go.Operand.func 90), args := #[Go.Operand.tmp 31, Go.Operand.tmp 33], argTypes := #[39, 3] }, type := 59, pos := "l3_work.go:132", after := #[{ on := 3, ground := Go.Ground.data }, { on := 5, ground := Go.Ground.data }], guard := none }) rfl (fun K hK => ?_) (AllReadyH.cons (o := { dst := some 7, op := Go.Op.alloc 29, type := 0, pos := "l3_work.go:132", after := #[], guard := none }) rfl (fun K hK => ?_) AllReadyH.nil))
        · skip
          go_simp
          have hgG := r4.lt
          refine (specAt now A n c lv now _ (HV.out _ T4) (by have := HN.out; omega)).mono ?_
          rintro e w5 ⟨v5, rfl, oR, hb5⟩
          obtain ⟨R, cR, rfl, -, -⟩ := oR.form
          replace x3 := x3.on hb5
          replace x4 := x4.on hb5
          replace x5 := x5.on hb5
          replace o2 := o2.on hb5
          replace r4 := r4.on hb5
          replace T4 := T4.below hb5
          replace qx30 := x3.c (k := 0) rfl
          replace qx31 := x3.c (k := 1) rfl
          replace qx50 := x5.c (k := 0) rfl
          replace qx51 := x5.c (k := 1) rfl
          clear hb5
          go_wp2_with fail
          refine hK.out _ _ ⟨qx30, qx31, qx50, qx51⟩ (fun hHeld => ?_)
          clear hK K
          try simp only [Act.put, List.setIfInBounds_toArray, List.set_cons_zero, List.set_cons_succ]
          refine wpAnyH_ready (rs := [7, 12]) (by kernel_rfl) (by simp) ?_
          refine (AllReadyH.cons (o := { dst := some 35, op := Go.Op.call { callee := Go.Callee.value (Go.Operand.func 114), args := #[Go.Operand.tmp 30, Go.Operand.tmp 34], argTypes := #[124, 59] }, type := 73, pos := "l3_work.go:132", after := #[{ on := 2, ground := Go.Ground.data }, { on := 6, ground := Go.Ground.data }, { on := 6, ground := Go.Ground.chain }], guard := none }) rfl (fun K hK => ?_) (AllReadyH.cons (o := { dst := some 7, op := Go.Op.alloc 29, type := 0, pos := "l3_work.go:132", after := #[], guard := none }) rfl (fun K hK => ?_) AllReadyH.nil))
          · skip
            go_simp
            refine (l3Write g p' A0 m0 c0 l0 R (atL lv now).length cR (atL lv now) _ r4 (by have := HPP.out; have := HP.out; omega) oR.sl HRL.out (fun x hx => by have := (oR.block hx).1; omega) HRS.out).mono ?_
            rintro e w6 ⟨key, num, gone, p8, rfl, hkey, hp8, r6, t6⟩
            clear oR
            replace x3 := x3.turn t6 (fun x hx => by cases hx; simp only; omega)
            replace x4 := x4.turn t6 (fun x hx => by cases hx; simp only; omega)
            replace x5 := x5.turn t6 (fun x hx => by cases hx; simp only; omega)
            replace o2 := o2.farRd t6 hg
            replace T4 := T4.trans t6
            clear r4
            have r4 := r6
            clear r6 t6
            replace qx30 := x3.c (k := 0) rfl
            replace qx31 := x3.c (k := 1) rfl
            replace qx50 := x5.c (k := 0) rfl
            replace qx51 := x5.c (k := 1) rfl
            have HP8 := Lib.hid hp8
            clear hp8
            go_wp2_with fail
            refine hK.out _ _ ⟨qx30, qx31, qx50, qx51⟩ (fun hHeld => ?_)
            clear hK K
            try simp only [Act.put, List.setIfInBounds_toArray, List.set_cons_zero, List.set_cons_succ]
            refine wpAnyH_ready (rs := [8, 12]) (by kernel_rfl) (by simp) ?_
            refine (AllReadyH.cons (o := { dst := some 36, op := Go.Op.call { callee := Go.Callee.value (Go.Operand.func 113), args := #[Go.Operand.tmp 28, Go.Operand.tmp 29, Go.Operand.tmp 35], argTypes := #[39, 29, 73] }, type := 138, pos := "l3_work.go:132", after := #[{ on := 0, ground := Go.Ground.data }, { on := 1, ground := Go.Ground.data }, { on := 7, ground := Go.Ground.data }, { on := 7, ground := Go.Ground.chain }], guard := none }) rfl (fun K hK => ?_) (AllReadyH.cons (o := { dst := some 7, op := Go.Op.alloc 29, type := 0, pos := "l3_work.go:132", after := #[], guard := none }) rfl (fun K hK => ?_) AllReadyH.nil))
            · skip
              go_simp
              have hz6 := T4.size
              refine (workPut now A n c lv at_ B lw.length cb lw key num gone _ (HV.out _ T4) HVP.out hat0 hat1 o2.sl HSM.out (by have := HLEN.out; omega) hkey).mono ?_
              rintro e w7 ⟨at7, A7, c7, l7, code, rfl, o7, hS7, hl7, hat70, hat71, hb7⟩
              replace hl7 : l7.length + k ≤ 9 := by have := HLEN.out; omega
              replace x3 := x3.on hb7
              replace x4 := x4.on hb7
              replace x5 := x5.on hb7
              replace o2 := o2.on hb7
              replace r4 := r4.on hb7
              replace T4 := T4.below hb7
              replace qx30 := x3.c (k := 0) rfl
              replace qx31 := x3.c (k := 1) rfl
              replace qx50 := x5.c (k := 0) rfl
              replace qx51 := x5.c (k := 1) rfl
              clear hb7
              go_wp2_with fail
              refine hK.out _ _ ⟨qx30, qx31, qx50, qx51⟩ (fun hHeld => ?_)
              clear hK K
              try simp only [Act.put, List.setIfInBounds_toArray, List.set_cons_zero, List.set_cons_succ]
              refine wpAnyH_take (i := 9) (oi := { dst := some 27, op := Go.Op.move (Go.Operand.tmp 36), type := 138, pos := "l3_work.go:132", after := #[{ on := 8, ground := Go.Ground.data }], guard := none }) (v := ?_) rfl (by kernel_rfl) (by kernel_rfl) (by kernel_rfl) (fun _ _ _ h => h) (Or.inl ⟨by rfl, ?hy2_9⟩) (by assumption) ?_
              case hy2_9 => ((intro w hSw; (try dsimp only at hSw); go_simp); try with_reducible rfl)
              try simp only [Act.put, List.setIfInBounds_toArray, List.set_cons_zero, List.set_cons_succ]
              refine wpAnyH_take (i := 10) (oi := { dst := some 37, op := Go.Op.extract (Go.Operand.tmp 27) 0, type := 29, pos := "l3_work.go:132", after := #[{ on := 9, ground := Go.Ground.data }], guard := none }) (v := ?_) rfl (by kernel_rfl) (by kernel_rfl) (by kernel_rfl) (fun _ _ _ h => h) (Or.inl ⟨by rfl, ?hy2_10⟩) (by assumption) ?_
              case hy2_10 => ((intro w hSw; (try dsimp only at hSw); go_simp); try with_reducible rfl)
              try simp only [Act.put, List.setIfInBounds_toArray, List.set_cons_zero, List.set_cons_succ]
              refine wpAnyH_take (i := 11) (oi := { dst := some 38, op := Go.Op.extract (Go.Operand.tmp 27) 1, type := 3, pos := "l3_work.go:132", after := #[{ on := 9, ground := Go.Ground.data }, { on := 13, ground := Go.Ground.gcOnly Go.Departure.lateStores }], guard := none }) (v := ?_) rfl (by kernel_rfl) (by kernel_rfl) (by kernel_rfl) (fun _ _ _ h => h) (Or.inl ⟨by rfl, ?hy2_11⟩) (by assumption) ?_
              case hy2_11 => ((intro w hSw; (try dsimp only at hSw); go_simp); try with_reducible rfl)
              try simp only [Act.put, List.setIfInBounds_toArray, List.set_cons_zero, List.set_cons_succ]
              refine wpAnyH_ready (rs := [12]) (by kernel_rfl) (by simp) ?_
              refine (AllReadyH.cons (o := { dst := some 7, op := Go.Op.alloc 29, type := 0, pos := "l3_work.go:132", after := #[], guard := none }) rfl (fun K hK => ?_) AllReadyH.nil)
              have hED := x5.lt
              have hEg := r4.lt
              replace x3 := x3.alloc (.cells #[.int .i64 0, .slice none 0 0] 29)
              replace x4 := x4.alloc (.cells #[.int .i64 0, .slice none 0 0] 29)
              replace x5 := x5.alloc (.cells #[.int .i64 0, .slice none 0 0] 29)
              replace o2 := o2.alloc (.cells #[.int .i64 0, .slice none 0 0] 29)
              replace o7 := o7.alloc (.cells #[.int .i64 0, .slice none 0 0] 29)
              replace r4 := r4.on (bel_alloc (Below.refl _ _) (.cells #[.int .i64 0, .slice none 0 0] 29))
              replace T4 := T4.alloc (.cells #[.int .i64 0, .slice none 0 0] 29)
              replace qx30 := x3.c (k := 0) rfl
              replace qx31 := x3.c (k := 1) rfl
              replace qx50 := x5.c (k := 0) rfl
              replace qx51 := x5.c (k := 1) rfl
              have x7 : BoxC (w7.alloc (.cells #[.int .i64 0, .slice none 0 0] 29)) w7.heap.size 29 #[.int .i64 0, .slice none 0 0] := BoxC.new w7 29 #[.int .i64 0, .slice none 0 0]
              go_simp
              try go_wp2_with fail
              refine hK.out _ _ ⟨qx30, qx31, qx50, qx51⟩ (fun hHeld => ?_)
              clear hK K
              try simp only [Act.put, List.setIfInBounds_toArray, List.set_cons_zero, List.set_cons_succ]
              obtain ⟨E, hE⟩ : ∃ E, w7.heap.size = E := ⟨_, rfl⟩
              rw [hE] at x7 hED hEg
              rw [hE]
              generalize w7.alloc (.cells #[.int .i64 0, .slice none 0 0] 29) = wa at *
              clear hE
              refine wpAnyH_ready (rs := [13]) (by kernel_rfl) (by simp) ?_
              refine (AllReadyH.cons (o := { dst := none, op := Go.Op.store 29 (Go.Operand.tmp 7) (Go.Operand.tmp 37), type := 0, pos := "l3_work.go:132", after := #[{ on := 12, ground := Go.Ground.data }, { on := 10, ground := Go.Ground.data }, { on := 8, ground := Go.Ground.chain }, { on := 0, ground := Go.Ground.phase }, { on := 1, ground := Go.Ground.phase }, { on := 2, ground := Go.Ground.phase }, { on := 3, ground := Go.Ground.phase }, { on := 4, ground := Go.Ground.phase }, { on := 5, ground := Go.Ground.phase }, { on := 6, ground := Go.Ground.phase }, { on := 7, ground := Go.Ground.phase }, { on := 8, ground := Go.Ground.phase }, { on := 9, ground := Go.Ground.phase }, { on := 10, ground := Go.Ground.phase }, { on := 11, ground := Go.Ground.textOnly Go.Departure.lateStores }, { on := 12, ground := Go.Ground.phase }], guard := none }) rfl (fun K hK => ?_) AllReadyH.nil)
              have s0 := x7.c (k := 0) rfl
              have s1 := x7.c (k := 1) rfl
              have ff0 := x7.f 0
              have ff1 := x7.f 1
              go_simp
              try go_wp2_with fail
              clear s0 s1 ff0 ff1
              replace o2 := o2.box (k := 0) (v := .int .i64 at7) x7 (by decide)
              replace o7 := o7.box (k := 0) (v := .int .i64 at7) x7 (by decide)
              replace x3 := x3.other (B' := E) (k := 0) (x := .int .i64 at7) (by omega)
              replace x4 := x4.other (B' := E) (k := 0) (x := .int .i64 at7) (by omega)
              replace x5 := x5.other (B' := E) (k := 0) (x := .int .i64 at7) (by omega)
              replace r4 := r4.setB (B := E) 0 (.int .i64 at7) (by omega)
              replace T4 := T4.setOwn (d := E) (o := 0) (by omega) (.int .i64 at7)
              replace x7 := x7.set 0 (.int .i64 at7)
              replace o2 := o2.box (k := 1) (v := .slice A7 l7.length c7) x7 (by decide)
              replace o7 := o7.box (k := 1) (v := .slice A7 l7.length c7) x7 (by decide)
              replace x3 := x3.other (B' := E) (k := 1) (x := .slice A7 l7.length c7) (by omega)
              replace x4 := x4.other (B' := E) (k := 1) (x := .slice A7 l7.length c7) (by omega)
              replace x5 := x5.other (B' := E) (k := 1) (x := .slice A7 l7.length c7) (by omega)
              replace r4 := r4.setB (B := E) 1 (.slice A7 l7.length c7) (by omega)
              replace T4 := T4.setOwn (d := E) (o := 1) (by omega) (.slice A7 l7.length c7)
              replace x7 := x7.set 1 (.slice A7 l7.length c7)
              replace qx30 := x3.c (k := 0) rfl
              replace qx31 := x3.c (k := 1) rfl
              replace qx50 := x5.c (k := 0) rfl
              replace qx51 := x5.c (k := 1) rfl
              refine hK.out _ _ ⟨qx30, qx31, qx50, qx51⟩ (fun hHeld => ?_)
              clear hK K
              try simp only [Act.put, List.setIfInBounds_toArray, List.set_cons_zero, List.set_cons_succ]
              refine wpAnyH_take (i := 14) (oi := { dst := some 8, op := Go.Op.assign (Go.Operand.tmp 38), type := 3, pos := "l3_work.go:132", after := #[{ on := 11, ground := Go.Ground.data }, { on := 13, ground := Go.Ground.chain }, { on := 0, ground := Go.Ground.phase }, { on := 1, ground := Go.Ground.phase }, { on := 2, ground := Go.Ground.phase }, { on := 3, ground := Go.Ground.phase }, { on := 4, ground := Go.Ground.phase }, { on := 5, ground := Go.Ground.phase }, { on := 6, ground := Go.Ground.phase }, { on := 7, ground := Go.Ground.phase }, { on := 8, ground := Go.Ground.phase }, { on := 9, ground := Go.Ground.phase }, { on := 10, ground := Go.Ground.phase }, { on := 11, ground := Go.Ground.phase }, { on := 12, ground := Go.Ground.phase }, { on := 13, ground := Go.Ground.phase }], guard := none }) (v := ?_) rfl (by kernel_rfl) (by kernel_rfl) (by kernel_rfl) (fun _ _ _ h => h) (Or.inl ⟨by rfl, ?hy4_14⟩) (by assumption) ?_
              case hy4_14 => ((intro w hSw; (try dsimp only at hSw); go_simp); try with_reducible rfl)
              try simp only [Act.put, List.setIfInBounds_toArray, List.set_cons_zero, List.set_cons_succ]
              refine wpAnyH_done (by kernel_rfl) ?_ _
              have qx70 := x7.c (k := 0) rfl
              have qx71 := x7.c (k := 1) rfl
              have qf0 := x5.f 0
              have qf1 := x5.f 1
              by_cases hcode : code = 0
              · subst hcode
                replace o7 := o7.lower (base' := w.heap.size) hz6
                clear o2 hHeld
                go_wp2_with fail
                replace o7 := o7.box (k := 0) (v := .int .i64 at7) x5 (by decide)
                replace x3 := x3.other (B' := D) (k := 0) (x := .int .i64 at7) (by omega)
                replace x4 := x4.other (B' := D) (k := 0) (x := .int .i64 at7) (by omega)
                replace x7 := x7.other (B' := D) (k := 0) (x := .int .i64 at7) (by omega)
                replace r4 := r4.setB (B := D) 0 (.int .i64 at7) (by omega)
                replace T4 := T4.setOwn (d := D) (o := 0) (by omega) (.int .i64 at7)
                replace x5 := x5.set 0 (.int .i64 at7)
                replace o7 := o7.box (k := 1) (v := .slice A7 l7.length c7) x5 (by decide)
                replace x3 := x3.other (B' := D) (k := 1) (x := .slice A7 l7.length c7) (by omega)
                replace x4 := x4.other (B' := D) (k := 1) (x := .slice A7 l7.length c7) (by omega)
                replace x7 := x7.other (B' := D) (k := 1) (x := .slice A7 l7.length c7) (by omega)
                replace r4 := r4.setB (B := D) 1 (.slice A7 l7.length c7) (by omega)
                replace T4 := T4.setOwn (d := D) (o := 1) (by omega) (.slice A7 l7.length c7)
                replace x5 := x5.set 1 (.slice A7 l7.length c7)
                go_roundw
                case rel => exact ⟨k - 1, p8, at7, A7, c7, l7, by rw [show ((k - 1 : Nat) : Int) = (k : Int) - 1 by omega], by omega, hat70, hat71, o7, hS7, by omega, x3, x4, x5, by have := HP8.out; have := HPP.out; omega, r4, T4⟩
                case measure => simp [intOf]; omega
              · have hc1 : (code == 0) = false := by simp; exact hcode
                go_wp2_with fail
                go_roundw
                case rel => exact ⟨k - 1, p8, at_, B, cb, lw, by rw [show ((k - 1 : Nat) : Int) = (k : Int) - 1 by omega], by omega, hat0, hat1, o2, HSM.out, by have := HLEN.out; omega, x3, x4, x5, by have := HP8.out; have := HPP.out; omega, r4, T4⟩
                case measure => simp [intOf]; omega
            · skip
              have hED := x5.lt
              have hEg := r4.lt
              replace x3 := x3.alloc (.cells #[.int .i64 0, .slice none 0 0] 29)
              replace x4 := x4.alloc (.cells #[.int .i64 0, .slice none 0 0] 29)
              replace x5 := x5.alloc (.cells #[.int .i64 0, .slice none 0 0] 29)
              replace o2 := o2.alloc (.cells #[.int .i64 0, .slice none 0 0] 29)
              replace r4 := r4.on (bel_alloc (Below.refl _ _) (.cells #[.int .i64 0, .slice none 0 0] 29))
              replace T4 := T4.alloc (.cells #[.int .i64 0, .slice none 0 0] 29)
              replace qx30 := x3.c (k := 0) rfl
              replace qx31 := x3.c (k := 1) rfl
              replace qx50 := x5.c (k := 0) rfl
              replace qx51 := x5.c (k := 1) rfl
              have x7 : BoxC (w6.alloc (.cells #[.int .i64 0, .slice none 0 0] 29)) w6.heap.size 29 #[.int .i64 0, .slice none 0 0] := BoxC.new w6 29 #[.int .i64 0, .slice none 0 0]
              go_simp
              try go_wp2_with fail
              refine hK.out _ _ ⟨qx30, qx31, qx50, qx51⟩ (fun hHeld => ?_)
              clear hK K
              try simp only [Act.put, List.setIfInBounds_toArray, List.set_cons_zero, List.set_cons_succ]
              obtain ⟨E, hE⟩ : ∃ E, w6.heap.size = E := ⟨_, rfl⟩
              rw [hE] at x7 hED hEg
              rw [hE]
              generalize w6.alloc (.cells #[.int .i64 0, .slice none 0 0] 29) = wa at *
              clear hE
              refine wpAnyH_ready (rs := [8]) (by kernel_rfl) (by simp) ?_
              refine (AllReadyH.cons (o := { dst := some 36, op := Go.Op.call { callee := Go.Callee.value (Go.Operand.func 113), args := #[Go.Operand.tmp 28, Go.Operand.tmp 29, Go.Operand.tmp 35], argTypes := #[39, 29, 73] }, type := 138, pos := "l3_work.go:132", after := #[{ on := 0, ground := Go.Ground.data }, { on := 1, ground := Go.Ground.data }, { on := 7, ground := Go.Ground.data }, { on := 7, ground := Go.Ground.chain }], guard := none }) rfl (fun K hK => ?_) AllReadyH.nil)
              go_simp
              have hz6 := T4.size
              refine (workPut now A n c lv at_ B lw.length cb lw key num gone _ (HV.out _ T4) HVP.out hat0 hat1 o2.sl HSM.out (by have := HLEN.out; omega) hkey).mono ?_
              rintro e w7 ⟨at7, A7, c7, l7, code, rfl, o7, hS7, hl7, hat70, hat71, hb7⟩
              replace hl7 : l7.length + k ≤ 9 := by have := HLEN.out; omega
              replace x3 := x3.on hb7
              replace x4 := x4.on hb7
              replace x5 := x5.on hb7
              replace x7 := x7.on hb7
              replace o2 := o2.on hb7
              replace r4 := r4.on hb7
              replace T4 := T4.below hb7
              replace qx30 := x3.c (k := 0) rfl
              replace qx31 := x3.c (k := 1) rfl
              replace qx50 := x5.c (k := 0) rfl
              replace qx51 := x5.c (k := 1) rfl
              clear hb7
              go_wp2_with fail
              refine hK.out _ _ ⟨qx30, qx31, qx50, qx51⟩ (fun hHeld => ?_)
              clear hK K
              try simp only [Act.put, List.setIfInBounds_toArray, List.set_cons_zero, List.set_cons_succ]
              refine wpAnyH_take (i := 9) (oi := { dst := some 27, op := Go.Op.move (Go.Operand.tmp 36), type := 138, pos := "l3_work.go:132", after := #[{ on := 8, ground := Go.Ground.data }], guard := none }) (v := ?_) rfl (by kernel_rfl) (by kernel_rfl) (by kernel_rfl) (fun _ _ _ h => h) (Or.inl ⟨by rfl, ?hy5_9⟩) (by assumption) ?_
              case hy5_9 => ((intro w hSw; (try dsimp only at hSw); go_simp); try with_reducible rfl)
              try simp only [Act.put, List.setIfInBounds_toArray, List.set_cons_zero, List.set_cons_succ]
              refine wpAnyH_take (i := 10) (oi := { dst := some 37, op := Go.Op.extract (Go.Operand.tmp 27) 0, type := 29, pos := "l3_work.go:132", after := #[{ on := 9, ground := Go.Ground.data }], guard := none }) (v := ?_) rfl (by kernel_rfl) (by kernel_rfl) (by kernel_rfl) (fun _ _ _ h => h) (Or.inl ⟨by rfl, ?hy5_10⟩) (by assumption) ?_
              case hy5_10 => ((intro w hSw; (try dsimp only at hSw); go_simp); try with_reducible rfl)
              try simp only [Act.put, List.setIfInBounds_toArray, List.set_cons_zero, List.set_cons_succ]
              refine wpAnyH_take (i := 11) (oi := { dst := some 38, op := Go.Op.extract (Go.Operand.tmp 27) 1, type := 3, pos := "l3_work.go:132", after := #[{ on := 9, ground := Go.Ground.data }, { on := 13, ground := Go.Ground.gcOnly Go.Departure.lateStores }], guard := none }) (v := ?_) rfl (by kernel_rfl) (by kernel_rfl) (by kernel_rfl) (fun _ _ _ h => h) (Or.inl ⟨by rfl, ?hy5_11⟩) (by assumption) ?_
              case hy5_11 => ((intro w hSw; (try dsimp only at hSw); go_simp); try with_reducible rfl)
              try simp only [Act.put, List.setIfInBounds_toArray, List.set_cons_zero, List.set_cons_succ]
              refine wpAnyH_ready (rs := [13]) (by kernel_rfl) (by simp) ?_
              refine (AllReadyH.cons (o := { dst := none, op := Go.Op.store 29 (Go.Operand.tmp 7) (Go.Operand.tmp 37), type := 0, pos := "l3_work.go:132", after := #[{ on := 12, ground := Go.Ground.data }, { on := 10, ground := Go.Ground.data }, { on := 8, ground := Go.Ground.chain }, { on := 0, ground := Go.Ground.phase }, { on := 1, ground := Go.Ground.phase }, { on := 2, ground := Go.Ground.phase }, { on := 3, ground := Go.Ground.phase }, { on := 4, ground := Go.Ground.phase }, { on := 5, ground := Go.Ground.phase }, { on := 6, ground := Go.Ground.phase }, { on := 7, ground := Go.Ground.phase }, { on := 8, ground := Go.Ground.phase }, { on := 9, ground := Go.Ground.phase }, { on := 10, ground := Go.Ground.phase }, { on := 11, ground := Go.Ground.textOnly Go.Departure.lateStores }, { on := 12, ground := Go.Ground.phase }], guard := none }) rfl (fun K hK => ?_) AllReadyH.nil)
              have s0 := x7.c (k := 0) rfl
              have s1 := x7.c (k := 1) rfl
              have ff0 := x7.f 0
              have ff1 := x7.f 1
              go_simp
              try go_wp2_with fail
              clear s0 s1 ff0 ff1
              replace o2 := o2.box (k := 0) (v := .int .i64 at7) x7 (by decide)
              replace o7 := o7.box (k := 0) (v := .int .i64 at7) x7 (by decide)
              replace x3 := x3.other (B' := E) (k := 0) (x := .int .i64 at7) (by omega)
              replace x4 := x4.other (B' := E) (k := 0) (x := .int .i64 at7) (by omega)
              replace x5 := x5.other (B' := E) (k := 0) (x := .int .i64 at7) (by omega)
              replace r4 := r4.setB (B := E) 0 (.int .i64 at7) (by omega)
              replace T4 := T4.setOwn (d := E) (o := 0) (by omega) (.int .i64 at7)
              replace x7 := x7.set 0 (.int .i64 at7)
              replace o2 := o2.box (k := 1) (v := .slice A7 l7.length c7) x7 (by decide)
              replace o7 := o7.box (k := 1) (v := .slice A7 l7.length c7) x7 (by decide)
              replace x3 := x3.other (B' := E) (k := 1) (x := .slice A7 l7.length c7) (by omega)
              replace x4 := x4.other (B' := E) (k := 1) (x := .slice A7 l7.length c7) (by omega)
              replace x5 := x5.other (B' := E) (k := 1) (x := .slice A7 l7.length c7) (by omega)
              replace r4 := r4.setB (B := E) 1 (.slice A7 l7.length c7) (by omega)
              replace T4 := T4.setOwn (d := E) (o := 1) (by omega) (.slice A7 l7.length c7)
              replace x7 := x7.set 1 (.slice A7 l7.length c7)
              replace qx30 := x3.c (k := 0) rfl
              replace qx31 := x3.c (k := 1) rfl
              replace qx50 := x5.c (k := 0) rfl
              replace qx51 := x5.c (k := 1) rfl
              refine hK.out _ _ ⟨qx30, qx31, qx50, qx51⟩ (fun hHeld => ?_)
              clear hK K
              try simp only [Act.put, List.setIfInBounds_toArray, List.set_cons_zero, List.set_cons_succ]
              refine wpAnyH_take (i := 14) (oi := { dst := some 8, op := Go.Op.assign (Go.Operand.tmp 38), type := 3, pos := "l3_work.go:132", after := #[{ on := 11, ground := Go.Ground.data }, { on := 13, ground := Go.Ground.chain }, { on := 0, ground := Go.Ground.phase }, { on := 1, ground := Go.Ground.phase }, { on := 2, ground := Go.Ground.phase }, { on := 3, ground := Go.Ground.phase }, { on := 4, ground := Go.Ground.phase }, { on := 5, ground := Go.Ground.phase }, { on := 6, ground := Go.Ground.phase }, { on := 7, ground := Go.Ground.phase }, { on := 8, ground := Go.Ground.phase }, { on := 9, ground := Go.Ground.phase }, { on := 10, ground := Go.Ground.phase }, { on := 11, ground := Go.Ground.phase }, { on := 12, ground := Go.Ground.phase }, { on := 13, ground := Go.Ground.phase }], guard := none }) (v := ?_) rfl (by kernel_rfl) (by kernel_rfl) (by kernel_rfl) (fun _ _ _ h => h) (Or.inl ⟨by rfl, ?hy7_14⟩) (by assumption) ?_
              case hy7_14 => ((intro w hSw; (try dsimp only at hSw); go_simp); try with_reducible rfl)
              try simp only [Act.put, List.setIfInBounds_toArray, List.set_cons_zero, List.set_cons_succ]
              refine wpAnyH_done (by kernel_rfl) ?_ _
              have qx70 := x7.c (k := 0) rfl
              have qx71 := x7.c (k := 1) rfl
              have qf0 := x5.f 0
              have qf1 := x5.f 1
              by_cases hcode : code = 0
              · subst hcode
                replace o7 := o7.lower (base' := w.heap.size) hz6
                clear o2 hHeld
                go_wp2_with fail
                replace o7 := o7.box (k := 0) (v := .int .i64 at7) x5 (by decide)
                replace x3 := x3.other (B' := D) (k := 0) (x := .int .i64 at7) (by omega)
                replace x4 := x4.other (B' := D) (k := 0) (x := .int .i64 at7) (by omega)
                replace x7 := x7.other (B' := D) (k := 0) (x := .int .i64 at7) (by omega)
                replace r4 := r4.setB (B := D) 0 (.int .i64 at7) (by omega)
                replace T4 := T4.setOwn (d := D) (o := 0) (by omega) (.int .i64 at7)
                replace x5 := x5.set 0 (.int .i64 at7)
                replace o7 := o7.box (k := 1) (v := .slice A7 l7.length c7) x5 (by decide)
                replace x3 := x3.other (B' := D) (k := 1) (x := .slice A7 l7.length c7) (by omega)
                replace x4 := x4.other (B' := D) (k := 1) (x := .slice A7 l7.length c7) (by omega)
                replace x7 := x7.other (B' := D) (k := 1) (x := .slice A7 l7.length c7) (by omega)
                replace r4 := r4.setB (B := D) 1 (.slice A7 l7.length c7) (by omega)
                replace T4 := T4.setOwn (d := D) (o := 1) (by omega) (.slice A7 l7.length c7)
                replace x5 := x5.set 1 (.slice A7 l7.length c7)
                go_roundw
                case rel => exact ⟨k - 1, p8, at7, A7, c7, l7, by rw [show ((k - 1 : Nat) : Int) = (k : Int) - 1 by omega], by omega, hat70, hat71, o7, hS7, by omega, x3, x4, x5, by have := HP8.out; have := HPP.out; omega, r4, T4⟩
                case measure => simp [intOf]; omega
              · have hc1 : (code == 0) = false := by simp; exact hcode
                go_wp2_with fail
                go_roundw
                case rel => exact ⟨k - 1, p8, at_, B, cb, lw, by rw [show ((k - 1 : Nat) : Int) = (k : Int) - 1 by omega], by omega, hat0, hat1, o2, HSM.out, by have := HLEN.out; omega, x3, x4, x5, by have := HP8.out; have := HPP.out; omega, r4, T4⟩
                case measure => simp [intOf]; omega
          · skip
            have hED := x5.lt
            have hEg := r4.lt
            replace x3 := x3.alloc (.cells #[.int .i64 0, .slice none 0 0] 29)
            replace x4 := x4.alloc (.cells #[.int .i64 0, .slice none 0 0] 29)
            replace x5 := x5.alloc (.cells #[.int .i64 0, .slice none 0 0] 29)
            replace o2 := o2.alloc (.cells #[.int .i64 0, .slice none 0 0] 29)
            replace oR := oR.alloc (.cells #[.int .i64 0, .slice none 0 0] 29)
            replace r4 := r4.on (bel_alloc (Below.refl _ _) (.cells #[.int .i64 0, .slice none 0 0] 29))
            replace T4 := T4.alloc (.cells #[.int .i64 0, .slice none 0 0] 29)
            replace qx30 := x3.c (k := 0) rfl
            replace qx31 := x3.c (k := 1) rfl
            replace qx50 := x5.c (k := 0) rfl
            replace qx51 := x5.c (k := 1) rfl
            have x7 : BoxC (w5.alloc (.cells #[.int .i64 0, .slice none 0 0] 29)) w5.heap.size 29 #[.int .i64 0, .slice none 0 0] := BoxC.new w5 29 #[.int .i64 0, .slice none 0 0]
            go_simp
            try go_wp2_with fail
            refine hK.out _ _ ⟨qx30, qx31, qx50, qx51⟩ (fun hHeld => ?_)
            clear hK K
            try simp only [Act.put, List.setIfInBounds_toArray, List.set_cons_zero, List.set_cons_succ]
            obtain ⟨E, hE⟩ : ∃ E, w5.heap.size = E := ⟨_, rfl⟩
            rw [hE] at x7 hED hEg
            rw [hE]
            generalize w5.alloc (.cells #[.int .i64 0, .slice none 0 0] 29) = wa at *
            clear hE
            refine wpAnyH_ready (rs := [7]) (by kernel_rfl) (by simp) ?_
            refine (AllReadyH.cons (o := { dst := some 35, op := Go.Op.call { callee := Go.Callee.value (Go.Operand.func 114), args := #[Go.Operand.tmp 30, Go.Operand.tmp 34], argTypes := #[124, 59] }, type := 73, pos := "l3_work.go:132", after := #[{ on := 2, ground := Go.Ground.data }, { on := 6, ground := Go.Ground.data }, { on := 6, ground := Go.Ground.chain }], guard := none }) rfl (fun K hK => ?_) AllReadyH.nil)
            go_simp
            refine (l3Write g p' A0 m0 c0 l0 R (atL lv now).length cR (atL lv now) _ r4 (by have := HPP.out; have := HP.out; omega) oR.sl HRL.out (fun x hx => by have := (oR.block hx).1; omega) HRS.out).mono ?_
            rintro e w6 ⟨key, num, gone, p8, rfl, hkey, hp8, r6, t6⟩
            clear oR
            replace x3 := x3.turn t6 (fun x hx => by cases hx; simp only; omega)
            replace x4 := x4.turn t6 (fun x hx => by cases hx; simp only; omega)
            replace x5 := x5.turn t6 (fun x hx => by cases hx; simp only; omega)
            replace x7 := x7.turn t6 (fun x hx => by cases hx; simp only; omega)
            replace o2 := o2.farRd t6 hg
            replace T4 := T4.trans t6
            clear r4
            have r4 := r6
            clear r6 t6
            replace qx30 := x3.c (k := 0) rfl
            replace qx31 := x3.c (k := 1) rfl
            replace qx50 := x5.c (k := 0) rfl
            replace qx51 := x5.c (k := 1) rfl
            have HP8 := Lib.hid hp8
            clear hp8
            go_wp2_with fail
            refine hK.out _ _ ⟨qx30, qx31, qx50, qx51⟩ (fun hHeld => ?_)
            clear hK K
            try simp only [Act.put, List.setIfInBounds_toArray, List.set_cons_zero, List.set_cons_succ]
            refine wpAnyH_ready (rs := [8]) (by kernel_rfl) (by simp) ?_
            refine (AllReadyH.cons (o := { dst := some 36, op := Go.Op.call { callee := Go.Callee.value (Go.Operand.func 113), args := #[Go.Operand.tmp 28, Go.Operand.tmp 29, Go.Operand.tmp 35], argTypes := #[39, 29, 73] }, type := 138, pos := "l3_work.go:132", after := #[{ on := 0, ground := Go.Ground.data }, { on := 1, ground := Go.Ground.data }, { on := 7, ground := Go.Ground.data }, { on := 7, ground := Go.Ground.chain }], guard := none }) rfl (fun K hK => ?_) AllReadyH.nil)
            go_simp
            have hz6 := T4.size
            refine (workPut now A n c lv at_ B lw.length cb lw key num gone _ (HV.out _ T4) HVP.out hat0 hat1 o2.sl HSM.out (by have := HLEN.out; omega) hkey).mono ?_
            rintro e w7 ⟨at7, A7, c7, l7, code, rfl, o7, hS7, hl7, hat70, hat71, hb7⟩
            replace hl7 : l7.length + k ≤ 9 := by have := HLEN.out; omega
            replace x3 := x3.on hb7
            replace x4 := x4.on hb7
            replace x5 := x5.on hb7
            replace x7 := x7.on hb7
            replace o2 := o2.on hb7
            replace r4 := r4.on hb7
            replace T4 := T4.below hb7
            replace qx30 := x3.c (k := 0) rfl
            replace qx31 := x3.c (k := 1) rfl
            replace qx50 := x5.c (k := 0) rfl
            replace qx51 := x5.c (k := 1) rfl
            clear hb7
            go_wp2_with fail
            refine hK.out _ _ ⟨qx30, qx31, qx50, qx51⟩ (fun hHeld => ?_)
            clear hK K
            try simp only [Act.put, List.setIfInBounds_toArray, List.set_cons_zero, List.set_cons_succ]
            refine wpAnyH_take (i := 9) (oi := { dst := some 27, op := Go.Op.move (Go.Operand.tmp 36), type := 138, pos := "l3_work.go:132", after := #[{ on := 8, ground := Go.Ground.data }], guard := none }) (v := ?_) rfl (by kernel_rfl) (by kernel_rfl) (by kernel_rfl) (fun _ _ _ h => h) (Or.inl ⟨by rfl, ?hy8_9⟩) (by assumption) ?_
            case hy8_9 => ((intro w hSw; (try dsimp only at hSw); go_simp); try with_reducible rfl)
            try simp only [Act.put, List.setIfInBounds_toArray, List.set_cons_zero, List.set_cons_succ]
            refine wpAnyH_take (i := 10) (oi := { dst := some 37, op := Go.Op.extract (Go.Operand.tmp 27) 0, type := 29, pos := "l3_work.go:132", after := #[{ on := 9, ground := Go.Ground.data }], guard := none }) (v := ?_) rfl (by kernel_rfl) (by kernel_rfl) (by kernel_rfl) (fun _ _ _ h => h) (Or.inl ⟨by rfl, ?hy8_10⟩) (by assumption) ?_
            case hy8_10 => ((intro w hSw; (try dsimp only at hSw); go_simp); try with_reducible rfl)
            try simp only [Act.put, List.setIfInBounds_toArray, List.set_cons_zero, List.set_cons_succ]
            refine wpAnyH_take (i := 11) (oi := { dst := some 38, op := Go.Op.extract (Go.Operand.tmp 27) 1, type := 3, pos := "l3_work.go:132", after := #[{ on := 9, ground := Go.Ground.data }, { on := 13, ground := Go.Ground.gcOnly Go.Departure.lateStores }], guard := none }) (v := ?_) rfl (by kernel_rfl) (by kernel_rfl) (by kernel_rfl) (fun _ _ _ h => h) (Or.inl ⟨by rfl, ?hy8_11⟩) (by assumption) ?_
            case hy8_11 => ((intro w hSw; (try dsimp only at hSw); go_simp); try with_reducible rfl)
            try simp only [Act.put, List.setIfInBounds_toArray, List.set_cons_zero, List.set_cons_succ]
            refine wpAnyH_ready (rs := [13]) (by kernel_rfl) (by simp) ?_
            refine (AllReadyH.cons (o := { dst := none, op := Go.Op.store 29 (Go.Operand.tmp 7) (Go.Operand.tmp 37), type := 0, pos := "l3_work.go:132", after := #[{ on := 12, ground := Go.Ground.data }, { on := 10, ground := Go.Ground.data }, { on := 8, ground := Go.Ground.chain }, { on := 0, ground := Go.Ground.phase }, { on := 1, ground := Go.Ground.phase }, { on := 2, ground := Go.Ground.phase }, { on := 3, ground := Go.Ground.phase }, { on := 4, ground := Go.Ground.phase }, { on := 5, ground := Go.Ground.phase }, { on := 6, ground := Go.Ground.phase }, { on := 7, ground := Go.Ground.phase }, { on := 8, ground := Go.Ground.phase }, { on := 9, ground := Go.Ground.phase }, { on := 10, ground := Go.Ground.phase }, { on := 11, ground := Go.Ground.textOnly Go.Departure.lateStores }, { on := 12, ground := Go.Ground.phase }], guard := none }) rfl (fun K hK => ?_) AllReadyH.nil)
            have s0 := x7.c (k := 0) rfl
            have s1 := x7.c (k := 1) rfl
            have ff0 := x7.f 0
            have ff1 := x7.f 1
            go_simp
            try go_wp2_with fail
            clear s0 s1 ff0 ff1
            replace o2 := o2.box (k := 0) (v := .int .i64 at7) x7 (by decide)
            replace o7 := o7.box (k := 0) (v := .int .i64 at7) x7 (by decide)
            replace x3 := x3.other (B' := E) (k := 0) (x := .int .i64 at7) (by omega)
            replace x4 := x4.other (B' := E) (k := 0) (x := .int .i64 at7) (by omega)
            replace x5 := x5.other (B' := E) (k := 0) (x := .int .i64 at7) (by omega)
            replace r4 := r4.setB (B := E) 0 (.int .i64 at7) (by omega)
            replace T4 := T4.setOwn (d := E) (o := 0) (by omega) (.int .i64 at7)
            replace x7 := x7.set 0 (.int .i64 at7)
            replace o2 := o2.box (k := 1) (v := .slice A7 l7.length c7) x7 (by decide)
            replace o7 := o7.box (k := 1) (v := .slice A7 l7.length c7) x7 (by decide)
            replace x3 := x3.other (B' := E) (k := 1) (x := .slice A7 l7.length c7) (by omega)
            replace x4 := x4.other (B' := E) (k := 1) (x := .slice A7 l7.length c7) (by omega)
            replace x5 := x5.other (B' := E) (k := 1) (x := .slice A7 l7.length c7) (by omega)
            replace r4 := r4.setB (B := E) 1 (.slice A7 l7.length c7) (by omega)
            replace T4 := T4.setOwn (d := E) (o := 1) (by omega) (.slice A7 l7.length c7)
            replace x7 := x7.set 1 (.slice A7 l7.length c7)
            replace qx30 := x3.c (k := 0) rfl
            replace qx31 := x3.c (k := 1) rfl
            replace qx50 := x5.c (k := 0) rfl
            replace qx51 := x5.c (k := 1) rfl
            refine hK.out _ _ ⟨qx30, qx31, qx50, qx51⟩ (fun hHeld => ?_)
            clear hK K
            try simp only [Act.put, List.setIfInBounds_toArray, List.set_cons_zero, List.set_cons_succ]
            refine wpAnyH_take (i := 14) (oi := { dst := some 8, op := Go.Op.assign (Go.Operand.tmp 38), type := 3, pos := "l3_work.go:132", after := #[{ on := 11, ground := Go.Ground.data }, { on := 13, ground := Go.Ground.chain }, { on := 0, ground := Go.Ground.phase }, { on := 1, ground := Go.Ground.phase }, { on := 2, ground := Go.Ground.phase }, { on := 3, ground := Go.Ground.phase }, { on := 4, ground := Go.Ground.phase }, { on := 5, ground := Go.Ground.phase }, { on := 6, ground := Go.Ground.phase }, { on := 7, ground := Go.Ground.phase }, { on := 8, ground := Go.Ground.phase }, { on := 9, ground := Go.Ground.phase }, { on := 10, ground := Go.Ground.phase }, { on := 11, ground := Go.Ground.phase }, { on := 12, ground := Go.Ground.phase }, { on := 13, ground := Go.Ground.phase }], guard := none }) (v := ?_) rfl (by kernel_rfl) (by kernel_rfl) (by kernel_rfl) (fun _ _ _ h => h) (Or.inl ⟨by rfl, ?hy10_14⟩) (by assumption) ?_
            case hy10_14 => ((intro w hSw; (try dsimp only at hSw); go_simp); try with_reducible rfl)
            try simp only [Act.put, List.setIfInBounds_toArray, List.set_cons_zero, List.set_cons_succ]
            refine wpAnyH_done (by kernel_rfl) ?_ _
            have qx70 := x7.c (k := 0) rfl
            have qx71 := x7.c (k := 1) rfl
            have qf0 := x5.f 0
            have qf1 := x5.f 1
            by_cases hcode : code = 0
            · subst hcode
              replace o7 := o7.lower (base' := w.heap.size) hz6
              clear o2 hHeld
              go_wp2_with fail
              replace o7 := o7.box (k := 0) (v := .int .i64 at7) x5 (by decide)
              replace x3 := x3.other (B' := D) (k := 0) (x := .int .i64 at7) (by omega)
              replace x4 := x4.other (B' := D) (k := 0) (x := .int .i64 at7) (by omega)
              replace x7 := x7.other (B' := D) (k := 0) (x := .int .i64 at7) (by omega)
              replace r4 := r4.setB (B := D) 0 (.int .i64 at7) (by omega)
              replace T4 := T4.setOwn (d := D) (o := 0) (by omega) (.int .i64 at7)
              replace x5 := x5.set 0 (.int .i64 at7)
              replace o7 := o7.box (k := 1) (v := .slice A7 l7.length c7) x5 (by decide)
              replace x3 := x3.other (B' := D) (k := 1) (x := .slice A7 l7.length c7) (by omega)
              replace x4 := x4.other (B' := D) (k := 1) (x := .slice A7 l7.length c7) (by omega)
              replace x7 := x7.other (B' := D) (k := 1) (x := .slice A7 l7.length c7) (by omega)
              replace r4 := r4.setB (B := D) 1 (.slice A7 l7.length c7) (by omega)
              replace T4 := T4.setOwn (d := D) (o := 1) (by omega) (.slice A7 l7.length c7)
              replace x5 := x5.set 1 (.slice A7 l7.length c7)
              go_roundw
              case rel => exact ⟨k - 1, p8, at7, A7, c7, l7, by rw [show ((k - 1 : Nat) : Int) = (k : Int) - 1 by omega], by omega, hat70, hat71, o7, hS7, by omega, x3, x4, x5, by have := HP8.out; have := HPP.out; omega, r4, T4⟩
              case measure => simp [intOf]; omega
            · have hc1 : (code == 0) = false := by simp; exact hcode
              go_wp2_with fail
              go_roundw
              case rel => exact ⟨k - 1, p8, at_, B, cb, lw, by rw [show ((k - 1 : Nat) : Int) = (k : Int) - 1 by omega], by omega, hat0, hat1, o2, HSM.out, by have := HLEN.out; omega, x3, x4, x5, by have := HP8.out; have := HPP.out; omega, r4, T4⟩
              case measure => simp [intOf]; omega
        · skip
          have hED := x5.lt
          have hEg := r4.lt
          replace x3 := x3.alloc (.cells #[.int .i64 0, .slice none 0 0] 29)
          replace x4 := x4.alloc (.cells #[.int .i64 0, .slice none 0 0] 29)
          replace x5 := x5.alloc (.cells #[.int .i64 0, .slice none 0 0] 29)
          replace o2 := o2.alloc (.cells #[.int .i64 0, .slice none 0 0] 29)
          replace r4 := r4.on (bel_alloc (Below.refl _ _) (.cells #[.int .i64 0, .slice none 0 0] 29))
          replace T4 := T4.alloc (.cells #[.int .i64 0, .slice none 0 0] 29)
          replace qx30 := x3.c (k := 0) rfl
          replace qx31 := x3.c (k := 1) rfl
          replace qx50 := x5.c (k := 0) rfl
          replace qx51 := x5.c (k := 1) rfl
          have x7 : BoxC (wy.alloc (.cells #[.int .i64 0, .slice none 0 0] 29)) wy.heap.size 29 #[.int .i64 0, .slice none 0 0] := BoxC.new wy 29 #[.int .i64 0, .slice none 0 0]
          go_simp
          try go_wp2_with fail
          refine hK.out _ _ ⟨qx30, qx31, qx50, qx51⟩ (fun hHeld => ?_)
          clear hK K
          try simp only [Act.put, List.setIfInBounds_toArray, List.set_cons_zero, List.set_cons_succ]
          obtain ⟨E, hE⟩ : ∃ E, wy.heap.size = E := ⟨_, rfl⟩
          rw [hE] at x7 hED hEg
          rw [hE]
          generalize wy.alloc (.cells #[.int .i64 0, .slice none 0 0] 29) = wa at *
          clear hE
          refine wpAnyH_ready (rs := [6]) (by kernel_rfl) (by simp) ?_
          refine (AllReadyH.cons (o := { dst := some 34, op := Go.Op.call { callee := Go.Callee.value (Go.Operand.func 90), args := #[Go.Operand.tmp 31, Go.Operand.tmp 33], argTypes := #[39, 3] }, type := 59, pos := "l3_work.go:132", after := #[{ on := 3, ground := Go.Ground.data }, { on := 5, ground := Go.Ground.data }], guard := none }) rfl (fun K hK => ?_) AllReadyH.nil)
          go_simp
          have hgG := r4.lt
          refine (specAt now A n c lv now _ (HV.out _ T4) (by have := HN.out; omega)).mono ?_
          rintro e w5 ⟨v5, rfl, oR, hb5⟩
          obtain ⟨R, cR, rfl, -, -⟩ := oR.form
          replace x3 := x3.on hb5
          replace x4 := x4.on hb5
          replace x5 := x5.on hb5
          replace x7 := x7.on hb5
          replace o2 := o2.on hb5
          replace r4 := r4.on hb5
          replace T4 := T4.below hb5
          replace qx30 := x3.c (k := 0) rfl
          replace qx31 := x3.c (k := 1) rfl
          replace qx50 := x5.c (k := 0) rfl
          replace qx51 := x5.c (k := 1) rfl
          clear hb5
          go_wp2_with fail
          refine hK.out _ _ ⟨qx30, qx31, qx50, qx51⟩ (fun hHeld => ?_)
          clear hK K
          try simp only [Act.put, List.setIfInBounds_toArray, List.set_cons_zero, List.set_cons_succ]
          refine wpAnyH_ready (rs := [7]) (by kernel_rfl) (by simp) ?_
          refine (AllReadyH.cons (o := { dst := some 35, op := Go.Op.call { callee := Go.Callee.value (Go.Operand.func 114), args := #[Go.Operand.tmp 30, Go.Operand.tmp 34], argTypes := #[124, 59] }, type := 73, pos := "l3_work.go:132", after := #[{ on := 2, ground := Go.Ground.data }, { on := 6, ground := Go.Ground.data }, { on := 6, ground := Go.Ground.chain }], guard := none }) rfl (fun K hK => ?_) AllReadyH.nil)
          go_simp
          refine (l3Write g p' A0 m0 c0 l0 R (atL lv now).length cR (atL lv now) _ r4 (by have := HPP.out; have := HP.out; omega) oR.sl HRL.out (fun x hx => by have := (oR.block hx).1; omega) HRS.out).mono ?_
          rintro e w6 ⟨key, num, gone, p8, rfl, hkey, hp8, r6, t6⟩
          clear oR
          replace x3 := x3.turn t6 (fun x hx => by cases hx; simp only; omega)
          replace x4 := x4.turn t6 (fun x hx => by cases hx; simp only; omega)
          replace x5 := x5.turn t6 (fun x hx => by cases hx; simp only; omega)
          replace x7 := x7.turn t6 (fun x hx => by cases hx; simp only; omega)
          replace o2 := o2.farRd t6 hg
          replace T4 := T4.trans t6
          clear r4
          have r4 := r6
          clear r6 t6
          replace qx30 := x3.c (k := 0) rfl
          replace qx31 := x3.c (k := 1) rfl
          replace qx50 := x5.c (k := 0) rfl
          replace qx51 := x5.c (k := 1) rfl
          have HP8 := Lib.hid hp8
          clear hp8
          go_wp2_with fail
          refine hK.out _ _ ⟨qx30, qx31, qx50, qx51⟩ (fun hHeld => ?_)
          clear hK K
          try simp only [Act.put, List.setIfInBounds_toArray, List.set_cons_zero, List.set_cons_succ]
          refine wpAnyH_ready (rs := [8]) (by kernel_rfl) (by simp) ?_
          refine (AllReadyH.cons (o := { dst := some 36, op := Go.Op.call { callee := Go.Callee.value (Go.Operand.func 113), args := #[Go.Operand.tmp 28, Go.Operand.tmp 29, Go.Operand.tmp 35], argTypes := #[39, 29, 73] }, type := 138, pos := "l3_work.go:132", after := #[{ on := 0, ground := Go.Ground.data }, { on := 1, ground := Go.Ground.data }, { on := 7, ground := Go.Ground.data }, { on := 7, ground := Go.Ground.chain }], guard := none }) rfl (fun K hK => ?_) AllReadyH.nil)
          go_simp
          have hz6 := T4.size
          refine (workPut now A n c lv at_ B lw.length cb lw key num gone _ (HV.out _ T4) HVP.out hat0 hat1 o2.sl HSM.out (by have := HLEN.out; omega) hkey).mono ?_
          rintro e w7 ⟨at7, A7, c7, l7, code, rfl, o7, hS7, hl7, hat70, hat71, hb7⟩
          replace hl7 : l7.length + k ≤ 9 := by have := HLEN.out; omega
          replace x3 := x3.on hb7
          replace x4 := x4.on hb7
          replace x5 := x5.on hb7
          replace x7 := x7.on hb7
          replace o2 := o2.on hb7
          replace r4 := r4.on hb7
          replace T4 := T4.below hb7
          replace qx30 := x3.c (k := 0) rfl
          replace qx31 := x3.c (k := 1) rfl
          replace qx50 := x5.c (k := 0) rfl
          replace qx51 := x5.c (k := 1) rfl
          clear hb7
          go_wp2_with fail
          refine hK.out _ _ ⟨qx30, qx31, qx50, qx51⟩ (fun hHeld => ?_)
          clear hK K
          try simp only [Act.put, List.setIfInBounds_toArray, List.set_cons_zero, List.set_cons_succ]
          refine wpAnyH_take (i := 9) (oi := { dst := some 27, op := Go.Op.move (Go.Operand.tmp 36), type := 138, pos := "l3_work.go:132", after := #[{ on := 8, ground := Go.Ground.data }], guard := none }) (v := ?_) rfl (by kernel_rfl) (by kernel_rfl) (by kernel_rfl) (fun _ _ _ h => h) (Or.inl ⟨by rfl, ?hy11_9⟩) (by assumption) ?_
          case hy11_9 => ((intro w hSw; (try dsimp only at hSw); go_simp); try with_reducible rfl)
          try simp only [Act.put, List.setIfInBounds_toArray, List.set_cons_zero, List.set_cons_succ]
          refine wpAnyH_take (i := 10) (oi := { dst := some 37, op := Go.Op.extract (Go.Operand.tmp 27) 0, type := 29, pos := "l3_work.go:132", after := #[{ on := 9, ground := Go.Ground.data }], guard := none }) (v := ?_) rfl (by kernel_rfl) (by kernel_rfl) (by kernel_rfl) (fun _ _ _ h => h) (Or.inl ⟨by rfl, ?hy11_10⟩) (by assumption) ?_
          case hy11_10 => ((intro w hSw; (try dsimp only at hSw); go_simp); try with_reducible rfl)
          try simp only [Act.put, List.setIfInBounds_toArray, List.set_cons_zero, List.set_cons_succ]
          refine wpAnyH_take (i := 11) (oi := { dst := some 38, op := Go.Op.extract (Go.Operand.tmp 27) 1, type := 3, pos := "l3_work.go:132", after := #[{ on := 9, ground := Go.Ground.data }, { on := 13, ground := Go.Ground.gcOnly Go.Departure.lateStores }], guard := none }) (v := ?_) rfl (by kernel_rfl) (by kernel_rfl) (by kernel_rfl) (fun _ _ _ h => h) (Or.inl ⟨by rfl, ?hy11_11⟩) (by assumption) ?_
          case hy11_11 => ((intro w hSw; (try dsimp only at hSw); go_simp); try with_reducible rfl)
          try simp only [Act.put, List.setIfInBounds_toArray, List.set_cons_zero, List.set_cons_succ]
          refine wpAnyH_ready (rs := [13]) (by kernel_rfl) (by simp) ?_
          refine (AllReadyH.cons (o := { dst := none, op := Go.Op.store 29 (Go.Operand.tmp 7) (Go.Operand.tmp 37), type := 0, pos := "l3_work.go:132", after := #[{ on := 12, ground := Go.Ground.data }, { on := 10, ground := Go.Ground.data }, { on := 8, ground := Go.Ground.chain }, { on := 0, ground := Go.Ground.phase }, { on := 1, ground := Go.Ground.phase }, { on := 2, ground := Go.Ground.phase }, { on := 3, ground := Go.Ground.phase }, { on := 4, ground := Go.Ground.phase }, { on := 5, ground := Go.Ground.phase }, { on := 6, ground := Go.Ground.phase }, { on := 7, ground := Go.Ground.phase }, { on := 8, ground := Go.Ground.phase }, { on := 9, ground := Go.Ground.phase }, { on := 10, ground := Go.Ground.phase }, { on := 11, ground := Go.Ground.textOnly Go.Departure.lateStores }, { on := 12, ground := Go.Ground.phase }], guard := none }) rfl (fun K hK => ?_) AllReadyH.nil)
          have s0 := x7.c (k := 0) rfl
          have s1 := x7.c (k := 1) rfl
          have ff0 := x7.f 0
          have ff1 := x7.f 1
          go_simp
          try go_wp2_with fail
          clear s0 s1 ff0 ff1
          replace o2 := o2.box (k := 0) (v := .int .i64 at7) x7 (by decide)
          replace o7 := o7.box (k := 0) (v := .int .i64 at7) x7 (by decide)
          replace x3 := x3.other (B' := E) (k := 0) (x := .int .i64 at7) (by omega)
          replace x4 := x4.other (B' := E) (k := 0) (x := .int .i64 at7) (by omega)
          replace x5 := x5.other (B' := E) (k := 0) (x := .int .i64 at7) (by omega)
          replace r4 := r4.setB (B := E) 0 (.int .i64 at7) (by omega)
          replace T4 := T4.setOwn (d := E) (o := 0) (by omega) (.int .i64 at7)
          replace x7 := x7.set 0 (.int .i64 at7)
          replace o2 := o2.box (k := 1) (v := .slice A7 l7.length c7) x7 (by decide)
          replace o7 := o7.box (k := 1) (v := .slice A7 l7.length c7) x7 (by decide)
          replace x3 := x3.other (B' := E) (k := 1) (x := .slice A7 l7.length c7) (by omega)
          replace x4 := x4.other (B' := E) (k := 1) (x := .slice A7 l7.length c7) (by omega)
          replace x5 := x5.other (B' := E) (k := 1) (x := .slice A7 l7.length c7) (by omega)
          replace r4 := r4.setB (B := E) 1 (.slice A7 l7.length c7) (by omega)
          replace T4 := T4.setOwn (d := E) (o := 1) (by omega) (.slice A7 l7.length c7)
          replace x7 := x7.set 1 (.slice A7 l7.length c7)
          replace qx30 := x3.c (k := 0) rfl
          replace qx31 := x3.c (k := 1) rfl
          replace qx50 := x5.c (k := 0) rfl
          replace qx51 := x5.c (k := 1) rfl
          refine hK.out _ _ ⟨qx30, qx31, qx50, qx51⟩ (fun hHeld => ?_)
          clear hK K
          try simp only [Act.put, List.setIfInBounds_toArray, List.set_cons_zero, List.set_cons_succ]
          refine wpAnyH_take (i := 14) (oi := { dst := some 8, op := Go.Op.assign (Go.Operand.tmp 38), type := 3, pos := "l3_work.go:132", after := #[{ on := 11, ground := Go.Ground.data }, { on := 13, ground := Go.Ground.chain }, { on := 0, ground := Go.Ground.phase }, { on := 1, ground := Go.Ground.phase }, { on := 2, ground := Go.Ground.phase }, { on := 3, ground := Go.Ground.phase }, { on := 4, ground := Go.Ground.phase }, { on := 5, ground := Go.Ground.phase }, { on := 6, ground := Go.Ground.phase }, { on := 7, ground := Go.Ground.phase }, { on := 8, ground := Go.Ground.phase }, { on := 9, ground := Go.Ground.phase }, { on := 10, ground := Go.Ground.phase }, { on := 11, ground := Go.Ground.phase }, { on := 12, ground := Go.Ground.phase }, { on := 13, ground := Go.Ground.phase }], guard := none }) (v := ?_) rfl (by kernel_rfl) (by kernel_rfl) (by kernel_rfl) (fun _ _ _ h => h) (Or.inl ⟨by rfl, ?hy13_14⟩) (by assumption) ?_
          case hy13_14 => ((intro w hSw; (try dsimp only at hSw); go_simp); try with_reducible rfl)
          try simp only [Act.put, List.setIfInBounds_toArray, List.set_cons_zero, List.set_cons_succ]
          refine wpAnyH_done (by kernel_rfl) ?_ _
          have qx70 := x7.c (k := 0) rfl
          have qx71 := x7.c (k := 1) rfl
          have qf0 := x5.f 0
          have qf1 := x5.f 1
          by_cases hcode : code = 0
          · subst hcode
            replace o7 := o7.lower (base' := w.heap.size) hz6
            clear o2 hHeld
            go_wp2_with fail
            replace o7 := o7.box (k := 0) (v := .int .i64 at7) x5 (by decide)
            replace x3 := x3.other (B' := D) (k := 0) (x := .int .i64 at7) (by omega)
            replace x4 := x4.other (B' := D) (k := 0) (x := .int .i64 at7) (by omega)
            replace x7 := x7.other (B' := D) (k := 0) (x := .int .i64 at7) (by omega)
            replace r4 := r4.setB (B := D) 0 (.int .i64 at7) (by omega)
            replace T4 := T4.setOwn (d := D) (o := 0) (by omega) (.int .i64 at7)
            replace x5 := x5.set 0 (.int .i64 at7)
            replace o7 := o7.box (k := 1) (v := .slice A7 l7.length c7) x5 (by decide)
            replace x3 := x3.other (B' := D) (k := 1) (x := .slice A7 l7.length c7) (by omega)
            replace x4 := x4.other (B' := D) (k := 1) (x := .slice A7 l7.length c7) (by omega)
            replace x7 := x7.other (B' := D) (k := 1) (x := .slice A7 l7.length c7) (by omega)
            replace r4 := r4.setB (B := D) 1 (.slice A7 l7.length c7) (by omega)
            replace T4 := T4.setOwn (d := D) (o := 1) (by omega) (.slice A7 l7.length c7)
            replace x5 := x5.set 1 (.slice A7 l7.length c7)
            go_roundw
            case rel => exact ⟨k - 1, p8, at7, A7, c7, l7, by rw [show ((k - 1 : Nat) : Int) = (k : Int) - 1 by omega], by omega, hat70, hat71, o7, hS7, by omega, x3, x4, x5, by have := HP8.out; have := HPP.out; omega, r4, T4⟩
            case measure => simp [intOf]; omega
          · have hc1 : (code == 0) = false := by simp; exact hcode
            go_wp2_with fail
            go_roundw
            case rel => exact ⟨k - 1, p8, at_, B, cb, lw, by rw [show ((k - 1 : Nat) : Int) = (k : Int) - 1 by omega], by omega, hat0, hat1, o2, HSM.out, by have := HLEN.out; omega, x3, x4, x5, by have := HP8.out; have := HPP.out; omega, r4, T4⟩
            case measure => simp [intOf]; omega
      · have hk0 : k = 0 := by omega
        subst hk0
        have s0 := x4.c (k := 0) rfl
        have s1 := x4.c (k := 1) rfl
        have f0 := x4.f 0
        have f1 := x4.f 1
        have z := (x4.set 0 (.int .i64 at_)).set 1 (.slice B lw.length cb)
        have z0 := z.c (k := 0) rfl
        have z1 := z.c (k := 1) rfl
        have HOO := Lib.hid ((o2.box (k := 0) (v := .int .i64 at_) x4 (by decide)).box (k := 1) (v := .slice B lw.length cb) (x4.set 0 (.int .i64 at_)) (by decide))
        have HRR := Lib.hid ((r4.setB (B := w.heap.size + 1) 0 (.int .i64 at_) (by omega)).setB (B := w.heap.size + 1) 1 (.slice B lw.length cb) (by omega))
        have HTT := Lib.hid ((T4.setOwn (d := w.heap.size + 1) (o := 0) (by omega) (.int .i64 at_)).setOwn (d := w.heap.size + 1) (o := 1) (by omega) (.slice B lw.length cb))
        clear o2 r4 T4
        go_wp2_with fail
        exact bodyPost_ret (v := .agg #[.int .i64 at_, .slice B lw.length cb]) (by simp [results, Try.results112, go_sem, z0, z1]) rfl ⟨at_, B, cb, lw, p', rfl, HOO.out, HSM.out, by have := HLEN.out; omega, hat0, hat1, by have := HPP.out; omega, HRR.out, HTT.out⟩
  · have hv1 : ((v : Int) == 0) = false := by simp; omega
    clear hv0 hv
    go_wp2_with fail
    have hgw := r4.lt
    have r5 := r4.on (bel_alloc (Below.refl _ w3) (.cells #[.int .i64 2, .int .i64 3, .int .i64 1, .int .i64 0, .int .i64 5, .int .i64 8] 3))
    refine (numC g (p + 1) 6 6 w3.heap.size 0 A0 m0 c0 l0 is8 _ r5 (by have := HP.out; omega) (Sl.lit (enc := encI) w3 #[.int .i64 2, .int .i64 3, .int .i64 1, .int .i64 0, .int .i64 5, .int .i64 8] 3 is8 rfl 6 rfl) (by omega) (by omega) (by omega)).mono ?_
    rintro e w6 ⟨s, rfl, hs, r6, t6⟩
    obtain ⟨k0, rfl, hk0⟩ := is8_small s hs
    clear r5 hgw hs
    replace x3 := x3.alloc (.cells #[.int .i64 2, .int .i64 3, .int .i64 1, .int .i64 0, .int .i64 5, .int .i64 8] 3)
    replace x4 := x4.alloc (.cells #[.int .i64 2, .int .i64 3, .int .i64 1, .int .i64 0, .int .i64 5, .int .i64 8] 3)
    replace x5 := x5.alloc (.cells #[.int .i64 2, .int .i64 3, .int .i64 1, .int .i64 0, .int .i64 5, .int .i64 8] 3)
    replace o2 := o2.alloc (.cells #[.int .i64 2, .int .i64 3, .int .i64 1, .int .i64 0, .int .i64 5, .int .i64 8] 3)
    replace r4 := r4.on (bel_alloc (Below.refl _ _) (.cells #[.int .i64 2, .int .i64 3, .int .i64 1, .int .i64 0, .int .i64 5, .int .i64 8] 3))
    replace T4 := T4.alloc (.cells #[.int .i64 2, .int .i64 3, .int .i64 1, .int .i64 0, .int .i64 5, .int .i64 8] 3)
    replace qx30 := x3.c (k := 0) rfl
    replace qx31 := x3.c (k := 1) rfl
    replace qx50 := x5.c (k := 0) rfl
    replace qx51 := x5.c (k := 1) rfl
    replace x3 := x3.turn t6 (fun x hx => by cases hx; simp only; omega)
    replace x4 := x4.turn t6 (fun x hx => by cases hx; simp only; omega)
    replace x5 := x5.turn t6 (fun x hx => by cases hx; simp only; omega)
    replace o2 := o2.farRd t6 hg
    replace T4 := T4.trans t6
    clear r4
    have r4 := r6
    clear r6 t6
    replace qx30 := x3.c (k := 0) rfl
    replace qx31 := x3.c (k := 1) rfl
    replace qx50 := x5.c (k := 0) rfl
    replace qx51 := x5.c (k := 1) rfl
    go_wp2_with fail
    go_loopw [6] (SomeWRel w g p D now A n c A0 m0 c0 l0) (fun v6 _ => (intOf v6).toNat)
    case atStart => exact ⟨k0, p + 1 + 1, now, A1, c1, [], rfl, hk0, by omega, by omega, o2, SmallW.nil, by simp; omega, x3, x4, x5, by omega, r4, T4⟩
    case round =>
      clear x3 x4 x5 o2 r4 T4 qx30 qx31 qx50 qx51
      obtain ⟨k, p', at_, B, cb, lw, rfl, hk, hat0, hat1, o2, hSm, hlen, x3, x4, x5, hp', r4, T4⟩ := hrel
      have HPP := Lib.hid hp'
      clear hp'
      have HSM := Lib.hid hSm
      have HLEN := Lib.hid hlen
      clear hSm hlen
      have HAT := Lib.hid (And.intro hat0 hat1)
      have qx30 := x3.c (k := 0) rfl
      have qx31 := x3.c (k := 1) rfl
      have qx50 := x5.c (k := 0) rfl
      have qx51 := x5.c (k := 1) rfl
      by_cases hk1 : 0 < k
      · go_wp2_with fail
        refine wp_region_held_drew (S := (fun W' => W'.cell? ⟨w.heap.size, 0, none⟩ = some (.int .i64 now) ∧ W'.cell? ⟨w.heap.size, 1, none⟩ = some (.slice A n c) ∧ W'.cell? ⟨D, 0, none⟩ = some (.int .i64 at_) ∧ W'.cell? ⟨D, 1, none⟩ = some (.slice B lw.length cb))) (by kernel_rfl) ⟨qx30, qx31, qx50, qx51⟩ (fun hHeld => ?_)
        replace x3 := x3.drew
        replace x4 := x4.drew
        replace x5 := x5.drew
        replace o2 := o2.drew
        replace r4 := r4.drew
        replace T4 := T4.drew
        replace qx30 := x3.c (k := 0) rfl
        replace qx31 := x3.c (k := 1) rfl
        replace qx50 := x5.c (k := 0) rfl
        replace qx51 := x5.c (k := 1) rfl
        generalize wr.drew = wy at *
        refine wpAnyH_take (i := 0) (oi := { dst := some 28, op := Go.Op.load 39 (Go.Operand.tmp 3), type := 39, pos := "l3_work.go:132", after := #[], guard := none }) (v := ?_) rfl (by kernel_rfl) (by kernel_rfl) (by kernel_rfl) (fun _ _ _ h => h) (Or.inl ⟨by rfl, ?hy14_0⟩) (by assumption) ?_
        case hy14_0 => ((intro w hSw; (try dsimp only at hSw); go_simp); try with_reducible rfl)
        try simp only [Act.put, List.setIfInBounds_toArray, List.set_cons_zero, List.set_cons_succ]
        refine wpAnyH_take (i := 1) (oi := { dst := some 29, op := Go.Op.load 29 (Go.Operand.tmp 5), type := 29, pos := "l3_work.go:132", after := #[], guard := none }) (v := ?_) rfl (by kernel_rfl) (by kernel_rfl) (by kernel_rfl) (fun _ _ _ h => h) (Or.inl ⟨by rfl, ?hy14_1⟩) (by assumption) ?_
        case hy14_1 => ((intro w hSw; (try dsimp only at hSw); go_simp); try with_reducible rfl)
        try simp only [Act.put, List.setIfInBounds_toArray, List.set_cons_zero, List.set_cons_succ]
        refine wpAnyH_take (i := 2) (oi := { dst := some 30, op := Go.Op.move (Go.Operand.tmp 0), type := 124, pos := "l3_work.go:132", after := #[], guard := none }) (v := ?_) rfl (by kernel_rfl) (by kernel_rfl) (by kernel_rfl) (fun _ _ _ h => h) (Or.inl ⟨by rfl, ?hy14_2⟩) (by assumption) ?_
        case hy14_2 => ((intro w hSw; (try dsimp only at hSw); go_simp); try with_reducible rfl)
        try simp only [Act.put, List.setIfInBounds_toArray, List.set_cons_zero, List.set_cons_succ]
        refine wpAnyH_take (i := 3) (oi := { dst := some 31, op := Go.Op.load 39 (Go.Operand.tmp 3), type := 39, pos := "l3_work.go:132", after := #[], guard := none }) (v := ?_) rfl (by kernel_rfl) (by kernel_rfl) (by kernel_rfl) (fun _ _ _ h => h) (Or.inl ⟨by rfl, ?hy14_3⟩) (by assumption) ?_
        case hy14_3 => ((intro w hSw; (try dsimp only at hSw); go_simp); try with_reducible rfl)
        try simp only [Act.put, List.setIfInBounds_toArray, List.set_cons_zero, List.set_cons_succ]
        refine wpAnyH_take (i := 4) (oi := { dst := some 32, op := Go.Op.fieldAddr 39 (Go.Operand.tmp 3) 0, type := 0, pos := "l3_work.go:132", after := #[], guard := none }) (v := ?_) rfl (by kernel_rfl) (by kernel_rfl) (by kernel_rfl) (fun _ _ _ h => h) (Or.inl ⟨by rfl, ?hy14_4⟩) (by assumption) ?_
        case hy14_4 => ((intro w hSw; (try dsimp only at hSw); go_simp); try with_reducible rfl)
        try simp only [Act.put, List.setIfInBounds_toArray, List.set_cons_zero, List.set_cons_succ]
        refine wpAnyH_take (i := 5) (oi := { dst := some 33, op := Go.Op.load 3 (Go.Operand.tmp 32), type := 3, pos := "l3_work.go:132", after := #[{ on := 4, ground := Go.Ground.data }], guard := none }) (v := ?_) rfl (by kernel_rfl) (by kernel_rfl) (by kernel_rfl) (fun _ _ _ h => h) (Or.inl ⟨by rfl, ?hy14_5⟩) (by assumption) ?_
        case hy14_5 => ((intro w hSw; (try dsimp only at hSw); go_simp); try with_reducible rfl)
        try simp only [Act.put, List.setIfInBounds_toArray, List.set_cons_zero, List.set_cons_succ]
        refine wpAnyH_ready (rs := [6, 12]) (by kernel_rfl) (by simp) ?_
        refine (AllReadyH.cons (o := { dst := some 34, op := Go.Op.call { callee := Go.Callee.value (Go.Operand.func 90), args := #[Go.Operand.tmp 31, Go.Operand.tmp 33], argTypes := #[39, 3] }, type := 59, pos := "l3_work.go:132", after := #[{ on := 3, ground := Go.Ground.data }, { on := 5, ground := Go.Ground.data }], guard := none }) rfl (fun K hK => ?_) (AllReadyH.cons (o := { dst := some 7, op := Go.Op.alloc 29, type := 0, pos := "l3_work.go:132", after := #[], guard := none }) rfl (fun K hK => ?_) AllReadyH.nil))
        · skip
          go_simp
          have hgG := r4.lt
          refine (specAt now A n c lv now _ (HV.out _ T4) (by have := HN.out; omega)).mono ?_
          rintro e w5 ⟨v5, rfl, oR, hb5⟩
          obtain ⟨R, cR, rfl, -, -⟩ := oR.form
          replace x3 := x3.on hb5
          replace x4 := x4.on hb5
          replace x5 := x5.on hb5
          replace o2 := o2.on hb5
          replace r4 := r4.on hb5
          replace T4 := T4.below hb5
          replace qx30 := x3.c (k := 0) rfl
          replace qx31 := x3.c (k := 1) rfl
          replace qx50 := x5.c (k := 0) rfl
          replace qx51 := x5.c (k := 1) rfl
          clear hb5
          go_wp2_with fail
          refine hK.out _ _ ⟨qx30, qx31, qx50, qx51⟩ (fun hHeld => ?_)
          clear hK K
          try simp only [Act.put, List.setIfInBounds_toArray, List.set_cons_zero, List.set_cons_succ]
          refine wpAnyH_ready (rs := [7, 12]) (by kernel_rfl) (by simp) ?_
          refine (AllReadyH.cons (o := { dst := some 35, op := Go.Op.call { callee := Go.Callee.value (Go.Operand.func 114), args := #[Go.Operand.tmp 30, Go.Operand.tmp 34], argTypes := #[124, 59] }, type := 73, pos := "l3_work.go:132", after := #[{ on := 2, ground := Go.Ground.data }, { on := 6, ground := Go.Ground.data }, { on := 6, ground := Go.Ground.chain }], guard := none }) rfl (fun K hK => ?_) (AllReadyH.cons (o := { dst := some 7, op := Go.Op.alloc 29, type := 0, pos := "l3_work.go:132", after := #[], guard := none }) rfl (fun K hK => ?_) AllReadyH.nil))
          · skip
            go_simp
            refine (l3Write g p' A0 m0 c0 l0 R (atL lv now).length cR (atL lv now) _ r4 (by have := HPP.out; have := HP.out; omega) oR.sl HRL.out (fun x hx => by have := (oR.block hx).1; omega) HRS.out).mono ?_
            rintro e w6 ⟨key, num, gone, p8, rfl, hkey, hp8, r6, t6⟩
            clear oR
            replace x3 := x3.turn t6 (fun x hx => by cases hx; simp only; omega)
            replace x4 := x4.turn t6 (fun x hx => by cases hx; simp only; omega)
            replace x5 := x5.turn t6 (fun x hx => by cases hx; simp only; omega)
            replace o2 := o2.farRd t6 hg
            replace T4 := T4.trans t6
            clear r4
            have r4 := r6
            clear r6 t6
            replace qx30 := x3.c (k := 0) rfl
            replace qx31 := x3.c (k := 1) rfl
            replace qx50 := x5.c (k := 0) rfl
            replace qx51 := x5.c (k := 1) rfl
            have HP8 := Lib.hid hp8
            clear hp8
            go_wp2_with fail
            refine hK.out _ _ ⟨qx30, qx31, qx50, qx51⟩ (fun hHeld => ?_)
            clear hK K
            try simp only [Act.put, List.setIfInBounds_toArray, List.set_cons_zero, List.set_cons_succ]
            refine wpAnyH_ready (rs := [8, 12]) (by kernel_rfl) (by simp) ?_
            refine (AllReadyH.cons (o := { dst := some 36, op := Go.Op.call { callee := Go.Callee.value (Go.Operand.func 113), args := #[Go.Operand.tmp 28, Go.Operand.tmp 29, Go.Operand.tmp 35], argTypes := #[39, 29, 73] }, type := 138, pos := "l3_work.go:132", after := #[{ on := 0, ground := Go.Ground.data }, { on := 1, ground := Go.Ground.data }, { on := 7, ground := Go.Ground.data }, { on := 7, ground := Go.Ground.chain }], guard := none }) rfl (fun K hK => ?_) (AllReadyH.cons (o := { dst := some 7, op := Go.Op.alloc 29, type := 0, pos := "l3_work.go:132", after := #[], guard := none }) rfl (fun K hK => ?_) AllReadyH.nil))
            · skip
              go_simp
              have hz6 := T4.size
              refine (workPut now A n c lv at_ B lw.length cb lw key num gone _ (HV.out _ T4) HVP.out hat0 hat1 o2.sl HSM.out (by have := HLEN.out; omega) hkey).mono ?_
              rintro e w7 ⟨at7, A7, c7, l7, code, rfl, o7, hS7, hl7, hat70, hat71, hb7⟩
              replace hl7 : l7.length + k ≤ 9 := by have := HLEN.out; omega
              replace x3 := x3.on hb7
              replace x4 := x4.on hb7
              replace x5 := x5.on hb7
              replace o2 := o2.on hb7
              replace r4 := r4.on hb7
              replace T4 := T4.below hb7
              replace qx30 := x3.c (k := 0) rfl
              replace qx31 := x3.c (k := 1) rfl
              replace qx50 := x5.c (k := 0) rfl
              replace qx51 := x5.c (k := 1) rfl
              clear hb7
              go_wp2_with fail
              refine hK.out _ _ ⟨qx30, qx31, qx50, qx51⟩ (fun hHeld => ?_)
              clear hK K
              try simp only [Act.put, List.setIfInBounds_toArray, List.set_cons_zero, List.set_cons_succ]
              refine wpAnyH_take (i := 9) (oi := { dst := some 27, op := Go.Op.move (Go.Operand.tmp 36), type := 138, pos := "l3_work.go:132", after := #[{ on := 8, ground := Go.Ground.data }], guard := none }) (v := ?_) rfl (by kernel_rfl) (by kernel_rfl) (by kernel_rfl) (fun _ _ _ h => h) (Or.inl ⟨by rfl, ?hy15_9⟩) (by assumption) ?_
              case hy15_9 => ((intro w hSw; (try dsimp only at hSw); go_simp); try with_reducible rfl)
              try simp only [Act.put, List.setIfInBounds_toArray, List.set_cons_zero, List.set_cons_succ]
              refine wpAnyH_take (i := 10) (oi := { dst := some 37, op := Go.Op.extract (Go.Operand.tmp 27) 0, type := 29, pos := "l3_work.go:132", after := #[{ on := 9, ground := Go.Ground.data }], guard := none }) (v := ?_) rfl (by kernel_rfl) (by kernel_rfl) (by kernel_rfl) (fun _ _ _ h => h) (Or.inl ⟨by rfl, ?hy15_10⟩) (by assumption) ?_
              case hy15_10 => ((intro w hSw; (try dsimp only at hSw); go_simp); try with_reducible rfl)
              try simp only [Act.put, List.setIfInBounds_toArray, List.set_cons_zero, List.set_cons_succ]
              refine wpAnyH_take (i := 11) (oi := { dst := some 38, op := Go.Op.extract (Go.Operand.tmp 27) 1, type := 3, pos := "l3_work.go:132", after := #[{ on := 9, ground := Go.Ground.data }, { on := 13, ground := Go.Ground.gcOnly Go.Departure.lateStores }], guard := none }) (v := ?_) rfl (by kernel_rfl) (by kernel_rfl) (by kernel_rfl) (fun _ _ _ h => h) (Or.inl ⟨by rfl, ?hy15_11⟩) (by assumption) ?_
              case hy15_11 => ((intro w hSw; (try dsimp only at hSw); go_simp); try with_reducible rfl)
              try simp only [Act.put, List.setIfInBounds_toArray, List.set_cons_zero, List.set_cons_succ]
              refine wpAnyH_ready (rs := [12]) (by kernel_rfl) (by simp) ?_
              refine (AllReadyH.cons (o := { dst := some 7, op := Go.Op.alloc 29, type := 0, pos := "l3_work.go:132", after := #[], guard := none }) rfl (fun K hK => ?_) AllReadyH.nil)
              have hED := x5.lt
              have hEg := r4.lt
              replace x3 := x3.alloc (.cells #[.int .i64 0, .slice none 0 0] 29)
              replace x4 := x4.alloc (.cells #[.int .i64 0, .slice none 0 0] 29)
              replace x5 := x5.alloc (.cells #[.int .i64 0, .slice none 0 0] 29)
              replace o2 := o2.alloc (.cells #[.int .i64 0, .slice none 0 0] 29)
              replace o7 := o7.alloc (.cells #[.int .i64 0, .slice none 0 0] 29)
              replace r4 := r4.on (bel_alloc (Below.refl _ _) (.cells #[.int .i64 0, .slice none 0 0] 29))
              replace T4 := T4.alloc (.cells #[.int .i64 0, .slice none 0 0] 29)
              replace qx30 := x3.c (k := 0) rfl
              replace qx31 := x3.c (k := 1) rfl
              replace qx50 := x5.c (k := 0) rfl
              replace qx51 := x5.c (k := 1) rfl
              have x7 : BoxC (w7.alloc (.cells #[.int .i64 0, .slice none 0 0] 29)) w7.heap.size 29 #[.int .i64 0, .slice none 0 0] := BoxC.new w7 29 #[.int .i64 0, .slice none 0 0]
              go_simp
              try go_wp2_with fail
              refine hK.out _ _ ⟨qx30, qx31, qx50, qx51⟩ (fun hHeld => ?_)
              clear hK K
              try simp only [Act.put, List.setIfInBounds_toArray, List.set_cons_zero, List.set_cons_succ]
              obtain ⟨E, hE⟩ : ∃ E, w7.heap.size = E := ⟨_, rfl⟩
              rw [hE] at x7 hED hEg
              rw [hE]
              generalize w7.alloc (.cells #[.int .i64 0, .slice none 0 0] 29) = wa at *
              clear hE
              refine wpAnyH_ready (rs := [13]) (by kernel_rfl) (by simp) ?_
              refine (AllReadyH.cons (o := { dst := none, op := Go.Op.store 29 (Go.Operand.tmp 7) (Go.Operand.tmp 37), type := 0, pos := "l3_work.go:132", after := #[{ on := 12, ground := Go.Ground.data }, { on := 10, ground := Go.Ground.data }, { on := 8, ground := Go.Ground.chain }, { on := 0, ground := Go.Ground.phase }, { on := 1, ground := Go.Ground.phase }, { on := 2, ground := Go.Ground.phase }, { on := 3, ground := Go.Ground.phase }, { on := 4, ground := Go.Ground.phase }, { on := 5, ground := Go.Ground.phase }, { on := 6, ground := Go.Ground.phase }, { on := 7, ground := Go.Ground.phase }, { on := 8, ground := Go.Ground.phase }, { on := 9, ground := Go.Ground.phase }, { on := 10, ground := Go.Ground.phase }, { on := 11, ground := Go.Ground.textOnly Go.Departure.lateStores }, { on := 12, ground := Go.Ground.phase }], guard := none }) rfl (fun K hK => ?_) AllReadyH.nil)
              have s0 := x7.c (k := 0) rfl
              have s1 := x7.c (k := 1) rfl
              have ff0 := x7.f 0
              have ff1 := x7.f 1
              go_simp
              try go_wp2_with fail
              clear s0 s1 ff0 ff1
              replace o2 := o2.box (k := 0) (v := .int .i64 at7) x7 (by decide)
              replace o7 := o7.box (k := 0) (v := .int .i64 at7) x7 (by decide)
              replace x3 := x3.other (B' := E) (k := 0) (x := .int .i64 at7) (by omega)
              replace x4 := x4.other (B' := E) (k := 0) (x := .int .i64 at7) (by omega)
              replace x5 := x5.other (B' := E) (k := 0) (x := .int .i64 at7) (by omega)
              replace r4 := r4.setB (B := E) 0 (.int .i64 at7) (by omega)
              replace T4 := T4.setOwn (d := E) (o := 0) (by omega) (.int .i64 at7)
              replace x7 := x7.set 0 (.int .i64 at7)
              replace o2 := o2.box (k := 1) (v := .slice A7 l7.length c7) x7 (by decide)
              replace o7 := o7.box (k := 1) (v := .slice A7 l7.length c7) x7 (by decide)
              replace x3 := x3.other (B' := E) (k := 1) (x := .slice A7 l7.length c7) (by omega)
              replace x4 := x4.other (B' := E) (k := 1) (x := .slice A7 l7.length c7) (by omega)
              replace x5 := x5.other (B' := E) (k := 1) (x := .slice A7 l7.length c7) (by omega)
              replace r4 := r4.setB (B := E) 1 (.slice A7 l7.length c7) (by omega)
              replace T4 := T4.setOwn (d := E) (o := 1) (by omega) (.slice A7 l7.length c7)
              replace x7 := x7.set 1 (.slice A7 l7.length c7)
              replace qx30 := x3.c (k := 0) rfl
              replace qx31 := x3.c (k := 1) rfl
              replace qx50 := x5.c (k := 0) rfl
              replace qx51 := x5.c (k := 1) rfl
              refine hK.out _ _ ⟨qx30, qx31, qx50, qx51⟩ (fun hHeld => ?_)
              clear hK K
              try simp only [Act.put, List.setIfInBounds_toArray, List.set_cons_zero, List.set_cons_succ]
              refine wpAnyH_take (i := 14) (oi := { dst := some 8, op := Go.Op.assign (Go.Operand.tmp 38), type := 3, pos := "l3_work.go:132", after := #[{ on := 11, ground := Go.Ground.data }, { on := 13, ground := Go.Ground.chain }, { on := 0, ground := Go.Ground.phase }, { on := 1, ground := Go.Ground.phase }, { on := 2, ground := Go.Ground.phase }, { on := 3, ground := Go.Ground.phase }, { on := 4, ground := Go.Ground.phase }, { on := 5, ground := Go.Ground.phase }, { on := 6, ground := Go.Ground.phase }, { on := 7, ground := Go.Ground.phase }, { on := 8, ground := Go.Ground.phase }, { on := 9, ground := Go.Ground.phase }, { on := 10, ground := Go.Ground.phase }, { on := 11, ground := Go.Ground.phase }, { on := 12, ground := Go.Ground.phase }, { on := 13, ground := Go.Ground.phase }], guard := none }) (v := ?_) rfl (by kernel_rfl) (by kernel_rfl) (by kernel_rfl) (fun _ _ _ h => h) (Or.inl ⟨by rfl, ?hy17_14⟩) (by assumption) ?_
              case hy17_14 => ((intro w hSw; (try dsimp only at hSw); go_simp); try with_reducible rfl)
              try simp only [Act.put, List.setIfInBounds_toArray, List.set_cons_zero, List.set_cons_succ]
              refine wpAnyH_done (by kernel_rfl) ?_ _
              have qx70 := x7.c (k := 0) rfl
              have qx71 := x7.c (k := 1) rfl
              have qf0 := x5.f 0
              have qf1 := x5.f 1
              by_cases hcode : code = 0
              · subst hcode
                replace o7 := o7.lower (base' := w.heap.size) hz6
                clear o2 hHeld
                go_wp2_with fail
                replace o7 := o7.box (k := 0) (v := .int .i64 at7) x5 (by decide)
                replace x3 := x3.other (B' := D) (k := 0) (x := .int .i64 at7) (by omega)
                replace x4 := x4.other (B' := D) (k := 0) (x := .int .i64 at7) (by omega)
                replace x7 := x7.other (B' := D) (k := 0) (x := .int .i64 at7) (by omega)
                replace r4 := r4.setB (B := D) 0 (.int .i64 at7) (by omega)
                replace T4 := T4.setOwn (d := D) (o := 0) (by omega) (.int .i64 at7)
                replace x5 := x5.set 0 (.int .i64 at7)
                replace o7 := o7.box (k := 1) (v := .slice A7 l7.length c7) x5 (by decide)
                replace x3 := x3.other (B' := D) (k := 1) (x := .slice A7 l7.length c7) (by omega)
                replace x4 := x4.other (B' := D) (k := 1) (x := .slice A7 l7.length c7) (by omega)
                replace x7 := x7.other (B' := D) (k := 1) (x := .slice A7 l7.length c7) (by omega)
                replace r4 := r4.setB (B := D) 1 (.slice A7 l7.length c7) (by omega)
                replace T4 := T4.setOwn (d := D) (o := 1) (by omega) (.slice A7 l7.length c7)
                replace x5 := x5.set 1 (.slice A7 l7.length c7)
                go_roundw
                case rel => exact ⟨k - 1, p8, at7, A7, c7, l7, by rw [show ((k - 1 : Nat) : Int) = (k : Int) - 1 by omega], by omega, hat70, hat71, o7, hS7, by omega, x3, x4, x5, by have := HP8.out; have := HPP.out; omega, r4, T4⟩
                case measure => simp [intOf]; omega
              · have hc1 : (code == 0) = false := by simp; exact hcode
                go_wp2_with fail
                go_roundw
                case rel => exact ⟨k - 1, p8, at_, B, cb, lw, by rw [show ((k - 1 : Nat) : Int) = (k : Int) - 1 by omega], by omega, hat0, hat1, o2, HSM.out, by have := HLEN.out; omega, x3, x4, x5, by have := HP8.out; have := HPP.out; omega, r4, T4⟩
                case measure => simp [intOf]; omega
            · skip
              have hED := x5.lt
              have hEg := r4.lt
              replace x3 := x3.alloc (.cells #[.int .i64 0, .slice none 0 0] 29)
              replace x4 := x4.alloc (.cells #[.int .i64 0, .slice none 0 0] 29)
              replace x5 := x5.alloc (.cells #[.int .i64 0, .slice none 0 0] 29)
              replace o2 := o2.alloc (.cells #[.int .i64 0, .slice none 0 0] 29)
              replace r4 := r4.on (bel_alloc (Below.refl _ _) (.cells #[.int .i64 0, .slice none 0 0] 29))
              replace T4 := T4.alloc (.cells #[.int .i64 0, .slice none 0 0] 29)
              replace qx30 := x3.c (k := 0) rfl
              replace qx31 := x3.c (k := 1) rfl
              replace qx50 := x5.c (k := 0) rfl
              replace qx51 := x5.c (k := 1) rfl
              have x7 : BoxC (w6.alloc (.cells #[.int .i64 0, .slice none 0 0] 29)) w6.heap.size 29 #[.int .i64 0, .slice none 0 0] := BoxC.new w6 29 #[.int .i64 0, .slice none 0 0]
              go_simp
              try go_wp2_with fail
              refine hK.out _ _ ⟨qx30, qx31, qx50, qx51⟩ (fun hHeld => ?_)
              clear hK K
              try simp only [Act.put, List.setIfInBounds_toArray, List.set_cons_zero, List.set_cons_succ]
              obtain ⟨E, hE⟩ : ∃ E, w6.heap.size = E := ⟨_, rfl⟩
              rw [hE] at x7 hED hEg
              rw [hE]
              generalize w6.alloc (.cells #[.int .i64 0, .slice none 0 0] 29) = wa at *
              clear hE
              refine wpAnyH_ready (rs := [8]) (by kernel_rfl) (by simp) ?_
              refine (AllReadyH.cons (o := { dst := some 36, op := Go.Op.call { callee := Go.Callee.value (Go.Operand.func 113), args := #[Go.Operand.tmp 28, Go.Operand.tmp 29, Go.Operand.tmp 35], argTypes := #[39, 29, 73] }, type := 138, pos := "l3_work.go:132", after := #[{ on := 0, ground := Go.Ground.data }, { on := 1, ground := Go.Ground.data }, { on := 7, ground := Go.Ground.data }, { on := 7, ground := Go.Ground.chain }], guard := none }) rfl (fun K hK => ?_) AllReadyH.nil)
              go_simp
              have hz6 := T4.size
              refine (workPut now A n c lv at_ B lw.length cb lw key num gone _ (HV.out _ T4) HVP.out hat0 hat1 o2.sl HSM.out (by have := HLEN.out; omega) hkey).mono ?_
              rintro e w7 ⟨at7, A7, c7, l7, code, rfl, o7, hS7, hl7, hat70, hat71, hb7⟩
              replace hl7 : l7.length + k ≤ 9 := by have := HLEN.out; omega
              replace x3 := x3.on hb7
              replace x4 := x4.on hb7
              replace x5 := x5.on hb7
              replace x7 := x7.on hb7
              replace o2 := o2.on hb7
              replace r4 := r4.on hb7
              replace T4 := T4.below hb7
              replace qx30 := x3.c (k := 0) rfl
              replace qx31 := x3.c (k := 1) rfl
              replace qx50 := x5.c (k := 0) rfl
              replace qx51 := x5.c (k := 1) rfl
              clear hb7
              go_wp2_with fail
              refine hK.out _ _ ⟨qx30, qx31, qx50, qx51⟩ (fun hHeld => ?_)
              clear hK K
              try simp only [Act.put, List.setIfInBounds_toArray, List.set_cons_zero, List.set_cons_succ]
              refine wpAnyH_take (i := 9) (oi := { dst := some 27, op := Go.Op.move (Go.Operand.tmp 36), type := 138, pos := "l3_work.go:132", after := #[{ on := 8, ground := Go.Ground.data }], guard := none }) (v := ?_) rfl (by kernel_rfl) (by kernel_rfl) (by kernel_rfl) (fun _ _ _ h => h) (Or.inl ⟨by rfl, ?hy18_9⟩) (by assumption) ?_
              case hy18_9 => ((intro w hSw; (try dsimp only at hSw); go_simp); try with_reducible rfl)
              try simp only [Act.put, List.setIfInBounds_toArray, List.set_cons_zero, List.set_cons_succ]
              refine wpAnyH_take (i := 10) (oi := { dst := some 37, op := Go.Op.extract (Go.Operand.tmp 27) 0, type := 29, pos := "l3_work.go:132", after := #[{ on := 9, ground := Go.Ground.data }], guard := none }) (v := ?_) rfl (by kernel_rfl) (by kernel_rfl) (by kernel_rfl) (fun _ _ _ h => h) (Or.inl ⟨by rfl, ?hy18_10⟩) (by assumption) ?_
              case hy18_10 => ((intro w hSw; (try dsimp only at hSw); go_simp); try with_reducible rfl)
              try simp only [Act.put, List.setIfInBounds_toArray, List.set_cons_zero, List.set_cons_succ]
              refine wpAnyH_take (i := 11) (oi := { dst := some 38, op := Go.Op.extract (Go.Operand.tmp 27) 1, type := 3, pos := "l3_work.go:132", after := #[{ on := 9, ground := Go.Ground.data }, { on := 13, ground := Go.Ground.gcOnly Go.Departure.lateStores }], guard := none }) (v := ?_) rfl (by kernel_rfl) (by kernel_rfl) (by kernel_rfl) (fun _ _ _ h => h) (Or.inl ⟨by rfl, ?hy18_11⟩) (by assumption) ?_
              case hy18_11 => ((intro w hSw; (try dsimp only at hSw); go_simp); try with_reducible rfl)
              try simp only [Act.put, List.setIfInBounds_toArray, List.set_cons_zero, List.set_cons_succ]
              refine wpAnyH_ready (rs := [13]) (by kernel_rfl) (by simp) ?_
              refine (AllReadyH.cons (o := { dst := none, op := Go.Op.store 29 (Go.Operand.tmp 7) (Go.Operand.tmp 37), type := 0, pos := "l3_work.go:132", after := #[{ on := 12, ground := Go.Ground.data }, { on := 10, ground := Go.Ground.data }, { on := 8, ground := Go.Ground.chain }, { on := 0, ground := Go.Ground.phase }, { on := 1, ground := Go.Ground.phase }, { on := 2, ground := Go.Ground.phase }, { on := 3, ground := Go.Ground.phase }, { on := 4, ground := Go.Ground.phase }, { on := 5, ground := Go.Ground.phase }, { on := 6, ground := Go.Ground.phase }, { on := 7, ground := Go.Ground.phase }, { on := 8, ground := Go.Ground.phase }, { on := 9, ground := Go.Ground.phase }, { on := 10, ground := Go.Ground.phase }, { on := 11, ground := Go.Ground.textOnly Go.Departure.lateStores }, { on := 12, ground := Go.Ground.phase }], guard := none }) rfl (fun K hK => ?_) AllReadyH.nil)
              have s0 := x7.c (k := 0) rfl
              have s1 := x7.c (k := 1) rfl
              have ff0 := x7.f 0
              have ff1 := x7.f 1
              go_simp
              try go_wp2_with fail
              clear s0 s1 ff0 ff1
              replace o2 := o2.box (k := 0) (v := .int .i64 at7) x7 (by decide)
              replace o7 := o7.box (k := 0) (v := .int .i64 at7) x7 (by decide)
              replace x3 := x3.other (B' := E) (k := 0) (x := .int .i64 at7) (by omega)
              replace x4 := x4.other (B' := E) (k := 0) (x := .int .i64 at7) (by omega)
              replace x5 := x5.other (B' := E) (k := 0) (x := .int .i64 at7) (by omega)
              replace r4 := r4.setB (B := E) 0 (.int .i64 at7) (by omega)
              replace T4 := T4.setOwn (d := E) (o := 0) (by omega) (.int .i64 at7)
              replace x7 := x7.set 0 (.int .i64 at7)
              replace o2 := o2.box (k := 1) (v := .slice A7 l7.length c7) x7 (by decide)
              replace o7 := o7.box (k := 1) (v := .slice A7 l7.length c7) x7 (by decide)
              replace x3 := x3.other (B' := E) (k := 1) (x := .slice A7 l7.length c7) (by omega)
              replace x4 := x4.other (B' := E) (k := 1) (x := .slice A7 l7.length c7) (by omega)
              replace x5 := x5.other (B' := E) (k := 1) (x := .slice A7 l7.length c7) (by omega)
              replace r4 := r4.setB (B := E) 1 (.slice A7 l7.length c7) (by omega)
              replace T4 := T4.setOwn (d := E) (o := 1) (by omega) (.slice A7 l7.length c7)
              replace x7 := x7.set 1 (.slice A7 l7.length c7)
              replace qx30 := x3.c (k := 0) rfl
              replace qx31 := x3.c (k := 1) rfl
              replace qx50 := x5.c (k := 0) rfl
              replace qx51 := x5.c (k := 1) rfl
              refine hK.out _ _ ⟨qx30, qx31, qx50, qx51⟩ (fun hHeld => ?_)
              clear hK K
              try simp only [Act.put, List.setIfInBounds_toArray, List.set_cons_zero, List.set_cons_succ]
              refine wpAnyH_take (i := 14) (oi := { dst := some 8, op := Go.Op.assign (Go.Operand.tmp 38), type := 3, pos := "l3_work.go:132", after := #[{ on := 11, ground := Go.Ground.data }, { on := 13, ground := Go.Ground.chain }, { on := 0, ground := Go.Ground.phase }, { on := 1, ground := Go.Ground.phase }, { on := 2, ground := Go.Ground.phase }, { on := 3, ground := Go.Ground.phase }, { on := 4, ground := Go.Ground.phase }, { on := 5, ground := Go.Ground.phase }, { on := 6, ground := Go.Ground.phase }, { on := 7, ground := Go.Ground.phase }, { on := 8, ground := Go.Ground.phase }, { on := 9, ground := Go.Ground.phase }, { on := 10, ground := Go.Ground.phase }, { on := 11, ground := Go.Ground.phase }, { on := 12, ground := Go.Ground.phase }, { on := 13, ground := Go.Ground.phase }], guard := none }) (v := ?_) rfl (by kernel_rfl) (by kernel_rfl) (by kernel_rfl) (fun _ _ _ h => h) (Or.inl ⟨by rfl, ?hy20_14⟩) (by assumption) ?_
              case hy20_14 => ((intro w hSw; (try dsimp only at hSw); go_simp); try with_reducible rfl)
              try simp only [Act.put, List.setIfInBounds_toArray, List.set_cons_zero, List.set_cons_succ]
              refine wpAnyH_done (by kernel_rfl) ?_ _
              have qx70 := x7.c (k := 0) rfl
              have qx71 := x7.c (k := 1) rfl
              have qf0 := x5.f 0
              have qf1 := x5.f 1
              by_cases hcode : code = 0
              · subst hcode
                replace o7 := o7.lower (base' := w.heap.size) hz6
                clear o2 hHeld
                go_wp2_with fail
                replace o7 := o7.box (k := 0) (v := .int .i64 at7) x5 (by decide)
                replace x3 := x3.other (B' := D) (k := 0) (x := .int .i64 at7) (by omega)
                replace x4 := x4.other (B' := D) (k := 0) (x := .int .i64 at7) (by omega)
                replace x7 := x7.other (B' := D) (k := 0) (x := .int .i64 at7) (by omega)
                replace r4 := r4.setB (B := D) 0 (.int .i64 at7) (by omega)
                replace T4 := T4.setOwn (d := D) (o := 0) (by omega) (.int .i64 at7)
                replace x5 := x5.set 0 (.int .i64 at7)
                replace o7 := o7.box (k := 1) (v := .slice A7 l7.length c7) x5 (by decide)
                replace x3 := x3.other (B' := D) (k := 1) (x := .slice A7 l7.length c7) (by omega)
                replace x4 := x4.other (B' := D) (k := 1) (x := .slice A7 l7.length c7) (by omega)
                replace x7 := x7.other (B' := D) (k := 1) (x := .slice A7 l7.length c7) (by omega)
                replace r4 := r4.setB (B := D) 1 (.slice A7 l7.length c7) (by omega)
                replace T4 := T4.setOwn (d := D) (o := 1) (by omega) (.slice A7 l7.length c7)
                replace x5 := x5.set 1 (.slice A7 l7.length c7)
                go_roundw
                case rel => exact ⟨k - 1, p8, at7, A7, c7, l7, by rw [show ((k - 1 : Nat) : Int) = (k : Int) - 1 by omega], by omega, hat70, hat71, o7, hS7, by omega, x3, x4, x5, by have := HP8.out; have := HPP.out; omega, r4, T4⟩
                case measure => simp [intOf]; omega
              · have hc1 : (code == 0) = false := by simp; exact hcode
                go_wp2_with fail
                go_roundw
                case rel => exact ⟨k - 1, p8, at_, B, cb, lw, by rw [show ((k - 1 : Nat) : Int) = (k : Int) - 1 by omega], by omega, hat0, hat1, o2, HSM.out, by have := HLEN.out; omega, x3, x4, x5, by have := HP8.out; have := HPP.out; omega, r4, T4⟩
                case measure => simp [intOf]; omega
          · skip
            have hED := x5.lt
            have hEg := r4.lt
            replace x3 := x3.alloc (.cells #[.int .i64 0, .slice none 0 0] 29)
            replace x4 := x4.alloc (.cells #[.int .i64 0, .slice none 0 0] 29)
            replace x5 := x5.alloc (.cells #[.int .i64 0, .slice none 0 0] 29)
            replace o2 := o2.alloc (.cells #[.int .i64 0, .slice none 0 0] 29)
            replace oR := oR.alloc (.cells #[.int .i64 0, .slice none 0 0] 29)
            replace r4 := r4.on (bel_alloc (Below.refl _ _) (.cells #[.int .i64 0, .slice none 0 0] 29))
            replace T4 := T4.alloc (.cells #[.int .i64 0, .slice none 0 0] 29)
            replace qx30 := x3.c (k := 0) rfl
            replace qx31 := x3.c (k := 1) rfl
            replace qx50 := x5.c (k := 0) rfl
            replace qx51 := x5.c (k := 1) rfl
            have x7 : BoxC (w5.alloc (.cells #[.int .i64 0, .slice none 0 0] 29)) w5.heap.size 29 #[.int .i64 0, .slice none 0 0] := BoxC.new w5 29 #[.int .i64 0, .slice none 0 0]
            go_simp
            try go_wp2_with fail
            refine hK.out _ _ ⟨qx30, qx31, qx50, qx51⟩ (fun hHeld => ?_)
            clear hK K
            try simp only [Act.put, List.setIfInBounds_toArray, List.set_cons_zero, List.set_cons_succ]
            obtain ⟨E, hE⟩ : ∃ E, w5.heap.size = E := ⟨_, rfl⟩
            rw [hE] at x7 hED hEg
            rw [hE]
            generalize w5.alloc (.cells #[.int .i64 0, .slice none 0 0] 29) = wa at *
            clear hE
            refine wpAnyH_ready (rs := [7]) (by kernel_rfl) (by simp) ?_
            refine (AllReadyH.cons (o := { dst := some 35, op := Go.Op.call { callee := Go.Callee.value (Go.Operand.func 114), args := #[Go.Operand.tmp 30, Go.Operand.tmp 34], argTypes := #[124, 59] }, type := 73, pos := "l3_work.go:132", after := #[{ on := 2, ground := Go.Ground.data }, { on := 6, ground := Go.Ground.data }, { on := 6, ground := Go.Ground.chain }], guard := none }) rfl (fun K hK => ?_) AllReadyH.nil)
            go_simp
            refine (l3Write g p' A0 m0 c0 l0 R (atL lv now).length cR (atL lv now) _ r4 (by have := HPP.out; have := HP.out; omega) oR.sl HRL.out (fun x hx => by have := (oR.block hx).1; omega) HRS.out).mono ?_
            rintro e w6 ⟨key, num, gone, p8, rfl, hkey, hp8, r6, t6⟩
            clear oR
            replace x3 := x3.turn t6 (fun x hx => by cases hx; simp only; omega)
            replace x4 := x4.turn t6 (fun x hx => by cases hx; simp only; omega)
            replace x5 := x5.turn t6 (fun x hx => by cases hx; simp only; omega)
            replace x7 := x7.turn t6 (fun x hx => by cases hx; simp only; omega)
            replace o2 := o2.farRd t6 hg
            replace T4 := T4.trans t6
            clear r4
            have r4 := r6
            clear r6 t6
            replace qx30 := x3.c (k := 0) rfl
            replace qx31 := x3.c (k := 1) rfl
            replace qx50 := x5.c (k := 0) rfl
            replace qx51 := x5.c (k := 1) rfl
            have HP8 := Lib.hid hp8
            clear hp8
            go_wp2_with fail
            refine hK.out _ _ ⟨qx30, qx31, qx50, qx51⟩ (fun hHeld => ?_)
            clear hK K
            try simp only [Act.put, List.setIfInBounds_toArray, List.set_cons_zero, List.set_cons_succ]
            refine wpAnyH_ready (rs := [8]) (by kernel_rfl) (by simp) ?_
            refine (AllReadyH.cons (o := { dst := some 36, op := Go.Op.call { callee := Go.Callee.value (Go.Operand.func 113), args := #[Go.Operand.tmp 28, Go.Operand.tmp 29, Go.Operand.tmp 35], argTypes := #[39, 29, 73] }, type := 138, pos := "l3_work.go:132", after := #[{ on := 0, ground := Go.Ground.data }, { on := 1, ground := Go.Ground.data }, { on := 7, ground := Go.Ground.data }, { on := 7, ground := Go.Ground.chain }], guard := none }) rfl (fun K hK => ?_) AllReadyH.nil)
            go_simp
            have hz6 := T4.size
            refine (workPut now A n c lv at_ B lw.length cb lw key num gone _ (HV.out _ T4) HVP.out hat0 hat1 o2.sl HSM.out (by have := HLEN.out; omega) hkey).mono ?_
            rintro e w7 ⟨at7, A7, c7, l7, code, rfl, o7, hS7, hl7, hat70, hat71, hb7⟩
            replace hl7 : l7.length + k ≤ 9 := by have := HLEN.out; omega
            replace x3 := x3.on hb7
            replace x4 := x4.on hb7
            replace x5 := x5.on hb7
            replace x7 := x7.on hb7
            replace o2 := o2.on hb7
            replace r4 := r4.on hb7
            replace T4 := T4.below hb7
            replace qx30 := x3.c (k := 0) rfl
            replace qx31 := x3.c (k := 1) rfl
            replace qx50 := x5.c (k := 0) rfl
            replace qx51 := x5.c (k := 1) rfl
            clear hb7
            go_wp2_with fail
            refine hK.out _ _ ⟨qx30, qx31, qx50, qx51⟩ (fun hHeld => ?_)
            clear hK K
            try simp only [Act.put, List.setIfInBounds_toArray, List.set_cons_zero, List.set_cons_succ]
            refine wpAnyH_take (i := 9) (oi := { dst := some 27, op := Go.Op.move (Go.Operand.tmp 36), type := 138, pos := "l3_work.go:132", after := #[{ on := 8, ground := Go.Ground.data }], guard := none }) (v := ?_) rfl (by kernel_rfl) (by kernel_rfl) (by kernel_rfl) (fun _ _ _ h => h) (Or.inl ⟨by rfl, ?hy21_9⟩) (by assumption) ?_
            case hy21_9 => ((intro w hSw; (try dsimp only at hSw); go_simp); try with_reducible rfl)
            try simp only [Act.put, List.setIfInBounds_toArray, List.set_cons_zero, List.set_cons_succ]
            refine wpAnyH_take (i := 10) (oi := { dst := some 37, op := Go.Op.extract (Go.Operand.tmp 27) 0, type := 29, pos := "l3_work.go:132", after := #[{ on := 9, ground := Go.Ground.data }], guard := none }) (v := ?_) rfl (by kernel_rfl) (by kernel_rfl) (by kernel_rfl) (fun _ _ _ h => h) (Or.inl ⟨by rfl, ?hy21_10⟩) (by assumption) ?_
            case hy21_10 => ((intro w hSw; (try dsimp only at hSw); go_simp); try with_reducible rfl)
            try simp only [Act.put, List.setIfInBounds_toArray, List.set_cons_zero, List.set_cons_succ]
            refine wpAnyH_take (i := 11) (oi := { dst := some 38, op := Go.Op.extract (Go.Operand.tmp 27) 1, type := 3, pos := "l3_work.go:132", after := #[{ on := 9, ground := Go.Ground.data }, { on := 13, ground := Go.Ground.gcOnly Go.Departure.lateStores }], guard := none }) (v := ?_) rfl (by kernel_rfl) (by kernel_rfl) (by kernel_rfl) (fun _ _ _ h => h) (Or.inl ⟨by rfl, ?hy21_11⟩) (by assumption) ?_
            case hy21_11 => ((intro w hSw; (try dsimp only at hSw); go_simp); try with_reducible rfl)
            try simp only [Act.put, List.setIfInBounds_toArray, List.set_cons_zero, List.set_cons_succ]
            refine wpAnyH_ready (rs := [13]) (by kernel_rfl) (by simp) ?_
            refine (AllReadyH.cons (o := { dst := none, op := Go.Op.store 29 (Go.Operand.tmp 7) (Go.Operand.tmp 37), type := 0, pos := "l3_work.go:132", after := #[{ on := 12, ground := Go.Ground.data }, { on := 10, ground := Go.Ground.data }, { on := 8, ground := Go.Ground.chain }, { on := 0, ground := Go.Ground.phase }, { on := 1, ground := Go.Ground.phase }, { on := 2, ground := Go.Ground.phase }, { on := 3, ground := Go.Ground.phase }, { on := 4, ground := Go.Ground.phase }, { on := 5, ground := Go.Ground.phase }, { on := 6, ground := Go.Ground.phase }, { on := 7, ground := Go.Ground.phase }, { on := 8, ground := Go.Ground.phase }, { on := 9, ground := Go.Ground.phase }, { on := 10, ground := Go.Ground.phase }, { on := 11, ground := Go.Ground.textOnly Go.Departure.lateStores }, { on := 12, ground := Go.Ground.phase }], guard := none }) rfl (fun K hK => ?_) AllReadyH.nil)
            have s0 := x7.c (k := 0) rfl
            have s1 := x7.c (k := 1) rfl
            have ff0 := x7.f 0
            have ff1 := x7.f 1
            go_simp
            try go_wp2_with fail
            clear s0 s1 ff0 ff1
            replace o2 := o2.box (k := 0) (v := .int .i64 at7) x7 (by decide)
            replace o7 := o7.box (k := 0) (v := .int .i64 at7) x7 (by decide)
            replace x3 := x3.other (B' := E) (k := 0) (x := .int .i64 at7) (by omega)
            replace x4 := x4.other (B' := E) (k := 0) (x := .int .i64 at7) (by omega)
            replace x5 := x5.other (B' := E) (k := 0) (x := .int .i64 at7) (by omega)
            replace r4 := r4.setB (B := E) 0 (.int .i64 at7) (by omega)
            replace T4 := T4.setOwn (d := E) (o := 0) (by omega) (.int .i64 at7)
            replace x7 := x7.set 0 (.int .i64 at7)
            replace o2 := o2.box (k := 1) (v := .slice A7 l7.length c7) x7 (by decide)
            replace o7 := o7.box (k := 1) (v := .slice A7 l7.length c7) x7 (by decide)
            replace x3 := x3.other (B' := E) (k := 1) (x := .slice A7 l7.length c7) (by omega)
            replace x4 := x4.other (B' := E) (k := 1) (x := .slice A7 l7.length c7) (by omega)
            replace x5 := x5.other (B' := E) (k := 1) (x := .slice A7 l7.length c7) (by omega)
            replace r4 := r4.setB (B := E) 1 (.slice A7 l7.length c7) (by omega)
            replace T4 := T4.setOwn (d := E) (o := 1) (by omega) (.slice A7 l7.length c7)
            replace x7 := x7.set 1 (.slice A7 l7.length c7)
            replace qx30 := x3.c (k := 0) rfl
            replace qx31 := x3.c (k := 1) rfl
            replace qx50 := x5.c (k := 0) rfl
            replace qx51 := x5.c (k := 1) rfl
            refine hK.out _ _ ⟨qx30, qx31, qx50, qx51⟩ (fun hHeld => ?_)
            clear hK K
            try simp only [Act.put, List.setIfInBounds_toArray, List.set_cons_zero, List.set_cons_succ]
            refine wpAnyH_take (i := 14) (oi := { dst := some 8, op := Go.Op.assign (Go.Operand.tmp 38), type := 3, pos := "l3_work.go:132", after := #[{ on := 11, ground := Go.Ground.data }, { on := 13, ground := Go.Ground.chain }, { on := 0, ground := Go.Ground.phase }, { on := 1, ground := Go.Ground.phase }, { on := 2, ground := Go.Ground.phase }, { on := 3, ground := Go.Ground.phase }, { on := 4, ground := Go.Ground.phase }, { on := 5, ground := Go.Ground.phase }, { on := 6, ground := Go.Ground.phase }, { on := 7, ground := Go.Ground.phase }, { on := 8, ground := Go.Ground.phase }, { on := 9, ground := Go.Ground.phase }, { on := 10, ground := Go.Ground.phase }, { on := 11, ground := Go.Ground.phase }, { on := 12, ground := Go.Ground.phase }, { on := 13, ground := Go.Ground.phase }], guard := none }) (v := ?_) rfl (by kernel_rfl) (by kernel_rfl) (by kernel_rfl) (fun _ _ _ h => h) (Or.inl ⟨by rfl, ?hy23_14⟩) (by assumption) ?_
            case hy23_14 => ((intro w hSw; (try dsimp only at hSw); go_simp); try with_reducible rfl)
            try simp only [Act.put, List.setIfInBounds_toArray, List.set_cons_zero, List.set_cons_succ]
            refine wpAnyH_done (by kernel_rfl) ?_ _
            have qx70 := x7.c (k := 0) rfl
            have qx71 := x7.c (k := 1) rfl
            have qf0 := x5.f 0
            have qf1 := x5.f 1
            by_cases hcode : code = 0
            · subst hcode
              replace o7 := o7.lower (base' := w.heap.size) hz6
              clear o2 hHeld
              go_wp2_with fail
              replace o7 := o7.box (k := 0) (v := .int .i64 at7) x5 (by decide)
              replace x3 := x3.other (B' := D) (k := 0) (x := .int .i64 at7) (by omega)
              replace x4 := x4.other (B' := D) (k := 0) (x := .int .i64 at7) (by omega)
              replace x7 := x7.other (B' := D) (k := 0) (x := .int .i64 at7) (by omega)
              replace r4 := r4.setB (B := D) 0 (.int .i64 at7) (by omega)
              replace T4 := T4.setOwn (d := D) (o := 0) (by omega) (.int .i64 at7)
              replace x5 := x5.set 0 (.int .i64 at7)
              replace o7 := o7.box (k := 1) (v := .slice A7 l7.length c7) x5 (by decide)
              replace x3 := x3.other (B' := D) (k := 1) (x := .slice A7 l7.length c7) (by omega)
              replace x4 := x4.other (B' := D) (k := 1) (x := .slice A7 l7.length c7) (by omega)
              replace x7 := x7.other (B' := D) (k := 1) (x := .slice A7 l7.length c7) (by omega)
              replace r4 := r4.setB (B := D) 1 (.slice A7 l7.length c7) (by omega)
              replace T4 := T4.setOwn (d := D) (o := 1) (by omega) (.slice A7 l7.length c7)
              replace x5 := x5.set 1 (.slice A7 l7.length c7)
              go_roundw
              case rel => exact ⟨k - 1, p8, at7, A7, c7, l7, by rw [show ((k - 1 : Nat) : Int) = (k : Int) - 1 by omega], by omega, hat70, hat71, o7, hS7, by omega, x3, x4, x5, by have := HP8.out; have := HPP.out; omega, r4, T4⟩
              case measure => simp [intOf]; omega
            · have hc1 : (code == 0) = false := by simp; exact hcode
              go_wp2_with fail
              go_roundw
              case rel => exact ⟨k - 1, p8, at_, B, cb, lw, by rw [show ((k - 1 : Nat) : Int) = (k : Int) - 1 by omega], by omega, hat0, hat1, o2, HSM.out, by have := HLEN.out; omega, x3, x4, x5, by have := HP8.out; have := HPP.out; omega, r4, T4⟩
              case measure => simp [intOf]; omega
        · skip
          have hED := x5.lt
          have hEg := r4.lt
          replace x3 := x3.alloc (.cells #[.int .i64 0, .slice none 0 0] 29)
          replace x4 := x4.alloc (.cells #[.int .i64 0, .slice none 0 0] 29)
          replace x5 := x5.alloc (.cells #[.int .i64 0, .slice none 0 0] 29)
          replace o2 := o2.alloc (.cells #[.int .i64 0, .slice none 0 0] 29)
          replace r4 := r4.on (bel_alloc (Below.refl _ _) (.cells #[.int .i64 0, .slice none 0 0] 29))
          replace T4 := T4.alloc (.cells #[.int .i64 0, .slice none 0 0] 29)
          replace qx30 := x3.c (k := 0) rfl
          replace qx31 := x3.c (k := 1) rfl
          replace qx50 := x5.c (k := 0) rfl
          replace qx51 := x5.c (k := 1) rfl
          have x7 : BoxC (wy.alloc (.cells #[.int .i64 0, .slice none 0 0] 29)) wy.heap.size 29 #[.int .i64 0, .slice none 0 0] := BoxC.new wy 29 #[.int .i64 0, .slice none 0 0]
          go_simp
          try go_wp2_with fail
          refine hK.out _ _ ⟨qx30, qx31, qx50, qx51⟩ (fun hHeld => ?_)
          clear hK K
          try simp only [Act.put, List.setIfInBounds_toArray, List.set_cons_zero, List.set_cons_succ]
          obtain ⟨E, hE⟩ : ∃ E, wy.heap.size = E := ⟨_, rfl⟩
          rw [hE] at x7 hED hEg
          rw [hE]
          generalize wy.alloc (.cells #[.int .i64 0, .slice none 0 0] 29) = wa at *
          clear hE
          refine wpAnyH_ready (rs := [6]) (by kernel_rfl) (by simp) ?_
          refine (AllReadyH.cons (o := { dst := some 34, op := Go.Op.call { callee := Go.Callee.value (Go.Operand.func 90), args := #[Go.Operand.tmp 31, Go.Operand.tmp 33], argTypes := #[39, 3] }, type := 59, pos := "l3_work.go:132", after := #[{ on := 3, ground := Go.Ground.data }, { on := 5, ground := Go.Ground.data }], guard := none }) rfl (fun K hK => ?_) AllReadyH.nil)
          go_simp
          have hgG := r4.lt
          refine (specAt now A n c lv now _ (HV.out _ T4) (by have := HN.out; omega)).mono ?_
          rintro e w5 ⟨v5, rfl, oR, hb5⟩
          obtain ⟨R, cR, rfl, -, -⟩ := oR.form
          replace x3 := x3.on hb5
          replace x4 := x4.on hb5
          replace x5 := x5.on hb5
          replace x7 := x7.on hb5
          replace o2 := o2.on hb5
          replace r4 := r4.on hb5
          replace T4 := T4.below hb5
          replace qx30 := x3.c (k := 0) rfl
          replace qx31 := x3.c (k := 1) rfl
          replace qx50 := x5.c (k := 0) rfl
          replace qx51 := x5.c (k := 1) rfl
          clear hb5
          go_wp2_with fail
          refine hK.out _ _ ⟨qx30, qx31, qx50, qx51⟩ (fun hHeld => ?_)
          clear hK K
          try simp only [Act.put, List.setIfInBounds_toArray, List.set_cons_zero, List.set_cons_succ]
          refine wpAnyH_ready (rs := [7]) (by kernel_rfl) (by simp) ?_
          refine (AllReadyH.cons (o := { dst := some 35, op := Go.Op.call { callee := Go.Callee.value (Go.Operand.func 114), args := #[Go.Operand.tmp 30, Go.Operand.tmp 34], argTypes := #[124, 59] }, type := 73, pos := "l3_work.go:132", after := #[{ on := 2, ground := Go.Ground.data }, { on := 6, ground := Go.Ground.data }, { on := 6, ground := Go.Ground.chain }], guard := none }) rfl (fun K hK => ?_) AllReadyH.nil)
          go_simp
          refine (l3Write g p' A0 m0 c0 l0 R (atL lv now).length cR (atL lv now) _ r4 (by have := HPP.out; have := HP.out; omega) oR.sl HRL.out (fun x hx => by have := (oR.block hx).1; omega) HRS.out).mono ?_
          rintro e w6 ⟨key, num, gone, p8, rfl, hkey, hp8, r6, t6⟩
          clear oR
          replace x3 := x3.turn t6 (fun x hx => by cases hx; simp only; omega)
          replace x4 := x4.turn t6 (fun x hx => by cases hx; simp only; omega)
          replace x5 := x5.turn t6 (fun x hx => by cases hx; simp only; omega)
          replace x7 := x7.turn t6 (fun x hx => by cases hx; simp only; omega)
          replace o2 := o2.farRd t6 hg
          replace T4 := T4.trans t6
          clear r4
          have r4 := r6
          clear r6 t6
          replace qx30 := x3.c (k := 0) rfl
          replace qx31 := x3.c (k := 1) rfl
          replace qx50 := x5.c (k := 0) rfl
          replace qx51 := x5.c (k := 1) rfl
          have HP8 := Lib.hid hp8
          clear hp8
          go_wp2_with fail
          refine hK.out _ _ ⟨qx30, qx31, qx50, qx51⟩ (fun hHeld => ?_)
          clear hK K
          try simp only [Act.put, List.setIfInBounds_toArray, List.set_cons_zero, List.set_cons_succ]
          refine wpAnyH_ready (rs := [8]) (by kernel_rfl) (by simp) ?_
          refine (AllReadyH.cons (o := { dst := some 36, op := Go.Op.call { callee := Go.Callee.value (Go.Operand.func 113), args := #[Go.Operand.tmp 28, Go.Operand.tmp 29, Go.Operand.tmp 35], argTypes := #[39, 29, 73] }, type := 138, pos := "l3_work.go:132", after := #[{ on := 0, ground := Go.Ground.data }, { on := 1, ground := Go.Ground.data }, { on := 7, ground := Go.Ground.data }, { on := 7, ground := Go.Ground.chain }], guard := none }) rfl (fun K hK => ?_) AllReadyH.nil)
          go_simp
          have hz6 := T4.size
          refine (workPut now A n c lv at_ B lw.length cb lw key num gone _ (HV.out _ T4) HVP.out hat0 hat1 o2.sl HSM.out (by have := HLEN.out; omega) hkey).mono ?_
          rintro e w7 ⟨at7, A7, c7, l7, code, rfl, o7, hS7, hl7, hat70, hat71, hb7⟩
          replace hl7 : l7.length + k ≤ 9 := by have := HLEN.out; omega
          replace x3 := x3.on hb7
          replace x4 := x4.on hb7
          replace x5 := x5.on hb7
          replace x7 := x7.on hb7
          replace o2 := o2.on hb7
          replace r4 := r4.on hb7
          replace T4 := T4.below hb7
          replace qx30 := x3.c (k := 0) rfl
          replace qx31 := x3.c (k := 1) rfl
          replace qx50 := x5.c (k := 0) rfl
          replace qx51 := x5.c (k := 1) rfl
          clear hb7
          go_wp2_with fail
          refine hK.out _ _ ⟨qx30, qx31, qx50, qx51⟩ (fun hHeld => ?_)
          clear hK K
          try simp only [Act.put, List.setIfInBounds_toArray, List.set_cons_zero, List.set_cons_succ]
          refine wpAnyH_take (i := 9) (oi := { dst := some 27, op := Go.Op.move (Go.Operand.tmp 36), type := 138, pos := "l3_work.go:132", after := #[{ on := 8, ground := Go.Ground.data }], guard := none }) (v := ?_) rfl (by kernel_rfl) (by kernel_rfl) (by kernel_rfl) (fun _ _ _ h => h) (Or.inl ⟨by rfl, ?hy24_9⟩) (by assumption) ?_
          case hy24_9 => ((intro w hSw; (try dsimp only at hSw); go_simp); try with_reducible rfl)
          try simp only [Act.put, List.setIfInBounds_toArray, List.set_cons_zero, List.set_cons_succ]
          refine wpAnyH_take (i := 10) (oi := { dst := some 37, op := Go.Op.extract (Go.Operand.tmp 27) 0, type := 29, pos := "l3_work.go:132", after := #[{ on := 9, ground := Go.Ground.data }], guard := none }) (v := ?_) rfl (by kernel_rfl) (by kernel_rfl) (by kernel_rfl) (fun _ _ _ h => h) (Or.inl ⟨by rfl, ?hy24_10⟩) (by assumption) ?_
          case hy24_10 => ((intro w hSw; (try dsimp only at hSw); go_simp); try with_reducible rfl)
          try simp only [Act.put, List.setIfInBounds_toArray, List.set_cons_zero, List.set_cons_succ]
          refine wpAnyH_take (i := 11) (oi := { dst := some 38, op := Go.Op.extract (Go.Operand.tmp 27) 1, type := 3, pos := "l3_work.go:132", after := #[{ on := 9, ground := Go.Ground.data }, { on := 13, ground := Go.Ground.gcOnly Go.Departure.lateStores }], guard := none }) (v := ?_) rfl (by kernel_rfl) (by kernel_rfl) (by kernel_rfl) (fun _ _ _ h => h) (Or.inl ⟨by rfl, ?hy24_11⟩) (by assumption) ?_
          case hy24_11 => ((intro w hSw; (try dsimp only at hSw); go_simp); try with_reducible rfl)
          try simp only [Act.put, List.setIfInBounds_toArray, List.set_cons_zero, List.set_cons_succ]
          refine wpAnyH_ready (rs := [13]) (by kernel_rfl) (by simp) ?_
          refine (AllReadyH.cons (o := { dst := none, op := Go.Op.store 29 (Go.Operand.tmp 7) (Go.Operand.tmp 37), type := 0, pos := "l3_work.go:132", after := #[{ on := 12, ground := Go.Ground.data }, { on := 10, ground := Go.Ground.data }, { on := 8, ground := Go.Ground.chain }, { on := 0, ground := Go.Ground.phase }, { on := 1, ground := Go.Ground.phase }, { on := 2, ground := Go.Ground.phase }, { on := 3, ground := Go.Ground.phase }, { on := 4, ground := Go.Ground.phase }, { on := 5, ground := Go.Ground.phase }, { on := 6, ground := Go.Ground.phase }, { on := 7, ground := Go.Ground.phase }, { on := 8, ground := Go.Ground.phase }, { on := 9, ground := Go.Ground.phase }, { on := 10, ground := Go.Ground.phase }, { on := 11, ground := Go.Ground.textOnly Go.Departure.lateStores }, { on := 12, ground := Go.Ground.phase }], guard := none }) rfl (fun K hK => ?_) AllReadyH.nil)
          have s0 := x7.c (k := 0) rfl
          have s1 := x7.c (k := 1) rfl
          have ff0 := x7.f 0
          have ff1 := x7.f 1
          go_simp
          try go_wp2_with fail
          clear s0 s1 ff0 ff1
          replace o2 := o2.box (k := 0) (v := .int .i64 at7) x7 (by decide)
          replace o7 := o7.box (k := 0) (v := .int .i64 at7) x7 (by decide)
          replace x3 := x3.other (B' := E) (k := 0) (x := .int .i64 at7) (by omega)
          replace x4 := x4.other (B' := E) (k := 0) (x := .int .i64 at7) (by omega)
          replace x5 := x5.other (B' := E) (k := 0) (x := .int .i64 at7) (by omega)
          replace r4 := r4.setB (B := E) 0 (.int .i64 at7) (by omega)
          replace T4 := T4.setOwn (d := E) (o := 0) (by omega) (.int .i64 at7)
          replace x7 := x7.set 0 (.int .i64 at7)
          replace o2 := o2.box (k := 1) (v := .slice A7 l7.length c7) x7 (by decide)
          replace o7 := o7.box (k := 1) (v := .slice A7 l7.length c7) x7 (by decide)
          replace x3 := x3.other (B' := E) (k := 1) (x := .slice A7 l7.length c7) (by omega)
          replace x4 := x4.other (B' := E) (k := 1) (x := .slice A7 l7.length c7) (by omega)
          replace x5 := x5.other (B' := E) (k := 1) (x := .slice A7 l7.length c7) (by omega)
          replace r4 := r4.setB (B := E) 1 (.slice A7 l7.length c7) (by omega)
          replace T4 := T4.setOwn (d := E) (o := 1) (by omega) (.slice A7 l7.length c7)
          replace x7 := x7.set 1 (.slice A7 l7.length c7)
          replace qx30 := x3.c (k := 0) rfl
          replace qx31 := x3.c (k := 1) rfl
          replace qx50 := x5.c (k := 0) rfl
          replace qx51 := x5.c (k := 1) rfl
          refine hK.out _ _ ⟨qx30, qx31, qx50, qx51⟩ (fun hHeld => ?_)
          clear hK K
          try simp only [Act.put, List.setIfInBounds_toArray, List.set_cons_zero, List.set_cons_succ]
          refine wpAnyH_take (i := 14) (oi := { dst := some 8, op := Go.Op.assign (Go.Operand.tmp 38), type := 3, pos := "l3_work.go:132", after := #[{ on := 11, ground := Go.Ground.data }, { on := 13, ground := Go.Ground.chain }, { on := 0, ground := Go.Ground.phase }, { on := 1, ground := Go.Ground.phase }, { on := 2, ground := Go.Ground.phase }, { on := 3, ground := Go.Ground.phase }, { on := 4, ground := Go.Ground.phase }, { on := 5, ground := Go.Ground.phase }, { on := 6, ground := Go.Ground.phase }, { on := 7, ground := Go.Ground.phase }, { on := 8, ground := Go.Ground.phase }, { on := 9, ground := Go.Ground.phase }, { on := 10, ground := Go.Ground.phase }, { on := 11, ground := Go.Ground.phase }, { on := 12, ground := Go.Ground.phase }, { on := 13, ground := Go.Ground.phase }], guard := none }) (v := ?_) rfl (by kernel_rfl) (by kernel_rfl) (by kernel_rfl) (fun _ _ _ h => h) (Or.inl ⟨by rfl, ?hy26_14⟩) (by assumption) ?_
          case hy26_14 => ((intro w hSw; (try dsimp only at hSw); go_simp); try with_reducible rfl)
          try simp only [Act.put, List.setIfInBounds_toArray, List.set_cons_zero, List.set_cons_succ]
          refine wpAnyH_done (by kernel_rfl) ?_ _
          have qx70 := x7.c (k := 0) rfl
          have qx71 := x7.c (k := 1) rfl
          have qf0 := x5.f 0
          have qf1 := x5.f 1
          by_cases hcode : code = 0
          · subst hcode
            replace o7 := o7.lower (base' := w.heap.size) hz6
            clear o2 hHeld
            go_wp2_with fail
            replace o7 := o7.box (k := 0) (v := .int .i64 at7) x5 (by decide)
            replace x3 := x3.other (B' := D) (k := 0) (x := .int .i64 at7) (by omega)
            replace x4 := x4.other (B' := D) (k := 0) (x := .int .i64 at7) (by omega)
            replace x7 := x7.other (B' := D) (k := 0) (x := .int .i64 at7) (by omega)
            replace r4 := r4.setB (B := D) 0 (.int .i64 at7) (by omega)
            replace T4 := T4.setOwn (d := D) (o := 0) (by omega) (.int .i64 at7)
            replace x5 := x5.set 0 (.int .i64 at7)
            replace o7 := o7.box (k := 1) (v := .slice A7 l7.length c7) x5 (by decide)
            replace x3 := x3.other (B' := D) (k := 1) (x := .slice A7 l7.length c7) (by omega)
            replace x4 := x4.other (B' := D) (k := 1) (x := .slice A7 l7.length c7) (by omega)
            replace x7 := x7.other (B' := D) (k := 1) (x := .slice A7 l7.length c7) (by omega)
            replace r4 := r4.setB (B := D) 1 (.slice A7 l7.length c7) (by omega)
            replace T4 := T4.setOwn (d := D) (o := 1) (by omega) (.slice A7 l7.length c7)
            replace x5 := x5.set 1 (.slice A7 l7.length c7)
            go_roundw
            case rel => exact ⟨k - 1, p8, at7, A7, c7, l7, by rw [show ((k - 1 : Nat) : Int) = (k : Int) - 1 by omega], by omega, hat70, hat71, o7, hS7, by omega, x3, x4, x5, by have := HP8.out; have := HPP.out; omega, r4, T4⟩
            case measure => simp [intOf]; omega
          · have hc1 : (code == 0) = false := by simp; exact hcode
            go_wp2_with fail
            go_roundw
            case rel => exact ⟨k - 1, p8, at_, B, cb, lw, by rw [show ((k - 1 : Nat) : Int) = (k : Int) - 1 by omega], by omega, hat0, hat1, o2, HSM.out, by have := HLEN.out; omega, x3, x4, x5, by have := HP8.out; have := HPP.out; omega, r4, T4⟩
            case measure => simp [intOf]; omega
      · have hk0 : k = 0 := by omega
        subst hk0
        have s0 := x4.c (k := 0) rfl
        have s1 := x4.c (k := 1) rfl
        have f0 := x4.f 0
        have f1 := x4.f 1
        have z := (x4.set 0 (.int .i64 at_)).set 1 (.slice B lw.length cb)
        have z0 := z.c (k := 0) rfl
        have z1 := z.c (k := 1) rfl
        have HOO := Lib.hid ((o2.box (k := 0) (v := .int .i64 at_) x4 (by decide)).box (k := 1) (v := .slice B lw.length cb) (x4.set 0 (.int .i64 at_)) (by decide))
        have HRR := Lib.hid ((r4.setB (B := w.heap.size + 1) 0 (.int .i64 at_) (by omega)).setB (B := w.heap.size + 1) 1 (.slice B lw.length cb) (by omega))
        have HTT := Lib.hid ((T4.setOwn (d := w.heap.size + 1) (o := 0) (by omega) (.int .i64 at_)).setOwn (d := w.heap.size + 1) (o := 1) (by omega) (.slice B lw.length cb))
        clear o2 r4 T4
        go_wp2_with fail
        exact bodyPost_ret (v := .agg #[.int .i64 at_, .slice B lw.length cb]) (by simp [results, Try.results112, go_sem, z0, z1]) rfl ⟨at_, B, cb, lw, p', rfl, HOO.out, HSM.out, by have := HLEN.out; omega, hat0, hat1, by have := HPP.out; omega, HRR.out, HTT.out⟩

def DrawWWPost (w : World) (e : Ending) (w' : World) : Prop :=
  ∃ (a1 : Int) (B : Option Addr) (n cb : Nat) (lw : List Write) (a2 : Int) (B2 : Option Addr) (n2 cb2 : Nat) (lw2 : List Write), e = .returned (.tuple #[.agg #[.int .i64 a1, .slice B n cb], .agg #[.int .i64 a2, .slice B2 n2 cb2]]) ∧
    Own encWrite 3 73 w' w.heap.size (.slice B n cb) lw ∧ Own encWrite 3 73 w' w.heap.size (.slice B2 n2 cb2) lw2 ∧ n ≤ 50 ∧ n2 ≤ 50 ∧ Below w.heap.size w w'
set_option maxHeartbeats 20000000 in
set_option maxRecDepth 100000 in
theorem drawWorkSame (A : Option Addr) (n c : Nat) (l : List UInt8) (w : World) (hr : Sl encB w w.heap.size A n l) (hn : n ≤ 1048576) (hc : n ≤ c) :
    Calls Try.prog 62 #[.slice A n c] w (DrawWWPost w) := by
  have HN := Lib.hid hn
  have HC := Lib.hid hc
  clear hn hc
  have xa := (BoxC.new w 29 #[.int .i64 0, .slice none 0 0]).alloc (.cells #[.int .i64 0, .slice none 0 0] 29)
  have xb := BoxC.new (w.alloc (.cells #[.int .i64 0, .slice none 0 0] 29)) 29 #[.int .i64 0, .slice none 0 0]
  simp only [World.size_alloc] at xb
  have b4 := bel_alloc (bel_alloc (Below.refl _ w) (.cells #[.int .i64 0, .slice none 0 0] 29)) (.cells #[.int .i64 0, .slice none 0 0] 29)
  have hz0 : ((w.alloc (.cells #[.int .i64 0, .slice none 0 0] 29)).alloc (.cells #[.int .i64 0, .slice none 0 0] 29)).heap.size = w.heap.size + 2 := by simp
  have hr0 := hr.on b4
  go_enter Try.func62, Try.ntmps62
  go_wp2_with fail
  generalize (w.alloc (.cells #[.int .i64 0, .slice none 0 0] 29)).alloc (.cells #[.int .i64 0, .slice none 0 0] 29) = w0 at *
  refine (l11Open A n c l w0 hr0 HN.out HC.out).mono ?_
  rintro e w1 ⟨A1, m, c1, l1, rfl, r1, hb1⟩
  rw [hz0] at r1
  rw [hz0]
  have r4 := r1
  replace xa := xa.on hb1
  replace xb := xb.on hb1
  replace b4 := bel_trans b4 hb1
  have hg2 := r1.lt
  have hz1 : w.heap.size ≤ w1.heap.size := b4.size
  clear hr0 hr hb1 hz0 r1
  go_wp2_with fail
  refine (l2Some (w.heap.size + 2) 0 A1 m c1 l1 w1 r4 (by omega)).mono ?_
  rintro e w2 ⟨now, B, cb, lv, p2, rfl, o2, hP2, hp2, r2, t2⟩
  replace xa := xa.turn t2 (fun x hx => by cases hx; simp only; omega)
  replace xb := xb.turn t2 (fun x hx => by cases hx; simp only; omega)
  replace b4 := Rd.bel b4 t2 (by omega)
  clear r4
  have r4 := r2
  clear r2 t2
  have HVP := Lib.hid hP2
  have HP : Hid (p2 ≤ 650) := Lib.hid (by omega)
  have HQ : Hid (lv.length ≤ 60 ∧ 0 ≤ now ∧ now ≤ 40) := Lib.hid ⟨hP2.small, hP2.1.1, hP2.1.2.1⟩
  have hRP := at_rowsP hP2 hP2.1.1 (Int.le_refl now)
  have HRL : Hid ((atL lv now).length ≤ 1000) := Lib.hid (by have := hRP.1; omega)
  have HRS : Hid (∀ r ∈ atL lv now, r.1.size ≤ 3) := Lib.hid (fun r hr => by have := hRP.small r hr; omega)
  clear hRP hP2 hp2
  have hD1 := r4.lt
  have hD2 := xb.lt
  have xd := BoxC.new w2 39 #[.int .i64 now, .slice B lv.length cb]
  replace xa := xa.alloc (.cells #[.int .i64 now, .slice B lv.length cb] 39)
  replace xb := xb.alloc (.cells #[.int .i64 now, .slice B lv.length cb] 39)
  replace o2 := o2.alloc (.cells #[.int .i64 now, .slice B lv.length cb] 39)
  replace r4 := r4.on (bel_alloc (Below.refl _ _) (.cells #[.int .i64 now, .slice B lv.length cb] 39))
  replace b4 := bel_alloc b4 (.cells #[.int .i64 now, .slice B lv.length cb] 39)
  have qxd0 := xd.c (k := 0) rfl
  have qxd1 := xd.c (k := 1) rfl
  go_wp2_with fail
  obtain ⟨D, hD⟩ : ∃ D, w2.heap.size = D := ⟨_, rfl⟩
  rw [hD] at xd hD1 hD2 qxd0 qxd1
  rw [hD]
  clear hD
  generalize w2.alloc (.cells #[.int .i64 now, .slice B lv.length cb] 39) = w3 at *
  have hDw := xd.lt
  have hg3 : w.heap.size + 2 < w3.heap.size := by omega
  refine (l3Some (w.heap.size + 2) p2 A1 m c1 l1 now B lv.length cb lv w3 r4 (by have := HP.out; omega) o2.sl HVP.out (fun x hx => by have := (o2.block hx).1; omega)).mono ?_
  rintro e w5 ⟨at_, BW, cw, lw, p3, rfl, o3, hSm, hlen, hat0, hat1, hp3, r5, t5⟩
  have hz3 : w.heap.size ≤ w3.heap.size := b4.size
  replace xa := xa.turn t5 (fun x hx => by cases hx; simp only; omega)
  replace xb := xb.turn t5 (fun x hx => by cases hx; simp only; omega)
  replace xd := xd.turn t5 (fun x hx => by cases hx; simp only; omega)
  replace o2 := o2.farRd t5 hg2
  replace b4 := Rd.bel b4 t5 (by omega)
  clear r4
  have r4 := r5
  clear r5 t5
  replace qxd0 := xd.c (k := 0) rfl
  replace qxd1 := xd.c (k := 1) rfl
  have HSM := Lib.hid hSm
  have HLEN := Lib.hid hlen
  have HP3 : Hid (p3 ≤ 800) := Lib.hid (by have := HP.out; omega)
  clear hSm hlen hp3
  have hF1 := xd.lt
  have hF2 := r4.lt
  have xf := BoxC.new w5 29 #[.int .i64 at_, .slice BW lw.length cw]
  replace xa := xa.alloc (.cells #[.int .i64 at_, .slice BW lw.length cw] 29)
  replace xb := xb.alloc (.cells #[.int .i64 at_, .slice BW lw.length cw] 29)
  replace xd := xd.alloc (.cells #[.int .i64 at_, .slice BW lw.length cw] 29)
  replace o2 := o2.alloc (.cells #[.int .i64 at_, .slice BW lw.length cw] 29)
  replace o3 := o3.alloc (.cells #[.int .i64 at_, .slice BW lw.length cw] 29)
  replace r4 := r4.on (bel_alloc (Below.refl _ _) (.cells #[.int .i64 at_, .slice BW lw.length cw] 29))
  replace b4 := bel_alloc b4 (.cells #[.int .i64 at_, .slice BW lw.length cw] 29)
  replace qxd0 := xd.c (k := 0) rfl
  replace qxd1 := xd.c (k := 1) rfl
  have qxf0 := xf.c (k := 0) rfl
  have qxf1 := xf.c (k := 1) rfl
  go_wp2_with fail
  obtain ⟨FF, hFF⟩ : ∃ FF, w5.heap.size = FF := ⟨_, rfl⟩
  rw [hFF] at xf hF1 hF2 qxf0 qxf1
  rw [hFF]
  clear hFF
  generalize w5.alloc (.cells #[.int .i64 at_, .slice BW lw.length cw] 29) = w6 at *
  refine (pick (w.heap.size + 2) p3 2 A1 m c1 l1 w6 r4 (by omega) (by omega) (by have := HP3.out; omega)).mono ?_
  rintro e w7 ⟨v, rfl, hv, r5, t5⟩
  replace xa := xa.turn t5 (fun x hx => by cases hx; simp only; omega)
  replace xb := xb.turn t5 (fun x hx => by cases hx; simp only; omega)
  replace xd := xd.turn t5 (fun x hx => by cases hx; simp only; omega)
  replace xf := xf.turn t5 (fun x hx => by cases hx; simp only; omega)
  replace o2 := o2.farRd t5 hg2
  replace o3 := o3.farRd t5 hg3
  replace b4 := Rd.bel b4 t5 (by omega)
  clear r4
  have r4 := r5
  clear r5 t5
  replace qxd0 := xd.c (k := 0) rfl
  replace qxd1 := xd.c (k := 1) rfl
  replace qxf0 := xf.c (k := 0) rfl
  replace qxf1 := xf.c (k := 1) rfl
  by_cases hv0 : v = 0
  · subst hv0
    go_wp2_with fail
    refine wp_region_held_drew (S := (fun W' => W'.cell? ⟨D, 0, none⟩ = some (.int .i64 now) ∧ W'.cell? ⟨D, 1, none⟩ = some (.slice B lv.length cb) ∧ W'.cell? ⟨FF, 0, none⟩ = some (.int .i64 at_) ∧ W'.cell? ⟨FF, 1, none⟩ = some (.slice BW lw.length cw))) (by kernel_rfl) ⟨qxd0, qxd1, qxf0, qxf1⟩ (fun hHeld => ?_)
    replace xa := xa.drew
    replace xb := xb.drew
    replace xd := xd.drew
    replace xf := xf.drew
    replace o2 := o2.drew
    replace o3 := o3.drew
    replace r4 := r4.drew
    replace b4 := b4.drew
    replace qxd0 := xd.c (k := 0) rfl
    replace qxd1 := xd.c (k := 1) rfl
    replace qxf0 := xf.c (k := 0) rfl
    replace qxf1 := xf.c (k := 1) rfl
    generalize w7.drew = wy at *
    refine wpAnyH_take (i := 0) (oi := { dst := some 20, op := Go.Op.load 39 (Go.Operand.tmp 5), type := 39, pos := "l3_work.go:199", after := #[], guard := none }) (v := ?_) rfl (by kernel_rfl) (by kernel_rfl) (by kernel_rfl) (fun _ _ _ h => h) (Or.inl ⟨by rfl, ?hy1_0⟩) (by assumption) ?_
    case hy1_0 => ((intro w hSw; (try dsimp only at hSw); go_simp); try with_reducible rfl)
    try simp only [Act.put, List.setIfInBounds_toArray, List.set_cons_zero, List.set_cons_succ]
    refine wpAnyH_take (i := 1) (oi := { dst := some 21, op := Go.Op.load 29 (Go.Operand.tmp 6), type := 29, pos := "l3_work.go:199", after := #[], guard := none }) (v := ?_) rfl (by kernel_rfl) (by kernel_rfl) (by kernel_rfl) (fun _ _ _ h => h) (Or.inl ⟨by rfl, ?hy1_1⟩) (by assumption) ?_
    case hy1_1 => ((intro w hSw; (try dsimp only at hSw); go_simp); try with_reducible rfl)
    try simp only [Act.put, List.setIfInBounds_toArray, List.set_cons_zero, List.set_cons_succ]
    refine wpAnyH_take (i := 2) (oi := { dst := some 22, op := Go.Op.move (Go.Operand.tmp 4), type := 124, pos := "l3_work.go:199", after := #[], guard := none }) (v := ?_) rfl (by kernel_rfl) (by kernel_rfl) (by kernel_rfl) (fun _ _ _ h => h) (Or.inl ⟨by rfl, ?hy1_2⟩) (by assumption) ?_
    case hy1_2 => ((intro w hSw; (try dsimp only at hSw); go_simp); try with_reducible rfl)
    try simp only [Act.put, List.setIfInBounds_toArray, List.set_cons_zero, List.set_cons_succ]
    refine wpAnyH_take (i := 3) (oi := { dst := some 23, op := Go.Op.load 39 (Go.Operand.tmp 5), type := 39, pos := "l3_work.go:199", after := #[], guard := none }) (v := ?_) rfl (by kernel_rfl) (by kernel_rfl) (by kernel_rfl) (fun _ _ _ h => h) (Or.inl ⟨by rfl, ?hy1_3⟩) (by assumption) ?_
    case hy1_3 => ((intro w hSw; (try dsimp only at hSw); go_simp); try with_reducible rfl)
    try simp only [Act.put, List.setIfInBounds_toArray, List.set_cons_zero, List.set_cons_succ]
    refine wpAnyH_take (i := 4) (oi := { dst := some 24, op := Go.Op.fieldAddr 39 (Go.Operand.tmp 5) 0, type := 0, pos := "l3_work.go:199", after := #[], guard := none }) (v := ?_) rfl (by kernel_rfl) (by kernel_rfl) (by kernel_rfl) (fun _ _ _ h => h) (Or.inl ⟨by rfl, ?hy1_4⟩) (by assumption) ?_
    case hy1_4 => ((intro w hSw; (try dsimp only at hSw); go_simp); try with_reducible rfl)
    try simp only [Act.put, List.setIfInBounds_toArray, List.set_cons_zero, List.set_cons_succ]
    refine wpAnyH_take (i := 5) (oi := { dst := some 25, op := Go.Op.load 3 (Go.Operand.tmp 24), type := 3, pos := "l3_work.go:199", after := #[{ on := 4, ground := Go.Ground.data }], guard := none }) (v := ?_) rfl (by kernel_rfl) (by kernel_rfl) (by kernel_rfl) (fun _ _ _ h => h) (Or.inl ⟨by rfl, ?hy1_5⟩) (by assumption) ?_
    case hy1_5 => ((intro w hSw; (try dsimp only at hSw); go_simp); try with_reducible rfl)
    try simp only [Act.put, List.setIfInBounds_toArray, List.set_cons_zero, List.set_cons_succ]
    refine wpAnyH_ready (rs := [6, 12]) (by kernel_rfl) (by simp) ?_
    refine (AllReadyH.cons (o := { dst := some 26, op := Go.Op.call { callee := Go.Callee.value (Go.Operand.func 90), args := #[Go.Operand.tmp 23, Go.Operand.tmp 25], argTypes := #[39, 3] }, type := 59, pos := "l3_work.go:199", after := #[{ on := 3, ground := Go.Ground.data }, { on := 5, ground := Go.Ground.data }], guard := none }) rfl (fun K hK => ?_) (AllReadyH.cons (o := { dst := some 7, op := Go.Op.alloc 29, type := 0, pos := "l3_work.go:199", after := #[], guard := none }) rfl (fun K hK => ?_) AllReadyH.nil))
    · skip
      go_simp
      have hgG := r4.lt
      refine (specAt now B lv.length cb lv now _ o2.sl (by have := HQ.out; omega)).mono ?_
      rintro e w8 ⟨v5, rfl, oR, hb5⟩
      obtain ⟨R, cR, rfl, -, -⟩ := oR.form
      replace xa := xa.on hb5
      replace xb := xb.on hb5
      replace xd := xd.on hb5
      replace xf := xf.on hb5
      replace o2 := o2.on hb5
      replace o3 := o3.on hb5
      replace r4 := r4.on hb5
      replace b4 := bel_trans b4 hb5
      replace qxd0 := xd.c (k := 0) rfl
      replace qxd1 := xd.c (k := 1) rfl
      replace qxf0 := xf.c (k := 0) rfl
      replace qxf1 := xf.c (k := 1) rfl
      clear hb5
      go_wp2_with fail
      refine hK.out _ _ ⟨qxd0, qxd1, qxf0, qxf1⟩ (fun hHeld => ?_)
      clear hK K
      try simp only [Act.put, List.setIfInBounds_toArray, List.set_cons_zero, List.set_cons_succ]
      refine wpAnyH_ready (rs := [7, 12]) (by kernel_rfl) (by simp) ?_
      refine (AllReadyH.cons (o := { dst := some 27, op := Go.Op.call { callee := Go.Callee.value (Go.Operand.func 114), args := #[Go.Operand.tmp 22, Go.Operand.tmp 26], argTypes := #[124, 59] }, type := 73, pos := "l3_work.go:199", after := #[{ on := 2, ground := Go.Ground.data }, { on := 6, ground := Go.Ground.data }, { on := 6, ground := Go.Ground.chain }], guard := none }) rfl (fun K hK => ?_) (AllReadyH.cons (o := { dst := some 7, op := Go.Op.alloc 29, type := 0, pos := "l3_work.go:199", after := #[], guard := none }) rfl (fun K hK => ?_) AllReadyH.nil))
      · skip
        go_simp
        refine (l3Write (w.heap.size + 2) (p3 + 1) A1 m c1 l1 R (atL lv now).length cR (atL lv now) _ r4 (by have := HP3.out; omega) oR.sl HRL.out (fun x hx => by have := (oR.block hx).1; omega) HRS.out).mono ?_
        rintro e w9 ⟨key, num, gone, p8, rfl, hkey, -, r6, t6⟩
        clear oR
        replace xa := xa.turn t6 (fun x hx => by cases hx; simp only; omega)
        replace xb := xb.turn t6 (fun x hx => by cases hx; simp only; omega)
        replace xd := xd.turn t6 (fun x hx => by cases hx; simp only; omega)
        replace xf := xf.turn t6 (fun x hx => by cases hx; simp only; omega)
        replace o2 := o2.farRd t6 hg2
        replace o3 := o3.farRd t6 hg3
        replace b4 := Rd.bel b4 t6 (by omega)
        clear r4
        have r4 := r6
        clear r6 t6
        replace qxd0 := xd.c (k := 0) rfl
        replace qxd1 := xd.c (k := 1) rfl
        replace qxf0 := xf.c (k := 0) rfl
        replace qxf1 := xf.c (k := 1) rfl
        go_wp2_with fail
        refine hK.out _ _ ⟨qxd0, qxd1, qxf0, qxf1⟩ (fun hHeld => ?_)
        clear hK K
        try simp only [Act.put, List.setIfInBounds_toArray, List.set_cons_zero, List.set_cons_succ]
        refine wpAnyH_ready (rs := [8, 12]) (by kernel_rfl) (by simp) ?_
        refine (AllReadyH.cons (o := { dst := some 28, op := Go.Op.call { callee := Go.Callee.value (Go.Operand.func 113), args := #[Go.Operand.tmp 20, Go.Operand.tmp 21, Go.Operand.tmp 27], argTypes := #[39, 29, 73] }, type := 138, pos := "l3_work.go:199", after := #[{ on := 0, ground := Go.Ground.data }, { on := 1, ground := Go.Ground.data }, { on := 7, ground := Go.Ground.data }, { on := 7, ground := Go.Ground.chain }], guard := none }) rfl (fun K hK => ?_) (AllReadyH.cons (o := { dst := some 7, op := Go.Op.alloc 29, type := 0, pos := "l3_work.go:199", after := #[], guard := none }) rfl (fun K hK => ?_) AllReadyH.nil))
        · skip
          go_simp
          have hz6 := b4.size
          refine (workPut now B lv.length cb lv at_ BW lw.length cw lw key num gone _ o2.sl HVP.out hat0 hat1 o3.sl HSM.out (by have := HLEN.out; omega) hkey).mono ?_
          rintro e w10 ⟨at7, A7, c7, l7, code, rfl, o7, hS7, hl7, hat70, hat71, hb7⟩
          replace xa := xa.on hb7
          replace xb := xb.on hb7
          replace xd := xd.on hb7
          replace xf := xf.on hb7
          replace o2 := o2.on hb7
          replace o3 := o3.on hb7
          replace r4 := r4.on hb7
          replace b4 := bel_trans b4 hb7
          replace qxd0 := xd.c (k := 0) rfl
          replace qxd1 := xd.c (k := 1) rfl
          replace qxf0 := xf.c (k := 0) rfl
          replace qxf1 := xf.c (k := 1) rfl
          clear hb7
          go_wp2_with fail
          refine hK.out _ _ ⟨qxd0, qxd1, qxf0, qxf1⟩ (fun hHeld => ?_)
          clear hK K
          try simp only [Act.put, List.setIfInBounds_toArray, List.set_cons_zero, List.set_cons_succ]
          refine wpAnyH_take (i := 9) (oi := { dst := some 19, op := Go.Op.move (Go.Operand.tmp 28), type := 138, pos := "l3_work.go:199", after := #[{ on := 8, ground := Go.Ground.data }], guard := none }) (v := ?_) rfl (by kernel_rfl) (by kernel_rfl) (by kernel_rfl) (fun _ _ _ h => h) (Or.inl ⟨by rfl, ?hy2_9⟩) (by assumption) ?_
          case hy2_9 => ((intro w hSw; (try dsimp only at hSw); go_simp); try with_reducible rfl)
          try simp only [Act.put, List.setIfInBounds_toArray, List.set_cons_zero, List.set_cons_succ]
          refine wpAnyH_take (i := 10) (oi := { dst := some 29, op := Go.Op.extract (Go.Operand.tmp 19) 0, type := 29, pos := "l3_work.go:199", after := #[{ on := 9, ground := Go.Ground.data }], guard := none }) (v := ?_) rfl (by kernel_rfl) (by kernel_rfl) (by kernel_rfl) (fun _ _ _ h => h) (Or.inl ⟨by rfl, ?hy2_10⟩) (by assumption) ?_
          case hy2_10 => ((intro w hSw; (try dsimp only at hSw); go_simp); try with_reducible rfl)
          try simp only [Act.put, List.setIfInBounds_toArray, List.set_cons_zero, List.set_cons_succ]
          refine wpAnyH_take (i := 11) (oi := { dst := some 30, op := Go.Op.extract (Go.Operand.tmp 19) 1, type := 3, pos := "l3_work.go:199", after := #[{ on := 9, ground := Go.Ground.data }, { on := 13, ground := Go.Ground.gcOnly Go.Departure.lateStores }], guard := none }) (v := ?_) rfl (by kernel_rfl) (by kernel_rfl) (by kernel_rfl) (fun _ _ _ h => h) (Or.inl ⟨by rfl, ?hy2_11⟩) (by assumption) ?_
          case hy2_11 => ((intro w hSw; (try dsimp only at hSw); go_simp); try with_reducible rfl)
          try simp only [Act.put, List.setIfInBounds_toArray, List.set_cons_zero, List.set_cons_succ]
          refine wpAnyH_ready (rs := [12]) (by kernel_rfl) (by simp) ?_
          refine (AllReadyH.cons (o := { dst := some 7, op := Go.Op.alloc 29, type := 0, pos := "l3_work.go:199", after := #[], guard := none }) rfl (fun K hK => ?_) AllReadyH.nil)
          have hEF := xf.lt
          have hEg := r4.lt
          replace xa := xa.alloc (.cells #[.int .i64 0, .slice none 0 0] 29)
          replace xb := xb.alloc (.cells #[.int .i64 0, .slice none 0 0] 29)
          replace xd := xd.alloc (.cells #[.int .i64 0, .slice none 0 0] 29)
          replace xf := xf.alloc (.cells #[.int .i64 0, .slice none 0 0] 29)
          replace o2 := o2.alloc (.cells #[.int .i64 0, .slice none 0 0] 29)
          replace o3 := o3.alloc (.cells #[.int .i64 0, .slice none 0 0] 29)
          replace o7 := o7.alloc (.cells #[.int .i64 0, .slice none 0 0] 29)
          replace r4 := r4.on (bel_alloc (Below.refl _ _) (.cells #[.int .i64 0, .slice none 0 0] 29))
          replace b4 := bel_alloc b4 (.cells #[.int .i64 0, .slice none 0 0] 29)
          replace qxd0 := xd.c (k := 0) rfl
          replace qxd1 := xd.c (k := 1) rfl
          replace qxf0 := xf.c (k := 0) rfl
          replace qxf1 := xf.c (k := 1) rfl
          have xe : BoxC (w10.alloc (.cells #[.int .i64 0, .slice none 0 0] 29)) w10.heap.size 29 #[.int .i64 0, .slice none 0 0] := BoxC.new w10 29 #[.int .i64 0, .slice none 0 0]
          go_simp
          try go_wp2_with fail
          refine hK.out _ _ ⟨qxd0, qxd1, qxf0, qxf1⟩ (fun hHeld => ?_)
          clear hK K
          try simp only [Act.put, List.setIfInBounds_toArray, List.set_cons_zero, List.set_cons_succ]
          obtain ⟨E, hE⟩ : ∃ E, w10.heap.size = E := ⟨_, rfl⟩
          rw [hE] at xe hEF hEg
          rw [hE]
          generalize w10.alloc (.cells #[.int .i64 0, .slice none 0 0] 29) = wa at *
          clear hE
          refine wpAnyH_ready (rs := [13]) (by kernel_rfl) (by simp) ?_
          refine (AllReadyH.cons (o := { dst := none, op := Go.Op.store 29 (Go.Operand.tmp 7) (Go.Operand.tmp 29), type := 0, pos := "l3_work.go:199", after := #[{ on := 12, ground := Go.Ground.data }, { on := 10, ground := Go.Ground.data }, { on := 8, ground := Go.Ground.chain }, { on := 0, ground := Go.Ground.phase }, { on := 1, ground := Go.Ground.phase }, { on := 2, ground := Go.Ground.phase }, { on := 3, ground := Go.Ground.phase }, { on := 4, ground := Go.Ground.phase }, { on := 5, ground := Go.Ground.phase }, { on := 6, ground := Go.Ground.phase }, { on := 7, ground := Go.Ground.phase }, { on := 8, ground := Go.Ground.phase }, { on := 9, ground := Go.Ground.phase }, { on := 10, ground := Go.Ground.phase }, { on := 11, ground := Go.Ground.textOnly Go.Departure.lateStores }, { on := 12, ground := Go.Ground.phase }], guard := none }) rfl (fun K hK => ?_) AllReadyH.nil)
          have s0 := xe.c (k := 0) rfl
          have s1 := xe.c (k := 1) rfl
          have f0 := xe.f 0
          have f1 := xe.f 1
          go_simp
          try go_wp2_with fail
          clear s0 s1 f0 f1
          replace o2 := o2.box (k := 0) (v := .int .i64 at7) xe (by decide)
          replace o3 := o3.box (k := 0) (v := .int .i64 at7) xe (by decide)
          replace o7 := o7.box (k := 0) (v := .int .i64 at7) xe (by decide)
          replace xa := xa.other (B' := E) (k := 0) (x := .int .i64 at7) (by omega)
          replace xb := xb.other (B' := E) (k := 0) (x := .int .i64 at7) (by omega)
          replace xd := xd.other (B' := E) (k := 0) (x := .int .i64 at7) (by omega)
          replace xf := xf.other (B' := E) (k := 0) (x := .int .i64 at7) (by omega)
          replace b4 := bel_set b4 (p := ⟨E, 0, none⟩) (by simp only; omega) (.int .i64 at7)
          replace xe := xe.set 0 (.int .i64 at7)
          replace o2 := o2.box (k := 1) (v := .slice A7 l7.length c7) xe (by decide)
          replace o3 := o3.box (k := 1) (v := .slice A7 l7.length c7) xe (by decide)
          replace o7 := o7.box (k := 1) (v := .slice A7 l7.length c7) xe (by decide)
          replace xa := xa.other (B' := E) (k := 1) (x := .slice A7 l7.length c7) (by omega)
          replace xb := xb.other (B' := E) (k := 1) (x := .slice A7 l7.length c7) (by omega)
          replace xd := xd.other (B' := E) (k := 1) (x := .slice A7 l7.length c7) (by omega)
          replace xf := xf.other (B' := E) (k := 1) (x := .slice A7 l7.length c7) (by omega)
          replace b4 := bel_set b4 (p := ⟨E, 1, none⟩) (by simp only; omega) (.slice A7 l7.length c7)
          replace xe := xe.set 1 (.slice A7 l7.length c7)
          replace qxd0 := xd.c (k := 0) rfl
          replace qxd1 := xd.c (k := 1) rfl
          replace qxf0 := xf.c (k := 0) rfl
          replace qxf1 := xf.c (k := 1) rfl
          refine hK.out _ _ ⟨qxd0, qxd1, qxf0, qxf1⟩ (fun hHeld => ?_)
          clear hK K
          try simp only [Act.put, List.setIfInBounds_toArray, List.set_cons_zero, List.set_cons_succ]
          refine wpAnyH_take (i := 14) (oi := { dst := some 8, op := Go.Op.assign (Go.Operand.tmp 30), type := 3, pos := "l3_work.go:199", after := #[{ on := 11, ground := Go.Ground.data }, { on := 13, ground := Go.Ground.chain }, { on := 0, ground := Go.Ground.phase }, { on := 1, ground := Go.Ground.phase }, { on := 2, ground := Go.Ground.phase }, { on := 3, ground := Go.Ground.phase }, { on := 4, ground := Go.Ground.phase }, { on := 5, ground := Go.Ground.phase }, { on := 6, ground := Go.Ground.phase }, { on := 7, ground := Go.Ground.phase }, { on := 8, ground := Go.Ground.phase }, { on := 9, ground := Go.Ground.phase }, { on := 10, ground := Go.Ground.phase }, { on := 11, ground := Go.Ground.phase }, { on := 12, ground := Go.Ground.phase }, { on := 13, ground := Go.Ground.phase }], guard := none }) (v := ?_) rfl (by kernel_rfl) (by kernel_rfl) (by kernel_rfl) (fun _ _ _ h => h) (Or.inl ⟨by rfl, ?hy4_14⟩) (by assumption) ?_
          case hy4_14 => ((intro w hSw; (try dsimp only at hSw); go_simp); try with_reducible rfl)
          try simp only [Act.put, List.setIfInBounds_toArray, List.set_cons_zero, List.set_cons_succ]
          refine wpAnyH_done (by kernel_rfl) ?_ _
          generalize (wa.setCell ⟨E, 0, none⟩ (.int .i64 at7)).setCell ⟨E, 1, none⟩ (.slice A7 l7.length c7) = wz at *
          have qxe0 := xe.c (k := 0) rfl
          have qxe1 := xe.c (k := 1) rfl
          go_wp2_with fail
          refine wp_region_held_drew (S := (fun W' => W'.cell? ⟨FF, 0, none⟩ = some (.int .i64 at_) ∧ W'.cell? ⟨FF, 1, none⟩ = some (.slice BW lw.length cw) ∧ W'.cell? ⟨E, 0, none⟩ = some (.int .i64 at7) ∧ W'.cell? ⟨E, 1, none⟩ = some (.slice A7 l7.length c7))) (by kernel_rfl) ⟨qxf0, qxf1, qxe0, qxe1⟩ (fun hHeld => ?_)
          replace xa := xa.drew
          replace xb := xb.drew
          replace xd := xd.drew
          replace xf := xf.drew
          replace xe := xe.drew
          replace o2 := o2.drew
          replace o3 := o3.drew
          replace o7 := o7.drew
          replace b4 := b4.drew
          replace qxf0 := xf.c (k := 0) rfl
          replace qxf1 := xf.c (k := 1) rfl
          replace qxe0 := xe.c (k := 0) rfl
          replace qxe1 := xe.c (k := 1) rfl
          generalize wz.drew = wt at *
          refine wpAnyH_take (i := 0) (oi := { dst := some 31, op := Go.Op.load 29 (Go.Operand.tmp 6), type := 29, pos := "l3_work.go:200", after := #[], guard := none }) (v := ?_) rfl (by kernel_rfl) (by kernel_rfl) (by kernel_rfl) (fun _ _ _ h => h) (Or.inl ⟨by rfl, ?hy5_0⟩) (by assumption) ?_
          case hy5_0 => ((intro w hSw; (try dsimp only at hSw); go_simp); try with_reducible rfl)
          try simp only [Act.put, List.setIfInBounds_toArray, List.set_cons_zero, List.set_cons_succ]
          refine wpAnyH_take (i := 1) (oi := { dst := some 32, op := Go.Op.load 29 (Go.Operand.tmp 7), type := 29, pos := "l3_work.go:200", after := #[{ on := 2, ground := Go.Ground.gcOnly Go.Departure.lateStores }], guard := none }) (v := ?_) rfl (by kernel_rfl) (by kernel_rfl) (by kernel_rfl) (fun _ _ _ h => h) (Or.inl ⟨by rfl, ?hy5_1⟩) (by assumption) ?_
          case hy5_1 => ((intro w hSw; (try dsimp only at hSw); go_simp); try with_reducible rfl)
          try simp only [Act.put, List.setIfInBounds_toArray, List.set_cons_zero, List.set_cons_succ]
          refine wpAnyH_ready (rs := [2]) (by kernel_rfl) (by simp) ?_
          refine (AllReadyH.cons (o := { dst := none, op := Go.Op.store 29 (Go.Operand.tmp 2) (Go.Operand.tmp 31), type := 0, pos := "l3_work.go:200", after := #[{ on := 0, ground := Go.Ground.data }, { on := 0, ground := Go.Ground.phase }, { on := 1, ground := Go.Ground.textOnly Go.Departure.lateStores }], guard := none }) rfl (fun K hK => ?_) AllReadyH.nil)
          have s0 := xa.c (k := 0) rfl
          have s1 := xa.c (k := 1) rfl
          have f0 := xa.f 0
          have f1 := xa.f 1
          go_simp
          try go_wp2_with fail
          clear s0 s1 f0 f1
          replace o2 := o2.box (k := 0) (v := .int .i64 at_) xa (by decide)
          replace o3 := o3.box (k := 0) (v := .int .i64 at_) xa (by decide)
          replace o7 := o7.box (k := 0) (v := .int .i64 at_) xa (by decide)
          replace xb := xb.other (B' := w.heap.size) (k := 0) (x := .int .i64 at_) (by omega)
          replace xd := xd.other (B' := w.heap.size) (k := 0) (x := .int .i64 at_) (by omega)
          replace xf := xf.other (B' := w.heap.size) (k := 0) (x := .int .i64 at_) (by omega)
          replace xe := xe.other (B' := w.heap.size) (k := 0) (x := .int .i64 at_) (by omega)
          replace b4 := bel_set b4 (p := ⟨w.heap.size, 0, none⟩) (by simp only; omega) (.int .i64 at_)
          replace xa := xa.set 0 (.int .i64 at_)
          replace o2 := o2.box (k := 1) (v := .slice BW lw.length cw) xa (by decide)
          replace o3 := o3.box (k := 1) (v := .slice BW lw.length cw) xa (by decide)
          replace o7 := o7.box (k := 1) (v := .slice BW lw.length cw) xa (by decide)
          replace xb := xb.other (B' := w.heap.size) (k := 1) (x := .slice BW lw.length cw) (by omega)
          replace xd := xd.other (B' := w.heap.size) (k := 1) (x := .slice BW lw.length cw) (by omega)
          replace xf := xf.other (B' := w.heap.size) (k := 1) (x := .slice BW lw.length cw) (by omega)
          replace xe := xe.other (B' := w.heap.size) (k := 1) (x := .slice BW lw.length cw) (by omega)
          replace b4 := bel_set b4 (p := ⟨w.heap.size, 1, none⟩) (by simp only; omega) (.slice BW lw.length cw)
          replace xa := xa.set 1 (.slice BW lw.length cw)
          replace qxf0 := xf.c (k := 0) rfl
          replace qxf1 := xf.c (k := 1) rfl
          replace qxe0 := xe.c (k := 0) rfl
          replace qxe1 := xe.c (k := 1) rfl
          refine hK.out _ _ ⟨qxf0, qxf1, qxe0, qxe1⟩ (fun hHeld => ?_)
          clear hK K
          try simp only [Act.put, List.setIfInBounds_toArray, List.set_cons_zero, List.set_cons_succ]
          refine wpAnyH_ready (rs := [3]) (by kernel_rfl) (by simp) ?_
          refine (AllReadyH.cons (o := { dst := none, op := Go.Op.store 29 (Go.Operand.tmp 3) (Go.Operand.tmp 32), type := 0, pos := "l3_work.go:200", after := #[{ on := 1, ground := Go.Ground.data }, { on := 2, ground := Go.Ground.chain }, { on := 0, ground := Go.Ground.phase }, { on := 1, ground := Go.Ground.phase }, { on := 2, ground := Go.Ground.phase }], guard := none }) rfl (fun K hK => ?_) AllReadyH.nil)
          have s0 := xb.c (k := 0) rfl
          have s1 := xb.c (k := 1) rfl
          have f0 := xb.f 0
          have f1 := xb.f 1
          go_simp
          try go_wp2_with fail
          clear s0 s1 f0 f1
          replace o2 := o2.box (k := 0) (v := .int .i64 at7) xb (by decide)
          replace o3 := o3.box (k := 0) (v := .int .i64 at7) xb (by decide)
          replace o7 := o7.box (k := 0) (v := .int .i64 at7) xb (by decide)
          replace xa := xa.other (B' := (w.heap.size + 1)) (k := 0) (x := .int .i64 at7) (by omega)
          replace xd := xd.other (B' := (w.heap.size + 1)) (k := 0) (x := .int .i64 at7) (by omega)
          replace xf := xf.other (B' := (w.heap.size + 1)) (k := 0) (x := .int .i64 at7) (by omega)
          replace xe := xe.other (B' := (w.heap.size + 1)) (k := 0) (x := .int .i64 at7) (by omega)
          replace b4 := bel_set b4 (p := ⟨(w.heap.size + 1), 0, none⟩) (by simp only; omega) (.int .i64 at7)
          replace xb := xb.set 0 (.int .i64 at7)
          replace o2 := o2.box (k := 1) (v := .slice A7 l7.length c7) xb (by decide)
          replace o3 := o3.box (k := 1) (v := .slice A7 l7.length c7) xb (by decide)
          replace o7 := o7.box (k := 1) (v := .slice A7 l7.length c7) xb (by decide)
          replace xa := xa.other (B' := (w.heap.size + 1)) (k := 1) (x := .slice A7 l7.length c7) (by omega)
          replace xd := xd.other (B' := (w.heap.size + 1)) (k := 1) (x := .slice A7 l7.length c7) (by omega)
          replace xf := xf.other (B' := (w.heap.size + 1)) (k := 1) (x := .slice A7 l7.length c7) (by omega)
          replace xe := xe.other (B' := (w.heap.size + 1)) (k := 1) (x := .slice A7 l7.length c7) (by omega)
          replace b4 := bel_set b4 (p := ⟨(w.heap.size + 1), 1, none⟩) (by simp only; omega) (.slice A7 l7.length c7)
          replace xb := xb.set 1 (.slice A7 l7.length c7)
          replace qxf0 := xf.c (k := 0) rfl
          replace qxf1 := xf.c (k := 1) rfl
          replace qxe0 := xe.c (k := 0) rfl
          replace qxe1 := xe.c (k := 1) rfl
          refine hK.out _ _ ⟨qxf0, qxf1, qxe0, qxe1⟩ (fun hHeld => ?_)
          clear hK K
          try simp only [Act.put, List.setIfInBounds_toArray, List.set_cons_zero, List.set_cons_succ]
          refine wpAnyH_done (by kernel_rfl) ?_ _
          have z0 := xa.c (k := 0) rfl
          have z1 := xa.c (k := 1) rfl
          have z2 := xb.c (k := 0) rfl
          have z3 := xb.c (k := 1) rfl
          have HOA := Lib.hid (o3.lower hz3)
          have HOB := Lib.hid (o7.lower hz6)
          have HBB := Lib.hid b4
          clear o2 o3 o7 b4
          go_wp2_with fail
          exact bodyPost_ret (v := .tuple #[.agg #[.int .i64 at_, .slice BW lw.length cw], .agg #[.int .i64 at7, .slice A7 l7.length c7]]) (by simp [results, Try.results62, go_sem, z0, z1, z2, z3]) rfl ⟨at_, BW, lw.length, cw, lw, at7, A7, l7.length, c7, l7, rfl, HOA.out, HOB.out, by have := HLEN.out; omega, by have := HLEN.out; omega, HBB.out⟩
        · skip
          have hEF := xf.lt
          have hEg := r4.lt
          replace xa := xa.alloc (.cells #[.int .i64 0, .slice none 0 0] 29)
          replace xb := xb.alloc (.cells #[.int .i64 0, .slice none 0 0] 29)
          replace xd := xd.alloc (.cells #[.int .i64 0, .slice none 0 0] 29)
          replace xf := xf.alloc (.cells #[.int .i64 0, .slice none 0 0] 29)
          replace o2 := o2.alloc (.cells #[.int .i64 0, .slice none 0 0] 29)
          replace o3 := o3.alloc (.cells #[.int .i64 0, .slice none 0 0] 29)
          replace r4 := r4.on (bel_alloc (Below.refl _ _) (.cells #[.int .i64 0, .slice none 0 0] 29))
          replace b4 := bel_alloc b4 (.cells #[.int .i64 0, .slice none 0 0] 29)
          replace qxd0 := xd.c (k := 0) rfl
          replace qxd1 := xd.c (k := 1) rfl
          replace qxf0 := xf.c (k := 0) rfl
          replace qxf1 := xf.c (k := 1) rfl
          have xe : BoxC (w9.alloc (.cells #[.int .i64 0, .slice none 0 0] 29)) w9.heap.size 29 #[.int .i64 0, .slice none 0 0] := BoxC.new w9 29 #[.int .i64 0, .slice none 0 0]
          go_simp
          try go_wp2_with fail
          refine hK.out _ _ ⟨qxd0, qxd1, qxf0, qxf1⟩ (fun hHeld => ?_)
          clear hK K
          try simp only [Act.put, List.setIfInBounds_toArray, List.set_cons_zero, List.set_cons_succ]
          obtain ⟨E, hE⟩ : ∃ E, w9.heap.size = E := ⟨_, rfl⟩
          rw [hE] at xe hEF hEg
          rw [hE]
          generalize w9.alloc (.cells #[.int .i64 0, .slice none 0 0] 29) = wa at *
          clear hE
          refine wpAnyH_ready (rs := [8]) (by kernel_rfl) (by simp) ?_
          refine (AllReadyH.cons (o := { dst := some 28, op := Go.Op.call { callee := Go.Callee.value (Go.Operand.func 113), args := #[Go.Operand.tmp 20, Go.Operand.tmp 21, Go.Operand.tmp 27], argTypes := #[39, 29, 73] }, type := 138, pos := "l3_work.go:199", after := #[{ on := 0, ground := Go.Ground.data }, { on := 1, ground := Go.Ground.data }, { on := 7, ground := Go.Ground.data }, { on := 7, ground := Go.Ground.chain }], guard := none }) rfl (fun K hK => ?_) AllReadyH.nil)
          go_simp
          have hz6 := b4.size
          refine (workPut now B lv.length cb lv at_ BW lw.length cw lw key num gone _ o2.sl HVP.out hat0 hat1 o3.sl HSM.out (by have := HLEN.out; omega) hkey).mono ?_
          rintro e w10 ⟨at7, A7, c7, l7, code, rfl, o7, hS7, hl7, hat70, hat71, hb7⟩
          replace xa := xa.on hb7
          replace xb := xb.on hb7
          replace xd := xd.on hb7
          replace xf := xf.on hb7
          replace xe := xe.on hb7
          replace o2 := o2.on hb7
          replace o3 := o3.on hb7
          replace r4 := r4.on hb7
          replace b4 := bel_trans b4 hb7
          replace qxd0 := xd.c (k := 0) rfl
          replace qxd1 := xd.c (k := 1) rfl
          replace qxf0 := xf.c (k := 0) rfl
          replace qxf1 := xf.c (k := 1) rfl
          clear hb7
          go_wp2_with fail
          refine hK.out _ _ ⟨qxd0, qxd1, qxf0, qxf1⟩ (fun hHeld => ?_)
          clear hK K
          try simp only [Act.put, List.setIfInBounds_toArray, List.set_cons_zero, List.set_cons_succ]
          refine wpAnyH_take (i := 9) (oi := { dst := some 19, op := Go.Op.move (Go.Operand.tmp 28), type := 138, pos := "l3_work.go:199", after := #[{ on := 8, ground := Go.Ground.data }], guard := none }) (v := ?_) rfl (by kernel_rfl) (by kernel_rfl) (by kernel_rfl) (fun _ _ _ h => h) (Or.inl ⟨by rfl, ?hy6_9⟩) (by assumption) ?_
          case hy6_9 => ((intro w hSw; (try dsimp only at hSw); go_simp); try with_reducible rfl)
          try simp only [Act.put, List.setIfInBounds_toArray, List.set_cons_zero, List.set_cons_succ]
          refine wpAnyH_take (i := 10) (oi := { dst := some 29, op := Go.Op.extract (Go.Operand.tmp 19) 0, type := 29, pos := "l3_work.go:199", after := #[{ on := 9, ground := Go.Ground.data }], guard := none }) (v := ?_) rfl (by kernel_rfl) (by kernel_rfl) (by kernel_rfl) (fun _ _ _ h => h) (Or.inl ⟨by rfl, ?hy6_10⟩) (by assumption) ?_
          case hy6_10 => ((intro w hSw; (try dsimp only at hSw); go_simp); try with_reducible rfl)
          try simp only [Act.put, List.setIfInBounds_toArray, List.set_cons_zero, List.set_cons_succ]
          refine wpAnyH_take (i := 11) (oi := { dst := some 30, op := Go.Op.extract (Go.Operand.tmp 19) 1, type := 3, pos := "l3_work.go:199", after := #[{ on := 9, ground := Go.Ground.data }, { on := 13, ground := Go.Ground.gcOnly Go.Departure.lateStores }], guard := none }) (v := ?_) rfl (by kernel_rfl) (by kernel_rfl) (by kernel_rfl) (fun _ _ _ h => h) (Or.inl ⟨by rfl, ?hy6_11⟩) (by assumption) ?_
          case hy6_11 => ((intro w hSw; (try dsimp only at hSw); go_simp); try with_reducible rfl)
          try simp only [Act.put, List.setIfInBounds_toArray, List.set_cons_zero, List.set_cons_succ]
          refine wpAnyH_ready (rs := [13]) (by kernel_rfl) (by simp) ?_
          refine (AllReadyH.cons (o := { dst := none, op := Go.Op.store 29 (Go.Operand.tmp 7) (Go.Operand.tmp 29), type := 0, pos := "l3_work.go:199", after := #[{ on := 12, ground := Go.Ground.data }, { on := 10, ground := Go.Ground.data }, { on := 8, ground := Go.Ground.chain }, { on := 0, ground := Go.Ground.phase }, { on := 1, ground := Go.Ground.phase }, { on := 2, ground := Go.Ground.phase }, { on := 3, ground := Go.Ground.phase }, { on := 4, ground := Go.Ground.phase }, { on := 5, ground := Go.Ground.phase }, { on := 6, ground := Go.Ground.phase }, { on := 7, ground := Go.Ground.phase }, { on := 8, ground := Go.Ground.phase }, { on := 9, ground := Go.Ground.phase }, { on := 10, ground := Go.Ground.phase }, { on := 11, ground := Go.Ground.textOnly Go.Departure.lateStores }, { on := 12, ground := Go.Ground.phase }], guard := none }) rfl (fun K hK => ?_) AllReadyH.nil)
          have s0 := xe.c (k := 0) rfl
          have s1 := xe.c (k := 1) rfl
          have f0 := xe.f 0
          have f1 := xe.f 1
          go_simp
          try go_wp2_with fail
          clear s0 s1 f0 f1
          replace o2 := o2.box (k := 0) (v := .int .i64 at7) xe (by decide)
          replace o3 := o3.box (k := 0) (v := .int .i64 at7) xe (by decide)
          replace o7 := o7.box (k := 0) (v := .int .i64 at7) xe (by decide)
          replace xa := xa.other (B' := E) (k := 0) (x := .int .i64 at7) (by omega)
          replace xb := xb.other (B' := E) (k := 0) (x := .int .i64 at7) (by omega)
          replace xd := xd.other (B' := E) (k := 0) (x := .int .i64 at7) (by omega)
          replace xf := xf.other (B' := E) (k := 0) (x := .int .i64 at7) (by omega)
          replace b4 := bel_set b4 (p := ⟨E, 0, none⟩) (by simp only; omega) (.int .i64 at7)
          replace xe := xe.set 0 (.int .i64 at7)
          replace o2 := o2.box (k := 1) (v := .slice A7 l7.length c7) xe (by decide)
          replace o3 := o3.box (k := 1) (v := .slice A7 l7.length c7) xe (by decide)
          replace o7 := o7.box (k := 1) (v := .slice A7 l7.length c7) xe (by decide)
          replace xa := xa.other (B' := E) (k := 1) (x := .slice A7 l7.length c7) (by omega)
          replace xb := xb.other (B' := E) (k := 1) (x := .slice A7 l7.length c7) (by omega)
          replace xd := xd.other (B' := E) (k := 1) (x := .slice A7 l7.length c7) (by omega)
          replace xf := xf.other (B' := E) (k := 1) (x := .slice A7 l7.length c7) (by omega)
          replace b4 := bel_set b4 (p := ⟨E, 1, none⟩) (by simp only; omega) (.slice A7 l7.length c7)
          replace xe := xe.set 1 (.slice A7 l7.length c7)
          replace qxd0 := xd.c (k := 0) rfl
          replace qxd1 := xd.c (k := 1) rfl
          replace qxf0 := xf.c (k := 0) rfl
          replace qxf1 := xf.c (k := 1) rfl
          refine hK.out _ _ ⟨qxd0, qxd1, qxf0, qxf1⟩ (fun hHeld => ?_)
          clear hK K
          try simp only [Act.put, List.setIfInBounds_toArray, List.set_cons_zero, List.set_cons_succ]
          refine wpAnyH_take (i := 14) (oi := { dst := some 8, op := Go.Op.assign (Go.Operand.tmp 30), type := 3, pos := "l3_work.go:199", after := #[{ on := 11, ground := Go.Ground.data }, { on := 13, ground := Go.Ground.chain }, { on := 0, ground := Go.Ground.phase }, { on := 1, ground := Go.Ground.phase }, { on := 2, ground := Go.Ground.phase }, { on := 3, ground := Go.Ground.phase }, { on := 4, ground := Go.Ground.phase }, { on := 5, ground := Go.Ground.phase }, { on := 6, ground := Go.Ground.phase }, { on := 7, ground := Go.Ground.phase }, { on := 8, ground := Go.Ground.phase }, { on := 9, ground := Go.Ground.phase }, { on := 10, ground := Go.Ground.phase }, { on := 11, ground := Go.Ground.phase }, { on := 12, ground := Go.Ground.phase }, { on := 13, ground := Go.Ground.phase }], guard := none }) (v := ?_) rfl (by kernel_rfl) (by kernel_rfl) (by kernel_rfl) (fun _ _ _ h => h) (Or.inl ⟨by rfl, ?hy8_14⟩) (by assumption) ?_
          case hy8_14 => ((intro w hSw; (try dsimp only at hSw); go_simp); try with_reducible rfl)
          try simp only [Act.put, List.setIfInBounds_toArray, List.set_cons_zero, List.set_cons_succ]
          refine wpAnyH_done (by kernel_rfl) ?_ _
          generalize (w10.setCell ⟨E, 0, none⟩ (.int .i64 at7)).setCell ⟨E, 1, none⟩ (.slice A7 l7.length c7) = wz at *
          have qxe0 := xe.c (k := 0) rfl
          have qxe1 := xe.c (k := 1) rfl
          go_wp2_with fail
          refine wp_region_held_drew (S := (fun W' => W'.cell? ⟨FF, 0, none⟩ = some (.int .i64 at_) ∧ W'.cell? ⟨FF, 1, none⟩ = some (.slice BW lw.length cw) ∧ W'.cell? ⟨E, 0, none⟩ = some (.int .i64 at7) ∧ W'.cell? ⟨E, 1, none⟩ = some (.slice A7 l7.length c7))) (by kernel_rfl) ⟨qxf0, qxf1, qxe0, qxe1⟩ (fun hHeld => ?_)
          replace xa := xa.drew
          replace xb := xb.drew
          replace xd := xd.drew
          replace xf := xf.drew
          replace xe := xe.drew
          replace o2 := o2.drew
          replace o3 := o3.drew
          replace o7 := o7.drew
          replace b4 := b4.drew
          replace qxf0 := xf.c (k := 0) rfl
          replace qxf1 := xf.c (k := 1) rfl
          replace qxe0 := xe.c (k := 0) rfl
          replace qxe1 := xe.c (k := 1) rfl
          generalize wz.drew = wt at *
          refine wpAnyH_take (i := 0) (oi := { dst := some 31, op := Go.Op.load 29 (Go.Operand.tmp 6), type := 29, pos := "l3_work.go:200", after := #[], guard := none }) (v := ?_) rfl (by kernel_rfl) (by kernel_rfl) (by kernel_rfl) (fun _ _ _ h => h) (Or.inl ⟨by rfl, ?hy9_0⟩) (by assumption) ?_
          case hy9_0 => ((intro w hSw; (try dsimp only at hSw); go_simp); try with_reducible rfl)
          try simp only [Act.put, List.setIfInBounds_toArray, List.set_cons_zero, List.set_cons_succ]
          refine wpAnyH_take (i := 1) (oi := { dst := some 32, op := Go.Op.load 29 (Go.Operand.tmp 7), type := 29, pos := "l3_work.go:200", after := #[{ on := 2, ground := Go.Ground.gcOnly Go.Departure.lateStores }], guard := none }) (v := ?_) rfl (by kernel_rfl) (by kernel_rfl) (by kernel_rfl) (fun _ _ _ h => h) (Or.inl ⟨by rfl, ?hy9_1⟩) (by assumption) ?_
          case hy9_1 => ((intro w hSw; (try dsimp only at hSw); go_simp); try with_reducible rfl)
          try simp only [Act.put, List.setIfInBounds_toArray, List.set_cons_zero, List.set_cons_succ]
          refine wpAnyH_ready (rs := [2]) (by kernel_rfl) (by simp) ?_
          refine (AllReadyH.cons (o := { dst := none, op := Go.Op.store 29 (Go.Operand.tmp 2) (Go.Operand.tmp 31), type := 0, pos := "l3_work.go:200", after := #[{ on := 0, ground := Go.Ground.data }, { on := 0, ground := Go.Ground.phase }, { on := 1, ground := Go.Ground.textOnly Go.Departure.lateStores }], guard := none }) rfl (fun K hK => ?_) AllReadyH.nil)
          have s0 := xa.c (k := 0) rfl
          have s1 := xa.c (k := 1) rfl
          have f0 := xa.f 0
          have f1 := xa.f 1
          go_simp
          try go_wp2_with fail
          clear s0 s1 f0 f1
          replace o2 := o2.box (k := 0) (v := .int .i64 at_) xa (by decide)
          replace o3 := o3.box (k := 0) (v := .int .i64 at_) xa (by decide)
          replace o7 := o7.box (k := 0) (v := .int .i64 at_) xa (by decide)
          replace xb := xb.other (B' := w.heap.size) (k := 0) (x := .int .i64 at_) (by omega)
          replace xd := xd.other (B' := w.heap.size) (k := 0) (x := .int .i64 at_) (by omega)
          replace xf := xf.other (B' := w.heap.size) (k := 0) (x := .int .i64 at_) (by omega)
          replace xe := xe.other (B' := w.heap.size) (k := 0) (x := .int .i64 at_) (by omega)
          replace b4 := bel_set b4 (p := ⟨w.heap.size, 0, none⟩) (by simp only; omega) (.int .i64 at_)
          replace xa := xa.set 0 (.int .i64 at_)
          replace o2 := o2.box (k := 1) (v := .slice BW lw.length cw) xa (by decide)
          replace o3 := o3.box (k := 1) (v := .slice BW lw.length cw) xa (by decide)
          replace o7 := o7.box (k := 1) (v := .slice BW lw.length cw) xa (by decide)
          replace xb := xb.other (B' := w.heap.size) (k := 1) (x := .slice BW lw.length cw) (by omega)
          replace xd := xd.other (B' := w.heap.size) (k := 1) (x := .slice BW lw.length cw) (by omega)
          replace xf := xf.other (B' := w.heap.size) (k := 1) (x := .slice BW lw.length cw) (by omega)
          replace xe := xe.other (B' := w.heap.size) (k := 1) (x := .slice BW lw.length cw) (by omega)
          replace b4 := bel_set b4 (p := ⟨w.heap.size, 1, none⟩) (by simp only; omega) (.slice BW lw.length cw)
          replace xa := xa.set 1 (.slice BW lw.length cw)
          replace qxf0 := xf.c (k := 0) rfl
          replace qxf1 := xf.c (k := 1) rfl
          replace qxe0 := xe.c (k := 0) rfl
          replace qxe1 := xe.c (k := 1) rfl
          refine hK.out _ _ ⟨qxf0, qxf1, qxe0, qxe1⟩ (fun hHeld => ?_)
          clear hK K
          try simp only [Act.put, List.setIfInBounds_toArray, List.set_cons_zero, List.set_cons_succ]
          refine wpAnyH_ready (rs := [3]) (by kernel_rfl) (by simp) ?_
          refine (AllReadyH.cons (o := { dst := none, op := Go.Op.store 29 (Go.Operand.tmp 3) (Go.Operand.tmp 32), type := 0, pos := "l3_work.go:200", after := #[{ on := 1, ground := Go.Ground.data }, { on := 2, ground := Go.Ground.chain }, { on := 0, ground := Go.Ground.phase }, { on := 1, ground := Go.Ground.phase }, { on := 2, ground := Go.Ground.phase }], guard := none }) rfl (fun K hK => ?_) AllReadyH.nil)
          have s0 := xb.c (k := 0) rfl
          have s1 := xb.c (k := 1) rfl
          have f0 := xb.f 0
          have f1 := xb.f 1
          go_simp
          try go_wp2_with fail
          clear s0 s1 f0 f1
          replace o2 := o2.box (k := 0) (v := .int .i64 at7) xb (by decide)
          replace o3 := o3.box (k := 0) (v := .int .i64 at7) xb (by decide)
          replace o7 := o7.box (k := 0) (v := .int .i64 at7) xb (by decide)
          replace xa := xa.other (B' := (w.heap.size + 1)) (k := 0) (x := .int .i64 at7) (by omega)
          replace xd := xd.other (B' := (w.heap.size + 1)) (k := 0) (x := .int .i64 at7) (by omega)
          replace xf := xf.other (B' := (w.heap.size + 1)) (k := 0) (x := .int .i64 at7) (by omega)
          replace xe := xe.other (B' := (w.heap.size + 1)) (k := 0) (x := .int .i64 at7) (by omega)
          replace b4 := bel_set b4 (p := ⟨(w.heap.size + 1), 0, none⟩) (by simp only; omega) (.int .i64 at7)
          replace xb := xb.set 0 (.int .i64 at7)
          replace o2 := o2.box (k := 1) (v := .slice A7 l7.length c7) xb (by decide)
          replace o3 := o3.box (k := 1) (v := .slice A7 l7.length c7) xb (by decide)
          replace o7 := o7.box (k := 1) (v := .slice A7 l7.length c7) xb (by decide)
          replace xa := xa.other (B' := (w.heap.size + 1)) (k := 1) (x := .slice A7 l7.length c7) (by omega)
          replace xd := xd.other (B' := (w.heap.size + 1)) (k := 1) (x := .slice A7 l7.length c7) (by omega)
          replace xf := xf.other (B' := (w.heap.size + 1)) (k := 1) (x := .slice A7 l7.length c7) (by omega)
          replace xe := xe.other (B' := (w.heap.size + 1)) (k := 1) (x := .slice A7 l7.length c7) (by omega)
          replace b4 := bel_set b4 (p := ⟨(w.heap.size + 1), 1, none⟩) (by simp only; omega) (.slice A7 l7.length c7)
          replace xb := xb.set 1 (.slice A7 l7.length c7)
          replace qxf0 := xf.c (k := 0) rfl
          replace qxf1 := xf.c (k := 1) rfl
          replace qxe0 := xe.c (k := 0) rfl
          replace qxe1 := xe.c (k := 1) rfl
          refine hK.out _ _ ⟨qxf0, qxf1, qxe0, qxe1⟩ (fun hHeld => ?_)
          clear hK K
          try simp only [Act.put, List.setIfInBounds_toArray, List.set_cons_zero, List.set_cons_succ]
          refine wpAnyH_done (by kernel_rfl) ?_ _
          have z0 := xa.c (k := 0) rfl
          have z1 := xa.c (k := 1) rfl
          have z2 := xb.c (k := 0) rfl
          have z3 := xb.c (k := 1) rfl
          have HOA := Lib.hid (o3.lower hz3)
          have HOB := Lib.hid (o7.lower hz6)
          have HBB := Lib.hid b4
          clear o2 o3 o7 b4
          go_wp2_with fail
          exact bodyPost_ret (v := .tuple #[.agg #[.int .i64 at_, .slice BW lw.length cw], .agg #[.int .i64 at7, .slice A7 l7.length c7]]) (by simp [results, Try.results62, go_sem, z0, z1, z2, z3]) rfl ⟨at_, BW, lw.length, cw, lw, at7, A7, l7.length, c7, l7, rfl, HOA.out, HOB.out, by have := HLEN.out; omega, by have := HLEN.out; omega, HBB.out⟩
      · skip
        have hEF := xf.lt
        have hEg := r4.lt
        replace xa := xa.alloc (.cells #[.int .i64 0, .slice none 0 0] 29)
        replace xb := xb.alloc (.cells #[.int .i64 0, .slice none 0 0] 29)
        replace xd := xd.alloc (.cells #[.int .i64 0, .slice none 0 0] 29)
        replace xf := xf.alloc (.cells #[.int .i64 0, .slice none 0 0] 29)
        replace o2 := o2.alloc (.cells #[.int .i64 0, .slice none 0 0] 29)
        replace o3 := o3.alloc (.cells #[.int .i64 0, .slice none 0 0] 29)
        replace oR := oR.alloc (.cells #[.int .i64 0, .slice none 0 0] 29)
        replace r4 := r4.on (bel_alloc (Below.refl _ _) (.cells #[.int .i64 0, .slice none 0 0] 29))
        replace b4 := bel_alloc b4 (.cells #[.int .i64 0, .slice none 0 0] 29)
        replace qxd0 := xd.c (k := 0) rfl
        replace qxd1 := xd.c (k := 1) rfl
        replace qxf0 := xf.c (k := 0) rfl
        replace qxf1 := xf.c (k := 1) rfl
        have xe : BoxC (w8.alloc (.cells #[.int .i64 0, .slice none 0 0] 29)) w8.heap.size 29 #[.int .i64 0, .slice none 0 0] := BoxC.new w8 29 #[.int .i64 0, .slice none 0 0]
        go_simp
        try go_wp2_with fail
        refine hK.out _ _ ⟨qxd0, qxd1, qxf0, qxf1⟩ (fun hHeld => ?_)
        clear hK K
        try simp only [Act.put, List.setIfInBounds_toArray, List.set_cons_zero, List.set_cons_succ]
        obtain ⟨E, hE⟩ : ∃ E, w8.heap.size = E := ⟨_, rfl⟩
        rw [hE] at xe hEF hEg
        rw [hE]
        generalize w8.alloc (.cells #[.int .i64 0, .slice none 0 0] 29) = wa at *
        clear hE
        refine wpAnyH_ready (rs := [7]) (by kernel_rfl) (by simp) ?_
        refine (AllReadyH.cons (o := { dst := some 27, op := Go.Op.call { callee := Go.Callee.value (Go.Operand.func 114), args := #[Go.Operand.tmp 22, Go.Operand.tmp 26], argTypes := #[124, 59] }, type := 73, pos := "l3_work.go:199", after := #[{ on := 2, ground := Go.Ground.data }, { on := 6, ground := Go.Ground.data }, { on := 6, ground := Go.Ground.chain }], guard := none }) rfl (fun K hK => ?_) AllReadyH.nil)
        go_simp
        refine (l3Write (w.heap.size + 2) (p3 + 1) A1 m c1 l1 R (atL lv now).length cR (atL lv now) _ r4 (by have := HP3.out; omega) oR.sl HRL.out (fun x hx => by have := (oR.block hx).1; omega) HRS.out).mono ?_
        rintro e w9 ⟨key, num, gone, p8, rfl, hkey, -, r6, t6⟩
        clear oR
        replace xa := xa.turn t6 (fun x hx => by cases hx; simp only; omega)
        replace xb := xb.turn t6 (fun x hx => by cases hx; simp only; omega)
        replace xd := xd.turn t6 (fun x hx => by cases hx; simp only; omega)
        replace xf := xf.turn t6 (fun x hx => by cases hx; simp only; omega)
        replace xe := xe.turn t6 (fun x hx => by cases hx; simp only; omega)
        replace o2 := o2.farRd t6 hg2
        replace o3 := o3.farRd t6 hg3
        replace b4 := Rd.bel b4 t6 (by omega)
        clear r4
        have r4 := r6
        clear r6 t6
        replace qxd0 := xd.c (k := 0) rfl
        replace qxd1 := xd.c (k := 1) rfl
        replace qxf0 := xf.c (k := 0) rfl
        replace qxf1 := xf.c (k := 1) rfl
        go_wp2_with fail
        refine hK.out _ _ ⟨qxd0, qxd1, qxf0, qxf1⟩ (fun hHeld => ?_)
        clear hK K
        try simp only [Act.put, List.setIfInBounds_toArray, List.set_cons_zero, List.set_cons_succ]
        refine wpAnyH_ready (rs := [8]) (by kernel_rfl) (by simp) ?_
        refine (AllReadyH.cons (o := { dst := some 28, op := Go.Op.call { callee := Go.Callee.value (Go.Operand.func 113), args := #[Go.Operand.tmp 20, Go.Operand.tmp 21, Go.Operand.tmp 27], argTypes := #[39, 29, 73] }, type := 138, pos := "l3_work.go:199", after := #[{ on := 0, ground := Go.Ground.data }, { on := 1, ground := Go.Ground.data }, { on := 7, ground := Go.Ground.data }, { on := 7, ground := Go.Ground.chain }], guard := none }) rfl (fun K hK => ?_) AllReadyH.nil)
        go_simp
        have hz6 := b4.size
        refine (workPut now B lv.length cb lv at_ BW lw.length cw lw key num gone _ o2.sl HVP.out hat0 hat1 o3.sl HSM.out (by have := HLEN.out; omega) hkey).mono ?_
        rintro e w10 ⟨at7, A7, c7, l7, code, rfl, o7, hS7, hl7, hat70, hat71, hb7⟩
        replace xa := xa.on hb7
        replace xb := xb.on hb7
        replace xd := xd.on hb7
        replace xf := xf.on hb7
        replace xe := xe.on hb7
        replace o2 := o2.on hb7
        replace o3 := o3.on hb7
        replace r4 := r4.on hb7
        replace b4 := bel_trans b4 hb7
        replace qxd0 := xd.c (k := 0) rfl
        replace qxd1 := xd.c (k := 1) rfl
        replace qxf0 := xf.c (k := 0) rfl
        replace qxf1 := xf.c (k := 1) rfl
        clear hb7
        go_wp2_with fail
        refine hK.out _ _ ⟨qxd0, qxd1, qxf0, qxf1⟩ (fun hHeld => ?_)
        clear hK K
        try simp only [Act.put, List.setIfInBounds_toArray, List.set_cons_zero, List.set_cons_succ]
        refine wpAnyH_take (i := 9) (oi := { dst := some 19, op := Go.Op.move (Go.Operand.tmp 28), type := 138, pos := "l3_work.go:199", after := #[{ on := 8, ground := Go.Ground.data }], guard := none }) (v := ?_) rfl (by kernel_rfl) (by kernel_rfl) (by kernel_rfl) (fun _ _ _ h => h) (Or.inl ⟨by rfl, ?hy10_9⟩) (by assumption) ?_
        case hy10_9 => ((intro w hSw; (try dsimp only at hSw); go_simp); try with_reducible rfl)
        try simp only [Act.put, List.setIfInBounds_toArray, List.set_cons_zero, List.set_cons_succ]
        refine wpAnyH_take (i := 10) (oi := { dst := some 29, op := Go.Op.extract (Go.Operand.tmp 19) 0, type := 29, pos := "l3_work.go:199", after := #[{ on := 9, ground := Go.Ground.data }], guard := none }) (v := ?_) rfl (by kernel_rfl) (by kernel_rfl) (by kernel_rfl) (fun _ _ _ h => h) (Or.inl ⟨by rfl, ?hy10_10⟩) (by assumption) ?_
        case hy10_10 => ((intro w hSw; (try dsimp only at hSw); go_simp); try with_reducible rfl)
        try simp only [Act.put, List.setIfInBounds_toArray, List.set_cons_zero, List.set_cons_succ]
        refine wpAnyH_take (i := 11) (oi := { dst := some 30, op := Go.Op.extract (Go.Operand.tmp 19) 1, type := 3, pos := "l3_work.go:199", after := #[{ on := 9, ground := Go.Ground.data }, { on := 13, ground := Go.Ground.gcOnly Go.Departure.lateStores }], guard := none }) (v := ?_) rfl (by kernel_rfl) (by kernel_rfl) (by kernel_rfl) (fun _ _ _ h => h) (Or.inl ⟨by rfl, ?hy10_11⟩) (by assumption) ?_
        case hy10_11 => ((intro w hSw; (try dsimp only at hSw); go_simp); try with_reducible rfl)
        try simp only [Act.put, List.setIfInBounds_toArray, List.set_cons_zero, List.set_cons_succ]
        refine wpAnyH_ready (rs := [13]) (by kernel_rfl) (by simp) ?_
        refine (AllReadyH.cons (o := { dst := none, op := Go.Op.store 29 (Go.Operand.tmp 7) (Go.Operand.tmp 29), type := 0, pos := "l3_work.go:199", after := #[{ on := 12, ground := Go.Ground.data }, { on := 10, ground := Go.Ground.data }, { on := 8, ground := Go.Ground.chain }, { on := 0, ground := Go.Ground.phase }, { on := 1, ground := Go.Ground.phase }, { on := 2, ground := Go.Ground.phase }, { on := 3, ground := Go.Ground.phase }, { on := 4, ground := Go.Ground.phase }, { on := 5, ground := Go.Ground.phase }, { on := 6, ground := Go.Ground.phase }, { on := 7, ground := Go.Ground.phase }, { on := 8, ground := Go.Ground.phase }, { on := 9, ground := Go.Ground.phase }, { on := 10, ground := Go.Ground.phase }, { on := 11, ground := Go.Ground.textOnly Go.Departure.lateStores }, { on := 12, ground := Go.Ground.phase }], guard := none }) rfl (fun K hK => ?_) AllReadyH.nil)
        have s0 := xe.c (k := 0) rfl
        have s1 := xe.c (k := 1) rfl
        have f0 := xe.f 0
        have f1 := xe.f 1
        go_simp
        try go_wp2_with fail
        clear s0 s1 f0 f1
        replace o2 := o2.box (k := 0) (v := .int .i64 at7) xe (by decide)
        replace o3 := o3.box (k := 0) (v := .int .i64 at7) xe (by decide)
        replace o7 := o7.box (k := 0) (v := .int .i64 at7) xe (by decide)
        replace xa := xa.other (B' := E) (k := 0) (x := .int .i64 at7) (by omega)
        replace xb := xb.other (B' := E) (k := 0) (x := .int .i64 at7) (by omega)
        replace xd := xd.other (B' := E) (k := 0) (x := .int .i64 at7) (by omega)
        replace xf := xf.other (B' := E) (k := 0) (x := .int .i64 at7) (by omega)
        replace b4 := bel_set b4 (p := ⟨E, 0, none⟩) (by simp only; omega) (.int .i64 at7)
        replace xe := xe.set 0 (.int .i64 at7)
        replace o2 := o2.box (k := 1) (v := .slice A7 l7.length c7) xe (by decide)
        replace o3 := o3.box (k := 1) (v := .slice A7 l7.length c7) xe (by decide)
        replace o7 := o7.box (k := 1) (v := .slice A7 l7.length c7) xe (by decide)
        replace xa := xa.other (B' := E) (k := 1) (x := .slice A7 l7.length c7) (by omega)
        replace xb := xb.other (B' := E) (k := 1) (x := .slice A7 l7.length c7) (by omega)
        replace xd := xd.other (B' := E) (k := 1) (x := .slice A7 l7.length c7) (by omega)
        replace xf := xf.other (B' := E) (k := 1) (x := .slice A7 l7.length c7) (by omega)
        replace b4 := bel_set b4 (p := ⟨E, 1, none⟩) (by simp only; omega) (.slice A7 l7.length c7)
        replace xe := xe.set 1 (.slice A7 l7.length c7)
        replace qxd0 := xd.c (k := 0) rfl
        replace qxd1 := xd.c (k := 1) rfl
        replace qxf0 := xf.c (k := 0) rfl
        replace qxf1 := xf.c (k := 1) rfl
        refine hK.out _ _ ⟨qxd0, qxd1, qxf0, qxf1⟩ (fun hHeld => ?_)
        clear hK K
        try simp only [Act.put, List.setIfInBounds_toArray, List.set_cons_zero, List.set_cons_succ]
        refine wpAnyH_take (i := 14) (oi := { dst := some 8, op := Go.Op.assign (Go.Operand.tmp 30), type := 3, pos := "l3_work.go:199", after := #[{ on := 11, ground := Go.Ground.data }, { on := 13, ground := Go.Ground.chain }, { on := 0, ground := Go.Ground.phase }, { on := 1, ground := Go.Ground.phase }, { on := 2, ground := Go.Ground.phase }, { on := 3, ground := Go.Ground.phase }, { on := 4, ground := Go.Ground.phase }, { on := 5, ground := Go.Ground.phase }, { on := 6, ground := Go.Ground.phase }, { on := 7, ground := Go.Ground.phase }, { on := 8, ground := Go.Ground.phase }, { on := 9, ground := Go.Ground.phase }, { on := 10, ground := Go.Ground.phase }, { on := 11, ground := Go.Ground.phase }, { on := 12, ground := Go.Ground.phase }, { on := 13, ground := Go.Ground.phase }], guard := none }) (v := ?_) rfl (by kernel_rfl) (by kernel_rfl) (by kernel_rfl) (fun _ _ _ h => h) (Or.inl ⟨by rfl, ?hy12_14⟩) (by assumption) ?_
        case hy12_14 => ((intro w hSw; (try dsimp only at hSw); go_simp); try with_reducible rfl)
        try simp only [Act.put, List.setIfInBounds_toArray, List.set_cons_zero, List.set_cons_succ]
        refine wpAnyH_done (by kernel_rfl) ?_ _
        generalize (w10.setCell ⟨E, 0, none⟩ (.int .i64 at7)).setCell ⟨E, 1, none⟩ (.slice A7 l7.length c7) = wz at *
        have qxe0 := xe.c (k := 0) rfl
        have qxe1 := xe.c (k := 1) rfl
        go_wp2_with fail
        refine wp_region_held_drew (S := (fun W' => W'.cell? ⟨FF, 0, none⟩ = some (.int .i64 at_) ∧ W'.cell? ⟨FF, 1, none⟩ = some (.slice BW lw.length cw) ∧ W'.cell? ⟨E, 0, none⟩ = some (.int .i64 at7) ∧ W'.cell? ⟨E, 1, none⟩ = some (.slice A7 l7.length c7))) (by kernel_rfl) ⟨qxf0, qxf1, qxe0, qxe1⟩ (fun hHeld => ?_)
        replace xa := xa.drew
        replace xb := xb.drew
        replace xd := xd.drew
        replace xf := xf.drew
        replace xe := xe.drew
        replace o2 := o2.drew
        replace o3 := o3.drew
        replace o7 := o7.drew
        replace b4 := b4.drew
        replace qxf0 := xf.c (k := 0) rfl
        replace qxf1 := xf.c (k := 1) rfl
        replace qxe0 := xe.c (k := 0) rfl
        replace qxe1 := xe.c (k := 1) rfl
        generalize wz.drew = wt at *
        refine wpAnyH_take (i := 0) (oi := { dst := some 31, op := Go.Op.load 29 (Go.Operand.tmp 6), type := 29, pos := "l3_work.go:200", after := #[], guard := none }) (v := ?_) rfl (by kernel_rfl) (by kernel_rfl) (by kernel_rfl) (fun _ _ _ h => h) (Or.inl ⟨by rfl, ?hy13_0⟩) (by assumption) ?_
        case hy13_0 => ((intro w hSw; (try dsimp only at hSw); go_simp); try with_reducible rfl)
        try simp only [Act.put, List.setIfInBounds_toArray, List.set_cons_zero, List.set_cons_succ]
        refine wpAnyH_take (i := 1) (oi := { dst := some 32, op := Go.Op.load 29 (Go.Operand.tmp 7), type := 29, pos := "l3_work.go:200", after := #[{ on := 2, ground := Go.Ground.gcOnly Go.Departure.lateStores }], guard := none }) (v := ?_) rfl (by kernel_rfl) (by kernel_rfl) (by kernel_rfl) (fun _ _ _ h => h) (Or.inl ⟨by rfl, ?hy13_1⟩) (by assumption) ?_
        case hy13_1 => ((intro w hSw; (try dsimp only at hSw); go_simp); try with_reducible rfl)
        try simp only [Act.put, List.setIfInBounds_toArray, List.set_cons_zero, List.set_cons_succ]
        refine wpAnyH_ready (rs := [2]) (by kernel_rfl) (by simp) ?_
        refine (AllReadyH.cons (o := { dst := none, op := Go.Op.store 29 (Go.Operand.tmp 2) (Go.Operand.tmp 31), type := 0, pos := "l3_work.go:200", after := #[{ on := 0, ground := Go.Ground.data }, { on := 0, ground := Go.Ground.phase }, { on := 1, ground := Go.Ground.textOnly Go.Departure.lateStores }], guard := none }) rfl (fun K hK => ?_) AllReadyH.nil)
        have s0 := xa.c (k := 0) rfl
        have s1 := xa.c (k := 1) rfl
        have f0 := xa.f 0
        have f1 := xa.f 1
        go_simp
        try go_wp2_with fail
        clear s0 s1 f0 f1
        replace o2 := o2.box (k := 0) (v := .int .i64 at_) xa (by decide)
        replace o3 := o3.box (k := 0) (v := .int .i64 at_) xa (by decide)
        replace o7 := o7.box (k := 0) (v := .int .i64 at_) xa (by decide)
        replace xb := xb.other (B' := w.heap.size) (k := 0) (x := .int .i64 at_) (by omega)
        replace xd := xd.other (B' := w.heap.size) (k := 0) (x := .int .i64 at_) (by omega)
        replace xf := xf.other (B' := w.heap.size) (k := 0) (x := .int .i64 at_) (by omega)
        replace xe := xe.other (B' := w.heap.size) (k := 0) (x := .int .i64 at_) (by omega)
        replace b4 := bel_set b4 (p := ⟨w.heap.size, 0, none⟩) (by simp only; omega) (.int .i64 at_)
        replace xa := xa.set 0 (.int .i64 at_)
        replace o2 := o2.box (k := 1) (v := .slice BW lw.length cw) xa (by decide)
        replace o3 := o3.box (k := 1) (v := .slice BW lw.length cw) xa (by decide)
        replace o7 := o7.box (k := 1) (v := .slice BW lw.length cw) xa (by decide)
        replace xb := xb.other (B' := w.heap.size) (k := 1) (x := .slice BW lw.length cw) (by omega)
        replace xd := xd.other (B' := w.heap.size) (k := 1) (x := .slice BW lw.length cw) (by omega)
        replace xf := xf.other (B' := w.heap.size) (k := 1) (x := .slice BW lw.length cw) (by omega)
        replace xe := xe.other (B' := w.heap.size) (k := 1) (x := .slice BW lw.length cw) (by omega)
        replace b4 := bel_set b4 (p := ⟨w.heap.size, 1, none⟩) (by simp only; omega) (.slice BW lw.length cw)
        replace xa := xa.set 1 (.slice BW lw.length cw)
        replace qxf0 := xf.c (k := 0) rfl
        replace qxf1 := xf.c (k := 1) rfl
        replace qxe0 := xe.c (k := 0) rfl
        replace qxe1 := xe.c (k := 1) rfl
        refine hK.out _ _ ⟨qxf0, qxf1, qxe0, qxe1⟩ (fun hHeld => ?_)
        clear hK K
        try simp only [Act.put, List.setIfInBounds_toArray, List.set_cons_zero, List.set_cons_succ]
        refine wpAnyH_ready (rs := [3]) (by kernel_rfl) (by simp) ?_
        refine (AllReadyH.cons (o := { dst := none, op := Go.Op.store 29 (Go.Operand.tmp 3) (Go.Operand.tmp 32), type := 0, pos := "l3_work.go:200", after := #[{ on := 1, ground := Go.Ground.data }, { on := 2, ground := Go.Ground.chain }, { on := 0, ground := Go.Ground.phase }, { on := 1, ground := Go.Ground.phase }, { on := 2, ground := Go.Ground.phase }], guard := none }) rfl (fun K hK => ?_) AllReadyH.nil)
        have s0 := xb.c (k := 0) rfl
        have s1 := xb.c (k := 1) rfl
        have f0 := xb.f 0
        have f1 := xb.f 1
        go_simp
        try go_wp2_with fail
        clear s0 s1 f0 f1
        replace o2 := o2.box (k := 0) (v := .int .i64 at7) xb (by decide)
        replace o3 := o3.box (k := 0) (v := .int .i64 at7) xb (by decide)
        replace o7 := o7.box (k := 0) (v := .int .i64 at7) xb (by decide)
        replace xa := xa.other (B' := (w.heap.size + 1)) (k := 0) (x := .int .i64 at7) (by omega)
        replace xd := xd.other (B' := (w.heap.size + 1)) (k := 0) (x := .int .i64 at7) (by omega)
        replace xf := xf.other (B' := (w.heap.size + 1)) (k := 0) (x := .int .i64 at7) (by omega)
        replace xe := xe.other (B' := (w.heap.size + 1)) (k := 0) (x := .int .i64 at7) (by omega)
        replace b4 := bel_set b4 (p := ⟨(w.heap.size + 1), 0, none⟩) (by simp only; omega) (.int .i64 at7)
        replace xb := xb.set 0 (.int .i64 at7)
        replace o2 := o2.box (k := 1) (v := .slice A7 l7.length c7) xb (by decide)
        replace o3 := o3.box (k := 1) (v := .slice A7 l7.length c7) xb (by decide)
        replace o7 := o7.box (k := 1) (v := .slice A7 l7.length c7) xb (by decide)
        replace xa := xa.other (B' := (w.heap.size + 1)) (k := 1) (x := .slice A7 l7.length c7) (by omega)
        replace xd := xd.other (B' := (w.heap.size + 1)) (k := 1) (x := .slice A7 l7.length c7) (by omega)
        replace xf := xf.other (B' := (w.heap.size + 1)) (k := 1) (x := .slice A7 l7.length c7) (by omega)
        replace xe := xe.other (B' := (w.heap.size + 1)) (k := 1) (x := .slice A7 l7.length c7) (by omega)
        replace b4 := bel_set b4 (p := ⟨(w.heap.size + 1), 1, none⟩) (by simp only; omega) (.slice A7 l7.length c7)
        replace xb := xb.set 1 (.slice A7 l7.length c7)
        replace qxf0 := xf.c (k := 0) rfl
        replace qxf1 := xf.c (k := 1) rfl
        replace qxe0 := xe.c (k := 0) rfl
        replace qxe1 := xe.c (k := 1) rfl
        refine hK.out _ _ ⟨qxf0, qxf1, qxe0, qxe1⟩ (fun hHeld => ?_)
        clear hK K
        try simp only [Act.put, List.setIfInBounds_toArray, List.set_cons_zero, List.set_cons_succ]
        refine wpAnyH_done (by kernel_rfl) ?_ _
        have z0 := xa.c (k := 0) rfl
        have z1 := xa.c (k := 1) rfl
        have z2 := xb.c (k := 0) rfl
        have z3 := xb.c (k := 1) rfl
        have HOA := Lib.hid (o3.lower hz3)
        have HOB := Lib.hid (o7.lower hz6)
        have HBB := Lib.hid b4
        clear o2 o3 o7 b4
        go_wp2_with fail
        exact bodyPost_ret (v := .tuple #[.agg #[.int .i64 at_, .slice BW lw.length cw], .agg #[.int .i64 at7, .slice A7 l7.length c7]]) (by simp [results, Try.results62, go_sem, z0, z1, z2, z3]) rfl ⟨at_, BW, lw.length, cw, lw, at7, A7, l7.length, c7, l7, rfl, HOA.out, HOB.out, by have := HLEN.out; omega, by have := HLEN.out; omega, HBB.out⟩
    · skip
      have hEF := xf.lt
      have hEg := r4.lt
      replace xa := xa.alloc (.cells #[.int .i64 0, .slice none 0 0] 29)
      replace xb := xb.alloc (.cells #[.int .i64 0, .slice none 0 0] 29)
      replace xd := xd.alloc (.cells #[.int .i64 0, .slice none 0 0] 29)
      replace xf := xf.alloc (.cells #[.int .i64 0, .slice none 0 0] 29)
      replace o2 := o2.alloc (.cells #[.int .i64 0, .slice none 0 0] 29)
      replace o3 := o3.alloc (.cells #[.int .i64 0, .slice none 0 0] 29)
      replace r4 := r4.on (bel_alloc (Below.refl _ _) (.cells #[.int .i64 0, .slice none 0 0] 29))
      replace b4 := bel_alloc b4 (.cells #[.int .i64 0, .slice none 0 0] 29)
      replace qxd0 := xd.c (k := 0) rfl
      replace qxd1 := xd.c (k := 1) rfl
      replace qxf0 := xf.c (k := 0) rfl
      replace qxf1 := xf.c (k := 1) rfl
      have xe : BoxC (wy.alloc (.cells #[.int .i64 0, .slice none 0 0] 29)) wy.heap.size 29 #[.int .i64 0, .slice none 0 0] := BoxC.new wy 29 #[.int .i64 0, .slice none 0 0]
      go_simp
      try go_wp2_with fail
      refine hK.out _ _ ⟨qxd0, qxd1, qxf0, qxf1⟩ (fun hHeld => ?_)
      clear hK K
      try simp only [Act.put, List.setIfInBounds_toArray, List.set_cons_zero, List.set_cons_succ]
      obtain ⟨E, hE⟩ : ∃ E, wy.heap.size = E := ⟨_, rfl⟩
      rw [hE] at xe hEF hEg
      rw [hE]
      generalize wy.alloc (.cells #[.int .i64 0, .slice none 0 0] 29) = wa at *
      clear hE
      refine wpAnyH_ready (rs := [6]) (by kernel_rfl) (by simp) ?_
      refine (AllReadyH.cons (o := { dst := some 26, op := Go.Op.call { callee := Go.Callee.value (Go.Operand.func 90), args := #[Go.Operand.tmp 23, Go.Operand.tmp 25], argTypes := #[39, 3] }, type := 59, pos := "l3_work.go:199", after := #[{ on := 3, ground := Go.Ground.data }, { on := 5, ground := Go.Ground.data }], guard := none }) rfl (fun K hK => ?_) AllReadyH.nil)
      go_simp
      have hgG := r4.lt
      refine (specAt now B lv.length cb lv now _ o2.sl (by have := HQ.out; omega)).mono ?_
      rintro e w8 ⟨v5, rfl, oR, hb5⟩
      obtain ⟨R, cR, rfl, -, -⟩ := oR.form
      replace xa := xa.on hb5
      replace xb := xb.on hb5
      replace xd := xd.on hb5
      replace xf := xf.on hb5
      replace xe := xe.on hb5
      replace o2 := o2.on hb5
      replace o3 := o3.on hb5
      replace r4 := r4.on hb5
      replace b4 := bel_trans b4 hb5
      replace qxd0 := xd.c (k := 0) rfl
      replace qxd1 := xd.c (k := 1) rfl
      replace qxf0 := xf.c (k := 0) rfl
      replace qxf1 := xf.c (k := 1) rfl
      clear hb5
      go_wp2_with fail
      refine hK.out _ _ ⟨qxd0, qxd1, qxf0, qxf1⟩ (fun hHeld => ?_)
      clear hK K
      try simp only [Act.put, List.setIfInBounds_toArray, List.set_cons_zero, List.set_cons_succ]
      refine wpAnyH_ready (rs := [7]) (by kernel_rfl) (by simp) ?_
      refine (AllReadyH.cons (o := { dst := some 27, op := Go.Op.call { callee := Go.Callee.value (Go.Operand.func 114), args := #[Go.Operand.tmp 22, Go.Operand.tmp 26], argTypes := #[124, 59] }, type := 73, pos := "l3_work.go:199", after := #[{ on := 2, ground := Go.Ground.data }, { on := 6, ground := Go.Ground.data }, { on := 6, ground := Go.Ground.chain }], guard := none }) rfl (fun K hK => ?_) AllReadyH.nil)
      go_simp
      refine (l3Write (w.heap.size + 2) (p3 + 1) A1 m c1 l1 R (atL lv now).length cR (atL lv now) _ r4 (by have := HP3.out; omega) oR.sl HRL.out (fun x hx => by have := (oR.block hx).1; omega) HRS.out).mono ?_
      rintro e w9 ⟨key, num, gone, p8, rfl, hkey, -, r6, t6⟩
      clear oR
      replace xa := xa.turn t6 (fun x hx => by cases hx; simp only; omega)
      replace xb := xb.turn t6 (fun x hx => by cases hx; simp only; omega)
      replace xd := xd.turn t6 (fun x hx => by cases hx; simp only; omega)
      replace xf := xf.turn t6 (fun x hx => by cases hx; simp only; omega)
      replace xe := xe.turn t6 (fun x hx => by cases hx; simp only; omega)
      replace o2 := o2.farRd t6 hg2
      replace o3 := o3.farRd t6 hg3
      replace b4 := Rd.bel b4 t6 (by omega)
      clear r4
      have r4 := r6
      clear r6 t6
      replace qxd0 := xd.c (k := 0) rfl
      replace qxd1 := xd.c (k := 1) rfl
      replace qxf0 := xf.c (k := 0) rfl
      replace qxf1 := xf.c (k := 1) rfl
      go_wp2_with fail
      refine hK.out _ _ ⟨qxd0, qxd1, qxf0, qxf1⟩ (fun hHeld => ?_)
      clear hK K
      try simp only [Act.put, List.setIfInBounds_toArray, List.set_cons_zero, List.set_cons_succ]
      refine wpAnyH_ready (rs := [8]) (by kernel_rfl) (by simp) ?_
      refine (AllReadyH.cons (o := { dst := some 28, op := Go.Op.call { callee := Go.Callee.value (Go.Operand.func 113), args := #[Go.Operand.tmp 20, Go.Operand.tmp 21, Go.Operand.tmp 27], argTypes := #[39, 29, 73] }, type := 138, pos := "l3_work.go:199", after := #[{ on := 0, ground := Go.Ground.data }, { on := 1, ground := Go.Ground.data }, { on := 7, ground := Go.Ground.data }, { on := 7, ground := Go.Ground.chain }], guard := none }) rfl (fun K hK => ?_) AllReadyH.nil)
      go_simp
      have hz6 := b4.size
      refine (workPut now B lv.length cb lv at_ BW lw.length cw lw key num gone _ o2.sl HVP.out hat0 hat1 o3.sl HSM.out (by have := HLEN.out; omega) hkey).mono ?_
      rintro e w10 ⟨at7, A7, c7, l7, code, rfl, o7, hS7, hl7, hat70, hat71, hb7⟩
      replace xa := xa.on hb7
      replace xb := xb.on hb7
      replace xd := xd.on hb7
      replace xf := xf.on hb7
      replace xe := xe.on hb7
      replace o2 := o2.on hb7
      replace o3 := o3.on hb7
      replace r4 := r4.on hb7
      replace b4 := bel_trans b4 hb7
      replace qxd0 := xd.c (k := 0) rfl
      replace qxd1 := xd.c (k := 1) rfl
      replace qxf0 := xf.c (k := 0) rfl
      replace qxf1 := xf.c (k := 1) rfl
      clear hb7
      go_wp2_with fail
      refine hK.out _ _ ⟨qxd0, qxd1, qxf0, qxf1⟩ (fun hHeld => ?_)
      clear hK K
      try simp only [Act.put, List.setIfInBounds_toArray, List.set_cons_zero, List.set_cons_succ]
      refine wpAnyH_take (i := 9) (oi := { dst := some 19, op := Go.Op.move (Go.Operand.tmp 28), type := 138, pos := "l3_work.go:199", after := #[{ on := 8, ground := Go.Ground.data }], guard := none }) (v := ?_) rfl (by kernel_rfl) (by kernel_rfl) (by kernel_rfl) (fun _ _ _ h => h) (Or.inl ⟨by rfl, ?hy14_9⟩) (by assumption) ?_
      case hy14_9 => ((intro w hSw; (try dsimp only at hSw); go_simp); try with_reducible rfl)
      try simp only [Act.put, List.setIfInBounds_toArray, List.set_cons_zero, List.set_cons_succ]
      refine wpAnyH_take (i := 10) (oi := { dst := some 29, op := Go.Op.extract (Go.Operand.tmp 19) 0, type := 29, pos := "l3_work.go:199", after := #[{ on := 9, ground := Go.Ground.data }], guard := none }) (v := ?_) rfl (by kernel_rfl) (by kernel_rfl) (by kernel_rfl) (fun _ _ _ h => h) (Or.inl ⟨by rfl, ?hy14_10⟩) (by assumption) ?_
      case hy14_10 => ((intro w hSw; (try dsimp only at hSw); go_simp); try with_reducible rfl)
      try simp only [Act.put, List.setIfInBounds_toArray, List.set_cons_zero, List.set_cons_succ]
      refine wpAnyH_take (i := 11) (oi := { dst := some 30, op := Go.Op.extract (Go.Operand.tmp 19) 1, type := 3, pos := "l3_work.go:199", after := #[{ on := 9, ground := Go.Ground.data }, { on := 13, ground := Go.Ground.gcOnly Go.Departure.lateStores }], guard := none }) (v := ?_) rfl (by kernel_rfl) (by kernel_rfl) (by kernel_rfl) (fun _ _ _ h => h) (Or.inl ⟨by rfl, ?hy14_11⟩) (by assumption) ?_
      case hy14_11 => ((intro w hSw; (try dsimp only at hSw); go_simp); try with_reducible rfl)
      try simp only [Act.put, List.setIfInBounds_toArray, List.set_cons_zero, List.set_cons_succ]
      refine wpAnyH_ready (rs := [13]) (by kernel_rfl) (by simp) ?_
      refine (AllReadyH.cons (o := { dst := none, op := Go.Op.store 29 (Go.Operand.tmp 7) (Go.Operand.tmp 29), type := 0, pos := "l3_work.go:199", after := #[{ on := 12, ground := Go.Ground.data }, { on := 10, ground := Go.Ground.data }, { on := 8, ground := Go.Ground.chain }, { on := 0, ground := Go.Ground.phase }, { on := 1, ground := Go.Ground.phase }, { on := 2, ground := Go.Ground.phase }, { on := 3, ground := Go.Ground.phase }, { on := 4, ground := Go.Ground.phase }, { on := 5, ground := Go.Ground.phase }, { on := 6, ground := Go.Ground.phase }, { on := 7, ground := Go.Ground.phase }, { on := 8, ground := Go.Ground.phase }, { on := 9, ground := Go.Ground.phase }, { on := 10, ground := Go.Ground.phase }, { on := 11, ground := Go.Ground.textOnly Go.Departure.lateStores }, { on := 12, ground := Go.Ground.phase }], guard := none }) rfl (fun K hK => ?_) AllReadyH.nil)
      have s0 := xe.c (k := 0) rfl
      have s1 := xe.c (k := 1) rfl
      have f0 := xe.f 0
      have f1 := xe.f 1
      go_simp
      try go_wp2_with fail
      clear s0 s1 f0 f1
      replace o2 := o2.box (k := 0) (v := .int .i64 at7) xe (by decide)
      replace o3 := o3.box (k := 0) (v := .int .i64 at7) xe (by decide)
      replace o7 := o7.box (k := 0) (v := .int .i64 at7) xe (by decide)
      replace xa := xa.other (B' := E) (k := 0) (x := .int .i64 at7) (by omega)
      replace xb := xb.other (B' := E) (k := 0) (x := .int .i64 at7) (by omega)
      replace xd := xd.other (B' := E) (k := 0) (x := .int .i64 at7) (by omega)
      replace xf := xf.other (B' := E) (k := 0) (x := .int .i64 at7) (by omega)
      replace b4 := bel_set b4 (p := ⟨E, 0, none⟩) (by simp only; omega) (.int .i64 at7)
      replace xe := xe.set 0 (.int .i64 at7)
      replace o2 := o2.box (k := 1) (v := .slice A7 l7.length c7) xe (by decide)
      replace o3 := o3.box (k := 1) (v := .slice A7 l7.length c7) xe (by decide)
      replace o7 := o7.box (k := 1) (v := .slice A7 l7.length c7) xe (by decide)
      replace xa := xa.other (B' := E) (k := 1) (x := .slice A7 l7.length c7) (by omega)
      replace xb := xb.other (B' := E) (k := 1) (x := .slice A7 l7.length c7) (by omega)
      replace xd := xd.other (B' := E) (k := 1) (x := .slice A7 l7.length c7) (by omega)
      replace xf := xf.other (B' := E) (k := 1) (x := .slice A7 l7.length c7) (by omega)
      replace b4 := bel_set b4 (p := ⟨E, 1, none⟩) (by simp only; omega) (.slice A7 l7.length c7)
      replace xe := xe.set 1 (.slice A7 l7.length c7)
      replace qxd0 := xd.c (k := 0) rfl
      replace qxd1 := xd.c (k := 1) rfl
      replace qxf0 := xf.c (k := 0) rfl
      replace qxf1 := xf.c (k := 1) rfl
      refine hK.out _ _ ⟨qxd0, qxd1, qxf0, qxf1⟩ (fun hHeld => ?_)
      clear hK K
      try simp only [Act.put, List.setIfInBounds_toArray, List.set_cons_zero, List.set_cons_succ]
      refine wpAnyH_take (i := 14) (oi := { dst := some 8, op := Go.Op.assign (Go.Operand.tmp 30), type := 3, pos := "l3_work.go:199", after := #[{ on := 11, ground := Go.Ground.data }, { on := 13, ground := Go.Ground.chain }, { on := 0, ground := Go.Ground.phase }, { on := 1, ground := Go.Ground.phase }, { on := 2, ground := Go.Ground.phase }, { on := 3, ground := Go.Ground.phase }, { on := 4, ground := Go.Ground.phase }, { on := 5, ground := Go.Ground.phase }, { on := 6, ground := Go.Ground.phase }, { on := 7, ground := Go.Ground.phase }, { on := 8, ground := Go.Ground.phase }, { on := 9, ground := Go.Ground.phase }, { on := 10, ground := Go.Ground.phase }, { on := 11, ground := Go.Ground.phase }, { on := 12, ground := Go.Ground.phase }, { on := 13, ground := Go.Ground.phase }], guard := none }) (v := ?_) rfl (by kernel_rfl) (by kernel_rfl) (by kernel_rfl) (fun _ _ _ h => h) (Or.inl ⟨by rfl, ?hy16_14⟩) (by assumption) ?_
      case hy16_14 => ((intro w hSw; (try dsimp only at hSw); go_simp); try with_reducible rfl)
      try simp only [Act.put, List.setIfInBounds_toArray, List.set_cons_zero, List.set_cons_succ]
      refine wpAnyH_done (by kernel_rfl) ?_ _
      generalize (w10.setCell ⟨E, 0, none⟩ (.int .i64 at7)).setCell ⟨E, 1, none⟩ (.slice A7 l7.length c7) = wz at *
      have qxe0 := xe.c (k := 0) rfl
      have qxe1 := xe.c (k := 1) rfl
      go_wp2_with fail
      refine wp_region_held_drew (S := (fun W' => W'.cell? ⟨FF, 0, none⟩ = some (.int .i64 at_) ∧ W'.cell? ⟨FF, 1, none⟩ = some (.slice BW lw.length cw) ∧ W'.cell? ⟨E, 0, none⟩ = some (.int .i64 at7) ∧ W'.cell? ⟨E, 1, none⟩ = some (.slice A7 l7.length c7))) (by kernel_rfl) ⟨qxf0, qxf1, qxe0, qxe1⟩ (fun hHeld => ?_)
      replace xa := xa.drew
      replace xb := xb.drew
      replace xd := xd.drew
      replace xf := xf.drew
      replace xe := xe.drew
      replace o2 := o2.drew
      replace o3 := o3.drew
      replace o7 := o7.drew
      replace b4 := b4.drew
      replace qxf0 := xf.c (k := 0) rfl
      replace qxf1 := xf.c (k := 1) rfl
      replace qxe0 := xe.c (k := 0) rfl
      replace qxe1 := xe.c (k := 1) rfl
      generalize wz.drew = wt at *
      refine wpAnyH_take (i := 0) (oi := { dst := some 31, op := Go.Op.load 29 (Go.Operand.tmp 6), type := 29, pos := "l3_work.go:200", after := #[], guard := none }) (v := ?_) rfl (by kernel_rfl) (by kernel_rfl) (by kernel_rfl) (fun _ _ _ h => h) (Or.inl ⟨by rfl, ?hy17_0⟩) (by assumption) ?_
      case hy17_0 => ((intro w hSw; (try dsimp only at hSw); go_simp); try with_reducible rfl)
      try simp only [Act.put, List.setIfInBounds_toArray, List.set_cons_zero, List.set_cons_succ]
      refine wpAnyH_take (i := 1) (oi := { dst := some 32, op := Go.Op.load 29 (Go.Operand.tmp 7), type := 29, pos := "l3_work.go:200", after := #[{ on := 2, ground := Go.Ground.gcOnly Go.Departure.lateStores }], guard := none }) (v := ?_) rfl (by kernel_rfl) (by kernel_rfl) (by kernel_rfl) (fun _ _ _ h => h) (Or.inl ⟨by rfl, ?hy17_1⟩) (by assumption) ?_
      case hy17_1 => ((intro w hSw; (try dsimp only at hSw); go_simp); try with_reducible rfl)
      try simp only [Act.put, List.setIfInBounds_toArray, List.set_cons_zero, List.set_cons_succ]
      refine wpAnyH_ready (rs := [2]) (by kernel_rfl) (by simp) ?_
      refine (AllReadyH.cons (o := { dst := none, op := Go.Op.store 29 (Go.Operand.tmp 2) (Go.Operand.tmp 31), type := 0, pos := "l3_work.go:200", after := #[{ on := 0, ground := Go.Ground.data }, { on := 0, ground := Go.Ground.phase }, { on := 1, ground := Go.Ground.textOnly Go.Departure.lateStores }], guard := none }) rfl (fun K hK => ?_) AllReadyH.nil)
      have s0 := xa.c (k := 0) rfl
      have s1 := xa.c (k := 1) rfl
      have f0 := xa.f 0
      have f1 := xa.f 1
      go_simp
      try go_wp2_with fail
      clear s0 s1 f0 f1
      replace o2 := o2.box (k := 0) (v := .int .i64 at_) xa (by decide)
      replace o3 := o3.box (k := 0) (v := .int .i64 at_) xa (by decide)
      replace o7 := o7.box (k := 0) (v := .int .i64 at_) xa (by decide)
      replace xb := xb.other (B' := w.heap.size) (k := 0) (x := .int .i64 at_) (by omega)
      replace xd := xd.other (B' := w.heap.size) (k := 0) (x := .int .i64 at_) (by omega)
      replace xf := xf.other (B' := w.heap.size) (k := 0) (x := .int .i64 at_) (by omega)
      replace xe := xe.other (B' := w.heap.size) (k := 0) (x := .int .i64 at_) (by omega)
      replace b4 := bel_set b4 (p := ⟨w.heap.size, 0, none⟩) (by simp only; omega) (.int .i64 at_)
      replace xa := xa.set 0 (.int .i64 at_)
      replace o2 := o2.box (k := 1) (v := .slice BW lw.length cw) xa (by decide)
      replace o3 := o3.box (k := 1) (v := .slice BW lw.length cw) xa (by decide)
      replace o7 := o7.box (k := 1) (v := .slice BW lw.length cw) xa (by decide)
      replace xb := xb.other (B' := w.heap.size) (k := 1) (x := .slice BW lw.length cw) (by omega)
      replace xd := xd.other (B' := w.heap.size) (k := 1) (x := .slice BW lw.length cw) (by omega)
      replace xf := xf.other (B' := w.heap.size) (k := 1) (x := .slice BW lw.length cw) (by omega)
      replace xe := xe.other (B' := w.heap.size) (k := 1) (x := .slice BW lw.length cw) (by omega)
      replace b4 := bel_set b4 (p := ⟨w.heap.size, 1, none⟩) (by simp only; omega) (.slice BW lw.length cw)
      replace xa := xa.set 1 (.slice BW lw.length cw)
      replace qxf0 := xf.c (k := 0) rfl
      replace qxf1 := xf.c (k := 1) rfl
      replace qxe0 := xe.c (k := 0) rfl
      replace qxe1 := xe.c (k := 1) rfl
      refine hK.out _ _ ⟨qxf0, qxf1, qxe0, qxe1⟩ (fun hHeld => ?_)
      clear hK K
      try simp only [Act.put, List.setIfInBounds_toArray, List.set_cons_zero, List.set_cons_succ]
      refine wpAnyH_ready (rs := [3]) (by kernel_rfl) (by simp) ?_
      refine (AllReadyH.cons (o := { dst := none, op := Go.Op.store 29 (Go.Operand.tmp 3) (Go.Operand.tmp 32), type := 0, pos := "l3_work.go:200", after := #[{ on := 1, ground := Go.Ground.data }, { on := 2, ground := Go.Ground.chain }, { on := 0, ground := Go.Ground.phase }, { on := 1, ground := Go.Ground.phase }, { on := 2, ground := Go.Ground.phase }], guard := none }) rfl (fun K hK => ?_) AllReadyH.nil)
      have s0 := xb.c (k := 0) rfl
      have s1 := xb.c (k := 1) rfl
      have f0 := xb.f 0
      have f1 := xb.f 1
      go_simp
      try go_wp2_with fail
      clear s0 s1 f0 f1
      replace o2 := o2.box (k := 0) (v := .int .i64 at7) xb (by decide)
      replace o3 := o3.box (k := 0) (v := .int .i64 at7) xb (by decide)
      replace o7 := o7.box (k := 0) (v := .int .i64 at7) xb (by decide)
      replace xa := xa.other (B' := (w.heap.size + 1)) (k := 0) (x := .int .i64 at7) (by omega)
      replace xd := xd.other (B' := (w.heap.size + 1)) (k := 0) (x := .int .i64 at7) (by omega)
      replace xf := xf.other (B' := (w.heap.size + 1)) (k := 0) (x := .int .i64 at7) (by omega)
      replace xe := xe.other (B' := (w.heap.size + 1)) (k := 0) (x := .int .i64 at7) (by omega)
      replace b4 := bel_set b4 (p := ⟨(w.heap.size + 1), 0, none⟩) (by simp only; omega) (.int .i64 at7)
      replace xb := xb.set 0 (.int .i64 at7)
      replace o2 := o2.box (k := 1) (v := .slice A7 l7.length c7) xb (by decide)
      replace o3 := o3.box (k := 1) (v := .slice A7 l7.length c7) xb (by decide)
      replace o7 := o7.box (k := 1) (v := .slice A7 l7.length c7) xb (by decide)
      replace xa := xa.other (B' := (w.heap.size + 1)) (k := 1) (x := .slice A7 l7.length c7) (by omega)
      replace xd := xd.other (B' := (w.heap.size + 1)) (k := 1) (x := .slice A7 l7.length c7) (by omega)
      replace xf := xf.other (B' := (w.heap.size + 1)) (k := 1) (x := .slice A7 l7.length c7) (by omega)
      replace xe := xe.other (B' := (w.heap.size + 1)) (k := 1) (x := .slice A7 l7.length c7) (by omega)
      replace b4 := bel_set b4 (p := ⟨(w.heap.size + 1), 1, none⟩) (by simp only; omega) (.slice A7 l7.length c7)
      replace xb := xb.set 1 (.slice A7 l7.length c7)
      replace qxf0 := xf.c (k := 0) rfl
      replace qxf1 := xf.c (k := 1) rfl
      replace qxe0 := xe.c (k := 0) rfl
      replace qxe1 := xe.c (k := 1) rfl
      refine hK.out _ _ ⟨qxf0, qxf1, qxe0, qxe1⟩ (fun hHeld => ?_)
      clear hK K
      try simp only [Act.put, List.setIfInBounds_toArray, List.set_cons_zero, List.set_cons_succ]
      refine wpAnyH_done (by kernel_rfl) ?_ _
      have z0 := xa.c (k := 0) rfl
      have z1 := xa.c (k := 1) rfl
      have z2 := xb.c (k := 0) rfl
      have z3 := xb.c (k := 1) rfl
      have HOA := Lib.hid (o3.lower hz3)
      have HOB := Lib.hid (o7.lower hz6)
      have HBB := Lib.hid b4
      clear o2 o3 o7 b4
      go_wp2_with fail
      exact bodyPost_ret (v := .tuple #[.agg #[.int .i64 at_, .slice BW lw.length cw], .agg #[.int .i64 at7, .slice A7 l7.length c7]]) (by simp [results, Try.results62, go_sem, z0, z1, z2, z3]) rfl ⟨at_, BW, lw.length, cw, lw, at7, A7, l7.length, c7, l7, rfl, HOA.out, HOB.out, by have := HLEN.out; omega, by have := HLEN.out; omega, HBB.out⟩
  · have hv1 : ((v : Int) == 0) = false := by simp; omega
    clear hv0 hv
    go_wp2_with fail
    refine wp_region_held_drew (S := (fun W' => W'.cell? ⟨D, 0, none⟩ = some (.int .i64 now) ∧ W'.cell? ⟨D, 1, none⟩ = some (.slice B lv.length cb) ∧ W'.cell? ⟨FF, 0, none⟩ = some (.int .i64 at_) ∧ W'.cell? ⟨FF, 1, none⟩ = some (.slice BW lw.length cw))) (by kernel_rfl) ⟨qxd0, qxd1, qxf0, qxf1⟩ (fun hHeld => ?_)
    replace xa := xa.drew
    replace xb := xb.drew
    replace xd := xd.drew
    replace xf := xf.drew
    replace o2 := o2.drew
    replace o3 := o3.drew
    replace r4 := r4.drew
    replace b4 := b4.drew
    replace qxd0 := xd.c (k := 0) rfl
    replace qxd1 := xd.c (k := 1) rfl
    replace qxf0 := xf.c (k := 0) rfl
    replace qxf1 := xf.c (k := 1) rfl
    generalize w7.drew = wy at *
    refine wpAnyH_take (i := 0) (oi := { dst := some 33, op := Go.Op.load 29 (Go.Operand.tmp 6), type := 29, pos := "l3_work.go:202", after := #[], guard := none }) (v := ?_) rfl (by kernel_rfl) (by kernel_rfl) (by kernel_rfl) (fun _ _ _ h => h) (Or.inl ⟨by rfl, ?hy18_0⟩) (by assumption) ?_
    case hy18_0 => ((intro w hSw; (try dsimp only at hSw); go_simp); try with_reducible rfl)
    try simp only [Act.put, List.setIfInBounds_toArray, List.set_cons_zero, List.set_cons_succ]
    refine wpAnyH_take (i := 1) (oi := { dst := some 34, op := Go.Op.move (Go.Operand.tmp 4), type := 124, pos := "l3_work.go:202", after := #[], guard := none }) (v := ?_) rfl (by kernel_rfl) (by kernel_rfl) (by kernel_rfl) (fun _ _ _ h => h) (Or.inl ⟨by rfl, ?hy18_1⟩) (by assumption) ?_
    case hy18_1 => ((intro w hSw; (try dsimp only at hSw); go_simp); try with_reducible rfl)
    try simp only [Act.put, List.setIfInBounds_toArray, List.set_cons_zero, List.set_cons_succ]
    refine wpAnyH_take (i := 2) (oi := { dst := some 35, op := Go.Op.move (Go.Operand.tmp 4), type := 124, pos := "l3_work.go:202", after := #[], guard := none }) (v := ?_) rfl (by kernel_rfl) (by kernel_rfl) (by kernel_rfl) (fun _ _ _ h => h) (Or.inl ⟨by rfl, ?hy18_2⟩) (by assumption) ?_
    case hy18_2 => ((intro w hSw; (try dsimp only at hSw); go_simp); try with_reducible rfl)
    try simp only [Act.put, List.setIfInBounds_toArray, List.set_cons_zero, List.set_cons_succ]
    refine wpAnyH_take (i := 3) (oi := { dst := some 36, op := Go.Op.load 29 (Go.Operand.tmp 6), type := 29, pos := "l3_work.go:202", after := #[], guard := none }) (v := ?_) rfl (by kernel_rfl) (by kernel_rfl) (by kernel_rfl) (fun _ _ _ h => h) (Or.inl ⟨by rfl, ?hy18_3⟩) (by assumption) ?_
    case hy18_3 => ((intro w hSw; (try dsimp only at hSw); go_simp); try with_reducible rfl)
    try simp only [Act.put, List.setIfInBounds_toArray, List.set_cons_zero, List.set_cons_succ]
    refine wpAnyH_ready (rs := [4]) (by kernel_rfl) (by simp) ?_
    refine (AllReadyH.cons (o := { dst := some 37, op := Go.Op.call { callee := Go.Callee.value (Go.Operand.func 115), args := #[Go.Operand.tmp 35, Go.Operand.tmp 36], argTypes := #[124, 29] }, type := 29, pos := "l3_work.go:202", after := #[{ on := 2, ground := Go.Ground.data }, { on := 3, ground := Go.Ground.data }], guard := none }) rfl (fun K hK => ?_) AllReadyH.nil)
    go_simp
    have hgG := r4.lt
    refine (l3Bent (w.heap.size + 2) (p3 + 1) A1 m c1 l1 at_ BW lw.length cw lw _ r4 (by have := HP3.out; omega) o3.sl (by have := HLEN.out; omega)).mono ?_
    rintro e w8 ⟨at5, B5, n5, c5, l5, p5, rfl, o5, hn5, hp5, r5, t5⟩
    replace xa := xa.turn t5 (fun x hx => by cases hx; simp only; omega)
    replace xb := xb.turn t5 (fun x hx => by cases hx; simp only; omega)
    replace xd := xd.turn t5 (fun x hx => by cases hx; simp only; omega)
    replace xf := xf.turn t5 (fun x hx => by cases hx; simp only; omega)
    replace o2 := o2.farRd t5 hg2
    replace o3 := o3.farRd t5 hg3
    replace b4 := Rd.bel b4 t5 (by omega)
    clear r4
    have r4 := r5
    clear r5 t5
    replace qxd0 := xd.c (k := 0) rfl
    replace qxd1 := xd.c (k := 1) rfl
    replace qxf0 := xf.c (k := 0) rfl
    replace qxf1 := xf.c (k := 1) rfl
    go_wp2_with fail
    refine hK.out _ _ ⟨qxd0, qxd1, qxf0, qxf1⟩ (fun hHeld => ?_)
    clear hK K
    try simp only [Act.put, List.setIfInBounds_toArray, List.set_cons_zero, List.set_cons_succ]
    refine wpAnyH_ready (rs := [5]) (by kernel_rfl) (by simp) ?_
    refine (AllReadyH.cons (o := { dst := some 38, op := Go.Op.call { callee := Go.Callee.value (Go.Operand.func 115), args := #[Go.Operand.tmp 34, Go.Operand.tmp 37], argTypes := #[124, 29] }, type := 29, pos := "l3_work.go:202", after := #[{ on := 1, ground := Go.Ground.data }, { on := 4, ground := Go.Ground.data }, { on := 4, ground := Go.Ground.chain }], guard := none }) rfl (fun K hK => ?_) AllReadyH.nil)
    go_simp
    have hz6 := b4.size
    refine (l3Bent (w.heap.size + 2) p5 A1 m c1 l1 at5 B5 n5 c5 l5 _ r4 (by have := HP3.out; omega) o5.sl (by have := HLEN.out; omega)).mono ?_
    rintro e w9 ⟨at7, A7, n7, c7, l7, p7, rfl, o7, hn7, -, r7, t7⟩
    clear o5
    replace xa := xa.turn t7 (fun x hx => by cases hx; simp only; omega)
    replace xb := xb.turn t7 (fun x hx => by cases hx; simp only; omega)
    replace xd := xd.turn t7 (fun x hx => by cases hx; simp only; omega)
    replace xf := xf.turn t7 (fun x hx => by cases hx; simp only; omega)
    replace o2 := o2.farRd t7 hg2
    replace o3 := o3.farRd t7 hg3
    replace b4 := Rd.bel b4 t7 (by omega)
    clear r4
    have r4 := r7
    clear r7 t7
    replace qxd0 := xd.c (k := 0) rfl
    replace qxd1 := xd.c (k := 1) rfl
    replace qxf0 := xf.c (k := 0) rfl
    replace qxf1 := xf.c (k := 1) rfl
    go_wp2_with fail
    refine hK.out _ _ ⟨qxd0, qxd1, qxf0, qxf1⟩ (fun hHeld => ?_)
    clear hK K
    try simp only [Act.put, List.setIfInBounds_toArray, List.set_cons_zero, List.set_cons_succ]
    refine wpAnyH_ready (rs := [6]) (by kernel_rfl) (by simp) ?_
    refine (AllReadyH.cons (o := { dst := none, op := Go.Op.store 29 (Go.Operand.tmp 2) (Go.Operand.tmp 33), type := 0, pos := "l3_work.go:202", after := #[{ on := 0, ground := Go.Ground.data }, { on := 5, ground := Go.Ground.chain }, { on := 0, ground := Go.Ground.phase }, { on := 1, ground := Go.Ground.textOnly Go.Departure.lateStores }, { on := 2, ground := Go.Ground.textOnly Go.Departure.lateStores }, { on := 3, ground := Go.Ground.textOnly Go.Departure.lateStores }, { on := 4, ground := Go.Ground.textOnly Go.Departure.lateStoresUnsure }, { on := 5, ground := Go.Ground.textOnly Go.Departure.lateStoresUnsure }], guard := none }) rfl (fun K hK => ?_) AllReadyH.nil)
    have s0 := xa.c (k := 0) rfl
    have s1 := xa.c (k := 1) rfl
    have f0 := xa.f 0
    have f1 := xa.f 1
    go_simp
    try go_wp2_with fail
    clear s0 s1 f0 f1
    replace o2 := o2.box (k := 0) (v := .int .i64 at_) xa (by decide)
    replace o3 := o3.box (k := 0) (v := .int .i64 at_) xa (by decide)
    replace o7 := o7.box (k := 0) (v := .int .i64 at_) xa (by decide)
    replace xb := xb.other (B' := w.heap.size) (k := 0) (x := .int .i64 at_) (by omega)
    replace xd := xd.other (B' := w.heap.size) (k := 0) (x := .int .i64 at_) (by omega)
    replace xf := xf.other (B' := w.heap.size) (k := 0) (x := .int .i64 at_) (by omega)
    replace b4 := bel_set b4 (p := ⟨w.heap.size, 0, none⟩) (by simp only; omega) (.int .i64 at_)
    replace xa := xa.set 0 (.int .i64 at_)
    replace o2 := o2.box (k := 1) (v := .slice BW lw.length cw) xa (by decide)
    replace o3 := o3.box (k := 1) (v := .slice BW lw.length cw) xa (by decide)
    replace o7 := o7.box (k := 1) (v := .slice BW lw.length cw) xa (by decide)
    replace xb := xb.other (B' := w.heap.size) (k := 1) (x := .slice BW lw.length cw) (by omega)
    replace xd := xd.other (B' := w.heap.size) (k := 1) (x := .slice BW lw.length cw) (by omega)
    replace xf := xf.other (B' := w.heap.size) (k := 1) (x := .slice BW lw.length cw) (by omega)
    replace b4 := bel_set b4 (p := ⟨w.heap.size, 1, none⟩) (by simp only; omega) (.slice BW lw.length cw)
    replace xa := xa.set 1 (.slice BW lw.length cw)
    replace qxd0 := xd.c (k := 0) rfl
    replace qxd1 := xd.c (k := 1) rfl
    replace qxf0 := xf.c (k := 0) rfl
    replace qxf1 := xf.c (k := 1) rfl
    refine hK.out _ _ ⟨qxd0, qxd1, qxf0, qxf1⟩ (fun hHeld => ?_)
    clear hK K
    try simp only [Act.put, List.setIfInBounds_toArray, List.set_cons_zero, List.set_cons_succ]
    refine wpAnyH_ready (rs := [7]) (by kernel_rfl) (by simp) ?_
    refine (AllReadyH.cons (o := { dst := none, op := Go.Op.store 29 (Go.Operand.tmp 3) (Go.Operand.tmp 38), type := 0, pos := "l3_work.go:202", after := #[{ on := 5, ground := Go.Ground.data }, { on := 6, ground := Go.Ground.chain }, { on := 0, ground := Go.Ground.phase }, { on := 1, ground := Go.Ground.phase }, { on := 2, ground := Go.Ground.phase }, { on := 3, ground := Go.Ground.phase }, { on := 4, ground := Go.Ground.phase }, { on := 5, ground := Go.Ground.phase }, { on := 6, ground := Go.Ground.phase }], guard := none }) rfl (fun K hK => ?_) AllReadyH.nil)
    have s0 := xb.c (k := 0) rfl
    have s1 := xb.c (k := 1) rfl
    have f0 := xb.f 0
    have f1 := xb.f 1
    go_simp
    try go_wp2_with fail
    clear s0 s1 f0 f1
    replace o2 := o2.box (k := 0) (v := .int .i64 at7) xb (by decide)
    replace o3 := o3.box (k := 0) (v := .int .i64 at7) xb (by decide)
    replace o7 := o7.box (k := 0) (v := .int .i64 at7) xb (by decide)
    replace xa := xa.other (B' := (w.heap.size + 1)) (k := 0) (x := .int .i64 at7) (by omega)
    replace xd := xd.other (B' := (w.heap.size + 1)) (k := 0) (x := .int .i64 at7) (by omega)
    replace xf := xf.other (B' := (w.heap.size + 1)) (k := 0) (x := .int .i64 at7) (by omega)
    replace b4 := bel_set b4 (p := ⟨(w.heap.size + 1), 0, none⟩) (by simp only; omega) (.int .i64 at7)
    replace xb := xb.set 0 (.int .i64 at7)
    replace o2 := o2.box (k := 1) (v := .slice A7 n7 c7) xb (by decide)
    replace o3 := o3.box (k := 1) (v := .slice A7 n7 c7) xb (by decide)
    replace o7 := o7.box (k := 1) (v := .slice A7 n7 c7) xb (by decide)
    replace xa := xa.other (B' := (w.heap.size + 1)) (k := 1) (x := .slice A7 n7 c7) (by omega)
    replace xd := xd.other (B' := (w.heap.size + 1)) (k := 1) (x := .slice A7 n7 c7) (by omega)
    replace xf := xf.other (B' := (w.heap.size + 1)) (k := 1) (x := .slice A7 n7 c7) (by omega)
    replace b4 := bel_set b4 (p := ⟨(w.heap.size + 1), 1, none⟩) (by simp only; omega) (.slice A7 n7 c7)
    replace xb := xb.set 1 (.slice A7 n7 c7)
    replace qxd0 := xd.c (k := 0) rfl
    replace qxd1 := xd.c (k := 1) rfl
    replace qxf0 := xf.c (k := 0) rfl
    replace qxf1 := xf.c (k := 1) rfl
    refine hK.out _ _ ⟨qxd0, qxd1, qxf0, qxf1⟩ (fun hHeld => ?_)
    clear hK K
    try simp only [Act.put, List.setIfInBounds_toArray, List.set_cons_zero, List.set_cons_succ]
    refine wpAnyH_done (by kernel_rfl) ?_ _
    have z0 := xa.c (k := 0) rfl
    have z1 := xa.c (k := 1) rfl
    have z2 := xb.c (k := 0) rfl
    have z3 := xb.c (k := 1) rfl
    have HOA := Lib.hid (o3.lower hz3)
    have HOB := Lib.hid (o7.lower hz6)
    have HBB := Lib.hid b4
    clear o2 o3 o7 b4
    go_wp2_with fail
    exact bodyPost_ret (v := .tuple #[.agg #[.int .i64 at_, .slice BW lw.length cw], .agg #[.int .i64 at7, .slice A7 n7 c7]]) (by simp [results, Try.results62, go_sem, z0, z1, z2, z3]) rfl ⟨at_, BW, lw.length, cw, lw, at7, A7, n7, c7, l7, rfl, HOA.out, HOB.out, by have := HLEN.out; omega, by have := HLEN.out; omega, HBB.out⟩
end Go.Proofs.Ytpofgidhhcolfaa
