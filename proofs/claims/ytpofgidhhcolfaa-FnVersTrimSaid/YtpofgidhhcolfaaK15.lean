/- The law FnVersTrim, walked. -/
import Derived.Test.YtpofgidhhcolfaaX12
import Derived.Test.YtpofgidhhcolfaaPV
import Derived.Test.YtpofgidhhcolfaaV10
import Derived.Test.YtpofgidhhcolfaaD7
import Derived.Test.YtpofgidhhcolfaaT5
namespace Go.Proofs.Ytpofgidhhcolfaa
open Go.RowKit

set_option maxHeartbeats 8000000 in
set_option maxRecDepth 100000 in
theorem lawFnVersTrim (A : Option Addr) (n c : Nat) (l : List UInt8) (w : World) (hr : Sl encB w w.heap.size A n l) (hn : n ≤ maxLen) (hc : n ≤ c) :
    Calls Try.prog 15 #[.slice A n c] w fun e w' => e = .returned (.bool true) ∧ Below w.heap.size w w' := by
  unfold maxLen at hn
  by_cases hbig : 1048576 < n
  · have hb : (1048576 : Int) < (n : Int) := by omega
    go_enter Try.func15, Try.ntmps15
    go_wp2
    go_ret
    exact ⟨rfl, Below.refl _ _⟩
  have hb : ¬ (1048576 : Int) < (n : Int) := by omega
  go_enter Try.func15, Try.ntmps15
  go_wp2_with fail
  refine (drawVersTrim A n c l w hr (by omega) hc).mono ?_
  rintro e w1 ⟨now, B, m, cb, lv, t, rfl, o1, hS, hm, hlo, hhi, b1⟩
  have HS := Lib.hid hS
  have HL := Lib.hid o1.len
  clear hr hn hc hb hbig hS
  have x2 := BoxC.new w1 39 #[.int .i64 now, .slice B m cb]
  have o2 := o1.alloc (.cells #[.int .i64 now, .slice B m cb] 39)
  have b2 := bel_alloc b1 (.cells #[.int .i64 now, .slice B m cb] 39)
  go_wp2_with fail
  obtain ⟨D, hD⟩ : ∃ D, w1.heap.size = D := ⟨_, rfl⟩
  rw [hD] at x2
  rw [hD]
  clear hD o1 b1
  generalize w1.alloc (.cells #[.int .i64 now, .slice B m cb] 39) = w2 at *
  have HM := Lib.hid hm
  clear hm
  obtain ⟨tn, htn⟩ : ∃ tn, trimNow now lv = tn := ⟨_, rfl⟩
  obtain ⟨tl, htl⟩ : ∃ tl, trimRes now lv t = tl := ⟨_, rfl⟩
  have HTM : Hid (tl.length ≤ m) := Lib.hid (by rw [← htl, ← HL.out]; exact trimRes_len now lv t)
  have HTN := Lib.hid htn
  have HTL := Lib.hid htl
  clear htn htl
  refine (implVersTrim now B m cb lv t w2 o2.sl HS.out (by have := HM.out; omega)).mono ?_
  rintro e w3 ⟨B1, c1, rfl, o3, hb3⟩
  rw [HTL.out] at o3
  rw [HTN.out, HTL.out]
  have x3 := (x2.on hb3).alloc (.cells #[.int .i64 tn, .slice B1 tl.length c1] 39)
  have y3 := BoxC.new w3 39 #[.int .i64 tn, .slice B1 tl.length c1]
  have o2' := (o2.on hb3).alloc (.cells #[.int .i64 tn, .slice B1 tl.length c1] 39)
  have o3' := o3.alloc (.cells #[.int .i64 tn, .slice B1 tl.length c1] 39)
  have b3 := bel_alloc (bel_trans b2 hb3) (.cells #[.int .i64 tn, .slice B1 tl.length c1] 39)
  go_wp2_with fail
  obtain ⟨E, hE⟩ : ∃ E, w3.heap.size = E := ⟨_, rfl⟩
  rw [hE] at y3
  rw [hE]
  clear hE o2 x2 b2 o3 hb3
  generalize w3.alloc (.cells #[.int .i64 tn, .slice B1 tl.length c1] 39) = w4 at *
  have HO := Lib.hid o2'
  have HE := Lib.hid o3'
  have HB := Lib.hid b3
  have HC : Hid (∀ W, Below w4.heap.size w4 W → W.cell? ⟨D, 0, none⟩ = some (.int .i64 now) ∧ W.cell? ⟨D, 1, none⟩ = some (.slice B m cb) ∧ D < W.heap.size ∧ W.cell? ⟨E, 0, none⟩ = some (.int .i64 tn) ∧ W.cell? ⟨E, 1, none⟩ = some (.slice B1 tl.length c1) ∧ E < W.heap.size) :=
    Lib.hid fun W hW => ⟨(x3.on hW).c (k := 0) rfl, (x3.on hW).c (k := 1) rfl, (x3.on hW).lt, (y3.on hW).c (k := 0) rfl, (y3.on hW).c (k := 1) rfl, (y3.on hW).lt⟩
  clear o2' o3' b3 x3 y3
  refine wp_region_held_drew (S := (fun W' => (W'.cell? ⟨D, 0, none⟩ = some (.int .i64 now) ∧ W'.cell? ⟨D, 1, none⟩ = some (.slice B m cb) ∧ D < W'.heap.size ∧ W'.cell? ⟨E, 0, none⟩ = some (.int .i64 tn) ∧ W'.cell? ⟨E, 1, none⟩ = some (.slice B1 tl.length c1) ∧ E < W'.heap.size) ∧ Below w4.heap.size w4 W')) (by kernel_rfl) ⟨HC.out _ (Below.refl _ _).drew, (Below.refl _ _).drew⟩ (fun hHeld => ?_)
  refine wpAnyH_take (i := 0) (oi := { dst := some 18, op := Go.Op.load 39 (Go.Operand.tmp 5), type := 39, pos := "laws.go:324", after := #[], guard := none }) (v := ?_) rfl (by kernel_rfl) (by kernel_rfl) (by kernel_rfl) (fun _ _ _ h => h) (Or.inl ⟨by rfl, ?hy0⟩) (by assumption) ?_
  case hy0 => ((intro w hSw; (try dsimp only at hSw); go_simp); try with_reducible rfl)
  try simp only [Act.put, List.setIfInBounds_toArray, List.set_cons_zero, List.set_cons_succ]
  refine wpAnyH_take (i := 1) (oi := { dst := some 19, op := Go.Op.load 39 (Go.Operand.tmp 3), type := 39, pos := "laws.go:324", after := #[], guard := none }) (v := ?_) rfl (by kernel_rfl) (by kernel_rfl) (by kernel_rfl) (fun _ _ _ h => h) (Or.inl ⟨by rfl, ?hy1⟩) (by assumption) ?_
  case hy1 => ((intro w hSw; (try dsimp only at hSw); go_simp); try with_reducible rfl)
  try simp only [Act.put, List.setIfInBounds_toArray, List.set_cons_zero, List.set_cons_succ]
  refine wpAnyH_take (i := 2) (oi := { dst := some 20, op := Go.Op.move (Go.Operand.tmp 4), type := 3, pos := "laws.go:324", after := #[], guard := none }) (v := ?_) rfl (by kernel_rfl) (by kernel_rfl) (by kernel_rfl) (fun _ _ _ h => h) (Or.inl ⟨by rfl, ?hy2⟩) (by assumption) ?_
  case hy2 => ((intro w hSw; (try dsimp only at hSw); go_simp); try with_reducible rfl)
  try simp only [Act.put, List.setIfInBounds_toArray, List.set_cons_zero, List.set_cons_succ]
  refine wpAnyH_ready (rs := [3]) (by kernel_rfl) (by simp) ?_
  refine AllReadyH.cons (o := { dst := some 21, op := Go.Op.call { callee := Go.Callee.value (Go.Operand.func 51), args := #[Go.Operand.tmp 19, Go.Operand.tmp 20], argTypes := #[39, 3] }, type := 39, pos := "laws.go:324", after := #[{ on := 1, ground := Go.Ground.data }, { on := 2, ground := Go.Ground.data }], guard := none }) rfl (fun K hK => ?_) AllReadyH.nil
  go_simp
  refine (specVersTrim now B m cb lv t _ (HO.out.on hHeld.2).sl HS.out (by have := HM.out; omega)).mono ?_
  rintro e wa ⟨A5, c5, rfl, o5, hba⟩
  rw [HTL.out] at o5
  rw [HTN.out, HTL.out]
  have hbA := bel_trans hHeld.2 hba
  go_wp2_with fail
  refine hK.out _ _ ⟨HC.out _ hbA, hbA⟩ (fun hHeld => ?_)
  clear hK K
  try simp only [Act.put, List.setIfInBounds_toArray, List.set_cons_zero, List.set_cons_succ]
  refine wpAnyH_ready (rs := [4]) (by kernel_rfl) (by simp) ?_
  refine AllReadyH.cons (o := { dst := some 22, op := Go.Op.call { callee := Go.Callee.value (Go.Operand.func 27), args := #[Go.Operand.tmp 18, Go.Operand.tmp 21], argTypes := #[39, 39] }, type := 4, pos := "laws.go:324", after := #[{ on := 0, ground := Go.Ground.data }, { on := 3, ground := Go.Ground.data }, { on := 3, ground := Go.Ground.chain }], guard := none }) rfl (fun K hK => ?_) AllReadyH.nil
  go_simp
  refine (implVersSame tn B1 tl.length c1 tl tn A5 tl.length c5 tl _ (HE.out.on hHeld.2).sl o5.sl (by have := HTM.out; have := HM.out; omega)).mono ?_
  rintro e wb ⟨rfl, hbb⟩
  rw [VersEq_self]
  have hb5 := bel_trans hbA hbb
  go_wp2_with fail
  refine hK.out _ _ ⟨HC.out _ hb5, hb5⟩ (fun hHeld => ?_)
  clear hK K
  try simp only [Act.put, List.setIfInBounds_toArray, List.set_cons_zero, List.set_cons_succ]
  refine wpAnyH_take (i := 5) (oi := { dst := some 23, op := Go.Op.unOp Go.UnOp.not 4 (Go.Operand.tmp 22), type := 4, pos := "laws.go:324", after := #[{ on := 4, ground := Go.Ground.data }], guard := none }) (v := ?_) rfl (by kernel_rfl) (by kernel_rfl) (by kernel_rfl) (fun _ _ _ h => h) (Or.inl ⟨by rfl, ?hy5⟩) (by assumption) ?_
  case hy5 => ((intro w hSw; (try dsimp only at hSw); go_simp); try with_reducible rfl)
  try simp only [Act.put, List.setIfInBounds_toArray, List.set_cons_zero, List.set_cons_succ]
  refine wpAnyH_done (by kernel_rfl) ?_ _
  obtain ⟨p0, p1, p2, s0, s1, s2⟩ := HC.out _ hb5
  clear hbA hbb hba o5
  go_wp2_with fail
  refine (specVersOk now B m cb lv _ (HO.out.on hb5).sl HS.out (by have := HM.out; omega)).mono ?_
  rintro e w6 ⟨rfl, hb6⟩
  have hb7 := bel_trans hb5 hb6
  clear p0 p1 p2 s0 s1 s2
  obtain ⟨p0, p1, p2, s0, s1, s2⟩ := HC.out w6 hb7
  clear hb5 hb6
  cases hok : versOk now lv
  · have h0 := trim_bad (t := t) hok
    have h1 : tn = 0 := by rw [← HTN.out]; exact h0.1
    have h2 : tl = [] := by rw [← HTL.out]; exact h0.2
    have HV : Hid (VersEq tn tl 0 [] = true) := Lib.hid (by rw [h1, h2]; exact VersEq_self 0 [])
    clear hok h0 h1 h2
    go_wp2_with fail
    refine (implVersSame tn B1 tl.length c1 tl 0 none 0 0 [] _ (HE.out.on hb7).sl (Sl.nil _ _ _ _) (by have := HTM.out; have := HM.out; omega)).mono ?_
    rintro e w8 ⟨rfl, hb8⟩
    rw [HV.out]
    go_wp2
    go_ret
    exact ⟨rfl, bel_trans HB.out (bel_trans hb7 hb8)⟩
  have HVP := Lib.hid (versOk_iff.1 hok)
  have HK := Lib.hid hok
  clear hok
  obtain ⟨k1, k2⟩ := trim_ok (t := t) HK.out
  rw [HTN.out] at k1
  rw [HTL.out] at k2
  subst k1
  have HTP : Hid (VersP tn tl) := Lib.hid (by rw [k2]; exact trim_P HVP.out t)
  have HTT : Hid (trimRes tn tl t = tl) := Lib.hid (by rw [(trim_ok (t := t) (versOk_true HTP.out)).2, k2, trim_trim])
  have HTTN : Hid (trimNow tn tl = tn) := Lib.hid (trim_ok (t := t) (versOk_true HTP.out)).1
  have HATL : Hid (∀ k, t ≤ k → atL tl k = atL lv k) := Lib.hid fun k hk => by rw [k2]; exact trim_at lv hk
  clear k2
  have n0 : 0 ≤ tn := HVP.out.1.1
  have n1 : tn ≤ 1000 := by have := HVP.out.1.2.1; omega
  have hLm : (tl.length : Int) ≤ (m : Int) := by have := HTM.out; omega
  have HATV : Hid (∀ k W, 0 ≤ k → k ≤ tn → Below w4.heap.size w4 W → Calls Try.prog 46 #[.agg #[.int .i64 tn, .slice B m cb], .int .i64 k] W (OwnPost W (atL lv k))) := Lib.hid fun k W h1 h2 hW => by
    have h := implVersAt tn B m cb lv k W (HO.out.on hW).sl HS.out (by have := HM.out; omega)
    rwa [atRes_ok HK.out (by omega) h2] at h
  have HATX : Hid (∀ k W, 0 ≤ k → k ≤ tn → t ≤ k → Below w4.heap.size w4 W → Calls Try.prog 46 #[.agg #[.int .i64 tn, .slice B1 tl.length c1], .int .i64 k] W (OwnPost W (atL lv k))) := Lib.hid fun k W h1 h2 h3 hW => by
    have h := implVersAt tn B1 tl.length c1 tl k W (HE.out.on hW).sl HTP.out.swf (by have := HTM.out; have := HM.out; omega)
    rwa [atRes_ok (versOk_true HTP.out) (by omega) h2, HATL.out k h3] at h
  have HRL : Hid (∀ k, 0 ≤ k → k ≤ tn → (atL lv k).length ≤ 1000) := Lib.hid fun k h1 h2 => by have := (at_rowsP HVP.out h1 h2).1; omega
  have HOKX : Hid (∀ W, Below w4.heap.size w4 W → Calls Try.prog 42 #[.agg #[.int .i64 tn, .slice B1 tl.length c1]] W fun e w' => e = .returned (.bool true) ∧ Below W.heap.size W w') := Lib.hid fun W hW => by
    have h := implVersOk tn B1 tl.length c1 tl W (HE.out.on hW).sl HTP.out.swf (by have := HTM.out; have := HM.out; omega)
    rwa [versOk_true HTP.out] at h
  have HTRX : Hid (∀ W, Below w4.heap.size w4 W → Calls Try.prog 52 #[.agg #[.int .i64 tn, .slice B1 tl.length c1], .int .i64 t] W (VersPost W tn tl)) := Lib.hid fun W hW => by
    have h := implVersTrim tn B1 tl.length c1 tl t W (HE.out.on hW).sl HTP.out.swf (by have := HTM.out; have := HM.out; omega)
    rwa [HTTN.out, HTT.out] at h
  go_wp2_with fail
  go_loopw [6] (fun v6 wr => ∃ k : Int, v6 = .int .i64 k ∧ 0 ≤ k ∧ k ≤ tn + 1 ∧ Below w4.heap.size w4 wr) (fun v6 _ => (tn + 1 - intOf v6).toNat)
  case atStart => exact ⟨0, rfl, by omega, by omega, hb7⟩
  case round =>
    clear hb7 p0 p1 p2 s0 s1 s2
    obtain ⟨k, rfl, k0, hk1, hbw⟩ := hrel
    obtain ⟨p0, p1, p2, s0, s1, s2⟩ := HC.out wr hbw
    by_cases hkn : k ≤ tn
    · have hk40 : k ≤ 1000 := by omega
      by_cases hkt : t ≤ k
      · go_wp2_with fail
        refine wp_region_held_drew (S := (fun W' => (W'.cell? ⟨D, 0, none⟩ = some (.int .i64 tn) ∧ W'.cell? ⟨D, 1, none⟩ = some (.slice B m cb) ∧ D < W'.heap.size ∧ W'.cell? ⟨E, 0, none⟩ = some (.int .i64 tn) ∧ W'.cell? ⟨E, 1, none⟩ = some (.slice B1 tl.length c1) ∧ E < W'.heap.size) ∧ Below w4.heap.size w4 W')) (by kernel_rfl) ⟨HC.out _ (bel_drewN hbw 1), (bel_drewN hbw 1)⟩ (fun hHeld => ?_)
        refine wpAnyH_take (i := 0) (oi := { dst := some 36, op := Go.Op.move (Go.Operand.tmp 6), type := 3, pos := "laws.go:331", after := #[], guard := none }) (v := ?_) rfl (by kernel_rfl) (by kernel_rfl) (by kernel_rfl) (fun _ _ _ h => h) (Or.inl ⟨by rfl, ?hyon0⟩) (by assumption) ?_
        case hyon0 => ((intro w hSw; (try dsimp only at hSw); go_simp); try with_reducible rfl)
        try simp only [Act.put, List.setIfInBounds_toArray, List.set_cons_zero, List.set_cons_succ]
        refine wpAnyH_take (i := 1) (oi := { dst := some 37, op := Go.Op.move (Go.Operand.tmp 4), type := 3, pos := "laws.go:331", after := #[], guard := none }) (v := ?_) rfl (by kernel_rfl) (by kernel_rfl) (by kernel_rfl) (fun _ _ _ h => h) (Or.inl ⟨by rfl, ?hyon1⟩) (by assumption) ?_
        case hyon1 => ((intro w hSw; (try dsimp only at hSw); go_simp); try with_reducible rfl)
        try simp only [Act.put, List.setIfInBounds_toArray, List.set_cons_zero, List.set_cons_succ]
        refine wpAnyH_take (i := 2) (oi := { dst := some 38, op := Go.Op.binOp Go.BinOp.geq 3 (Go.Operand.tmp 36) (Go.Operand.tmp 37) 3, type := 4, pos := "laws.go:331", after := #[{ on := 0, ground := Go.Ground.data }, { on := 1, ground := Go.Ground.data }], guard := none }) (v := ?_) rfl (by kernel_rfl) (by kernel_rfl) (by kernel_rfl) (fun _ _ _ h => h) (Or.inl ⟨by rfl, ?hyon2⟩) (by assumption) ?_
        case hyon2 => ((intro w hSw; (try dsimp only at hSw); go_simp); try with_reducible rfl)
        try simp only [Act.put, List.setIfInBounds_toArray, List.set_cons_zero, List.set_cons_succ]
        refine wpAnyH_take (i := 3) (oi := { dst := some 39, op := Go.Op.move (Go.Operand.tmp 38), type := 4, pos := "laws.go:331", after := #[{ on := 2, ground := Go.Ground.data }], guard := none }) (v := ?_) rfl (by kernel_rfl) (by kernel_rfl) (by kernel_rfl) (fun _ _ _ h => h) (Or.inl ⟨by rfl, ?hyon3⟩) (by assumption) ?_
        case hyon3 => ((intro w hSw; (try dsimp only at hSw); go_simp); try with_reducible rfl)
        try simp only [Act.put, List.setIfInBounds_toArray, List.set_cons_zero, List.set_cons_succ]
        refine wpAnyH_take (i := 4) (oi := { dst := some 40, op := Go.Op.load 39 (Go.Operand.tmp 5), type := 39, pos := "laws.go:331", after := #[{ on := 3, ground := Go.Ground.guard }], guard := some (3, true) }) (v := ?_) rfl (by kernel_rfl) (by kernel_rfl) (by kernel_rfl) (fun _ _ _ h => h) (Or.inl ⟨by rfl, ?hyon4⟩) (by assumption) ?_
        case hyon4 => ((intro w hSw; (try dsimp only at hSw); go_simp); try with_reducible rfl)
        try simp only [Act.put, List.setIfInBounds_toArray, List.set_cons_zero, List.set_cons_succ]
        refine wpAnyH_take (i := 5) (oi := { dst := some 41, op := Go.Op.move (Go.Operand.tmp 6), type := 3, pos := "laws.go:331", after := #[{ on := 3, ground := Go.Ground.guard }], guard := some (3, true) }) (v := ?_) rfl (by kernel_rfl) (by kernel_rfl) (by kernel_rfl) (fun _ _ _ h => h) (Or.inl ⟨by rfl, ?hyon5⟩) (by assumption) ?_
        case hyon5 => ((intro w hSw; (try dsimp only at hSw); go_simp); try with_reducible rfl)
        try simp only [Act.put, List.setIfInBounds_toArray, List.set_cons_zero, List.set_cons_succ]
        refine wpAnyH_take (i := 7) (oi := { dst := some 43, op := Go.Op.load 39 (Go.Operand.tmp 3), type := 39, pos := "laws.go:331", after := #[{ on := 3, ground := Go.Ground.guard }], guard := some (3, true) }) (v := ?_) rfl (by kernel_rfl) (by kernel_rfl) (by kernel_rfl) (fun _ _ _ h => h) (Or.inl ⟨by rfl, ?hyon7⟩) (by assumption) ?_
        case hyon7 => ((intro w hSw; (try dsimp only at hSw); go_simp); try with_reducible rfl)
        try simp only [Act.put, List.setIfInBounds_toArray, List.set_cons_zero, List.set_cons_succ]
        refine wpAnyH_take (i := 8) (oi := { dst := some 44, op := Go.Op.move (Go.Operand.tmp 6), type := 3, pos := "laws.go:331", after := #[{ on := 3, ground := Go.Ground.guard }], guard := some (3, true) }) (v := ?_) rfl (by kernel_rfl) (by kernel_rfl) (by kernel_rfl) (fun _ _ _ h => h) (Or.inl ⟨by rfl, ?hyon8⟩) (by assumption) ?_
        case hyon8 => ((intro w hSw; (try dsimp only at hSw); go_simp); try with_reducible rfl)
        try simp only [Act.put, List.setIfInBounds_toArray, List.set_cons_zero, List.set_cons_succ]
        refine wpAnyH_ready (rs := [6]) (by kernel_rfl) (by simp) ?_
        refine AllReadyH.cons (o := { dst := some 42, op := Go.Op.call { callee := Go.Callee.value (Go.Operand.func 46), args := #[Go.Operand.tmp 40, Go.Operand.tmp 41], argTypes := #[39, 3] }, type := 59, pos := "laws.go:331", after := #[{ on := 4, ground := Go.Ground.data }, { on := 5, ground := Go.Ground.data }, { on := 3, ground := Go.Ground.chain }, { on := 3, ground := Go.Ground.guard }], guard := some (3, true) }) rfl (fun K hK => ?_) AllReadyH.nil
        go_simp
        refine (HATX.out k _ k0 hkn hkt hHeld.2).mono ?_
        rintro e wa ⟨va, rfl, oa, hba⟩
        obtain ⟨RA, cA, rfl, -, -⟩ := oa.form
        have hbA := bel_trans hHeld.2 hba
        go_wp2_with fail
        refine hK.out _ _ ⟨HC.out _ hbA, hbA⟩ (fun hHeld => ?_)
        clear hK K
        try simp only [Act.put, List.setIfInBounds_toArray, List.set_cons_zero, List.set_cons_succ]
        refine wpAnyH_ready (rs := [9]) (by kernel_rfl) (by simp) ?_
        refine AllReadyH.cons (o := { dst := some 45, op := Go.Op.call { callee := Go.Callee.value (Go.Operand.func 46), args := #[Go.Operand.tmp 43, Go.Operand.tmp 44], argTypes := #[39, 3] }, type := 59, pos := "laws.go:331", after := #[{ on := 7, ground := Go.Ground.data }, { on := 8, ground := Go.Ground.data }, { on := 6, ground := Go.Ground.chain }, { on := 3, ground := Go.Ground.guard }], guard := some (3, true) }) rfl (fun K hK => ?_) AllReadyH.nil
        go_simp
        refine (HATV.out k _ k0 hkn hHeld.2).mono ?_
        rintro e wb ⟨vb, rfl, ob, hbb⟩
        obtain ⟨RB, cB, rfl, -, -⟩ := ob.form
        have hbB := bel_trans hHeld.2 hbb
        have oa2 := oa.on hbb
        go_wp2_with fail
        refine hK.out _ _ ⟨HC.out _ hbB, hbB⟩ (fun hHeld => ?_)
        clear hK K
        try simp only [Act.put, List.setIfInBounds_toArray, List.set_cons_zero, List.set_cons_succ]
        refine wpAnyH_ready (rs := [10]) (by kernel_rfl) (by simp) ?_
        refine AllReadyH.cons (o := { dst := some 46, op := Go.Op.call { callee := Go.Callee.value (Go.Operand.func 64), args := #[Go.Operand.tmp 42, Go.Operand.tmp 45], argTypes := #[59, 59] }, type := 4, pos := "laws.go:331", after := #[{ on := 6, ground := Go.Ground.data }, { on := 9, ground := Go.Ground.data }, { on := 9, ground := Go.Ground.chain }, { on := 3, ground := Go.Ground.guard }], guard := some (3, true) }) rfl (fun K hK => ?_) AllReadyH.nil
        go_simp
        refine (wpRows RA RB _ _ cA cB (atL lv k) (atL lv k) _ oa2.sl ob.sl (by have := HRL.out k k0 hkn; omega)).mono ?_
        rintro e wc ⟨rfl, hbc⟩
        rw [rowsEq_self]
        have hbC := bel_trans hbB hbc
        go_wp2_with fail
        refine hK.out _ _ ⟨HC.out _ hbC, hbC⟩ (fun hHeld => ?_)
        clear hK K
        try simp only [Act.put, List.setIfInBounds_toArray, List.set_cons_zero, List.set_cons_succ]
        refine wpAnyH_take (i := 11) (oi := { dst := some 47, op := Go.Op.unOp Go.UnOp.not 4 (Go.Operand.tmp 46), type := 4, pos := "laws.go:331", after := #[{ on := 10, ground := Go.Ground.data }, { on := 3, ground := Go.Ground.guard }], guard := some (3, true) }) (v := ?_) rfl (by kernel_rfl) (by kernel_rfl) (by kernel_rfl) (fun _ _ _ h => h) (Or.inl ⟨by rfl, ?hyon11⟩) (by assumption) ?_
        case hyon11 => ((intro w hSw; (try dsimp only at hSw); go_simp); try with_reducible rfl)
        try simp only [Act.put, List.setIfInBounds_toArray, List.set_cons_zero, List.set_cons_succ]
        refine wpAnyH_take (i := 12) (oi := { dst := some 48, op := Go.Op.pick (Go.Operand.tmp 39) (Go.Operand.tmp 47) (Go.Operand.const (Go.Value.bool false)), type := 4, pos := "laws.go:331", after := #[{ on := 3, ground := Go.Ground.data }, { on := 11, ground := Go.Ground.data }], guard := none }) (v := ?_) rfl (by kernel_rfl) (by kernel_rfl) (by kernel_rfl) (fun _ _ _ h => h) (Or.inl ⟨by rfl, ?hyon12⟩) (by assumption) ?_
        case hyon12 => ((intro w hSw; (try dsimp only at hSw); go_simp); try with_reducible rfl)
        try simp only [Act.put, List.setIfInBounds_toArray, List.set_cons_zero, List.set_cons_succ]
        refine wpAnyH_done (by kernel_rfl) ?_ _
        go_wp2_with fail
        go_roundw
        case rel => exact ⟨k + 1, by go_num, by omega, by omega, hbC⟩
        case measure => simp [intOf]; omega
      · have hkf : decide (t ≤ k) = false := by simp; omega
        go_wp2_with fail
        refine wp_region_held_drew (S := (fun W' => (W'.cell? ⟨D, 0, none⟩ = some (.int .i64 tn) ∧ W'.cell? ⟨D, 1, none⟩ = some (.slice B m cb) ∧ D < W'.heap.size ∧ W'.cell? ⟨E, 0, none⟩ = some (.int .i64 tn) ∧ W'.cell? ⟨E, 1, none⟩ = some (.slice B1 tl.length c1) ∧ E < W'.heap.size) ∧ Below w4.heap.size w4 W')) (by kernel_rfl) ⟨HC.out _ (bel_drewN hbw 1), (bel_drewN hbw 1)⟩ (fun hHeld => ?_)
        refine wpAnyH_take (i := 0) (oi := { dst := some 36, op := Go.Op.move (Go.Operand.tmp 6), type := 3, pos := "laws.go:331", after := #[], guard := none }) (v := ?_) rfl (by kernel_rfl) (by kernel_rfl) (by kernel_rfl) (fun _ _ _ h => h) (Or.inl ⟨by rfl, ?hyof0⟩) (by assumption) ?_
        case hyof0 => ((intro w hSw; (try dsimp only at hSw); go_simp); try with_reducible rfl)
        try simp only [Act.put, List.setIfInBounds_toArray, List.set_cons_zero, List.set_cons_succ]
        refine wpAnyH_take (i := 1) (oi := { dst := some 37, op := Go.Op.move (Go.Operand.tmp 4), type := 3, pos := "laws.go:331", after := #[], guard := none }) (v := ?_) rfl (by kernel_rfl) (by kernel_rfl) (by kernel_rfl) (fun _ _ _ h => h) (Or.inl ⟨by rfl, ?hyof1⟩) (by assumption) ?_
        case hyof1 => ((intro w hSw; (try dsimp only at hSw); go_simp); try with_reducible rfl)
        try simp only [Act.put, List.setIfInBounds_toArray, List.set_cons_zero, List.set_cons_succ]
        refine wpAnyH_take (i := 2) (oi := { dst := some 38, op := Go.Op.binOp Go.BinOp.geq 3 (Go.Operand.tmp 36) (Go.Operand.tmp 37) 3, type := 4, pos := "laws.go:331", after := #[{ on := 0, ground := Go.Ground.data }, { on := 1, ground := Go.Ground.data }], guard := none }) (v := ?_) rfl (by kernel_rfl) (by kernel_rfl) (by kernel_rfl) (fun _ _ _ h => h) (Or.inl ⟨by rfl, ?hyof2⟩) (by assumption) ?_
        case hyof2 => ((intro w hSw; (try dsimp only at hSw); go_simp); try with_reducible rfl)
        try simp only [Act.put, List.setIfInBounds_toArray, List.set_cons_zero, List.set_cons_succ]
        refine wpAnyH_take (i := 3) (oi := { dst := some 39, op := Go.Op.move (Go.Operand.tmp 38), type := 4, pos := "laws.go:331", after := #[{ on := 2, ground := Go.Ground.data }], guard := none }) (v := ?_) rfl (by kernel_rfl) (by kernel_rfl) (by kernel_rfl) (fun _ _ _ h => h) (Or.inl ⟨by rfl, ?hyof3⟩) (by assumption) ?_
        case hyof3 => ((intro w hSw; (try dsimp only at hSw); go_simp); try with_reducible rfl)
        try simp only [Act.put, List.setIfInBounds_toArray, List.set_cons_zero, List.set_cons_succ]
        refine wpAnyH_take (i := 4) (oi := { dst := some 40, op := Go.Op.load 39 (Go.Operand.tmp 5), type := 39, pos := "laws.go:331", after := #[{ on := 3, ground := Go.Ground.guard }], guard := some (3, true) }) (v := undef) rfl (by kernel_rfl) (by kernel_rfl) (by kernel_rfl) (fun _ _ _ h => h) (Or.inr ⟨by rfl, rfl⟩) (by assumption) ?_
        try simp only [Act.put, List.setIfInBounds_toArray, List.set_cons_zero, List.set_cons_succ]
        refine wpAnyH_take (i := 5) (oi := { dst := some 41, op := Go.Op.move (Go.Operand.tmp 6), type := 3, pos := "laws.go:331", after := #[{ on := 3, ground := Go.Ground.guard }], guard := some (3, true) }) (v := undef) rfl (by kernel_rfl) (by kernel_rfl) (by kernel_rfl) (fun _ _ _ h => h) (Or.inr ⟨by rfl, rfl⟩) (by assumption) ?_
        try simp only [Act.put, List.setIfInBounds_toArray, List.set_cons_zero, List.set_cons_succ]
        refine wpAnyH_take (i := 6) (oi := { dst := some 42, op := Go.Op.call { callee := Go.Callee.value (Go.Operand.func 46), args := #[Go.Operand.tmp 40, Go.Operand.tmp 41], argTypes := #[39, 3] }, type := 59, pos := "laws.go:331", after := #[{ on := 4, ground := Go.Ground.data }, { on := 5, ground := Go.Ground.data }, { on := 3, ground := Go.Ground.chain }, { on := 3, ground := Go.Ground.guard }], guard := some (3, true) }) (v := undef) rfl (by kernel_rfl) (by kernel_rfl) (by kernel_rfl) (fun _ _ _ h => h) (Or.inr ⟨by rfl, rfl⟩) (by assumption) ?_
        try simp only [Act.put, List.setIfInBounds_toArray, List.set_cons_zero, List.set_cons_succ]
        refine wpAnyH_take (i := 7) (oi := { dst := some 43, op := Go.Op.load 39 (Go.Operand.tmp 3), type := 39, pos := "laws.go:331", after := #[{ on := 3, ground := Go.Ground.guard }], guard := some (3, true) }) (v := undef) rfl (by kernel_rfl) (by kernel_rfl) (by kernel_rfl) (fun _ _ _ h => h) (Or.inr ⟨by rfl, rfl⟩) (by assumption) ?_
        try simp only [Act.put, List.setIfInBounds_toArray, List.set_cons_zero, List.set_cons_succ]
        refine wpAnyH_take (i := 8) (oi := { dst := some 44, op := Go.Op.move (Go.Operand.tmp 6), type := 3, pos := "laws.go:331", after := #[{ on := 3, ground := Go.Ground.guard }], guard := some (3, true) }) (v := undef) rfl (by kernel_rfl) (by kernel_rfl) (by kernel_rfl) (fun _ _ _ h => h) (Or.inr ⟨by rfl, rfl⟩) (by assumption) ?_
        try simp only [Act.put, List.setIfInBounds_toArray, List.set_cons_zero, List.set_cons_succ]
        refine wpAnyH_take (i := 9) (oi := { dst := some 45, op := Go.Op.call { callee := Go.Callee.value (Go.Operand.func 46), args := #[Go.Operand.tmp 43, Go.Operand.tmp 44], argTypes := #[39, 3] }, type := 59, pos := "laws.go:331", after := #[{ on := 7, ground := Go.Ground.data }, { on := 8, ground := Go.Ground.data }, { on := 6, ground := Go.Ground.chain }, { on := 3, ground := Go.Ground.guard }], guard := some (3, true) }) (v := undef) rfl (by kernel_rfl) (by kernel_rfl) (by kernel_rfl) (fun _ _ _ h => h) (Or.inr ⟨by rfl, rfl⟩) (by assumption) ?_
        try simp only [Act.put, List.setIfInBounds_toArray, List.set_cons_zero, List.set_cons_succ]
        refine wpAnyH_take (i := 10) (oi := { dst := some 46, op := Go.Op.call { callee := Go.Callee.value (Go.Operand.func 64), args := #[Go.Operand.tmp 42, Go.Operand.tmp 45], argTypes := #[59, 59] }, type := 4, pos := "laws.go:331", after := #[{ on := 6, ground := Go.Ground.data }, { on := 9, ground := Go.Ground.data }, { on := 9, ground := Go.Ground.chain }, { on := 3, ground := Go.Ground.guard }], guard := some (3, true) }) (v := undef) rfl (by kernel_rfl) (by kernel_rfl) (by kernel_rfl) (fun _ _ _ h => h) (Or.inr ⟨by rfl, rfl⟩) (by assumption) ?_
        try simp only [Act.put, List.setIfInBounds_toArray, List.set_cons_zero, List.set_cons_succ]
        refine wpAnyH_take (i := 11) (oi := { dst := some 47, op := Go.Op.unOp Go.UnOp.not 4 (Go.Operand.tmp 46), type := 4, pos := "laws.go:331", after := #[{ on := 10, ground := Go.Ground.data }, { on := 3, ground := Go.Ground.guard }], guard := some (3, true) }) (v := undef) rfl (by kernel_rfl) (by kernel_rfl) (by kernel_rfl) (fun _ _ _ h => h) (Or.inr ⟨by rfl, rfl⟩) (by assumption) ?_
        try simp only [Act.put, List.setIfInBounds_toArray, List.set_cons_zero, List.set_cons_succ]
        refine wpAnyH_take (i := 12) (oi := { dst := some 48, op := Go.Op.pick (Go.Operand.tmp 39) (Go.Operand.tmp 47) (Go.Operand.const (Go.Value.bool false)), type := 4, pos := "laws.go:331", after := #[{ on := 3, ground := Go.Ground.data }, { on := 11, ground := Go.Ground.data }], guard := none }) (v := ?_) rfl (by kernel_rfl) (by kernel_rfl) (by kernel_rfl) (fun _ _ _ h => h) (Or.inl ⟨by rfl, ?hyof12⟩) (by assumption) ?_
        case hyof12 => ((intro w hSw; (try dsimp only at hSw); go_simp); try with_reducible rfl)
        try simp only [Act.put, List.setIfInBounds_toArray, List.set_cons_zero, List.set_cons_succ]
        refine wpAnyH_done (by kernel_rfl) ?_ _
        go_wp2_with fail
        go_roundw
        case rel => exact ⟨k + 1, by go_num, by omega, by omega, bel_drewN hbw 1⟩
        case measure => simp [intOf]; omega
    · go_wp2_with fail
      refine wp_region_held_drew (S := (fun W' => (W'.cell? ⟨D, 0, none⟩ = some (.int .i64 tn) ∧ W'.cell? ⟨D, 1, none⟩ = some (.slice B m cb) ∧ D < W'.heap.size ∧ W'.cell? ⟨E, 0, none⟩ = some (.int .i64 tn) ∧ W'.cell? ⟨E, 1, none⟩ = some (.slice B1 tl.length c1) ∧ E < W'.heap.size) ∧ Below w4.heap.size w4 W')) (by kernel_rfl) ⟨HC.out _ (bel_drewN hbw 1), (bel_drewN hbw 1)⟩ (fun hHeld => ?_)
      refine wpAnyH_take (i := 0) (oi := { dst := some 49, op := Go.Op.load 39 (Go.Operand.tmp 5), type := 39, pos := "laws.go:335", after := #[], guard := none }) (v := ?_) rfl (by kernel_rfl) (by kernel_rfl) (by kernel_rfl) (fun _ _ _ h => h) (Or.inl ⟨by rfl, ?hyen0⟩) (by assumption) ?_
      case hyen0 => ((intro w hSw; (try dsimp only at hSw); go_simp); try with_reducible rfl)
      try simp only [Act.put, List.setIfInBounds_toArray, List.set_cons_zero, List.set_cons_succ]
      refine wpAnyH_ready (rs := [1]) (by kernel_rfl) (by simp) ?_
      refine AllReadyH.cons (o := { dst := some 50, op := Go.Op.call { callee := Go.Callee.value (Go.Operand.func 42), args := #[Go.Operand.tmp 49], argTypes := #[39] }, type := 4, pos := "laws.go:335", after := #[{ on := 0, ground := Go.Ground.data }], guard := none }) rfl (fun K hK => ?_) AllReadyH.nil
      go_simp
      refine (HOKX.out _ hHeld.2).mono ?_
      rintro e wa ⟨rfl, hba⟩
      have hbA := bel_trans hHeld.2 hba
      go_wp2_with fail
      refine hK.out _ _ ⟨HC.out _ hbA, hbA⟩ (fun hHeld => ?_)
      clear hK K
      try simp only [Act.put, List.setIfInBounds_toArray, List.set_cons_zero, List.set_cons_succ]
      refine wpAnyH_take (i := 2) (oi := { dst := some 51, op := Go.Op.move (Go.Operand.tmp 50), type := 4, pos := "laws.go:335", after := #[{ on := 1, ground := Go.Ground.data }, { on := 1, ground := Go.Ground.chain }], guard := none }) (v := ?_) rfl (by kernel_rfl) (by kernel_rfl) (by kernel_rfl) (fun _ _ _ h => h) (Or.inl ⟨by rfl, ?hyen2⟩) (by assumption) ?_
      case hyen2 => ((intro w hSw; (try dsimp only at hSw); go_simp); try with_reducible rfl)
      try simp only [Act.put, List.setIfInBounds_toArray, List.set_cons_zero, List.set_cons_succ]
      refine wpAnyH_take (i := 3) (oi := { dst := some 52, op := Go.Op.fieldAddr 39 (Go.Operand.tmp 5) 1, type := 0, pos := "laws.go:335", after := #[{ on := 2, ground := Go.Ground.guard }], guard := some (2, true) }) (v := ?_) rfl (by kernel_rfl) (by kernel_rfl) (by kernel_rfl) (fun _ _ _ h => h) (Or.inl ⟨by rfl, ?hyen3⟩) (by assumption) ?_
      case hyen3 => ((intro w hSw; (try dsimp only at hSw); go_simp); try with_reducible rfl)
      try simp only [Act.put, List.setIfInBounds_toArray, List.set_cons_zero, List.set_cons_succ]
      refine wpAnyH_take (i := 4) (oi := { dst := some 53, op := Go.Op.load 37 (Go.Operand.tmp 52), type := 37, pos := "laws.go:335", after := #[{ on := 3, ground := Go.Ground.data }, { on := 2, ground := Go.Ground.guard }], guard := some (2, true) }) (v := ?_) rfl (by kernel_rfl) (by kernel_rfl) (by kernel_rfl) (fun _ _ _ h => h) (Or.inl ⟨by rfl, ?hyen4⟩) (by assumption) ?_
      case hyen4 => ((intro w hSw; (try dsimp only at hSw); go_simp); try with_reducible rfl)
      try simp only [Act.put, List.setIfInBounds_toArray, List.set_cons_zero, List.set_cons_succ]
      refine wpAnyH_take (i := 5) (oi := { dst := some 54, op := Go.Op.call { callee := Go.Callee.builtin Go.Builtin.len, args := #[Go.Operand.tmp 53], argTypes := #[37] }, type := 3, pos := "laws.go:335", after := #[{ on := 4, ground := Go.Ground.data }, { on := 2, ground := Go.Ground.guard }], guard := some (2, true) }) (v := ?_) rfl (by kernel_rfl) (by kernel_rfl) (by kernel_rfl) (fun _ _ _ h => h) (Or.inl ⟨by rfl, ?hyen5⟩) (by assumption) ?_
      case hyen5 => ((intro w hSw; (try dsimp only at hSw); go_simp); try with_reducible rfl)
      try simp only [Act.put, List.setIfInBounds_toArray, List.set_cons_zero, List.set_cons_succ]
      refine wpAnyH_take (i := 6) (oi := { dst := some 55, op := Go.Op.fieldAddr 39 (Go.Operand.tmp 3) 1, type := 0, pos := "laws.go:335", after := #[{ on := 2, ground := Go.Ground.guard }], guard := some (2, true) }) (v := ?_) rfl (by kernel_rfl) (by kernel_rfl) (by kernel_rfl) (fun _ _ _ h => h) (Or.inl ⟨by rfl, ?hyen6⟩) (by assumption) ?_
      case hyen6 => ((intro w hSw; (try dsimp only at hSw); go_simp); try with_reducible rfl)
      try simp only [Act.put, List.setIfInBounds_toArray, List.set_cons_zero, List.set_cons_succ]
      refine wpAnyH_take (i := 7) (oi := { dst := some 56, op := Go.Op.load 37 (Go.Operand.tmp 55), type := 37, pos := "laws.go:335", after := #[{ on := 6, ground := Go.Ground.data }, { on := 2, ground := Go.Ground.guard }], guard := some (2, true) }) (v := ?_) rfl (by kernel_rfl) (by kernel_rfl) (by kernel_rfl) (fun _ _ _ h => h) (Or.inl ⟨by rfl, ?hyen7⟩) (by assumption) ?_
      case hyen7 => ((intro w hSw; (try dsimp only at hSw); go_simp); try with_reducible rfl)
      try simp only [Act.put, List.setIfInBounds_toArray, List.set_cons_zero, List.set_cons_succ]
      refine wpAnyH_take (i := 8) (oi := { dst := some 57, op := Go.Op.call { callee := Go.Callee.builtin Go.Builtin.len, args := #[Go.Operand.tmp 56], argTypes := #[37] }, type := 3, pos := "laws.go:335", after := #[{ on := 7, ground := Go.Ground.data }, { on := 2, ground := Go.Ground.guard }], guard := some (2, true) }) (v := ?_) rfl (by kernel_rfl) (by kernel_rfl) (by kernel_rfl) (fun _ _ _ h => h) (Or.inl ⟨by rfl, ?hyen8⟩) (by assumption) ?_
      case hyen8 => ((intro w hSw; (try dsimp only at hSw); go_simp); try with_reducible rfl)
      try simp only [Act.put, List.setIfInBounds_toArray, List.set_cons_zero, List.set_cons_succ]
      refine wpAnyH_take (i := 9) (oi := { dst := some 58, op := Go.Op.binOp Go.BinOp.leq 3 (Go.Operand.tmp 54) (Go.Operand.tmp 57) 3, type := 4, pos := "laws.go:335", after := #[{ on := 5, ground := Go.Ground.data }, { on := 8, ground := Go.Ground.data }, { on := 2, ground := Go.Ground.guard }], guard := some (2, true) }) (v := ?_) rfl (by kernel_rfl) (by kernel_rfl) (by kernel_rfl) (fun _ _ _ h => h) (Or.inl ⟨by rfl, ?hyen9⟩) (by assumption) ?_
      case hyen9 => ((intro w hSw; (try dsimp only at hSw); go_simp); try with_reducible rfl)
      try simp only [Act.put, List.setIfInBounds_toArray, List.set_cons_zero, List.set_cons_succ]
      refine wpAnyH_take (i := 10) (oi := { dst := some 59, op := Go.Op.pick (Go.Operand.tmp 51) (Go.Operand.tmp 58) (Go.Operand.const (Go.Value.bool false)), type := 4, pos := "laws.go:335", after := #[{ on := 2, ground := Go.Ground.data }, { on := 9, ground := Go.Ground.data }], guard := none }) (v := ?_) rfl (by kernel_rfl) (by kernel_rfl) (by kernel_rfl) (fun _ _ _ h => h) (Or.inl ⟨by rfl, ?hyen10⟩) (by assumption) ?_
      case hyen10 => ((intro w hSw; (try dsimp only at hSw); go_simp); try with_reducible rfl)
      try simp only [Act.put, List.setIfInBounds_toArray, List.set_cons_zero, List.set_cons_succ]
      refine wpAnyH_take (i := 11) (oi := { dst := some 60, op := Go.Op.move (Go.Operand.tmp 59), type := 4, pos := "laws.go:335", after := #[{ on := 10, ground := Go.Ground.data }, { on := 2, ground := Go.Ground.chain }], guard := none }) (v := ?_) rfl (by kernel_rfl) (by kernel_rfl) (by kernel_rfl) (fun _ _ _ h => h) (Or.inl ⟨by rfl, ?hyen11⟩) (by assumption) ?_
      case hyen11 => ((intro w hSw; (try dsimp only at hSw); go_simp); try with_reducible rfl)
      try simp only [Act.put, List.setIfInBounds_toArray, List.set_cons_zero, List.set_cons_succ]
      refine wpAnyH_take (i := 12) (oi := { dst := some 61, op := Go.Op.load 39 (Go.Operand.tmp 5), type := 39, pos := "laws.go:335", after := #[{ on := 11, ground := Go.Ground.guard }], guard := some (11, true) }) (v := ?_) rfl (by kernel_rfl) (by kernel_rfl) (by kernel_rfl) (fun _ _ _ h => h) (Or.inl ⟨by rfl, ?hyen12⟩) (by assumption) ?_
      case hyen12 => ((intro w hSw; (try dsimp only at hSw); go_simp); try with_reducible rfl)
      try simp only [Act.put, List.setIfInBounds_toArray, List.set_cons_zero, List.set_cons_succ]
      refine wpAnyH_take (i := 13) (oi := { dst := some 62, op := Go.Op.move (Go.Operand.tmp 4), type := 3, pos := "laws.go:335", after := #[{ on := 11, ground := Go.Ground.guard }], guard := some (11, true) }) (v := ?_) rfl (by kernel_rfl) (by kernel_rfl) (by kernel_rfl) (fun _ _ _ h => h) (Or.inl ⟨by rfl, ?hyen13⟩) (by assumption) ?_
      case hyen13 => ((intro w hSw; (try dsimp only at hSw); go_simp); try with_reducible rfl)
      try simp only [Act.put, List.setIfInBounds_toArray, List.set_cons_zero, List.set_cons_succ]
      refine wpAnyH_take (i := 15) (oi := { dst := some 64, op := Go.Op.load 39 (Go.Operand.tmp 5), type := 39, pos := "laws.go:335", after := #[{ on := 11, ground := Go.Ground.guard }], guard := some (11, true) }) (v := ?_) rfl (by kernel_rfl) (by kernel_rfl) (by kernel_rfl) (fun _ _ _ h => h) (Or.inl ⟨by rfl, ?hyen15⟩) (by assumption) ?_
      case hyen15 => ((intro w hSw; (try dsimp only at hSw); go_simp); try with_reducible rfl)
      try simp only [Act.put, List.setIfInBounds_toArray, List.set_cons_zero, List.set_cons_succ]
      refine wpAnyH_ready (rs := [14]) (by kernel_rfl) (by simp) ?_
      refine AllReadyH.cons (o := { dst := some 63, op := Go.Op.call { callee := Go.Callee.value (Go.Operand.func 52), args := #[Go.Operand.tmp 61, Go.Operand.tmp 62], argTypes := #[39, 3] }, type := 39, pos := "laws.go:335", after := #[{ on := 12, ground := Go.Ground.data }, { on := 13, ground := Go.Ground.data }, { on := 11, ground := Go.Ground.chain }, { on := 11, ground := Go.Ground.guard }], guard := some (11, true) }) rfl (fun K hK => ?_) AllReadyH.nil
      go_simp
      refine (HTRX.out _ hHeld.2).mono ?_
      rintro e wb ⟨A6, c6, rfl, o6, hbb⟩
      have hbB := bel_trans hHeld.2 hbb
      go_wp2_with fail
      refine hK.out _ _ ⟨HC.out _ hbB, hbB⟩ (fun hHeld => ?_)
      clear hK K
      try simp only [Act.put, List.setIfInBounds_toArray, List.set_cons_zero, List.set_cons_succ]
      refine wpAnyH_ready (rs := [16]) (by kernel_rfl) (by simp) ?_
      refine AllReadyH.cons (o := { dst := some 65, op := Go.Op.call { callee := Go.Callee.value (Go.Operand.func 27), args := #[Go.Operand.tmp 63, Go.Operand.tmp 64], argTypes := #[39, 39] }, type := 4, pos := "laws.go:335", after := #[{ on := 14, ground := Go.Ground.data }, { on := 15, ground := Go.Ground.data }, { on := 14, ground := Go.Ground.chain }, { on := 11, ground := Go.Ground.guard }], guard := some (11, true) }) rfl (fun K hK => ?_) AllReadyH.nil
      go_simp
      refine (implVersSame tn A6 tl.length c6 tl tn B1 tl.length c1 tl _ o6.sl (HE.out.on hHeld.2).sl (by have := HTM.out; have := HM.out; omega)).mono ?_
      rintro e wc ⟨rfl, hbc⟩
      rw [VersEq_self]
      have hbC := bel_trans hbB hbc
      go_wp2_with fail
      refine hK.out _ _ ⟨HC.out _ hbC, hbC⟩ (fun hHeld => ?_)
      clear hK K
      try simp only [Act.put, List.setIfInBounds_toArray, List.set_cons_zero, List.set_cons_succ]
      refine wpAnyH_take (i := 17) (oi := { dst := some 66, op := Go.Op.pick (Go.Operand.tmp 60) (Go.Operand.tmp 65) (Go.Operand.const (Go.Value.bool false)), type := 4, pos := "laws.go:335", after := #[{ on := 11, ground := Go.Ground.data }, { on := 16, ground := Go.Ground.data }], guard := none }) (v := ?_) rfl (by kernel_rfl) (by kernel_rfl) (by kernel_rfl) (fun _ _ _ h => h) (Or.inl ⟨by rfl, ?hyen17⟩) (by assumption) ?_
      case hyen17 => ((intro w hSw; (try dsimp only at hSw); go_simp); try with_reducible rfl)
      try simp only [Act.put, List.setIfInBounds_toArray, List.set_cons_zero, List.set_cons_succ]
      refine wpAnyH_take (i := 18) (oi := { dst := some 2, op := Go.Op.assign (Go.Operand.tmp 66), type := 4, pos := "laws.go:335", after := #[{ on := 17, ground := Go.Ground.data }, { on := 16, ground := Go.Ground.chain }, { on := 0, ground := Go.Ground.phase }, { on := 1, ground := Go.Ground.phase }, { on := 2, ground := Go.Ground.phase }, { on := 3, ground := Go.Ground.phase }, { on := 4, ground := Go.Ground.phase }, { on := 5, ground := Go.Ground.phase }, { on := 6, ground := Go.Ground.phase }, { on := 7, ground := Go.Ground.phase }, { on := 8, ground := Go.Ground.phase }, { on := 9, ground := Go.Ground.phase }, { on := 10, ground := Go.Ground.phase }, { on := 11, ground := Go.Ground.phase }, { on := 12, ground := Go.Ground.phase }, { on := 13, ground := Go.Ground.phase }, { on := 14, ground := Go.Ground.phase }, { on := 15, ground := Go.Ground.phase }, { on := 16, ground := Go.Ground.phase }, { on := 17, ground := Go.Ground.phase }], guard := none }) (v := ?_) rfl (by kernel_rfl) (by kernel_rfl) (by kernel_rfl) (fun _ _ _ h => h) (Or.inl ⟨by rfl, ?hyen18⟩) (by assumption) ?_
      case hyen18 => ((intro w hSw; (try dsimp only at hSw); go_simp); try with_reducible rfl)
      try simp only [Act.put, List.setIfInBounds_toArray, List.set_cons_zero, List.set_cons_succ]
      refine wpAnyH_done (by kernel_rfl) ?_ _
      go_wp2
      go_ret
      exact ⟨rfl, bel_trans HB.out hbC⟩
end Go.Proofs.Ytpofgidhhcolfaa
