/- The law FnExactVersAt, walked. -/
import Derived.Test.YtpofgidhhcolfaaV10
import Derived.Test.YtpofgidhhcolfaaMX
import Derived.Test.YtpofgidhhcolfaaMR
namespace Go.Proofs.Ytpofgidhhcolfaa
open Go.RowKit

set_option maxHeartbeats 4000000 in
set_option maxRecDepth 100000 in
theorem lawFnExactVersAt (now : Int) (A : Option Addr) (n c : Nat) (l : List Ver) (t : Int) (w : World) (hr : Sl encVer w w.heap.size A n l) (hk : VerSWf l) (hn : n ≤ maxLen) (_ht : (Lit.int .i64 t).wf = true) :
    Calls Try.prog 9 #[.agg #[.int .i64 now, .slice A n c], .int .i64 t] w fun e w' => e = .returned (.bool true) ∧ Below w.heap.size w w' := by
  have HN := Lib.hid hn
  clear hn _ht
  have hDl := atRes_len now l t
  obtain ⟨D, hD⟩ : ∃ D, atRes now l t = D := ⟨_, rfl⟩
  rw [hD] at hDl
  have HD := Lib.hid hD
  clear hD
  have he1 := rowsEq_self D
  have ha1 := bel_alloc (Below.refl _ w) (.cells #[.int .i64 now, .slice A n c] 34)
  obtain ⟨ca0, ca1⟩ := cell_new2Vers w (.int .i64 now) (.slice A n c) 34
  have b2 := bel_trans (Below.refl _ w) ha1
  clear ha1
  go_enter Try.func9, Try.ntmps9
  go_wp2_with fail
  refine (szVers now A n c l _ _ (hr.on b2) hk HN.out (by omega) (by omega)).mono ?_
  rintro e w3 ⟨v, rfl, hv0, hv1, hv2, hb3⟩
  replace ca0 := keepC hb3 ca0
  replace ca1 := keepC hb3 ca1
  have b4 := bel_trans b2 hb3
  clear b2
  clear hb3
  go_wp2_with fail
  · go_ret
    exact ⟨rfl, b4⟩
  have HN2 := Lib.hid (show n ≤ 1048576 by have h3 := hv2 (by omega); omega)
  clear hv2
  refine (toVers now A n c l _ (hr.on b4) HN2.out).mono ?_
  rintro e w5 ⟨gy, rfl, oy, hb5⟩
  have zy := fun x hx => Nat.le_trans b4.size (oy.block (a := x) hx).1
  have eay := oy.after ca0
  replace ca0 := keepC hb5 ca0
  replace ca1 := keepC hb5 ca1
  have b6 := bel_trans b4 hb5
  clear b4
  clear hb5
  go_wp2_with fail
  refine (specVersAt now _ n n l t _ oy.sl hk HN2.out).mono ?_
  rintro e w7 ⟨vW, rfl, oW, hb7⟩
  rw [HD.out] at oW
  obtain ⟨AW, cW, rfl, -, -⟩ := oW.form
  have zW := fun x hx => Nat.le_trans b6.size (oW.block (a := x) hx).1
  have eaW := oW.after ca0
  have dyW := oy.apart oW (Nat.le_refl _)
  replace ca0 := keepC hb7 ca0
  replace ca1 := keepC hb7 ca1
  replace oy := oy.on hb7
  have b8 := bel_trans b6 hb7
  clear b6
  clear hb7
  go_wp2_with fail
  clear oy zy eay dyW
  refine (toVers now A n c l _ (hr.on b8) HN2.out).mono ?_
  rintro e w9 ⟨gx, rfl, ox, hb9⟩
  have zx := fun x hx => Nat.le_trans b8.size (ox.block (a := x) hx).1
  have eax := ox.after ca0
  have dWx := oW.apart ox (Nat.le_refl _)
  replace ca0 := keepC hb9 ca0
  replace ca1 := keepC hb9 ca1
  replace oW := oW.on hb9
  have b10 := bel_trans b8 hb9
  clear b8
  clear hb9
  have exW := oW.before
  have exx := ox.before
  have ha11 := bel_alloc (Below.refl _ w9) (.cells #[.int .i64 now, .slice (some ⟨gx, 0, none⟩) n n] 39)
  obtain ⟨cx0, cx1⟩ := cell_new2Vers w9 (.int .i64 now) (.slice (some ⟨gx, 0, none⟩) n n) 39
  replace ca0 := keepC ha11 ca0
  replace ca1 := keepC ha11 ca1
  replace oW := oW.on ha11
  replace ox := ox.on ha11
  have b12 := bel_trans b10 ha11
  clear b10
  clear ha11
  go_wp2_with fail
  refine (implVersAt now _ n n l t _ ox.sl hk HN2.out).mono ?_
  rintro e w13 ⟨vg, rfl, og, hb13⟩
  rw [HD.out] at og
  obtain ⟨Ag, cg, rfl, -, -⟩ := og.form
  have zg := fun x hx => Nat.le_trans b12.size (og.block (a := x) hx).1
  have eag := og.after ca0
  have exg := og.after cx0
  have dWg := oW.apart og (Nat.le_refl _)
  have dxg := ox.apart og (Nat.le_refl _)
  replace ca0 := keepC hb13 ca0
  replace ca1 := keepC hb13 ca1
  replace cx0 := keepC hb13 cx0
  replace cx1 := keepC hb13 cx1
  replace oW := oW.on hb13
  replace ox := ox.on hb13
  have b14 := bel_trans b12 hb13
  clear b12
  clear hb13
  obtain ⟨Bx, hBx⟩ : ∃ Bx, w9.heap.size = Bx := ⟨_, rfl⟩
  rw [hBx] at cx0 cx1 exW exx exg ⊢
  clear hBx
  go_wp2_with fail
  refine (eqRowS _ _ D.length D.length cg cW D D _ og.sl oW.sl (by omega)).mono ?_
  rintro e w15 ⟨rfl, hb15⟩
  replace ca0 := keepC hb15 ca0
  replace ca1 := keepC hb15 ca1
  replace cx0 := keepC hb15 cx0
  replace cx1 := keepC hb15 cx1
  replace oW := oW.on hb15
  replace ox := ox.on hb15
  replace og := og.on hb15
  have b16 := bel_trans b14 hb15
  clear b14
  clear hb15
  rw [he1]
  go_wp2_with fail
  have hx : ∀ W', Below w15.heap.size w15 W' → (W'.cell? ⟨Bx, 0, none⟩ = some (.int .i64 now) ∧ W'.cell? ⟨Bx, 1, none⟩ = some (.slice (some ⟨gx, 0, none⟩) n n)) ∧ (W'.cell? ⟨w.heap.size, 0, none⟩ = some (.int .i64 now) ∧ W'.cell? ⟨w.heap.size, 1, none⟩ = some (.slice A n c)) := fun W' hW' => ⟨⟨keepC hW' cx0, keepC hW' cx1⟩, keepC hW' ca0, keepC hW' ca1⟩
  have HX := Lib.hid hx
  clear hx
  refine wp_region_held_drew (S := (fun W' => ((W'.cell? ⟨Bx, 0, none⟩ = some (.int .i64 now) ∧ W'.cell? ⟨Bx, 1, none⟩ = some (.slice (some ⟨gx, 0, none⟩) n n)) ∧ (W'.cell? ⟨w.heap.size, 0, none⟩ = some (.int .i64 now) ∧ W'.cell? ⟨w.heap.size, 1, none⟩ = some (.slice A n c))) ∧ Below w15.heap.size w15 W')) (by kernel_rfl) ⟨HX.out _ (Below.refl _ _).drew, (Below.refl _ _).drew⟩ (fun hHeld => ?_)
  refine wpAnyH_take (i := 0) (oi := { dst := some 31, op := Go.Op.load 39 (Go.Operand.tmp 7), type := 39, pos := "exact.go:1551", after := #[], guard := none }) (v := ?_) rfl (by kernel_rfl) (by kernel_rfl) (by kernel_rfl) (fun _ _ _ h => h) (Or.inl ⟨by rfl, ?hy0⟩) (by assumption) ?_
  case hy0 => ((intro w hSw; (try dsimp only at hSw); go_simp); try with_reducible rfl)
  try simp only [Act.put, List.setIfInBounds_toArray, List.set_cons_zero, List.set_cons_succ]
  refine wpAnyH_take (i := 1) (oi := { dst := some 32, op := Go.Op.load 34 (Go.Operand.tmp 2), type := 34, pos := "exact.go:1551", after := #[], guard := none }) (v := ?_) rfl (by kernel_rfl) (by kernel_rfl) (by kernel_rfl) (fun _ _ _ h => h) (Or.inl ⟨by rfl, ?hy1⟩) (by assumption) ?_
  case hy1 => ((intro w hSw; (try dsimp only at hSw); go_simp); try with_reducible rfl)
  try simp only [Act.put, List.setIfInBounds_toArray, List.set_cons_zero, List.set_cons_succ]
  refine wpAnyH_ready (rs := [2]) (by kernel_rfl) (by simp) ?_
  refine AllReadyH.cons (o := { dst := some 33, op := Go.Op.call { callee := Go.Callee.value (Go.Operand.func 26), args := #[Go.Operand.tmp 32], argTypes := #[34] }, type := 39, pos := "exact.go:1551", after := #[{ on := 1, ground := Go.Ground.data }], guard := none }) rfl (fun K hK => ?_) AllReadyH.nil
  go_simp
  refine (toVers now A n c l _ (hr.on (bel_trans b16 ((Below.refl _ _).drew))) HN2.out).mono ?_
  rintro e wa ⟨va, rfl, oa, hba'⟩
  have hba := bel_trans ((Below.refl w15.heap.size w15).drew) hba'
  go_wp2_with fail
  refine hK.out _ _ ⟨HX.out _ hba, hba⟩ (fun hHeld => ?_)
  clear hK K
  try simp only [Act.put, List.setIfInBounds_toArray, List.set_cons_zero, List.set_cons_succ]
  refine wpAnyH_ready (rs := [3]) (by kernel_rfl) (by simp) ?_
  refine AllReadyH.cons (o := { dst := some 34, op := Go.Op.call { callee := Go.Callee.value (Go.Operand.func 28), args := #[Go.Operand.tmp 31, Go.Operand.tmp 33], argTypes := #[39, 39] }, type := 4, pos := "exact.go:1551", after := #[{ on := 0, ground := Go.Ground.data }, { on := 2, ground := Go.Ground.data }, { on := 2, ground := Go.Ground.chain }], guard := none }) rfl (fun K hK => ?_) AllReadyH.nil
  go_simp
  refine (eqVers now _ n n l now _ n n l _ (ox.on hba).sl oa.sl HN2.out).mono ?_
  rintro e wb ⟨rfl, hbb'⟩
  have hbb := bel_trans hba hbb'
  rw [VersEq_self]
  go_wp2_with fail
  refine hK.out _ _ ⟨HX.out _ hbb, hbb⟩ (fun hHeld => ?_)
  clear hK K
  try simp only [Act.put, List.setIfInBounds_toArray, List.set_cons_zero, List.set_cons_succ]
  refine wpAnyH_take (i := 4) (oi := { dst := some 35, op := Go.Op.unOp Go.UnOp.not 4 (Go.Operand.tmp 34), type := 4, pos := "exact.go:1551", after := #[{ on := 3, ground := Go.Ground.data }], guard := none }) (v := ?_) rfl (by kernel_rfl) (by kernel_rfl) (by kernel_rfl) (fun _ _ _ h => h) (Or.inl ⟨by rfl, ?hy4⟩) (by assumption) ?_
  case hy4 => ((intro w hSw; (try dsimp only at hSw); go_simp); try with_reducible rfl)
  try simp only [Act.put, List.setIfInBounds_toArray, List.set_cons_zero, List.set_cons_succ]
  refine wpAnyH_done (by kernel_rfl) ?_ _
  clear oa hba hba' hbb' hHeld HX
  replace ca0 := keepC hbb ca0
  replace ca1 := keepC hbb ca1
  replace cx0 := keepC hbb cx0
  replace cx1 := keepC hbb cx1
  replace oW := oW.on hbb
  replace ox := ox.on hbb
  replace og := og.on hbb
  have b17 := bel_trans b16 hbb
  clear b16
  clear hbb
  go_wp2_with fail
  refine (markVers now _ n n 1 _ l _ ox (by have := HN2.out; omega) (by omega) (by omega)).mono ?_
  rintro e w18 ⟨rfl, mx, ht⟩
  replace ca0 := keepTA ht ca0 eax
  replace ca1 := keepTA ht ca1 eax
  replace cx0 := keepTA ht cx0 exx
  replace cx1 := keepTA ht cx1 exx
  replace oW := oW.far ht (fun x y hx hy => Ne.symm (dWx y x hy hx))
  replace og := og.far ht dxg
  have b18 := below_of_turnA b17 ht zx
  clear ht ox
  have ox := mx
  clear mx
  clear b17
  obtain ⟨k1, hk1⟩ : ∃ k1 : Int, ((1 + 4 * n : Nat) : Int) = k1 := ⟨_, rfl⟩
  have hk1p : (0 : Int) ≤ k1 := by omega
  rw [hk1]
  clear hk1
  go_wp2_with fail
  refine (eqRowS _ _ D.length D.length cg cW D D _ og.sl oW.sl (by omega)).mono ?_
  rintro e w19 ⟨rfl, hb19⟩
  replace ca0 := keepC hb19 ca0
  replace ca1 := keepC hb19 ca1
  replace cx0 := keepC hb19 cx0
  replace cx1 := keepC hb19 cx1
  replace oW := oW.on hb19
  replace ox := ox.on hb19
  replace og := og.on hb19
  have b20 := bel_trans b18 hb19
  clear b18
  clear hb19
  rw [he1]
  go_wp2_with fail
  refine (markRowS _ D.length cg 1 _ D _ og (by omega) (by omega) (by omega)).mono ?_
  rintro e w21 ⟨rfl, mg, ht⟩
  replace ca0 := keepTA ht ca0 eag
  replace ca1 := keepTA ht ca1 eag
  replace cx0 := keepTA ht cx0 exg
  replace cx1 := keepTA ht cx1 exg
  replace oW := oW.far ht (fun x y hx hy => Ne.symm (dWg y x hy hx))
  replace ox := ox.far ht (fun x y hx hy => Ne.symm (dxg y x hy hx))
  have b21 := below_of_turnA b20 ht zg
  clear ht og
  have og := mg
  clear mg
  clear b20
  obtain ⟨k2, hk2⟩ : ∃ k2 : Int, ((1 + 2 * D.length : Nat) : Int) = k2 := ⟨_, rfl⟩
  have hk2p : (0 : Int) ≤ k2 := by omega
  have HK2 := Lib.hid hk2
  clear hk2
  rw [HK2.out]
  have hkk : (k2 != k2) = false := by simp
  go_wp2_with fail
  refine (heldRowS _ D.length cg 1 _ og.sl (by omega) (by omega) (by omega)).mono ?_
  rintro e w22 ⟨rfl, hb22⟩
  replace ca0 := keepC hb22 ca0
  replace ca1 := keepC hb22 ca1
  replace cx0 := keepC hb22 cx0
  replace cx1 := keepC hb22 cx1
  replace oW := oW.on hb22
  replace ox := ox.on hb22
  replace og := og.on hb22
  have b23 := bel_trans b21 hb22
  clear b21
  clear hb22
  rw [HK2.out]
  go_wp2_with fail
  refine (toVers now A n c l _ (hr.on b23) HN2.out).mono ?_
  rintro e w24 ⟨gq, rfl, oq, hb24⟩
  have zq := fun x hx => Nat.le_trans b23.size (oq.block (a := x) hx).1
  have eaq := oq.after ca0
  have exq := oq.after cx0
  have dWq := oW.apart oq (Nat.le_refl _)
  have dxq := ox.apart oq (Nat.le_refl _)
  have dgq := og.apart oq (Nat.le_refl _)
  replace ca0 := keepC hb24 ca0
  replace ca1 := keepC hb24 ca1
  replace cx0 := keepC hb24 cx0
  replace cx1 := keepC hb24 cx1
  replace oW := oW.on hb24
  replace ox := ox.on hb24
  replace og := og.on hb24
  have b25 := bel_trans b23 hb24
  clear b23
  clear hb24
  go_wp2_with fail
  refine (implVersAt now _ n n l t _ oq.sl hk HN2.out).mono ?_
  rintro e w26 ⟨vh, rfl, oh, hb26⟩
  rw [HD.out] at oh
  obtain ⟨Ah, ch, rfl, -, -⟩ := oh.form
  have zh := fun x hx => Nat.le_trans b25.size (oh.block (a := x) hx).1
  have eah := oh.after ca0
  have exh := oh.after cx0
  have dWh := oW.apart oh (Nat.le_refl _)
  have dxh := ox.apart oh (Nat.le_refl _)
  have dgh := og.apart oh (Nat.le_refl _)
  have dqh := oq.apart oh (Nat.le_refl _)
  replace ca0 := keepC hb26 ca0
  replace ca1 := keepC hb26 ca1
  replace cx0 := keepC hb26 cx0
  replace cx1 := keepC hb26 cx1
  replace oW := oW.on hb26
  replace ox := ox.on hb26
  replace og := og.on hb26
  replace oq := oq.on hb26
  have b27 := bel_trans b25 hb26
  clear b25
  clear hb26
  go_wp2_with fail
  refine (eqRowS _ _ D.length D.length ch cW D D _ oh.sl oW.sl (by omega)).mono ?_
  rintro e w28 ⟨rfl, hb28⟩
  replace ca0 := keepC hb28 ca0
  replace ca1 := keepC hb28 ca1
  replace cx0 := keepC hb28 cx0
  replace cx1 := keepC hb28 cx1
  replace oW := oW.on hb28
  replace ox := ox.on hb28
  replace og := og.on hb28
  replace oq := oq.on hb28
  replace oh := oh.on hb28
  have b29 := bel_trans b27 hb28
  clear b27
  clear hb28
  rw [he1]
  go_wp2_with fail
  refine (heldRowS _ D.length cg 1 _ og.sl (by omega) (by omega) (by omega)).mono ?_
  rintro e w30 ⟨rfl, hb30⟩
  replace ca0 := keepC hb30 ca0
  replace ca1 := keepC hb30 ca1
  replace cx0 := keepC hb30 cx0
  replace cx1 := keepC hb30 cx1
  replace oW := oW.on hb30
  replace ox := ox.on hb30
  replace og := og.on hb30
  replace oq := oq.on hb30
  replace oh := oh.on hb30
  have b31 := bel_trans b29 hb30
  clear b29
  clear hb30
  rw [HK2.out]
  go_wp2
  go_ret
  exact ⟨rfl, b31⟩
end Go.Proofs.Ytpofgidhhcolfaa
