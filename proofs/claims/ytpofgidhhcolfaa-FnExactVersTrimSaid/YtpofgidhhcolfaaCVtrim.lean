/- The law FnExactVersTrim, walked. -/
import Derived.Test.YtpofgidhhcolfaaT5
import Derived.Test.YtpofgidhhcolfaaMX
namespace Go.Proofs.Ytpofgidhhcolfaa
open Go.RowKit

set_option maxHeartbeats 4000000 in
set_option maxRecDepth 100000 in
theorem lawFnExactVersTrim (now : Int) (A : Option Addr) (n c : Nat) (l : List Ver) (t : Int) (w : World) (hr : Sl encVer w w.heap.size A n l) (hk : VerSWf l) (hn : n ≤ maxLen) (_ht : (Lit.int .i64 t).wf = true) :
    Calls Try.prog 10 #[.agg #[.int .i64 now, .slice A n c], .int .i64 t] w fun e w' => e = .returned (.bool true) ∧ Below w.heap.size w w' := by
  have HN := Lib.hid hn
  clear hn _ht
  have hDl := trimRes_len now l t
  rw [hr.len] at hDl
  obtain ⟨D, hD⟩ : ∃ D, trimRes now l t = D := ⟨_, rfl⟩
  rw [hD] at hDl
  have HD := Lib.hid hD
  clear hD
  obtain ⟨T, hT⟩ : ∃ T, trimNow now l = T := ⟨_, rfl⟩
  have HT := Lib.hid hT
  clear hT
  have HDN := Lib.hid hDl
  clear hDl
  have he1 := VersEq_self T D
  have ha1 := bel_alloc (Below.refl _ w) (.cells #[.int .i64 now, .slice A n c] 34)
  obtain ⟨ca0, ca1⟩ := cell_new2Vers w (.int .i64 now) (.slice A n c) 34
  have b2 := bel_trans (Below.refl _ w) ha1
  clear ha1
  go_enter Try.func10, Try.ntmps10
  go_wp2_with fail
  refine (szVers now A n c l _ _ (hr.on b2) hk HN.out (by omega) (by omega)).mono ?_
  rintro e w3 ⟨v, rfl, hv0, hv1, hv2, hb3⟩
  replace ca0 := keepC hb3 ca0
  replace ca1 := keepC hb3 ca1
  have b4 := bel_trans b2 hb3
  clear b2
  clear hb3
  go_wp2_with fail
  · go_ret
    exact ⟨rfl, b4⟩
  have HN2 := Lib.hid (show n ≤ 1048576 by have h3 := hv2 (by omega); omega)
  clear hv2
  have HDL := Lib.hid (show D.length ≤ 1048576 from Nat.le_trans HDN.out HN2.out)
  refine (toVers now A n c l _ (hr.on b4) HN2.out).mono ?_
  rintro e w5 ⟨gy, rfl, oy, hb5⟩
  have zy := fun x hx => Nat.le_trans b4.size (oy.block (a := x) hx).1
  have eay := oy.after ca0
  replace ca0 := keepC hb5 ca0
  replace ca1 := keepC hb5 ca1
  have b6 := bel_trans b4 hb5
  clear b4
  clear hb5
  go_wp2_with fail
  refine (specVersTrim now _ n n l t _ oy.sl hk HN2.out).mono ?_
  rintro e w7 ⟨AW, cW, rfl, oW, hb7⟩
  rw [HD.out] at oW
  rw [HT.out, HD.out]
  have zW := fun x hx => Nat.le_trans b6.size (oW.block (a := x) hx).1
  have eaW := oW.after ca0
  have dyW := oy.apart oW (Nat.le_refl _)
  replace ca0 := keepC hb7 ca0
  replace ca1 := keepC hb7 ca1
  replace oy := oy.on hb7
  have b8 := bel_trans b6 hb7
  clear b6
  clear hb7
  clear oy zy eay dyW
  have eWW := oW.before
  have ha9 := bel_alloc (Below.refl _ w7) (.cells #[.int .i64 T, .slice AW D.length cW] 39)
  obtain ⟨cW0, cW1⟩ := cell_new2Vers w7 (.int .i64 T) (.slice AW D.length cW) 39
  replace ca0 := keepC ha9 ca0
  replace ca1 := keepC ha9 ca1
  replace oW := oW.on ha9
  have b10 := bel_trans b8 ha9
  clear b8
  clear ha9
  go_wp2_with fail
  refine (toVers now A n c l _ (hr.on b10) HN2.out).mono ?_
  rintro e w11 ⟨gx, rfl, ox, hb11⟩
  have zx := fun x hx => Nat.le_trans b10.size (ox.block (a := x) hx).1
  have eax := ox.after ca0
  have eWx := ox.after cW0
  have dWx := oW.apart ox (Nat.le_refl _)
  replace ca0 := keepC hb11 ca0
  replace ca1 := keepC hb11 ca1
  replace cW0 := keepC hb11 cW0
  replace cW1 := keepC hb11 cW1
  replace oW := oW.on hb11
  have b12 := bel_trans b10 hb11
  clear b10
  clear hb11
  obtain ⟨BW, hBW⟩ : ∃ BW, w7.heap.size = BW := ⟨_, rfl⟩
  rw [hBW] at cW0 cW1 eWW eWx ⊢
  clear hBW
  have exW := oW.before
  have exx := ox.before
  have ha13 := bel_alloc (Below.refl _ w11) (.cells #[.int .i64 now, .slice (some ⟨gx, 0, none⟩) n n] 39)
  obtain ⟨cx0, cx1⟩ := cell_new2Vers w11 (.int .i64 now) (.slice (some ⟨gx, 0, none⟩) n n) 39
  replace ca0 := keepC ha13 ca0
  replace ca1 := keepC ha13 ca1
  replace cW0 := keepC ha13 cW0
  replace cW1 := keepC ha13 cW1
  replace oW := oW.on ha13
  replace ox := ox.on ha13
  have b14 := bel_trans b12 ha13
  clear b12
  clear ha13
  go_wp2_with fail
  refine (implVersTrim now _ n n l t _ ox.sl hk HN2.out).mono ?_
  rintro e w15 ⟨Ag, cg, rfl, og, hb15⟩
  rw [HD.out] at og
  rw [HT.out, HD.out]
  have zg := fun x hx => Nat.le_trans b14.size (og.block (a := x) hx).1
  have eag := og.after ca0
  have eWg := og.after cW0
  have exg := og.after cx0
  have dWg := oW.apart og (Nat.le_refl _)
  have dxg := ox.apart og (Nat.le_refl _)
  replace ca0 := keepC hb15 ca0
  replace ca1 := keepC hb15 ca1
  replace cW0 := keepC hb15 cW0
  replace cW1 := keepC hb15 cW1
  replace cx0 := keepC hb15 cx0
  replace cx1 := keepC hb15 cx1
  replace oW := oW.on hb15
  replace ox := ox.on hb15
  have b16 := bel_trans b14 hb15
  clear b14
  clear hb15
  obtain ⟨Bx, hBx⟩ : ∃ Bx, w11.heap.size = Bx := ⟨_, rfl⟩
  rw [hBx] at cx0 cx1 exW exx exg ⊢
  clear hBx
  have egW := oW.before
  have egx := ox.before
  have egg := og.before
  have ha17 := bel_alloc (Below.refl _ w15) (.cells #[.int .i64 T, .slice Ag D.length cg] 39)
  obtain ⟨cg0, cg1⟩ := cell_new2Vers w15 (.int .i64 T) (.slice Ag D.length cg) 39
  replace ca0 := keepC ha17 ca0
  replace ca1 := keepC ha17 ca1
  replace cW0 := keepC ha17 cW0
  replace cW1 := keepC ha17 cW1
  replace cx0 := keepC ha17 cx0
  replace cx1 := keepC ha17 cx1
  replace oW := oW.on ha17
  replace ox := ox.on ha17
  replace og := og.on ha17
  have b18 := bel_trans b16 ha17
  clear b16
  clear ha17
  go_wp2_with fail
  refine (eqVers T Ag D.length cg D T AW D.length cW D _ og.sl oW.sl HDL.out).mono ?_
  rintro e w19 ⟨rfl, hb19⟩
  replace ca0 := keepC hb19 ca0
  replace ca1 := keepC hb19 ca1
  replace cW0 := keepC hb19 cW0
  replace cW1 := keepC hb19 cW1
  replace cx0 := keepC hb19 cx0
  replace cx1 := keepC hb19 cx1
  replace cg0 := keepC hb19 cg0
  replace cg1 := keepC hb19 cg1
  replace oW := oW.on hb19
  replace ox := ox.on hb19
  replace og := og.on hb19
  have b20 := bel_trans b18 hb19
  clear b18
  clear hb19
  rw [he1]
  obtain ⟨Bg, hBg⟩ : ∃ Bg, w15.heap.size = Bg := ⟨_, rfl⟩
  rw [hBg] at cg0 cg1 egW egx egg ⊢
  clear hBg
  go_wp2_with fail
  have hx : ∀ W', Below w19.heap.size w19 W' → (W'.cell? ⟨Bx, 0, none⟩ = some (.int .i64 now) ∧ W'.cell? ⟨Bx, 1, none⟩ = some (.slice (some ⟨gx, 0, none⟩) n n)) ∧ (W'.cell? ⟨w.heap.size, 0, none⟩ = some (.int .i64 now) ∧ W'.cell? ⟨w.heap.size, 1, none⟩ = some (.slice A n c)) := fun W' hW' => ⟨⟨keepC hW' cx0, keepC hW' cx1⟩, keepC hW' ca0, keepC hW' ca1⟩
  have HX := Lib.hid hx
  clear hx
  refine wp_region_held_drew (S := (fun W' => ((W'.cell? ⟨Bx, 0, none⟩ = some (.int .i64 now) ∧ W'.cell? ⟨Bx, 1, none⟩ = some (.slice (some ⟨gx, 0, none⟩) n n)) ∧ (W'.cell? ⟨w.heap.size, 0, none⟩ = some (.int .i64 now) ∧ W'.cell? ⟨w.heap.size, 1, none⟩ = some (.slice A n c))) ∧ Below w19.heap.size w19 W')) (by kernel_rfl) ⟨HX.out _ (Below.refl _ _).drew, (Below.refl _ _).drew⟩ (fun hHeld => ?_)
  refine wpAnyH_take (i := 0) (oi := { dst := some 31, op := Go.Op.load 39 (Go.Operand.tmp 7), type := 39, pos := "exact.go:1693", after := #[], guard := none }) (v := ?_) rfl (by kernel_rfl) (by kernel_rfl) (by kernel_rfl) (fun _ _ _ h => h) (Or.inl ⟨by rfl, ?hy0⟩) (by assumption) ?_
  case hy0 => ((intro w hSw; (try dsimp only at hSw); go_simp); try with_reducible rfl)
  try simp only [Act.put, List.setIfInBounds_toArray, List.set_cons_zero, List.set_cons_succ]
  refine wpAnyH_take (i := 1) (oi := { dst := some 32, op := Go.Op.load 34 (Go.Operand.tmp 2), type := 34, pos := "exact.go:1693", after := #[], guard := none }) (v := ?_) rfl (by kernel_rfl) (by kernel_rfl) (by kernel_rfl) (fun _ _ _ h => h) (Or.inl ⟨by rfl, ?hy1⟩) (by assumption) ?_
  case hy1 => ((intro w hSw; (try dsimp only at hSw); go_simp); try with_reducible rfl)
  try simp only [Act.put, List.setIfInBounds_toArray, List.set_cons_zero, List.set_cons_succ]
  refine wpAnyH_ready (rs := [2]) (by kernel_rfl) (by simp) ?_
  refine AllReadyH.cons (o := { dst := some 33, op := Go.Op.call { callee := Go.Callee.value (Go.Operand.func 26), args := #[Go.Operand.tmp 32], argTypes := #[34] }, type := 39, pos := "exact.go:1693", after := #[{ on := 1, ground := Go.Ground.data }], guard := none }) rfl (fun K hK => ?_) AllReadyH.nil
  go_simp
  refine (toVers now A n c l _ (hr.on (bel_trans b20 ((Below.refl _ _).drew))) HN2.out).mono ?_
  rintro e wa ⟨va, rfl, oa, hba'⟩
  have hba := bel_trans ((Below.refl w19.heap.size w19).drew) hba'
  go_wp2_with fail
  refine hK.out _ _ ⟨HX.out _ hba, hba⟩ (fun hHeld => ?_)
  clear hK K
  try simp only [Act.put, List.setIfInBounds_toArray, List.set_cons_zero, List.set_cons_succ]
  refine wpAnyH_ready (rs := [3]) (by kernel_rfl) (by simp) ?_
  refine AllReadyH.cons (o := { dst := some 34, op := Go.Op.call { callee := Go.Callee.value (Go.Operand.func 28), args := #[Go.Operand.tmp 31, Go.Operand.tmp 33], argTypes := #[39, 39] }, type := 4, pos := "exact.go:1693", after := #[{ on := 0, ground := Go.Ground.data }, { on := 2, ground := Go.Ground.data }, { on := 2, ground := Go.Ground.chain }], guard := none }) rfl (fun K hK => ?_) AllReadyH.nil
  go_simp
  refine (eqVers now _ n n l now _ n n l _ (ox.on hba).sl oa.sl HN2.out).mono ?_
  rintro e wb ⟨rfl, hbb'⟩
  have hbb := bel_trans hba hbb'
  rw [VersEq_self]
  go_wp2_with fail
  refine hK.out _ _ ⟨HX.out _ hbb, hbb⟩ (fun hHeld => ?_)
  clear hK K
  try simp only [Act.put, List.setIfInBounds_toArray, List.set_cons_zero, List.set_cons_succ]
  refine wpAnyH_take (i := 4) (oi := { dst := some 35, op := Go.Op.unOp Go.UnOp.not 4 (Go.Operand.tmp 34), type := 4, pos := "exact.go:1693", after := #[{ on := 3, ground := Go.Ground.data }], guard := none }) (v := ?_) rfl (by kernel_rfl) (by kernel_rfl) (by kernel_rfl) (fun _ _ _ h => h) (Or.inl ⟨by rfl, ?hy4⟩) (by assumption) ?_
  case hy4 => ((intro w hSw; (try dsimp only at hSw); go_simp); try with_reducible rfl)
  try simp only [Act.put, List.setIfInBounds_toArray, List.set_cons_zero, List.set_cons_succ]
  refine wpAnyH_done (by kernel_rfl) ?_ _
  clear oa hba hba' hbb' hHeld HX
  replace ca0 := keepC hbb ca0
  replace ca1 := keepC hbb ca1
  replace cW0 := keepC hbb cW0
  replace cW1 := keepC hbb cW1
  replace cx0 := keepC hbb cx0
  replace cx1 := keepC hbb cx1
  replace cg0 := keepC hbb cg0
  replace cg1 := keepC hbb cg1
  replace oW := oW.on hbb
  replace ox := ox.on hbb
  replace og := og.on hbb
  have b21 := bel_trans b20 hbb
  clear b20
  clear hbb
  go_wp2_with fail
  refine (markVers now _ n n 1 _ l _ ox (by have := HN2.out; omega) (by omega) (by omega)).mono ?_
  rintro e w22 ⟨rfl, mx, ht⟩
  replace ca0 := keepTA ht ca0 eax
  replace ca1 := keepTA ht ca1 eax
  replace cW0 := keepTA ht cW0 eWx
  replace cW1 := keepTA ht cW1 eWx
  replace cx0 := keepTA ht cx0 exx
  replace cx1 := keepTA ht cx1 exx
  replace cg0 := keepTA ht cg0 egx
  replace cg1 := keepTA ht cg1 egx
  replace oW := oW.far ht (fun x y hx hy => Ne.symm (dWx y x hy hx))
  replace og := og.far ht dxg
  have b22 := below_of_turnA b21 ht zx
  clear ht ox
  have ox := mx
  clear mx
  clear b21
  obtain ⟨k1, hk1⟩ : ∃ k1 : Int, ((1 + 4 * n : Nat) : Int) = k1 := ⟨_, rfl⟩
  have hk1p : (0 : Int) ≤ k1 := by omega
  rw [hk1]
  clear hk1
  go_wp2_with fail
  refine (eqVers T Ag D.length cg D T AW D.length cW D _ og.sl oW.sl HDL.out).mono ?_
  rintro e w23 ⟨rfl, hb23⟩
  replace ca0 := keepC hb23 ca0
  replace ca1 := keepC hb23 ca1
  replace cW0 := keepC hb23 cW0
  replace cW1 := keepC hb23 cW1
  replace cx0 := keepC hb23 cx0
  replace cx1 := keepC hb23 cx1
  replace cg0 := keepC hb23 cg0
  replace cg1 := keepC hb23 cg1
  replace oW := oW.on hb23
  replace ox := ox.on hb23
  replace og := og.on hb23
  have b24 := bel_trans b22 hb23
  clear b22
  clear hb23
  rw [he1]
  go_wp2_with fail
  refine (markVers T _ D.length cg 1 _ D _ og (by have := HDL.out; omega) (by omega) (by omega)).mono ?_
  rintro e w25 ⟨rfl, mg, ht⟩
  replace ca0 := keepTA ht ca0 eag
  replace ca1 := keepTA ht ca1 eag
  replace cW0 := keepTA ht cW0 eWg
  replace cW1 := keepTA ht cW1 eWg
  replace cx0 := keepTA ht cx0 exg
  replace cx1 := keepTA ht cx1 exg
  replace cg0 := keepTA ht cg0 egg
  replace cg1 := keepTA ht cg1 egg
  replace oW := oW.far ht (fun x y hx hy => Ne.symm (dWg y x hy hx))
  replace ox := ox.far ht (fun x y hx hy => Ne.symm (dxg y x hy hx))
  have b25 := below_of_turnA b24 ht zg
  clear ht og
  have og := mg
  clear mg
  clear b24
  obtain ⟨k2, hk2⟩ : ∃ k2 : Int, ((1 + 4 * D.length : Nat) : Int) = k2 := ⟨_, rfl⟩
  have hk2p : (0 : Int) ≤ k2 := by omega
  have HK2 := Lib.hid hk2
  clear hk2
  rw [HK2.out]
  have hkk : (k2 != k2) = false := by simp
  go_wp2_with fail
  refine (heldVers T _ D.length cg 1 _ og.sl (by have := HDL.out; omega) (by omega) (by omega)).mono ?_
  rintro e w26 ⟨rfl, hb26⟩
  replace ca0 := keepC hb26 ca0
  replace ca1 := keepC hb26 ca1
  replace cW0 := keepC hb26 cW0
  replace cW1 := keepC hb26 cW1
  replace cx0 := keepC hb26 cx0
  replace cx1 := keepC hb26 cx1
  replace cg0 := keepC hb26 cg0
  replace cg1 := keepC hb26 cg1
  replace oW := oW.on hb26
  replace ox := ox.on hb26
  replace og := og.on hb26
  have b27 := bel_trans b25 hb26
  clear b25
  clear hb26
  rw [HK2.out]
  go_wp2_with fail
  refine (toVers now A n c l _ (hr.on b27) HN2.out).mono ?_
  rintro e w28 ⟨gq, rfl, oq, hb28⟩
  have zq := fun x hx => Nat.le_trans b27.size (oq.block (a := x) hx).1
  have eaq := oq.after ca0
  have eWq := oq.after cW0
  have exq := oq.after cx0
  have egq := oq.after cg0
  have dWq := oW.apart oq (Nat.le_refl _)
  have dxq := ox.apart oq (Nat.le_refl _)
  have dgq := og.apart oq (Nat.le_refl _)
  replace ca0 := keepC hb28 ca0
  replace ca1 := keepC hb28 ca1
  replace cW0 := keepC hb28 cW0
  replace cW1 := keepC hb28 cW1
  replace cx0 := keepC hb28 cx0
  replace cx1 := keepC hb28 cx1
  replace cg0 := keepC hb28 cg0
  replace cg1 := keepC hb28 cg1
  replace oW := oW.on hb28
  replace ox := ox.on hb28
  replace og := og.on hb28
  have b29 := bel_trans b27 hb28
  clear b27
  clear hb28
  go_wp2_with fail
  refine (implVersTrim now _ n n l t _ oq.sl hk HN2.out).mono ?_
  rintro e w30 ⟨Ah, ch, rfl, oh, hb30⟩
  rw [HD.out] at oh
  rw [HT.out, HD.out]
  have zh := fun x hx => Nat.le_trans b29.size (oh.block (a := x) hx).1
  have eah := oh.after ca0
  have eWh := oh.after cW0
  have exh := oh.after cx0
  have egh := oh.after cg0
  have dWh := oW.apart oh (Nat.le_refl _)
  have dxh := ox.apart oh (Nat.le_refl _)
  have dgh := og.apart oh (Nat.le_refl _)
  have dqh := oq.apart oh (Nat.le_refl _)
  replace ca0 := keepC hb30 ca0
  replace ca1 := keepC hb30 ca1
  replace cW0 := keepC hb30 cW0
  replace cW1 := keepC hb30 cW1
  replace cx0 := keepC hb30 cx0
  replace cx1 := keepC hb30 cx1
  replace cg0 := keepC hb30 cg0
  replace cg1 := keepC hb30 cg1
  replace oW := oW.on hb30
  replace ox := ox.on hb30
  replace og := og.on hb30
  replace oq := oq.on hb30
  have b31 := bel_trans b29 hb30
  clear b29
  clear hb30
  clear oq zq eaq eWq exq egq dWq dxq dgq dqh
  have ehW := oW.before
  have ehx := ox.before
  have ehg := og.before
  have ehh := oh.before
  have ha32 := bel_alloc (Below.refl _ w30) (.cells #[.int .i64 T, .slice Ah D.length ch] 39)
  obtain ⟨ch0, ch1⟩ := cell_new2Vers w30 (.int .i64 T) (.slice Ah D.length ch) 39
  replace ca0 := keepC ha32 ca0
  replace ca1 := keepC ha32 ca1
  replace cW0 := keepC ha32 cW0
  replace cW1 := keepC ha32 cW1
  replace cx0 := keepC ha32 cx0
  replace cx1 := keepC ha32 cx1
  replace cg0 := keepC ha32 cg0
  replace cg1 := keepC ha32 cg1
  replace oW := oW.on ha32
  replace ox := ox.on ha32
  replace og := og.on ha32
  replace oh := oh.on ha32
  have b33 := bel_trans b31 ha32
  clear b31
  clear ha32
  go_wp2_with fail
  refine (eqVers T Ah D.length ch D T AW D.length cW D _ oh.sl oW.sl HDL.out).mono ?_
  rintro e w34 ⟨rfl, hb34⟩
  replace ca0 := keepC hb34 ca0
  replace ca1 := keepC hb34 ca1
  replace cW0 := keepC hb34 cW0
  replace cW1 := keepC hb34 cW1
  replace cx0 := keepC hb34 cx0
  replace cx1 := keepC hb34 cx1
  replace cg0 := keepC hb34 cg0
  replace cg1 := keepC hb34 cg1
  replace ch0 := keepC hb34 ch0
  replace ch1 := keepC hb34 ch1
  replace oW := oW.on hb34
  replace ox := ox.on hb34
  replace og := og.on hb34
  replace oh := oh.on hb34
  have b35 := bel_trans b33 hb34
  clear b33
  clear hb34
  rw [he1]
  go_wp2_with fail
  refine (heldVers T _ D.length cg 1 _ og.sl (by have := HDL.out; omega) (by omega) (by omega)).mono ?_
  rintro e w36 ⟨rfl, hb36⟩
  replace ca0 := keepC hb36 ca0
  replace ca1 := keepC hb36 ca1
  replace cW0 := keepC hb36 cW0
  replace cW1 := keepC hb36 cW1
  replace cx0 := keepC hb36 cx0
  replace cx1 := keepC hb36 cx1
  replace cg0 := keepC hb36 cg0
  replace cg1 := keepC hb36 cg1
  replace ch0 := keepC hb36 ch0
  replace ch1 := keepC hb36 ch1
  replace oW := oW.on hb36
  replace ox := ox.on hb36
  replace og := og.on hb36
  replace oh := oh.on hb36
  have b37 := bel_trans b35 hb36
  clear b35
  clear hb36
  rw [HK2.out]
  go_wp2
  go_ret
  exact ⟨rfl, b37⟩
end Go.Proofs.Ytpofgidhhcolfaa
