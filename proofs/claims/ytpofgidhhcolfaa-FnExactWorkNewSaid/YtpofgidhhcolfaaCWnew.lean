/- The law FnExactWorkNew, walked. -/
import Derived.Test.YtpofgidhhcolfaaV11
import Derived.Test.YtpofgidhhcolfaaMX
namespace Go.Proofs.Ytpofgidhhcolfaa
open Go.RowKit

set_option maxHeartbeats 4000000 in
set_option maxRecDepth 100000 in
theorem lawFnExactWorkNew (now : Int) (A : Option Addr) (n c : Nat) (l : List Ver) (w : World) (hr : Sl encVer w w.heap.size A n l) (hk : VerSWf l) (hn : n ≤ maxLen) :
    Calls Try.prog 11 #[.agg #[.int .i64 now, .slice A n c]] w fun e w' => e = .returned (.bool true) ∧ Below w.heap.size w w' := by
  have HN := Lib.hid hn
  clear hn
  obtain ⟨r, hr0⟩ : ∃ r, newAt now l = r := ⟨_, rfl⟩
  have HR := Lib.hid hr0
  clear hr0
  have he1 := WorkEq_self r []
  have ha1 := bel_alloc (Below.refl _ w) (.cells #[.int .i64 now, .slice A n c] 34)
  obtain ⟨ca0, ca1⟩ := cell_new2Vers w (.int .i64 now) (.slice A n c) 34
  have b2 := bel_trans (Below.refl _ w) ha1
  clear ha1
  go_enter Try.func11, Try.ntmps11
  go_wp2_with fail
  refine (szVers now A n c l _ _ (hr.on b2) hk HN.out (by omega) (by omega)).mono ?_
  rintro e w3 ⟨v, rfl, hv0, hv1, hv2, hb3⟩
  replace ca0 := keepC hb3 ca0
  replace ca1 := keepC hb3 ca1
  have b4 := bel_trans b2 hb3
  clear b2
  clear hb3
  go_wp2_with fail
  · go_ret
    exact ⟨rfl, b4⟩
  have HN2 := Lib.hid (show n ≤ 1048576 by have h3 := hv2 (by omega); omega)
  clear hv2
  refine (toVers now A n c l _ (hr.on b4) HN2.out).mono ?_
  rintro e w5 ⟨gy, rfl, oy, hb5⟩
  have zy := fun x hx => Nat.le_trans b4.size (oy.block (a := x) hx).1
  have eay := oy.after ca0
  replace ca0 := keepC hb5 ca0
  replace ca1 := keepC hb5 ca1
  have b6 := bel_trans b4 hb5
  clear b4
  clear hb5
  go_wp2_with fail
  refine (specWorkNew now _ n n l _ oy.sl hk HN2.out).mono ?_
  rintro e w7 ⟨AW, cW, rfl, hb7⟩
  replace ca0 := keepC hb7 ca0
  replace ca1 := keepC hb7 ca1
  replace oy := oy.on hb7
  have b8 := bel_trans b6 hb7
  clear b6
  clear hb7
  rw [HR.out]
  clear oy zy eay
  have ha9 := bel_alloc (Below.refl _ w7) (.cells #[.int .i64 r, .slice AW 0 cW] 29)
  obtain ⟨cW0, cW1⟩ := cell_new2Vers w7 (.int .i64 r) (.slice AW 0 cW) 29
  replace ca0 := keepC ha9 ca0
  replace ca1 := keepC ha9 ca1
  have b10 := bel_trans b8 ha9
  clear b8
  clear ha9
  go_wp2_with fail
  refine (toVers now A n c l _ (hr.on b10) HN2.out).mono ?_
  rintro e w11 ⟨gx, rfl, ox, hb11⟩
  have zx := fun x hx => Nat.le_trans b10.size (ox.block (a := x) hx).1
  have eax := ox.after ca0
  have eWx := ox.after cW0
  replace ca0 := keepC hb11 ca0
  replace ca1 := keepC hb11 ca1
  replace cW0 := keepC hb11 cW0
  replace cW1 := keepC hb11 cW1
  have b12 := bel_trans b10 hb11
  clear b10
  clear hb11
  obtain ⟨BW, hBW⟩ : ∃ BW, w7.heap.size = BW := ⟨_, rfl⟩
  rw [hBW] at cW0 cW1 eWx ⊢
  clear hBW
  have exx := ox.before
  have ha13 := bel_alloc (Below.refl _ w11) (.cells #[.int .i64 now, .slice (some ⟨gx, 0, none⟩) n n] 39)
  obtain ⟨cx0, cx1⟩ := cell_new2Vers w11 (.int .i64 now) (.slice (some ⟨gx, 0, none⟩) n n) 39
  replace ca0 := keepC ha13 ca0
  replace ca1 := keepC ha13 ca1
  replace cW0 := keepC ha13 cW0
  replace cW1 := keepC ha13 cW1
  replace ox := ox.on ha13
  have b14 := bel_trans b12 ha13
  clear b12
  clear ha13
  go_wp2_with fail
  refine (implWorkNew now _ n n l _ ox.sl hk HN2.out).mono ?_
  rintro e w15 ⟨Ag, cg, rfl, hb15⟩
  replace ca0 := keepC hb15 ca0
  replace ca1 := keepC hb15 ca1
  replace cW0 := keepC hb15 cW0
  replace cW1 := keepC hb15 cW1
  replace cx0 := keepC hb15 cx0
  replace cx1 := keepC hb15 cx1
  replace ox := ox.on hb15
  have b16 := bel_trans b14 hb15
  clear b14
  clear hb15
  rw [HR.out]
  obtain ⟨Bx, hBx⟩ : ∃ Bx, w11.heap.size = Bx := ⟨_, rfl⟩
  rw [hBx] at cx0 cx1 exx ⊢
  clear hBx
  have egx := ox.before
  have ha17 := bel_alloc (Below.refl _ w15) (.cells #[.int .i64 r, .slice Ag 0 cg] 29)
  obtain ⟨cg0, cg1⟩ := cell_new2Vers w15 (.int .i64 r) (.slice Ag 0 cg) 29
  replace ca0 := keepC ha17 ca0
  replace ca1 := keepC ha17 ca1
  replace cW0 := keepC ha17 cW0
  replace cW1 := keepC ha17 cW1
  replace cx0 := keepC ha17 cx0
  replace cx1 := keepC ha17 cx1
  replace ox := ox.on ha17
  have b18 := bel_trans b16 ha17
  clear b16
  clear ha17
  go_wp2_with fail
  refine (eqWork r Ag 0 cg [] r AW 0 cW [] _ (Sl.nil _ _ _ _) (Sl.nil _ _ _ _) (by omega)).mono ?_
  rintro e w19 ⟨rfl, hb19⟩
  replace ca0 := keepC hb19 ca0
  replace ca1 := keepC hb19 ca1
  replace cW0 := keepC hb19 cW0
  replace cW1 := keepC hb19 cW1
  replace cx0 := keepC hb19 cx0
  replace cx1 := keepC hb19 cx1
  replace cg0 := keepC hb19 cg0
  replace cg1 := keepC hb19 cg1
  replace ox := ox.on hb19
  have b20 := bel_trans b18 hb19
  clear b18
  clear hb19
  rw [he1]
  obtain ⟨Bg, hBg⟩ : ∃ Bg, w15.heap.size = Bg := ⟨_, rfl⟩
  rw [hBg] at cg0 cg1 egx ⊢
  clear hBg
  go_wp2_with fail
  have hx : ∀ W', Below w19.heap.size w19 W' → (W'.cell? ⟨Bx, 0, none⟩ = some (.int .i64 now) ∧ W'.cell? ⟨Bx, 1, none⟩ = some (.slice (some ⟨gx, 0, none⟩) n n)) ∧ (W'.cell? ⟨w.heap.size, 0, none⟩ = some (.int .i64 now) ∧ W'.cell? ⟨w.heap.size, 1, none⟩ = some (.slice A n c)) := fun W' hW' => ⟨⟨keepC hW' cx0, keepC hW' cx1⟩, keepC hW' ca0, keepC hW' ca1⟩
  have HX := Lib.hid hx
  clear hx
  refine wp_region_held_drew (S := (fun W' => ((W'.cell? ⟨Bx, 0, none⟩ = some (.int .i64 now) ∧ W'.cell? ⟨Bx, 1, none⟩ = some (.slice (some ⟨gx, 0, none⟩) n n)) ∧ (W'.cell? ⟨w.heap.size, 0, none⟩ = some (.int .i64 now) ∧ W'.cell? ⟨w.heap.size, 1, none⟩ = some (.slice A n c))) ∧ Below w19.heap.size w19 W')) (by kernel_rfl) ⟨HX.out _ (Below.refl _ _).drew, (Below.refl _ _).drew⟩ (fun hHeld => ?_)
  refine wpAnyH_take (i := 0) (oi := { dst := some 27, op := Go.Op.load 39 (Go.Operand.tmp 5), type := 39, pos := "exact.go:1766", after := #[], guard := none }) (v := ?_) rfl (by kernel_rfl) (by kernel_rfl) (by kernel_rfl) (fun _ _ _ h => h) (Or.inl ⟨by rfl, ?hy0⟩) (by assumption) ?_
  case hy0 => ((intro w hSw; (try dsimp only at hSw); go_simp); try with_reducible rfl)
  try simp only [Act.put, List.setIfInBounds_toArray, List.set_cons_zero, List.set_cons_succ]
  refine wpAnyH_take (i := 1) (oi := { dst := some 28, op := Go.Op.load 34 (Go.Operand.tmp 1), type := 34, pos := "exact.go:1766", after := #[], guard := none }) (v := ?_) rfl (by kernel_rfl) (by kernel_rfl) (by kernel_rfl) (fun _ _ _ h => h) (Or.inl ⟨by rfl, ?hy1⟩) (by assumption) ?_
  case hy1 => ((intro w hSw; (try dsimp only at hSw); go_simp); try with_reducible rfl)
  try simp only [Act.put, List.setIfInBounds_toArray, List.set_cons_zero, List.set_cons_succ]
  refine wpAnyH_ready (rs := [2]) (by kernel_rfl) (by simp) ?_
  refine AllReadyH.cons (o := { dst := some 29, op := Go.Op.call { callee := Go.Callee.value (Go.Operand.func 26), args := #[Go.Operand.tmp 28], argTypes := #[34] }, type := 39, pos := "exact.go:1766", after := #[{ on := 1, ground := Go.Ground.data }], guard := none }) rfl (fun K hK => ?_) AllReadyH.nil
  go_simp
  refine (toVers now A n c l _ (hr.on (bel_trans b20 ((Below.refl _ _).drew))) HN2.out).mono ?_
  rintro e wa ⟨va, rfl, oa, hba'⟩
  have hba := bel_trans ((Below.refl w19.heap.size w19).drew) hba'
  go_wp2_with fail
  refine hK.out _ _ ⟨HX.out _ hba, hba⟩ (fun hHeld => ?_)
  clear hK K
  try simp only [Act.put, List.setIfInBounds_toArray, List.set_cons_zero, List.set_cons_succ]
  refine wpAnyH_ready (rs := [3]) (by kernel_rfl) (by simp) ?_
  refine AllReadyH.cons (o := { dst := some 30, op := Go.Op.call { callee := Go.Callee.value (Go.Operand.func 28), args := #[Go.Operand.tmp 27, Go.Operand.tmp 29], argTypes := #[39, 39] }, type := 4, pos := "exact.go:1766", after := #[{ on := 0, ground := Go.Ground.data }, { on := 2, ground := Go.Ground.data }, { on := 2, ground := Go.Ground.chain }], guard := none }) rfl (fun K hK => ?_) AllReadyH.nil
  go_simp
  refine (eqVers now _ n n l now _ n n l _ (ox.on hba).sl oa.sl HN2.out).mono ?_
  rintro e wb ⟨rfl, hbb'⟩
  have hbb := bel_trans hba hbb'
  rw [VersEq_self]
  go_wp2_with fail
  refine hK.out _ _ ⟨HX.out _ hbb, hbb⟩ (fun hHeld => ?_)
  clear hK K
  try simp only [Act.put, List.setIfInBounds_toArray, List.set_cons_zero, List.set_cons_succ]
  refine wpAnyH_take (i := 4) (oi := { dst := some 31, op := Go.Op.unOp Go.UnOp.not 4 (Go.Operand.tmp 30), type := 4, pos := "exact.go:1766", after := #[{ on := 3, ground := Go.Ground.data }], guard := none }) (v := ?_) rfl (by kernel_rfl) (by kernel_rfl) (by kernel_rfl) (fun _ _ _ h => h) (Or.inl ⟨by rfl, ?hy4⟩) (by assumption) ?_
  case hy4 => ((intro w hSw; (try dsimp only at hSw); go_simp); try with_reducible rfl)
  try simp only [Act.put, List.setIfInBounds_toArray, List.set_cons_zero, List.set_cons_succ]
  refine wpAnyH_done (by kernel_rfl) ?_ _
  clear oa hba hba' hbb' hHeld HX
  replace ca0 := keepC hbb ca0
  replace ca1 := keepC hbb ca1
  replace cW0 := keepC hbb cW0
  replace cW1 := keepC hbb cW1
  replace cx0 := keepC hbb cx0
  replace cx1 := keepC hbb cx1
  replace cg0 := keepC hbb cg0
  replace cg1 := keepC hbb cg1
  replace ox := ox.on hbb
  have b21 := bel_trans b20 hbb
  clear b20
  clear hbb
  go_wp2_with fail
  refine (markVers now _ n n 1 _ l _ ox (by have := HN2.out; omega) (by omega) (by omega)).mono ?_
  rintro e w22 ⟨rfl, mx, ht⟩
  replace ca0 := keepTA ht ca0 eax
  replace ca1 := keepTA ht ca1 eax
  replace cW0 := keepTA ht cW0 eWx
  replace cW1 := keepTA ht cW1 eWx
  replace cx0 := keepTA ht cx0 exx
  replace cx1 := keepTA ht cx1 exx
  replace cg0 := keepTA ht cg0 egx
  replace cg1 := keepTA ht cg1 egx
  have b22 := below_of_turnA b21 ht zx
  clear ht ox
  have ox := mx
  clear mx
  clear b21
  obtain ⟨k1, hk1⟩ : ∃ k1 : Int, ((1 + 4 * n : Nat) : Int) = k1 := ⟨_, rfl⟩
  have hk1p : (0 : Int) ≤ k1 := by omega
  rw [hk1]
  clear hk1
  go_wp2_with fail
  refine (eqWork r Ag 0 cg [] r AW 0 cW [] _ (Sl.nil _ _ _ _) (Sl.nil _ _ _ _) (by omega)).mono ?_
  rintro e w23 ⟨rfl, hb23⟩
  replace ca0 := keepC hb23 ca0
  replace ca1 := keepC hb23 ca1
  replace cW0 := keepC hb23 cW0
  replace cW1 := keepC hb23 cW1
  replace cx0 := keepC hb23 cx0
  replace cx1 := keepC hb23 cx1
  replace cg0 := keepC hb23 cg0
  replace cg1 := keepC hb23 cg1
  replace ox := ox.on hb23
  have b24 := bel_trans b22 hb23
  clear b22
  clear hb23
  rw [he1]
  go_wp2_with fail
  refine (markWorkNil r Ag cg 1 _ (by omega)).mono ?_
  rintro e w25 ⟨rfl, hb25⟩
  replace ca0 := keepC hb25 ca0
  replace ca1 := keepC hb25 ca1
  replace cW0 := keepC hb25 cW0
  replace cW1 := keepC hb25 cW1
  replace cx0 := keepC hb25 cx0
  replace cx1 := keepC hb25 cx1
  replace cg0 := keepC hb25 cg0
  replace cg1 := keepC hb25 cg1
  replace ox := ox.on hb25
  have b26 := bel_trans b24 hb25
  clear b24
  clear hb25
  go_wp2_with fail
  refine (heldWorkNil r Ag cg 1 _ (by omega)).mono ?_
  rintro e w27 ⟨rfl, hb27⟩
  replace ca0 := keepC hb27 ca0
  replace ca1 := keepC hb27 ca1
  replace cW0 := keepC hb27 cW0
  replace cW1 := keepC hb27 cW1
  replace cx0 := keepC hb27 cx0
  replace cx1 := keepC hb27 cx1
  replace cg0 := keepC hb27 cg0
  replace cg1 := keepC hb27 cg1
  replace ox := ox.on hb27
  have b28 := bel_trans b26 hb27
  clear b26
  clear hb27
  go_wp2_with fail
  refine (toVers now A n c l _ (hr.on b28) HN2.out).mono ?_
  rintro e w29 ⟨gq, rfl, oq, hb29⟩
  have zq := fun x hx => Nat.le_trans b28.size (oq.block (a := x) hx).1
  have eaq := oq.after ca0
  have eWq := oq.after cW0
  have exq := oq.after cx0
  have egq := oq.after cg0
  have dxq := ox.apart oq (Nat.le_refl _)
  replace ca0 := keepC hb29 ca0
  replace ca1 := keepC hb29 ca1
  replace cW0 := keepC hb29 cW0
  replace cW1 := keepC hb29 cW1
  replace cx0 := keepC hb29 cx0
  replace cx1 := keepC hb29 cx1
  replace cg0 := keepC hb29 cg0
  replace cg1 := keepC hb29 cg1
  replace ox := ox.on hb29
  have b30 := bel_trans b28 hb29
  clear b28
  clear hb29
  go_wp2_with fail
  refine (implWorkNew now _ n n l _ oq.sl hk HN2.out).mono ?_
  rintro e w31 ⟨Ah, ch, rfl, hb31⟩
  replace ca0 := keepC hb31 ca0
  replace ca1 := keepC hb31 ca1
  replace cW0 := keepC hb31 cW0
  replace cW1 := keepC hb31 cW1
  replace cx0 := keepC hb31 cx0
  replace cx1 := keepC hb31 cx1
  replace cg0 := keepC hb31 cg0
  replace cg1 := keepC hb31 cg1
  replace ox := ox.on hb31
  replace oq := oq.on hb31
  have b32 := bel_trans b30 hb31
  clear b30
  clear hb31
  rw [HR.out]
  clear oq zq eaq eWq exq egq dxq
  have ehx := ox.before
  have ha33 := bel_alloc (Below.refl _ w31) (.cells #[.int .i64 r, .slice Ah 0 ch] 29)
  obtain ⟨ch0, ch1⟩ := cell_new2Vers w31 (.int .i64 r) (.slice Ah 0 ch) 29
  replace ca0 := keepC ha33 ca0
  replace ca1 := keepC ha33 ca1
  replace cW0 := keepC ha33 cW0
  replace cW1 := keepC ha33 cW1
  replace cx0 := keepC ha33 cx0
  replace cx1 := keepC ha33 cx1
  replace cg0 := keepC ha33 cg0
  replace cg1 := keepC ha33 cg1
  replace ox := ox.on ha33
  have b34 := bel_trans b32 ha33
  clear b32
  clear ha33
  go_wp2_with fail
  refine (eqWork r Ah 0 ch [] r AW 0 cW [] _ (Sl.nil _ _ _ _) (Sl.nil _ _ _ _) (by omega)).mono ?_
  rintro e w35 ⟨rfl, hb35⟩
  replace ca0 := keepC hb35 ca0
  replace ca1 := keepC hb35 ca1
  replace cW0 := keepC hb35 cW0
  replace cW1 := keepC hb35 cW1
  replace cx0 := keepC hb35 cx0
  replace cx1 := keepC hb35 cx1
  replace cg0 := keepC hb35 cg0
  replace cg1 := keepC hb35 cg1
  replace ch0 := keepC hb35 ch0
  replace ch1 := keepC hb35 ch1
  replace ox := ox.on hb35
  have b36 := bel_trans b34 hb35
  clear b34
  clear hb35
  rw [he1]
  go_wp2_with fail
  refine (heldWorkNil r Ag cg 1 _ (by omega)).mono ?_
  rintro e w37 ⟨rfl, hb37⟩
  replace ca0 := keepC hb37 ca0
  replace ca1 := keepC hb37 ca1
  replace cW0 := keepC hb37 cW0
  replace cW1 := keepC hb37 cW1
  replace cx0 := keepC hb37 cx0
  replace cx1 := keepC hb37 cx1
  replace cg0 := keepC hb37 cg0
  replace cg1 := keepC hb37 cg1
  replace ch0 := keepC hb37 ch0
  replace ch1 := keepC hb37 ch1
  replace ox := ox.on hb37
  have b38 := bel_trans b36 hb37
  clear b36
  clear hb37
  go_wp2
  go_ret
  exact ⟨rfl, b38⟩
end Go.Proofs.Ytpofgidhhcolfaa
