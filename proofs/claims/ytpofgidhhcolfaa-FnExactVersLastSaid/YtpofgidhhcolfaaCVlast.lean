/- The law FnExactVersLast, walked. -/
import Derived.Test.YtpofgidhhcolfaaV9
namespace Go.Proofs.Ytpofgidhhcolfaa
open Go.RowKit

set_option maxHeartbeats 4000000 in
set_option maxRecDepth 100000 in
theorem lawFnExactVersLast (now : Int) (A : Option Addr) (n c : Nat) (l : List Ver) (key : ByteArray) (w : World) (hr : Sl encVer w w.heap.size A n l) (hk : VerSWf l) (hn : n ≤ maxLen) (hkey : key.size ≤ maxLen) :
    Calls Try.prog 8 #[.agg #[.int .i64 now, .slice A n c], .string key] w fun e w' => e = .returned (.bool true) ∧ Below w.heap.size w w' := by
  have HN := Lib.hid hn
  clear hn
  unfold maxLen at hkey
  obtain ⟨r, hr0⟩ : ∃ r, lastRes now l key = r := ⟨_, rfl⟩
  have HR := Lib.hid hr0
  clear hr0
  have hrr : (r != r) = false := by simp
  have ha1 := bel_alloc (Below.refl _ w) (.cells #[.int .i64 now, .slice A n c] 34)
  obtain ⟨ca0, ca1⟩ := cell_new2Vers w (.int .i64 now) (.slice A n c) 34
  have b2 := bel_trans (Below.refl _ w) ha1
  clear ha1
  by_cases hbig : key.size ≤ 1048576
  case neg =>
    go_enter Try.func8, Try.ntmps8
    go_wp2
    go_ret
    exact ⟨rfl, b2⟩
  go_enter Try.func8, Try.ntmps8
  go_wp2_with fail
  refine (szVers now A n c l _ _ (hr.on b2) hk HN.out (by omega) (by omega)).mono ?_
  rintro e w3 ⟨v, rfl, hv0, hv1, hv2, hb3⟩
  replace ca0 := keepC hb3 ca0
  replace ca1 := keepC hb3 ca1
  have b4 := bel_trans b2 hb3
  clear b2
  clear hb3
  go_wp2_with fail
  · go_ret
    exact ⟨rfl, b4⟩
  have HN2 := Lib.hid (show n ≤ 1048576 by have h3 := hv2 (by omega); omega)
  clear hv2
  refine (toVers now A n c l _ (hr.on b4) HN2.out).mono ?_
  rintro e w5 ⟨gy, rfl, oy, hb5⟩
  have zy := (show w.heap.size ≤ _ from b4.size)
  replace ca0 := keepC hb5 ca0
  replace ca1 := keepC hb5 ca1
  have b6 := bel_trans b4 hb5
  clear b4
  clear hb5
  go_wp2_with fail
  refine (specVersLast now _ n n l key _ oy.sl hk HN2.out).mono ?_
  rintro e w7 ⟨rfl, hb7⟩
  replace ca0 := keepC hb7 ca0
  replace ca1 := keepC hb7 ca1
  replace oy := oy.on hb7
  have b8 := bel_trans b6 hb7
  clear b6
  clear hb7
  rw [HR.out]
  clear oy
  go_wp2_with fail
  refine (toVers now A n c l _ (hr.on b8) HN2.out).mono ?_
  rintro e w9 ⟨gx, rfl, ox, hb9⟩
  have zx := (show w.heap.size ≤ _ from b8.size)
  replace ca0 := keepC hb9 ca0
  replace ca1 := keepC hb9 ca1
  have b10 := bel_trans b8 hb9
  clear b8
  clear hb9
  have ha11 := bel_alloc (Below.refl _ w9) (.cells #[.int .i64 now, .slice (some ⟨gx, 0, none⟩) n n] 39)
  obtain ⟨cx0, cx1⟩ := cell_new2Vers w9 (.int .i64 now) (.slice (some ⟨gx, 0, none⟩) n n) 39
  replace ca0 := keepC ha11 ca0
  replace ca1 := keepC ha11 ca1
  replace ox := ox.on ha11
  have b12 := bel_trans b10 ha11
  clear b10
  clear ha11
  go_wp2_with fail
  refine (implVersLast now _ n n l key _ ox.sl hk HN2.out).mono ?_
  rintro e w13 ⟨rfl, hb13⟩
  replace ca0 := keepC hb13 ca0
  replace ca1 := keepC hb13 ca1
  replace cx0 := keepC hb13 cx0
  replace cx1 := keepC hb13 cx1
  replace ox := ox.on hb13
  have b14 := bel_trans b12 hb13
  clear b12
  clear hb13
  rw [HR.out]
  obtain ⟨Bx, hBx⟩ : ∃ Bx, w9.heap.size = Bx := ⟨_, rfl⟩
  rw [hBx] at cx0 cx1 ⊢
  clear hBx
  go_wp2_with fail
  have hx : ∀ W', Below w13.heap.size w13 W' → (W'.cell? ⟨Bx, 0, none⟩ = some (.int .i64 now) ∧ W'.cell? ⟨Bx, 1, none⟩ = some (.slice (some ⟨gx, 0, none⟩) n n)) ∧ (W'.cell? ⟨w.heap.size, 0, none⟩ = some (.int .i64 now) ∧ W'.cell? ⟨w.heap.size, 1, none⟩ = some (.slice A n c)) := fun W' hW' => ⟨⟨keepC hW' cx0, keepC hW' cx1⟩, keepC hW' ca0, keepC hW' ca1⟩
  have HX := Lib.hid hx
  clear hx
  refine wp_region_held_drew (S := (fun W' => ((W'.cell? ⟨Bx, 0, none⟩ = some (.int .i64 now) ∧ W'.cell? ⟨Bx, 1, none⟩ = some (.slice (some ⟨gx, 0, none⟩) n n)) ∧ (W'.cell? ⟨w.heap.size, 0, none⟩ = some (.int .i64 now) ∧ W'.cell? ⟨w.heap.size, 1, none⟩ = some (.slice A n c))) ∧ Below w13.heap.size w13 W')) (by kernel_rfl) ⟨HX.out _ (Below.refl _ _).drew, (Below.refl _ _).drew⟩ (fun hHeld => ?_)
  refine wpAnyH_take (i := 0) (oi := { dst := some 29, op := Go.Op.load 39 (Go.Operand.tmp 7), type := 39, pos := "exact.go:1600", after := #[], guard := none }) (v := ?_) rfl (by kernel_rfl) (by kernel_rfl) (by kernel_rfl) (fun _ _ _ h => h) (Or.inl ⟨by rfl, ?hy0⟩) (by assumption) ?_
  case hy0 => ((intro w hSw; (try dsimp only at hSw); go_simp); try with_reducible rfl)
  try simp only [Act.put, List.setIfInBounds_toArray, List.set_cons_zero, List.set_cons_succ]
  refine wpAnyH_take (i := 1) (oi := { dst := some 30, op := Go.Op.load 34 (Go.Operand.tmp 2), type := 34, pos := "exact.go:1600", after := #[], guard := none }) (v := ?_) rfl (by kernel_rfl) (by kernel_rfl) (by kernel_rfl) (fun _ _ _ h => h) (Or.inl ⟨by rfl, ?hy1⟩) (by assumption) ?_
  case hy1 => ((intro w hSw; (try dsimp only at hSw); go_simp); try with_reducible rfl)
  try simp only [Act.put, List.setIfInBounds_toArray, List.set_cons_zero, List.set_cons_succ]
  refine wpAnyH_ready (rs := [2]) (by kernel_rfl) (by simp) ?_
  refine AllReadyH.cons (o := { dst := some 31, op := Go.Op.call { callee := Go.Callee.value (Go.Operand.func 26), args := #[Go.Operand.tmp 30], argTypes := #[34] }, type := 39, pos := "exact.go:1600", after := #[{ on := 1, ground := Go.Ground.data }], guard := none }) rfl (fun K hK => ?_) AllReadyH.nil
  go_simp
  refine (toVers now A n c l _ (hr.on (bel_trans b14 ((Below.refl _ _).drew))) HN2.out).mono ?_
  rintro e wa ⟨va, rfl, oa, hba'⟩
  have hba := bel_trans ((Below.refl w13.heap.size w13).drew) hba'
  go_wp2_with fail
  refine hK.out _ _ ⟨HX.out _ hba, hba⟩ (fun hHeld => ?_)
  clear hK K
  try simp only [Act.put, List.setIfInBounds_toArray, List.set_cons_zero, List.set_cons_succ]
  refine wpAnyH_ready (rs := [3]) (by kernel_rfl) (by simp) ?_
  refine AllReadyH.cons (o := { dst := some 32, op := Go.Op.call { callee := Go.Callee.value (Go.Operand.func 28), args := #[Go.Operand.tmp 29, Go.Operand.tmp 31], argTypes := #[39, 39] }, type := 4, pos := "exact.go:1600", after := #[{ on := 0, ground := Go.Ground.data }, { on := 2, ground := Go.Ground.data }, { on := 2, ground := Go.Ground.chain }], guard := none }) rfl (fun K hK => ?_) AllReadyH.nil
  go_simp
  refine (eqVers now _ n n l now _ n n l _ (ox.on hba).sl oa.sl HN2.out).mono ?_
  rintro e wb ⟨rfl, hbb'⟩
  have hbb := bel_trans hba hbb'
  rw [VersEq_self]
  go_wp2_with fail
  refine hK.out _ _ ⟨HX.out _ hbb, hbb⟩ (fun hHeld => ?_)
  clear hK K
  try simp only [Act.put, List.setIfInBounds_toArray, List.set_cons_zero, List.set_cons_succ]
  refine wpAnyH_take (i := 4) (oi := { dst := some 33, op := Go.Op.unOp Go.UnOp.not 4 (Go.Operand.tmp 32), type := 4, pos := "exact.go:1600", after := #[{ on := 3, ground := Go.Ground.data }], guard := none }) (v := ?_) rfl (by kernel_rfl) (by kernel_rfl) (by kernel_rfl) (fun _ _ _ h => h) (Or.inl ⟨by rfl, ?hy4⟩) (by assumption) ?_
  case hy4 => ((intro w hSw; (try dsimp only at hSw); go_simp); try with_reducible rfl)
  try simp only [Act.put, List.setIfInBounds_toArray, List.set_cons_zero, List.set_cons_succ]
  refine wpAnyH_done (by kernel_rfl) ?_ _
  clear oa hba hba' hbb' hHeld HX
  replace ca0 := keepC hbb ca0
  replace ca1 := keepC hbb ca1
  replace cx0 := keepC hbb cx0
  replace cx1 := keepC hbb cx1
  replace ox := ox.on hbb
  have b15 := bel_trans b14 hbb
  clear b14
  clear hbb
  go_wp2
  go_ret
  exact ⟨rfl, b15⟩
end Go.Proofs.Ytpofgidhhcolfaa
