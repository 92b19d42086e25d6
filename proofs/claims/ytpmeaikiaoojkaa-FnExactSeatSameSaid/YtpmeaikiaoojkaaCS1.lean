/- The law FnExactSeatSame, walked. -/
import Derived.Test.YtpmeaikiaoojkaaS1
namespace Go.Proofs.Ytpmeaikiaoojkaa
open Go.RowKit

set_option maxHeartbeats 4000000 in
set_option maxRecDepth 100000 in
theorem lawFnExactSeatSame (on bad : Bool) (at_ : Int) (A : Option Addr) (n c : Nat) (l : List Write) (on2 bad2 : Bool) (at2 : Int) (B : Option Addr) (m d : Nat) (p : List Write) (w : World)
    (hr : Sl encWrite w w.heap.size A n l) (hk : WriteSWf l) (hn : n ≤ maxLen) (hs : Sl encWrite w w.heap.size B m p) (hk2 : WriteSWf p) (hm : m ≤ maxLen) :
    Calls Try.prog 8 #[.agg #[.bool on, .bool bad, .int .i64 at_, .slice A n c], .agg #[.bool on2, .bool bad2, .int .i64 at2, .slice B m d]] w fun e w' => e = .returned (.bool true) ∧ Below w.heap.size w w' := by
  have HN := Lib.hid hn
  have HM := Lib.hid hm
  clear hn hm
  obtain ⟨r, hr0⟩ : ∃ r, SeatEq on bad at_ l on2 bad2 at2 p = r := ⟨_, rfl⟩
  have HR := Lib.hid hr0
  clear hr0
  have hrr : (r != r) = false := by simp
  have he1 := SeatEq_self on bad at_ l
  have he2 := SeatEq_self on2 bad2 at2 p
  have ha1 := bel_alloc (Below.refl _ w) (.cells #[.bool on, .bool bad, .int .i64 at_, .slice A n c] 45)
  have xa := BoxC.new w 45 #[.bool on, .bool bad, .int .i64 at_, .slice A n c]
  have b2 := bel_trans (Below.refl _ w) ha1
  clear ha1
  have ca0 := xa.c (k := 0) rfl
  have ca1 := xa.c (k := 1) rfl
  have ca2 := xa.c (k := 2) rfl
  have ca3 := xa.c (k := 3) rfl
  have ha3 := bel_alloc (Below.refl _ (w.alloc (.cells #[.bool on, .bool bad, .int .i64 at_, .slice A n c] 45))) (.cells #[.bool on2, .bool bad2, .int .i64 at2, .slice B m d] 45)
  have xb := BoxC.new (w.alloc (.cells #[.bool on, .bool bad, .int .i64 at_, .slice A n c] 45)) 45 #[.bool on2, .bool bad2, .int .i64 at2, .slice B m d]
  simp only [World.size_alloc] at xb
  replace xa := xa.on ha3
  replace ca0 := keepC ha3 ca0
  replace ca1 := keepC ha3 ca1
  replace ca2 := keepC ha3 ca2
  replace ca3 := keepC ha3 ca3
  have b4 := bel_trans b2 ha3
  clear b2
  clear ha3
  have cb0 := xb.c (k := 0) rfl
  have cb1 := xb.c (k := 1) rfl
  have cb2 := xb.c (k := 2) rfl
  have cb3 := xb.c (k := 3) rfl
  go_enter Try.func8, Try.ntmps8
  go_wp2_with fail
  refine (szSeat on bad at_ A n c l _ _ (hr.on b4) hk HN.out (by omega) (by omega)).mono ?_
  rintro e w5 ⟨v, rfl, hv0, hv1, hv2, hb5⟩
  replace xa := xa.on hb5
  replace ca0 := keepC hb5 ca0
  replace ca1 := keepC hb5 ca1
  replace ca2 := keepC hb5 ca2
  replace ca3 := keepC hb5 ca3
  replace xb := xb.on hb5
  replace cb0 := keepC hb5 cb0
  replace cb1 := keepC hb5 cb1
  replace cb2 := keepC hb5 cb2
  replace cb3 := keepC hb5 cb3
  have b6 := bel_trans b4 hb5
  clear b4
  clear hb5
  go_wp2_with fail
  · go_ret
    exact ⟨rfl, b6⟩
  have HN2 := Lib.hid (show n ≤ 1048576 by have h3 := hv2 (by omega); omega)
  clear hv2
  refine (szSeat on2 bad2 at2 B m d p _ _ (hs.on b6) hk2 HM.out (by omega) (by omega)).mono ?_
  rintro e w7 ⟨v2, rfl, hv3, hv4, hv5, hb7⟩
  replace xa := xa.on hb7
  replace ca0 := keepC hb7 ca0
  replace ca1 := keepC hb7 ca1
  replace ca2 := keepC hb7 ca2
  replace ca3 := keepC hb7 ca3
  replace xb := xb.on hb7
  replace cb0 := keepC hb7 cb0
  replace cb1 := keepC hb7 cb1
  replace cb2 := keepC hb7 cb2
  replace cb3 := keepC hb7 cb3
  have b8 := bel_trans b6 hb7
  clear b6
  clear hb7
  go_wp2_with fail
  · go_ret
    exact ⟨rfl, b8⟩
  have HM2 := Lib.hid (show m ≤ 1048576 by have h3 := hv5 (by omega); omega)
  clear hv5
  have CA := Lib.hid (fun W (hW : Below w.heap.size w W) => toSeat on bad at_ A n c l W (hr.on hW) HN2.out)
  have CB := Lib.hid (fun W (hW : Below w.heap.size w W) => toSeat on2 bad2 at2 B m d p W (hs.on hW) HM2.out)
  clear hr hs
  have HX9 := Lib.hid (show ∀ W' : World, Below w7.heap.size w7 W' → (W'.cell? ⟨w.heap.size, 0, none⟩ = some (.bool on) ∧ W'.cell? ⟨w.heap.size, 1, none⟩ = some (.bool bad) ∧ W'.cell? ⟨w.heap.size, 2, none⟩ = some (.int .i64 at_) ∧ W'.cell? ⟨w.heap.size, 3, none⟩ = some (.slice A n c) ∧ W'.cell? ⟨w.heap.size + 1, 0, none⟩ = some (.bool on2) ∧ W'.cell? ⟨w.heap.size + 1, 1, none⟩ = some (.bool bad2) ∧ W'.cell? ⟨w.heap.size + 1, 2, none⟩ = some (.int .i64 at2) ∧ W'.cell? ⟨w.heap.size + 1, 3, none⟩ = some (.slice B m d)) from fun W' hW' => ⟨keepC hW' ca0, keepC hW' ca1, keepC hW' ca2, keepC hW' ca3, keepC hW' cb0, keepC hW' cb1, keepC hW' cb2, keepC hW' cb3⟩)
  refine wp_region_held_drew (S := (fun W' => (W'.cell? ⟨w.heap.size, 0, none⟩ = some (.bool on) ∧ W'.cell? ⟨w.heap.size, 1, none⟩ = some (.bool bad) ∧ W'.cell? ⟨w.heap.size, 2, none⟩ = some (.int .i64 at_) ∧ W'.cell? ⟨w.heap.size, 3, none⟩ = some (.slice A n c) ∧ W'.cell? ⟨w.heap.size + 1, 0, none⟩ = some (.bool on2) ∧ W'.cell? ⟨w.heap.size + 1, 1, none⟩ = some (.bool bad2) ∧ W'.cell? ⟨w.heap.size + 1, 2, none⟩ = some (.int .i64 at2) ∧ W'.cell? ⟨w.heap.size + 1, 3, none⟩ = some (.slice B m d)) ∧ Below w7.heap.size w7 W')) (by kernel_rfl) ⟨HX9.out _ (Below.refl _ _).drew, (Below.refl _ _).drew⟩ (fun hHeld => ?_)
  refine wpAnyH_take (i := 0) (oi := { dst := some 20, op := Go.Op.load 45 (Go.Operand.tmp 2), type := 45, pos := "exact.go:2180", after := #[], guard := none }) (v := ?_) rfl (by kernel_rfl) (by kernel_rfl) (by kernel_rfl) (fun _ _ _ h => h) (Or.inl ⟨by rfl, ?hy0⟩) (by assumption) ?_
  case hy0 => ((intro w hSw; (try dsimp only at hSw); go_simp); try with_reducible rfl)
  try simp only [Act.put, List.setIfInBounds_toArray, List.set_cons_zero, List.set_cons_succ]
  refine wpAnyH_take (i := 2) (oi := { dst := some 22, op := Go.Op.load 45 (Go.Operand.tmp 3), type := 45, pos := "exact.go:2180", after := #[], guard := none }) (v := ?_) rfl (by kernel_rfl) (by kernel_rfl) (by kernel_rfl) (fun _ _ _ h => h) (Or.inl ⟨by rfl, ?hy2⟩) (by assumption) ?_
  case hy2 => ((intro w hSw; (try dsimp only at hSw); go_simp); try with_reducible rfl)
  try simp only [Act.put, List.setIfInBounds_toArray, List.set_cons_zero, List.set_cons_succ]
  refine wpAnyH_ready (rs := [1]) (by kernel_rfl) (by simp) ?_
  refine AllReadyH.cons (o := { dst := some 21, op := Go.Op.call { callee := Go.Callee.value (Go.Operand.func 25), args := #[Go.Operand.tmp 20], argTypes := #[45] }, type := 52, pos := "exact.go:2180", after := #[{ on := 0, ground := Go.Ground.data }], guard := none }) rfl (fun K hK => ?_) AllReadyH.nil
  go_simp
  refine (CA.out _ (bel_trans b8 ((Below.refl w7.heap.size w7).drew))).mono ?_
  rintro e wr9_1 ⟨ga, rfl, oa, hbr9_1'⟩
  have hbr9_1 := bel_trans ((Below.refl w7.heap.size w7).drew) hbr9_1'
  go_wp2_with fail
  refine hK.out _ _ ⟨HX9.out _ hbr9_1, hbr9_1⟩ (fun hHeld => ?_)
  clear hK K
  try simp only [Act.put, List.setIfInBounds_toArray, List.set_cons_zero, List.set_cons_succ]
  refine wpAnyH_ready (rs := [3]) (by kernel_rfl) (by simp) ?_
  refine AllReadyH.cons (o := { dst := some 23, op := Go.Op.call { callee := Go.Callee.value (Go.Operand.func 25), args := #[Go.Operand.tmp 22], argTypes := #[45] }, type := 52, pos := "exact.go:2180", after := #[{ on := 2, ground := Go.Ground.data }, { on := 1, ground := Go.Ground.chain }], guard := none }) rfl (fun K hK => ?_) AllReadyH.nil
  go_simp
  refine (CB.out _ (bel_trans b8 (hbr9_1))).mono ?_
  rintro e wr9_2 ⟨gb, rfl, ob, hbr9_2'⟩
  have hbr9_2 := bel_trans (hbr9_1) hbr9_2'
  replace oa := oa.on hbr9_2'
  go_wp2_with fail
  refine hK.out _ _ ⟨HX9.out _ hbr9_2, hbr9_2⟩ (fun hHeld => ?_)
  clear hK K
  try simp only [Act.put, List.setIfInBounds_toArray, List.set_cons_zero, List.set_cons_succ]
  refine wpAnyH_ready (rs := [4]) (by kernel_rfl) (by simp) ?_
  refine AllReadyH.cons (o := { dst := some 24, op := Go.Op.call { callee := Go.Callee.value (Go.Operand.func 24), args := #[Go.Operand.tmp 21, Go.Operand.tmp 23], argTypes := #[52, 52] }, type := 4, pos := "exact.go:2180", after := #[{ on := 1, ground := Go.Ground.data }, { on := 3, ground := Go.Ground.data }, { on := 3, ground := Go.Ground.chain }], guard := none }) rfl (fun K hK => ?_) AllReadyH.nil
  go_simp
  refine (specSeatSame on bad at_ _ n n l on2 bad2 at2 _ m m p _ oa.sl ob.sl HN2.out).mono ?_
  rintro e wr9_3 ⟨rfl, hbr9_3'⟩
  have hbr9_3 := bel_trans (hbr9_2) hbr9_3'
  rw [HR.out]
  clear oa ob
  go_wp2_with fail
  refine hK.out _ _ ⟨HX9.out _ hbr9_3, hbr9_3⟩ (fun hHeld => ?_)
  clear hK K
  try simp only [Act.put, List.setIfInBounds_toArray, List.set_cons_zero, List.set_cons_succ]
  refine wpAnyH_take (i := 5) (oi := { dst := some 6, op := Go.Op.assign (Go.Operand.tmp 24), type := 4, pos := "exact.go:2180", after := #[{ on := 4, ground := Go.Ground.data }, { on := 4, ground := Go.Ground.chain }, { on := 0, ground := Go.Ground.phase }, { on := 1, ground := Go.Ground.phase }, { on := 2, ground := Go.Ground.phase }, { on := 3, ground := Go.Ground.phase }, { on := 4, ground := Go.Ground.phase }], guard := none }) (v := ?_) rfl (by kernel_rfl) (by kernel_rfl) (by kernel_rfl) (fun _ _ _ h => h) (Or.inl ⟨by rfl, ?hy5⟩) (by assumption) ?_
  case hy5 => ((intro w hSw; (try dsimp only at hSw); go_simp); try with_reducible rfl)
  try simp only [Act.put, List.setIfInBounds_toArray, List.set_cons_zero, List.set_cons_succ]
  refine wpAnyH_done (by kernel_rfl) ?_ _
  clear HX9
  replace xa := xa.on hbr9_3
  replace ca0 := keepC hbr9_3 ca0
  replace ca1 := keepC hbr9_3 ca1
  replace ca2 := keepC hbr9_3 ca2
  replace ca3 := keepC hbr9_3 ca3
  replace xb := xb.on hbr9_3
  replace cb0 := keepC hbr9_3 cb0
  replace cb1 := keepC hbr9_3 cb1
  replace cb2 := keepC hbr9_3 cb2
  replace cb3 := keepC hbr9_3 cb3
  have b10 := bel_trans b8 hbr9_3
  clear b8
  go_wp2_with fail
  refine (CA.out _ b10).mono ?_
  rintro e w11 ⟨gx, rfl, ox, hb11⟩
  have zx := fun x hx => Nat.le_trans b10.size (ox.block (a := x) hx).1
  replace xa := xa.on hb11
  replace ca0 := keepC hb11 ca0
  replace ca1 := keepC hb11 ca1
  replace ca2 := keepC hb11 ca2
  replace ca3 := keepC hb11 ca3
  replace xb := xb.on hb11
  replace cb0 := keepC hb11 cb0
  replace cb1 := keepC hb11 cb1
  replace cb2 := keepC hb11 cb2
  replace cb3 := keepC hb11 cb3
  have b12 := bel_trans b10 hb11
  clear b10
  clear hb11
  have ha13 := bel_alloc (Below.refl _ w11) (.cells #[.bool on, .bool bad, .int .i64 at_, .slice (some ⟨gx, 0, none⟩) n n] 52)
  have xx := BoxC.new w11 52 #[.bool on, .bool bad, .int .i64 at_, .slice (some ⟨gx, 0, none⟩) n n]
  replace xa := xa.on ha13
  replace ca0 := keepC ha13 ca0
  replace ca1 := keepC ha13 ca1
  replace ca2 := keepC ha13 ca2
  replace ca3 := keepC ha13 ca3
  replace xb := xb.on ha13
  replace cb0 := keepC ha13 cb0
  replace cb1 := keepC ha13 cb1
  replace cb2 := keepC ha13 cb2
  replace cb3 := keepC ha13 cb3
  replace ox := ox.on ha13
  have b14 := bel_trans b12 ha13
  clear b12
  clear ha13
  have cx0 := xx.c (k := 0) rfl
  have cx1 := xx.c (k := 1) rfl
  have cx2 := xx.c (k := 2) rfl
  have cx3 := xx.c (k := 3) rfl
  go_wp2_with fail
  refine (CB.out _ b14).mono ?_
  rintro e w15 ⟨gy, rfl, oy, hb15⟩
  have zy := fun x hx => Nat.le_trans b14.size (oy.block (a := x) hx).1
  have dxy := ox.apart oy (Nat.le_refl _)
  replace xa := xa.on hb15
  replace ca0 := keepC hb15 ca0
  replace ca1 := keepC hb15 ca1
  replace ca2 := keepC hb15 ca2
  replace ca3 := keepC hb15 ca3
  replace xb := xb.on hb15
  replace cb0 := keepC hb15 cb0
  replace cb1 := keepC hb15 cb1
  replace cb2 := keepC hb15 cb2
  replace cb3 := keepC hb15 cb3
  replace xx := xx.on hb15
  replace cx0 := keepC hb15 cx0
  replace cx1 := keepC hb15 cx1
  replace cx2 := keepC hb15 cx2
  replace cx3 := keepC hb15 cx3
  replace ox := ox.on hb15
  have b16 := bel_trans b14 hb15
  clear b14
  clear hb15
  obtain ⟨Bx, hBx⟩ : ∃ Bx, w11.heap.size = Bx := ⟨_, rfl⟩
  rw [hBx] at xx cx0 cx1 cx2 cx3 ⊢
  clear hBx
  have ha17 := bel_alloc (Below.refl _ w15) (.cells #[.bool on2, .bool bad2, .int .i64 at2, .slice (some ⟨gy, 0, none⟩) m m] 52)
  have xy := BoxC.new w15 52 #[.bool on2, .bool bad2, .int .i64 at2, .slice (some ⟨gy, 0, none⟩) m m]
  replace xa := xa.on ha17
  replace ca0 := keepC ha17 ca0
  replace ca1 := keepC ha17 ca1
  replace ca2 := keepC ha17 ca2
  replace ca3 := keepC ha17 ca3
  replace xb := xb.on ha17
  replace cb0 := keepC ha17 cb0
  replace cb1 := keepC ha17 cb1
  replace cb2 := keepC ha17 cb2
  replace cb3 := keepC ha17 cb3
  replace xx := xx.on ha17
  replace cx0 := keepC ha17 cx0
  replace cx1 := keepC ha17 cx1
  replace cx2 := keepC ha17 cx2
  replace cx3 := keepC ha17 cx3
  replace ox := ox.on ha17
  replace oy := oy.on ha17
  have b18 := bel_trans b16 ha17
  clear b16
  clear ha17
  have cy0 := xy.c (k := 0) rfl
  have cy1 := xy.c (k := 1) rfl
  have cy2 := xy.c (k := 2) rfl
  have cy3 := xy.c (k := 3) rfl
  go_wp2_with fail
  refine (implSeatSame on bad at_ _ n n l on2 bad2 at2 _ m m p _ ox.sl oy.sl HN2.out).mono ?_
  rintro e w19 ⟨rfl, hb19⟩
  replace xa := xa.on hb19
  replace ca0 := keepC hb19 ca0
  replace ca1 := keepC hb19 ca1
  replace ca2 := keepC hb19 ca2
  replace ca3 := keepC hb19 ca3
  replace xb := xb.on hb19
  replace cb0 := keepC hb19 cb0
  replace cb1 := keepC hb19 cb1
  replace cb2 := keepC hb19 cb2
  replace cb3 := keepC hb19 cb3
  replace xx := xx.on hb19
  replace cx0 := keepC hb19 cx0
  replace cx1 := keepC hb19 cx1
  replace cx2 := keepC hb19 cx2
  replace cx3 := keepC hb19 cx3
  replace xy := xy.on hb19
  replace cy0 := keepC hb19 cy0
  replace cy1 := keepC hb19 cy1
  replace cy2 := keepC hb19 cy2
  replace cy3 := keepC hb19 cy3
  replace ox := ox.on hb19
  replace oy := oy.on hb19
  have b20 := bel_trans b18 hb19
  clear b18
  clear hb19
  obtain ⟨By, hBy⟩ : ∃ By, w15.heap.size = By := ⟨_, rfl⟩
  rw [hBy] at xy cy0 cy1 cy2 cy3 ⊢
  clear hBy
  rw [HR.out]
  go_wp2_with fail
  have HX21 := Lib.hid (show ∀ W' : World, Below w19.heap.size w19 W' → (W'.cell? ⟨Bx, 0, none⟩ = some (.bool on) ∧ W'.cell? ⟨Bx, 1, none⟩ = some (.bool bad) ∧ W'.cell? ⟨Bx, 2, none⟩ = some (.int .i64 at_) ∧ W'.cell? ⟨Bx, 3, none⟩ = some (.slice (some ⟨gx, 0, none⟩) n n) ∧ W'.cell? ⟨w.heap.size, 0, none⟩ = some (.bool on) ∧ W'.cell? ⟨w.heap.size, 1, none⟩ = some (.bool bad) ∧ W'.cell? ⟨w.heap.size, 2, none⟩ = some (.int .i64 at_) ∧ W'.cell? ⟨w.heap.size, 3, none⟩ = some (.slice A n c)) from fun W' hW' => ⟨keepC hW' cx0, keepC hW' cx1, keepC hW' cx2, keepC hW' cx3, keepC hW' ca0, keepC hW' ca1, keepC hW' ca2, keepC hW' ca3⟩)
  refine wp_region_held_drew (S := (fun W' => (W'.cell? ⟨Bx, 0, none⟩ = some (.bool on) ∧ W'.cell? ⟨Bx, 1, none⟩ = some (.bool bad) ∧ W'.cell? ⟨Bx, 2, none⟩ = some (.int .i64 at_) ∧ W'.cell? ⟨Bx, 3, none⟩ = some (.slice (some ⟨gx, 0, none⟩) n n) ∧ W'.cell? ⟨w.heap.size, 0, none⟩ = some (.bool on) ∧ W'.cell? ⟨w.heap.size, 1, none⟩ = some (.bool bad) ∧ W'.cell? ⟨w.heap.size, 2, none⟩ = some (.int .i64 at_) ∧ W'.cell? ⟨w.heap.size, 3, none⟩ = some (.slice A n c)) ∧ Below w19.heap.size w19 W')) (by kernel_rfl) ⟨HX21.out _ (Below.refl _ _).drew, (Below.refl _ _).drew⟩ (fun hHeld => ?_)
  refine wpAnyH_take (i := 0) (oi := { dst := some 35, op := Go.Op.load 52 (Go.Operand.tmp 7), type := 52, pos := "exact.go:2187", after := #[], guard := none }) (v := ?_) rfl (by kernel_rfl) (by kernel_rfl) (by kernel_rfl) (fun _ _ _ h => h) (Or.inl ⟨by rfl, ?hy0⟩) (by assumption) ?_
  case hy0 => ((intro w hSw; (try dsimp only at hSw); go_simp); try with_reducible rfl)
  try simp only [Act.put, List.setIfInBounds_toArray, List.set_cons_zero, List.set_cons_succ]
  refine wpAnyH_take (i := 1) (oi := { dst := some 36, op := Go.Op.load 45 (Go.Operand.tmp 2), type := 45, pos := "exact.go:2187", after := #[], guard := none }) (v := ?_) rfl (by kernel_rfl) (by kernel_rfl) (by kernel_rfl) (fun _ _ _ h => h) (Or.inl ⟨by rfl, ?hy1⟩) (by assumption) ?_
  case hy1 => ((intro w hSw; (try dsimp only at hSw); go_simp); try with_reducible rfl)
  try simp only [Act.put, List.setIfInBounds_toArray, List.set_cons_zero, List.set_cons_succ]
  refine wpAnyH_ready (rs := [2]) (by kernel_rfl) (by simp) ?_
  refine AllReadyH.cons (o := { dst := some 37, op := Go.Op.call { callee := Go.Callee.value (Go.Operand.func 25), args := #[Go.Operand.tmp 36], argTypes := #[45] }, type := 52, pos := "exact.go:2187", after := #[{ on := 1, ground := Go.Ground.data }], guard := none }) rfl (fun K hK => ?_) AllReadyH.nil
  go_simp
  refine (CA.out _ (bel_trans b20 ((Below.refl w19.heap.size w19).drew))).mono ?_
  rintro e wr21_1 ⟨ga, rfl, oa, hbr21_1'⟩
  have hbr21_1 := bel_trans ((Below.refl w19.heap.size w19).drew) hbr21_1'
  go_wp2_with fail
  refine hK.out _ _ ⟨HX21.out _ hbr21_1, hbr21_1⟩ (fun hHeld => ?_)
  clear hK K
  try simp only [Act.put, List.setIfInBounds_toArray, List.set_cons_zero, List.set_cons_succ]
  refine wpAnyH_ready (rs := [3]) (by kernel_rfl) (by simp) ?_
  refine AllReadyH.cons (o := { dst := some 38, op := Go.Op.call { callee := Go.Callee.value (Go.Operand.func 27), args := #[Go.Operand.tmp 35, Go.Operand.tmp 37], argTypes := #[52, 52] }, type := 4, pos := "exact.go:2187", after := #[{ on := 0, ground := Go.Ground.data }, { on := 2, ground := Go.Ground.data }, { on := 2, ground := Go.Ground.chain }], guard := none }) rfl (fun K hK => ?_) AllReadyH.nil
  go_simp
  refine (eqSeat on bad at_ _ n n l on bad at_ _ n n l _ (ox.on (hbr21_1)).sl oa.sl HN2.out).mono ?_
  rintro e wr21_2 ⟨rfl, hbr21_2'⟩
  have hbr21_2 := bel_trans (hbr21_1) hbr21_2'
  rw [he1]
  clear oa
  go_wp2_with fail
  refine hK.out _ _ ⟨HX21.out _ hbr21_2, hbr21_2⟩ (fun hHeld => ?_)
  clear hK K
  try simp only [Act.put, List.setIfInBounds_toArray, List.set_cons_zero, List.set_cons_succ]
  refine wpAnyH_take (i := 4) (oi := { dst := some 39, op := Go.Op.unOp Go.UnOp.not 4 (Go.Operand.tmp 38), type := 4, pos := "exact.go:2187", after := #[{ on := 3, ground := Go.Ground.data }], guard := none }) (v := ?_) rfl (by kernel_rfl) (by kernel_rfl) (by kernel_rfl) (fun _ _ _ h => h) (Or.inl ⟨by rfl, ?hy4⟩) (by assumption) ?_
  case hy4 => ((intro w hSw; (try dsimp only at hSw); go_simp); try with_reducible rfl)
  try simp only [Act.put, List.setIfInBounds_toArray, List.set_cons_zero, List.set_cons_succ]
  refine wpAnyH_done (by kernel_rfl) ?_ _
  clear HX21
  replace xa := xa.on hbr21_2
  replace ca0 := keepC hbr21_2 ca0
  replace ca1 := keepC hbr21_2 ca1
  replace ca2 := keepC hbr21_2 ca2
  replace ca3 := keepC hbr21_2 ca3
  replace xb := xb.on hbr21_2
  replace cb0 := keepC hbr21_2 cb0
  replace cb1 := keepC hbr21_2 cb1
  replace cb2 := keepC hbr21_2 cb2
  replace cb3 := keepC hbr21_2 cb3
  replace xx := xx.on hbr21_2
  replace cx0 := keepC hbr21_2 cx0
  replace cx1 := keepC hbr21_2 cx1
  replace cx2 := keepC hbr21_2 cx2
  replace cx3 := keepC hbr21_2 cx3
  replace xy := xy.on hbr21_2
  replace cy0 := keepC hbr21_2 cy0
  replace cy1 := keepC hbr21_2 cy1
  replace cy2 := keepC hbr21_2 cy2
  replace cy3 := keepC hbr21_2 cy3
  replace ox := ox.on hbr21_2
  replace oy := oy.on hbr21_2
  have b22 := bel_trans b20 hbr21_2
  clear b20
  go_wp2_with fail
  have HX23 := Lib.hid (show ∀ W' : World, Below wr21_2.heap.size wr21_2 W' → (W'.cell? ⟨By, 0, none⟩ = some (.bool on2) ∧ W'.cell? ⟨By, 1, none⟩ = some (.bool bad2) ∧ W'.cell? ⟨By, 2, none⟩ = some (.int .i64 at2) ∧ W'.cell? ⟨By, 3, none⟩ = some (.slice (some ⟨gy, 0, none⟩) m m) ∧ W'.cell? ⟨w.heap.size + 1, 0, none⟩ = some (.bool on2) ∧ W'.cell? ⟨w.heap.size + 1, 1, none⟩ = some (.bool bad2) ∧ W'.cell? ⟨w.heap.size + 1, 2, none⟩ = some (.int .i64 at2) ∧ W'.cell? ⟨w.heap.size + 1, 3, none⟩ = some (.slice B m d)) from fun W' hW' => ⟨keepC hW' cy0, keepC hW' cy1, keepC hW' cy2, keepC hW' cy3, keepC hW' cb0, keepC hW' cb1, keepC hW' cb2, keepC hW' cb3⟩)
  refine wp_region_held_drew (S := (fun W' => (W'.cell? ⟨By, 0, none⟩ = some (.bool on2) ∧ W'.cell? ⟨By, 1, none⟩ = some (.bool bad2) ∧ W'.cell? ⟨By, 2, none⟩ = some (.int .i64 at2) ∧ W'.cell? ⟨By, 3, none⟩ = some (.slice (some ⟨gy, 0, none⟩) m m) ∧ W'.cell? ⟨w.heap.size + 1, 0, none⟩ = some (.bool on2) ∧ W'.cell? ⟨w.heap.size + 1, 1, none⟩ = some (.bool bad2) ∧ W'.cell? ⟨w.heap.size + 1, 2, none⟩ = some (.int .i64 at2) ∧ W'.cell? ⟨w.heap.size + 1, 3, none⟩ = some (.slice B m d)) ∧ Below wr21_2.heap.size wr21_2 W')) (by kernel_rfl) ⟨HX23.out _ (Below.refl _ _).drew, (Below.refl _ _).drew⟩ (fun hHeld => ?_)
  refine wpAnyH_take (i := 0) (oi := { dst := some 40, op := Go.Op.load 52 (Go.Operand.tmp 8), type := 52, pos := "exact.go:2190", after := #[], guard := none }) (v := ?_) rfl (by kernel_rfl) (by kernel_rfl) (by kernel_rfl) (fun _ _ _ h => h) (Or.inl ⟨by rfl, ?hy0⟩) (by assumption) ?_
  case hy0 => ((intro w hSw; (try dsimp only at hSw); go_simp); try with_reducible rfl)
  try simp only [Act.put, List.setIfInBounds_toArray, List.set_cons_zero, List.set_cons_succ]
  refine wpAnyH_take (i := 1) (oi := { dst := some 41, op := Go.Op.load 45 (Go.Operand.tmp 3), type := 45, pos := "exact.go:2190", after := #[], guard := none }) (v := ?_) rfl (by kernel_rfl) (by kernel_rfl) (by kernel_rfl) (fun _ _ _ h => h) (Or.inl ⟨by rfl, ?hy1⟩) (by assumption) ?_
  case hy1 => ((intro w hSw; (try dsimp only at hSw); go_simp); try with_reducible rfl)
  try simp only [Act.put, List.setIfInBounds_toArray, List.set_cons_zero, List.set_cons_succ]
  refine wpAnyH_ready (rs := [2]) (by kernel_rfl) (by simp) ?_
  refine AllReadyH.cons (o := { dst := some 42, op := Go.Op.call { callee := Go.Callee.value (Go.Operand.func 25), args := #[Go.Operand.tmp 41], argTypes := #[45] }, type := 52, pos := "exact.go:2190", after := #[{ on := 1, ground := Go.Ground.data }], guard := none }) rfl (fun K hK => ?_) AllReadyH.nil
  go_simp
  refine (CB.out _ (bel_trans b22 ((Below.refl wr21_2.heap.size wr21_2).drew))).mono ?_
  rintro e wr23_1 ⟨ga, rfl, oa, hbr23_1'⟩
  have hbr23_1 := bel_trans ((Below.refl wr21_2.heap.size wr21_2).drew) hbr23_1'
  go_wp2_with fail
  refine hK.out _ _ ⟨HX23.out _ hbr23_1, hbr23_1⟩ (fun hHeld => ?_)
  clear hK K
  try simp only [Act.put, List.setIfInBounds_toArray, List.set_cons_zero, List.set_cons_succ]
  refine wpAnyH_ready (rs := [3]) (by kernel_rfl) (by simp) ?_
  refine AllReadyH.cons (o := { dst := some 43, op := Go.Op.call { callee := Go.Callee.value (Go.Operand.func 27), args := #[Go.Operand.tmp 40, Go.Operand.tmp 42], argTypes := #[52, 52] }, type := 4, pos := "exact.go:2190", after := #[{ on := 0, ground := Go.Ground.data }, { on := 2, ground := Go.Ground.data }, { on := 2, ground := Go.Ground.chain }], guard := none }) rfl (fun K hK => ?_) AllReadyH.nil
  go_simp
  refine (eqSeat on2 bad2 at2 _ m m p on2 bad2 at2 _ m m p _ (oy.on (hbr23_1)).sl oa.sl HM2.out).mono ?_
  rintro e wr23_2 ⟨rfl, hbr23_2'⟩
  have hbr23_2 := bel_trans (hbr23_1) hbr23_2'
  rw [he2]
  clear oa
  go_wp2_with fail
  refine hK.out _ _ ⟨HX23.out _ hbr23_2, hbr23_2⟩ (fun hHeld => ?_)
  clear hK K
  try simp only [Act.put, List.setIfInBounds_toArray, List.set_cons_zero, List.set_cons_succ]
  refine wpAnyH_take (i := 4) (oi := { dst := some 44, op := Go.Op.unOp Go.UnOp.not 4 (Go.Operand.tmp 43), type := 4, pos := "exact.go:2190", after := #[{ on := 3, ground := Go.Ground.data }], guard := none }) (v := ?_) rfl (by kernel_rfl) (by kernel_rfl) (by kernel_rfl) (fun _ _ _ h => h) (Or.inl ⟨by rfl, ?hy4⟩) (by assumption) ?_
  case hy4 => ((intro w hSw; (try dsimp only at hSw); go_simp); try with_reducible rfl)
  try simp only [Act.put, List.setIfInBounds_toArray, List.set_cons_zero, List.set_cons_succ]
  refine wpAnyH_done (by kernel_rfl) ?_ _
  clear HX23
  replace xa := xa.on hbr23_2
  replace ca0 := keepC hbr23_2 ca0
  replace ca1 := keepC hbr23_2 ca1
  replace ca2 := keepC hbr23_2 ca2
  replace ca3 := keepC hbr23_2 ca3
  replace xb := xb.on hbr23_2
  replace cb0 := keepC hbr23_2 cb0
  replace cb1 := keepC hbr23_2 cb1
  replace cb2 := keepC hbr23_2 cb2
  replace cb3 := keepC hbr23_2 cb3
  replace xx := xx.on hbr23_2
  replace cx0 := keepC hbr23_2 cx0
  replace cx1 := keepC hbr23_2 cx1
  replace cx2 := keepC hbr23_2 cx2
  replace cx3 := keepC hbr23_2 cx3
  replace xy := xy.on hbr23_2
  replace cy0 := keepC hbr23_2 cy0
  replace cy1 := keepC hbr23_2 cy1
  replace cy2 := keepC hbr23_2 cy2
  replace cy3 := keepC hbr23_2 cy3
  replace ox := ox.on hbr23_2
  replace oy := oy.on hbr23_2
  have b24 := bel_trans b22 hbr23_2
  clear b22
  go_wp2
  go_ret
  exact ⟨rfl, b24⟩
end Go.Proofs.Ytpmeaikiaoojkaa
