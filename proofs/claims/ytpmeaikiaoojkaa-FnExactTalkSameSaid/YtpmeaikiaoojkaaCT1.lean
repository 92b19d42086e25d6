/- The law FnExactTalkSame, walked. -/
import Derived.Test.YtpmeaikiaoojkaaTK1
namespace Go.Proofs.Ytpmeaikiaoojkaa
open Go.RowKit

set_option maxHeartbeats 4000000 in
set_option maxRecDepth 100000 in
theorem lawFnExactTalkSame (on1 bad1 : Bool) (at1 : Int) (A1 : Option Addr) (n1 c1 : Nat) (l1 : List Write) (G1 : Option Addr) (k1 d1 : Nat) (g1 : List Named) (sk1 go1 : Bool) (in1 : ByteArray) (on2 bad2 : Bool) (at2 : Int) (A2 : Option Addr) (n2 c2 : Nat) (l2 : List Write) (G2 : Option Addr) (k2 d2 : Nat) (g2 : List Named) (sk2 go2 : Bool) (in2 : ByteArray) (w : World)
    (hr : Sl encWrite w w.heap.size A1 n1 l1) (hk : WriteSWf l1) (hn : n1 ≤ maxLen) (hg : Sl encNamed w w.heap.size G1 k1 g1) (hgw : NamedSWf g1) (hgk : k1 ≤ maxLen) (hi : in1.size ≤ maxLen)
    (hs : Sl encWrite w w.heap.size A2 n2 l2) (hk2 : WriteSWf l2) (hm : n2 ≤ maxLen) (hh : Sl encNamed w w.heap.size G2 k2 g2) (hhw : NamedSWf g2) (hhk : k2 ≤ maxLen) (hj : in2.size ≤ maxLen) :
    Calls Try.prog 10 #[.agg #[.bool on1, .bool bad1, .int .i64 at1, .slice A1 n1 c1, .slice G1 k1 d1, .bool sk1, .bool go1, .string in1], .agg #[.bool on2, .bool bad2, .int .i64 at2, .slice A2 n2 c2, .slice G2 k2 d2, .bool sk2, .bool go2, .string in2]] w fun e w' => e = .returned (.bool true) ∧ Below w.heap.size w w' := by
  have HN := Lib.hid hn
  have HM := Lib.hid hm
  have HG := Lib.hid hgk
  have HH := Lib.hid hhk
  have HI := Lib.hid hi
  have HJ := Lib.hid hj
  clear hn hm hgk hhk hi hj
  obtain ⟨r, hr0⟩ : ∃ r, TalkEq on1 bad1 at1 l1 g1 sk1 go1 in1 on2 bad2 at2 l2 g2 sk2 go2 in2 = r := ⟨_, rfl⟩
  have HR := Lib.hid hr0
  clear hr0
  have hrr : (r != r) = false := by simp
  have he1 := TalkEq_self on1 bad1 at1 l1 g1 sk1 go1 in1
  have he2 := TalkEq_self on2 bad2 at2 l2 g2 sk2 go2 in2
  have ha1 := bel_alloc (Below.refl _ w) (.cells #[.bool on1, .bool bad1, .int .i64 at1, .slice A1 n1 c1, .slice G1 k1 d1, .bool sk1, .bool go1, .string in1] 67)
  have xa := BoxC.new w 67 #[.bool on1, .bool bad1, .int .i64 at1, .slice A1 n1 c1, .slice G1 k1 d1, .bool sk1, .bool go1, .string in1]
  have b2 := bel_trans (Below.refl _ w) ha1
  clear ha1
  have ca0 := xa.c (k := 0) rfl
  have ca1 := xa.c (k := 1) rfl
  have ca2 := xa.c (k := 2) rfl
  have ca3 := xa.c (k := 3) rfl
  have ca4 := xa.c (k := 4) rfl
  have ca5 := xa.c (k := 5) rfl
  have ca6 := xa.c (k := 6) rfl
  have ca7 := xa.c (k := 7) rfl
  have ha3 := bel_alloc (Below.refl _ (w.alloc (.cells #[.bool on1, .bool bad1, .int .i64 at1, .slice A1 n1 c1, .slice G1 k1 d1, .bool sk1, .bool go1, .string in1] 67))) (.cells #[.bool on2, .bool bad2, .int .i64 at2, .slice A2 n2 c2, .slice G2 k2 d2, .bool sk2, .bool go2, .string in2] 67)
  have xb := BoxC.new (w.alloc (.cells #[.bool on1, .bool bad1, .int .i64 at1, .slice A1 n1 c1, .slice G1 k1 d1, .bool sk1, .bool go1, .string in1] 67)) 67 #[.bool on2, .bool bad2, .int .i64 at2, .slice A2 n2 c2, .slice G2 k2 d2, .bool sk2, .bool go2, .string in2]
  simp only [World.size_alloc] at xb
  replace xa := xa.on ha3
  replace ca0 := keepC ha3 ca0
  replace ca1 := keepC ha3 ca1
  replace ca2 := keepC ha3 ca2
  replace ca3 := keepC ha3 ca3
  replace ca4 := keepC ha3 ca4
  replace ca5 := keepC ha3 ca5
  replace ca6 := keepC ha3 ca6
  replace ca7 := keepC ha3 ca7
  have b4 := bel_trans b2 ha3
  clear b2
  clear ha3
  have cb0 := xb.c (k := 0) rfl
  have cb1 := xb.c (k := 1) rfl
  have cb2 := xb.c (k := 2) rfl
  have cb3 := xb.c (k := 3) rfl
  have cb4 := xb.c (k := 4) rfl
  have cb5 := xb.c (k := 5) rfl
  have cb6 := xb.c (k := 6) rfl
  have cb7 := xb.c (k := 7) rfl
  go_enter Try.func10, Try.ntmps10
  go_wp2_with fail
  refine (szTalk on1 bad1 at1 A1 n1 c1 l1 G1 k1 d1 g1 sk1 go1 in1 _ _ (hr.on b4) hk HN.out (hg.on b4) hgw HG.out HI.out (by omega) (by omega)).mono ?_
  rintro e w5 ⟨v, rfl, hv0, hv1, hv2, hb5⟩
  replace xa := xa.on hb5
  replace ca0 := keepC hb5 ca0
  replace ca1 := keepC hb5 ca1
  replace ca2 := keepC hb5 ca2
  replace ca3 := keepC hb5 ca3
  replace ca4 := keepC hb5 ca4
  replace ca5 := keepC hb5 ca5
  replace ca6 := keepC hb5 ca6
  replace ca7 := keepC hb5 ca7
  replace xb := xb.on hb5
  replace cb0 := keepC hb5 cb0
  replace cb1 := keepC hb5 cb1
  replace cb2 := keepC hb5 cb2
  replace cb3 := keepC hb5 cb3
  replace cb4 := keepC hb5 cb4
  replace cb5 := keepC hb5 cb5
  replace cb6 := keepC hb5 cb6
  replace cb7 := keepC hb5 cb7
  have b6 := bel_trans b4 hb5
  clear b4
  clear hb5
  go_wp2_with fail
  · go_ret
    exact ⟨rfl, b6⟩
  have HN2 := Lib.hid (show n1 ≤ 1048576 ∧ k1 ≤ 1048576 by have h3 := hv2 (by omega); omega)
  clear hv2
  refine (szTalk on2 bad2 at2 A2 n2 c2 l2 G2 k2 d2 g2 sk2 go2 in2 _ _ (hs.on b6) hk2 HM.out (hh.on b6) hhw HH.out HJ.out (by omega) (by omega)).mono ?_
  rintro e w7 ⟨v2, rfl, hv3, hv4, hv5, hb7⟩
  replace xa := xa.on hb7
  replace ca0 := keepC hb7 ca0
  replace ca1 := keepC hb7 ca1
  replace ca2 := keepC hb7 ca2
  replace ca3 := keepC hb7 ca3
  replace ca4 := keepC hb7 ca4
  replace ca5 := keepC hb7 ca5
  replace ca6 := keepC hb7 ca6
  replace ca7 := keepC hb7 ca7
  replace xb := xb.on hb7
  replace cb0 := keepC hb7 cb0
  replace cb1 := keepC hb7 cb1
  replace cb2 := keepC hb7 cb2
  replace cb3 := keepC hb7 cb3
  replace cb4 := keepC hb7 cb4
  replace cb5 := keepC hb7 cb5
  replace cb6 := keepC hb7 cb6
  replace cb7 := keepC hb7 cb7
  have b8 := bel_trans b6 hb7
  clear b6
  clear hb7
  go_wp2_with fail
  · go_ret
    exact ⟨rfl, b8⟩
  have HM2 := Lib.hid (show n2 ≤ 1048576 ∧ k2 ≤ 1048576 by have h3 := hv5 (by omega); omega)
  clear hv5
  have CA := Lib.hid (fun W (hW : Below w.heap.size w W) => toTalk on1 bad1 at1 A1 n1 c1 l1 G1 k1 d1 g1 sk1 go1 in1 W (hr.on hW) HN2.out.1 (hg.on hW) HN2.out.2)
  have CB := Lib.hid (fun W (hW : Below w.heap.size w W) => toTalk on2 bad2 at2 A2 n2 c2 l2 G2 k2 d2 g2 sk2 go2 in2 W (hs.on hW) HM2.out.1 (hh.on hW) HM2.out.2)
  clear hr hs hg hh
  have HX9 := Lib.hid (show ∀ W' : World, Below w7.heap.size w7 W' → (W'.cell? ⟨w.heap.size, 0, none⟩ = some (.bool on1) ∧ W'.cell? ⟨w.heap.size, 1, none⟩ = some (.bool bad1) ∧ W'.cell? ⟨w.heap.size, 2, none⟩ = some (.int .i64 at1) ∧ W'.cell? ⟨w.heap.size, 3, none⟩ = some (.slice A1 n1 c1) ∧ W'.cell? ⟨w.heap.size, 4, none⟩ = some (.slice G1 k1 d1) ∧ W'.cell? ⟨w.heap.size, 5, none⟩ = some (.bool sk1) ∧ W'.cell? ⟨w.heap.size, 6, none⟩ = some (.bool go1) ∧ W'.cell? ⟨w.heap.size, 7, none⟩ = some (.string in1) ∧ W'.cell? ⟨w.heap.size + 1, 0, none⟩ = some (.bool on2) ∧ W'.cell? ⟨w.heap.size + 1, 1, none⟩ = some (.bool bad2) ∧ W'.cell? ⟨w.heap.size + 1, 2, none⟩ = some (.int .i64 at2) ∧ W'.cell? ⟨w.heap.size + 1, 3, none⟩ = some (.slice A2 n2 c2) ∧ W'.cell? ⟨w.heap.size + 1, 4, none⟩ = some (.slice G2 k2 d2) ∧ W'.cell? ⟨w.heap.size + 1, 5, none⟩ = some (.bool sk2) ∧ W'.cell? ⟨w.heap.size + 1, 6, none⟩ = some (.bool go2) ∧ W'.cell? ⟨w.heap.size + 1, 7, none⟩ = some (.string in2)) from fun W' hW' => ⟨keepC hW' ca0, keepC hW' ca1, keepC hW' ca2, keepC hW' ca3, keepC hW' ca4, keepC hW' ca5, keepC hW' ca6, keepC hW' ca7, keepC hW' cb0, keepC hW' cb1, keepC hW' cb2, keepC hW' cb3, keepC hW' cb4, keepC hW' cb5, keepC hW' cb6, keepC hW' cb7⟩)
  refine wp_region_held_drew (S := (fun W' => (W'.cell? ⟨w.heap.size, 0, none⟩ = some (.bool on1) ∧ W'.cell? ⟨w.heap.size, 1, none⟩ = some (.bool bad1) ∧ W'.cell? ⟨w.heap.size, 2, none⟩ = some (.int .i64 at1) ∧ W'.cell? ⟨w.heap.size, 3, none⟩ = some (.slice A1 n1 c1) ∧ W'.cell? ⟨w.heap.size, 4, none⟩ = some (.slice G1 k1 d1) ∧ W'.cell? ⟨w.heap.size, 5, none⟩ = some (.bool sk1) ∧ W'.cell? ⟨w.heap.size, 6, none⟩ = some (.bool go1) ∧ W'.cell? ⟨w.heap.size, 7, none⟩ = some (.string in1) ∧ W'.cell? ⟨w.heap.size + 1, 0, none⟩ = some (.bool on2) ∧ W'.cell? ⟨w.heap.size + 1, 1, none⟩ = some (.bool bad2) ∧ W'.cell? ⟨w.heap.size + 1, 2, none⟩ = some (.int .i64 at2) ∧ W'.cell? ⟨w.heap.size + 1, 3, none⟩ = some (.slice A2 n2 c2) ∧ W'.cell? ⟨w.heap.size + 1, 4, none⟩ = some (.slice G2 k2 d2) ∧ W'.cell? ⟨w.heap.size + 1, 5, none⟩ = some (.bool sk2) ∧ W'.cell? ⟨w.heap.size + 1, 6, none⟩ = some (.bool go2) ∧ W'.cell? ⟨w.heap.size + 1, 7, none⟩ = some (.string in2)) ∧ Below w7.heap.size w7 W')) (by kernel_rfl) ⟨HX9.out _ (Below.refl _ _).drew, (Below.refl _ _).drew⟩ (fun hHeld => ?_)
  refine wpAnyH_take (i := 0) (oi := { dst := some 20, op := Go.Op.load 67 (Go.Operand.tmp 2), type := 67, pos := "exact.go:2557", after := #[], guard := none }) (v := ?_) rfl (by kernel_rfl) (by kernel_rfl) (by kernel_rfl) (fun _ _ _ h => h) (Or.inl ⟨by rfl, ?hy0⟩) (by assumption) ?_
  case hy0 => ((intro w hSw; (try dsimp only at hSw); go_simp); try with_reducible rfl)
  try simp only [Act.put, List.setIfInBounds_toArray, List.set_cons_zero, List.set_cons_succ]
  refine wpAnyH_take (i := 2) (oi := { dst := some 22, op := Go.Op.load 67 (Go.Operand.tmp 3), type := 67, pos := "exact.go:2557", after := #[], guard := none }) (v := ?_) rfl (by kernel_rfl) (by kernel_rfl) (by kernel_rfl) (fun _ _ _ h => h) (Or.inl ⟨by rfl, ?hy2⟩) (by assumption) ?_
  case hy2 => ((intro w hSw; (try dsimp only at hSw); go_simp); try with_reducible rfl)
  try simp only [Act.put, List.setIfInBounds_toArray, List.set_cons_zero, List.set_cons_succ]
  refine wpAnyH_ready (rs := [1]) (by kernel_rfl) (by simp) ?_
  refine AllReadyH.cons (o := { dst := some 21, op := Go.Op.call { callee := Go.Callee.value (Go.Operand.func 32), args := #[Go.Operand.tmp 20], argTypes := #[67] }, type := 57, pos := "exact.go:2557", after := #[{ on := 0, ground := Go.Ground.data }], guard := none }) rfl (fun K hK => ?_) AllReadyH.nil
  go_simp
  refine (CA.out _ (bel_trans b8 ((Below.refl w7.heap.size w7).drew))).mono ?_
  rintro e wr9_1 ⟨ga, ha, rfl, oa, ua, hbr9_1'⟩
  have hbr9_1 := bel_trans ((Below.refl w7.heap.size w7).drew) hbr9_1'
  go_wp2_with fail
  refine hK.out _ _ ⟨HX9.out _ hbr9_1, hbr9_1⟩ (fun hHeld => ?_)
  clear hK K
  try simp only [Act.put, List.setIfInBounds_toArray, List.set_cons_zero, List.set_cons_succ]
  refine wpAnyH_ready (rs := [3]) (by kernel_rfl) (by simp) ?_
  refine AllReadyH.cons (o := { dst := some 23, op := Go.Op.call { callee := Go.Callee.value (Go.Operand.func 32), args := #[Go.Operand.tmp 22], argTypes := #[67] }, type := 57, pos := "exact.go:2557", after := #[{ on := 2, ground := Go.Ground.data }, { on := 1, ground := Go.Ground.chain }], guard := none }) rfl (fun K hK => ?_) AllReadyH.nil
  go_simp
  refine (CB.out _ (bel_trans b8 (hbr9_1))).mono ?_
  rintro e wr9_2 ⟨gb, hb, rfl, ob, ub, hbr9_2'⟩
  have hbr9_2 := bel_trans (hbr9_1) hbr9_2'
  replace oa := oa.on hbr9_2'
  replace ua := ua.on hbr9_2'
  go_wp2_with fail
  refine hK.out _ _ ⟨HX9.out _ hbr9_2, hbr9_2⟩ (fun hHeld => ?_)
  clear hK K
  try simp only [Act.put, List.setIfInBounds_toArray, List.set_cons_zero, List.set_cons_succ]
  refine wpAnyH_ready (rs := [4]) (by kernel_rfl) (by simp) ?_
  refine AllReadyH.cons (o := { dst := some 24, op := Go.Op.call { callee := Go.Callee.value (Go.Operand.func 30), args := #[Go.Operand.tmp 21, Go.Operand.tmp 23], argTypes := #[57, 57] }, type := 4, pos := "exact.go:2557", after := #[{ on := 1, ground := Go.Ground.data }, { on := 3, ground := Go.Ground.data }, { on := 3, ground := Go.Ground.chain }], guard := none }) rfl (fun K hK => ?_) AllReadyH.nil
  go_simp
  refine (specTalkSame on1 bad1 at1 _ n1 n1 l1 _ k1 k1 g1 sk1 go1 in1 on2 bad2 at2 _ n2 n2 l2 _ k2 k2 g2 sk2 go2 in2 _ oa.sl ob.sl HN2.out.1 ua.sl ub.sl HN2.out.2).mono ?_
  rintro e wr9_3 ⟨rfl, hbr9_3'⟩
  have hbr9_3 := bel_trans (hbr9_2) hbr9_3'
  rw [HR.out]
  clear oa ob ua ub
  go_wp2_with fail
  refine hK.out _ _ ⟨HX9.out _ hbr9_3, hbr9_3⟩ (fun hHeld => ?_)
  clear hK K
  try simp only [Act.put, List.setIfInBounds_toArray, List.set_cons_zero, List.set_cons_succ]
  refine wpAnyH_take (i := 5) (oi := { dst := some 6, op := Go.Op.assign (Go.Operand.tmp 24), type := 4, pos := "exact.go:2557", after := #[{ on := 4, ground := Go.Ground.data }, { on := 4, ground := Go.Ground.chain }, { on := 0, ground := Go.Ground.phase }, { on := 1, ground := Go.Ground.phase }, { on := 2, ground := Go.Ground.phase }, { on := 3, ground := Go.Ground.phase }, { on := 4, ground := Go.Ground.phase }], guard := none }) (v := ?_) rfl (by kernel_rfl) (by kernel_rfl) (by kernel_rfl) (fun _ _ _ h => h) (Or.inl ⟨by rfl, ?hy5⟩) (by assumption) ?_
  case hy5 => ((intro w hSw; (try dsimp only at hSw); go_simp); try with_reducible rfl)
  try simp only [Act.put, List.setIfInBounds_toArray, List.set_cons_zero, List.set_cons_succ]
  refine wpAnyH_done (by kernel_rfl) ?_ _
  clear HX9
  replace xa := xa.on hbr9_3
  replace ca0 := keepC hbr9_3 ca0
  replace ca1 := keepC hbr9_3 ca1
  replace ca2 := keepC hbr9_3 ca2
  replace ca3 := keepC hbr9_3 ca3
  replace ca4 := keepC hbr9_3 ca4
  replace ca5 := keepC hbr9_3 ca5
  replace ca6 := keepC hbr9_3 ca6
  replace ca7 := keepC hbr9_3 ca7
  replace xb := xb.on hbr9_3
  replace cb0 := keepC hbr9_3 cb0
  replace cb1 := keepC hbr9_3 cb1
  replace cb2 := keepC hbr9_3 cb2
  replace cb3 := keepC hbr9_3 cb3
  replace cb4 := keepC hbr9_3 cb4
  replace cb5 := keepC hbr9_3 cb5
  replace cb6 := keepC hbr9_3 cb6
  replace cb7 := keepC hbr9_3 cb7
  have b10 := bel_trans b8 hbr9_3
  clear b8
  go_wp2_with fail
  refine (CA.out _ b10).mono ?_
  rintro e w11 ⟨gx, hx, rfl, ox, ux, hb11⟩
  replace xa := xa.on hb11
  replace ca0 := keepC hb11 ca0
  replace ca1 := keepC hb11 ca1
  replace ca2 := keepC hb11 ca2
  replace ca3 := keepC hb11 ca3
  replace ca4 := keepC hb11 ca4
  replace ca5 := keepC hb11 ca5
  replace ca6 := keepC hb11 ca6
  replace ca7 := keepC hb11 ca7
  replace xb := xb.on hb11
  replace cb0 := keepC hb11 cb0
  replace cb1 := keepC hb11 cb1
  replace cb2 := keepC hb11 cb2
  replace cb3 := keepC hb11 cb3
  replace cb4 := keepC hb11 cb4
  replace cb5 := keepC hb11 cb5
  replace cb6 := keepC hb11 cb6
  replace cb7 := keepC hb11 cb7
  have b12 := bel_trans b10 hb11
  clear b10
  clear hb11
  have ha13 := bel_alloc (Below.refl _ w11) (.cells #[.bool on1, .bool bad1, .int .i64 at1, .slice (some ⟨gx, 0, none⟩) n1 n1, .slice (some ⟨hx, 0, none⟩) k1 k1, .bool sk1, .bool go1, .string in1] 57)
  have xx := BoxC.new w11 57 #[.bool on1, .bool bad1, .int .i64 at1, .slice (some ⟨gx, 0, none⟩) n1 n1, .slice (some ⟨hx, 0, none⟩) k1 k1, .bool sk1, .bool go1, .string in1]
  replace xa := xa.on ha13
  replace ca0 := keepC ha13 ca0
  replace ca1 := keepC ha13 ca1
  replace ca2 := keepC ha13 ca2
  replace ca3 := keepC ha13 ca3
  replace ca4 := keepC ha13 ca4
  replace ca5 := keepC ha13 ca5
  replace ca6 := keepC ha13 ca6
  replace ca7 := keepC ha13 ca7
  replace xb := xb.on ha13
  replace cb0 := keepC ha13 cb0
  replace cb1 := keepC ha13 cb1
  replace cb2 := keepC ha13 cb2
  replace cb3 := keepC ha13 cb3
  replace cb4 := keepC ha13 cb4
  replace cb5 := keepC ha13 cb5
  replace cb6 := keepC ha13 cb6
  replace cb7 := keepC ha13 cb7
  replace ox := ox.on ha13
  replace ux := ux.on ha13
  have b14 := bel_trans b12 ha13
  clear b12
  clear ha13
  have cx0 := xx.c (k := 0) rfl
  have cx1 := xx.c (k := 1) rfl
  have cx2 := xx.c (k := 2) rfl
  have cx3 := xx.c (k := 3) rfl
  have cx4 := xx.c (k := 4) rfl
  have cx5 := xx.c (k := 5) rfl
  have cx6 := xx.c (k := 6) rfl
  have cx7 := xx.c (k := 7) rfl
  go_wp2_with fail
  refine (CB.out _ b14).mono ?_
  rintro e w15 ⟨gy, hy, rfl, oy, uy, hb15⟩
  replace xa := xa.on hb15
  replace ca0 := keepC hb15 ca0
  replace ca1 := keepC hb15 ca1
  replace ca2 := keepC hb15 ca2
  replace ca3 := keepC hb15 ca3
  replace ca4 := keepC hb15 ca4
  replace ca5 := keepC hb15 ca5
  replace ca6 := keepC hb15 ca6
  replace ca7 := keepC hb15 ca7
  replace xb := xb.on hb15
  replace cb0 := keepC hb15 cb0
  replace cb1 := keepC hb15 cb1
  replace cb2 := keepC hb15 cb2
  replace cb3 := keepC hb15 cb3
  replace cb4 := keepC hb15 cb4
  replace cb5 := keepC hb15 cb5
  replace cb6 := keepC hb15 cb6
  replace cb7 := keepC hb15 cb7
  replace xx := xx.on hb15
  replace cx0 := keepC hb15 cx0
  replace cx1 := keepC hb15 cx1
  replace cx2 := keepC hb15 cx2
  replace cx3 := keepC hb15 cx3
  replace cx4 := keepC hb15 cx4
  replace cx5 := keepC hb15 cx5
  replace cx6 := keepC hb15 cx6
  replace cx7 := keepC hb15 cx7
  replace ox := ox.on hb15
  replace ux := ux.on hb15
  have b16 := bel_trans b14 hb15
  clear b14
  clear hb15
  obtain ⟨Bx, hBx⟩ : ∃ Bx, w11.heap.size = Bx := ⟨_, rfl⟩
  rw [hBx] at xx cx0 cx1 cx2 cx3 cx4 cx5 cx6 cx7 ⊢
  clear hBx
  have ha17 := bel_alloc (Below.refl _ w15) (.cells #[.bool on2, .bool bad2, .int .i64 at2, .slice (some ⟨gy, 0, none⟩) n2 n2, .slice (some ⟨hy, 0, none⟩) k2 k2, .bool sk2, .bool go2, .string in2] 57)
  have xy := BoxC.new w15 57 #[.bool on2, .bool bad2, .int .i64 at2, .slice (some ⟨gy, 0, none⟩) n2 n2, .slice (some ⟨hy, 0, none⟩) k2 k2, .bool sk2, .bool go2, .string in2]
  replace xa := xa.on ha17
  replace ca0 := keepC ha17 ca0
  replace ca1 := keepC ha17 ca1
  replace ca2 := keepC ha17 ca2
  replace ca3 := keepC ha17 ca3
  replace ca4 := keepC ha17 ca4
  replace ca5 := keepC ha17 ca5
  replace ca6 := keepC ha17 ca6
  replace ca7 := keepC ha17 ca7
  replace xb := xb.on ha17
  replace cb0 := keepC ha17 cb0
  replace cb1 := keepC ha17 cb1
  replace cb2 := keepC ha17 cb2
  replace cb3 := keepC ha17 cb3
  replace cb4 := keepC ha17 cb4
  replace cb5 := keepC ha17 cb5
  replace cb6 := keepC ha17 cb6
  replace cb7 := keepC ha17 cb7
  replace xx := xx.on ha17
  replace cx0 := keepC ha17 cx0
  replace cx1 := keepC ha17 cx1
  replace cx2 := keepC ha17 cx2
  replace cx3 := keepC ha17 cx3
  replace cx4 := keepC ha17 cx4
  replace cx5 := keepC ha17 cx5
  replace cx6 := keepC ha17 cx6
  replace cx7 := keepC ha17 cx7
  replace ox := ox.on ha17
  replace ux := ux.on ha17
  replace oy := oy.on ha17
  replace uy := uy.on ha17
  have b18 := bel_trans b16 ha17
  clear b16
  clear ha17
  have cy0 := xy.c (k := 0) rfl
  have cy1 := xy.c (k := 1) rfl
  have cy2 := xy.c (k := 2) rfl
  have cy3 := xy.c (k := 3) rfl
  have cy4 := xy.c (k := 4) rfl
  have cy5 := xy.c (k := 5) rfl
  have cy6 := xy.c (k := 6) rfl
  have cy7 := xy.c (k := 7) rfl
  go_wp2_with fail
  refine (implTalkSame on1 bad1 at1 _ n1 n1 l1 _ k1 k1 g1 sk1 go1 in1 on2 bad2 at2 _ n2 n2 l2 _ k2 k2 g2 sk2 go2 in2 _ ox.sl oy.sl HN2.out.1 ux.sl uy.sl HN2.out.2).mono ?_
  rintro e w19 ⟨rfl, hb19⟩
  replace xa := xa.on hb19
  replace ca0 := keepC hb19 ca0
  replace ca1 := keepC hb19 ca1
  replace ca2 := keepC hb19 ca2
  replace ca3 := keepC hb19 ca3
  replace ca4 := keepC hb19 ca4
  replace ca5 := keepC hb19 ca5
  replace ca6 := keepC hb19 ca6
  replace ca7 := keepC hb19 ca7
  replace xb := xb.on hb19
  replace cb0 := keepC hb19 cb0
  replace cb1 := keepC hb19 cb1
  replace cb2 := keepC hb19 cb2
  replace cb3 := keepC hb19 cb3
  replace cb4 := keepC hb19 cb4
  replace cb5 := keepC hb19 cb5
  replace cb6 := keepC hb19 cb6
  replace cb7 := keepC hb19 cb7
  replace xx := xx.on hb19
  replace cx0 := keepC hb19 cx0
  replace cx1 := keepC hb19 cx1
  replace cx2 := keepC hb19 cx2
  replace cx3 := keepC hb19 cx3
  replace cx4 := keepC hb19 cx4
  replace cx5 := keepC hb19 cx5
  replace cx6 := keepC hb19 cx6
  replace cx7 := keepC hb19 cx7
  replace xy := xy.on hb19
  replace cy0 := keepC hb19 cy0
  replace cy1 := keepC hb19 cy1
  replace cy2 := keepC hb19 cy2
  replace cy3 := keepC hb19 cy3
  replace cy4 := keepC hb19 cy4
  replace cy5 := keepC hb19 cy5
  replace cy6 := keepC hb19 cy6
  replace cy7 := keepC hb19 cy7
  replace ox := ox.on hb19
  replace ux := ux.on hb19
  replace oy := oy.on hb19
  replace uy := uy.on hb19
  have b20 := bel_trans b18 hb19
  clear b18
  clear hb19
  obtain ⟨By, hBy⟩ : ∃ By, w15.heap.size = By := ⟨_, rfl⟩
  rw [hBy] at xy cy0 cy1 cy2 cy3 cy4 cy5 cy6 cy7 ⊢
  clear hBy
  rw [HR.out]
  go_wp2_with fail
  have HX21 := Lib.hid (show ∀ W' : World, Below w19.heap.size w19 W' → (W'.cell? ⟨Bx, 0, none⟩ = some (.bool on1) ∧ W'.cell? ⟨Bx, 1, none⟩ = some (.bool bad1) ∧ W'.cell? ⟨Bx, 2, none⟩ = some (.int .i64 at1) ∧ W'.cell? ⟨Bx, 3, none⟩ = some (.slice (some ⟨gx, 0, none⟩) n1 n1) ∧ W'.cell? ⟨Bx, 4, none⟩ = some (.slice (some ⟨hx, 0, none⟩) k1 k1) ∧ W'.cell? ⟨Bx, 5, none⟩ = some (.bool sk1) ∧ W'.cell? ⟨Bx, 6, none⟩ = some (.bool go1) ∧ W'.cell? ⟨Bx, 7, none⟩ = some (.string in1) ∧ W'.cell? ⟨w.heap.size, 0, none⟩ = some (.bool on1) ∧ W'.cell? ⟨w.heap.size, 1, none⟩ = some (.bool bad1) ∧ W'.cell? ⟨w.heap.size, 2, none⟩ = some (.int .i64 at1) ∧ W'.cell? ⟨w.heap.size, 3, none⟩ = some (.slice A1 n1 c1) ∧ W'.cell? ⟨w.heap.size, 4, none⟩ = some (.slice G1 k1 d1) ∧ W'.cell? ⟨w.heap.size, 5, none⟩ = some (.bool sk1) ∧ W'.cell? ⟨w.heap.size, 6, none⟩ = some (.bool go1) ∧ W'.cell? ⟨w.heap.size, 7, none⟩ = some (.string in1)) from fun W' hW' => ⟨keepC hW' cx0, keepC hW' cx1, keepC hW' cx2, keepC hW' cx3, keepC hW' cx4, keepC hW' cx5, keepC hW' cx6, keepC hW' cx7, keepC hW' ca0, keepC hW' ca1, keepC hW' ca2, keepC hW' ca3, keepC hW' ca4, keepC hW' ca5, keepC hW' ca6, keepC hW' ca7⟩)
  refine wp_region_held_drew (S := (fun W' => (W'.cell? ⟨Bx, 0, none⟩ = some (.bool on1) ∧ W'.cell? ⟨Bx, 1, none⟩ = some (.bool bad1) ∧ W'.cell? ⟨Bx, 2, none⟩ = some (.int .i64 at1) ∧ W'.cell? ⟨Bx, 3, none⟩ = some (.slice (some ⟨gx, 0, none⟩) n1 n1) ∧ W'.cell? ⟨Bx, 4, none⟩ = some (.slice (some ⟨hx, 0, none⟩) k1 k1) ∧ W'.cell? ⟨Bx, 5, none⟩ = some (.bool sk1) ∧ W'.cell? ⟨Bx, 6, none⟩ = some (.bool go1) ∧ W'.cell? ⟨Bx, 7, none⟩ = some (.string in1) ∧ W'.cell? ⟨w.heap.size, 0, none⟩ = some (.bool on1) ∧ W'.cell? ⟨w.heap.size, 1, none⟩ = some (.bool bad1) ∧ W'.cell? ⟨w.heap.size, 2, none⟩ = some (.int .i64 at1) ∧ W'.cell? ⟨w.heap.size, 3, none⟩ = some (.slice A1 n1 c1) ∧ W'.cell? ⟨w.heap.size, 4, none⟩ = some (.slice G1 k1 d1) ∧ W'.cell? ⟨w.heap.size, 5, none⟩ = some (.bool sk1) ∧ W'.cell? ⟨w.heap.size, 6, none⟩ = some (.bool go1) ∧ W'.cell? ⟨w.heap.size, 7, none⟩ = some (.string in1)) ∧ Below w19.heap.size w19 W')) (by kernel_rfl) ⟨HX21.out _ (Below.refl _ _).drew, (Below.refl _ _).drew⟩ (fun hHeld => ?_)
  refine wpAnyH_take (i := 0) (oi := { dst := some 35, op := Go.Op.load 57 (Go.Operand.tmp 7), type := 57, pos := "exact.go:2564", after := #[], guard := none }) (v := ?_) rfl (by kernel_rfl) (by kernel_rfl) (by kernel_rfl) (fun _ _ _ h => h) (Or.inl ⟨by rfl, ?hy0⟩) (by assumption) ?_
  case hy0 => ((intro w hSw; (try dsimp only at hSw); go_simp); try with_reducible rfl)
  try simp only [Act.put, List.setIfInBounds_toArray, List.set_cons_zero, List.set_cons_succ]
  refine wpAnyH_take (i := 1) (oi := { dst := some 36, op := Go.Op.load 67 (Go.Operand.tmp 2), type := 67, pos := "exact.go:2564", after := #[], guard := none }) (v := ?_) rfl (by kernel_rfl) (by kernel_rfl) (by kernel_rfl) (fun _ _ _ h => h) (Or.inl ⟨by rfl, ?hy1⟩) (by assumption) ?_
  case hy1 => ((intro w hSw; (try dsimp only at hSw); go_simp); try with_reducible rfl)
  try simp only [Act.put, List.setIfInBounds_toArray, List.set_cons_zero, List.set_cons_succ]
  refine wpAnyH_ready (rs := [2]) (by kernel_rfl) (by simp) ?_
  refine AllReadyH.cons (o := { dst := some 37, op := Go.Op.call { callee := Go.Callee.value (Go.Operand.func 32), args := #[Go.Operand.tmp 36], argTypes := #[67] }, type := 57, pos := "exact.go:2564", after := #[{ on := 1, ground := Go.Ground.data }], guard := none }) rfl (fun K hK => ?_) AllReadyH.nil
  go_simp
  refine (CA.out _ (bel_trans b20 ((Below.refl w19.heap.size w19).drew))).mono ?_
  rintro e wr21_1 ⟨ga, ha, rfl, oa, ua, hbr21_1'⟩
  have hbr21_1 := bel_trans ((Below.refl w19.heap.size w19).drew) hbr21_1'
  go_wp2_with fail
  refine hK.out _ _ ⟨HX21.out _ hbr21_1, hbr21_1⟩ (fun hHeld => ?_)
  clear hK K
  try simp only [Act.put, List.setIfInBounds_toArray, List.set_cons_zero, List.set_cons_succ]
  refine wpAnyH_ready (rs := [3]) (by kernel_rfl) (by simp) ?_
  refine AllReadyH.cons (o := { dst := some 38, op := Go.Op.call { callee := Go.Callee.value (Go.Operand.func 33), args := #[Go.Operand.tmp 35, Go.Operand.tmp 37], argTypes := #[57, 57] }, type := 4, pos := "exact.go:2564", after := #[{ on := 0, ground := Go.Ground.data }, { on := 2, ground := Go.Ground.data }, { on := 2, ground := Go.Ground.chain }], guard := none }) rfl (fun K hK => ?_) AllReadyH.nil
  go_simp
  refine (eqTalk on1 bad1 at1 _ n1 n1 l1 _ k1 k1 g1 sk1 go1 in1 on1 bad1 at1 _ n1 n1 l1 _ k1 k1 g1 sk1 go1 in1 _ (ox.on (hbr21_1)).sl oa.sl HN2.out.1 (ux.on (hbr21_1)).sl ua.sl HN2.out.2).mono ?_
  rintro e wr21_2 ⟨rfl, hbr21_2'⟩
  have hbr21_2 := bel_trans (hbr21_1) hbr21_2'
  rw [he1]
  clear oa ua
  go_wp2_with fail
  refine hK.out _ _ ⟨HX21.out _ hbr21_2, hbr21_2⟩ (fun hHeld => ?_)
  clear hK K
  try simp only [Act.put, List.setIfInBounds_toArray, List.set_cons_zero, List.set_cons_succ]
  refine wpAnyH_take (i := 4) (oi := { dst := some 39, op := Go.Op.unOp Go.UnOp.not 4 (Go.Operand.tmp 38), type := 4, pos := "exact.go:2564", after := #[{ on := 3, ground := Go.Ground.data }], guard := none }) (v := ?_) rfl (by kernel_rfl) (by kernel_rfl) (by kernel_rfl) (fun _ _ _ h => h) (Or.inl ⟨by rfl, ?hy4⟩) (by assumption) ?_
  case hy4 => ((intro w hSw; (try dsimp only at hSw); go_simp); try with_reducible rfl)
  try simp only [Act.put, List.setIfInBounds_toArray, List.set_cons_zero, List.set_cons_succ]
  refine wpAnyH_done (by kernel_rfl) ?_ _
  clear HX21
  replace xa := xa.on hbr21_2
  replace ca0 := keepC hbr21_2 ca0
  replace ca1 := keepC hbr21_2 ca1
  replace ca2 := keepC hbr21_2 ca2
  replace ca3 := keepC hbr21_2 ca3
  replace ca4 := keepC hbr21_2 ca4
  replace ca5 := keepC hbr21_2 ca5
  replace ca6 := keepC hbr21_2 ca6
  replace ca7 := keepC hbr21_2 ca7
  replace xb := xb.on hbr21_2
  replace cb0 := keepC hbr21_2 cb0
  replace cb1 := keepC hbr21_2 cb1
  replace cb2 := keepC hbr21_2 cb2
  replace cb3 := keepC hbr21_2 cb3
  replace cb4 := keepC hbr21_2 cb4
  replace cb5 := keepC hbr21_2 cb5
  replace cb6 := keepC hbr21_2 cb6
  replace cb7 := keepC hbr21_2 cb7
  replace xx := xx.on hbr21_2
  replace cx0 := keepC hbr21_2 cx0
  replace cx1 := keepC hbr21_2 cx1
  replace cx2 := keepC hbr21_2 cx2
  replace cx3 := keepC hbr21_2 cx3
  replace cx4 := keepC hbr21_2 cx4
  replace cx5 := keepC hbr21_2 cx5
  replace cx6 := keepC hbr21_2 cx6
  replace cx7 := keepC hbr21_2 cx7
  replace xy := xy.on hbr21_2
  replace cy0 := keepC hbr21_2 cy0
  replace cy1 := keepC hbr21_2 cy1
  replace cy2 := keepC hbr21_2 cy2
  replace cy3 := keepC hbr21_2 cy3
  replace cy4 := keepC hbr21_2 cy4
  replace cy5 := keepC hbr21_2 cy5
  replace cy6 := keepC hbr21_2 cy6
  replace cy7 := keepC hbr21_2 cy7
  replace ox := ox.on hbr21_2
  replace ux := ux.on hbr21_2
  replace oy := oy.on hbr21_2
  replace uy := uy.on hbr21_2
  have b22 := bel_trans b20 hbr21_2
  clear b20
  go_wp2_with fail
  have HX23 := Lib.hid (show ∀ W' : World, Below wr21_2.heap.size wr21_2 W' → (W'.cell? ⟨By, 0, none⟩ = some (.bool on2) ∧ W'.cell? ⟨By, 1, none⟩ = some (.bool bad2) ∧ W'.cell? ⟨By, 2, none⟩ = some (.int .i64 at2) ∧ W'.cell? ⟨By, 3, none⟩ = some (.slice (some ⟨gy, 0, none⟩) n2 n2) ∧ W'.cell? ⟨By, 4, none⟩ = some (.slice (some ⟨hy, 0, none⟩) k2 k2) ∧ W'.cell? ⟨By, 5, none⟩ = some (.bool sk2) ∧ W'.cell? ⟨By, 6, none⟩ = some (.bool go2) ∧ W'.cell? ⟨By, 7, none⟩ = some (.string in2) ∧ W'.cell? ⟨w.heap.size + 1, 0, none⟩ = some (.bool on2) ∧ W'.cell? ⟨w.heap.size + 1, 1, none⟩ = some (.bool bad2) ∧ W'.cell? ⟨w.heap.size + 1, 2, none⟩ = some (.int .i64 at2) ∧ W'.cell? ⟨w.heap.size + 1, 3, none⟩ = some (.slice A2 n2 c2) ∧ W'.cell? ⟨w.heap.size + 1, 4, none⟩ = some (.slice G2 k2 d2) ∧ W'.cell? ⟨w.heap.size + 1, 5, none⟩ = some (.bool sk2) ∧ W'.cell? ⟨w.heap.size + 1, 6, none⟩ = some (.bool go2) ∧ W'.cell? ⟨w.heap.size + 1, 7, none⟩ = some (.string in2)) from fun W' hW' => ⟨keepC hW' cy0, keepC hW' cy1, keepC hW' cy2, keepC hW' cy3, keepC hW' cy4, keepC hW' cy5, keepC hW' cy6, keepC hW' cy7, keepC hW' cb0, keepC hW' cb1, keepC hW' cb2, keepC hW' cb3, keepC hW' cb4, keepC hW' cb5, keepC hW' cb6, keepC hW' cb7⟩)
  refine wp_region_held_drew (S := (fun W' => (W'.cell? ⟨By, 0, none⟩ = some (.bool on2) ∧ W'.cell? ⟨By, 1, none⟩ = some (.bool bad2) ∧ W'.cell? ⟨By, 2, none⟩ = some (.int .i64 at2) ∧ W'.cell? ⟨By, 3, none⟩ = some (.slice (some ⟨gy, 0, none⟩) n2 n2) ∧ W'.cell? ⟨By, 4, none⟩ = some (.slice (some ⟨hy, 0, none⟩) k2 k2) ∧ W'.cell? ⟨By, 5, none⟩ = some (.bool sk2) ∧ W'.cell? ⟨By, 6, none⟩ = some (.bool go2) ∧ W'.cell? ⟨By, 7, none⟩ = some (.string in2) ∧ W'.cell? ⟨w.heap.size + 1, 0, none⟩ = some (.bool on2) ∧ W'.cell? ⟨w.heap.size + 1, 1, none⟩ = some (.bool bad2) ∧ W'.cell? ⟨w.heap.size + 1, 2, none⟩ = some (.int .i64 at2) ∧ W'.cell? ⟨w.heap.size + 1, 3, none⟩ = some (.slice A2 n2 c2) ∧ W'.cell? ⟨w.heap.size + 1, 4, none⟩ = some (.slice G2 k2 d2) ∧ W'.cell? ⟨w.heap.size + 1, 5, none⟩ = some (.bool sk2) ∧ W'.cell? ⟨w.heap.size + 1, 6, none⟩ = some (.bool go2) ∧ W'.cell? ⟨w.heap.size + 1, 7, none⟩ = some (.string in2)) ∧ Below wr21_2.heap.size wr21_2 W')) (by kernel_rfl) ⟨HX23.out _ (Below.refl _ _).drew, (Below.refl _ _).drew⟩ (fun hHeld => ?_)
  refine wpAnyH_take (i := 0) (oi := { dst := some 40, op := Go.Op.load 57 (Go.Operand.tmp 8), type := 57, pos := "exact.go:2567", after := #[], guard := none }) (v := ?_) rfl (by kernel_rfl) (by kernel_rfl) (by kernel_rfl) (fun _ _ _ h => h) (Or.inl ⟨by rfl, ?hy0⟩) (by assumption) ?_
  case hy0 => ((intro w hSw; (try dsimp only at hSw); go_simp); try with_reducible rfl)
  try simp only [Act.put, List.setIfInBounds_toArray, List.set_cons_zero, List.set_cons_succ]
  refine wpAnyH_take (i := 1) (oi := { dst := some 41, op := Go.Op.load 67 (Go.Operand.tmp 3), type := 67, pos := "exact.go:2567", after := #[], guard := none }) (v := ?_) rfl (by kernel_rfl) (by kernel_rfl) (by kernel_rfl) (fun _ _ _ h => h) (Or.inl ⟨by rfl, ?hy1⟩) (by assumption) ?_
  case hy1 => ((intro w hSw; (try dsimp only at hSw); go_simp); try with_reducible rfl)
  try simp only [Act.put, List.setIfInBounds_toArray, List.set_cons_zero, List.set_cons_succ]
  refine wpAnyH_ready (rs := [2]) (by kernel_rfl) (by simp) ?_
  refine AllReadyH.cons (o := { dst := some 42, op := Go.Op.call { callee := Go.Callee.value (Go.Operand.func 32), args := #[Go.Operand.tmp 41], argTypes := #[67] }, type := 57, pos := "exact.go:2567", after := #[{ on := 1, ground := Go.Ground.data }], guard := none }) rfl (fun K hK => ?_) AllReadyH.nil
  go_simp
  refine (CB.out _ (bel_trans b22 ((Below.refl wr21_2.heap.size wr21_2).drew))).mono ?_
  rintro e wr23_1 ⟨ga, ha, rfl, oa, ua, hbr23_1'⟩
  have hbr23_1 := bel_trans ((Below.refl wr21_2.heap.size wr21_2).drew) hbr23_1'
  go_wp2_with fail
  refine hK.out _ _ ⟨HX23.out _ hbr23_1, hbr23_1⟩ (fun hHeld => ?_)
  clear hK K
  try simp only [Act.put, List.setIfInBounds_toArray, List.set_cons_zero, List.set_cons_succ]
  refine wpAnyH_ready (rs := [3]) (by kernel_rfl) (by simp) ?_
  refine AllReadyH.cons (o := { dst := some 43, op := Go.Op.call { callee := Go.Callee.value (Go.Operand.func 33), args := #[Go.Operand.tmp 40, Go.Operand.tmp 42], argTypes := #[57, 57] }, type := 4, pos := "exact.go:2567", after := #[{ on := 0, ground := Go.Ground.data }, { on := 2, ground := Go.Ground.data }, { on := 2, ground := Go.Ground.chain }], guard := none }) rfl (fun K hK => ?_) AllReadyH.nil
  go_simp
  refine (eqTalk on2 bad2 at2 _ n2 n2 l2 _ k2 k2 g2 sk2 go2 in2 on2 bad2 at2 _ n2 n2 l2 _ k2 k2 g2 sk2 go2 in2 _ (oy.on (hbr23_1)).sl oa.sl HM2.out.1 (uy.on (hbr23_1)).sl ua.sl HM2.out.2).mono ?_
  rintro e wr23_2 ⟨rfl, hbr23_2'⟩
  have hbr23_2 := bel_trans (hbr23_1) hbr23_2'
  rw [he2]
  clear oa ua
  go_wp2_with fail
  refine hK.out _ _ ⟨HX23.out _ hbr23_2, hbr23_2⟩ (fun hHeld => ?_)
  clear hK K
  try simp only [Act.put, List.setIfInBounds_toArray, List.set_cons_zero, List.set_cons_succ]
  refine wpAnyH_take (i := 4) (oi := { dst := some 44, op := Go.Op.unOp Go.UnOp.not 4 (Go.Operand.tmp 43), type := 4, pos := "exact.go:2567", after := #[{ on := 3, ground := Go.Ground.data }], guard := none }) (v := ?_) rfl (by kernel_rfl) (by kernel_rfl) (by kernel_rfl) (fun _ _ _ h => h) (Or.inl ⟨by rfl, ?hy4⟩) (by assumption) ?_
  case hy4 => ((intro w hSw; (try dsimp only at hSw); go_simp); try with_reducible rfl)
  try simp only [Act.put, List.setIfInBounds_toArray, List.set_cons_zero, List.set_cons_succ]
  refine wpAnyH_done (by kernel_rfl) ?_ _
  clear HX23
  replace xa := xa.on hbr23_2
  replace ca0 := keepC hbr23_2 ca0
  replace ca1 := keepC hbr23_2 ca1
  replace ca2 := keepC hbr23_2 ca2
  replace ca3 := keepC hbr23_2 ca3
  replace ca4 := keepC hbr23_2 ca4
  replace ca5 := keepC hbr23_2 ca5
  replace ca6 := keepC hbr23_2 ca6
  replace ca7 := keepC hbr23_2 ca7
  replace xb := xb.on hbr23_2
  replace cb0 := keepC hbr23_2 cb0
  replace cb1 := keepC hbr23_2 cb1
  replace cb2 := keepC hbr23_2 cb2
  replace cb3 := keepC hbr23_2 cb3
  replace cb4 := keepC hbr23_2 cb4
  replace cb5 := keepC hbr23_2 cb5
  replace cb6 := keepC hbr23_2 cb6
  replace cb7 := keepC hbr23_2 cb7
  replace xx := xx.on hbr23_2
  replace cx0 := keepC hbr23_2 cx0
  replace cx1 := keepC hbr23_2 cx1
  replace cx2 := keepC hbr23_2 cx2
  replace cx3 := keepC hbr23_2 cx3
  replace cx4 := keepC hbr23_2 cx4
  replace cx5 := keepC hbr23_2 cx5
  replace cx6 := keepC hbr23_2 cx6
  replace cx7 := keepC hbr23_2 cx7
  replace xy := xy.on hbr23_2
  replace cy0 := keepC hbr23_2 cy0
  replace cy1 := keepC hbr23_2 cy1
  replace cy2 := keepC hbr23_2 cy2
  replace cy3 := keepC hbr23_2 cy3
  replace cy4 := keepC hbr23_2 cy4
  replace cy5 := keepC hbr23_2 cy5
  replace cy6 := keepC hbr23_2 cy6
  replace cy7 := keepC hbr23_2 cy7
  replace ox := ox.on hbr23_2
  replace ux := ux.on hbr23_2
  replace oy := oy.on hbr23_2
  replace uy := uy.on hbr23_2
  have b24 := bel_trans b22 hbr23_2
  clear b22
  go_wp2
  go_ret
  exact ⟨rfl, b24⟩
end Go.Proofs.Ytpmeaikiaoojkaa
