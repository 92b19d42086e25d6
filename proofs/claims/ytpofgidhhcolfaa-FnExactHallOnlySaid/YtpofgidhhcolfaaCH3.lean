/- The law FnExactHallOnly, walked. -/
import Derived.Test.YtpofgidhhcolfaaH2
import Derived.Test.YtpofgidhhcolfaaH3
namespace Go.Proofs.Ytpofgidhhcolfaa
open Go.RowKit

set_option maxHeartbeats 1000000 in
set_option maxRecDepth 100000 in
theorem lawFnExactHallOnly (A : Option Addr) (n c : Nat) (l : List Ev) (who : Int) (w : World) (hr : Sl encEv w w.heap.size A n l) (hk : EvSWf l) (hn : n ≤ maxLen) (_hw : (Lit.int .i64 who).wf = true) :
    Calls Try.prog 5 #[.slice A n c, .int .i64 who] w fun e w' => e = .returned (.bool true) ∧ Below w.heap.size w w' := by
  have HN := Lib.hid hn
  clear hn _hw
  have hDl := only_len l who
  rw [hr.len] at hDl
  obtain ⟨D, hD⟩ : ∃ D, onlyL l who = D := ⟨_, rfl⟩
  rw [hD] at hDl
  have HD := Lib.hid hD
  clear hD
  have HDN := Lib.hid hDl
  clear hDl
  have he1 := evSEq_self l
  have he3 := evSEq_self D
  go_enter Try.func5, Try.ntmps5
  go_wp2_with fail
  refine (szEvS A n c l _ _ hr hk HN.out (by omega) (by omega)).mono ?_
  rintro e w1 ⟨v, rfl, hv0, hv1, hv2, hb1⟩
  go_wp2_with fail
  · go_ret
    exact ⟨rfl, hb1⟩
  have hn : n ≤ 1048576 := by have h3 := hv2 (by omega); omega
  have HDL := Lib.hid (show D.length ≤ 1048576 from Nat.le_trans HDN.out hn)
  clear hv2
  have b1 := hb1
  have za := b1.size
  refine (toEvS A n c l _ (hr.on b1) hn).mono ?_
  rintro e w2 ⟨ga, rfl, oa, hb2⟩
  have b2 := bel_trans b1 hb2
  go_wp2_with fail
  have zW := b2.size
  refine (specHallOnly _ n n l who _ oa.sl hn).mono ?_
  rintro e w3 ⟨vW, rfl, oW, hb3⟩
  rw [HD.out] at oW; obtain ⟨AW, cW, rfl, -, -⟩ := oW.form
  have b3 := bel_trans b2 hb3
  have daW := oa.apart oW (Nat.le_refl _)
  have oan := oa.on hb3
  clear oa
  have oa := oan
  clear oan
  go_wp2_with fail
  clear oa
  have zx := b3.size
  refine (toEvS A n c l _ (hr.on b3) hn).mono ?_
  rintro e w4 ⟨gx, rfl, ox, hb4⟩
  have b4 := bel_trans b3 hb4
  have dWx := oW.apart ox (Nat.le_refl _)
  have oWn := oW.on hb4
  clear oW
  have oW := oWn
  clear oWn
  go_wp2_with fail
  have zg := b4.size
  refine (implHallOnly _ n n l who _ ox.sl hn).mono ?_
  rintro e w5 ⟨vg, rfl, og, hb5⟩
  rw [HD.out] at og; obtain ⟨Ag, cg, rfl, -, -⟩ := og.form
  have b5 := bel_trans b4 hb5
  have dWg := oW.apart og (Nat.le_refl _)
  have dxg := ox.apart og (Nat.le_refl _)
  have oWn := oW.on hb5
  clear oW
  have oW := oWn
  clear oWn
  have oxn := ox.on hb5
  clear ox
  have ox := oxn
  clear oxn
  go_wp2_with fail
  refine (eqEvS _ _ D.length D.length cg cW D D _ og.sl oW.sl (Nat.le_trans HDL.out (by omega))).mono ?_
  rintro e w6 ⟨rfl, hb6⟩
  have b6 := bel_trans b5 hb6
  have oWn := oW.on hb6
  clear oW
  have oW := oWn
  clear oWn
  have oxn := ox.on hb6
  clear ox
  have ox := oxn
  clear oxn
  have ogn := og.on hb6
  clear og
  have og := ogn
  clear ogn
  go_wp2_with fail
  have zc := b6.size
  refine (toEvS A n c l _ (hr.on b6) hn).mono ?_
  rintro e w7 ⟨gc, rfl, oc, hb7⟩
  have b7 := bel_trans b6 hb7
  have dWc := oW.apart oc (Nat.le_refl _)
  have dxc := ox.apart oc (Nat.le_refl _)
  have dgc := og.apart oc (Nat.le_refl _)
  have oWn := oW.on hb7
  clear oW
  have oW := oWn
  clear oWn
  have oxn := ox.on hb7
  clear ox
  have ox := oxn
  clear oxn
  have ogn := og.on hb7
  clear og
  have og := ogn
  clear ogn
  go_wp2_with fail
  refine (eqEvS _ _ n n n n l l _ ox.sl oc.sl hn).mono ?_
  rintro e w8 ⟨rfl, hb8⟩
  have b8 := bel_trans b7 hb8
  have oWn := oW.on hb8
  clear oW
  have oW := oWn
  clear oWn
  have oxn := ox.on hb8
  clear ox
  have ox := oxn
  clear oxn
  have ogn := og.on hb8
  clear og
  have og := ogn
  clear ogn
  have ocn := oc.on hb8
  clear oc
  have oc := ocn
  clear ocn
  go_wp2_with fail
  clear oc
  refine (markEvS _ n n 1 _ l _ ox (by omega) (by omega) (by omega)).mono ?_
  rintro e w9 ⟨rfl, mx, ht9⟩
  have b9 := Turn.bel b8 ht9 (fun x hx => Nat.le_trans zx (ox.block hx).1)
  have oWn := oW.far ht9 (fun x y hx hy => Ne.symm (dWx y x hy hx))
  clear oW
  have oW := oWn
  clear oWn
  have ogn := og.far ht9 dxg
  clear og
  have og := ogn
  clear ogn
  clear ox
  have ox := mx
  clear mx
  go_wp2_with fail
  refine (eqEvS _ _ D.length D.length cg cW D D _ og.sl oW.sl (Nat.le_trans HDL.out (by omega))).mono ?_
  rintro e w10 ⟨rfl, hb10⟩
  have b10 := bel_trans b9 hb10
  have oWn := oW.on hb10
  clear oW
  have oW := oWn
  clear oWn
  have oxn := ox.on hb10
  clear ox
  have ox := oxn
  clear oxn
  have ogn := og.on hb10
  clear og
  have og := ogn
  clear ogn
  go_wp2_with fail
  refine (markEvS _ D.length cg 1 _ D _ og (Nat.le_trans HDL.out (by omega)) (by omega) (by omega)).mono ?_
  rintro e w11 ⟨rfl, mg, ht11⟩
  have b11 := Turn.bel b10 ht11 (fun x hx => Nat.le_trans zg (og.block hx).1)
  have oWn := oW.far ht11 (fun x y hx hy => Ne.symm (dWg y x hy hx))
  clear oW
  have oW := oWn
  clear oWn
  have oxn := ox.far ht11 (fun x y hx hy => Ne.symm (dxg y x hy hx))
  clear ox
  have ox := oxn
  clear oxn
  clear og
  have og := mg
  clear mg
  go_wp2_with fail
  refine (heldEvS _ D.length cg 1 _ og.sl (Nat.le_trans HDL.out (by omega)) (by omega) (by omega)).mono ?_
  rintro e w12 ⟨rfl, hb12⟩
  have b12 := bel_trans b11 hb12
  have oWn := oW.on hb12
  clear oW
  have oW := oWn
  clear oWn
  have oxn := ox.on hb12
  clear ox
  have ox := oxn
  clear oxn
  have ogn := og.on hb12
  clear og
  have og := ogn
  clear ogn
  go_wp2_with fail
  have zq := b12.size
  refine (toEvS A n c l _ (hr.on b12) hn).mono ?_
  rintro e w13 ⟨gq, rfl, oq, hb13⟩
  have b13 := bel_trans b12 hb13
  have dWq := oW.apart oq (Nat.le_refl _)
  have dxq := ox.apart oq (Nat.le_refl _)
  have dgq := og.apart oq (Nat.le_refl _)
  have oWn := oW.on hb13
  clear oW
  have oW := oWn
  clear oWn
  have oxn := ox.on hb13
  clear ox
  have ox := oxn
  clear oxn
  have ogn := og.on hb13
  clear og
  have og := ogn
  clear ogn
  go_wp2_with fail
  have zh := b13.size
  refine (implHallOnly _ n n l who _ oq.sl hn).mono ?_
  rintro e w14 ⟨vh, rfl, oh, hb14⟩
  rw [HD.out] at oh; obtain ⟨Ah, ch, rfl, -, -⟩ := oh.form
  have b14 := bel_trans b13 hb14
  have dWh := oW.apart oh (Nat.le_refl _)
  have dxh := ox.apart oh (Nat.le_refl _)
  have dgh := og.apart oh (Nat.le_refl _)
  have dqh := oq.apart oh (Nat.le_refl _)
  have oWn := oW.on hb14
  clear oW
  have oW := oWn
  clear oWn
  have oxn := ox.on hb14
  clear ox
  have ox := oxn
  clear oxn
  have ogn := og.on hb14
  clear og
  have og := ogn
  clear ogn
  have oqn := oq.on hb14
  clear oq
  have oq := oqn
  clear oqn
  go_wp2_with fail
  refine (eqEvS _ _ D.length D.length ch cW D D _ oh.sl oW.sl (Nat.le_trans HDL.out (by omega))).mono ?_
  rintro e w15 ⟨rfl, hb15⟩
  have b15 := bel_trans b14 hb15
  have oWn := oW.on hb15
  clear oW
  have oW := oWn
  clear oWn
  have oxn := ox.on hb15
  clear ox
  have ox := oxn
  clear oxn
  have ogn := og.on hb15
  clear og
  have og := ogn
  clear ogn
  have oqn := oq.on hb15
  clear oq
  have oq := oqn
  clear oqn
  have ohn := oh.on hb15
  clear oh
  have oh := ohn
  clear ohn
  go_wp2_with fail
  refine (heldEvS _ D.length cg 1 _ og.sl (Nat.le_trans HDL.out (by omega)) (by omega) (by omega)).mono ?_
  rintro e w16 ⟨rfl, hb16⟩
  have b16 := bel_trans b15 hb16
  have oWn := oW.on hb16
  clear oW
  have oW := oWn
  clear oWn
  have oxn := ox.on hb16
  clear ox
  have ox := oxn
  clear oxn
  have ogn := og.on hb16
  clear og
  have og := ogn
  clear ogn
  have oqn := oq.on hb16
  clear oq
  have oq := oqn
  clear oqn
  have ohn := oh.on hb16
  clear oh
  have oh := ohn
  clear ohn
  go_wp2
  go_ret
  exact ⟨rfl, b16⟩
end Go.Proofs.Ytpofgidhhcolfaa
