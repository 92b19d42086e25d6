/- The law FnExactRowsDiff, walked. -/
import Derived.Test.YtndeehlndbdonaaB8
namespace Go.Proofs.Ytndeehlndbdonaa
open Go.RowKit

theorem dif_len : ∀ (f : Nat) (la lb : List Row), (dif f la lb).length ≤ f
  | 0, _, _ => by simp [dif]
  | f + 1, [], [] => by simp [dif]
  | f + 1, a :: p, [] => by
    show (a.1 :: dif f p []).length ≤ _
    have := dif_len f p []; simp; omega
  | f + 1, [], b :: q => by
    show (b.1 :: dif f [] q).length ≤ _
    have := dif_len f [] q; simp; omega
  | f + 1, a :: p, b :: q => by
    show (if klt a.1 b.1 = true then a.1 :: dif f p (b :: q) else if klt b.1 a.1 = true then b.1 :: dif f (a :: p) q else if (a.2 != b.2) = true then a.1 :: dif f p q else dif f p q).length ≤ _
    have h1 := dif_len f p (b :: q); have h2 := dif_len f (a :: p) q; have h3 := dif_len f p q
    split
    · simp; omega
    · split
      · simp; omega
      · split
        · simp; omega
        · omega
theorem diffOut_len (l p : List Row) : (diffOut l p).length ≤ 20 := by
  unfold diffOut
  split
  · rename_i h
    have h1 := (rowsOk_iff.1 h.1).1
    have h2 := (rowsOk_iff.1 h.2).1
    have := dif_len (l.length + p.length) l p
    omega
  · simp

set_option maxHeartbeats 1000000 in
set_option maxRecDepth 100000 in
theorem lawRowsDiff (A : Option Addr) (n c : Nat) (l : List Row) (B : Option Addr) (m d : Nat) (p : List Row) (w : World) (hr : Sl encRow w w.heap.size A n l) (hk : KeysWf l) (hn : n ≤ maxLen) (hs : Sl encRow w w.heap.size B m p) (hkp : KeysWf p) (hm : m ≤ maxLen) :
    Calls Try.prog 8 #[.slice A n c, .slice B m d] w fun e w' => e = .returned (.bool true) ∧ Below w.heap.size w w' := by
  have HN := Lib.hid hn
  have HM := Lib.hid hm
  clear hn hm
  have hDl := diffOut_len l p
  obtain ⟨D, hD⟩ : ∃ D, diffOut l p = D := ⟨_, rfl⟩
  rw [hD] at hDl
  have HD := Lib.hid hD
  clear hD
  have he1 := rowsEq_self l
  have he2 := rowsEq_self p
  have he3 := strsEq_self D
  go_enter Try.func8, Try.ntmps8
  go_wp2_with fail
  refine (szRowS A n c l _ _ hr hk HN.out (by omega) (by omega)).mono ?_
  rintro e w1 ⟨v, rfl, hv0, hv1, hv2, hb1⟩
  go_wp2_with fail
  · go_ret
    exact ⟨rfl, hb1⟩
  have hn : n ≤ 1048576 := by have h3 := hv2 (by omega); omega
  clear hv2
  have b1 := hb1
  refine (szRowS B m d p _ _ (hs.on b1) hkp HM.out (by omega) (by omega)).mono ?_
  rintro e w2 ⟨v2, rfl, hv3, hv4, hv5, hb2⟩
  have b2 := bel_trans b1 hb2
  go_wp2_with fail
  · go_ret
    exact ⟨rfl, b2⟩
  have hm : m ≤ 1048576 := by have h3 := hv5 (by omega); omega
  clear hv5
  have za := b2.size
  refine (toRowS A n c l _ (hr.on b2) hn).mono ?_
  rintro e w3 ⟨ga, rfl, oa, hb3⟩
  have b3 := bel_trans b2 hb3
  go_wp2_with fail
  have zb := b3.size
  refine (toRowS B m d p _ (hs.on b3) hm).mono ?_
  rintro e w4 ⟨gb, rfl, ob, hb4⟩
  have b4 := bel_trans b3 hb4
  have dab := oa.apart ob (Nat.le_refl _)
  have oan := oa.on hb4
  clear oa
  have oa := oan
  clear oan
  go_wp2_with fail
  have zW := b4.size
  refine (specRowsDiff _ _ n n m m l p _ oa.sl hk hn ob.sl hkp hm).mono ?_
  rintro e w5 ⟨vW, rfl, oW, hb5⟩
  rw [HD.out] at oW; obtain ⟨AW, cW, rfl, -, -⟩ := oW.form
  have b5 := bel_trans b4 hb5
  have daW := oa.apart oW (Nat.le_refl _)
  have dbW := ob.apart oW (Nat.le_refl _)
  have oan := oa.on hb5
  clear oa
  have oa := oan
  clear oan
  have obn := ob.on hb5
  clear ob
  have ob := obn
  clear obn
  go_wp2_with fail
  clear oa
  clear ob
  have zx := b5.size
  refine (toRowS A n c l _ (hr.on b5) hn).mono ?_
  rintro e w6 ⟨gx, rfl, ox, hb6⟩
  have b6 := bel_trans b5 hb6
  have dWx := oW.apart ox (Nat.le_refl _)
  have oWn := oW.on hb6
  clear oW
  have oW := oWn
  clear oWn
  go_wp2_with fail
  have zy := b6.size
  refine (toRowS B m d p _ (hs.on b6) hm).mono ?_
  rintro e w7 ⟨gy, rfl, oy, hb7⟩
  have b7 := bel_trans b6 hb7
  have dWy := oW.apart oy (Nat.le_refl _)
  have dxy := ox.apart oy (Nat.le_refl _)
  have oWn := oW.on hb7
  clear oW
  have oW := oWn
  clear oWn
  have oxn := ox.on hb7
  clear ox
  have ox := oxn
  clear oxn
  go_wp2_with fail
  have zg := b7.size
  refine (implRowsDiff _ _ n n m m l p _ ox.sl hk hn (Nat.le_refl _) oy.sl hkp hm (Nat.le_refl _)).mono ?_
  rintro e w8 ⟨vg, rfl, og, hb8⟩
  rw [HD.out] at og; obtain ⟨Ag, cg, rfl, -, -⟩ := og.form
  have b8 := bel_trans b7 hb8
  have dWg := oW.apart og (Nat.le_refl _)
  have dxg := ox.apart og (Nat.le_refl _)
  have dyg := oy.apart og (Nat.le_refl _)
  have oWn := oW.on hb8
  clear oW
  have oW := oWn
  clear oWn
  have oxn := ox.on hb8
  clear ox
  have ox := oxn
  clear oxn
  have oyn := oy.on hb8
  clear oy
  have oy := oyn
  clear oyn
  go_wp2_with fail
  refine (eqStringS _ _ D.length D.length cg cW D D _ og.sl oW.sl (by omega)).mono ?_
  rintro e w9 ⟨rfl, hb9⟩
  have b9 := bel_trans b8 hb9
  have oWn := oW.on hb9
  clear oW
  have oW := oWn
  clear oWn
  have oxn := ox.on hb9
  clear ox
  have ox := oxn
  clear oxn
  have oyn := oy.on hb9
  clear oy
  have oy := oyn
  clear oyn
  have ogn := og.on hb9
  clear og
  have og := ogn
  clear ogn
  go_wp2_with fail
  have zc := b9.size
  refine (toRowS A n c l _ (hr.on b9) hn).mono ?_
  rintro e w10 ⟨gc, rfl, oc, hb10⟩
  have b10 := bel_trans b9 hb10
  have dWc := oW.apart oc (Nat.le_refl _)
  have dxc := ox.apart oc (Nat.le_refl _)
  have dyc := oy.apart oc (Nat.le_refl _)
  have dgc := og.apart oc (Nat.le_refl _)
  have oWn := oW.on hb10
  clear oW
  have oW := oWn
  clear oWn
  have oxn := ox.on hb10
  clear ox
  have ox := oxn
  clear oxn
  have oyn := oy.on hb10
  clear oy
  have oy := oyn
  clear oyn
  have ogn := og.on hb10
  clear og
  have og := ogn
  clear ogn
  go_wp2_with fail
  refine (eqRowS _ _ n n n n l l _ ox.sl oc.sl hn).mono ?_
  rintro e w11 ⟨rfl, hb11⟩
  have b11 := bel_trans b10 hb11
  have oWn := oW.on hb11
  clear oW
  have oW := oWn
  clear oWn
  have oxn := ox.on hb11
  clear ox
  have ox := oxn
  clear oxn
  have oyn := oy.on hb11
  clear oy
  have oy := oyn
  clear oyn
  have ogn := og.on hb11
  clear og
  have og := ogn
  clear ogn
  have ocn := oc.on hb11
  clear oc
  have oc := ocn
  clear ocn
  go_wp2_with fail
  clear oc
  have zd := b11.size
  refine (toRowS B m d p _ (hs.on b11) hm).mono ?_
  rintro e w12 ⟨gd, rfl, od, hb12⟩
  have b12 := bel_trans b11 hb12
  have dWd := oW.apart od (Nat.le_refl _)
  have dxd := ox.apart od (Nat.le_refl _)
  have dyd := oy.apart od (Nat.le_refl _)
  have dgd := og.apart od (Nat.le_refl _)
  have oWn := oW.on hb12
  clear oW
  have oW := oWn
  clear oWn
  have oxn := ox.on hb12
  clear ox
  have ox := oxn
  clear oxn
  have oyn := oy.on hb12
  clear oy
  have oy := oyn
  clear oyn
  have ogn := og.on hb12
  clear og
  have og := ogn
  clear ogn
  go_wp2_with fail
  refine (eqRowS _ _ m m m m p p _ oy.sl od.sl hm).mono ?_
  rintro e w13 ⟨rfl, hb13⟩
  have b13 := bel_trans b12 hb13
  have oWn := oW.on hb13
  clear oW
  have oW := oWn
  clear oWn
  have oxn := ox.on hb13
  clear ox
  have ox := oxn
  clear oxn
  have oyn := oy.on hb13
  clear oy
  have oy := oyn
  clear oyn
  have ogn := og.on hb13
  clear og
  have og := ogn
  clear ogn
  have odn := od.on hb13
  clear od
  have od := odn
  clear odn
  go_wp2_with fail
  clear od
  refine (markRowS _ n n 1 _ l _ ox (by omega) (by omega) (by omega)).mono ?_
  rintro e w14 ⟨rfl, mx, ht14⟩
  have b14 := Turn.bel b13 ht14 (fun x hx => Nat.le_trans zx (ox.block hx).1)
  have oWn := oW.far ht14 (fun x y hx hy => Ne.symm (dWx y x hy hx))
  clear oW
  have oW := oWn
  clear oWn
  have oyn := oy.far ht14 dxy
  clear oy
  have oy := oyn
  clear oyn
  have ogn := og.far ht14 dxg
  clear og
  have og := ogn
  clear ogn
  clear ox
  have ox := mx
  clear mx
  go_wp2_with fail
  refine (markRowS _ m m (1 + 2 * n) _ p _ oy (by omega) (by omega) (by omega)).mono ?_
  rintro e w15 ⟨rfl, my, ht15⟩
  have b15 := Turn.bel b14 ht15 (fun x hx => Nat.le_trans zy (oy.block hx).1)
  have oWn := oW.far ht15 (fun x y hx hy => Ne.symm (dWy y x hy hx))
  clear oW
  have oW := oWn
  clear oWn
  have oxn := ox.far ht15 (fun x y hx hy => Ne.symm (dxy y x hy hx))
  clear ox
  have ox := oxn
  clear oxn
  have ogn := og.far ht15 dyg
  clear og
  have og := ogn
  clear ogn
  clear oy
  have oy := my
  clear my
  go_wp2_with fail
  refine (eqStringS _ _ D.length D.length cg cW D D _ og.sl oW.sl (by omega)).mono ?_
  rintro e w16 ⟨rfl, hb16⟩
  have b16 := bel_trans b15 hb16
  have oWn := oW.on hb16
  clear oW
  have oW := oWn
  clear oWn
  have oxn := ox.on hb16
  clear ox
  have ox := oxn
  clear oxn
  have oyn := oy.on hb16
  clear oy
  have oy := oyn
  clear oyn
  have ogn := og.on hb16
  clear og
  have og := ogn
  clear ogn
  go_wp2_with fail
  refine (markStringS _ D.length cg 1 _ D _ og (by omega) (by omega) (by omega)).mono ?_
  rintro e w17 ⟨rfl, mg, ht17⟩
  have b17 := Turn.bel b16 ht17 (fun x hx => Nat.le_trans zg (og.block hx).1)
  have oWn := oW.far ht17 (fun x y hx hy => Ne.symm (dWg y x hy hx))
  clear oW
  have oW := oWn
  clear oWn
  have oxn := ox.far ht17 (fun x y hx hy => Ne.symm (dxg y x hy hx))
  clear ox
  have ox := oxn
  clear oxn
  have oyn := oy.far ht17 (fun x y hx hy => Ne.symm (dyg y x hy hx))
  clear oy
  have oy := oyn
  clear oyn
  clear og
  have og := mg
  clear mg
  go_wp2_with fail
  refine (heldStringS _ D.length cg 1 _ og.sl (by omega) (by omega) (by omega)).mono ?_
  rintro e w18 ⟨rfl, hb18⟩
  have b18 := bel_trans b17 hb18
  have oWn := oW.on hb18
  clear oW
  have oW := oWn
  clear oWn
  have oxn := ox.on hb18
  clear ox
  have ox := oxn
  clear oxn
  have oyn := oy.on hb18
  clear oy
  have oy := oyn
  clear oyn
  have ogn := og.on hb18
  clear og
  have og := ogn
  clear ogn
  go_wp2_with fail
  have zq := b18.size
  refine (toRowS A n c l _ (hr.on b18) hn).mono ?_
  rintro e w19 ⟨gq, rfl, oq, hb19⟩
  have b19 := bel_trans b18 hb19
  have dWq := oW.apart oq (Nat.le_refl _)
  have dxq := ox.apart oq (Nat.le_refl _)
  have dyq := oy.apart oq (Nat.le_refl _)
  have dgq := og.apart oq (Nat.le_refl _)
  have oWn := oW.on hb19
  clear oW
  have oW := oWn
  clear oWn
  have oxn := ox.on hb19
  clear ox
  have ox := oxn
  clear oxn
  have oyn := oy.on hb19
  clear oy
  have oy := oyn
  clear oyn
  have ogn := og.on hb19
  clear og
  have og := ogn
  clear ogn
  go_wp2_with fail
  have zr := b19.size
  refine (toRowS B m d p _ (hs.on b19) hm).mono ?_
  rintro e w20 ⟨gr, rfl, or, hb20⟩
  have b20 := bel_trans b19 hb20
  have dWr := oW.apart or (Nat.le_refl _)
  have dxr := ox.apart or (Nat.le_refl _)
  have dyr := oy.apart or (Nat.le_refl _)
  have dgr := og.apart or (Nat.le_refl _)
  have dqr := oq.apart or (Nat.le_refl _)
  have oWn := oW.on hb20
  clear oW
  have oW := oWn
  clear oWn
  have oxn := ox.on hb20
  clear ox
  have ox := oxn
  clear oxn
  have oyn := oy.on hb20
  clear oy
  have oy := oyn
  clear oyn
  have ogn := og.on hb20
  clear og
  have og := ogn
  clear ogn
  have oqn := oq.on hb20
  clear oq
  have oq := oqn
  clear oqn
  go_wp2_with fail
  have zh := b20.size
  refine (implRowsDiff _ _ n n m m l p _ oq.sl hk hn (Nat.le_refl _) or.sl hkp hm (Nat.le_refl _)).mono ?_
  rintro e w21 ⟨vh, rfl, oh, hb21⟩
  rw [HD.out] at oh; obtain ⟨Ah, ch, rfl, -, -⟩ := oh.form
  have b21 := bel_trans b20 hb21
  have dWh := oW.apart oh (Nat.le_refl _)
  have dxh := ox.apart oh (Nat.le_refl _)
  have dyh := oy.apart oh (Nat.le_refl _)
  have dgh := og.apart oh (Nat.le_refl _)
  have dqh := oq.apart oh (Nat.le_refl _)
  have drh := or.apart oh (Nat.le_refl _)
  have oWn := oW.on hb21
  clear oW
  have oW := oWn
  clear oWn
  have oxn := ox.on hb21
  clear ox
  have ox := oxn
  clear oxn
  have oyn := oy.on hb21
  clear oy
  have oy := oyn
  clear oyn
  have ogn := og.on hb21
  clear og
  have og := ogn
  clear ogn
  have oqn := oq.on hb21
  clear oq
  have oq := oqn
  clear oqn
  have orn := or.on hb21
  clear or
  have or := orn
  clear orn
  go_wp2_with fail
  refine (eqStringS _ _ D.length D.length ch cW D D _ oh.sl oW.sl (by omega)).mono ?_
  rintro e w22 ⟨rfl, hb22⟩
  have b22 := bel_trans b21 hb22
  have oWn := oW.on hb22
  clear oW
  have oW := oWn
  clear oWn
  have oxn := ox.on hb22
  clear ox
  have ox := oxn
  clear oxn
  have oyn := oy.on hb22
  clear oy
  have oy := oyn
  clear oyn
  have ogn := og.on hb22
  clear og
  have og := ogn
  clear ogn
  have oqn := oq.on hb22
  clear oq
  have oq := oqn
  clear oqn
  have orn := or.on hb22
  clear or
  have or := orn
  clear orn
  have ohn := oh.on hb22
  clear oh
  have oh := ohn
  clear ohn
  go_wp2_with fail
  refine (heldStringS _ D.length cg 1 _ og.sl (by omega) (by omega) (by omega)).mono ?_
  rintro e w23 ⟨rfl, hb23⟩
  have b23 := bel_trans b22 hb23
  have oWn := oW.on hb23
  clear oW
  have oW := oWn
  clear oWn
  have oxn := ox.on hb23
  clear ox
  have ox := oxn
  clear oxn
  have oyn := oy.on hb23
  clear oy
  have oy := oyn
  clear oyn
  have ogn := og.on hb23
  clear og
  have og := ogn
  clear ogn
  have oqn := oq.on hb23
  clear oq
  have oq := oqn
  clear oqn
  have orn := or.on hb23
  clear or
  have or := orn
  clear orn
  have ohn := oh.on hb23
  clear oh
  have oh := ohn
  clear ohn
  go_wp2
  go_ret
  exact ⟨rfl, b23⟩
end Go.Proofs.Ytndeehlndbdonaa
