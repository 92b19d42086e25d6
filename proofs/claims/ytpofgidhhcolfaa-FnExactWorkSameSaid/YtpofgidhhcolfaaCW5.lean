/- The law FnExactWorkSame, walked. -/
import Derived.Test.YtpofgidhhcolfaaW5
namespace Go.Proofs.Ytpofgidhhcolfaa
open Go.RowKit

set_option maxHeartbeats 4000000 in
set_option maxRecDepth 100000 in
theorem lawFnExactWorkSame (now : Int) (A : Option Addr) (n c : Nat) (l : List Write) (now2 : Int) (B : Option Addr) (m d : Nat) (p : List Write) (w : World)
    (hr : Sl encWrite w w.heap.size A n l) (hk : WriteSWf l) (hn : n ≤ maxLen) (hs : Sl encWrite w w.heap.size B m p) (hk2 : WriteSWf p) (hm : m ≤ maxLen) :
    Calls Try.prog 3 #[.agg #[.int .i64 now, .slice A n c], .agg #[.int .i64 now2, .slice B m d]] w fun e w' => e = .returned (.bool true) ∧ Below w.heap.size w w' := by
  have HN := Lib.hid hn
  have HM := Lib.hid hm
  clear hn hm
  have b0 := bel_alloc (bel_alloc (Below.refl _ w) (.cells #[.int .i64 now, .slice A n c] 24)) (.cells #[.int .i64 now2, .slice B m d] 24)
  obtain ⟨p0, p1⟩ := cell_new2Work w (.int .i64 now) (.slice A n c) 24
  obtain ⟨p2, p3⟩ := cell_new2Work (w.alloc (.cells #[.int .i64 now, .slice A n c] 24)) (.int .i64 now2) (.slice B m d) 24
  rw [World.size_alloc] at p2 p3
  have bb := (bel_alloc (Below.refl _ (w.alloc (.cells #[.int .i64 now, .slice A n c] 24))) (.cells #[.int .i64 now2, .slice B m d] 24))
  have p4 := (bb.cell (p := ⟨w.heap.size, 0, none⟩) (by simp)).trans p0
  have p5 := (bb.cell (p := ⟨w.heap.size, 1, none⟩) (by simp)).trans p1
  generalize hw0 : (w.alloc (.cells #[.int .i64 now, .slice A n c] 24)).alloc (.cells #[.int .i64 now2, .slice B m d] 24) = w0 at *
  have hz0 : w.heap.size + 1 < w0.heap.size := by rw [← hw0]; simp
  have HW := Lib.hid hw0
  clear hw0 bb p0 p1
  have HC : Hid (∀ W, Below w0.heap.size w0 W → W.cell? ⟨w.heap.size, 0, none⟩ = some (.int .i64 now) ∧ W.cell? ⟨w.heap.size, 1, none⟩ = some (.slice A n c) ∧ W.cell? ⟨w.heap.size + 1, 0, none⟩ = some (.int .i64 now2) ∧ W.cell? ⟨w.heap.size + 1, 1, none⟩ = some (.slice B m d)) :=
    Lib.hid fun W hW => ⟨(hW.cell (p := ⟨w.heap.size, 0, none⟩) (by simp only; omega)).trans p4, (hW.cell (p := ⟨w.heap.size, 1, none⟩) (by simp only; omega)).trans p5, (hW.cell (p := ⟨w.heap.size + 1, 0, none⟩) (by simp only; omega)).trans p2, (hW.cell (p := ⟨w.heap.size + 1, 1, none⟩) (by simp only; omega)).trans p3⟩
  obtain ⟨r, hr0⟩ : ∃ r, WorkEq now l now2 p = r := ⟨_, rfl⟩
  have HR := Lib.hid hr0
  clear hr0
  have hrr : (r != r) = false := by simp
  go_enter Try.func3, Try.ntmps3
  go_wp2_with fail
  rw [HW.out]
  refine (szWork now A n c l _ _ (hr.on b0) hk HN.out (by omega) (by omega)).mono ?_
  rintro e w1 ⟨v1, rfl, hv0, hv1, hv2, hb1⟩
  obtain ⟨c1, c2, c3, c4⟩ := HC.out _ hb1
  clear p2 p3 p4 p5
  go_wp2_with fail
  · go_ret
    exact ⟨rfl, bel_trans b0 hb1⟩
  refine (szWork now2 B m d p _ _ (hs.on (bel_trans b0 hb1)) hk2 HM.out (by omega) (by omega)).mono ?_
  rintro e w2 ⟨v2, rfl, hv3, hv4, hv5, hb2⟩
  have k2 := bel_trans hb1 hb2
  obtain ⟨d1, d2, d3, d4⟩ := HC.out _ k2
  clear c1 c2 c3 c4
  have hnN : 0 ≤ v1 → n ≤ 1048576 := fun h => by have := hv2 h; omega
  have hnM : 0 ≤ v2 → m ≤ 1048576 := fun h => by have := hv5 h; omega
  have HNN := Lib.hid hnN
  have HMM := Lib.hid hnM
  clear hnN hnM hv2 hv5
  go_wp2_with fail
  · go_ret
    exact ⟨rfl, bel_trans b0 k2⟩
  have n1 : n ≤ 1048576 := HNN.out (by omega)
  have n2 : m ≤ 1048576 := HMM.out (by omega)
  have N1 := Lib.hid n1
  have N2 := Lib.hid n2
  have CA : Hid (∀ W, Below w0.heap.size w0 W → Calls Try.prog 21 #[.agg #[.int .i64 now, .slice A n c]] W (ToWorkPost W now n l)) := Lib.hid fun W hW => toWork now A n c l W (hr.on (bel_trans b0 hW)) N1.out
  have CB : Hid (∀ W, Below w0.heap.size w0 W → Calls Try.prog 21 #[.agg #[.int .i64 now2, .slice B m d]] W (ToWorkPost W now2 m p)) := Lib.hid fun W hW => toWork now2 B m d p W (hs.on (bel_trans b0 hW)) N2.out
  have K2 := Lib.hid k2
  clear n1 n2 hr hs hk hk2 hb1 hb2 k2
  go_region_held3 (fun w' => (w'.cell? ⟨w.heap.size, 0, none⟩ = some (.int .i64 now) ∧ w'.cell? ⟨w.heap.size, 1, none⟩ = some (.slice A n c) ∧ w'.cell? ⟨w.heap.size + 1, 0, none⟩ = some (.int .i64 now2) ∧ w'.cell? ⟨w.heap.size + 1, 1, none⟩ = some (.slice B m d)) ∧ Below w2.heap.size w2 w')
    (first | exact ⟨HC.out _ (bel_trans K2.out (Below.refl _ _).drew), (Below.refl _ _).drew⟩ | exact ⟨HC.out _ (bel_trans K2.out kc), kc⟩ | exact ⟨HC.out _ (bel_trans K2.out kb), kb⟩ | exact ⟨HC.out _ (bel_trans K2.out ka), ka⟩)
    (first
      | ((with_reducible (go_at_call 21; refine (CA.out _ (bel_trans K2.out (by first | exact (Below.refl _ _).drew | assumption))).mono ?_)); rintro e wa ⟨va, rfl, oa, hba⟩; have ka := bel_trans (show Below w2.heap.size w2 _ by first | exact (Below.refl _ _).drew | assumption) hba)
      | ((with_reducible (go_at_call 21; refine (CB.out _ (bel_trans K2.out (by first | exact (Below.refl _ _).drew | assumption))).mono ?_)); rintro e wb ⟨vb, rfl, ob, hbb⟩; have kb := bel_trans ka hbb; have oa2 := oa.on hbb)
      | (go_at_call 20; refine (specWorkSame now _ n n l now2 _ m m p _ oa2.sl ob.sl N1.out).mono ?_; rintro e wc ⟨rfl, hbc⟩; have kc := bel_trans kb hbc))
  rw [HR.out]
  have k3 := bel_trans K2.out kc
  obtain ⟨e1, e2, e3, e4⟩ := HC.out _ k3
  clear d1 d2 d3 d4 oa ob oa2 ka kb hbb hba hbc kc
  go_wp2_with fail
  refine (CA.out _ k3).mono ?_
  rintro e w4 ⟨v4, rfl, o4, hb4⟩
  have k4 := bel_trans k3 hb4
  have o5 := o4.on (bel_alloc (Below.refl _ w4) (.cells #[.int .i64 now, .slice (some ⟨v4, 0, none⟩) n n] 29))
  obtain ⟨x0, x1⟩ := cell_new2Work w4 (.int .i64 now) (.slice (some ⟨v4, 0, none⟩) n n) 29
  have k5 := bel_alloc k4 (.cells #[.int .i64 now, .slice (some ⟨v4, 0, none⟩) n n] 29)
  have z5 : w4.heap.size < (w4.alloc (.cells #[.int .i64 now, .slice (some ⟨v4, 0, none⟩) n n] 29)).heap.size := by simp
  clear o4
  obtain ⟨f1, f2, f3, f4⟩ := HC.out _ k5
  clear e1 e2 e3 e4
  go_wp2_with fail
  refine (CB.out _ k5).mono ?_
  rintro e w6 ⟨v6, rfl, o6, hb6⟩
  have k6 := bel_trans k5 hb6
  have o7 := o5.on hb6
  have x2 := (hb6.cell (p := ⟨w4.heap.size, 0, none⟩) z5).trans x0
  have x3 := (hb6.cell (p := ⟨w4.heap.size, 1, none⟩) z5).trans x1
  have b7 := bel_alloc (Below.refl _ w6) (.cells #[.int .i64 now2, .slice (some ⟨v6, 0, none⟩) m m] 29)
  have o8 := o7.on b7
  have o9 := o6.on b7
  obtain ⟨y0, y1⟩ := cell_new2Work w6 (.int .i64 now2) (.slice (some ⟨v6, 0, none⟩) m m) 29
  have z6 : w4.heap.size < w6.heap.size := Nat.lt_of_lt_of_le z5 hb6.size
  have x4 := (b7.cell (p := ⟨w4.heap.size, 0, none⟩) z6).trans x2
  have x5 := (b7.cell (p := ⟨w4.heap.size, 1, none⟩) z6).trans x3
  have k7 := bel_alloc k6 (.cells #[.int .i64 now2, .slice (some ⟨v6, 0, none⟩) m m] 29)
  have z7 : w6.heap.size < (w6.alloc (.cells #[.int .i64 now2, .slice (some ⟨v6, 0, none⟩) m m] 29)).heap.size := by simp
  clear o5 o7 o6 x0 x1 x2 x3 b7
  have HX : Hid (∀ W, Below (w6.alloc (.cells #[.int .i64 now2, .slice (some ⟨v6, 0, none⟩) m m] 29)).heap.size (w6.alloc (.cells #[.int .i64 now2, .slice (some ⟨v6, 0, none⟩) m m] 29)) W → W.cell? ⟨w4.heap.size, 0, none⟩ = some (.int .i64 now) ∧ W.cell? ⟨w4.heap.size, 1, none⟩ = some (.slice (some ⟨v4, 0, none⟩) n n) ∧ W.cell? ⟨w6.heap.size, 0, none⟩ = some (.int .i64 now2) ∧ W.cell? ⟨w6.heap.size, 1, none⟩ = some (.slice (some ⟨v6, 0, none⟩) m m)) :=
    Lib.hid fun W hW => ⟨(hW.cell (p := ⟨w4.heap.size, 0, none⟩) (Nat.lt_trans z6 (by simp))).trans x4, (hW.cell (p := ⟨w4.heap.size, 1, none⟩) (Nat.lt_trans z6 (by simp))).trans x5, (hW.cell (p := ⟨w6.heap.size, 0, none⟩) z7).trans y0, (hW.cell (p := ⟨w6.heap.size, 1, none⟩) z7).trans y1⟩
  obtain ⟨g1, g2, g3, g4⟩ := HC.out _ k7
  clear f1 f2 f3 f4
  go_wp2_with fail
  refine (implWorkSame now _ n n l now2 _ m m p _ o8.sl o9.sl N1.out).mono ?_
  rintro e w8 ⟨rfl, hb8⟩
  rw [HR.out]
  have k8 := bel_trans k7 hb8
  obtain ⟨h1, h2, h3, h4⟩ := HC.out _ k8
  obtain ⟨i1, i2, i3, i4⟩ := HX.out _ hb8
  clear g1 g2 g3 g4 x4 x5 y0 y1
  have K8 := Lib.hid k8
  have B8 := Lib.hid hb8
  clear k8 hb8
  go_wp2_with fail
  go_region_held3 (fun w' => (w'.cell? ⟨w.heap.size, 0, none⟩ = some (.int .i64 now) ∧ w'.cell? ⟨w.heap.size, 1, none⟩ = some (.slice A n c) ∧ w'.cell? ⟨w.heap.size + 1, 0, none⟩ = some (.int .i64 now2) ∧ w'.cell? ⟨w.heap.size + 1, 1, none⟩ = some (.slice B m d)) ∧ (w'.cell? ⟨w4.heap.size, 0, none⟩ = some (.int .i64 now) ∧ w'.cell? ⟨w4.heap.size, 1, none⟩ = some (.slice (some ⟨v4, 0, none⟩) n n) ∧ w'.cell? ⟨w6.heap.size, 0, none⟩ = some (.int .i64 now2) ∧ w'.cell? ⟨w6.heap.size, 1, none⟩ = some (.slice (some ⟨v6, 0, none⟩) m m)) ∧ Below w8.heap.size w8 w')
    (first | exact ⟨HC.out _ (bel_trans K8.out (Below.refl _ _).drew), HX.out _ (bel_trans B8.out (Below.refl _ _).drew), (Below.refl _ _).drew⟩ | exact ⟨HC.out _ (bel_trans K8.out kc), HX.out _ (bel_trans B8.out kc), kc⟩ | exact ⟨HC.out _ (bel_trans K8.out ka), HX.out _ (bel_trans B8.out ka), ka⟩)
    (first
      | (go_at_call 21; refine (CA.out _ (bel_trans K8.out (by first | exact (Below.refl _ _).drew | assumption))).mono ?_; rintro e wa ⟨va, rfl, oa, hba⟩; have ka := bel_trans (show Below w8.heap.size w8 _ by first | exact (Below.refl _ _).drew | assumption) hba)
      | (go_at_call 23; refine (eqWork now _ n n l now _ n n l _ (o8.on (bel_trans B8.out ka)).sl oa.sl N1.out).mono ?_; rintro e wc ⟨rfl, hbc⟩; have kc := bel_trans ka hbc))
  rw [WorkEq_self]
  have k9 := bel_trans K8.out kc
  have b9 := bel_trans B8.out kc
  obtain ⟨j1, j2, j3, j4⟩ := HC.out _ k9
  obtain ⟨l1, l2, l3, l4⟩ := HX.out _ b9
  clear h1 h2 h3 h4 i1 i2 i3 i4 oa ka kc hba hbc
  have K9 := Lib.hid k9
  have B9 := Lib.hid b9
  clear k9 b9
  go_wp2_with fail
  go_region_held3 (fun w' => (w'.cell? ⟨w.heap.size, 0, none⟩ = some (.int .i64 now) ∧ w'.cell? ⟨w.heap.size, 1, none⟩ = some (.slice A n c) ∧ w'.cell? ⟨w.heap.size + 1, 0, none⟩ = some (.int .i64 now2) ∧ w'.cell? ⟨w.heap.size + 1, 1, none⟩ = some (.slice B m d)) ∧ (w'.cell? ⟨w4.heap.size, 0, none⟩ = some (.int .i64 now) ∧ w'.cell? ⟨w4.heap.size, 1, none⟩ = some (.slice (some ⟨v4, 0, none⟩) n n) ∧ w'.cell? ⟨w6.heap.size, 0, none⟩ = some (.int .i64 now2) ∧ w'.cell? ⟨w6.heap.size, 1, none⟩ = some (.slice (some ⟨v6, 0, none⟩) m m)) ∧ Below wc.heap.size wc w')
    (first | exact ⟨HC.out _ (bel_trans K9.out (Below.refl _ _).drew), HX.out _ (bel_trans B9.out (Below.refl _ _).drew), (Below.refl _ _).drew⟩ | exact ⟨HC.out _ (bel_trans K9.out kf), HX.out _ (bel_trans B9.out kf), kf⟩ | exact ⟨HC.out _ (bel_trans K9.out kd), HX.out _ (bel_trans B9.out kd), kd⟩)
    (first
      | (go_at_call 21; refine (CB.out _ (bel_trans K9.out (by first | exact (Below.refl _ _).drew | assumption))).mono ?_; rintro e wd ⟨vd, rfl, od, hbd⟩; have kd := bel_trans (show Below wc.heap.size wc _ by first | exact (Below.refl _ _).drew | assumption) hbd)
      | (go_at_call 23; refine (eqWork now2 _ m m p now2 _ m m p _ (o9.on (bel_trans B9.out kd)).sl od.sl N2.out).mono ?_; rintro e wf ⟨rfl, hbf⟩; have kf := bel_trans kd hbf))
  rw [WorkEq_self]
  have k10 := bel_trans b0 (bel_trans K9.out kf)
  go_wp2
  go_ret
  exact ⟨rfl, k10⟩
end Go.Proofs.Ytpofgidhhcolfaa
