/- The law FnRowsSum, walked. -/
import Derived.Test.YtndeehlndbdonaaG1
import Derived.Test.YtndeehlndbdonaaP4
namespace Go.Proofs.Ytndeehlndbdonaa
open Go.RowKit

theorem sumTo_append (l m : List Row) : sumTo (l ++ m) (l ++ m).length = sumTo l l.length + sumTo m m.length := by
  induction l with
  | nil => rw [show sumTo [] ([] : List Row).length = 0 from sumTo_zero []]; simp
  | cons r l ih =>
    show r.2 + sumTo (l ++ m) (l ++ m).length = r.2 + sumTo l l.length + sumTo m m.length
    rw [ih]; omega
theorem RowsP.sub {l m : List Row} (h : RowsP l) (hs : m.Sublist l) : RowsP m := by
  rw [rowsP_iff] at h ⊢
  exact ⟨Nat.le_trans hs.length_le h.1, fun r hr => h.2.1 r (hs.subset hr), h.2.2.sublist hs⟩
theorem sum_bound {l : List Row} (h : ∀ r ∈ l, keyOk r.1 = true ∧ numOk r.2 = true) : -999 * (l.length : Int) ≤ sumTo l l.length ∧ sumTo l l.length ≤ 999 * (l.length : Int) := by
  induction l with
  | nil => rw [show sumTo [] ([] : List Row).length = 0 from sumTo_zero []]; simp
  | cons r l ih =>
    have h1 := ih fun x hx => h x (List.mem_cons_of_mem _ hx)
    have h2 := numOk_iff.1 (h r (by simp)).2
    have h3 : sumTo (r :: l) (r :: l).length = r.2 + sumTo l l.length := rfl
    rw [h3, List.length_cons]
    omega
theorem sum_split {l : List Row} (h : RowsP l) (k : Nat) : sumOut (l.take k) + sumOut (l.drop k) = sumOut l ∧ -10000 ≤ sumOut l ∧ sumOut l ≤ 10000 := by
  have h1 := h.sub (List.take_sublist k l)
  have h2 := h.sub (List.drop_sublist k l)
  rw [sumOut_ok (rowsOk_true h), sumOut_ok (rowsOk_true h1), sumOut_ok (rowsOk_true h2)]
  have h3 := sumTo_append (l.take k) (l.drop k)
  rw [List.take_append_drop] at h3
  have h4 := sum_bound (rowsP_iff.1 h).2.1
  have h5 := h.1
  exact ⟨h3.symm, by omega, by omega⟩
set_option maxHeartbeats 4000000 in
set_option maxRecDepth 100000 in
theorem lawFnRowsSum (A : Option Addr) (n c : Nat) (l : List UInt8) (A2 : Option Addr) (n2 c2 : Nat) (l2 : List UInt8) (w : World) (hr : Sl encB w w.heap.size A n l) (hn : n ≤ maxLen) (hc : n ≤ c) (_hr2 : Sl encB w w.heap.size A2 n2 l2) (hn2 : n2 ≤ maxLen) (_hc2 : n2 ≤ c2) :
    Calls Try.prog 7 #[.slice A n c, .slice A2 n2 c2] w fun e w' => e = .returned (.bool true) ∧ Below w.heap.size w w' := by
  unfold maxLen at hn hn2
  by_cases hbig : 1048576 < n
  · have hb : (1048576 : Int) < (n : Int) := by omega
    go_enter Try.func7, Try.ntmps7
    go_wp2
    go_ret
    exact ⟨rfl, Below.refl _ _⟩
  have hb : ¬ (1048576 : Int) < (n : Int) := by omega
  by_cases hbig2 : 1048576 < n2
  · have hb2 : (1048576 : Int) < (n2 : Int) := by omega
    go_enter Try.func7, Try.ntmps7
    go_wp2
    go_ret
    exact ⟨rfl, Below.refl _ _⟩
  have hb2 : ¬ (1048576 : Int) < (n2 : Int) := by omega
  go_enter Try.func7, Try.ntmps7
  go_wp2_with fail
  refine (drawRowsSum A n c l w hr (by omega) hc).mono ?_
  rintro e w1 ⟨B, cb, lr, rfl, oL, hS, b1⟩
  have nL : lr.length ≤ 1000 := by have := hS.1; omega
  have kL := hS.wf
  clear hS hr hn hc _hr2 hn2 _hc2 hb hbig
  obtain ⟨v, hv⟩ : ∃ v, sumOut lr = v := ⟨_, rfl⟩
  have HV := Lib.hid hv
  have hvv : (v != v) = false := by simp
  have hve : (v == v) = true := by simp
  clear hv
  go_wp2_with fail
  refine (aSum oL kL nL HV.out).mono ?_
  rintro e w2 ⟨rfl, hb2⟩
  have b2 := bel_trans b1 hb2
  replace oL := oL.on hb2
  go_wp2_with fail
  refine (sSum oL kL nL HV.out).mono ?_
  rintro e w3 ⟨rfl, hb3⟩
  have b3 := bel_trans b2 hb3
  replace oL := oL.on hb3
  go_wp2_with fail
  cases hok : rowsOk lr
  · have HK := Lib.hid hok
    clear hok
    refine (sOk oL kL nL HK.out).mono ?_
    rintro e w4 ⟨rfl, hb4⟩
    have b4 := bel_trans b3 hb4
    replace oL := oL.on hb4
    go_wp2_with fail
    refine (sSum oL kL nL HV.out).mono ?_
    rintro e w5 ⟨rfl, hb5⟩
    have b5 := bel_trans b4 hb5
    replace oL := oL.on hb5
    go_wp2
    go_ret
    exact ⟨rfl, b5⟩
  · have hP := rowsOk_iff.1 hok
    have HK := Lib.hid hok
    clear hok
    obtain ⟨kk, hkk, hkl⟩ : ∃ kk : Nat, (n2 : Int) % ((lr.length : Int) + 1) = (kk : Int) ∧ kk ≤ lr.length :=
      ⟨n2 % (lr.length + 1), by simp, by have := Nat.mod_lt n2 (show 0 < lr.length + 1 by omega); omega⟩
    obtain ⟨h1, h2, h3⟩ := sum_split hP kk
    rw [HV.out] at h1 h2 h3
    obtain ⟨va, hva⟩ : ∃ va, sumOut (lr.take kk) = va := ⟨_, rfl⟩
    obtain ⟨vb, hvb⟩ : ∃ vb, sumOut (lr.drop kk) = vb := ⟨_, rfl⟩
    rw [hva, hvb] at h1
    have hwr : IntKind.i64.wrap (va + vb) = v := by rw [IntWalk.i64_in _ (by omega)]; exact h1
    have kA : KeysWf (lr.take kk) := (hP.sub (List.take_sublist _ _)).kw
    have kB : KeysWf (lr.drop kk) := (hP.sub (List.drop_sublist _ _)).kw
    have HVA := Lib.hid hva
    have HVB := Lib.hid hvb
    have HWR := Lib.hid hwr
    have hn0 : sumOut [] = 0 := sumOut_ok (rowsOk_true rowsP_nil)
    have HN0 := Lib.hid hn0
    clear hva hvb h1 h2 h3 hP hwr hn0
    refine (sOk oL kL nL HK.out).mono ?_
    rintro e w4 ⟨rfl, hb4⟩
    have b4 := bel_trans b3 hb4
    replace oL := oL.on hb4
    go_wp2_with fail
    have hkk0 : (0 : Int) ≤ (kk : Int) := by omega
    have hkk1 : (kk : Int) ≤ (lr.length : Int) := by omega
    have hcap := oL.cap
    have hkk2 : (kk : Int) ≤ (cb : Int) := by omega
    have hwr := HWR.out
    have z0 : ((0 : Int) == 0) = true := rfl
    have C0 : Hid (∀ W, Calls Try.prog 29 #[.slice none 0 0] W (NumAt W 0)) := Lib.hid fun W => aSum (l := []) (own_nil W) (fun r hr => by cases hr) (by simp) HN0.out
    rcases oL.fine.2 with ⟨bb, off, rfl⟩ | ⟨rfl, h0, rfl⟩
    · have HB := Lib.hid (oL.block rfl)
      have C1 : Hid (∀ W, Below w4.heap.size w4 W → Calls Try.prog 29 #[.slice (some ⟨bb, off, none⟩) kk cb] W (NumAt W va)) := Lib.hid fun W hW => by
        have h := implRowsSum _ kk cb _ W ((oL.sl.head encRow_len hkl).on hW) kA (by omega)
        rw [HVA.out] at h; exact h
      by_cases hck : cb = kk
      · obtain rfl := hck
        have C2 : Hid (∀ W, Below w4.heap.size w4 W → Calls Try.prog 29 #[.slice (some ⟨bb, off, none⟩) 0 0] W (NumAt W vb)) := Lib.hid fun W hW => by
          have h := implRowsSum (some ⟨bb, off, none⟩) 0 0 [] W (Sl.nil _ _ _ _) (fun r hr => by cases hr) (by omega)
          have h5 : lr.drop cb = [] := List.drop_of_length_le hcap
          rw [← h5, HVB.out] at h; exact h
        go_wp2_with fail
        go_region_held3 (fun w' => Below w4.heap.size w4 w')
          (first | exact (Below.refl _ _).drew | exact kc1 | exact kc2 | exact kc3)
          (first | ((with_reducible (go_at_call 29; refine (C1.out _ (by first | exact (Below.refl _ _).drew | assumption)).mono ?_)); rintro e wa ⟨rfl, hba⟩; have kc1 := bel_trans (show Below w4.heap.size w4 _ by first | exact (Below.refl _ _).drew | assumption) hba) | ((with_reducible (go_at_call 29; refine (C2.out _ (by first | exact (Below.refl _ _).drew | assumption)).mono ?_)); rintro e wb ⟨rfl, hbb⟩; have kc2 := bel_trans (show Below w4.heap.size w4 _ by first | exact (Below.refl _ _).drew | assumption) hbb) | ((with_reducible (go_at_call 29; refine (C0.out _).mono ?_)); rintro e wc ⟨rfl, hbc⟩; have kc3 := bel_trans (show Below w4.heap.size w4 _ by first | exact (Below.refl _ _).drew | assumption) hbc))
        go_wp2
        go_ret
        exact ⟨rfl, bel_trans b4 kc3⟩
      · have C2 : Hid (∀ W, Below w4.heap.size w4 W → Calls Try.prog 29 #[.slice (some ⟨bb, off + kk * 2, none⟩) (lr.length - kk) (cb - kk)] W (NumAt W vb)) := Lib.hid fun W hW => by
          have h2 := (oL.sl.rest encRow_len hkl hcap)
          rw [if_neg hck] at h2
          have h := implRowsSum _ (lr.length - kk) (cb - kk) _ W (h2.on hW) kB (by omega)
          rw [HVB.out] at h; exact h
        go_wp2_with fail
        go_region_held3 (fun w' => Below w4.heap.size w4 w')
          (first | exact (Below.refl _ _).drew | exact kc1 | exact kc2 | exact kc3)
          (first | ((with_reducible (go_at_call 29; refine (C1.out _ (by first | exact (Below.refl _ _).drew | assumption)).mono ?_)); rintro e wa ⟨rfl, hba⟩; have kc1 := bel_trans (show Below w4.heap.size w4 _ by first | exact (Below.refl _ _).drew | assumption) hba) | ((with_reducible (go_at_call 29; refine (C2.out _ (by first | exact (Below.refl _ _).drew | assumption)).mono ?_)); rintro e wb ⟨rfl, hbb⟩; have kc2 := bel_trans (show Below w4.heap.size w4 _ by first | exact (Below.refl _ _).drew | assumption) hbb) | ((with_reducible (go_at_call 29; refine (C0.out _).mono ?_)); rintro e wc ⟨rfl, hbc⟩; have kc3 := bel_trans (show Below w4.heap.size w4 _ by first | exact (Below.refl _ _).drew | assumption) hbc))
        go_wp2
        go_ret
        exact ⟨rfl, bel_trans b4 kc3⟩
    · have hl0 : lr = [] := List.eq_nil_of_length_eq_zero h0
      subst hl0
      have hv0 : v = 0 := by rw [← HV.out]; exact HN0.out
      subst hv0
      obtain rfl : kk = 0 := by simpa using hkl
      have hwr0 : IntKind.i64.wrap ((0 : Int) + 0) = 0 := rfl
      clear hwr
      go_wp2_with fail
      go_region_held3 (fun w' => Below w4.heap.size w4 w')
        (first | exact (Below.refl _ _).drew | exact kc3)
        (first | ((with_reducible (go_at_call 29; refine (C0.out _).mono ?_)); rintro e wc ⟨rfl, hbc⟩; have kc3 := bel_trans (show Below w4.heap.size w4 _ by first | exact (Below.refl _ _).drew | assumption) hbc))
      go_wp2
      go_ret
      exact ⟨rfl, bel_trans b4 kc3⟩
end Go.Proofs.Ytndeehlndbdonaa
