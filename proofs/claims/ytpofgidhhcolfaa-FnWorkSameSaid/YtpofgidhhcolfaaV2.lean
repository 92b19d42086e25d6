/- Contracts over Vers: toVers, szVers, eqVers, slices.Equal, VersSame of the program and of the reference. -/
import Derived.Test.YtpofgidhhcolfaaV1N
import Derived.Deep.QuietTactic
import Derived.BigQuiet
namespace Go.Proofs.Ytpofgidhhcolfaa
open Go.RowKit

theorem bcellVers {W w1 : World} (hb : Below W.heap.size W w1) : (∀ b o, b < W.heap.size → w1.cell? ⟨b, o, none⟩ = W.cell? ⟨b, o, none⟩) ∧ (∀ b o, b < W.heap.size → w1.frozen? ⟨b, o, none⟩ = W.frozen? ⟨b, o, none⟩) :=
  ⟨fun b o h => hb.cell (p := ⟨b, o, none⟩) h, fun b o h => hb.frozen (p := ⟨b, o, none⟩) h⟩
theorem Own.setOffVers {α : Type} {enc : α → List Value} {sz : Nat} {e : TypeId} {w : World} {base n c b o : Nat} {A : Option Addr} {l : List α} (h : Own enc sz e w base (.slice A n c) l) (hb : b < base) (u : Value) : Own enc sz e (w.setCell ⟨b, o, none⟩ u) base (.slice A n c) l :=
  h.far ((Turn.refl (some ⟨b, 0, none⟩) w).set o u) (fun x y hx hy => by cases hx; have := (h.block hy).1; show b ≠ y.block; omega)
theorem cell_new2Vers (w : World) (u v : Value) (t : TypeId) : (w.alloc (.cells #[u, v] t)).cell? ⟨w.heap.size, 0, none⟩ = some u ∧ (w.alloc (.cells #[u, v] t)).cell? ⟨w.heap.size, 1, none⟩ = some v := by
  constructor
  · rw [cell_of_row _ w.heap.size 0 #[u, v] t (0, 0) (heap_alloc_new w _)]; rfl
  · rw [cell_of_row _ w.heap.size 1 #[u, v] t (0, 0) (heap_alloc_new w _)]; rfl
def ToVersPost (w : World) (now : Int) (n : Nat) (l : List Ver) (e : Ending) (w' : World) : Prop :=
  ∃ v, e = .returned (.agg #[.int .i64 now, .slice (some ⟨v, 0, none⟩) n n]) ∧ Own encVer 4 77 w' w.heap.size (.slice (some ⟨v, 0, none⟩) n n) l ∧ Below w.heap.size w w'
set_option maxHeartbeats 1000000 in
theorem toVers (now : Int) (A : Option Addr) (n c : Nat) (l : List Ver) (w : World) (hr : Sl encVer w w.heap.size A n l) (hn : n ≤ 1048576) :
    Calls Try.prog 26 #[.agg #[.int .i64 now, .slice A n c]] w (ToVersPost w now n l) := by
  have HN := Lib.hid hn
  clear hn
  have b0 := bel_alloc (Below.refl _ w) (.cells #[.int .i64 now, .slice A n c] 34)
  go_enter Try.func26, Try.ntmps26
  go_wp2_with fail
  refine (toVerS A n c l _ (hr.on (bel_alloc (bel_alloc b0 _) _)) HN.out).mono ?_
  rintro e w1 ⟨v, rfl, ho, hb⟩
  obtain ⟨hc, hf⟩ := bcellVers hb
  have hsz := hb.size
  have hz : w.heap.size + 2 < w1.heap.size := by simp at hsz; omega
  have b1 := bel_trans (bel_alloc (bel_alloc b0 _) _) hb
  have o1 := (ho.setOffVers (b := w.heap.size + 2) (o := 1) (by simp) (.slice (some ⟨v, 0, none⟩) n n))
  have o2 := ((o1.setOffVers (b := w.heap.size + 1) (o := 0) (by simp) (.int .i64 now)).setOffVers (b := w.heap.size + 1) (o := 1) (by simp) (.slice (some ⟨v, 0, none⟩) n n)).lower (base' := w.heap.size) (by simp; omega)
  have b2 := bel_set (bel_set (bel_set b1 (p := ⟨w.heap.size + 2, 1, none⟩) (by simp) (.slice (some ⟨v, 0, none⟩) n n)) (p := ⟨w.heap.size + 1, 0, none⟩) (by simp) (.int .i64 now)) (p := ⟨w.heap.size + 1, 1, none⟩) (by simp) (.slice (some ⟨v, 0, none⟩) n n)
  have O2 := Lib.hid o2
  have B2 := Lib.hid b2
  clear o1 o2 b2 ho hsz
  go_wp2
  exact bodyPost_ret (v := .agg #[.int .i64 now, .slice (some ⟨v, 0, none⟩) n n]) (by simp [results, Try.results26, go_sem, hc]) rfl ⟨v, rfl, O2.out, B2.out⟩
set_option maxHeartbeats 1000000 in
theorem szVers (now : Int) (A : Option Addr) (n c : Nat) (l : List Ver) (left : Int) (w : World) (hr : Sl encVer w w.heap.size A n l) (hk : VerSWf l) (hn : n ≤ maxLen) (h1 : 0 ≤ left) (h2 : left ≤ 1048576) :
    Calls Try.prog 24 #[.agg #[.int .i64 now, .slice A n c], .int .i64 left] w (SzVerPost w n left) := by
  have HN := Lib.hid hn
  clear hn
  have b0 := bel_alloc (Below.refl _ w) (.cells #[.int .i64 now, .slice A n c] 34)
  go_enter Try.func24, Try.ntmps24
  go_wp2_with fail
  refine (szVerS A n c l left _ (hr.on b0) hk HN.out h1 h2).mono ?_
  rintro e w1 ⟨v, rfl, hv0, hv1, hv2, hb⟩
  have b1 := bel_trans b0 hb
  go_wp2
  all_goals
    go_ret
    exact ⟨_, rfl, by omega, by omega, by omega, b1⟩
def VersEq (now : Int) (l : List Ver) (now2 : Int) (m : List Ver) : Bool := decide (now = now2) && decide (l = m)
theorem VersEq_self (now : Int) (l : List Ver) : VersEq now l now l = true := by simp [VersEq]
theorem VersEq_now {now now2 : Int} {l m : List Ver} (h : (now == now2) = false) : VersEq now l now2 m = false := by
  have h2 : now ≠ now2 := by simpa using h
  unfold VersEq; rw [decide_eq_false h2]; rfl
theorem VersEq_same {now now2 : Int} {l m : List Ver} (h : (now == now2) = true) : VersEq now l now2 m = verSEq l m := by 
  have h2 : now = now2 := by simpa using h
  unfold VersEq verSEq; rw [decide_eq_true h2]; rfl
theorem VersEq_comm (now : Int) (l : List Ver) (now2 : Int) (m : List Ver) : VersEq now l now2 m = VersEq now2 m now l := by
  unfold VersEq; rw [show decide (now = now2) = decide (now2 = now) from decide_eq_decide.2 eq_comm, show decide (l = m) = decide (m = l) from decide_eq_decide.2 eq_comm]
set_option maxHeartbeats 1000000 in
theorem eqVers (now : Int) (A : Option Addr) (n c : Nat) (l : List Ver) (now2 : Int) (B : Option Addr) (m d : Nat) (p : List Ver) (w : World) (hr : Sl encVer w w.heap.size A n l) (hs : Sl encVer w w.heap.size B m p) (hn : n ≤ 1048576) :
    Calls Try.prog 28 #[.agg #[.int .i64 now, .slice A n c], .agg #[.int .i64 now2, .slice B m d]] w fun e w' => e = .returned (.bool (VersEq now l now2 p)) ∧ Below w.heap.size w w' := by
  have HN := Lib.hid hn
  clear hn
  have b0 := bel_alloc (bel_alloc (Below.refl _ w) (.cells #[.int .i64 now, .slice A n c] 39)) (.cells #[.int .i64 now2, .slice B m d] 39)
  have hne : (now != now2) = !(now == now2) := rfl
  cases h : (now == now2)
  · rw [h] at hne
    simp only [Bool.not_false] at hne
    have HF := Lib.hid (VersEq_now (l := l) (m := p) h)
    go_enter Try.func28, Try.ntmps28
    go_wp2
    go_ret
    exact ⟨retBool HF.out.symm, b0⟩
  · rw [h] at hne
    simp only [Bool.not_true] at hne
    have HF := Lib.hid (VersEq_same (l := l) (m := p) h)
    have C : Hid (∀ W, Below w.heap.size w W → Calls Try.prog 77 #[.slice A n c, .slice B m d] W fun e w' => e = .returned (.bool (verSEq l p)) ∧ Below W.heap.size W w') := Lib.hid fun W hW => eqVerS A B n m c d l p W (hr.on hW) (hs.on hW) HN.out
    clear hr hs
    obtain ⟨r, hr⟩ : ∃ r, verSEq l p = r := ⟨_, rfl⟩
    rw [hr] at C HF
    clear hr
    go_enter Try.func28, Try.ntmps28
    go_wp2_with fail
    refine (C.out _ b0).mono ?_
    rintro e w1 ⟨rfl, hb⟩
    have b1 := bel_trans b0 hb
    cases r
    all_goals
      go_wp2
      go_ret
      exact ⟨retBool HF.out.symm, b1⟩
set_option maxRecDepth 100000 in
set_option maxHeartbeats 2000000 in
theorem equalVer (A B : Option Addr) (n m c d : Nat) (l p : List Ver) (w : World) (hr : Sl encVer w w.heap.size A n l) (hs : Sl encVer w w.heap.size B m p) (hn : n ≤ 1048576) :
    Calls Try.prog 76 #[.slice A n c, .slice B m d] w fun e w' => e = .returned (.bool (verSEq l p)) ∧ Below w.heap.size w w' := by
  have HL := Lib.hid hr.len
  have HP := Lib.hid hs.len
  by_cases hnm : n = m
  · subst hnm
    have hne : ((n : Int) != (n : Int)) = false := by simp
    go_enter Try.func76, Try.ntmps76
    go_wp2
    go_loopw [5, 13] (fun _ i wr => ∃ k : Nat, k ≤ n ∧ i = .int .i64 k ∧ EqToVer l p k ∧ Below w.heap.size w wr) (fun _ i _ => n - (intOf i).toNat)
    case atStart => exact ⟨0, by omega, rfl, EqToVer.zero l p, Below.refl _ _⟩
    case round =>
      obtain ⟨k, hkn, rfl, heq, hbel⟩ := hrel
      by_cases hlt : k < n
      · obtain ⟨b, off, rfl, hb⟩ := hr.spot (by omega)
        obtain ⟨b2, off2, rfl, hb2⟩ := hs.spot (by omega)
        obtain ⟨f0, f1, f2, f3, hrow, ha0, ha1, ha2, ha3⟩ := atVer (hr.keep hbel) hlt
        obtain ⟨g0, g1, g2, g3, hrow2, hz0, hz1, hz2, hz3⟩ := atVer (hs.keep hbel) hlt
        have HR := Lib.hid hrow
        have HR2 := Lib.hid hrow2
        clear hrow hrow2
        have i0 : (0 : Int) ≤ (k : Int) := by omega
        have i1 : (k : Int) < (n : Int) := by omega
        cases he : eqVerB (f0, f1, f2, f3) (g0, g1, g2, g3)
        all_goals
          have q1 := neqVer f0 f1 f2 f3 g0 g1 g2 g3
          have q2 := guardVer
          rw [he] at q1
          have HE := Lib.hid he
          clear he
          go_wp2_with fail
          go_quiet (fail)
          go_wp2
        · go_ret
          exact ⟨retBool (verSEq_at HR.out HR2.out HE.out).symm, bel_drewN hbel _⟩
        · go_roundw
          case rel => exact ⟨k + 1, by omega, by go_num, heq.step HR.out HR2.out HE.out, bel_drewN hbel _⟩
          case measure => simp [intOf]; omega
      · go_wp2
        go_ret
        exact ⟨retBool (heq.all (by rw [HL.out]; omega) (by rw [HP.out]; omega)).symm, hbel⟩
  · have hf : verSEq l p = false := verSEq_len (by rw [HL.out, HP.out]; exact hnm)
    have HF := Lib.hid hf
    clear hf
    have hne : ((n : Int) != (m : Int)) = true := by simp; omega
    clear hnm
    go_enter Try.func76, Try.ntmps76
    go_wp2
    go_ret
    exact ⟨retBool HF.out.symm, Below.refl _ _⟩
set_option maxHeartbeats 1000000 in
theorem implVersSame (now : Int) (A : Option Addr) (n c : Nat) (l : List Ver) (now2 : Int) (B : Option Addr) (m d : Nat) (p : List Ver) (w : World) (hr : Sl encVer w w.heap.size A n l) (hs : Sl encVer w w.heap.size B m p) (hn : n ≤ 1048576) :
    Calls Try.prog 27 #[.agg #[.int .i64 now, .slice A n c], .agg #[.int .i64 now2, .slice B m d]] w fun e w' => e = .returned (.bool (VersEq now l now2 p)) ∧ Below w.heap.size w w' := by
  have HN := Lib.hid hn
  clear hn
  have b0 := bel_alloc (bel_alloc (Below.refl _ w) (.cells #[.int .i64 now, .slice A n c] 39)) (.cells #[.int .i64 now2, .slice B m d] 39)
  cases h : (now == now2)
  · have HF := Lib.hid (VersEq_now (l := l) (m := p) h)
    go_enter Try.func27, Try.ntmps27
    go_wp2
    go_ret
    exact ⟨retBool HF.out.symm, b0⟩
  · have HF := Lib.hid (VersEq_same (l := l) (m := p) h)
    have C : Hid (∀ W, Below w.heap.size w W → Calls Try.prog 76 #[.slice A n c, .slice B m d] W fun e w' => e = .returned (.bool (verSEq l p)) ∧ Below W.heap.size W w') := Lib.hid fun W hW => equalVer A B n m c d l p W (hr.on hW) (hs.on hW) HN.out
    clear hr hs
    obtain ⟨r, hr⟩ : ∃ r, verSEq l p = r := ⟨_, rfl⟩
    rw [hr] at C HF
    clear hr
    go_enter Try.func27, Try.ntmps27
    go_wp2_with fail
    refine (C.out _ b0).mono ?_
    rintro e w1 ⟨rfl, hb⟩
    have b1 := bel_trans b0 hb
    go_wp2
    go_ret
    exact ⟨retBool HF.out.symm, b1⟩
set_option maxRecDepth 100000 in
set_option maxHeartbeats 2000000 in
theorem specVersSame (now : Int) (A : Option Addr) (n c : Nat) (l : List Ver) (now2 : Int) (B : Option Addr) (m d : Nat) (p : List Ver) (w : World) (hr : Sl encVer w w.heap.size A n l) (hs : Sl encVer w w.heap.size B m p) (hn : n ≤ 1048576) :
    Calls Try.prog 25 #[.agg #[.int .i64 now, .slice A n c], .agg #[.int .i64 now2, .slice B m d]] w fun e w' => e = .returned (.bool (VersEq now l now2 p)) ∧ Below w.heap.size w w' := by
  have HL := Lib.hid hr.len
  have HP := Lib.hid hs.len
  have b0 := bel_alloc (bel_alloc (Below.refl _ w) (.cells #[.int .i64 now, .slice A n c] 39)) (.cells #[.int .i64 now2, .slice B m d] 39)
  have hnn : (now != now2) = !(now == now2) := rfl
  cases h : (now == now2)
  · rw [h] at hnn
    simp only [Bool.not_false] at hnn
    have HF := Lib.hid (VersEq_now (l := l) (m := p) h)
    go_enter Try.func25, Try.ntmps25
    go_wp2
    go_ret
    exact ⟨retBool HF.out.symm, b0⟩
  rw [h] at hnn
  simp only [Bool.not_true] at hnn
  have HF := Lib.hid (VersEq_same (l := l) (m := p) h)
  by_cases hnm : n = m
  · subst hnm
    have hne : ((n : Int) != (n : Int)) = false := by simp
    obtain ⟨p0, p1⟩ := cell_new2Vers w (.int .i64 now) (.slice A n c) 39
    obtain ⟨p2, p3⟩ := cell_new2Vers (w.alloc (.cells #[.int .i64 now, .slice A n c] 39)) (.int .i64 now2) (.slice B n d) 39
    rw [World.size_alloc] at p2 p3
    have p4 := ((bel_alloc (Below.refl _ (w.alloc (.cells #[.int .i64 now, .slice A n c] 39))) (.cells #[.int .i64 now2, .slice B n d] 39)).cell (p := ⟨w.heap.size, 1, none⟩) (by simp)).trans p1
    generalize hw2 : (w.alloc (.cells #[.int .i64 now, .slice A n c] 39)).alloc (.cells #[.int .i64 now2, .slice B n d] 39) = w2 at *
    have hz2 : w.heap.size + 1 < w2.heap.size := by rw [← hw2]; simp
    have HW2 := Lib.hid hw2
    clear hw2
    go_enter Try.func25, Try.ntmps25
    go_wp2
    rw [HW2.out]
    go_loopw [5] (fun i wr => ∃ k : Nat, k ≤ n ∧ i = .int .i64 k ∧ EqToVer l p k ∧ Below w2.heap.size w2 wr) (fun i _ => n - (intOf i).toNat)
    case atStart => exact ⟨0, by omega, rfl, EqToVer.zero l p, Below.refl _ _⟩
    case round =>
      obtain ⟨k, hkn, rfl, heq, hbel2⟩ := hrel
      have hbel := bel_trans b0 hbel2
      have k1 := (hbel2.cell (p := ⟨w.heap.size, 1, none⟩) (by simp only; omega)).trans p4
      have k2 := (hbel2.cell (p := ⟨w.heap.size + 1, 1, none⟩) hz2).trans p3
      by_cases hlt : k < n
      · obtain ⟨b, off, rfl, hb⟩ := hr.spot (by omega)
        obtain ⟨b2, off2, rfl, hb2⟩ := hs.spot (by omega)
        obtain ⟨f0, f1, f2, f3, hrow, ha0, ha1, ha2, ha3⟩ := atVer (hr.keep hbel) hlt
        obtain ⟨g0, g1, g2, g3, hrow2, hz0, hz1, hz2, hz3⟩ := atVer (hs.keep hbel) hlt
        have HR := Lib.hid hrow
        have HR2 := Lib.hid hrow2
        clear hrow hrow2
        have i0 : (0 : Int) ≤ (k : Int) := by omega
        have i1 : (k : Int) < (n : Int) := by omega
        cases he : eqVerB (f0, f1, f2, f3) (g0, g1, g2, g3)
        all_goals
          have q1 := neqVer f0 f1 f2 f3 g0 g1 g2 g3
          have q2 := guardVer
          rw [he] at q1
          have HE := Lib.hid he
          clear he
          go_wp2_with fail
          go_quiet (fail)
          go_wp2
        · go_ret
          exact ⟨retBool (by rw [HF.out]; exact (verSEq_at HR.out HR2.out HE.out).symm), bel_drewN hbel _⟩
        · go_roundw
          case rel => exact ⟨k + 1, by omega, by go_num, heq.step HR.out HR2.out HE.out, bel_drewN hbel2 _⟩
          case measure => simp [intOf]; omega
      · go_wp2
        go_ret
        exact ⟨retBool (by rw [HF.out]; exact (heq.all (by rw [HL.out]; omega) (by rw [HP.out]; omega)).symm), hbel⟩
  · have hf : verSEq l p = false := verSEq_len (by rw [HL.out, HP.out]; exact hnm)
    have HF2 := Lib.hid hf
    clear hf
    have hne : ((n : Int) != (m : Int)) = true := by simp; omega
    clear hnm
    go_enter Try.func25, Try.ntmps25
    go_wp2
    go_ret
    exact ⟨retBool (by rw [HF.out, HF2.out]), b0⟩
end Go.Proofs.Ytpofgidhhcolfaa
