/- Contracts over Work: toWork, szWork, eqWork, slices.Equal, WorkSame of the program and of the reference. -/
import Derived.Test.YtpmeaikiaoojkaaW1N
import Derived.Deep.QuietTactic
import Derived.BigQuiet
namespace Go.Proofs.Ytpmeaikiaoojkaa
open Go.RowKit

theorem bcellWork {W w1 : World} (hb : Below W.heap.size W w1) : (∀ b o, b < W.heap.size → w1.cell? ⟨b, o, none⟩ = W.cell? ⟨b, o, none⟩) ∧ (∀ b o, b < W.heap.size → w1.frozen? ⟨b, o, none⟩ = W.frozen? ⟨b, o, none⟩) :=
  ⟨fun b o h => hb.cell (p := ⟨b, o, none⟩) h, fun b o h => hb.frozen (p := ⟨b, o, none⟩) h⟩
theorem Own.setOffWork {α : Type} {enc : α → List Value} {sz : Nat} {e : TypeId} {w : World} {base n c b o : Nat} {A : Option Addr} {l : List α} (h : Own enc sz e w base (.slice A n c) l) (hb : b < base) (u : Value) : Own enc sz e (w.setCell ⟨b, o, none⟩ u) base (.slice A n c) l :=
  h.far ((Turn.refl (some ⟨b, 0, none⟩) w).set o u) (fun x y hx hy => by cases hx; have := (h.block hy).1; show b ≠ y.block; omega)
theorem cell_new2Work (w : World) (u v : Value) (t : TypeId) : (w.alloc (.cells #[u, v] t)).cell? ⟨w.heap.size, 0, none⟩ = some u ∧ (w.alloc (.cells #[u, v] t)).cell? ⟨w.heap.size, 1, none⟩ = some v := by
  constructor
  · rw [cell_of_row _ w.heap.size 0 #[u, v] t (0, 0) (heap_alloc_new w _)]; rfl
  · rw [cell_of_row _ w.heap.size 1 #[u, v] t (0, 0) (heap_alloc_new w _)]; rfl
def ToWorkPost (w : World) (now : Int) (n : Nat) (l : List Write) (e : Ending) (w' : World) : Prop :=
  ∃ v, e = .returned (.agg #[.int .i64 now, .slice (some ⟨v, 0, none⟩) n n]) ∧ Own encWrite 3 113 w' w.heap.size (.slice (some ⟨v, 0, none⟩) n n) l ∧ Below w.heap.size w w'
set_option maxHeartbeats 1000000 in
theorem toWork (now : Int) (A : Option Addr) (n c : Nat) (l : List Write) (w : World) (hr : Sl encWrite w w.heap.size A n l) (hn : n ≤ 1048576) :
    Calls Try.prog 46 #[.agg #[.int .i64 now, .slice A n c]] w (ToWorkPost w now n l) := by
  have HN := Lib.hid hn
  clear hn
  have b0 := bel_alloc (Below.refl _ w) (.cells #[.int .i64 now, .slice A n c] 43)
  go_enter Try.func46, Try.ntmps46
  go_wp2_with fail
  refine (toWriteS A n c l _ (hr.on (bel_alloc (bel_alloc b0 _) _)) HN.out).mono ?_
  rintro e w1 ⟨v, rfl, ho, hb⟩
  obtain ⟨hc, hf⟩ := bcellWork hb
  have hsz := hb.size
  have hz : w.heap.size + 2 < w1.heap.size := by simp at hsz; omega
  have b1 := bel_trans (bel_alloc (bel_alloc b0 _) _) hb
  have o1 := (ho.setOffWork (b := w.heap.size + 2) (o := 1) (by simp) (.slice (some ⟨v, 0, none⟩) n n))
  have o2 := ((o1.setOffWork (b := w.heap.size + 1) (o := 0) (by simp) (.int .i64 now)).setOffWork (b := w.heap.size + 1) (o := 1) (by simp) (.slice (some ⟨v, 0, none⟩) n n)).lower (base' := w.heap.size) (by simp; omega)
  have b2 := bel_set (bel_set (bel_set b1 (p := ⟨w.heap.size + 2, 1, none⟩) (by simp) (.slice (some ⟨v, 0, none⟩) n n)) (p := ⟨w.heap.size + 1, 0, none⟩) (by simp) (.int .i64 now)) (p := ⟨w.heap.size + 1, 1, none⟩) (by simp) (.slice (some ⟨v, 0, none⟩) n n)
  have O2 := Lib.hid o2
  have B2 := Lib.hid b2
  clear o1 o2 b2 ho hsz
  go_wp2
  exact bodyPost_ret (v := .agg #[.int .i64 now, .slice (some ⟨v, 0, none⟩) n n]) (by simp [results, Try.results46, go_sem, hc]) rfl ⟨v, rfl, O2.out, B2.out⟩
set_option maxHeartbeats 1000000 in
theorem szWork (now : Int) (A : Option Addr) (n c : Nat) (l : List Write) (left : Int) (w : World) (hr : Sl encWrite w w.heap.size A n l) (hk : WriteSWf l) (hn : n ≤ maxLen) (h1 : 0 ≤ left) (h2 : left ≤ 1048576) :
    Calls Try.prog 44 #[.agg #[.int .i64 now, .slice A n c], .int .i64 left] w (SzWritePost w n left) := by
  have HN := Lib.hid hn
  clear hn
  have b0 := bel_alloc (Below.refl _ w) (.cells #[.int .i64 now, .slice A n c] 43)
  go_enter Try.func44, Try.ntmps44
  go_wp2_with fail
  refine (szWriteS A n c l left _ (hr.on b0) hk HN.out h1 h2).mono ?_
  rintro e w1 ⟨v, rfl, hv0, hv1, hv2, hb⟩
  have b1 := bel_trans b0 hb
  go_wp2
  all_goals
    go_ret
    exact ⟨_, rfl, by omega, by omega, by omega, b1⟩
def WorkEq (now : Int) (l : List Write) (now2 : Int) (m : List Write) : Bool := decide (now = now2) && decide (l = m)
theorem WorkEq_self (now : Int) (l : List Write) : WorkEq now l now l = true := by simp [WorkEq]
theorem WorkEq_now {now now2 : Int} {l m : List Write} (h : (now == now2) = false) : WorkEq now l now2 m = false := by
  have h2 : now ≠ now2 := by simpa using h
  unfold WorkEq; rw [decide_eq_false h2]; rfl
theorem WorkEq_same {now now2 : Int} {l m : List Write} (h : (now == now2) = true) : WorkEq now l now2 m = writeSEq l m := by 
  have h2 : now = now2 := by simpa using h
  unfold WorkEq writeSEq; rw [decide_eq_true h2]; rfl
theorem WorkEq_comm (now : Int) (l : List Write) (now2 : Int) (m : List Write) : WorkEq now l now2 m = WorkEq now2 m now l := by
  unfold WorkEq; rw [show decide (now = now2) = decide (now2 = now) from decide_eq_decide.2 eq_comm, show decide (l = m) = decide (m = l) from decide_eq_decide.2 eq_comm]
set_option maxHeartbeats 1000000 in
theorem eqWork (now : Int) (A : Option Addr) (n c : Nat) (l : List Write) (now2 : Int) (B : Option Addr) (m d : Nat) (p : List Write) (w : World) (hr : Sl encWrite w w.heap.size A n l) (hs : Sl encWrite w w.heap.size B m p) (hn : n ≤ 1048576) :
    Calls Try.prog 48 #[.agg #[.int .i64 now, .slice A n c], .agg #[.int .i64 now2, .slice B m d]] w fun e w' => e = .returned (.bool (WorkEq now l now2 p)) ∧ Below w.heap.size w w' := by
  have HN := Lib.hid hn
  clear hn
  have b0 := bel_alloc (bel_alloc (Below.refl _ w) (.cells #[.int .i64 now, .slice A n c] 50)) (.cells #[.int .i64 now2, .slice B m d] 50)
  have hne : (now != now2) = !(now == now2) := rfl
  cases h : (now == now2)
  · rw [h] at hne
    simp only [Bool.not_false] at hne
    have HF := Lib.hid (WorkEq_now (l := l) (m := p) h)
    go_enter Try.func48, Try.ntmps48
    go_wp2
    go_ret
    exact ⟨retBool HF.out.symm, b0⟩
  · rw [h] at hne
    simp only [Bool.not_true] at hne
    have HF := Lib.hid (WorkEq_same (l := l) (m := p) h)
    have C : Hid (∀ W, Below w.heap.size w W → Calls Try.prog 68 #[.slice A n c, .slice B m d] W fun e w' => e = .returned (.bool (writeSEq l p)) ∧ Below W.heap.size W w') := Lib.hid fun W hW => eqWriteS A B n m c d l p W (hr.on hW) (hs.on hW) HN.out
    clear hr hs
    obtain ⟨r, hr⟩ : ∃ r, writeSEq l p = r := ⟨_, rfl⟩
    rw [hr] at C HF
    clear hr
    go_enter Try.func48, Try.ntmps48
    go_wp2_with fail
    refine (C.out _ b0).mono ?_
    rintro e w1 ⟨rfl, hb⟩
    have b1 := bel_trans b0 hb
    cases r
    all_goals
      go_wp2
      go_ret
      exact ⟨retBool HF.out.symm, b1⟩
set_option maxRecDepth 100000 in
set_option maxHeartbeats 2000000 in
theorem equalWrite (A B : Option Addr) (n m c d : Nat) (l p : List Write) (w : World) (hr : Sl encWrite w w.heap.size A n l) (hs : Sl encWrite w w.heap.size B m p) (hn : n ≤ 1048576) :
    Calls Try.prog 67 #[.slice A n c, .slice B m d] w fun e w' => e = .returned (.bool (writeSEq l p)) ∧ Below w.heap.size w w' := by
  have HL := Lib.hid hr.len
  have HP := Lib.hid hs.len
  by_cases hnm : n = m
  · subst hnm
    have hne : ((n : Int) != (n : Int)) = false := by simp
    go_enter Try.func67, Try.ntmps67
    go_wp2
    go_loopw [5, 13] (fun _ i wr => ∃ k : Nat, k ≤ n ∧ i = .int .i64 k ∧ EqToWrite l p k ∧ Below w.heap.size w wr) (fun _ i _ => n - (intOf i).toNat)
    case atStart => exact ⟨0, by omega, rfl, EqToWrite.zero l p, Below.refl _ _⟩
    case round =>
      obtain ⟨k, hkn, rfl, heq, hbel⟩ := hrel
      by_cases hlt : k < n
      · obtain ⟨b, off, rfl, hb⟩ := hr.spot (by omega)
        obtain ⟨b2, off2, rfl, hb2⟩ := hs.spot (by omega)
        obtain ⟨f0, f1, f2, hrow, ha0, ha1, ha2⟩ := atWrite (hr.keep hbel) hlt
        obtain ⟨g0, g1, g2, hrow2, hz0, hz1, hz2⟩ := atWrite (hs.keep hbel) hlt
        have HR := Lib.hid hrow
        have HR2 := Lib.hid hrow2
        clear hrow hrow2
        have i0 : (0 : Int) ≤ (k : Int) := by omega
        have i1 : (k : Int) < (n : Int) := by omega
        cases he : eqWriteB (f0, f1, f2) (g0, g1, g2)
        all_goals
          have q1 := neqWrite f0 f1 f2 g0 g1 g2
          have q2 := guardWrite
          rw [he] at q1
          have HE := Lib.hid he
          clear he
          go_wp2_with fail
          go_quiet (fail)
          go_wp2
        · go_ret
          exact ⟨retBool (writeSEq_at HR.out HR2.out HE.out).symm, bel_drewN hbel _⟩
        · go_roundw
          case rel => exact ⟨k + 1, by omega, by go_num, heq.step HR.out HR2.out HE.out, bel_drewN hbel _⟩
          case measure => simp [intOf]; omega
      · go_wp2
        go_ret
        exact ⟨retBool (heq.all (by rw [HL.out]; omega) (by rw [HP.out]; omega)).symm, hbel⟩
  · have hf : writeSEq l p = false := writeSEq_len (by rw [HL.out, HP.out]; exact hnm)
    have HF := Lib.hid hf
    clear hf
    have hne : ((n : Int) != (m : Int)) = true := by simp; omega
    clear hnm
    go_enter Try.func67, Try.ntmps67
    go_wp2
    go_ret
    exact ⟨retBool HF.out.symm, Below.refl _ _⟩
set_option maxHeartbeats 1000000 in
theorem implWorkSame (now : Int) (A : Option Addr) (n c : Nat) (l : List Write) (now2 : Int) (B : Option Addr) (m d : Nat) (p : List Write) (w : World) (hr : Sl encWrite w w.heap.size A n l) (hs : Sl encWrite w w.heap.size B m p) (hn : n ≤ 1048576) :
    Calls Try.prog 47 #[.agg #[.int .i64 now, .slice A n c], .agg #[.int .i64 now2, .slice B m d]] w fun e w' => e = .returned (.bool (WorkEq now l now2 p)) ∧ Below w.heap.size w w' := by
  have HN := Lib.hid hn
  clear hn
  have b0 := bel_alloc (bel_alloc (Below.refl _ w) (.cells #[.int .i64 now, .slice A n c] 50)) (.cells #[.int .i64 now2, .slice B m d] 50)
  cases h : (now == now2)
  · have HF := Lib.hid (WorkEq_now (l := l) (m := p) h)
    go_enter Try.func47, Try.ntmps47
    go_wp2
    go_ret
    exact ⟨retBool HF.out.symm, b0⟩
  · have HF := Lib.hid (WorkEq_same (l := l) (m := p) h)
    have C : Hid (∀ W, Below w.heap.size w W → Calls Try.prog 67 #[.slice A n c, .slice B m d] W fun e w' => e = .returned (.bool (writeSEq l p)) ∧ Below W.heap.size W w') := Lib.hid fun W hW => equalWrite A B n m c d l p W (hr.on hW) (hs.on hW) HN.out
    clear hr hs
    obtain ⟨r, hr⟩ : ∃ r, writeSEq l p = r := ⟨_, rfl⟩
    rw [hr] at C HF
    clear hr
    go_enter Try.func47, Try.ntmps47
    go_wp2_with fail
    refine (C.out _ b0).mono ?_
    rintro e w1 ⟨rfl, hb⟩
    have b1 := bel_trans b0 hb
    go_wp2
    go_ret
    exact ⟨retBool HF.out.symm, b1⟩
set_option maxRecDepth 100000 in
set_option maxHeartbeats 2000000 in
theorem specWorkSame (now : Int) (A : Option Addr) (n c : Nat) (l : List Write) (now2 : Int) (B : Option Addr) (m d : Nat) (p : List Write) (w : World) (hr : Sl encWrite w w.heap.size A n l) (hs : Sl encWrite w w.heap.size B m p) (hn : n ≤ 1048576) :
    Calls Try.prog 45 #[.agg #[.int .i64 now, .slice A n c], .agg #[.int .i64 now2, .slice B m d]] w fun e w' => e = .returned (.bool (WorkEq now l now2 p)) ∧ Below w.heap.size w w' := by
  have HL := Lib.hid hr.len
  have HP := Lib.hid hs.len
  have b0 := bel_alloc (bel_alloc (Below.refl _ w) (.cells #[.int .i64 now, .slice A n c] 50)) (.cells #[.int .i64 now2, .slice B m d] 50)
  have hnn : (now != now2) = !(now == now2) := rfl
  cases h : (now == now2)
  · rw [h] at hnn
    simp only [Bool.not_false] at hnn
    have HF := Lib.hid (WorkEq_now (l := l) (m := p) h)
    go_enter Try.func45, Try.ntmps45
    go_wp2
    go_ret
    exact ⟨retBool HF.out.symm, b0⟩
  rw [h] at hnn
  simp only [Bool.not_true] at hnn
  have HF := Lib.hid (WorkEq_same (l := l) (m := p) h)
  by_cases hnm : n = m
  · subst hnm
    have hne : ((n : Int) != (n : Int)) = false := by simp
    obtain ⟨p0, p1⟩ := cell_new2Work w (.int .i64 now) (.slice A n c) 50
    obtain ⟨p2, p3⟩ := cell_new2Work (w.alloc (.cells #[.int .i64 now, .slice A n c] 50)) (.int .i64 now2) (.slice B n d) 50
    rw [World.size_alloc] at p2 p3
    have p4 := ((bel_alloc (Below.refl _ (w.alloc (.cells #[.int .i64 now, .slice A n c] 50))) (.cells #[.int .i64 now2, .slice B n d] 50)).cell (p := ⟨w.heap.size, 1, none⟩) (by simp)).trans p1
    generalize hw2 : (w.alloc (.cells #[.int .i64 now, .slice A n c] 50)).alloc (.cells #[.int .i64 now2, .slice B n d] 50) = w2 at *
    have hz2 : w.heap.size + 1 < w2.heap.size := by rw [← hw2]; simp
    have HW2 := Lib.hid hw2
    clear hw2
    go_enter Try.func45, Try.ntmps45
    go_wp2
    rw [HW2.out]
    go_loopw [5] (fun i wr => ∃ k : Nat, k ≤ n ∧ i = .int .i64 k ∧ EqToWrite l p k ∧ Below w2.heap.size w2 wr) (fun i _ => n - (intOf i).toNat)
    case atStart => exact ⟨0, by omega, rfl, EqToWrite.zero l p, Below.refl _ _⟩
    case round =>
      obtain ⟨k, hkn, rfl, heq, hbel2⟩ := hrel
      have hbel := bel_trans b0 hbel2
      have k1 := (hbel2.cell (p := ⟨w.heap.size, 1, none⟩) (by simp only; omega)).trans p4
      have k2 := (hbel2.cell (p := ⟨w.heap.size + 1, 1, none⟩) hz2).trans p3
      by_cases hlt : k < n
      · obtain ⟨b, off, rfl, hb⟩ := hr.spot (by omega)
        obtain ⟨b2, off2, rfl, hb2⟩ := hs.spot (by omega)
        obtain ⟨f0, f1, f2, hrow, ha0, ha1, ha2⟩ := atWrite (hr.keep hbel) hlt
        obtain ⟨g0, g1, g2, hrow2, hz0, hz1, hz2⟩ := atWrite (hs.keep hbel) hlt
        have HR := Lib.hid hrow
        have HR2 := Lib.hid hrow2
        clear hrow hrow2
        have i0 : (0 : Int) ≤ (k : Int) := by omega
        have i1 : (k : Int) < (n : Int) := by omega
        cases he : eqWriteB (f0, f1, f2) (g0, g1, g2)
        all_goals
          have q1 := neqWrite f0 f1 f2 g0 g1 g2
          have q2 := guardWrite
          rw [he] at q1
          have HE := Lib.hid he
          clear he
          go_wp2_with fail
          go_quiet (fail)
          go_wp2
        · go_ret
          exact ⟨retBool (by rw [HF.out]; exact (writeSEq_at HR.out HR2.out HE.out).symm), bel_drewN hbel _⟩
        · go_roundw
          case rel => exact ⟨k + 1, by omega, by go_num, heq.step HR.out HR2.out HE.out, bel_drewN hbel2 _⟩
          case measure => simp [intOf]; omega
      · go_wp2
        go_ret
        exact ⟨retBool (by rw [HF.out]; exact (heq.all (by rw [HL.out]; omega) (by rw [HP.out]; omega)).symm), hbel⟩
  · have hf : writeSEq l p = false := writeSEq_len (by rw [HL.out, HP.out]; exact hnm)
    have HF2 := Lib.hid hf
    clear hf
    have hne : ((n : Int) != (m : Int)) = true := by simp; omega
    clear hnm
    go_enter Try.func45, Try.ntmps45
    go_wp2
    go_ret
    exact ⟨retBool (by rw [HF.out, HF2.out]), b0⟩
end Go.Proofs.Ytpmeaikiaoojkaa
