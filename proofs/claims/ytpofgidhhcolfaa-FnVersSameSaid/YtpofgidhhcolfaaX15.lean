/- Contract: DrawWritesOk. -/
import Derived.Test.YtpofgidhhcolfaaX10
namespace Go.Proofs.Ytpofgidhhcolfaa
open Go.RowKit

def DrawWPost (w : World) (e : Ending) (w' : World) : Prop :=
  ∃ (B : Option Addr) (cb : Nat) (lw : List Write), e = .returned (.slice B lw.length cb) ∧ Own encWrite 3 73 w' w.heap.size (.slice B lw.length cb) lw ∧ lw.length ≤ 7 ∧ SmallW lw ∧ Below w.heap.size w w'
def xyzL : List ByteArray := [⟨#[120]⟩, ⟨#[121]⟩, ⟨#[122]⟩]
theorem zadd_small {s : ByteArray} (h : s.size ≤ 1) : ((⟨#[122]⟩ : ByteArray) ++ s).size ≤ 3 := by
  have h1 : (⟨#[122]⟩ : ByteArray).size = 1 := rfl
  rw [ByteArray.size_append, h1]; omega
theorem xyz_small : ∀ s ∈ xyzL, s.size ≤ 1 := by decide
def lenV : Value → Nat
  | .slice _ n _ => n
  | _ => 0
def DwRel (w : World) (A : Option Addr) (m c : Nat) (l : List UInt8) (v4 : Value) (wr : World) : Prop :=
  ∃ (B : Option Addr) (cb : Nat) (lw : List Write) (p' : Nat), v4 = .slice B lw.length cb ∧ Own encWrite 3 73 wr (w.heap.size + 1) (.slice B lw.length cb) lw ∧ lw.length ≤ 7 ∧ SmallW lw ∧ p' ≤ 200 + lw.length ∧ Rd wr w.heap.size p' A m c l ∧ Below w.heap.size w wr
theorem SmallW.set {l : List Write} (h : SmallW l) {x : Write} (hx : x.1.size ≤ 3) (k : Nat) : SmallW (l.set k x) := fun y hy => by
  rcases List.mem_or_eq_of_mem_set hy with h1 | h1
  · exact h y h1
  · rw [h1]; exact hx
set_option maxHeartbeats 4000000 in
set_option maxRecDepth 100000 in
theorem drawWritesOk (A : Option Addr) (n c : Nat) (l : List UInt8) (w : World) (hr : Sl encB w w.heap.size A n l) (hn : n ≤ 1048576) (hc : n ≤ c) :
    Calls Try.prog 59 #[.slice A n c] w (DrawWPost w) := by
  obtain ⟨i0, hi0, hz0, hz1, hz2'⟩ := info_parts info73
  have HN := Lib.hid hn
  have HC := Lib.hid hc
  clear hn hc
  go_enter Try.func59, Try.ntmps59
  go_wp2_with fail
  refine (l11Open A n c l w hr HN.out HC.out).mono ?_
  rintro e w1 ⟨A1, m, c1, l1, rfl, r1, b1⟩
  have hg : w.heap.size < w.heap.size + 1 := Nat.lt_succ_self _
  have hw1 : w.heap.size ≤ w.heap.size + 1 := Nat.le_succ _
  have hr1lt := r1.lt
  go_wp2_with fail
  refine (l1Rows w.heap.size 0 A1 m c1 l1 w1 r1 (by omega)).mono ?_
  rintro e w2 ⟨v2, lr, p2, rfl, o2, hP2, hp2, r2, t2⟩
  obtain ⟨D2, c2, rfl, -, -⟩ := o2.form
  have b2 := Rd.bel b1 t2 (Nat.le_refl _)
  have hlr : lr.length ≤ 1000 := by have := hP2.1; omega
  have hks : ∀ r ∈ lr, r.1.size ≤ 3 := fun r hr => by have := hP2.small r hr; omega
  have hz12' := t2.size
  clear r1 b1 t2 hP2
  go_wp2_with fail
  refine (l2Writes w.heap.size p2 A1 m c1 l1 D2 lr.length c2 lr w2 r2 (by omega) o2.sl hlr (fun x hx => by have := (o2.block hx).1; omega) hks).mono ?_
  rintro e w3 ⟨B, cb, lw, p3, rfl, o3, hlen3, hSm, hp3, r3, t3⟩
  have b3 := Rd.bel b2 t3 (Nat.le_refl _)
  have hlen : lw.length ≤ 7 := by omega
  have hz12 : w.heap.size + 1 ≤ w2.heap.size := by omega
  replace o3 := o3.lower (base' := w.heap.size + 1) hz12
  have hp1 : p3 ≤ 100 := by omega
  clear o2 hlr hks b2 r2 t3 hp2 hp3 hlen3
  go_wp2_with fail
  · rename_i hnp0
    refine (pick w.heap.size p3 10 A1 m c1 l1 w3 r3 (by omega) (by omega) (by omega)).mono ?_
    rintro e w4 ⟨v4, rfl, hv4, r4, t4⟩
    have o4 := o3.farRd t4 hg
    have b4 := Rd.bel b3 t4 (Nat.le_refl _)
    clear o3 b3 r3 t4
    by_cases hv0 : v4 = 0
    · subst hv0
      go_wp2_with fail
      refine (pick w.heap.size (p3 + 1) lw.length A1 m c1 l1 w4 r4 (by omega) (by omega) (by omega)).mono ?_
      rintro e w5 ⟨j, rfl, hj, r5, t5⟩
      have o5 := o4.farRd t5 hg
      have b5 := Rd.bel b4 t5 (Nat.le_refl _)
      obtain ⟨d, rfl⟩ := o5.zero hj
      obtain ⟨f0, f1, f2, hx, e0, e1, e2⟩ := atWrite o5.sl hj
      simp only [Nat.zero_add] at e0 e1 e2
      have hk3 : f0.size ≤ 3 := hSm.mem hx
      have fr := o5.free (j * 3 + 2)
      have j0 : (0 : Int) ≤ (j : Int) := by omega
      have j1 : (j : Int) < (lw.length : Int) := by omega
      have o6 := o5.set1 encWrite_len j 2 (f0, f1, f2) (f0, f1, true) (.bool true) hx (by omega) rfl
      have hd0 := (o5.block rfl).1
      have hgd : w.heap.size < d := by simp only at hd0; omega
      have r6 := r5.setB (j * 3 + 2) (.bool true) hgd
      have b6 := bel_set b5 (p := ⟨d, j * 3 + 2, none⟩) (by simp only; omega) (.bool true)
      have HX := Lib.hid hx
      have HO6 := Lib.hid o6
      have HR6 := Lib.hid r6
      have HB6 := Lib.hid b6
      clear hx o4 o5 b4 b5 r4 r5 t5 o6 r6 b6
      go_wp2_with fail
      have o4 := HO6.out
      have r4 := HR6.out
      have b4 := HB6.out
      have hlen6 : (lw.set j (f0, f1, true)).length = lw.length := List.length_set
      have hSm6 := hSm.set (x := (f0, f1, true)) hk3 j
      rw [← hlen6] at hlen
      clear HO6 HR6 HB6 e0 e1 e2 fr HX hSm
      have hSm := hSm6
      rw [← hlen6] at o4 ⊢
      clear hlen6 hSm6 j1 hj
      generalize w5.setCell ⟨d, j * 3 + 2, none⟩ (.bool true) = wx at *
      generalize lw.set j (f0, f1, true) = lw' at *
      obtain ⟨p4, hp4⟩ : ∃ p4, p3 + 1 + 1 = p4 := ⟨_, rfl⟩
      rw [hp4] at r4
      replace hp1 : p4 ≤ 150 := by omega
      clear hp4
      have HN1 := Lib.hid hlen
      have HP1 := Lib.hid hp1
      have HSM := Lib.hid hSm
      clear hlen hp1 hSm
      refine (pick w.heap.size p4 20 A1 m c1 l1 wx r4 (by omega) (by omega) (by have := HP1.out; omega)).mono ?_
      rintro e w7 ⟨v7, rfl, hv7, r7, t7⟩
      have o7 := o4.farRd t7 hg
      have b7 := Rd.bel b4 t7 (Nat.le_refl _)
      clear o4 b4 r4 t7
      by_cases hv0 : v7 = 0
      · subst hv0
        go_wp2_with fail
        go_loopw [4] (DwRel w A1 m c1 l1) (fun v4 _ => 8 - lenV v4)
        case atStart => exact ⟨_, _, _, p4 + 1, rfl, o7, by have := HN1.out; omega, HSM.out, by have := HP1.out; omega, r7, b7⟩
        case round =>
          clear o7 b7 r7 HN1 HP1 HSM
          obtain ⟨B, cb, lw, p', rfl, ho, hle, hSm, hp', hr, hb⟩ := hrel
          have HP := Lib.hid hp'
          clear hp'
          by_cases hlt : lw.length ≤ 6
          · have hlt' : (lw.length : Int) ≤ 6 := by omega
            go_wp2_with fail
            have hgr := hr.lt
            refine (ofC w.heap.size p' 3 3 wr.heap.size 0 A1 m c1 l1 xyzL _ (hr.on (bel_alloc (Below.refl _ wr) (.cells #[.string ⟨#[120]⟩, .string ⟨#[121]⟩, .string ⟨#[122]⟩] 9))) (by have := HP.out; omega) (Sl.lit wr #[.string ⟨#[120]⟩, .string ⟨#[121]⟩, .string ⟨#[122]⟩] 9 xyzL rfl 3 rfl) (by omega) (by omega) (by omega)).mono ?_
            rintro e w9 ⟨s, rfl, hs, r9, t9⟩
            have hss : s.size ≤ 1 := xyz_small s hs
            have o9 := (ho.alloc (.cells #[.string ⟨#[120]⟩, .string ⟨#[121]⟩, .string ⟨#[122]⟩] 9)).farRd t9 hg
            have b9 := Rd.bel (bel_alloc hb (.cells #[.string ⟨#[120]⟩, .string ⟨#[121]⟩, .string ⟨#[122]⟩] 9)) t9 (Nat.le_refl _)
            have hadd : ∀ W : World, (Op.stringOp .add (⟨#[122]⟩ : ByteArray) s).run Try.prog W = .ok (.string ((⟨#[122]⟩ : ByteArray) ++ s)) W := fun W => run_string_add (w := W) (P := Try.prog) _ _ (by have h1 : (⟨#[122]⟩ : ByteArray).size = 1 := rfl; omega) (by omega)
            have hz2 : ((⟨#[122]⟩ : ByteArray) ++ s).size ≤ 3 := zadd_small hss
            clear ho hb hr hs
            obtain ⟨ks, hks⟩ : ∃ ks, (⟨#[122]⟩ : ByteArray) ++ s = ks := ⟨_, rfl⟩
            rw [hks] at hadd hz2
            clear hks
            have ls := Sl.lit1 (enc := encWrite) w9 #[.string ks, .int .i64 0, .bool false] 73 (ks, 0, false) rfl
            have oa := o9.alloc (.cells #[.string ks, .int .i64 0, .bool false] 73)
            go_wp2_with (at_builtin; refine wpList_append_sl _ rfl _ _ 27 rfl (w.heap.size + 1) 73 i0 _ 3 32 Try.underlying27 hi0 hz0 hz1 hz2' rfl (by decide) encWrite_len encWrite_one _ lw rfl oa _ (some ⟨w9.heap.size, 0, none⟩) 1 1 [(ks, 0, false)] rfl ls (by unfold maxLen; omega) (by omega) (by have := r9.lt; rw [World.size_alloc]; omega) ?_; intro v10 w10 o10 g10)
            obtain ⟨A10, c10, rfl, -, -⟩ := o10.form
            have hbl := bel_alloc (Below.refl _ w9) (.cells #[.string ks, .int .i64 0, .bool false] 73)
            have r10 := (r9.on hbl).grown g10 (fun k hk => by have := (World.ownsRow.lt o9 k hk).1; omega)
            have b10 := bel_grown (bel_alloc b9 (.cells #[.string ks, .int .i64 0, .bool false] 73)) g10 (fun k hk => by have := (World.ownsRow.lt o9 k hk).1; omega)
            go_roundw
            case rel => exact ⟨A10, c10, _, p' + 1, rfl, o10, by simp; omega, hSm.app (SmallW.one hz2), by have := HP.out; simp; omega, r10, b10⟩
            case measure => simp [lenV]; omega
          · go_wp2_with fail
            go_ret
            exact ⟨B, cb, lw, rfl, ho.lower hw1, hle, hSm, hb⟩
      · have hv1 : ((v7 : Int) == 0) = false := by simp; omega
        go_wp2_with fail
        go_ret
        exact ⟨_, _, _, rfl, o7.lower hw1, by have := HN1.out; omega, HSM.out, b7⟩
    · have hv1 : ((v4 : Int) == 0) = false := by simp; omega
      go_wp2_with fail
      obtain ⟨p4, hp4⟩ : ∃ p4, p3 + 1 = p4 := ⟨_, rfl⟩
      rw [hp4] at r4
      replace hp1 : p4 ≤ 150 := by omega
      clear hp4 hv1
      have HN1 := Lib.hid hlen
      have HP1 := Lib.hid hp1
      have HSM := Lib.hid hSm
      clear hlen hp1 hSm
      refine (pick w.heap.size p4 20 A1 m c1 l1 w4 r4 (by omega) (by omega) (by have := HP1.out; omega)).mono ?_
      rintro e w7 ⟨v7, rfl, hv7, r7, t7⟩
      have o7 := o4.farRd t7 hg
      have b7 := Rd.bel b4 t7 (Nat.le_refl _)
      clear o4 b4 r4 t7
      by_cases hv0 : v7 = 0
      · subst hv0
        go_wp2_with fail
        go_loopw [4] (DwRel w A1 m c1 l1) (fun v4 _ => 8 - lenV v4)
        case atStart => exact ⟨_, _, _, p4 + 1, rfl, o7, by have := HN1.out; omega, HSM.out, by have := HP1.out; omega, r7, b7⟩
        case round =>
          clear o7 b7 r7 HN1 HP1 HSM
          obtain ⟨B, cb, lw, p', rfl, ho, hle, hSm, hp', hr, hb⟩ := hrel
          have HP := Lib.hid hp'
          clear hp'
          by_cases hlt : lw.length ≤ 6
          · have hlt' : (lw.length : Int) ≤ 6 := by omega
            go_wp2_with fail
            have hgr := hr.lt
            refine (ofC w.heap.size p' 3 3 wr.heap.size 0 A1 m c1 l1 xyzL _ (hr.on (bel_alloc (Below.refl _ wr) (.cells #[.string ⟨#[120]⟩, .string ⟨#[121]⟩, .string ⟨#[122]⟩] 9))) (by have := HP.out; omega) (Sl.lit wr #[.string ⟨#[120]⟩, .string ⟨#[121]⟩, .string ⟨#[122]⟩] 9 xyzL rfl 3 rfl) (by omega) (by omega) (by omega)).mono ?_
            rintro e w9 ⟨s, rfl, hs, r9, t9⟩
            have hss : s.size ≤ 1 := xyz_small s hs
            have o9 := (ho.alloc (.cells #[.string ⟨#[120]⟩, .string ⟨#[121]⟩, .string ⟨#[122]⟩] 9)).farRd t9 hg
            have b9 := Rd.bel (bel_alloc hb (.cells #[.string ⟨#[120]⟩, .string ⟨#[121]⟩, .string ⟨#[122]⟩] 9)) t9 (Nat.le_refl _)
            have hadd : ∀ W : World, (Op.stringOp .add (⟨#[122]⟩ : ByteArray) s).run Try.prog W = .ok (.string ((⟨#[122]⟩ : ByteArray) ++ s)) W := fun W => run_string_add (w := W) (P := Try.prog) _ _ (by have h1 : (⟨#[122]⟩ : ByteArray).size = 1 := rfl; omega) (by omega)
            have hz2 : ((⟨#[122]⟩ : ByteArray) ++ s).size ≤ 3 := zadd_small hss
            clear ho hb hr hs
            obtain ⟨ks, hks⟩ : ∃ ks, (⟨#[122]⟩ : ByteArray) ++ s = ks := ⟨_, rfl⟩
            rw [hks] at hadd hz2
            clear hks
            have ls := Sl.lit1 (enc := encWrite) w9 #[.string ks, .int .i64 0, .bool false] 73 (ks, 0, false) rfl
            have oa := o9.alloc (.cells #[.string ks, .int .i64 0, .bool false] 73)
            go_wp2_with (at_builtin; refine wpList_append_sl _ rfl _ _ 27 rfl (w.heap.size + 1) 73 i0 _ 3 32 Try.underlying27 hi0 hz0 hz1 hz2' rfl (by decide) encWrite_len encWrite_one _ lw rfl oa _ (some ⟨w9.heap.size, 0, none⟩) 1 1 [(ks, 0, false)] rfl ls (by unfold maxLen; omega) (by omega) (by have := r9.lt; rw [World.size_alloc]; omega) ?_; intro v10 w10 o10 g10)
            obtain ⟨A10, c10, rfl, -, -⟩ := o10.form
            have hbl := bel_alloc (Below.refl _ w9) (.cells #[.string ks, .int .i64 0, .bool false] 73)
            have r10 := (r9.on hbl).grown g10 (fun k hk => by have := (World.ownsRow.lt o9 k hk).1; omega)
            have b10 := bel_grown (bel_alloc b9 (.cells #[.string ks, .int .i64 0, .bool false] 73)) g10 (fun k hk => by have := (World.ownsRow.lt o9 k hk).1; omega)
            go_roundw
            case rel => exact ⟨A10, c10, _, p' + 1, rfl, o10, by simp; omega, hSm.app (SmallW.one hz2), by have := HP.out; simp; omega, r10, b10⟩
            case measure => simp [lenV]; omega
          · go_wp2_with fail
            go_ret
            exact ⟨B, cb, lw, rfl, ho.lower hw1, hle, hSm, hb⟩
      · have hv1 : ((v7 : Int) == 0) = false := by simp; omega
        go_wp2_with fail
        go_ret
        exact ⟨_, _, _, rfl, o7.lower hw1, by have := HN1.out; omega, HSM.out, b7⟩
  · have o4 := o3
    have b4 := b3
    have r4 := r3
    clear o3 b3 r3
    obtain ⟨p4, hp4⟩ : ∃ p4, p3 = p4 := ⟨_, rfl⟩
    rw [hp4] at r4
    replace hp1 : p4 ≤ 150 := by omega
    clear hp4
    have HN1 := Lib.hid hlen
    have HP1 := Lib.hid hp1
    have HSM := Lib.hid hSm
    clear hlen hp1 hSm
    refine (pick w.heap.size p4 20 A1 m c1 l1 w3 r4 (by omega) (by omega) (by have := HP1.out; omega)).mono ?_
    rintro e w7 ⟨v7, rfl, hv7, r7, t7⟩
    have o7 := o4.farRd t7 hg
    have b7 := Rd.bel b4 t7 (Nat.le_refl _)
    clear o4 b4 r4 t7
    by_cases hv0 : v7 = 0
    · subst hv0
      go_wp2_with fail
      go_loopw [4] (DwRel w A1 m c1 l1) (fun v4 _ => 8 - lenV v4)
      case atStart => exact ⟨_, _, _, p4 + 1, rfl, o7, by have := HN1.out; omega, HSM.out, by have := HP1.out; omega, r7, b7⟩
      case round =>
        clear o7 b7 r7 HN1 HP1 HSM
        obtain ⟨B, cb, lw, p', rfl, ho, hle, hSm, hp', hr, hb⟩ := hrel
        have HP := Lib.hid hp'
        clear hp'
        by_cases hlt : lw.length ≤ 6
        · have hlt' : (lw.length : Int) ≤ 6 := by omega
          go_wp2_with fail
          have hgr := hr.lt
          refine (ofC w.heap.size p' 3 3 wr.heap.size 0 A1 m c1 l1 xyzL _ (hr.on (bel_alloc (Below.refl _ wr) (.cells #[.string ⟨#[120]⟩, .string ⟨#[121]⟩, .string ⟨#[122]⟩] 9))) (by have := HP.out; omega) (Sl.lit wr #[.string ⟨#[120]⟩, .string ⟨#[121]⟩, .string ⟨#[122]⟩] 9 xyzL rfl 3 rfl) (by omega) (by omega) (by omega)).mono ?_
          rintro e w9 ⟨s, rfl, hs, r9, t9⟩
          have hss : s.size ≤ 1 := xyz_small s hs
          have o9 := (ho.alloc (.cells #[.string ⟨#[120]⟩, .string ⟨#[121]⟩, .string ⟨#[122]⟩] 9)).farRd t9 hg
          have b9 := Rd.bel (bel_alloc hb (.cells #[.string ⟨#[120]⟩, .string ⟨#[121]⟩, .string ⟨#[122]⟩] 9)) t9 (Nat.le_refl _)
          have hadd : ∀ W : World, (Op.stringOp .add (⟨#[122]⟩ : ByteArray) s).run Try.prog W = .ok (.string ((⟨#[122]⟩ : ByteArray) ++ s)) W := fun W => run_string_add (w := W) (P := Try.prog) _ _ (by have h1 : (⟨#[122]⟩ : ByteArray).size = 1 := rfl; omega) (by omega)
          have hz2 : ((⟨#[122]⟩ : ByteArray) ++ s).size ≤ 3 := zadd_small hss
          clear ho hb hr hs
          obtain ⟨ks, hks⟩ : ∃ ks, (⟨#[122]⟩ : ByteArray) ++ s = ks := ⟨_, rfl⟩
          rw [hks] at hadd hz2
          clear hks
          have ls := Sl.lit1 (enc := encWrite) w9 #[.string ks, .int .i64 0, .bool false] 73 (ks, 0, false) rfl
          have oa := o9.alloc (.cells #[.string ks, .int .i64 0, .bool false] 73)
          go_wp2_with (at_builtin; refine wpList_append_sl _ rfl _ _ 27 rfl (w.heap.size + 1) 73 i0 _ 3 32 Try.underlying27 hi0 hz0 hz1 hz2' rfl (by decide) encWrite_len encWrite_one _ lw rfl oa _ (some ⟨w9.heap.size, 0, none⟩) 1 1 [(ks, 0, false)] rfl ls (by unfold maxLen; omega) (by omega) (by have := r9.lt; rw [World.size_alloc]; omega) ?_; intro v10 w10 o10 g10)
          obtain ⟨A10, c10, rfl, -, -⟩ := o10.form
          have hbl := bel_alloc (Below.refl _ w9) (.cells #[.string ks, .int .i64 0, .bool false] 73)
          have r10 := (r9.on hbl).grown g10 (fun k hk => by have := (World.ownsRow.lt o9 k hk).1; omega)
          have b10 := bel_grown (bel_alloc b9 (.cells #[.string ks, .int .i64 0, .bool false] 73)) g10 (fun k hk => by have := (World.ownsRow.lt o9 k hk).1; omega)
          go_roundw
          case rel => exact ⟨A10, c10, _, p' + 1, rfl, o10, by simp; omega, hSm.app (SmallW.one hz2), by have := HP.out; simp; omega, r10, b10⟩
          case measure => simp [lenV]; omega
        · go_wp2_with fail
          go_ret
          exact ⟨B, cb, lw, rfl, ho.lower hw1, hle, hSm, hb⟩
    · have hv1 : ((v7 : Int) == 0) = false := by simp; omega
      go_wp2_with fail
      go_ret
      exact ⟨_, _, _, rfl, o7.lower hw1, by have := HN1.out; omega, HSM.out, b7⟩
end Go.Proofs.Ytpofgidhhcolfaa
