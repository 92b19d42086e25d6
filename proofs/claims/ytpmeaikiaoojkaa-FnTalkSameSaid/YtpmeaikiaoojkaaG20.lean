/- FnTalkSame: contracts of what it reaches (TK1 Z31 Facts EG E7). No condition. -/
import Derived.Test.YtpmeaikiaoojkaaG19
import Derived.ProofKit
import Derived.OpenShut
import Derived.ShutString
import Derived.ChangeOld
import Derived.Deep.Slices
import Derived.Deep.Fields
import Derived.ChangeSame
import Derived.Lib.SmallJoins
namespace Go.Proofs.Ytpmeaikiaoojkaa
open Go.RowKit

def TalkEq (on1 bad1 : Bool) (at1 : Int) (l1 : List Write) (g1 : List Named) (sk1 go1 : Bool) (in1 : ByteArray) (on2 bad2 : Bool) (at2 : Int) (l2 : List Write) (g2 : List Named) (sk2 go2 : Bool) (in2 : ByteArray) : Bool :=
  SeatEq on1 bad1 at1 l1 on2 bad2 at2 l2 && (namedSEq g1 g2 && ((sk1 == sk2) && ((go1 == go2) && (in1.toList == in2.toList))))
theorem TalkEq_self (on1 bad1 : Bool) (at1 : Int) (l1 : List Write) (g1 : List Named) (sk1 go1 : Bool) (in1 : ByteArray) : TalkEq on1 bad1 at1 l1 g1 sk1 go1 in1 on1 bad1 at1 l1 g1 sk1 go1 in1 = true := by simp [TalkEq, SeatEq_self, namedSEq_self]
theorem TalkEq_comm (on1 bad1 : Bool) (at1 : Int) (l1 : List Write) (g1 : List Named) (sk1 go1 : Bool) (in1 : ByteArray) (on2 bad2 : Bool) (at2 : Int) (l2 : List Write) (g2 : List Named) (sk2 go2 : Bool) (in2 : ByteArray) : TalkEq on1 bad1 at1 l1 g1 sk1 go1 in1 on2 bad2 at2 l2 g2 sk2 go2 in2 = TalkEq on2 bad2 at2 l2 g2 sk2 go2 in2 on1 bad1 at1 l1 g1 sk1 go1 in1 := by
  unfold TalkEq
  rw [SeatEq_comm on1 bad1 at1 l1 on2 bad2 at2 l2, show namedSEq g1 g2 = namedSEq g2 g1 from decide_eq_decide.2 eq_comm, show (in1.toList == in2.toList) = (in2.toList == in1.toList) from Bool.beq_comm]; cases sk1 <;> cases sk2 <;> cases go1 <;> cases go2 <;> rfl
set_option maxRecDepth 100000 in
set_option maxHeartbeats 4000000 in
theorem equalNamed (G1 G2 : Option Addr) (k1 k2 d1 d2 : Nat) (g1 g2 : List Named) (w : World) (hg : Sl encNamed w w.heap.size G1 k1 g1) (hh : Sl encNamed w w.heap.size G2 k2 g2) (hn : k1 ≤ 1048576) :
    Calls Try.prog 55 #[.slice G1 k1 d1, .slice G2 k2 d2] w fun e w' => e = .returned (.bool (namedSEq g1 g2)) ∧ Below w.heap.size w w' := by
  have HL := Lib.hid hg.len; have HP := Lib.hid hh.len
  by_cases hnm : k1 = k2
  · subst hnm; have hne : ((k1 : Int) != (k1 : Int)) = false := by simp
    go_enter Try.func55, Try.ntmps55; go_wp2
    go_loopw [5, 13] (fun _ i wr => ∃ k : Nat, k ≤ k1 ∧ i = .int .i64 k ∧ EqToNamed g1 g2 k ∧ Below w.heap.size w wr) (fun _ i _ => k1 - (intOf i).toNat)
    case atStart => exact ⟨0, by omega, rfl, EqToNamed.zero g1 g2, Below.refl _ _⟩
    case round =>
      obtain ⟨k, hkn, rfl, heq, hbel⟩ := hrel
      by_cases hlt : k < k1
      · obtain ⟨b, off, rfl, hb⟩ := hg.spot (by omega); obtain ⟨b2, off2, rfl, hz2⟩ := hh.spot (by omega); obtain ⟨f0, f1, f2, f3, f4, hrow, ha0, ha1, ha2, ha3, ha4⟩ := atNamed (hg.keep hbel) hlt; obtain ⟨y0, y1, y2, y3, y4, hrow2, hb0, hb1, hb2, hb3, hb4⟩ := atNamed (hh.keep hbel) hlt; have HR := Lib.hid hrow; have HR2 := Lib.hid hrow2; clear hrow hrow2; have i0 : (0 : Int) ≤ (k : Int) := by omega
        have i1 : (k : Int) < (k1 : Int) := by omega
        cases he : eqNamedB (f0, f1, f2, f3, f4) (y0, y1, y2, y3, y4)
        all_goals
          have q1 := neqNamed f0 f1 f2 f3 f4 y0 y1 y2 y3 y4; have q2 := guardNamed; rw [he] at q1; have HE := Lib.hid he; clear he; go_wp2_with fail
          go_quiet (fail)
          go_wp2
        · go_ret
          exact ⟨retBool (namedSEq_at HR.out HR2.out HE.out).symm, bel_drewN hbel _⟩
        · go_roundw
          case rel => exact ⟨k + 1, by omega, by go_num, heq.step HR.out HR2.out HE.out, bel_drewN hbel _⟩
          case measure => simp [intOf]; omega
      · go_wp2
        go_ret
        exact ⟨retBool (heq.all (by rw [HL.out]; omega) (by rw [HP.out]; omega)).symm, hbel⟩
  · have hf : namedSEq g1 g2 = false := namedSEq_len (by rw [HL.out, HP.out]; exact hnm); have HF := Lib.hid hf; clear hf; have hne : ((k1 : Int) != (k2 : Int)) = true := by simp; omega
    clear hnm; go_enter Try.func55, Try.ntmps55; go_wp2
    go_ret
    exact ⟨retBool HF.out.symm, Below.refl _ _⟩
set_option maxHeartbeats 4000000 in
set_option maxRecDepth 100000 in
theorem implTalkSame (on1 bad1 : Bool) (at1 : Int) (A1 : Option Addr) (n1 c1 : Nat) (l1 : List Write) (G1 : Option Addr) (k1 d1 : Nat) (g1 : List Named) (sk1 go1 : Bool) (in1 : ByteArray) (on2 bad2 : Bool) (at2 : Int) (A2 : Option Addr) (n2 c2 : Nat) (l2 : List Write) (G2 : Option Addr) (k2 d2 : Nat) (g2 : List Named) (sk2 go2 : Bool) (in2 : ByteArray) (w : World) (hr : Sl encWrite w w.heap.size A1 n1 l1) (hs : Sl encWrite w w.heap.size A2 n2 l2) (hn : n1 ≤ 1048576) (hg : Sl encNamed w w.heap.size G1 k1 g1) (hh : Sl encNamed w w.heap.size G2 k2 g2) (hk : k1 ≤ 1048576) :
    Calls Try.prog 29 #[.agg #[.bool on1, .bool bad1, .int .i64 at1, .slice A1 n1 c1, .slice G1 k1 d1, .bool sk1, .bool go1, .string in1], .agg #[.bool on2, .bool bad2, .int .i64 at2, .slice A2 n2 c2, .slice G2 k2 d2, .bool sk2, .bool go2, .string in2]] w fun e w' => e = .returned (.bool (TalkEq on1 bad1 at1 l1 g1 sk1 go1 in1 on2 bad2 at2 l2 g2 sk2 go2 in2)) ∧ Below w.heap.size w w' := by
  have HN := Lib.hid hn; have HK := Lib.hid hk; clear hn hk; have b0 := bel_alloc (bel_alloc (Below.refl _ w) (.cells #[.bool on1, .bool bad1, .int .i64 at1, .slice A1 n1 c1, .slice G1 k1 d1, .bool sk1, .bool go1, .string in1] 57)) (.cells #[.bool on2, .bool bad2, .int .i64 at2, .slice A2 n2 c2, .slice G2 k2 d2, .bool sk2, .bool go2, .string in2] 57); have x1 := (BoxC.new w 57 #[.bool on1, .bool bad1, .int .i64 at1, .slice A1 n1 c1, .slice G1 k1 d1, .bool sk1, .bool go1, .string in1]).alloc (.cells #[.bool on2, .bool bad2, .int .i64 at2, .slice A2 n2 c2, .slice G2 k2 d2, .bool sk2, .bool go2, .string in2] 57); have x2 := BoxC.new (w.alloc (.cells #[.bool on1, .bool bad1, .int .i64 at1, .slice A1 n1 c1, .slice G1 k1 d1, .bool sk1, .bool go1, .string in1] 57)) 57 #[.bool on2, .bool bad2, .int .i64 at2, .slice A2 n2 c2, .slice G2 k2 d2, .bool sk2, .bool go2, .string in2]; simp only [World.size_alloc] at x2
  have a0 := x1.c (k := 0) rfl; have z0 := x2.c (k := 0) rfl; have a1 := x1.c (k := 1) rfl; have z1 := x2.c (k := 1) rfl; have a2 := x1.c (k := 2) rfl; have z2 := x2.c (k := 2) rfl; have a3 := x1.c (k := 3) rfl; have z3 := x2.c (k := 3) rfl; have a4 := x1.c (k := 4) rfl; have z4 := x2.c (k := 4) rfl; have a5 := x1.c (k := 5) rfl; have z5 := x2.c (k := 5) rfl; have a6 := x1.c (k := 6) rfl; have z6 := x2.c (k := 6) rfl; have a7 := x1.c (k := 7) rfl; have z7 := x2.c (k := 7) rfl; have C := Lib.hid (fun W hW => implSeatSame on1 bad1 at1 A1 n1 c1 l1 on2 bad2 at2 A2 n2 c2 l2 W (hr.on (hW : Below w.heap.size w W)) (hs.on hW) HN.out); have C2 := Lib.hid (fun W hW => equalNamed G1 G2 k1 k2 d1 d2 g1 g2 W (hg.on (hW : Below w.heap.size w W)) (hh.on hW) HK.out); clear hr hs hg hh; obtain ⟨r, hr⟩ : ∃ r, SeatEq on1 bad1 at1 l1 on2 bad2 at2 l2 = r := ⟨_, rfl⟩; obtain ⟨q, hq⟩ : ∃ q, namedSEq g1 g2 = q := ⟨_, rfl⟩; have HF := Lib.hid (show TalkEq on1 bad1 at1 l1 g1 sk1 go1 in1 on2 bad2 at2 l2 g2 sk2 go2 in2 = (SeatEq on1 bad1 at1 l1 on2 bad2 at2 l2 && (namedSEq g1 g2 && ((sk1 == sk2) && ((go1 == go2) && (in1.toList == in2.toList))))) from rfl); rw [hr] at C HF; rw [hq] at C2 HF; clear hr hq; go_enter Try.func29, Try.ntmps29; go_wp2_with fail; refine (C.out _ b0).mono ?_; rintro e w1 ⟨rfl, hb⟩; have b1 := bel_trans b0 hb; replace a0 := (x1.on hb).c (k := 0) rfl; replace z0 := (x2.on hb).c (k := 0) rfl; replace a1 := (x1.on hb).c (k := 1) rfl; replace z1 := (x2.on hb).c (k := 1) rfl; replace a2 := (x1.on hb).c (k := 2) rfl; replace z2 := (x2.on hb).c (k := 2) rfl; replace a3 := (x1.on hb).c (k := 3) rfl; replace z3 := (x2.on hb).c (k := 3) rfl; replace a4 := (x1.on hb).c (k := 4) rfl; replace z4 := (x2.on hb).c (k := 4) rfl; replace a5 := (x1.on hb).c (k := 5) rfl; replace z5 := (x2.on hb).c (k := 5) rfl; replace a6 := (x1.on hb).c (k := 6) rfl; replace z6 := (x2.on hb).c (k := 6) rfl; replace a7 := (x1.on hb).c (k := 7) rfl; replace z7 := (x2.on hb).c (k := 7) rfl; replace x1 := x1.on hb; replace x2 := x2.on hb; clear hb b0; cases r
  · rw [Bool.false_and] at HF; go_wp2_with fail; go_ret
    exact ⟨retBool HF.out.symm, b1⟩
  rw [Bool.true_and] at HF; go_wp2_with fail; refine (C2.out _ b1).mono ?_; rintro e w2 ⟨rfl, hb⟩; have b2 := bel_trans b1 hb; replace a0 := (x1.on hb).c (k := 0) rfl; replace z0 := (x2.on hb).c (k := 0) rfl; replace a1 := (x1.on hb).c (k := 1) rfl; replace z1 := (x2.on hb).c (k := 1) rfl; replace a2 := (x1.on hb).c (k := 2) rfl; replace z2 := (x2.on hb).c (k := 2) rfl; replace a3 := (x1.on hb).c (k := 3) rfl; replace z3 := (x2.on hb).c (k := 3) rfl; replace a4 := (x1.on hb).c (k := 4) rfl; replace z4 := (x2.on hb).c (k := 4) rfl; replace a5 := (x1.on hb).c (k := 5) rfl; replace z5 := (x2.on hb).c (k := 5) rfl; replace a6 := (x1.on hb).c (k := 6) rfl; replace z6 := (x2.on hb).c (k := 6) rfl; replace a7 := (x1.on hb).c (k := 7) rfl; replace z7 := (x2.on hb).c (k := 7) rfl; clear hb b1 x1 x2; cases q
  · rw [Bool.false_and] at HF; go_wp2_with fail; go_ret
    exact ⟨retBool HF.out.symm, b2⟩
  rw [Bool.true_and] at HF; cases h5 : (sk1 == sk2) <;> cases h6 : (go1 == go2) <;> cases h7 : (in1.toList == in2.toList)
  all_goals
    rw [h5, h6, h7] at HF; have q5 : (sk1 != sk2) = !(sk1 == sk2) := rfl; have q6 : (go1 != go2) = !(go1 == go2) := rfl; rw [h5] at q5; rw [h6] at q6; simp only [Bool.not_true, Bool.not_false] at q5 q6
    go_wp2
    go_ret
    exact ⟨retBool HF.out.symm, b2⟩
set_option maxHeartbeats 8000000 in
set_option maxRecDepth 100000 in
theorem specTalkSame (on1 bad1 : Bool) (at1 : Int) (A1 : Option Addr) (n1 c1 : Nat) (l1 : List Write) (G1 : Option Addr) (k1 d1 : Nat) (g1 : List Named) (sk1 go1 : Bool) (in1 : ByteArray) (on2 bad2 : Bool) (at2 : Int) (A2 : Option Addr) (n2 c2 : Nat) (l2 : List Write) (G2 : Option Addr) (k2 d2 : Nat) (g2 : List Named) (sk2 go2 : Bool) (in2 : ByteArray) (w : World) (hr : Sl encWrite w w.heap.size A1 n1 l1) (hs : Sl encWrite w w.heap.size A2 n2 l2) (hn : n1 ≤ 1048576) (hg : Sl encNamed w w.heap.size G1 k1 g1) (hh : Sl encNamed w w.heap.size G2 k2 g2) (hk : k1 ≤ 1048576) :
    Calls Try.prog 30 #[.agg #[.bool on1, .bool bad1, .int .i64 at1, .slice A1 n1 c1, .slice G1 k1 d1, .bool sk1, .bool go1, .string in1], .agg #[.bool on2, .bool bad2, .int .i64 at2, .slice A2 n2 c2, .slice G2 k2 d2, .bool sk2, .bool go2, .string in2]] w fun e w' => e = .returned (.bool (TalkEq on1 bad1 at1 l1 g1 sk1 go1 in1 on2 bad2 at2 l2 g2 sk2 go2 in2)) ∧ Below w.heap.size w w' := by
  have HN := Lib.hid hn; have HK := Lib.hid hk; clear hn hk; have b0 := bel_alloc (bel_alloc (Below.refl _ w) (.cells #[.bool on1, .bool bad1, .int .i64 at1, .slice A1 n1 c1, .slice G1 k1 d1, .bool sk1, .bool go1, .string in1] 57)) (.cells #[.bool on2, .bool bad2, .int .i64 at2, .slice A2 n2 c2, .slice G2 k2 d2, .bool sk2, .bool go2, .string in2] 57); have x1 := (BoxC.new w 57 #[.bool on1, .bool bad1, .int .i64 at1, .slice A1 n1 c1, .slice G1 k1 d1, .bool sk1, .bool go1, .string in1]).alloc (.cells #[.bool on2, .bool bad2, .int .i64 at2, .slice A2 n2 c2, .slice G2 k2 d2, .bool sk2, .bool go2, .string in2] 57); have x2 := BoxC.new (w.alloc (.cells #[.bool on1, .bool bad1, .int .i64 at1, .slice A1 n1 c1, .slice G1 k1 d1, .bool sk1, .bool go1, .string in1] 57)) 57 #[.bool on2, .bool bad2, .int .i64 at2, .slice A2 n2 c2, .slice G2 k2 d2, .bool sk2, .bool go2, .string in2]; simp only [World.size_alloc] at x2
  have a0 := x1.c (k := 0) rfl; have z0 := x2.c (k := 0) rfl; have a1 := x1.c (k := 1) rfl; have z1 := x2.c (k := 1) rfl; have a2 := x1.c (k := 2) rfl; have z2 := x2.c (k := 2) rfl; have a3 := x1.c (k := 3) rfl; have z3 := x2.c (k := 3) rfl; have a4 := x1.c (k := 4) rfl; have z4 := x2.c (k := 4) rfl; have a5 := x1.c (k := 5) rfl; have z5 := x2.c (k := 5) rfl; have a6 := x1.c (k := 6) rfl; have z6 := x2.c (k := 6) rfl; have a7 := x1.c (k := 7) rfl; have z7 := x2.c (k := 7) rfl; have HL := Lib.hid hg.len; have HP := Lib.hid hh.len; have C := Lib.hid (fun W hW => specSeatSame on1 bad1 at1 A1 n1 c1 l1 on2 bad2 at2 A2 n2 c2 l2 W (hr.on (hW : Below w.heap.size w W)) (hs.on hW) HN.out); clear hr hs; obtain ⟨r, hr⟩ : ∃ r, SeatEq on1 bad1 at1 l1 on2 bad2 at2 l2 = r := ⟨_, rfl⟩; have HF := Lib.hid (show TalkEq on1 bad1 at1 l1 g1 sk1 go1 in1 on2 bad2 at2 l2 g2 sk2 go2 in2 = (SeatEq on1 bad1 at1 l1 on2 bad2 at2 l2 && (namedSEq g1 g2 && ((sk1 == sk2) && ((go1 == go2) && (in1.toList == in2.toList))))) from rfl); rw [hr] at C HF; clear hr; go_enter Try.func30, Try.ntmps30; go_wp2_with fail; refine (C.out _ b0).mono ?_; rintro e w1 ⟨rfl, hb⟩; have b1 := bel_trans b0 hb; replace a0 := (x1.on hb).c (k := 0) rfl; replace z0 := (x2.on hb).c (k := 0) rfl; replace a1 := (x1.on hb).c (k := 1) rfl; replace z1 := (x2.on hb).c (k := 1) rfl; replace a2 := (x1.on hb).c (k := 2) rfl; replace z2 := (x2.on hb).c (k := 2) rfl; replace a3 := (x1.on hb).c (k := 3) rfl; replace z3 := (x2.on hb).c (k := 3) rfl; replace a4 := (x1.on hb).c (k := 4) rfl; replace z4 := (x2.on hb).c (k := 4) rfl; replace a5 := (x1.on hb).c (k := 5) rfl; replace z5 := (x2.on hb).c (k := 5) rfl; replace a6 := (x1.on hb).c (k := 6) rfl; replace z6 := (x2.on hb).c (k := 6) rfl; replace a7 := (x1.on hb).c (k := 7) rfl; replace z7 := (x2.on hb).c (k := 7) rfl; replace x1 := x1.on hb; replace x2 := x2.on hb; clear hb b0; cases r
  · rw [Bool.false_and] at HF; go_wp2_with fail; go_ret
    exact ⟨retBool HF.out.symm, b1⟩
  rw [Bool.true_and] at HF
  by_cases hnm : k1 = k2
  · subst hnm; have hne : ((k1 : Int) != (k1 : Int)) = false := by simp
    cases h5 : (sk1 == sk2) <;> cases h6 : (go1 == go2) <;> cases h7 : (in1.toList == in2.toList)
    all_goals
      rw [h5, h6, h7] at HF; have q5 : (sk1 != sk2) = !(sk1 == sk2) := rfl; have q6 : (go1 != go2) = !(go1 == go2) := rfl; rw [h5] at q5; rw [h6] at q6; simp only [Bool.not_true, Bool.not_false] at q5 q6
    case true.true.true =>
      rw [Bool.and_self, Bool.and_self, Bool.and_true] at HF; go_wp2_with fail; have c4 := Lib.hid (fun W (hW : Below w1.heap.size w1 W) => And.intro ((x1.on hW).c (k := 4) rfl) ((x2.on hW).c (k := 4) rfl)); clear a0 a1 a2 a3 a4 a5 a6 a7 z0 z1 z2 z3 z4 z5 z6 z7
      go_loopw [5] (fun i wr => ∃ k : Nat, k ≤ k1 ∧ i = .int .i64 k ∧ EqToNamed g1 g2 k ∧ Below w1.heap.size w1 wr) (fun i _ => k1 - (intOf i).toNat)
      case atStart => exact ⟨0, by omega, rfl, EqToNamed.zero g1 g2, Below.refl _ _⟩
      case round =>
        obtain ⟨k, hkn, rfl, heq, hbel2⟩ := hrel; have hbel := bel_trans b1 hbel2; obtain ⟨a4, z4⟩ := c4.out _ hbel2; have hk9 := HK.out
        by_cases hlt : k < k1
        · obtain ⟨b, off, rfl, hb⟩ := hg.spot (by omega); obtain ⟨b2, off2, rfl, hz2⟩ := hh.spot (by omega); obtain ⟨f0, f1, f2, f3, f4, hrow, ha0, ha1, ha2, ha3, ha4⟩ := atNamed (hg.keep hbel) hlt; obtain ⟨y0, y1, y2, y3, y4, hrow2, hb0, hb1, hb2, hb3, hb4⟩ := atNamed (hh.keep hbel) hlt; have HR := Lib.hid hrow; have HR2 := Lib.hid hrow2; clear hrow hrow2; have i0 : (0 : Int) ≤ (k : Int) := by omega
          have i1 : (k : Int) < (k1 : Int) := by omega
          cases he : eqNamedB (f0, f1, f2, f3, f4) (y0, y1, y2, y3, y4)
          all_goals
            have q1 := neqNamed f0 f1 f2 f3 f4 y0 y1 y2 y3 y4; have q2 := guardNamed; rw [he] at q1; have HE := Lib.hid he; clear he; go_wp2_with fail
            go_quiet (fail)
            go_wp2
          · go_ret
            exact ⟨retBool (by rw [HF.out]; exact (namedSEq_at HR.out HR2.out HE.out).symm), bel_drewN hbel _⟩
          · go_roundw
            case rel => exact ⟨k + 1, by omega, by go_num, heq.step HR.out HR2.out HE.out, bel_drewN hbel2 _⟩
            case measure => simp [intOf]; omega
        · go_wp2
          go_ret
          exact ⟨retBool (by rw [HF.out]; exact (heq.all (by rw [HL.out]; omega) (by rw [HP.out]; omega)).symm), hbel⟩
    all_goals
      simp only [Bool.and_false, Bool.false_and] at HF
      go_wp2_with fail; go_ret
      exact ⟨retBool HF.out.symm, b1⟩
  · have hf : namedSEq g1 g2 = false := namedSEq_len (by rw [HL.out, HP.out]; exact hnm); rw [hf, Bool.false_and] at HF; have hne : ((k1 : Int) != (k2 : Int)) = true := by simp; omega
    clear hnm; go_wp2_with fail; go_ret
    exact ⟨retBool HF.out.symm, b1⟩
end Go.Proofs.Ytpmeaikiaoojkaa
namespace Go.Proofs.Ytpmeaikiaoojkaa
open Go.RowKit

theorem TalkEq_in {on1 bad1 : Bool} {at1 : Int} {l1 : List Write} {g1 : List Named} {sk1 go1 : Bool} {in1 : ByteArray} {on2 bad2 : Bool} {at2 : Int} {l2 : List Write} {g2 : List Named} {sk2 go2 : Bool} {in2 : ByteArray} (h : in1.size ≠ in2.size) : TalkEq on1 bad1 at1 l1 g1 sk1 go1 in1 on2 bad2 at2 l2 g2 sk2 go2 in2 = false := by
  have h2 : (in1.toList == in2.toList) = false := by
    rw [beq_eq_false_iff_ne]; intro e; rw [ByteArray.toList_eq, ByteArray.toList_eq] at e; exact h (by rw [ByteArray.ext (Array.toList_inj.1 e)])
  simp [TalkEq, h2]
theorem TalkEq_names {on1 bad1 : Bool} {at1 : Int} {l1 : List Write} {g1 : List Named} {sk1 go1 : Bool} {in1 : ByteArray} {on2 bad2 : Bool} {at2 : Int} {l2 : List Write} {g2 : List Named} {sk2 go2 : Bool} {in2 : ByteArray} (h : g1.length ≠ g2.length) : TalkEq on1 bad1 at1 l1 g1 sk1 go1 in1 on2 bad2 at2 l2 g2 sk2 go2 in2 = false := by
  simp [TalkEq, namedSEq_len h]
set_option maxHeartbeats 16000000 in
set_option maxRecDepth 100000 in
theorem lawFnTalkSame (F : Option Addr) (n u : Nat) (lc : List UInt8) (w : World) (hF : Sl encB w w.heap.size F n lc) (_hn : n ≤ maxLen) (hc : n ≤ u) :
    Calls Try.prog 9 #[.slice F n u] w fun e w' => e = .returned (.bool true) ∧ Below w.heap.size w w' := by
  obtain ⟨i0, hi0, hz0, hz1, hz2⟩ := info_parts info64
  by_cases hbig : 1048576 < n
  · have hb : (1048576 : Int) < (n : Int) := by omega
    go_enter Try.func9, Try.ntmps9; go_wp2
    go_ret
    exact ⟨rfl, Below.refl _ _⟩
  have hb : ¬ (1048576 : Int) < (n : Int) := by omega
  have hn1 : n ≤ 1048576 := by omega
  clear hbig; go_enter Try.func9, Try.ntmps9; go_wp2_with fail; refine (drawTalkSame F n u lc w hF hn1 hc).mono ?_; rintro e w1 ⟨on, bad, at_, B, d, lw, C, q, ln, sk, gone, inn, on2, bad2, at2, B2, d2, lw2, C2, q2, ln2, sk2, gone2, inn2, rfl, ⟨oa, hla, ob, hlb, hi⟩, ⟨oc, hlc, od, hld, hi2⟩, b⟩; obtain ⟨r, hr⟩ : ∃ r, TalkEq on bad at_ lw ln sk gone inn on2 bad2 at2 lw2 ln2 sk2 gone2 inn2 = r := ⟨_, rfl⟩; have HR := Lib.hid hr; have HR2 := Lib.hid ((TalkEq_comm on2 bad2 at2 lw2 ln2 sk2 gone2 inn2 on bad at_ lw ln sk gone inn).trans hr); have HE := Lib.hid (TalkEq_self on bad at_ lw ln sk gone inn); clear hr; have hLE3 : w.heap.size ≤ w1.heap.size := b.size; have hLE4 : w.heap.size ≤ w1.heap.size + 1 := Nat.le_succ_of_le b.size; have hE3E4 : w1.heap.size ≠ w1.heap.size + 1 := by omega
  have ha_ := bel_alloc (Below.refl w1.heap.size w1) (.cells #[.bool on, .bool bad, .int .i64 at_, .slice B lw.length d, .slice C ln.length q, .bool sk, .bool gone, .string inn] 57); replace b := bel_trans b ha_; replace oa := oa.on ha_; replace ob := ob.on ha_; replace oc := oc.on ha_; replace od := od.on ha_; clear ha_; have x3 := BoxC.new w1 57 #[.bool on, .bool bad, .int .i64 at_, .slice B lw.length d, .slice C ln.length q, .bool sk, .bool gone, .string inn]; have ha_ := bel_alloc (Below.refl ((w1.alloc (.cells #[.bool on, .bool bad, .int .i64 at_, .slice B lw.length d, .slice C ln.length q, .bool sk, .bool gone, .string inn] 57))).heap.size ((w1.alloc (.cells #[.bool on, .bool bad, .int .i64 at_, .slice B lw.length d, .slice C ln.length q, .bool sk, .bool gone, .string inn] 57)))) (.cells #[.bool on2, .bool bad2, .int .i64 at2, .slice B2 lw2.length d2, .slice C2 ln2.length q2, .bool sk2, .bool gone2, .string inn2] 57); replace x3 := x3.on ha_; replace b := bel_trans b ha_; replace oa := oa.on ha_; replace ob := ob.on ha_; replace oc := oc.on ha_; replace od := od.on ha_; clear ha_; have x4 : BoxC ((w1.alloc (.cells #[.bool on, .bool bad, .int .i64 at_, .slice B lw.length d, .slice C ln.length q, .bool sk, .bool gone, .string inn] 57)).alloc (.cells #[.bool on2, .bool bad2, .int .i64 at2, .slice B2 lw2.length d2, .slice C2 ln2.length q2, .bool sk2, .bool gone2, .string inn2] 57)) (w1.heap.size + 1) 57 #[.bool on2, .bool bad2, .int .i64 at2, .slice B2 lw2.length d2, .slice C2 ln2.length q2, .bool sk2, .bool gone2, .string inn2] := by have h := BoxC.new (w1.alloc (.cells #[.bool on, .bool bad, .int .i64 at_, .slice B lw.length d, .slice C ln.length q, .bool sk, .bool gone, .string inn] 57)) 57 #[.bool on2, .bool bad2, .int .i64 at2, .slice B2 lw2.length d2, .slice C2 ln2.length q2, .bool sk2, .bool gone2, .string inn2]; simpa only [World.size_alloc] using h
  go_wp2_with fail; generalize w1.heap.size + 1 = E4 at *; generalize w1.heap.size = E3 at *; generalize ((w1.alloc (.cells #[.bool on, .bool bad, .int .i64 at_, .slice B lw.length d, .slice C ln.length q, .bool sk, .bool gone, .string inn] 57)).alloc (.cells #[.bool on2, .bool bad2, .int .i64 at2, .slice B2 lw2.length d2, .slice C2 ln2.length q2, .bool sk2, .bool gone2, .string inn2] 57)) = w2 at *; cases r
  · refine rg_8_8 x3 x4 fun hHeld => ?_; have L := (Below.refl w2.heap.size w2).drew; replace b := b.drew; generalize w2.drew = wy4f at *; refine tk 0 rfl ?_; (try simp only [AP]); refine tk 1 rfl ?_; (try simp only [AP]); refine tk 3 rfl ?_; (try simp only [AP]); refine tk 4 rfl ?_; (try simp only [AP]); refine ry 2 rfl fun K hK => ?_; go_simp; replace oa := oa.on L; replace ob := ob.on L; replace oc := oc.on L; replace od := od.on L; refine (implTalkSame on bad at_ B lw.length d lw C ln.length q ln sk gone inn on2 bad2 at2 B2 lw2.length d2 lw2 C2 ln2.length q2 ln2 sk2 gone2 inn2 _ oa.sl oc.sl (by omega) ob.sl od.sl (by omega)).mono ?_; rintro e wa1 ⟨rfl, hb_⟩; replace b := bel_trans b hb_; replace oa := oa.on hb_; replace ob := ob.on hb_; replace oc := oc.on hb_; replace od := od.on hb_; replace L := bel_trans L hb_; clear hb_; rw [HR.out]; go_wp2_with fail; refine hK.out _ _ ⟨(x3.on L).k8, (x4.on L).k8⟩ (fun hHeld => ?_); clear hK K; (try simp only [AP]); refine ry 5 rfl fun K hK => ?_; go_simp; refine (specTalkSame on bad at_ B lw.length d lw C ln.length q ln sk gone inn on2 bad2 at2 B2 lw2.length d2 lw2 C2 ln2.length q2 ln2 sk2 gone2 inn2 _ oa.sl oc.sl (by omega) ob.sl od.sl (by omega)).mono ?_; rintro e wa2 ⟨rfl, hb_⟩; replace b := bel_trans b hb_; replace oa := oa.on hb_; replace ob := ob.on hb_; replace oc := oc.on hb_; replace od := od.on hb_; replace L := bel_trans L hb_; clear hb_; rw [HR.out]; go_wp2_with fail; refine hK.out _ _ ⟨(x3.on L).k8, (x4.on L).k8⟩ (fun hHeld => ?_); clear hK K; (try simp only [AP]); refine tk 6 rfl ?_; (try simp only [AP]); refine tk 7 rfl ?_; (try simp only [AP]); refine tk 8 rfl ?_; (try simp only [AP]); refine tk 9 rfl ?_; (try simp only [AP]); refine tk 11 rfl ?_; (try simp only [AP]); refine tk 12 rfl ?_; (try simp only [AP]); refine ry 10 rfl fun K hK => ?_; go_simp; refine (implTalkSame on bad at_ B lw.length d lw C ln.length q ln sk gone inn on2 bad2 at2 B2 lw2.length d2 lw2 C2 ln2.length q2 ln2 sk2 gone2 inn2 _ oa.sl oc.sl (by omega) ob.sl od.sl (by omega)).mono ?_; rintro e wa3 ⟨rfl, hb_⟩; replace b := bel_trans b hb_; replace oa := oa.on hb_; replace ob := ob.on hb_; replace oc := oc.on hb_; replace od := od.on hb_; replace L := bel_trans L hb_; clear hb_; rw [HR.out]; go_wp2_with fail; refine hK.out _ _ ⟨(x3.on L).k8, (x4.on L).k8⟩ (fun hHeld => ?_); clear hK K; (try simp only [AP]); refine ry 13 rfl fun K hK => ?_; go_simp; refine (implTalkSame on2 bad2 at2 B2 lw2.length d2 lw2 C2 ln2.length q2 ln2 sk2 gone2 inn2 on bad at_ B lw.length d lw C ln.length q ln sk gone inn _ oc.sl oa.sl (by omega) od.sl ob.sl (by omega)).mono ?_; rintro e wa4 ⟨rfl, hb_⟩; replace b := bel_trans b hb_; replace oa := oa.on hb_; replace ob := ob.on hb_; replace oc := oc.on hb_; replace od := od.on hb_; replace L := bel_trans L hb_; clear hb_; rw [HR2.out]; go_wp2_with fail; refine hK.out _ _ ⟨(x3.on L).k8, (x4.on L).k8⟩ (fun hHeld => ?_); clear hK K; (try simp only [AP]); refine tk 14 rfl ?_; (try simp only [AP]); refine tk 15 rfl ?_
    (try simp only [AP]); refine tk 16 rfl ?_; (try simp only [AP]); refine tk 17 rfl ?_; (try simp only [AP]); refine tk 18 rfl ?_; (try simp only [AP]); refine ry 19 rfl fun K hK => ?_; go_simp; refine (implTalkSame on bad at_ B lw.length d lw C ln.length q ln sk gone inn on bad at_ B lw.length d lw C ln.length q ln sk gone inn _ oa.sl oa.sl (by omega) ob.sl ob.sl (by omega)).mono ?_; rintro e wa5 ⟨rfl, hb_⟩; replace b := bel_trans b hb_; replace oa := oa.on hb_; replace ob := ob.on hb_; replace oc := oc.on hb_; replace od := od.on hb_; replace L := bel_trans L hb_; clear hb_; rw [HE.out]; go_wp2_with fail; refine hK.out _ _ ⟨(x3.on L).k8, (x4.on L).k8⟩ (fun hHeld => ?_); clear hK K; (try simp only [AP]); refine tk 20 rfl ?_; (try simp only [AP]); refine tk 21 rfl ?_; (try simp only [AP]); replace x3 := x3.on L; replace x4 := x4.on L; refine wpAnyH_done (by kernel_rfl) ?_ _; clear x4; clear oc; clear od; replace qx3 := x3.k8; have hLE5 : w.heap.size ≤ wa5.heap.size := b.size; have hE3E5 : E3 ≠ wa5.heap.size := Nat.ne_of_lt x3.lt; have ha_ := bel_alloc (Below.refl wa5.heap.size wa5) (.cells #[.bool on, .bool bad, .int .i64 at_, .slice B lw.length d, .slice C ln.length q, .bool sk, .bool gone, .string inn] 57); replace x3 := x3.on ha_; replace b := bel_trans b ha_; replace oa := oa.on ha_; replace ob := ob.on ha_; replace qx3 := x3.k8; clear ha_; have x5 := BoxC.new wa5 57 #[.bool on, .bool bad, .int .i64 at_, .slice B lw.length d, .slice C ln.length q, .bool sk, .bool gone, .string inn]; clear qx3; go_upto_region 7 with fail; generalize wa5.heap.size = E5 at *; generalize (wa5.alloc (.cells #[.bool on, .bool bad, .int .i64 at_, .slice B lw.length d, .slice C ln.length q, .bool sk, .bool gone, .string inn] 57)) = w5f at *; replace qx3 := x3.k8; have fx := x5.f 7; have sx := x5.c (k := 7) rfl; have hcat : ¬ 9223372036854775807 < inn.size + 1 := by omega
    obtain ⟨is, his⟩ : ∃ x : ByteArray, inn ++ ⟨#[83]⟩ = x := ⟨_, rfl⟩; have hisz : is.size = inn.size + 1 := by rw [← his, ByteArray.size_append]; rfl
    go_upto_region 8 with fail; clear fx sx; clear qx3
    first | refine st8_1_7 (G := Code.wp _ _ _ _) x5 fun w6f ht hx => ?_ | refine st8_1_7 (G := bodyPost _ _ _ _ _) x5 fun w6f ht hx => ?_
    replace x3 := x3.turned (by omega) ht; replace b := bput b ht (by omega); replace oa := oa.turned x5 (by decide) ht; replace ob := ob.turned x5 (by decide) ht; replace x5 := hx; clear ht hx; replace qx3 := x3.k8; obtain ⟨qq0, qq1, qq2, qq3, qq4, qq5, qq6, qq7⟩ := x3.k8; clear qx3; have hLE6 : w.heap.size ≤ w6f.heap.size := b.size; have hE3E6 : E3 ≠ w6f.heap.size := Nat.ne_of_lt x3.lt; have hE5E6 : E5 ≠ w6f.heap.size := Nat.ne_of_lt x5.lt; have ha_ := bel_alloc (Below.refl w6f.heap.size w6f) (.cells #[.bool on, .bool bad, .int .i64 at_, .slice B lw.length d, .slice C ln.length q, .bool sk, .bool gone, .string inn] 57); replace x3 := x3.on ha_; replace x5 := x5.on ha_; replace b := bel_trans b ha_; replace oa := oa.on ha_; replace ob := ob.on ha_; clear ha_; have x6 := BoxC.new w6f 57 #[.bool on, .bool bad, .int .i64 at_, .slice B lw.length d, .slice C ln.length q, .bool sk, .bool gone, .string inn]; go_upto_region 9 with fail; clear qq0 qq1 qq2 qq3 qq4 qq5 qq6 qq7; generalize w6f.heap.size = E6 at *; generalize (w6f.alloc (.cells #[.bool on, .bool bad, .int .i64 at_, .slice B lw.length d, .slice C ln.length q, .bool sk, .bool gone, .string inn] 57)) = w7f at *; have OB0 := Lib.hid ob; have HB0 := b.size; have o0 := Own.made0 (enc := encNamed) (sz := 5) (e := 64) (base := w7f.heap.size) w7f (Nat.le_refl _); have ha_ := bel_alloc (Below.refl w7f.heap.size w7f) (.cells #[] 64); replace x3 := x3.on ha_; replace x5 := x5.on ha_; replace x6 := x6.on ha_; replace b := bel_trans b ha_; replace oa := oa.on ha_; replace ob := ob.on ha_; clear ha_; have qn := x3.c (k := 4) rfl; go_wp2_with (at_builtin; refine wpList_append_sl _ rfl _ _ 55 rfl w7f.heap.size 64 i0 _ 5 64 Try.underlying55 hi0 hz0 hz1 hz2 rfl (by decide) encNamed_len encNamed_one _ [] rfl o0 _ C ln.length q ln rfl ob.sl ?c3 ?c4 ?c5 ?_)
    case c3 => unfold maxLen; simp; omega
    case c4 => simp; omega
    case c5 => simp
    intro v8 w8 o8 g8; obtain ⟨A8, c8, rfl, -, -⟩ := o8.form; replace x3 := x3.appended (by decide) o0 g8; replace x5 := x5.appended (by decide) o0 g8; replace x6 := x6.appended (by decide) o0 g8; replace oa := oa.grownT o0 (by decide) g8; replace ob := ob.far (A := some ⟨w7f.heap.size, 0, none⟩) (show Turn (some ⟨w7f.heap.size, 0, none⟩) _ w8 from g8) (fun x y hx hy => by cases hx; exact fun e => OB0.out.sep y hy e.symm); replace b := bel_grown b g8 (fun k hk => Nat.le_trans HB0 (World.ownsRow.lt o0 k hk).1); have HZ9 : Hid (w7f.heap.size ≤ (w8.alloc (.cells #[.string ⟨#[]⟩, .int .i64 0, .string ⟨#[]⟩, .string ⟨#[]⟩, .int .i64 0] 64)).heap.size) := Lib.hid (by have := g8.size; simp only [World.size_alloc] at *; omega); clear o0 g8 qn; replace o8 : Own encNamed 5 64 w8 w7f.heap.size (.slice A8 ln.length c8) ln := o8; have sl := Sl.lit1 (enc := encNamed) w8 #[.string ⟨#[]⟩, .int .i64 0, .string ⟨#[]⟩, .string ⟨#[]⟩, .int .i64 0] 64 ((⟨#[]⟩, 0, ⟨#[]⟩, ⟨#[]⟩, 0) : Named) rfl; have ha_ := bel_alloc (Below.refl w8.heap.size w8) (.cells #[.string ⟨#[]⟩, .int .i64 0, .string ⟨#[]⟩, .string ⟨#[]⟩, .int .i64 0] 64); replace x3 := x3.on ha_; replace x5 := x5.on ha_; replace x6 := x6.on ha_; replace b := bel_trans b ha_; replace oa := oa.on ha_; replace ob := ob.on ha_; replace o8 := o8.on ha_; clear ha_; go_wp2_with (at_builtin; refine wpList_append_sl _ rfl _ _ 55 rfl w7f.heap.size 64 i0 _ 5 64 Try.underlying55 hi0 hz0 hz1 hz2 rfl (by decide) encNamed_len encNamed_one _ ln rfl o8 _ (some ⟨w8.heap.size, 0, none⟩) 1 1 [((⟨#[]⟩, 0, ⟨#[]⟩, ⟨#[]⟩, 0) : Named)] rfl sl ?c3 ?c4 ?c5 ?_)
    case c3 => unfold maxLen; omega
    case c4 => omega
    case c5 => exact HZ9.out
    intro v9 w9 o9 g9; obtain ⟨A9, c9, rfl, -, -⟩ := o9.form; replace x3 := x3.appended (by decide) o8 g9; replace x5 := x5.appended (by decide) o8 g9; replace x6 := x6.appended (by decide) o8 g9; replace oa := oa.grownT o8 (by decide) g9; replace ob := ob.far (A := A8) (by cases A8 <;> exact g9) (fun x y hx hy => (OB0.out.apart o8 (Nat.le_refl _) y x hy hx).symm); replace b := bel_grown b g9 (fun k hk => Nat.le_trans HB0 (World.ownsRow.lt o8 k hk).1); clear o8 g9 sl; replace o9 : Own encNamed 5 64 w9 w7f.heap.size (.slice A9 (ln.length + 1) c9) (ln ++ [((⟨#[]⟩, 0, ⟨#[]⟩, ⟨#[]⟩, 0) : Named)]) := by simpa using o9
    have fx := x6.f 4; have sx := x6.c (k := 4) rfl; go_upto_region 10 with fail; clear fx sx
    first | refine st8_1_4 (G := Code.wp _ _ _ _) x6 fun w10 ht hx => ?_ | refine st8_1_4 (G := bodyPost _ _ _ _ _) x6 fun w10 ht hx => ?_
    replace x3 := x3.turned (by omega) ht; replace x5 := x5.turned (by omega) ht; replace b := bput b ht (by omega); replace oa := oa.turned x6 (by decide) ht; replace ob := ob.turned x6 (by decide) ht; replace o9 := o9.turned x6 (by decide) ht; replace x6 := hx; clear ht hx; replace qx3 := x3.k8; replace qx5 := x5.k8; go_wp2_with fail; clear qx3 qx5; refine (implTalkSame on bad at_ B lw.length d lw C ln.length q ln sk gone inn on bad at_ B lw.length d lw C ln.length q ln sk gone is _ oa.sl oa.sl (by omega) ob.sl ob.sl (by omega)).mono ?_; rintro e w11 ⟨rfl, hb_⟩; replace x3 := x3.on hb_; replace x5 := x5.on hb_; replace x6 := x6.on hb_; replace b := bel_trans b hb_; replace oa := oa.on hb_; replace ob := ob.on hb_; replace o9 := o9.on hb_; clear hb_; rw [TalkEq_in (by omega)]; replace qx3 := x3.k8; replace qx6 := x6.k8; go_wp2_with fail; clear qx3 qx6; refine (implTalkSame on bad at_ B lw.length d lw C ln.length q ln sk gone inn on bad at_ B lw.length d lw A9 (ln.length + 1) c9 (ln ++ [((⟨#[]⟩, 0, ⟨#[]⟩, ⟨#[]⟩, 0) : Named)]) sk gone inn _ oa.sl oa.sl (by omega) ob.sl o9.sl (by omega)).mono ?_; rintro e w12 ⟨rfl, hb_⟩; replace x3 := x3.on hb_; replace x5 := x5.on hb_; replace x6 := x6.on hb_; replace b := bel_trans b hb_; replace oa := oa.on hb_; replace ob := ob.on hb_; replace o9 := o9.on hb_; clear hb_; rw [TalkEq_names (by simp)]; go_wp2
    go_ret
    exact ⟨rfl, b⟩
  · refine rg_8_8 x3 x4 fun hHeld => ?_; have L := (Below.refl w2.heap.size w2).drew; replace b := b.drew; generalize w2.drew = wy4t at *; refine tk 0 rfl ?_; (try simp only [AP]); refine tk 1 rfl ?_; (try simp only [AP]); refine tk 3 rfl ?_; (try simp only [AP]); refine tk 4 rfl ?_; (try simp only [AP]); refine ry 2 rfl fun K hK => ?_; go_simp; replace oa := oa.on L; replace ob := ob.on L; replace oc := oc.on L; replace od := od.on L; refine (implTalkSame on bad at_ B lw.length d lw C ln.length q ln sk gone inn on2 bad2 at2 B2 lw2.length d2 lw2 C2 ln2.length q2 ln2 sk2 gone2 inn2 _ oa.sl oc.sl (by omega) ob.sl od.sl (by omega)).mono ?_; rintro e wa1 ⟨rfl, hb_⟩; replace b := bel_trans b hb_; replace oa := oa.on hb_; replace ob := ob.on hb_; replace oc := oc.on hb_; replace od := od.on hb_; replace L := bel_trans L hb_; clear hb_; rw [HR.out]; go_wp2_with fail; refine hK.out _ _ ⟨(x3.on L).k8, (x4.on L).k8⟩ (fun hHeld => ?_); clear hK K; (try simp only [AP]); refine ry 5 rfl fun K hK => ?_; go_simp; refine (specTalkSame on bad at_ B lw.length d lw C ln.length q ln sk gone inn on2 bad2 at2 B2 lw2.length d2 lw2 C2 ln2.length q2 ln2 sk2 gone2 inn2 _ oa.sl oc.sl (by omega) ob.sl od.sl (by omega)).mono ?_; rintro e wa2 ⟨rfl, hb_⟩; replace b := bel_trans b hb_; replace oa := oa.on hb_; replace ob := ob.on hb_; replace oc := oc.on hb_; replace od := od.on hb_; replace L := bel_trans L hb_; clear hb_; rw [HR.out]; go_wp2_with fail; refine hK.out _ _ ⟨(x3.on L).k8, (x4.on L).k8⟩ (fun hHeld => ?_); clear hK K; (try simp only [AP]); refine tk 6 rfl ?_; (try simp only [AP]); refine tk 7 rfl ?_; (try simp only [AP]); refine tk 8 rfl ?_; (try simp only [AP]); refine tk 9 rfl ?_; (try simp only [AP]); refine tk 11 rfl ?_; (try simp only [AP]); refine tk 12 rfl ?_; (try simp only [AP]); refine ry 10 rfl fun K hK => ?_; go_simp; refine (implTalkSame on bad at_ B lw.length d lw C ln.length q ln sk gone inn on2 bad2 at2 B2 lw2.length d2 lw2 C2 ln2.length q2 ln2 sk2 gone2 inn2 _ oa.sl oc.sl (by omega) ob.sl od.sl (by omega)).mono ?_; rintro e wa3 ⟨rfl, hb_⟩; replace b := bel_trans b hb_; replace oa := oa.on hb_; replace ob := ob.on hb_; replace oc := oc.on hb_; replace od := od.on hb_; replace L := bel_trans L hb_; clear hb_; rw [HR.out]; go_wp2_with fail; refine hK.out _ _ ⟨(x3.on L).k8, (x4.on L).k8⟩ (fun hHeld => ?_); clear hK K; (try simp only [AP]); refine ry 13 rfl fun K hK => ?_; go_simp; refine (implTalkSame on2 bad2 at2 B2 lw2.length d2 lw2 C2 ln2.length q2 ln2 sk2 gone2 inn2 on bad at_ B lw.length d lw C ln.length q ln sk gone inn _ oc.sl oa.sl (by omega) od.sl ob.sl (by omega)).mono ?_; rintro e wa4 ⟨rfl, hb_⟩; replace b := bel_trans b hb_; replace oa := oa.on hb_; replace ob := ob.on hb_; replace oc := oc.on hb_; replace od := od.on hb_; replace L := bel_trans L hb_; clear hb_; rw [HR2.out]; go_wp2_with fail; refine hK.out _ _ ⟨(x3.on L).k8, (x4.on L).k8⟩ (fun hHeld => ?_); clear hK K; (try simp only [AP]); refine tk 14 rfl ?_; (try simp only [AP]); refine tk 15 rfl ?_
    (try simp only [AP]); refine tk 16 rfl ?_; (try simp only [AP]); refine tk 17 rfl ?_; (try simp only [AP]); refine tk 18 rfl ?_; (try simp only [AP]); refine ry 19 rfl fun K hK => ?_; go_simp; refine (implTalkSame on bad at_ B lw.length d lw C ln.length q ln sk gone inn on bad at_ B lw.length d lw C ln.length q ln sk gone inn _ oa.sl oa.sl (by omega) ob.sl ob.sl (by omega)).mono ?_; rintro e wa5 ⟨rfl, hb_⟩; replace b := bel_trans b hb_; replace oa := oa.on hb_; replace ob := ob.on hb_; replace oc := oc.on hb_; replace od := od.on hb_; replace L := bel_trans L hb_; clear hb_; rw [HE.out]; go_wp2_with fail; refine hK.out _ _ ⟨(x3.on L).k8, (x4.on L).k8⟩ (fun hHeld => ?_); clear hK K; (try simp only [AP]); refine tk 20 rfl ?_; (try simp only [AP]); refine tk 21 rfl ?_; (try simp only [AP]); replace x3 := x3.on L; replace x4 := x4.on L; refine wpAnyH_done (by kernel_rfl) ?_ _; clear x4; clear oc; clear od; replace qx3 := x3.k8; have hLE5 : w.heap.size ≤ wa5.heap.size := b.size; have hE3E5 : E3 ≠ wa5.heap.size := Nat.ne_of_lt x3.lt; have ha_ := bel_alloc (Below.refl wa5.heap.size wa5) (.cells #[.bool on, .bool bad, .int .i64 at_, .slice B lw.length d, .slice C ln.length q, .bool sk, .bool gone, .string inn] 57); replace x3 := x3.on ha_; replace b := bel_trans b ha_; replace oa := oa.on ha_; replace ob := ob.on ha_; replace qx3 := x3.k8; clear ha_; have x5 := BoxC.new wa5 57 #[.bool on, .bool bad, .int .i64 at_, .slice B lw.length d, .slice C ln.length q, .bool sk, .bool gone, .string inn]; clear qx3; go_upto_region 7 with fail; generalize wa5.heap.size = E5 at *; generalize (wa5.alloc (.cells #[.bool on, .bool bad, .int .i64 at_, .slice B lw.length d, .slice C ln.length q, .bool sk, .bool gone, .string inn] 57)) = w5t at *; replace qx3 := x3.k8; have fx := x5.f 7; have sx := x5.c (k := 7) rfl; have hcat : ¬ 9223372036854775807 < inn.size + 1 := by omega
    obtain ⟨is, his⟩ : ∃ x : ByteArray, inn ++ ⟨#[83]⟩ = x := ⟨_, rfl⟩; have hisz : is.size = inn.size + 1 := by rw [← his, ByteArray.size_append]; rfl
    go_upto_region 8 with fail; clear fx sx; clear qx3
    first | refine st8_1_7 (G := Code.wp _ _ _ _) x5 fun w6t ht hx => ?_ | refine st8_1_7 (G := bodyPost _ _ _ _ _) x5 fun w6t ht hx => ?_
    replace x3 := x3.turned (by omega) ht; replace b := bput b ht (by omega); replace oa := oa.turned x5 (by decide) ht; replace ob := ob.turned x5 (by decide) ht; replace x5 := hx; clear ht hx; replace qx3 := x3.k8; obtain ⟨qq0, qq1, qq2, qq3, qq4, qq5, qq6, qq7⟩ := x3.k8; clear qx3; have hLE6 : w.heap.size ≤ w6t.heap.size := b.size; have hE3E6 : E3 ≠ w6t.heap.size := Nat.ne_of_lt x3.lt; have hE5E6 : E5 ≠ w6t.heap.size := Nat.ne_of_lt x5.lt; have ha_ := bel_alloc (Below.refl w6t.heap.size w6t) (.cells #[.bool on, .bool bad, .int .i64 at_, .slice B lw.length d, .slice C ln.length q, .bool sk, .bool gone, .string inn] 57); replace x3 := x3.on ha_; replace x5 := x5.on ha_; replace b := bel_trans b ha_; replace oa := oa.on ha_; replace ob := ob.on ha_; clear ha_; have x6 := BoxC.new w6t 57 #[.bool on, .bool bad, .int .i64 at_, .slice B lw.length d, .slice C ln.length q, .bool sk, .bool gone, .string inn]; go_upto_region 9 with fail; clear qq0 qq1 qq2 qq3 qq4 qq5 qq6 qq7; generalize w6t.heap.size = E6 at *; generalize (w6t.alloc (.cells #[.bool on, .bool bad, .int .i64 at_, .slice B lw.length d, .slice C ln.length q, .bool sk, .bool gone, .string inn] 57)) = w7t at *; have OB0 := Lib.hid ob; have HB0 := b.size; have o0 := Own.made0 (enc := encNamed) (sz := 5) (e := 64) (base := w7t.heap.size) w7t (Nat.le_refl _); have ha_ := bel_alloc (Below.refl w7t.heap.size w7t) (.cells #[] 64); replace x3 := x3.on ha_; replace x5 := x5.on ha_; replace x6 := x6.on ha_; replace b := bel_trans b ha_; replace oa := oa.on ha_; replace ob := ob.on ha_; clear ha_; have qn := x3.c (k := 4) rfl; go_wp2_with (at_builtin; refine wpList_append_sl _ rfl _ _ 55 rfl w7t.heap.size 64 i0 _ 5 64 Try.underlying55 hi0 hz0 hz1 hz2 rfl (by decide) encNamed_len encNamed_one _ [] rfl o0 _ C ln.length q ln rfl ob.sl ?c3 ?c4 ?c5 ?_)
    case c3 => unfold maxLen; simp; omega
    case c4 => simp; omega
    case c5 => simp
    intro v8 w8 o8 g8; obtain ⟨A8, c8, rfl, -, -⟩ := o8.form; replace x3 := x3.appended (by decide) o0 g8; replace x5 := x5.appended (by decide) o0 g8; replace x6 := x6.appended (by decide) o0 g8; replace oa := oa.grownT o0 (by decide) g8; replace ob := ob.far (A := some ⟨w7t.heap.size, 0, none⟩) (show Turn (some ⟨w7t.heap.size, 0, none⟩) _ w8 from g8) (fun x y hx hy => by cases hx; exact fun e => OB0.out.sep y hy e.symm); replace b := bel_grown b g8 (fun k hk => Nat.le_trans HB0 (World.ownsRow.lt o0 k hk).1); have HZ9 : Hid (w7t.heap.size ≤ (w8.alloc (.cells #[.string ⟨#[]⟩, .int .i64 0, .string ⟨#[]⟩, .string ⟨#[]⟩, .int .i64 0] 64)).heap.size) := Lib.hid (by have := g8.size; simp only [World.size_alloc] at *; omega); clear o0 g8 qn; replace o8 : Own encNamed 5 64 w8 w7t.heap.size (.slice A8 ln.length c8) ln := o8; have sl := Sl.lit1 (enc := encNamed) w8 #[.string ⟨#[]⟩, .int .i64 0, .string ⟨#[]⟩, .string ⟨#[]⟩, .int .i64 0] 64 ((⟨#[]⟩, 0, ⟨#[]⟩, ⟨#[]⟩, 0) : Named) rfl; have ha_ := bel_alloc (Below.refl w8.heap.size w8) (.cells #[.string ⟨#[]⟩, .int .i64 0, .string ⟨#[]⟩, .string ⟨#[]⟩, .int .i64 0] 64); replace x3 := x3.on ha_; replace x5 := x5.on ha_; replace x6 := x6.on ha_; replace b := bel_trans b ha_; replace oa := oa.on ha_; replace ob := ob.on ha_; replace o8 := o8.on ha_; clear ha_; go_wp2_with (at_builtin; refine wpList_append_sl _ rfl _ _ 55 rfl w7t.heap.size 64 i0 _ 5 64 Try.underlying55 hi0 hz0 hz1 hz2 rfl (by decide) encNamed_len encNamed_one _ ln rfl o8 _ (some ⟨w8.heap.size, 0, none⟩) 1 1 [((⟨#[]⟩, 0, ⟨#[]⟩, ⟨#[]⟩, 0) : Named)] rfl sl ?c3 ?c4 ?c5 ?_)
    case c3 => unfold maxLen; omega
    case c4 => omega
    case c5 => exact HZ9.out
    intro v9 w9 o9 g9; obtain ⟨A9, c9, rfl, -, -⟩ := o9.form; replace x3 := x3.appended (by decide) o8 g9; replace x5 := x5.appended (by decide) o8 g9; replace x6 := x6.appended (by decide) o8 g9; replace oa := oa.grownT o8 (by decide) g9; replace ob := ob.far (A := A8) (by cases A8 <;> exact g9) (fun x y hx hy => (OB0.out.apart o8 (Nat.le_refl _) y x hy hx).symm); replace b := bel_grown b g9 (fun k hk => Nat.le_trans HB0 (World.ownsRow.lt o8 k hk).1); clear o8 g9 sl; replace o9 : Own encNamed 5 64 w9 w7t.heap.size (.slice A9 (ln.length + 1) c9) (ln ++ [((⟨#[]⟩, 0, ⟨#[]⟩, ⟨#[]⟩, 0) : Named)]) := by simpa using o9
    have fx := x6.f 4; have sx := x6.c (k := 4) rfl; go_upto_region 10 with fail; clear fx sx
    first | refine st8_1_4 (G := Code.wp _ _ _ _) x6 fun w10 ht hx => ?_ | refine st8_1_4 (G := bodyPost _ _ _ _ _) x6 fun w10 ht hx => ?_
    replace x3 := x3.turned (by omega) ht; replace x5 := x5.turned (by omega) ht; replace b := bput b ht (by omega); replace oa := oa.turned x6 (by decide) ht; replace ob := ob.turned x6 (by decide) ht; replace o9 := o9.turned x6 (by decide) ht; replace x6 := hx; clear ht hx; replace qx3 := x3.k8; replace qx5 := x5.k8; go_wp2_with fail; clear qx3 qx5; refine (implTalkSame on bad at_ B lw.length d lw C ln.length q ln sk gone inn on bad at_ B lw.length d lw C ln.length q ln sk gone is _ oa.sl oa.sl (by omega) ob.sl ob.sl (by omega)).mono ?_; rintro e w11 ⟨rfl, hb_⟩; replace x3 := x3.on hb_; replace x5 := x5.on hb_; replace x6 := x6.on hb_; replace b := bel_trans b hb_; replace oa := oa.on hb_; replace ob := ob.on hb_; replace o9 := o9.on hb_; clear hb_; rw [TalkEq_in (by omega)]; replace qx3 := x3.k8; replace qx6 := x6.k8; go_wp2_with fail; clear qx3 qx6; refine (implTalkSame on bad at_ B lw.length d lw C ln.length q ln sk gone inn on bad at_ B lw.length d lw A9 (ln.length + 1) c9 (ln ++ [((⟨#[]⟩, 0, ⟨#[]⟩, ⟨#[]⟩, 0) : Named)]) sk gone inn _ oa.sl oa.sl (by omega) ob.sl o9.sl (by omega)).mono ?_; rintro e w12 ⟨rfl, hb_⟩; replace x3 := x3.on hb_; replace x5 := x5.on hb_; replace x6 := x6.on hb_; replace b := bel_trans b hb_; replace oa := oa.on hb_; replace ob := ob.on hb_; replace o9 := o9.on hb_; clear hb_; rw [TalkEq_names (by simp)]; go_wp2
    go_ret
    exact ⟨rfl, b⟩
end Go.Proofs.Ytpmeaikiaoojkaa
namespace Go.Proofs.Ytpmeaikiaoojkaa
def headNums : List Nat := [104, 97, 114, 110, 101, 115, 115, 32, 97, 50, 56, 57, 99, 101, 50, 99, 57, 102, 99, 101, 55, 98, 98, 56, 100, 102, 55, 51, 99, 51, 57, 55, 102, 101, 53, 100, 100, 99, 53, 54, 51, 97, 49, 53, 49, 53, 102, 50, 99, 55, 49, 56, 101, 49, 102, 54, 99, 49, 53, 101, 53, 54, 98, 57, 101, 99, 101, 49, 49, 50, 56, 52, 32, 99, 117, 116, 32, 97, 116, 32, 108, 111, 111, 112, 46, 101, 120, 97, 109, 112, 108, 101, 47, 101, 110, 103, 114, 111, 115, 115, 101, 114, 47, 108, 97, 119, 115, 46, 70, 110, 69, 120, 97, 99, 116, 67, 111, 110, 115, 116, 97, 110, 116, 115, 32, 108, 111, 111, 112, 46, 101, 120, 97, 109, 112, 108, 101, 47, 101, 110, 103, 114, 111, 115, 115, 101, 114, 47, 108, 97, 119, 115, 46, 70, 110, 69, 120, 97, 99, 116, 76, 101, 116, 116, 101, 114, 79, 107, 32, 108, 111, 111, 112, 46, 101, 120, 97, 109, 112, 108, 101, 47, 101, 110, 103, 114, 111, 115, 115, 101, 114, 47, 108, 97, 119, 115, 46, 70, 110, 69, 120, 97, 99, 116, 76, 101, 116, 116, 101, 114, 84, 101, 120, 116, 32, 108, 111, 111, 112, 46, 101, 120, 97, 109, 112, 108, 101, 47, 101, 110, 103, 114, 111, 115, 115, 101, 114, 47, 108, 97, 119, 115, 46, 70, 110, 76, 101, 116, 116, 101, 114, 66, 101, 110, 116, 32, 108, 111, 111, 112, 46, 101, 120, 97, 109, 112, 108, 101, 47, 101, 110, 103, 114, 111, 115, 115, 101, 114, 47, 108, 97, 119, 115, 46, 70, 110, 69, 120, 97, 99, 116, 76, 101, 116, 116, 101, 114, 115, 84, 101, 120, 116, 32, 108, 111, 111, 112, 46, 101, 120, 97, 109, 112, 108, 101, 47, 101, 110, 103, 114, 111, 115, 115, 101, 114, 47, 108, 97, 119, 115, 46, 70, 110, 69, 120, 97, 99, 116, 83, 101, 97, 116, 83, 97, 109, 101, 32, 108, 111, 111, 112, 46, 101, 120, 97, 109, 112, 108, 101, 47, 101, 110, 103, 114, 111, 115, 115, 101, 114, 47, 108, 97, 119, 115, 46, 70, 110, 84, 97, 108, 107, 83, 97, 109, 101, 32, 108, 111, 111, 112, 46, 101, 120, 97, 109, 112, 108, 101, 47, 101, 110, 103, 114, 111, 115, 115, 101, 114, 47, 108, 97, 119, 115, 46, 70, 110, 69, 120, 97, 99, 116, 84, 97, 108, 107, 83, 97, 109, 101]
def headWords : List (List Nat) := [[104, 97, 114, 110, 101, 115, 115], [97, 50, 56, 57, 99, 101, 50, 99, 57, 102, 99, 101, 55, 98, 98, 56, 100, 102, 55, 51, 99, 51, 57, 55, 102, 101, 53, 100, 100, 99, 53, 54, 51, 97, 49, 53, 49, 53, 102, 50, 99, 55, 49, 56, 101, 49, 102, 54, 99, 49, 53, 101, 53, 54, 98, 57, 101, 99, 101, 49, 49, 50, 56, 52], [99, 117, 116], [97, 116], [108, 111, 111, 112, 46, 101, 120, 97, 109, 112, 108, 101, 47, 101, 110, 103, 114, 111, 115, 115, 101, 114, 47, 108, 97, 119, 115, 46, 70, 110, 69, 120, 97, 99, 116, 67, 111, 110, 115, 116, 97, 110, 116, 115], [108, 111, 111, 112, 46, 101, 120, 97, 109, 112, 108, 101, 47, 101, 110, 103, 114, 111, 115, 115, 101, 114, 47, 108, 97, 119, 115, 46, 70, 110, 69, 120, 97, 99, 116, 76, 101, 116, 116, 101, 114, 79, 107], [108, 111, 111, 112, 46, 101, 120, 97, 109, 112, 108, 101, 47, 101, 110, 103, 114, 111, 115, 115, 101, 114, 47, 108, 97, 119, 115, 46, 70, 110, 69, 120, 97, 99, 116, 76, 101, 116, 116, 101, 114, 84, 101, 120, 116], [108, 111, 111, 112, 46, 101, 120, 97, 109, 112, 108, 101, 47, 101, 110, 103, 114, 111, 115, 115, 101, 114, 47, 108, 97, 119, 115, 46, 70, 110, 76, 101, 116, 116, 101, 114, 66, 101, 110, 116], [108, 111, 111, 112, 46, 101, 120, 97, 109, 112, 108, 101, 47, 101, 110, 103, 114, 111, 115, 115, 101, 114, 47, 108, 97, 119, 115, 46, 70, 110, 69, 120, 97, 99, 116, 76, 101, 116, 116, 101, 114, 115, 84, 101, 120, 116], [108, 111, 111, 112, 46, 101, 120, 97, 109, 112, 108, 101, 47, 101, 110, 103, 114, 111, 115, 115, 101, 114, 47, 108, 97, 119, 115, 46, 70, 110, 69, 120, 97, 99, 116, 83, 101, 97, 116, 83, 97, 109, 101], [108, 111, 111, 112, 46, 101, 120, 97, 109, 112, 108, 101, 47, 101, 110, 103, 114, 111, 115, 115, 101, 114, 47, 108, 97, 119, 115, 46, 70, 110, 84, 97, 108, 107, 83, 97, 109, 101], [108, 111, 111, 112, 46, 101, 120, 97, 109, 112, 108, 101, 47, 101, 110, 103, 114, 111, 115, 115, 101, 114, 47, 108, 97, 119, 115, 46, 70, 110, 69, 120, 97, 99, 116, 84, 97, 108, 107, 83, 97, 109, 101]]
theorem headIs : Try.prog.initOrder = String.ofList (headNums.map Char.ofNat) := by kernel_rfl
theorem wordsIs : wordsSigns (headNums.map Char.ofNat) = headWords.map (·.map Char.ofNat) := by kernel_rfl
theorem factWords : wordsSigns Try.prog.initOrder.toList = headWords.map (·.map Char.ofNat) := by rw [headIs, String.toList_ofList, wordsIs]
theorem and_mk {a b : Bool} (h : a = true) (k : b = true) : (a && b) = true := by rw [h, k]; rfl
theorem mayEnter_cut (P : Program) (c : List Char) (rest : List (List Char)) (h1 : behindMainWord (wordsSigns P.initOrder.toList) = c :: rest) (hc : (some c == some "cut".toList) = true)
    (hs : stripLifts liftWords (c :: rest) = ([], c :: rest)) (p1 : P.laysLater = false) (p2 : P.bearsReflect = false) (p3 : P.doorFits [] = true) : P.mayEnter = true := by
  unfold Program.mayEnter
  rw [h1]
  dsimp only
  rw [hs]
  dsimp only
  rw [p1, p2, p3, List.head?_cons, hc]; simp
theorem headLifts_cut (P : Program) (c : List Char) (rest : List (List Char)) (h1 : behindMainWord (wordsSigns P.initOrder.toList) = c :: rest) (hc : (some c == some "cut".toList) = true)
    (hs : stripLifts liftWords (c :: rest) = ([], c :: rest)) : P.headLifts = [] := by
  unfold Program.headLifts
  rw [h1, hs]
  dsimp only
  rw [List.head?_cons, hc]
  rfl
theorem liftsFinal_cut (P : Program) (c : List Char) (rest : List (List Char)) (h1 : behindMainWord (wordsSigns P.initOrder.toList) = c :: rest) (hc : (some c == some "cut".toList) = true)
    (hn : (some c == some "carried".toList) = false)
    (hs : stripLifts liftWords (c :: rest) = ([], c :: rest)) : P.liftsFinal = false := by
  unfold Program.liftsFinal
  rw [headLifts_cut P c rest h1 hc hs, h1]
  dsimp only
  rw [List.head?_cons, hn]
  rfl
theorem make_cut (P : Program) (c : List Char) (rest : List (List Char)) (h1 : behindMainWord (wordsSigns P.initOrder.toList) = c :: rest) (hc : (c == "cut".toList) = true)
    (hn : (c == "gc".toList || c == "spec".toList) = false) : P.make = some .cut := by
  unfold Program.make
  rw [h1]
  dsimp only
  rw [hn, hc]
  rfl
theorem p1 : Try.prog.laysLater = false := by kernel_rfl
theorem p2 : Try.prog.bearsReflect = false := by kernel_rfl
theorem p3 : Try.prog.doorFits [] = true := by kernel_rfl
def cutCs : List Char := [Char.ofNat 99, Char.ofNat 117, Char.ofNat 116]
def restWs : List (List Char) := (headWords.drop 3).map (·.map Char.ofNat)
theorem p5 : behindMainWord (wordsSigns Try.prog.initOrder.toList) = cutCs :: restWs := by rw [factWords]; kernel_rfl
theorem p6 : stripLifts liftWords (cutCs :: restWs) = ([], cutCs :: restWs) := by kernel_rfl
theorem mayEnter : Try.prog.mayEnter = true := mayEnter_cut _ _ _ p5 (by kernel_rfl) p6 p1 p2 p3
theorem liftsFinal : Try.prog.liftsFinal = false := liftsFinal_cut _ _ _ p5 (by kernel_rfl) (by kernel_rfl) p6
theorem makeIs : Try.prog.make = some .cut := make_cut _ _ _ p5 (by kernel_rfl) (by kernel_rfl)
end Go.Proofs.Ytpmeaikiaoojkaa
namespace Go.Proofs.Ytpmeaikiaoojkaa
open Go.ChangeShapes Go.WideShapes Go.Deep Go.ChangeAt Go.RowKit

section
variable {H : Type} {enc : TypeId × Value → H} {P : Program} {w : World} {base : Nat} {spare : Nat → Bool} {held : Bool}
end

/-- a list out of its elements' cells -/
theorem sl_build {α : Type} {enc : α → List Value} {sz : Nat} (hs : ∀ x, (enc x).length = sz) (hsz : 0 < sz) {Q : α → Prop} {w : World} {B b off n : Nat} (hb : b < B)
    (h : ∀ i, i < n → ∃ x, Q x ∧ ∀ (j : Nat) (u : Value), (enc x)[j]? = some u → w.cell? ⟨b, off + (i * sz + j), none⟩ = some u) :
    ∃ l, Sl enc w B (some ⟨b, off, none⟩) n l ∧ ∀ x ∈ l, Q x := by
  have key : ∀ m, m ≤ n → ∃ l : List α, l.length = m ∧ (∀ x ∈ l, Q x) ∧ ∀ i x, l[i]? = some x → ∀ (j : Nat) (u : Value), (enc x)[j]? = some u → w.cell? ⟨b, off + (i * sz + j), none⟩ = some u := by
    intro m
    induction m with
    | zero => exact fun _ => ⟨[], rfl, by simp, by simp⟩
    | succ m ih =>
      intro hm; obtain ⟨l, h1, h2, h3⟩ := ih (by omega); obtain ⟨x, hq, hx⟩ := h m (by omega); refine ⟨l ++ [x], by simp [h1], ?_, ?_⟩
      · intro y hy
        rcases List.mem_append.1 hy with hy | hy
        · exact h2 y hy
        · rw [List.mem_singleton.1 hy]; exact hq
      · intro i y hy
        by_cases hi : i < l.length
        · rw [List.getElem?_append_left hi] at hy; exact h3 i y hy
        · rw [List.getElem?_append_right (by omega)] at hy; have hi0 : i - l.length = 0 := by have := (List.getElem?_eq_some_iff.1 hy).1; simp at this; omega
          rw [hi0] at hy; simp at hy
          subst hy; obtain rfl : i = m := by omega
          exact hx
  obtain ⟨l, h1, h2, h3⟩ := key n (Nat.le_refl _); refine ⟨l, ⟨h1, fun _ => ⟨b, off, rfl, hb, fun q u hu => ?_⟩⟩, h2⟩; have hd : q = q / sz * sz + q % sz := by rw [Nat.mul_comm]; exact (Nat.div_add_mod q sz).symm
  rw [hd, cellsOf_get hs _ _ _ (Nat.mod_lt _ hsz)] at hu; cases hx : l[q / sz]? with
  | none => rw [hx] at hu; cases hu
  | some x =>
    rw [hx] at hu; have := h3 _ _ hx _ _ hu
    rwa [← hd] at this

end Go.Proofs.Ytpmeaikiaoojkaa
namespace Go.Proofs.Ytpmeaikiaoojkaa
open Go.ChangeShapes Go.WideShapes Go.Deep Go.ChangeAt Go.RowKit

theorem open_bytes {H : Type} {enc : TypeId × Value → H} {P : Program} {w : World} {spare : Nat → Bool} {held : Bool} {t e : TypeId} {fuel : Nat} {a0 : Option Addr} {len cap : Nat} {x : DataW H × List MemPlace}
    (ht : P.underlying t = some (.slice e)) (he : P.underlying e = some (.int .u8)) (hC : P.cellsOf e = 1) (h : DataW.trod enc P w 0 spare held fuel t (Value.slice a0 len cap).cells.toList = some x) :
    ∃ l, Sl encB w w.heap.size a0 len l ∧ len ≤ cap ∧ cap ≤ maxLen := by
  have hcs0 : (Value.slice a0 len cap).cells.toList = [.slice a0 len cap] := rfl; rw [hcs0] at h
  rcases open_slice ht h with ⟨hcs, _⟩ | ⟨a, len', cap', m, n, D, Pl, hcs, hb, hl, hm, hmm, hx, hi⟩
  · simp only [List.cons.injEq, Value.slice.injEq, and_true] at hcs
    obtain ⟨rfl, rfl, rfl⟩ := hcs; exact ⟨[], Sl.nil _ _ _ _, by omega, by simp [maxLen]⟩
  · simp only [List.cons.injEq, Value.slice.injEq, and_true] at hcs
    obtain ⟨rfl, rfl, rfl⟩ := hcs; have hlm : len ≤ m := by rw [hmm]; split <;> omega
    by_cases hz : len = 0
    · subst hz; exact ⟨[], Sl.nil _ _ _ _, hl, hm⟩
    · have cell : ∀ i, i < len → ∃ v : UInt8, w.cell? (a.add (i * 1)) = some (.int .u8 (v.toNat : Int)) := by
        intro i hlt; obtain ⟨cs', hc, ht'⟩ := hi i (by omega); rw [hC] at hc; obtain ⟨_, hcl, hat⟩ := World.cells?_some hc; obtain ⟨q, e1, _, hq⟩ := DataW.trod_int he ht'; have := hat 0 (by omega); simp only [e1] at this
        refine ⟨UInt8.ofNat q.toNat, ?_⟩; rw [Go.Deep.add_add, Nat.add_zero] at this; rw [this]; have hq2 : 0 ≤ q ∧ q ≤ 255 := bounds_u8 hq; have h3 : ((UInt8.ofNat q.toNat).toNat : Int) = q := by rw [UInt8.toNat_ofNat_of_lt' (by simp [UInt8.size]; omega)]; omega
        rw [h3]; rfl
      obtain ⟨b, off, spot⟩ := a; obtain ⟨s0, c00⟩ := cell 0 (by omega); have hspot : spot = none := by simpa [Addr.add] using World.cell?_spot c00
      subst hspot; have hadd : ∀ k, (⟨b, off, none⟩ : Addr).add k = ⟨b, off + k, none⟩ := fun k => by unfold Addr.add; split <;> simp_all
      have hbb : b < w.heap.size := by
        have := World.block_lt_of_cell? w _ c00; rw [hadd] at this; exact this
      obtain ⟨l, hl1, -⟩ := sl_build (enc := encB) encB_len (by omega) (Q := fun _ : UInt8 => True) (w := w) (B := w.heap.size) (b := b) (off := off) (n := len) hbb (by
        intro i hlt; obtain ⟨q, c0⟩ := cell i hlt; rw [hadd] at c0; refine ⟨q, trivial, fun j u hu => ?_⟩
        match j, hu with
        | 0, hu => simp [encB] at hu; subst hu; exact c0
        | j + 1, hu => simp [encB] at hu)
      exact ⟨l, hl1, hl, hm⟩
end Go.Proofs.Ytpmeaikiaoojkaa
