/- Contracts over talks: szTalk, toTalk, eqTalk, slices.Equal, TalkSame of the program and of the reference. -/
import Derived.Test.YtpmeaikiaoojkaaS1
import Derived.Test.YtpmeaikiaoojkaaN1N
import Derived.Deep.QuietTactic
import Derived.BigQuiet
namespace Go.Proofs.Ytpmeaikiaoojkaa
open Go.RowKit

def SzTalkPost (w : World) (n k s : Nat) (left : Int) (e : Ending) (w' : World) : Prop :=
  ∃ v : Int, e = .returned (.int .i64 v) ∧ -1 ≤ v ∧ v ≤ left ∧ (0 ≤ v → (n : Int) ≤ left ∧ (k : Int) ≤ left ∧ (s : Int) ≤ left) ∧ Below w.heap.size w w'
set_option maxHeartbeats 2000000 in
theorem szTalk (on1 bad1 : Bool) (at1 : Int) (A1 : Option Addr) (n1 c1 : Nat) (l1 : List Write) (G1 : Option Addr) (k1 d1 : Nat) (g1 : List Named) (sk1 go1 : Bool) (in1 : ByteArray) (left : Int) (w : World) (hr : Sl encWrite w w.heap.size A1 n1 l1) (hk : WriteSWf l1) (hn : n1 ≤ maxLen) (hg : Sl encNamed w w.heap.size G1 k1 g1) (hgw : NamedSWf g1) (hgk : k1 ≤ maxLen) (hi : in1.size ≤ maxLen) (h1 : 0 ≤ left) (h2 : left ≤ 1048576) :
    Calls Try.prog 31 #[.agg #[.bool on1, .bool bad1, .int .i64 at1, .slice A1 n1 c1, .slice G1 k1 d1, .bool sk1, .bool go1, .string in1], .int .i64 left] w (SzTalkPost w n1 k1 in1.size left) := by
  have HN := Lib.hid hn
  have HK := Lib.hid hgk
  have HI := Lib.hid hi
  clear hn hgk hi
  have b0 := bel_alloc (Below.refl _ w) (.cells #[.bool on1, .bool bad1, .int .i64 at1, .slice A1 n1 c1, .slice G1 k1 d1, .bool sk1, .bool go1, .string in1] 67)
  have x0 := BoxC.new w 67 #[.bool on1, .bool bad1, .int .i64 at1, .slice A1 n1 c1, .slice G1 k1 d1, .bool sk1, .bool go1, .string in1]
  go_enter Try.func31, Try.ntmps31
  go_wp2_with fail
  refine (szSeat on1 bad1 at1 A1 n1 c1 l1 left _ (hr.on b0) hk HN.out h1 h2).mono ?_
  rintro e w1 ⟨v, rfl, hv0, hv1, hv2, hb⟩
  have b1 := bel_trans b0 hb
  have x1 := x0.on hb
  have y4 := x1.c (k := 4) rfl
  have y7 := x1.c (k := 7) rfl
  clear x0 hb b0
  by_cases hv : v < 0
  · go_wp2_with fail
    go_ret
    exact ⟨_, rfl, by omega, by omega, by omega, b1⟩
  go_wp2_with fail
  refine (szNamedS G1 k1 d1 g1 v _ (hg.on b1) hgw HK.out (by omega) (by omega)).mono ?_
  rintro e w2 ⟨u, rfl, hu0, hu1, hu2, hb⟩
  have b2 := bel_trans b1 hb
  have x2 := x1.on hb
  replace y7 := x2.c (k := 7) rfl
  clear x1 hb b1 y4
  by_cases hu : u < 0
  · go_wp2_with fail
    go_ret
    exact ⟨_, rfl, by omega, by omega, by omega, b2⟩
  have hi := HI.out
  unfold maxLen at hi
  go_wp2
  all_goals
    go_ret
    exact ⟨_, rfl, by omega, by omega, fun h => ⟨by omega, by omega, by omega⟩, b2⟩
def ToTalkPost (w : World) (on bad : Bool) (at_ : Int) (n : Nat) (l : List Write) (k : Nat) (g : List Named) (sk go : Bool) (inn : ByteArray) (e : Ending) (w' : World) : Prop :=
  ∃ p q, e = .returned (.agg #[.bool on, .bool bad, .int .i64 at_, .slice (some ⟨p, 0, none⟩) n n, .slice (some ⟨q, 0, none⟩) k k, .bool sk, .bool go, .string inn]) ∧ Own encWrite 3 113 w' w.heap.size (.slice (some ⟨p, 0, none⟩) n n) l ∧ Own encNamed 5 64 w' w.heap.size (.slice (some ⟨q, 0, none⟩) k k) g ∧ Below w.heap.size w w'
set_option maxHeartbeats 4000000 in
set_option maxRecDepth 100000 in
theorem toTalk (on1 bad1 : Bool) (at1 : Int) (A1 : Option Addr) (n1 c1 : Nat) (l1 : List Write) (G1 : Option Addr) (k1 d1 : Nat) (g1 : List Named) (sk1 go1 : Bool) (in1 : ByteArray) (w : World) (hr : Sl encWrite w w.heap.size A1 n1 l1) (hn : n1 ≤ 1048576) (hg : Sl encNamed w w.heap.size G1 k1 g1) (hgk : k1 ≤ 1048576) :
    Calls Try.prog 32 #[.agg #[.bool on1, .bool bad1, .int .i64 at1, .slice A1 n1 c1, .slice G1 k1 d1, .bool sk1, .bool go1, .string in1]] w (ToTalkPost w on1 bad1 at1 n1 l1 k1 g1 sk1 go1 in1) := by
  have HR := Lib.hid hr
  have HN := Lib.hid hn
  have HG := Lib.hid hg
  have HK := Lib.hid hgk
  clear hr hn hg hgk
  have b0 := bel_alloc (Below.refl _ w) (.cells #[.bool on1, .bool bad1, .int .i64 at1, .slice A1 n1 c1, .slice G1 k1 d1, .bool sk1, .bool go1, .string in1] 67)
  have x1 := BoxC.new w 67 #[.bool on1, .bool bad1, .int .i64 at1, .slice A1 n1 c1, .slice G1 k1 d1, .bool sk1, .bool go1, .string in1]
  have b1 := bel_alloc b0 (.cells #[.bool false, .bool false, .int .i64 0, .slice none 0 0, .slice none 0 0, .bool false, .bool false, .string ByteArray.empty] 57)
  have x2 := BoxC.new (w.alloc (.cells #[.bool on1, .bool bad1, .int .i64 at1, .slice A1 n1 c1, .slice G1 k1 d1, .bool sk1, .bool go1, .string in1] 67)) 57 #[.bool false, .bool false, .int .i64 0, .slice none 0 0, .slice none 0 0, .bool false, .bool false, .string ByteArray.empty]
  have b2 := bel_alloc b1 (.cells #[.bool false, .bool false, .int .i64 0, .slice none 0 0, .slice none 0 0, .bool false, .bool false, .string ByteArray.empty] 57)
  have x3 := BoxC.new ((w.alloc (.cells #[.bool on1, .bool bad1, .int .i64 at1, .slice A1 n1 c1, .slice G1 k1 d1, .bool sk1, .bool go1, .string in1] 67)).alloc (.cells #[.bool false, .bool false, .int .i64 0, .slice none 0 0, .slice none 0 0, .bool false, .bool false, .string ByteArray.empty] 57)) 57 #[.bool false, .bool false, .int .i64 0, .slice none 0 0, .slice none 0 0, .bool false, .bool false, .string ByteArray.empty]
  replace x1 := (x1.alloc (.cells #[.bool false, .bool false, .int .i64 0, .slice none 0 0, .slice none 0 0, .bool false, .bool false, .string ByteArray.empty] 57)).alloc (.cells #[.bool false, .bool false, .int .i64 0, .slice none 0 0, .slice none 0 0, .bool false, .bool false, .string ByteArray.empty] 57)
  replace x2 := x2.alloc (.cells #[.bool false, .bool false, .int .i64 0, .slice none 0 0, .slice none 0 0, .bool false, .bool false, .string ByteArray.empty] 57)
  simp only [World.size_alloc] at x2 x3
  clear b0 b1
  go_enter Try.func32, Try.ntmps32
  go_wp2_with fail
  refine (toSeat on1 bad1 at1 A1 n1 c1 l1 _ (HR.out.on b2) HN.out).mono ?_
  rintro e w1 ⟨p, rfl, ho, hb⟩
  have p1 : w.heap.size < w1.heap.size := by have := (x3.on hb).lt; omega
  replace x1 := x1.on hb
  replace x2 := x2.on hb
  replace x3 := x3.on hb
  have S2 := b2.size
  have b3 := bel_trans b2 hb
  have hz := x3.lt
  have f30 := x3.f 0
  have c30 := x3.c (k := 0) rfl
  have f31 := x3.f 1
  have c31 := x3.c (k := 1) rfl
  have f32 := x3.f 2
  have c32 := x3.c (k := 2) rfl
  have f33 := x3.f 3
  have c33 := x3.c (k := 3) rfl
  have c14 := x1.c (k := 4) rfl
  have c15 := x1.c (k := 5) rfl
  have c16 := x1.c (k := 6) rfl
  have c17 := x1.c (k := 7) rfl
  have o0 := ho.box (k := 0) (v := .bool on1) x3 (by decide)
  replace x3 := x3.set 0 (.bool on1)
  replace x1 := x1.other (B' := w.heap.size + 1 + 1) (k := 0) (x := .bool on1) (by omega)
  replace x2 := x2.other (B' := w.heap.size + 1 + 1) (k := 0) (x := .bool on1) (by omega)
  replace b3 := bel_set b3 (p := ⟨w.heap.size + 1 + 1, 0, none⟩) (by simp only; omega) (.bool on1)
  have o1 := o0.box (k := 1) (v := .bool bad1) x3 (by decide)
  replace x3 := x3.set 1 (.bool bad1)
  replace x1 := x1.other (B' := w.heap.size + 1 + 1) (k := 1) (x := .bool bad1) (by omega)
  replace x2 := x2.other (B' := w.heap.size + 1 + 1) (k := 1) (x := .bool bad1) (by omega)
  replace b3 := bel_set b3 (p := ⟨w.heap.size + 1 + 1, 1, none⟩) (by simp only; omega) (.bool bad1)
  have o2 := o1.box (k := 2) (v := .int .i64 at1) x3 (by decide)
  replace x3 := x3.set 2 (.int .i64 at1)
  replace x1 := x1.other (B' := w.heap.size + 1 + 1) (k := 2) (x := .int .i64 at1) (by omega)
  replace x2 := x2.other (B' := w.heap.size + 1 + 1) (k := 2) (x := .int .i64 at1) (by omega)
  replace b3 := bel_set b3 (p := ⟨w.heap.size + 1 + 1, 2, none⟩) (by simp only; omega) (.int .i64 at1)
  have o3 := o2.box (k := 3) (v := .slice (some ⟨p, 0, none⟩) n1 n1) x3 (by decide)
  replace x3 := x3.set 3 (.slice (some ⟨p, 0, none⟩) n1 n1)
  replace x1 := x1.other (B' := w.heap.size + 1 + 1) (k := 3) (x := .slice (some ⟨p, 0, none⟩) n1 n1) (by omega)
  replace x2 := x2.other (B' := w.heap.size + 1 + 1) (k := 3) (x := .slice (some ⟨p, 0, none⟩) n1 n1) (by omega)
  replace b3 := bel_set b3 (p := ⟨w.heap.size + 1 + 1, 3, none⟩) (by simp only; omega) (.slice (some ⟨p, 0, none⟩) n1 n1)
  generalize hW : (((w1.setCell ⟨w.heap.size + 1 + 1, 0, none⟩ (.bool on1)).setCell ⟨w.heap.size + 1 + 1, 1, none⟩ (.bool bad1)).setCell ⟨w.heap.size + 1 + 1, 2, none⟩ (.int .i64 at1)).setCell ⟨w.heap.size + 1 + 1, 3, none⟩ (.slice (some ⟨p, 0, none⟩) n1 n1) = W at o3 x1 x2 x3 b3
  have HW := Lib.hid hW
  clear hW o0 o1 o2 ho hb b2
  go_wp2_with fail
  rw [HW.out]
  clear HW f30 f31 f32 f33 c30 c31 c32 c33 c14 c15 c16 c17 hz p1
  refine (toNamedS G1 k1 d1 g1 _ (HG.out.on b3) HK.out).mono ?_
  rintro e w2 ⟨q, rfl, ho, hb⟩
  replace x1 := x1.on hb
  replace x2 := x2.on hb
  replace x3 := x3.on hb
  replace o3 := o3.on hb
  have S3 := b3.size
  replace b3 := bel_trans b3 hb
  have hz := x3.lt
  have c14 := x1.c (k := 4) rfl
  have c15 := x1.c (k := 5) rfl
  have c16 := x1.c (k := 6) rfl
  have c17 := x1.c (k := 7) rfl
  have f30 := x3.f 0
  have f20 := x2.f 0
  have c30 := x3.c (k := 0) rfl
  have c20 := x2.c (k := 0) rfl
  have f31 := x3.f 1
  have f21 := x2.f 1
  have c31 := x3.c (k := 1) rfl
  have c21 := x2.c (k := 1) rfl
  have f32 := x3.f 2
  have f22 := x2.f 2
  have c32 := x3.c (k := 2) rfl
  have c22 := x2.c (k := 2) rfl
  have f33 := x3.f 3
  have f23 := x2.f 3
  have c33 := x3.c (k := 3) rfl
  have c23 := x2.c (k := 3) rfl
  have f34 := x3.f 4
  have f24 := x2.f 4
  have c34 := x3.c (k := 4) rfl
  have c24 := x2.c (k := 4) rfl
  have f35 := x3.f 5
  have f25 := x2.f 5
  have c35 := x3.c (k := 5) rfl
  have c25 := x2.c (k := 5) rfl
  have f36 := x3.f 6
  have f26 := x2.f 6
  have c36 := x3.c (k := 6) rfl
  have c26 := x2.c (k := 6) rfl
  have f37 := x3.f 7
  have f27 := x2.f 7
  have c37 := x3.c (k := 7) rfl
  have c27 := x2.c (k := 7) rfl
  have u4 := o3.box (k := 4) (v := .slice (some ⟨q, 0, none⟩) k1 k1) x3 (by decide)
  have v4 := ho.box (k := 4) (v := .slice (some ⟨q, 0, none⟩) k1 k1) x3 (by decide)
  replace x3 := x3.set 4 (.slice (some ⟨q, 0, none⟩) k1 k1)
  replace x2 := x2.other (B' := w.heap.size + 1 + 1) (k := 4) (x := .slice (some ⟨q, 0, none⟩) k1 k1) (by omega)
  replace b3 := bel_set b3 (p := ⟨w.heap.size + 1 + 1, 4, none⟩) (by simp only; omega) (.slice (some ⟨q, 0, none⟩) k1 k1)
  have u5 := u4.box (k := 5) (v := .bool sk1) x3 (by decide)
  have v5 := v4.box (k := 5) (v := .bool sk1) x3 (by decide)
  replace x3 := x3.set 5 (.bool sk1)
  replace x2 := x2.other (B' := w.heap.size + 1 + 1) (k := 5) (x := .bool sk1) (by omega)
  replace b3 := bel_set b3 (p := ⟨w.heap.size + 1 + 1, 5, none⟩) (by simp only; omega) (.bool sk1)
  have u6 := u5.box (k := 6) (v := .bool go1) x3 (by decide)
  have v6 := v5.box (k := 6) (v := .bool go1) x3 (by decide)
  replace x3 := x3.set 6 (.bool go1)
  replace x2 := x2.other (B' := w.heap.size + 1 + 1) (k := 6) (x := .bool go1) (by omega)
  replace b3 := bel_set b3 (p := ⟨w.heap.size + 1 + 1, 6, none⟩) (by simp only; omega) (.bool go1)
  have u7 := u6.box (k := 7) (v := .string in1) x3 (by decide)
  have v7 := v6.box (k := 7) (v := .string in1) x3 (by decide)
  replace x3 := x3.set 7 (.string in1)
  replace x2 := x2.other (B' := w.heap.size + 1 + 1) (k := 7) (x := .string in1) (by omega)
  replace b3 := bel_set b3 (p := ⟨w.heap.size + 1 + 1, 7, none⟩) (by simp only; omega) (.string in1)
  have mm0 := u7.box (k := 0) (v := .bool on1) x2 (by decide)
  have nn0 := v7.box (k := 0) (v := .bool on1) x2 (by decide)
  replace x2 := x2.set 0 (.bool on1)
  replace b3 := bel_set b3 (p := ⟨w.heap.size + 1, 0, none⟩) (by simp only; omega) (.bool on1)
  have mm1 := mm0.box (k := 1) (v := .bool bad1) x2 (by decide)
  have nn1 := nn0.box (k := 1) (v := .bool bad1) x2 (by decide)
  replace x2 := x2.set 1 (.bool bad1)
  replace b3 := bel_set b3 (p := ⟨w.heap.size + 1, 1, none⟩) (by simp only; omega) (.bool bad1)
  have mm2 := mm1.box (k := 2) (v := .int .i64 at1) x2 (by decide)
  have nn2 := nn1.box (k := 2) (v := .int .i64 at1) x2 (by decide)
  replace x2 := x2.set 2 (.int .i64 at1)
  replace b3 := bel_set b3 (p := ⟨w.heap.size + 1, 2, none⟩) (by simp only; omega) (.int .i64 at1)
  have mm3 := mm2.box (k := 3) (v := .slice (some ⟨p, 0, none⟩) n1 n1) x2 (by decide)
  have nn3 := nn2.box (k := 3) (v := .slice (some ⟨p, 0, none⟩) n1 n1) x2 (by decide)
  replace x2 := x2.set 3 (.slice (some ⟨p, 0, none⟩) n1 n1)
  replace b3 := bel_set b3 (p := ⟨w.heap.size + 1, 3, none⟩) (by simp only; omega) (.slice (some ⟨p, 0, none⟩) n1 n1)
  have mm4 := mm3.box (k := 4) (v := .slice (some ⟨q, 0, none⟩) k1 k1) x2 (by decide)
  have nn4 := nn3.box (k := 4) (v := .slice (some ⟨q, 0, none⟩) k1 k1) x2 (by decide)
  replace x2 := x2.set 4 (.slice (some ⟨q, 0, none⟩) k1 k1)
  replace b3 := bel_set b3 (p := ⟨w.heap.size + 1, 4, none⟩) (by simp only; omega) (.slice (some ⟨q, 0, none⟩) k1 k1)
  have mm5 := mm4.box (k := 5) (v := .bool sk1) x2 (by decide)
  have nn5 := nn4.box (k := 5) (v := .bool sk1) x2 (by decide)
  replace x2 := x2.set 5 (.bool sk1)
  replace b3 := bel_set b3 (p := ⟨w.heap.size + 1, 5, none⟩) (by simp only; omega) (.bool sk1)
  have mm6 := mm5.box (k := 6) (v := .bool go1) x2 (by decide)
  have nn6 := nn5.box (k := 6) (v := .bool go1) x2 (by decide)
  replace x2 := x2.set 6 (.bool go1)
  replace b3 := bel_set b3 (p := ⟨w.heap.size + 1, 6, none⟩) (by simp only; omega) (.bool go1)
  have mm7 := mm6.box (k := 7) (v := .string in1) x2 (by decide)
  have nn7 := nn6.box (k := 7) (v := .string in1) x2 (by decide)
  replace x2 := x2.set 7 (.string in1)
  replace b3 := bel_set b3 (p := ⟨w.heap.size + 1, 7, none⟩) (by simp only; omega) (.string in1)
  have O6 := Lib.hid (mm7.lower (base' := w.heap.size) S2)
  have O7 := Lib.hid (nn7.lower (base' := w.heap.size) S3)
  have B6 := Lib.hid b3
  clear S2 S3 u4 v4 u5 v5 u6 v6 u7 v7 mm0 nn0 mm1 nn1 mm2 nn2 mm3 nn3 mm4 nn4 mm5 nn5 mm6 nn6 mm7 nn7 x1 x2 x3 o3 ho hb b3
  go_wp2_with fail
  exact bodyPost_ret (v := .agg #[.bool on1, .bool bad1, .int .i64 at1, .slice (some ⟨p, 0, none⟩) n1 n1, .slice (some ⟨q, 0, none⟩) k1 k1, .bool sk1, .bool go1, .string in1]) (by simp [results, Try.results32, go_sem, c20, c21, c22, c23, c24, c25, c26, c27]) rfl ⟨p, q, rfl, O6.out, O7.out, B6.out⟩
def TalkEq (on1 bad1 : Bool) (at1 : Int) (l1 : List Write) (g1 : List Named) (sk1 go1 : Bool) (in1 : ByteArray) (on2 bad2 : Bool) (at2 : Int) (l2 : List Write) (g2 : List Named) (sk2 go2 : Bool) (in2 : ByteArray) : Bool :=
  SeatEq on1 bad1 at1 l1 on2 bad2 at2 l2 && (namedSEq g1 g2 && ((sk1 == sk2) && ((go1 == go2) && (in1.toList == in2.toList))))
theorem TalkEq_self (on1 bad1 : Bool) (at1 : Int) (l1 : List Write) (g1 : List Named) (sk1 go1 : Bool) (in1 : ByteArray) : TalkEq on1 bad1 at1 l1 g1 sk1 go1 in1 on1 bad1 at1 l1 g1 sk1 go1 in1 = true := by simp [TalkEq, SeatEq_self, namedSEq_self]
theorem TalkEq_comm (on1 bad1 : Bool) (at1 : Int) (l1 : List Write) (g1 : List Named) (sk1 go1 : Bool) (in1 : ByteArray) (on2 bad2 : Bool) (at2 : Int) (l2 : List Write) (g2 : List Named) (sk2 go2 : Bool) (in2 : ByteArray) : TalkEq on1 bad1 at1 l1 g1 sk1 go1 in1 on2 bad2 at2 l2 g2 sk2 go2 in2 = TalkEq on2 bad2 at2 l2 g2 sk2 go2 in2 on1 bad1 at1 l1 g1 sk1 go1 in1 := by
  unfold TalkEq
  rw [SeatEq_comm on1 bad1 at1 l1 on2 bad2 at2 l2, show namedSEq g1 g2 = namedSEq g2 g1 from decide_eq_decide.2 eq_comm, show (in1.toList == in2.toList) = (in2.toList == in1.toList) from Bool.beq_comm]
  cases sk1 <;> cases sk2 <;> cases go1 <;> cases go2 <;> rfl
theorem ite_facts {sk1 sk2 : Bool} : (sk1 != sk2) = !(sk1 == sk2) := rfl
set_option maxHeartbeats 4000000 in
set_option maxRecDepth 100000 in
theorem eqTalk (on1 bad1 : Bool) (at1 : Int) (A1 : Option Addr) (n1 c1 : Nat) (l1 : List Write) (G1 : Option Addr) (k1 d1 : Nat) (g1 : List Named) (sk1 go1 : Bool) (in1 : ByteArray) (on2 bad2 : Bool) (at2 : Int) (A2 : Option Addr) (n2 c2 : Nat) (l2 : List Write) (G2 : Option Addr) (k2 d2 : Nat) (g2 : List Named) (sk2 go2 : Bool) (in2 : ByteArray) (w : World) (hr : Sl encWrite w w.heap.size A1 n1 l1) (hs : Sl encWrite w w.heap.size A2 n2 l2) (hn : n1 ≤ 1048576) (hg : Sl encNamed w w.heap.size G1 k1 g1) (hh : Sl encNamed w w.heap.size G2 k2 g2) (hk : k1 ≤ 1048576) :
    Calls Try.prog 33 #[.agg #[.bool on1, .bool bad1, .int .i64 at1, .slice A1 n1 c1, .slice G1 k1 d1, .bool sk1, .bool go1, .string in1], .agg #[.bool on2, .bool bad2, .int .i64 at2, .slice A2 n2 c2, .slice G2 k2 d2, .bool sk2, .bool go2, .string in2]] w fun e w' => e = .returned (.bool (TalkEq on1 bad1 at1 l1 g1 sk1 go1 in1 on2 bad2 at2 l2 g2 sk2 go2 in2)) ∧ Below w.heap.size w w' := by
  have HN := Lib.hid hn
  have HK := Lib.hid hk
  clear hn hk
  have b0 := bel_alloc (bel_alloc (Below.refl _ w) (.cells #[.bool on1, .bool bad1, .int .i64 at1, .slice A1 n1 c1, .slice G1 k1 d1, .bool sk1, .bool go1, .string in1] 57)) (.cells #[.bool on2, .bool bad2, .int .i64 at2, .slice A2 n2 c2, .slice G2 k2 d2, .bool sk2, .bool go2, .string in2] 57)
  have x1 := (BoxC.new w 57 #[.bool on1, .bool bad1, .int .i64 at1, .slice A1 n1 c1, .slice G1 k1 d1, .bool sk1, .bool go1, .string in1]).alloc (.cells #[.bool on2, .bool bad2, .int .i64 at2, .slice A2 n2 c2, .slice G2 k2 d2, .bool sk2, .bool go2, .string in2] 57)
  have x2 := BoxC.new (w.alloc (.cells #[.bool on1, .bool bad1, .int .i64 at1, .slice A1 n1 c1, .slice G1 k1 d1, .bool sk1, .bool go1, .string in1] 57)) 57 #[.bool on2, .bool bad2, .int .i64 at2, .slice A2 n2 c2, .slice G2 k2 d2, .bool sk2, .bool go2, .string in2]
  simp only [World.size_alloc] at x2
  have a0 := x1.c (k := 0) rfl
  have z0 := x2.c (k := 0) rfl
  have a1 := x1.c (k := 1) rfl
  have z1 := x2.c (k := 1) rfl
  have a2 := x1.c (k := 2) rfl
  have z2 := x2.c (k := 2) rfl
  have a3 := x1.c (k := 3) rfl
  have z3 := x2.c (k := 3) rfl
  have a4 := x1.c (k := 4) rfl
  have z4 := x2.c (k := 4) rfl
  have a5 := x1.c (k := 5) rfl
  have z5 := x2.c (k := 5) rfl
  have a6 := x1.c (k := 6) rfl
  have z6 := x2.c (k := 6) rfl
  have a7 := x1.c (k := 7) rfl
  have z7 := x2.c (k := 7) rfl
  have C := Lib.hid (fun W hW => eqSeat on1 bad1 at1 A1 n1 c1 l1 on2 bad2 at2 A2 n2 c2 l2 W (hr.on (hW : Below w.heap.size w W)) (hs.on hW) HN.out)
  have C2 := Lib.hid (fun W hW => eqNamedS G1 G2 k1 k2 d1 d2 g1 g2 W (hg.on (hW : Below w.heap.size w W)) (hh.on hW) HK.out)
  clear hr hs hg hh
  obtain ⟨r, hr⟩ : ∃ r, SeatEq on1 bad1 at1 l1 on2 bad2 at2 l2 = r := ⟨_, rfl⟩
  obtain ⟨q, hq⟩ : ∃ q, namedSEq g1 g2 = q := ⟨_, rfl⟩
  have HF := Lib.hid (show TalkEq on1 bad1 at1 l1 g1 sk1 go1 in1 on2 bad2 at2 l2 g2 sk2 go2 in2 = (SeatEq on1 bad1 at1 l1 on2 bad2 at2 l2 && (namedSEq g1 g2 && ((sk1 == sk2) && ((go1 == go2) && (in1.toList == in2.toList))))) from rfl)
  rw [hr] at C HF
  rw [hq] at C2 HF
  clear hr hq
  go_enter Try.func33, Try.ntmps33
  go_wp2_with fail
  refine (C.out _ b0).mono ?_
  rintro e w1 ⟨rfl, hb⟩
  have b1 := bel_trans b0 hb
  replace a0 := (x1.on hb).c (k := 0) rfl
  replace z0 := (x2.on hb).c (k := 0) rfl
  replace a1 := (x1.on hb).c (k := 1) rfl
  replace z1 := (x2.on hb).c (k := 1) rfl
  replace a2 := (x1.on hb).c (k := 2) rfl
  replace z2 := (x2.on hb).c (k := 2) rfl
  replace a3 := (x1.on hb).c (k := 3) rfl
  replace z3 := (x2.on hb).c (k := 3) rfl
  replace a4 := (x1.on hb).c (k := 4) rfl
  replace z4 := (x2.on hb).c (k := 4) rfl
  replace a5 := (x1.on hb).c (k := 5) rfl
  replace z5 := (x2.on hb).c (k := 5) rfl
  replace a6 := (x1.on hb).c (k := 6) rfl
  replace z6 := (x2.on hb).c (k := 6) rfl
  replace a7 := (x1.on hb).c (k := 7) rfl
  replace z7 := (x2.on hb).c (k := 7) rfl
  replace x1 := x1.on hb
  replace x2 := x2.on hb
  clear hb b0
  cases r
  · rw [Bool.false_and] at HF
    go_wp2_with fail
    go_ret
    exact ⟨retBool HF.out.symm, b1⟩
  rw [Bool.true_and] at HF
  go_wp2_with fail
  refine (C2.out _ b1).mono ?_
  rintro e w2 ⟨rfl, hb⟩
  have b2 := bel_trans b1 hb
  replace a0 := (x1.on hb).c (k := 0) rfl
  replace z0 := (x2.on hb).c (k := 0) rfl
  replace a1 := (x1.on hb).c (k := 1) rfl
  replace z1 := (x2.on hb).c (k := 1) rfl
  replace a2 := (x1.on hb).c (k := 2) rfl
  replace z2 := (x2.on hb).c (k := 2) rfl
  replace a3 := (x1.on hb).c (k := 3) rfl
  replace z3 := (x2.on hb).c (k := 3) rfl
  replace a4 := (x1.on hb).c (k := 4) rfl
  replace z4 := (x2.on hb).c (k := 4) rfl
  replace a5 := (x1.on hb).c (k := 5) rfl
  replace z5 := (x2.on hb).c (k := 5) rfl
  replace a6 := (x1.on hb).c (k := 6) rfl
  replace z6 := (x2.on hb).c (k := 6) rfl
  replace a7 := (x1.on hb).c (k := 7) rfl
  replace z7 := (x2.on hb).c (k := 7) rfl
  clear hb b1 x1 x2
  cases q
  · rw [Bool.false_and] at HF
    go_wp2_with fail
    go_ret
    exact ⟨retBool HF.out.symm, b2⟩
  rw [Bool.true_and] at HF
  cases h5 : (sk1 == sk2) <;> cases h6 : (go1 == go2) <;> cases h7 : (in1.toList == in2.toList)
  all_goals
    rw [h5, h6, h7] at HF
    have q5 : (sk1 != sk2) = !(sk1 == sk2) := rfl
    have q6 : (go1 != go2) = !(go1 == go2) := rfl
    rw [h5] at q5
    rw [h6] at q6
    simp only [Bool.not_true, Bool.not_false] at q5 q6
    go_wp2
    go_ret
    exact ⟨retBool HF.out.symm, b2⟩
set_option maxRecDepth 100000 in
set_option maxHeartbeats 4000000 in
theorem equalNamed (G1 G2 : Option Addr) (k1 k2 d1 d2 : Nat) (g1 g2 : List Named) (w : World) (hg : Sl encNamed w w.heap.size G1 k1 g1) (hh : Sl encNamed w w.heap.size G2 k2 g2) (hn : k1 ≤ 1048576) :
    Calls Try.prog 55 #[.slice G1 k1 d1, .slice G2 k2 d2] w fun e w' => e = .returned (.bool (namedSEq g1 g2)) ∧ Below w.heap.size w w' := by
  have HL := Lib.hid hg.len
  have HP := Lib.hid hh.len
  by_cases hnm : k1 = k2
  · subst hnm
    have hne : ((k1 : Int) != (k1 : Int)) = false := by simp
    go_enter Try.func55, Try.ntmps55
    go_wp2
    go_loopw [5, 13] (fun _ i wr => ∃ k : Nat, k ≤ k1 ∧ i = .int .i64 k ∧ EqToNamed g1 g2 k ∧ Below w.heap.size w wr) (fun _ i _ => k1 - (intOf i).toNat)
    case atStart => exact ⟨0, by omega, rfl, EqToNamed.zero g1 g2, Below.refl _ _⟩
    case round =>
      obtain ⟨k, hkn, rfl, heq, hbel⟩ := hrel
      by_cases hlt : k < k1
      · obtain ⟨b, off, rfl, hb⟩ := hg.spot (by omega)
        obtain ⟨b2, off2, rfl, hz2⟩ := hh.spot (by omega)
        obtain ⟨f0, f1, f2, f3, f4, hrow, ha0, ha1, ha2, ha3, ha4⟩ := atNamed (hg.keep hbel) hlt
        obtain ⟨y0, y1, y2, y3, y4, hrow2, hb0, hb1, hb2, hb3, hb4⟩ := atNamed (hh.keep hbel) hlt
        have HR := Lib.hid hrow
        have HR2 := Lib.hid hrow2
        clear hrow hrow2
        have i0 : (0 : Int) ≤ (k : Int) := by omega
        have i1 : (k : Int) < (k1 : Int) := by omega
        cases he : eqNamedB (f0, f1, f2, f3, f4) (y0, y1, y2, y3, y4)
        all_goals
          have q1 := neqNamed f0 f1 f2 f3 f4 y0 y1 y2 y3 y4
          have q2 := guardNamed
          rw [he] at q1
          have HE := Lib.hid he
          clear he
          go_wp2_with fail
          go_quiet (fail)
          go_wp2
        · go_ret
          exact ⟨retBool (namedSEq_at HR.out HR2.out HE.out).symm, bel_drewN hbel _⟩
        · go_roundw
          case rel => exact ⟨k + 1, by omega, by go_num, heq.step HR.out HR2.out HE.out, bel_drewN hbel _⟩
          case measure => simp [intOf]; omega
      · go_wp2
        go_ret
        exact ⟨retBool (heq.all (by rw [HL.out]; omega) (by rw [HP.out]; omega)).symm, hbel⟩
  · have hf : namedSEq g1 g2 = false := namedSEq_len (by rw [HL.out, HP.out]; exact hnm)
    have HF := Lib.hid hf
    clear hf
    have hne : ((k1 : Int) != (k2 : Int)) = true := by simp; omega
    clear hnm
    go_enter Try.func55, Try.ntmps55
    go_wp2
    go_ret
    exact ⟨retBool HF.out.symm, Below.refl _ _⟩
set_option maxHeartbeats 4000000 in
set_option maxRecDepth 100000 in
theorem implTalkSame (on1 bad1 : Bool) (at1 : Int) (A1 : Option Addr) (n1 c1 : Nat) (l1 : List Write) (G1 : Option Addr) (k1 d1 : Nat) (g1 : List Named) (sk1 go1 : Bool) (in1 : ByteArray) (on2 bad2 : Bool) (at2 : Int) (A2 : Option Addr) (n2 c2 : Nat) (l2 : List Write) (G2 : Option Addr) (k2 d2 : Nat) (g2 : List Named) (sk2 go2 : Bool) (in2 : ByteArray) (w : World) (hr : Sl encWrite w w.heap.size A1 n1 l1) (hs : Sl encWrite w w.heap.size A2 n2 l2) (hn : n1 ≤ 1048576) (hg : Sl encNamed w w.heap.size G1 k1 g1) (hh : Sl encNamed w w.heap.size G2 k2 g2) (hk : k1 ≤ 1048576) :
    Calls Try.prog 29 #[.agg #[.bool on1, .bool bad1, .int .i64 at1, .slice A1 n1 c1, .slice G1 k1 d1, .bool sk1, .bool go1, .string in1], .agg #[.bool on2, .bool bad2, .int .i64 at2, .slice A2 n2 c2, .slice G2 k2 d2, .bool sk2, .bool go2, .string in2]] w fun e w' => e = .returned (.bool (TalkEq on1 bad1 at1 l1 g1 sk1 go1 in1 on2 bad2 at2 l2 g2 sk2 go2 in2)) ∧ Below w.heap.size w w' := by
  have HN := Lib.hid hn
  have HK := Lib.hid hk
  clear hn hk
  have b0 := bel_alloc (bel_alloc (Below.refl _ w) (.cells #[.bool on1, .bool bad1, .int .i64 at1, .slice A1 n1 c1, .slice G1 k1 d1, .bool sk1, .bool go1, .string in1] 57)) (.cells #[.bool on2, .bool bad2, .int .i64 at2, .slice A2 n2 c2, .slice G2 k2 d2, .bool sk2, .bool go2, .string in2] 57)
  have x1 := (BoxC.new w 57 #[.bool on1, .bool bad1, .int .i64 at1, .slice A1 n1 c1, .slice G1 k1 d1, .bool sk1, .bool go1, .string in1]).alloc (.cells #[.bool on2, .bool bad2, .int .i64 at2, .slice A2 n2 c2, .slice G2 k2 d2, .bool sk2, .bool go2, .string in2] 57)
  have x2 := BoxC.new (w.alloc (.cells #[.bool on1, .bool bad1, .int .i64 at1, .slice A1 n1 c1, .slice G1 k1 d1, .bool sk1, .bool go1, .string in1] 57)) 57 #[.bool on2, .bool bad2, .int .i64 at2, .slice A2 n2 c2, .slice G2 k2 d2, .bool sk2, .bool go2, .string in2]
  simp only [World.size_alloc] at x2
  have a0 := x1.c (k := 0) rfl
  have z0 := x2.c (k := 0) rfl
  have a1 := x1.c (k := 1) rfl
  have z1 := x2.c (k := 1) rfl
  have a2 := x1.c (k := 2) rfl
  have z2 := x2.c (k := 2) rfl
  have a3 := x1.c (k := 3) rfl
  have z3 := x2.c (k := 3) rfl
  have a4 := x1.c (k := 4) rfl
  have z4 := x2.c (k := 4) rfl
  have a5 := x1.c (k := 5) rfl
  have z5 := x2.c (k := 5) rfl
  have a6 := x1.c (k := 6) rfl
  have z6 := x2.c (k := 6) rfl
  have a7 := x1.c (k := 7) rfl
  have z7 := x2.c (k := 7) rfl
  have C := Lib.hid (fun W hW => implSeatSame on1 bad1 at1 A1 n1 c1 l1 on2 bad2 at2 A2 n2 c2 l2 W (hr.on (hW : Below w.heap.size w W)) (hs.on hW) HN.out)
  have C2 := Lib.hid (fun W hW => equalNamed G1 G2 k1 k2 d1 d2 g1 g2 W (hg.on (hW : Below w.heap.size w W)) (hh.on hW) HK.out)
  clear hr hs hg hh
  obtain ⟨r, hr⟩ : ∃ r, SeatEq on1 bad1 at1 l1 on2 bad2 at2 l2 = r := ⟨_, rfl⟩
  obtain ⟨q, hq⟩ : ∃ q, namedSEq g1 g2 = q := ⟨_, rfl⟩
  have HF := Lib.hid (show TalkEq on1 bad1 at1 l1 g1 sk1 go1 in1 on2 bad2 at2 l2 g2 sk2 go2 in2 = (SeatEq on1 bad1 at1 l1 on2 bad2 at2 l2 && (namedSEq g1 g2 && ((sk1 == sk2) && ((go1 == go2) && (in1.toList == in2.toList))))) from rfl)
  rw [hr] at C HF
  rw [hq] at C2 HF
  clear hr hq
  go_enter Try.func29, Try.ntmps29
  go_wp2_with fail
  refine (C.out _ b0).mono ?_
  rintro e w1 ⟨rfl, hb⟩
  have b1 := bel_trans b0 hb
  replace a0 := (x1.on hb).c (k := 0) rfl
  replace z0 := (x2.on hb).c (k := 0) rfl
  replace a1 := (x1.on hb).c (k := 1) rfl
  replace z1 := (x2.on hb).c (k := 1) rfl
  replace a2 := (x1.on hb).c (k := 2) rfl
  replace z2 := (x2.on hb).c (k := 2) rfl
  replace a3 := (x1.on hb).c (k := 3) rfl
  replace z3 := (x2.on hb).c (k := 3) rfl
  replace a4 := (x1.on hb).c (k := 4) rfl
  replace z4 := (x2.on hb).c (k := 4) rfl
  replace a5 := (x1.on hb).c (k := 5) rfl
  replace z5 := (x2.on hb).c (k := 5) rfl
  replace a6 := (x1.on hb).c (k := 6) rfl
  replace z6 := (x2.on hb).c (k := 6) rfl
  replace a7 := (x1.on hb).c (k := 7) rfl
  replace z7 := (x2.on hb).c (k := 7) rfl
  replace x1 := x1.on hb
  replace x2 := x2.on hb
  clear hb b0
  cases r
  · rw [Bool.false_and] at HF
    go_wp2_with fail
    go_ret
    exact ⟨retBool HF.out.symm, b1⟩
  rw [Bool.true_and] at HF
  go_wp2_with fail
  refine (C2.out _ b1).mono ?_
  rintro e w2 ⟨rfl, hb⟩
  have b2 := bel_trans b1 hb
  replace a0 := (x1.on hb).c (k := 0) rfl
  replace z0 := (x2.on hb).c (k := 0) rfl
  replace a1 := (x1.on hb).c (k := 1) rfl
  replace z1 := (x2.on hb).c (k := 1) rfl
  replace a2 := (x1.on hb).c (k := 2) rfl
  replace z2 := (x2.on hb).c (k := 2) rfl
  replace a3 := (x1.on hb).c (k := 3) rfl
  replace z3 := (x2.on hb).c (k := 3) rfl
  replace a4 := (x1.on hb).c (k := 4) rfl
  replace z4 := (x2.on hb).c (k := 4) rfl
  replace a5 := (x1.on hb).c (k := 5) rfl
  replace z5 := (x2.on hb).c (k := 5) rfl
  replace a6 := (x1.on hb).c (k := 6) rfl
  replace z6 := (x2.on hb).c (k := 6) rfl
  replace a7 := (x1.on hb).c (k := 7) rfl
  replace z7 := (x2.on hb).c (k := 7) rfl
  clear hb b1 x1 x2
  cases q
  · rw [Bool.false_and] at HF
    go_wp2_with fail
    go_ret
    exact ⟨retBool HF.out.symm, b2⟩
  rw [Bool.true_and] at HF
  cases h5 : (sk1 == sk2) <;> cases h6 : (go1 == go2) <;> cases h7 : (in1.toList == in2.toList)
  all_goals
    rw [h5, h6, h7] at HF
    have q5 : (sk1 != sk2) = !(sk1 == sk2) := rfl
    have q6 : (go1 != go2) = !(go1 == go2) := rfl
    rw [h5] at q5
    rw [h6] at q6
    simp only [Bool.not_true, Bool.not_false] at q5 q6
    go_wp2
    go_ret
    exact ⟨retBool HF.out.symm, b2⟩
set_option maxHeartbeats 8000000 in
set_option maxRecDepth 100000 in
theorem specTalkSame (on1 bad1 : Bool) (at1 : Int) (A1 : Option Addr) (n1 c1 : Nat) (l1 : List Write) (G1 : Option Addr) (k1 d1 : Nat) (g1 : List Named) (sk1 go1 : Bool) (in1 : ByteArray) (on2 bad2 : Bool) (at2 : Int) (A2 : Option Addr) (n2 c2 : Nat) (l2 : List Write) (G2 : Option Addr) (k2 d2 : Nat) (g2 : List Named) (sk2 go2 : Bool) (in2 : ByteArray) (w : World) (hr : Sl encWrite w w.heap.size A1 n1 l1) (hs : Sl encWrite w w.heap.size A2 n2 l2) (hn : n1 ≤ 1048576) (hg : Sl encNamed w w.heap.size G1 k1 g1) (hh : Sl encNamed w w.heap.size G2 k2 g2) (hk : k1 ≤ 1048576) :
    Calls Try.prog 30 #[.agg #[.bool on1, .bool bad1, .int .i64 at1, .slice A1 n1 c1, .slice G1 k1 d1, .bool sk1, .bool go1, .string in1], .agg #[.bool on2, .bool bad2, .int .i64 at2, .slice A2 n2 c2, .slice G2 k2 d2, .bool sk2, .bool go2, .string in2]] w fun e w' => e = .returned (.bool (TalkEq on1 bad1 at1 l1 g1 sk1 go1 in1 on2 bad2 at2 l2 g2 sk2 go2 in2)) ∧ Below w.heap.size w w' := by
  have HN := Lib.hid hn
  have HK := Lib.hid hk
  clear hn hk
  have b0 := bel_alloc (bel_alloc (Below.refl _ w) (.cells #[.bool on1, .bool bad1, .int .i64 at1, .slice A1 n1 c1, .slice G1 k1 d1, .bool sk1, .bool go1, .string in1] 57)) (.cells #[.bool on2, .bool bad2, .int .i64 at2, .slice A2 n2 c2, .slice G2 k2 d2, .bool sk2, .bool go2, .string in2] 57)
  have x1 := (BoxC.new w 57 #[.bool on1, .bool bad1, .int .i64 at1, .slice A1 n1 c1, .slice G1 k1 d1, .bool sk1, .bool go1, .string in1]).alloc (.cells #[.bool on2, .bool bad2, .int .i64 at2, .slice A2 n2 c2, .slice G2 k2 d2, .bool sk2, .bool go2, .string in2] 57)
  have x2 := BoxC.new (w.alloc (.cells #[.bool on1, .bool bad1, .int .i64 at1, .slice A1 n1 c1, .slice G1 k1 d1, .bool sk1, .bool go1, .string in1] 57)) 57 #[.bool on2, .bool bad2, .int .i64 at2, .slice A2 n2 c2, .slice G2 k2 d2, .bool sk2, .bool go2, .string in2]
  simp only [World.size_alloc] at x2
  have a0 := x1.c (k := 0) rfl
  have z0 := x2.c (k := 0) rfl
  have a1 := x1.c (k := 1) rfl
  have z1 := x2.c (k := 1) rfl
  have a2 := x1.c (k := 2) rfl
  have z2 := x2.c (k := 2) rfl
  have a3 := x1.c (k := 3) rfl
  have z3 := x2.c (k := 3) rfl
  have a4 := x1.c (k := 4) rfl
  have z4 := x2.c (k := 4) rfl
  have a5 := x1.c (k := 5) rfl
  have z5 := x2.c (k := 5) rfl
  have a6 := x1.c (k := 6) rfl
  have z6 := x2.c (k := 6) rfl
  have a7 := x1.c (k := 7) rfl
  have z7 := x2.c (k := 7) rfl
  have HL := Lib.hid hg.len
  have HP := Lib.hid hh.len
  have C := Lib.hid (fun W hW => specSeatSame on1 bad1 at1 A1 n1 c1 l1 on2 bad2 at2 A2 n2 c2 l2 W (hr.on (hW : Below w.heap.size w W)) (hs.on hW) HN.out)
  clear hr hs
  obtain ⟨r, hr⟩ : ∃ r, SeatEq on1 bad1 at1 l1 on2 bad2 at2 l2 = r := ⟨_, rfl⟩
  have HF := Lib.hid (show TalkEq on1 bad1 at1 l1 g1 sk1 go1 in1 on2 bad2 at2 l2 g2 sk2 go2 in2 = (SeatEq on1 bad1 at1 l1 on2 bad2 at2 l2 && (namedSEq g1 g2 && ((sk1 == sk2) && ((go1 == go2) && (in1.toList == in2.toList))))) from rfl)
  rw [hr] at C HF
  clear hr
  go_enter Try.func30, Try.ntmps30
  go_wp2_with fail
  refine (C.out _ b0).mono ?_
  rintro e w1 ⟨rfl, hb⟩
  have b1 := bel_trans b0 hb
  replace a0 := (x1.on hb).c (k := 0) rfl
  replace z0 := (x2.on hb).c (k := 0) rfl
  replace a1 := (x1.on hb).c (k := 1) rfl
  replace z1 := (x2.on hb).c (k := 1) rfl
  replace a2 := (x1.on hb).c (k := 2) rfl
  replace z2 := (x2.on hb).c (k := 2) rfl
  replace a3 := (x1.on hb).c (k := 3) rfl
  replace z3 := (x2.on hb).c (k := 3) rfl
  replace a4 := (x1.on hb).c (k := 4) rfl
  replace z4 := (x2.on hb).c (k := 4) rfl
  replace a5 := (x1.on hb).c (k := 5) rfl
  replace z5 := (x2.on hb).c (k := 5) rfl
  replace a6 := (x1.on hb).c (k := 6) rfl
  replace z6 := (x2.on hb).c (k := 6) rfl
  replace a7 := (x1.on hb).c (k := 7) rfl
  replace z7 := (x2.on hb).c (k := 7) rfl
  replace x1 := x1.on hb
  replace x2 := x2.on hb
  clear hb b0
  cases r
  · rw [Bool.false_and] at HF
    go_wp2_with fail
    go_ret
    exact ⟨retBool HF.out.symm, b1⟩
  rw [Bool.true_and] at HF
  by_cases hnm : k1 = k2
  · subst hnm
    have hne : ((k1 : Int) != (k1 : Int)) = false := by simp
    cases h5 : (sk1 == sk2) <;> cases h6 : (go1 == go2) <;> cases h7 : (in1.toList == in2.toList)
    all_goals
      rw [h5, h6, h7] at HF
      have q5 : (sk1 != sk2) = !(sk1 == sk2) := rfl
      have q6 : (go1 != go2) = !(go1 == go2) := rfl
      rw [h5] at q5
      rw [h6] at q6
      simp only [Bool.not_true, Bool.not_false] at q5 q6
    case true.true.true =>
      rw [Bool.and_self, Bool.and_self, Bool.and_true] at HF
      go_wp2_with fail
      have c4 := Lib.hid (fun W (hW : Below w1.heap.size w1 W) => And.intro ((x1.on hW).c (k := 4) rfl) ((x2.on hW).c (k := 4) rfl))
      clear a0 a1 a2 a3 a4 a5 a6 a7 z0 z1 z2 z3 z4 z5 z6 z7
      go_loopw [5] (fun i wr => ∃ k : Nat, k ≤ k1 ∧ i = .int .i64 k ∧ EqToNamed g1 g2 k ∧ Below w1.heap.size w1 wr) (fun i _ => k1 - (intOf i).toNat)
      case atStart => exact ⟨0, by omega, rfl, EqToNamed.zero g1 g2, Below.refl _ _⟩
      case round =>
        obtain ⟨k, hkn, rfl, heq, hbel2⟩ := hrel
        have hbel := bel_trans b1 hbel2
        obtain ⟨a4, z4⟩ := c4.out _ hbel2
        have hk9 := HK.out
        by_cases hlt : k < k1
        · obtain ⟨b, off, rfl, hb⟩ := hg.spot (by omega)
          obtain ⟨b2, off2, rfl, hz2⟩ := hh.spot (by omega)
          obtain ⟨f0, f1, f2, f3, f4, hrow, ha0, ha1, ha2, ha3, ha4⟩ := atNamed (hg.keep hbel) hlt
          obtain ⟨y0, y1, y2, y3, y4, hrow2, hb0, hb1, hb2, hb3, hb4⟩ := atNamed (hh.keep hbel) hlt
          have HR := Lib.hid hrow
          have HR2 := Lib.hid hrow2
          clear hrow hrow2
          have i0 : (0 : Int) ≤ (k : Int) := by omega
          have i1 : (k : Int) < (k1 : Int) := by omega
          cases he : eqNamedB (f0, f1, f2, f3, f4) (y0, y1, y2, y3, y4)
          all_goals
            have q1 := neqNamed f0 f1 f2 f3 f4 y0 y1 y2 y3 y4
            have q2 := guardNamed
            rw [he] at q1
            have HE := Lib.hid he
            clear he
            go_wp2_with fail
            go_quiet (fail)
            go_wp2
          · go_ret
            exact ⟨retBool (by rw [HF.out]; exact (namedSEq_at HR.out HR2.out HE.out).symm), bel_drewN hbel _⟩
          · go_roundw
            case rel => exact ⟨k + 1, by omega, by go_num, heq.step HR.out HR2.out HE.out, bel_drewN hbel2 _⟩
            case measure => simp [intOf]; omega
        · go_wp2
          go_ret
          exact ⟨retBool (by rw [HF.out]; exact (heq.all (by rw [HL.out]; omega) (by rw [HP.out]; omega)).symm), hbel⟩
    all_goals
      simp only [Bool.and_false, Bool.false_and] at HF
      go_wp2_with fail
      go_ret
      exact ⟨retBool HF.out.symm, b1⟩
  · have hf : namedSEq g1 g2 = false := namedSEq_len (by rw [HL.out, HP.out]; exact hnm)
    rw [hf, Bool.false_and] at HF
    have hne : ((k1 : Int) != (k2 : Int)) = true := by simp; omega
    clear hnm
    go_wp2_with fail
    go_ret
    exact ⟨retBool HF.out.symm, b1⟩
end Go.Proofs.Ytpmeaikiaoojkaa
