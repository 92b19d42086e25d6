/- FnTalkSame: contracts of what it reaches (ZB ZC Z15 Z1 Z2 Z9 QR0 QS1 QS2 QS3 Z5 Z4 Z6 OB6 OB4 OB14 OB16). No condition. -/
import Derived.Test.YtpmeaikiaoojkaaG06
import Derived.Lib.Split
import Derived.Lib.CutLaws
import Derived.Lib.CountLaws
import Derived.Lib.IndexBytes
import Derived.Lib.ParseIntB
import Derived.Deep.MidRow
namespace Go.Proofs.Ytpmeaikiaoojkaa
open Go.RowKit

theorem BoxC.set2 {W : World} {B : Nat} {t : TypeId} {c0 c1 : Value} (h : BoxC W B t #[c0, c1]) (a0 a1 : Value) : BoxC ((W.setCell ⟨B, 0, none⟩ a0).setCell ⟨B, 1, none⟩ a1) B t #[a0, a1] := by
  have := ((h.set 0 a0).set 1 a1)
  simpa only [List.setIfInBounds_toArray, List.set_cons_zero, List.set_cons_succ] using this
theorem BoxC.set3 {W : World} {B : Nat} {t : TypeId} {c0 c1 c2 : Value} (h : BoxC W B t #[c0, c1, c2]) (a0 a1 a2 : Value) : BoxC (((W.setCell ⟨B, 0, none⟩ a0).setCell ⟨B, 1, none⟩ a1).setCell ⟨B, 2, none⟩ a2) B t #[a0, a1, a2] := by
  have := (((h.set 0 a0).set 1 a1).set 2 a2)
  simpa only [List.setIfInBounds_toArray, List.set_cons_zero, List.set_cons_succ] using this
theorem BoxC.set4 {W : World} {B : Nat} {t : TypeId} {c0 c1 c2 c3 : Value} (h : BoxC W B t #[c0, c1, c2, c3]) (a0 a1 a2 a3 : Value) : BoxC ((((W.setCell ⟨B, 0, none⟩ a0).setCell ⟨B, 1, none⟩ a1).setCell ⟨B, 2, none⟩ a2).setCell ⟨B, 3, none⟩ a3) B t #[a0, a1, a2, a3] := by
  have := ((((h.set 0 a0).set 1 a1).set 2 a2).set 3 a3)
  simpa only [List.setIfInBounds_toArray, List.set_cons_zero, List.set_cons_succ] using this
theorem BoxC.set8 {W : World} {B : Nat} {t : TypeId} {c0 c1 c2 c3 c4 c5 c6 c7 : Value} (h : BoxC W B t #[c0, c1, c2, c3, c4, c5, c6, c7]) (a0 a1 a2 a3 a4 a5 a6 a7 : Value) : BoxC ((((((((W.setCell ⟨B, 0, none⟩ a0).setCell ⟨B, 1, none⟩ a1).setCell ⟨B, 2, none⟩ a2).setCell ⟨B, 3, none⟩ a3).setCell ⟨B, 4, none⟩ a4).setCell ⟨B, 5, none⟩ a5).setCell ⟨B, 6, none⟩ a6).setCell ⟨B, 7, none⟩ a7) B t #[a0, a1, a2, a3, a4, a5, a6, a7] := by
  have := ((((((((h.set 0 a0).set 1 a1).set 2 a2).set 3 a3).set 4 a4).set 5 a5).set 6 a6).set 7 a7)
  simpa only [List.setIfInBounds_toArray, List.set_cons_zero, List.set_cons_succ] using this
theorem BoxC.set8_1_0 {W : World} {B : Nat} {t : TypeId} {c0 c1 c2 c3 c4 c5 c6 c7 : Value} (h : BoxC W B t #[c0, c1, c2, c3, c4, c5, c6, c7]) (a0 : Value) : BoxC (W.setCell ⟨B, 0, none⟩ a0) B t #[a0, c1, c2, c3, c4, c5, c6, c7] := by
  have := (h.set 0 a0)
  simpa only [List.setIfInBounds_toArray, List.set_cons_zero, List.set_cons_succ] using this
theorem BoxC.set8_1_1 {W : World} {B : Nat} {t : TypeId} {c0 c1 c2 c3 c4 c5 c6 c7 : Value} (h : BoxC W B t #[c0, c1, c2, c3, c4, c5, c6, c7]) (a0 : Value) : BoxC (W.setCell ⟨B, 1, none⟩ a0) B t #[c0, a0, c2, c3, c4, c5, c6, c7] := by
  have := (h.set 1 a0)
  simpa only [List.setIfInBounds_toArray, List.set_cons_zero, List.set_cons_succ] using this
theorem BoxC.set8_1_4 {W : World} {B : Nat} {t : TypeId} {c0 c1 c2 c3 c4 c5 c6 c7 : Value} (h : BoxC W B t #[c0, c1, c2, c3, c4, c5, c6, c7]) (a0 : Value) : BoxC (W.setCell ⟨B, 4, none⟩ a0) B t #[c0, c1, c2, c3, a0, c5, c6, c7] := by
  have := (h.set 4 a0)
  simpa only [List.setIfInBounds_toArray, List.set_cons_zero, List.set_cons_succ] using this
theorem BoxC.set8_1_5 {W : World} {B : Nat} {t : TypeId} {c0 c1 c2 c3 c4 c5 c6 c7 : Value} (h : BoxC W B t #[c0, c1, c2, c3, c4, c5, c6, c7]) (a0 : Value) : BoxC (W.setCell ⟨B, 5, none⟩ a0) B t #[c0, c1, c2, c3, c4, a0, c6, c7] := by
  have := (h.set 5 a0)
  simpa only [List.setIfInBounds_toArray, List.set_cons_zero, List.set_cons_succ] using this
theorem BoxC.set8_1_6 {W : World} {B : Nat} {t : TypeId} {c0 c1 c2 c3 c4 c5 c6 c7 : Value} (h : BoxC W B t #[c0, c1, c2, c3, c4, c5, c6, c7]) (a0 : Value) : BoxC (W.setCell ⟨B, 6, none⟩ a0) B t #[c0, c1, c2, c3, c4, c5, a0, c7] := by
  have := (h.set 6 a0)
  simpa only [List.setIfInBounds_toArray, List.set_cons_zero, List.set_cons_succ] using this
theorem BoxC.set8_1_7 {W : World} {B : Nat} {t : TypeId} {c0 c1 c2 c3 c4 c5 c6 c7 : Value} (h : BoxC W B t #[c0, c1, c2, c3, c4, c5, c6, c7]) (a0 : Value) : BoxC (W.setCell ⟨B, 7, none⟩ a0) B t #[c0, c1, c2, c3, c4, c5, c6, a0] := by
  have := (h.set 7 a0)
  simpa only [List.setIfInBounds_toArray, List.set_cons_zero, List.set_cons_succ] using this
theorem BoxC.set8_4_0 {W : World} {B : Nat} {t : TypeId} {c0 c1 c2 c3 c4 c5 c6 c7 : Value} (h : BoxC W B t #[c0, c1, c2, c3, c4, c5, c6, c7]) (a0 a1 a2 a3 : Value) : BoxC ((((W.setCell ⟨B, 0, none⟩ a0).setCell ⟨B, 1, none⟩ a1).setCell ⟨B, 2, none⟩ a2).setCell ⟨B, 3, none⟩ a3) B t #[a0, a1, a2, a3, c4, c5, c6, c7] := by
  have := ((((h.set 0 a0).set 1 a1).set 2 a2).set 3 a3)
  simpa only [List.setIfInBounds_toArray, List.set_cons_zero, List.set_cons_succ] using this
theorem Own.lit {α : Type} {enc : α → List Value} {sz : Nat} {e : TypeId} {base : Nat} (w : World) (cs : Array Value) (l : List α) (h : base ≤ w.heap.size) (hs : cs.toList = cellsOf enc l) (hz : cs.size = l.length * sz) (hm : l.length ≤ maxLen := by simp [maxLen]) : Own enc sz e (w.alloc (.cells cs e)) base (.slice (some ⟨w.heap.size, 0, none⟩) l.length l.length) l := by
  have := World.ownsRow_lit (base := base) (e := e) (size := sz) w cs l.length h hm hz
  unfold Own
  rw [← hs]; exact this
end Go.Proofs.Ytpmeaikiaoojkaa
namespace Go.Proofs.Ytpmeaikiaoojkaa
open Go.RowKit

theorem st2 {G : World → Prop} {W : World} {B : Nat} {t : TypeId} {c0 c1 a0 a1 : Value} (x : BoxC W B t #[c0, c1]) (h : ∀ w, Turn (some ⟨B, 0, none⟩) W w → BoxC w B t #[a0, a1] → G w) : G ((W.setCell ⟨B, 0, none⟩ a0).setCell ⟨B, 1, none⟩ a1) := h _ (turnB2 W B a0 a1) (x.set2 a0 a1)
theorem st3 {G : World → Prop} {W : World} {B : Nat} {t : TypeId} {c0 c1 c2 a0 a1 a2 : Value} (x : BoxC W B t #[c0, c1, c2]) (h : ∀ w, Turn (some ⟨B, 0, none⟩) W w → BoxC w B t #[a0, a1, a2] → G w) : G (((W.setCell ⟨B, 0, none⟩ a0).setCell ⟨B, 1, none⟩ a1).setCell ⟨B, 2, none⟩ a2) := h _ (((((Turn.refl _ W).set 0 a0).set 1 a1).set 2 a2)) (x.set3 a0 a1 a2)
theorem st4 {G : World → Prop} {W : World} {B : Nat} {t : TypeId} {c0 c1 c2 c3 a0 a1 a2 a3 : Value} (x : BoxC W B t #[c0, c1, c2, c3]) (h : ∀ w, Turn (some ⟨B, 0, none⟩) W w → BoxC w B t #[a0, a1, a2, a3] → G w) : G ((((W.setCell ⟨B, 0, none⟩ a0).setCell ⟨B, 1, none⟩ a1).setCell ⟨B, 2, none⟩ a2).setCell ⟨B, 3, none⟩ a3) := h _ (turnB4 W B a0 a1 a2 a3) (x.set4 a0 a1 a2 a3)
theorem st8 {G : World → Prop} {W : World} {B : Nat} {t : TypeId} {c0 c1 c2 c3 c4 c5 c6 c7 a0 a1 a2 a3 a4 a5 a6 a7 : Value} (x : BoxC W B t #[c0, c1, c2, c3, c4, c5, c6, c7]) (h : ∀ w, Turn (some ⟨B, 0, none⟩) W w → BoxC w B t #[a0, a1, a2, a3, a4, a5, a6, a7] → G w) : G ((((((((W.setCell ⟨B, 0, none⟩ a0).setCell ⟨B, 1, none⟩ a1).setCell ⟨B, 2, none⟩ a2).setCell ⟨B, 3, none⟩ a3).setCell ⟨B, 4, none⟩ a4).setCell ⟨B, 5, none⟩ a5).setCell ⟨B, 6, none⟩ a6).setCell ⟨B, 7, none⟩ a7) := h _ (turnB8 W B a0 a1 a2 a3 a4 a5 a6 a7) (x.set8 a0 a1 a2 a3 a4 a5 a6 a7)
theorem BoxC.f2 {W : World} {B : Nat} {t : TypeId} {cs : Array Value} (h : BoxC W B t cs) : W.frozen? ⟨B, 0, none⟩ = false ∧ W.frozen? ⟨B, 1, none⟩ = false := ⟨h.f 0, h.f 1⟩
theorem BoxC.f3 {W : World} {B : Nat} {t : TypeId} {cs : Array Value} (h : BoxC W B t cs) : W.frozen? ⟨B, 0, none⟩ = false ∧ W.frozen? ⟨B, 1, none⟩ = false ∧ W.frozen? ⟨B, 2, none⟩ = false := ⟨h.f 0, h.f 1, h.f 2⟩
theorem BoxC.f4 {W : World} {B : Nat} {t : TypeId} {cs : Array Value} (h : BoxC W B t cs) : W.frozen? ⟨B, 0, none⟩ = false ∧ W.frozen? ⟨B, 1, none⟩ = false ∧ W.frozen? ⟨B, 2, none⟩ = false ∧ W.frozen? ⟨B, 3, none⟩ = false := ⟨h.f 0, h.f 1, h.f 2, h.f 3⟩
theorem BoxC.f8 {W : World} {B : Nat} {t : TypeId} {cs : Array Value} (h : BoxC W B t cs) : W.frozen? ⟨B, 0, none⟩ = false ∧ W.frozen? ⟨B, 1, none⟩ = false ∧ W.frozen? ⟨B, 2, none⟩ = false ∧ W.frozen? ⟨B, 3, none⟩ = false ∧ W.frozen? ⟨B, 4, none⟩ = false ∧ W.frozen? ⟨B, 5, none⟩ = false ∧ W.frozen? ⟨B, 6, none⟩ = false ∧ W.frozen? ⟨B, 7, none⟩ = false := ⟨h.f 0, h.f 1, h.f 2, h.f 3, h.f 4, h.f 5, h.f 6, h.f 7⟩
theorem st8_1_0 {G : World → Prop} {W : World} {B : Nat} {t : TypeId} {c0 c1 c2 c3 c4 c5 c6 c7 a0 : Value} (x : BoxC W B t #[c0, c1, c2, c3, c4, c5, c6, c7]) (h : ∀ w, Turn (some ⟨B, 0, none⟩) W w → BoxC w B t #[a0, c1, c2, c3, c4, c5, c6, c7] → G w) : G (W.setCell ⟨B, 0, none⟩ a0) := h _ ((Turn.refl _ W).set 0 a0) (x.set8_1_0 a0)
theorem st8_1_1 {G : World → Prop} {W : World} {B : Nat} {t : TypeId} {c0 c1 c2 c3 c4 c5 c6 c7 a0 : Value} (x : BoxC W B t #[c0, c1, c2, c3, c4, c5, c6, c7]) (h : ∀ w, Turn (some ⟨B, 0, none⟩) W w → BoxC w B t #[c0, a0, c2, c3, c4, c5, c6, c7] → G w) : G (W.setCell ⟨B, 1, none⟩ a0) := h _ ((Turn.refl _ W).set 1 a0) (x.set8_1_1 a0)
theorem st8_1_4 {G : World → Prop} {W : World} {B : Nat} {t : TypeId} {c0 c1 c2 c3 c4 c5 c6 c7 a0 : Value} (x : BoxC W B t #[c0, c1, c2, c3, c4, c5, c6, c7]) (h : ∀ w, Turn (some ⟨B, 0, none⟩) W w → BoxC w B t #[c0, c1, c2, c3, a0, c5, c6, c7] → G w) : G (W.setCell ⟨B, 4, none⟩ a0) := h _ ((Turn.refl _ W).set 4 a0) (x.set8_1_4 a0)
theorem st8_1_5 {G : World → Prop} {W : World} {B : Nat} {t : TypeId} {c0 c1 c2 c3 c4 c5 c6 c7 a0 : Value} (x : BoxC W B t #[c0, c1, c2, c3, c4, c5, c6, c7]) (h : ∀ w, Turn (some ⟨B, 0, none⟩) W w → BoxC w B t #[c0, c1, c2, c3, c4, a0, c6, c7] → G w) : G (W.setCell ⟨B, 5, none⟩ a0) := h _ ((Turn.refl _ W).set 5 a0) (x.set8_1_5 a0)
theorem st8_1_6 {G : World → Prop} {W : World} {B : Nat} {t : TypeId} {c0 c1 c2 c3 c4 c5 c6 c7 a0 : Value} (x : BoxC W B t #[c0, c1, c2, c3, c4, c5, c6, c7]) (h : ∀ w, Turn (some ⟨B, 0, none⟩) W w → BoxC w B t #[c0, c1, c2, c3, c4, c5, a0, c7] → G w) : G (W.setCell ⟨B, 6, none⟩ a0) := h _ ((Turn.refl _ W).set 6 a0) (x.set8_1_6 a0)
theorem st8_1_7 {G : World → Prop} {W : World} {B : Nat} {t : TypeId} {c0 c1 c2 c3 c4 c5 c6 c7 a0 : Value} (x : BoxC W B t #[c0, c1, c2, c3, c4, c5, c6, c7]) (h : ∀ w, Turn (some ⟨B, 0, none⟩) W w → BoxC w B t #[c0, c1, c2, c3, c4, c5, c6, a0] → G w) : G (W.setCell ⟨B, 7, none⟩ a0) := h _ ((Turn.refl _ W).set 7 a0) (x.set8_1_7 a0)
theorem st8_4_0 {G : World → Prop} {W : World} {B : Nat} {t : TypeId} {c0 c1 c2 c3 c4 c5 c6 c7 a0 a1 a2 a3 : Value} (x : BoxC W B t #[c0, c1, c2, c3, c4, c5, c6, c7]) (h : ∀ w, Turn (some ⟨B, 0, none⟩) W w → BoxC w B t #[a0, a1, a2, a3, c4, c5, c6, c7] → G w) : G ((((W.setCell ⟨B, 0, none⟩ a0).setCell ⟨B, 1, none⟩ a1).setCell ⟨B, 2, none⟩ a2).setCell ⟨B, 3, none⟩ a3) := h _ (((((Turn.refl _ W).set 0 a0).set 1 a1).set 2 a2).set 3 a3) (x.set8_4_0 a0 a1 a2 a3)
theorem st4_2_2 {G : World → Prop} {W : World} {B : Nat} {t : TypeId} {c0 c1 c2 c3 a0 a1 : Value} (x : BoxC W B t #[c0, c1, c2, c3]) (h : ∀ w, Turn (some ⟨B, 0, none⟩) W w → BoxC w B t #[c0, c1, a0, a1] → G w) : G ((W.setCell ⟨B, 2, none⟩ a0).setCell ⟨B, 3, none⟩ a1) := h _ (((Turn.refl _ W).set 2 a0).set 3 a1) (by have := (x.set 2 a0).set 3 a1; simpa only [List.setIfInBounds_toArray, List.set_cons_zero, List.set_cons_succ] using this)
end Go.Proofs.Ytpmeaikiaoojkaa
namespace Go.Proofs.Ytpmeaikiaoojkaa
open Go.RowKit

def DecPost (w : World) (k : Nat) (e : Ending) (w' : World) : Prop := ∃ s : ByteArray, e = .returned (.string s) ∧ s.size ≤ k ∧ Below w.heap.size w w'
def DecRel (w : World) (i s : Value) (wr : World) : Prop := ∃ (q : Int) (t : ByteArray), i = .int .i64 q ∧ s = .string t ∧ (t.size = 0 ∨ (1 ≤ t.size ∧ t.size ≤ 19 ∧ q < 10 ^ (20 - t.size) ∧ q ≤ 9223372036854775807)) ∧ Below w.heap.size w wr
theorem dec_down {q : Int} {k : Nat} (h1 : 1 ≤ k) (h2 : k ≤ 19) (h : q < 10 ^ (20 - k)) (h9 : 9 < q) : k + 1 ≤ 19 ∧ q / 10 < 10 ^ (20 - (k + 1)) := by
  have hk : k ≠ 19 := by rintro rfl; simp at h; omega
  refine ⟨by omega, ?_⟩; have : (10 : Int) ^ (20 - k) = 10 ^ (20 - (k + 1)) * 10 := by rw [show 20 - k = (20 - (k + 1)) + 1 by omega, Int.pow_succ]
  omega
theorem wrap64_lt (x : Int) : wrap64 x < 10 ^ 19 := by
  have : wrap64 x ≤ 9223372036854775807 := by unfold wrap64; omega
  have h2 : (10 : Int) ^ 19 = 10000000000000000000 := by decide
  omega
set_option maxHeartbeats 1000000 in
set_option maxRecDepth 100000 in
theorem l11DecNS (n : Int) (w : World) (h : 0 ≤ n) : Calls Try.prog 60 #[.int .i64 n] w (DecPost w 20) := by
  have hcv := conv1; have h0 : ¬ n < -9223372036854775807 := by omega
  have h1 : ¬ n < 0 := by omega
  go_enter Try.func60, Try.ntmps60; go_wp2
  go_loopw [0, 3] (fun i s wr => DecRel w i s wr) (fun i _ _ => (intOf i).toNat)
  case atStart => exact ⟨n, ByteArray.empty, rfl, rfl, .inl rfl, Below.refl _ _⟩
  case round =>
    obtain ⟨q, t, rfl, rfl, ht, hbel⟩ := hrel; have hts : t.size ≤ 19 := by omega
    by_cases h9 : 9 < q
    · have HT := Lib.hid ht; have hb1 := b1_size (48 + q % 10); have HB := Lib.hid hb1; clear ht
      by_cases hr : q ≤ 9223372036854775807
      · go_wp2
        go_roundw
        case rel =>
          refine ⟨_, _, rfl, rfl, .inr ?_, bel_alloc hbel _⟩; rw [ByteArray.size_append, HB.out]
          rcases HT.out with h0 | ⟨h1, h2, h3, h4⟩
          · rw [h0]; have h2 : (10 : Int) ^ (20 - (1 + 0)) = 10000000000000000000 := by decide
            omega
          · have := dec_down h1 h2 h3 h9; rw [Nat.add_comm 1 t.size]; exact ⟨by omega, this.1, this.2, by omega⟩
        case measure => simp [intOf]; omega
      · have hm : (wrap64 (q.tdiv 10)).toNat < q.toNat := by
          have h1 : wrap64 (q.tdiv 10) ≤ 9223372036854775807 := by unfold wrap64; omega
          omega
        go_wp2
        go_roundw
        case rel =>
          refine ⟨_, _, rfl, rfl, .inr ?_, bel_alloc hbel _⟩; rw [ByteArray.size_append, HB.out]
          rcases HT.out with h0 | ⟨h1, h2, h3, h4⟩
          · rw [h0]; exact ⟨by omega, by omega, wrap64_lt _, by unfold wrap64; omega⟩
          · exact absurd h4 hr
        case measure => simp only [intOf]; exact hm
    · by_cases hq : 0 ≤ q
      · have hb1 := b1_size (48 + q); have HB := Lib.hid hb1; go_wp2
        go_ret
        exact ⟨_, rfl, by rw [ByteArray.size_append, HB.out]; omega, bel_alloc hbel _⟩
      · have hb1 := b1_size (wrap64 (48 + q) % 256); have HB := Lib.hid hb1; go_wp2
        go_ret
        exact ⟨_, rfl, by rw [ByteArray.size_append, HB.out]; omega, bel_alloc hbel _⟩
set_option maxHeartbeats 1000000 in
set_option maxRecDepth 100000 in
theorem l11DecS (n : Int) (w : World) : Calls Try.prog 60 #[.int .i64 n] w (DecPost w 24) := by
  by_cases hm : n < -9223372036854775807
  · go_enter Try.func60, Try.ntmps60; go_wp2
    go_ret
    exact ⟨_, rfl, by decide, Below.refl _ _⟩
  · by_cases hn : n < 0
    · have hb : (45 : UInt8) = 45 := rfl; go_enter Try.func60, Try.ntmps60; go_wp2_with fail; refine (l11DecNS _ _ (by omega)).mono ?_; rintro e w1 ⟨s, rfl, hs, hb1⟩; go_wp2
      go_ret
      exact ⟨_, rfl, by rw [ByteArray.size_append]; have : (⟨#[45]⟩ : ByteArray).size = 1 := rfl; omega, hb1⟩
    · exact (l11DecNS n w (by omega)).mono fun _ _ ⟨s, h1, h2, h3⟩ => ⟨s, h1, by omega, h3⟩
end Go.Proofs.Ytpmeaikiaoojkaa
namespace Go.Proofs.Ytpmeaikiaoojkaa
open Go.RowKit

def digV (c : Int) : Int := if c < 48 ∨ 57 < c then -1 else c - 48
theorem l5DigitC (c : Int) (h0 : 0 ≤ c) (h1 : c < 256) (w : World) : Calls Try.prog 125 #[.int .u8 c] w fun e w' => e = .returned (.int .i64 (digV c)) ∧ w = w' := by
  by_cases a : c < 48
  · have hd : digV c = -1 := by simp [digV, a]
    rw [hd]; go_enter Try.func125, Try.ntmps125; go_wp2
    go_ret
    exact ⟨rfl, rfl⟩
  by_cases b : 57 < c
  · have hd : digV c = -1 := by simp [digV, b]
    rw [hd]; go_enter Try.func125, Try.ntmps125; go_wp2
    go_ret
    exact ⟨rfl, rfl⟩
  have hd : digV c = c - 48 := by simp [digV, a, b]
  have hw : IntKind.u8.wrap (c - 48) = c - 48 := by simp [IntKind.wrap, IntKind.bits, IntKind.signed]; omega
  rw [hd]; go_enter Try.func125, Try.ntmps125; go_wp2
  go_ret
  exact ⟨rfl, rfl⟩
theorem digV_le (c : Int) : digV c ≤ 9 ∧ -1 ≤ digV c := by
  unfold digV
  split <;> omega
theorem u8r (x : UInt8) : (0 : Int) ≤ (x.toNat : Int) ∧ (x.toNat : Int) < 256 := by
  have := x.toNat_lt
  omega
def HeadPost (w : World) (e : Ending) (w' : World) : Prop := (∃ n c : Int, e = .returned (.tuple #[.int .i64 n, .int .i64 c]) ∧ 0 ≤ n ∧ n ≤ 40) ∧ Below w.heap.size w w'
set_option maxHeartbeats 2000000 in
set_option maxRecDepth 100000 in
theorem l5HeadC (s : ByteArray) (w : World) (hs : s.size ≤ maxLen) :
    Calls Try.prog 113 #[.string s] w (HeadPost w) := by
  unfold maxLen at hs
  by_cases h0 : 0 < s.size
  case neg =>
    have j0 : ¬ (0 : Int) < (s.size : Int) := by omega
    have j1 : ¬ (1 : Int) < (s.size : Int) := by omega
    have j2 : ¬ (2 : Int) < (s.size : Int) := by omega
    have j3 : (s.size : Int) < 3 := by omega
    go_enter Try.func113, Try.ntmps113; go_wp2
    go_ret2
    exact ⟨⟨_, _, rfl, by omega, by omega⟩, by first | exact Below.refl _ _ | exact bel_drewN (Below.refl _ _) _⟩
  have j0 : (0 : Int) < (s.size : Int) := by omega
  cases hsg : signI (s[0].toNat : Int)
  · go_enter Try.func113, Try.ntmps113; go_wp2_with (first | (go_at_call 34; refine (l5Sign _ _).mono ?_; rw [hsg]; rintro e w' ⟨rfl, rfl⟩) | (go_at_call 125; refine (l5DigitC _ (by omega) (by omega) _).mono ?_; rintro e w' ⟨rfl, rfl⟩))
    go_ret2
    exact ⟨⟨_, _, rfl, by omega, by omega⟩, by first | exact Below.refl _ _ | exact bel_drewN (Below.refl _ _) _⟩
  by_cases h1 : 1 < s.size
  case neg =>
    have j1 : ¬ (1 : Int) < (s.size : Int) := by omega
    have j2 : ¬ (2 : Int) < (s.size : Int) := by omega
    have j3 : (s.size : Int) < 3 := by omega
    go_enter Try.func113, Try.ntmps113; go_wp2_with (first | (go_at_call 34; refine (l5Sign _ _).mono ?_; rw [hsg]; rintro e w' ⟨rfl, rfl⟩) | (go_at_call 125; refine (l5DigitC _ (by omega) (by omega) _).mono ?_; rintro e w' ⟨rfl, rfl⟩))
    go_ret2
    exact ⟨⟨_, _, rfl, by omega, by omega⟩, by first | exact Below.refl _ _ | exact bel_drewN (Below.refl _ _) _⟩
  have j1 : (1 : Int) < (s.size : Int) := by omega
  have r1 := u8r s[1]; have q1 := digV_le (s[1].toNat : Int)
  by_cases d1 : digV (s[1].toNat : Int) < 0
  · by_cases h2 : 2 < s.size
    · have j2 : (2 : Int) < (s.size : Int) := by omega
      have r2 := u8r s[2]; go_enter Try.func113, Try.ntmps113; go_wp2_with (first | (go_at_call 34; refine (l5Sign _ _).mono ?_; rw [hsg]; rintro e w' ⟨rfl, rfl⟩) | (go_at_call 125; refine (l5DigitC _ (by omega) (by omega) _).mono ?_; rintro e w' ⟨rfl, rfl⟩))
      go_ret2
      exact ⟨⟨_, _, rfl, by omega, by omega⟩, by first | exact Below.refl _ _ | exact bel_drewN (Below.refl _ _) _⟩
    · have j2 : ¬ (2 : Int) < (s.size : Int) := by omega
      go_enter Try.func113, Try.ntmps113; go_wp2_with (first | (go_at_call 34; refine (l5Sign _ _).mono ?_; rw [hsg]; rintro e w' ⟨rfl, rfl⟩) | (go_at_call 125; refine (l5DigitC _ (by omega) (by omega) _).mono ?_; rintro e w' ⟨rfl, rfl⟩))
      go_ret2
      exact ⟨⟨_, _, rfl, by omega, by omega⟩, by first | exact Below.refl _ _ | exact bel_drewN (Below.refl _ _) _⟩
  have m1 : IntKind.i64.wrap (digV (s[1].toNat : Int) * 10) = digV (s[1].toNat : Int) * 10 := IntWalk.i64_in _ (by omega); have m2 : wrap64 (digV (s[1].toNat : Int) * 10) = digV (s[1].toNat : Int) * 10 := IntWalk.wrap64_in _ (by omega)
  by_cases h2 : 2 < s.size
  case neg =>
    have j2 : ¬ (2 : Int) < (s.size : Int) := by omega
    have j3 : (s.size : Int) < 3 := by omega
    by_cases e1 : 40 < digV (s[1].toNat : Int) * 10
    · go_enter Try.func113, Try.ntmps113; go_wp2_with (first | (go_at_call 34; refine (l5Sign _ _).mono ?_; rw [hsg]; rintro e w' ⟨rfl, rfl⟩) | (go_at_call 125; refine (l5DigitC _ (by omega) (by omega) _).mono ?_; rintro e w' ⟨rfl, rfl⟩))
      go_ret2
      exact ⟨⟨_, _, rfl, by omega, by omega⟩, by first | exact Below.refl _ _ | exact bel_drewN (Below.refl _ _) _⟩
    · go_enter Try.func113, Try.ntmps113; go_wp2_with (first | (go_at_call 34; refine (l5Sign _ _).mono ?_; rw [hsg]; rintro e w' ⟨rfl, rfl⟩) | (go_at_call 125; refine (l5DigitC _ (by omega) (by omega) _).mono ?_; rintro e w' ⟨rfl, rfl⟩))
      go_ret2
      exact ⟨⟨_, _, rfl, by omega, by omega⟩, by first | exact Below.refl _ _ | exact bel_drewN (Below.refl _ _) _⟩
  have j2 : (2 : Int) < (s.size : Int) := by omega
  have j3 : ¬ (s.size : Int) < 3 := by omega
  have r2 := u8r s[2]; have q2 := digV_le (s[2].toNat : Int)
  by_cases d2 : digV (s[2].toNat : Int) < 0
  · go_enter Try.func113, Try.ntmps113; go_wp2_with (first | (go_at_call 34; refine (l5Sign _ _).mono ?_; rw [hsg]; rintro e w' ⟨rfl, rfl⟩) | (go_at_call 125; refine (l5DigitC _ (by omega) (by omega) _).mono ?_; rintro e w' ⟨rfl, rfl⟩))
    go_ret2
    exact ⟨⟨_, _, rfl, by omega, by omega⟩, by first | exact Below.refl _ _ | exact bel_drewN (Below.refl _ _) _⟩
  by_cases e1 : 40 < digV (s[1].toNat : Int) * 10
  · go_enter Try.func113, Try.ntmps113; go_wp2_with (first | (go_at_call 34; refine (l5Sign _ _).mono ?_; rw [hsg]; rintro e w' ⟨rfl, rfl⟩) | (go_at_call 125; refine (l5DigitC _ (by omega) (by omega) _).mono ?_; rintro e w' ⟨rfl, rfl⟩))
    go_ret2
    exact ⟨⟨_, _, rfl, by omega, by omega⟩, by first | exact Below.refl _ _ | exact bel_drewN (Below.refl _ _) _⟩
  have m3 : IntKind.i64.wrap (digV (s[1].toNat : Int) * 10 + digV (s[2].toNat : Int)) = digV (s[1].toNat : Int) * 10 + digV (s[2].toNat : Int) := IntWalk.i64_in _ (by omega); have m4 : wrap64 (digV (s[1].toNat : Int) * 10 + digV (s[2].toNat : Int)) = digV (s[1].toNat : Int) * 10 + digV (s[2].toNat : Int) := IntWalk.wrap64_in _ (by omega)
  by_cases e2 : 40 < digV (s[1].toNat : Int) * 10 + digV (s[2].toNat : Int)
  · go_enter Try.func113, Try.ntmps113; go_wp2_with (first | (go_at_call 34; refine (l5Sign _ _).mono ?_; rw [hsg]; rintro e w' ⟨rfl, rfl⟩) | (go_at_call 125; refine (l5DigitC _ (by omega) (by omega) _).mono ?_; rintro e w' ⟨rfl, rfl⟩))
    go_quiet ((go_at_call 125; exact quiet_left (l5DigitC _ (u8r _).1 (u8r _).2 _)))
    go_wp2
    go_ret2
    exact ⟨⟨_, _, rfl, by omega, by omega⟩, by first | exact Below.refl _ _ | exact bel_drewN (Below.refl _ _) _⟩
  · go_enter Try.func113, Try.ntmps113; go_wp2_with (first | (go_at_call 34; refine (l5Sign _ _).mono ?_; rw [hsg]; rintro e w' ⟨rfl, rfl⟩) | (go_at_call 125; refine (l5DigitC _ (by omega) (by omega) _).mono ?_; rintro e w' ⟨rfl, rfl⟩))
    go_quiet ((go_at_call 125; exact quiet_left (l5DigitC _ (u8r _).1 (u8r _).2 _)))
    go_wp2
    go_ret2
    exact ⟨⟨_, _, rfl, by omega, by omega⟩, by first | exact Below.refl _ _ | exact bel_drewN (Below.refl _ _) _⟩
end Go.Proofs.Ytpmeaikiaoojkaa
namespace Go.Proofs.Ytpmeaikiaoojkaa
open Go.RowKit

def TakePost (w : World) (e : Ending) (w' : World) : Prop := (∃ (a b : ByteArray) (n c : Int), e = .returned (.tuple #[.agg #[.string a, .string b], .int .i64 n, .int .i64 c])) ∧ Below w.heap.size w w'
set_option maxHeartbeats 2000000 in
set_option maxRecDepth 100000 in
theorem letterTake (s : ByteArray) (w : World) (hs : s.size ≤ 1048576) : Calls Try.prog 100 #[.string s] w (TakePost w) := by
  have b0 := bel_alloc (Below.refl _ w) (.cells #[.string ⟨#[]⟩, .string ⟨#[]⟩] 27); have HS := Lib.hid hs; go_enter Try.func100, Try.ntmps100; go_wp2_with fail; refine (l5HeadC s _ (by have := HS.out; unfold maxLen; omega)).mono ?_; rintro e w1 ⟨⟨n, c, rfl, hn0, hn1⟩, hb1⟩; have b1 := bel_trans b0 hb1; have x0 := (BoxC.new w 27 #[.string ⟨#[]⟩, .string ⟨#[]⟩]).on hb1; obtain ⟨y0, y1⟩ := x0.k2; have f0 := x0.f 0; have f1 := x0.f 1; have B1 := Lib.hid b1; clear b0 b1 hb1 x0
  by_cases hc : c = 0
  case neg =>
    have hc' : (c != 0) = true := by simp [hc]
    go_wp2_with fail; exact bodyPost_ret (v := .tuple #[.agg #[.string ⟨#[]⟩, .string ⟨#[]⟩], .int .i64 0, .int .i64 c]) (by simp [results, Try.results100, go_sem, y0, y1]) rfl ⟨⟨_, _, _, _, rfl⟩, bel_set (bel_set B1.out (p := ⟨w.heap.size, 0, none⟩) (by simp) _) (p := ⟨w.heap.size, 1, none⟩) (by simp) _⟩
  subst hc; have k3 : IntKind.i64.wrap (3 + n) = 3 + n := IntWalk.i64_in _ (by omega); have k4 : wrap64 (3 + n) = 3 + n := IntWalk.wrap64_in _ (by omega); go_wp2_with fail
  go_loop [7] (fun i => ∃ k : Nat, 3 ≤ k ∧ k ≤ s.size + 3 ∧ i = .int .i64 k) (fun i => s.size + 3 - (intOf i).toNat)
  case atStart => exact ⟨3, by omega, by omega, rfl⟩
  case round =>
    obtain ⟨k, hk0, hk1, rfl⟩ := hrel; have m1 : IntKind.i64.wrap ((k : Int) + 1) = (k : Int) + 1 := IntWalk.i64_in _ (by omega); have m2 : wrap64 ((k : Int) + 1) = (k : Int) + 1 := IntWalk.wrap64_in _ (by omega)
    by_cases g : k < s.size
    · have g' : (k : Int) < (s.size : Int) := by omega
      by_cases h : (k : Int) < 3 + n
      · cases hbb : bodyI (s[k].toNat : Int)
        · go_wp2_with (go_at_call 35; refine (l5Body _ _).mono ?_; rw [hbb]; rintro e w' ⟨rfl, rfl⟩); exact bodyPost_ret (v := .tuple #[.agg #[.string ⟨#[]⟩, .string ⟨#[]⟩], .int .i64 0, .int .i64 2]) (by simp [results, Try.results100, go_sem, y0, y1]) rfl ⟨⟨_, _, _, _, rfl⟩, bel_set (bel_set B1.out (p := ⟨w.heap.size, 0, none⟩) (by simp) _) (p := ⟨w.heap.size, 1, none⟩) (by simp) _⟩
        · go_wp2_with (go_at_call 35; refine (l5Body _ _).mono ?_; rw [hbb]; rintro e w' ⟨rfl, rfl⟩)
          case roundEnd => exact ⟨⟨k + 1, by omega, by omega, by go_num⟩, by simp [intOf]; omega⟩
      · by_cases q : (s.size : Int) < 3 + n
        · exact absurd q (by omega)
        · go_wp2_with fail; have e1 : (1 : Int) ≤ (s.size : Int) := by omega
          have e2 : (3 + n : Int).toNat ≤ s.size := by omega
          go_region
          go_wp2
          exact bodyPost_ret (v := .tuple #[.agg #[.string (s.extract 0 1), .string (s.extract 3 (3 + n).toNat)], .int .i64 (3 + n), .int .i64 0]) (by simp [results, Try.results100, go_sem, y0, y1]) rfl ⟨⟨_, _, _, _, rfl⟩, (bel_set (bel_set B1.out (p := ⟨w.heap.size, 0, none⟩) (Nat.le_refl _) _) (p := ⟨w.heap.size, 1, none⟩) (Nat.le_refl _) _).drew⟩
    · have g' : ¬ (k : Int) < (s.size : Int) := by omega
      by_cases q : (s.size : Int) < 3 + n
      · go_wp2_with fail; exact bodyPost_ret (v := .tuple #[.agg #[.string ⟨#[]⟩, .string ⟨#[]⟩], .int .i64 0, .int .i64 1]) (by simp [results, Try.results100, go_sem, y0, y1]) rfl ⟨⟨_, _, _, _, rfl⟩, bel_set (bel_set B1.out (p := ⟨w.heap.size, 0, none⟩) (by simp) _) (p := ⟨w.heap.size, 1, none⟩) (by simp) _⟩
      · go_wp2_with fail; have e1 : (1 : Int) ≤ (s.size : Int) := by omega
        have e2 : (3 + n : Int).toNat ≤ s.size := by omega
        go_region
        go_wp2
        exact bodyPost_ret (v := .tuple #[.agg #[.string (s.extract 0 1), .string (s.extract 3 (3 + n).toNat)], .int .i64 (3 + n), .int .i64 0]) (by simp [results, Try.results100, go_sem, y0, y1]) rfl ⟨⟨_, _, _, _, rfl⟩, (bel_set (bel_set B1.out (p := ⟨w.heap.size, 0, none⟩) (Nat.le_refl _) _) (p := ⟨w.heap.size, 1, none⟩) (Nat.le_refl _) _).drew⟩
end Go.Proofs.Ytpmeaikiaoojkaa
namespace Go.Proofs.Ytpmeaikiaoojkaa
open Go.RowKit

def NamePost (w : World) (e : Ending) (w' : World) : Prop := (∃ b, e = .returned (.bool b)) ∧ w = w'
set_option maxHeartbeats 1000000 in
theorem l6NameC (s : ByteArray) (w : World) (_hs : s.size ≤ 1048576) : Calls Try.prog 98 #[.string s] w (NamePost w) := by
  by_cases h : s.size = 1
  · have h0 : 0 < s.size := by omega
    have j : ((s.size : Int) == 1) = true := by simp [h]
    by_cases a : (97 : Int) ≤ (s[0].toNat : Int)
    · go_enter Try.func98, Try.ntmps98; go_wp2
      go_ret
      exact ⟨⟨_, rfl⟩, rfl⟩
    · go_enter Try.func98, Try.ntmps98; go_wp2
      go_ret
      exact ⟨⟨_, rfl⟩, rfl⟩
  · have j : ((s.size : Int) == 1) = false := by simp; omega
    go_enter Try.func98, Try.ntmps98; go_wp2
    go_ret
    exact ⟨⟨_, rfl⟩, rfl⟩
def CodePost (w : World) (e : Ending) (w' : World) : Prop := ∃ s : ByteArray, e = .returned (.string s) ∧ s.size ≤ 4 ∧ Below w.heap.size w w'
set_option maxHeartbeats 2000000 in
theorem l6CodeC (c : Int) (w : World) (h0 : 0 ≤ c) (h1 : c ≤ 6) : Calls Try.prog 122 #[.int .i64 c] w (CodePost w) := by
  have hc : c = 0 ∨ c = 1 ∨ c = 2 ∨ c = 3 ∨ c = 4 ∨ c = 5 ∨ c = 6 := by omega
  rcases hc with rfl | rfl | rfl | rfl | rfl | rfl | rfl <;>
  · go_enter Try.func122, Try.ntmps122; go_wp2
    go_ret
    exact ⟨_, rfl, by decide, bel_alloc (Below.refl _ _) _⟩
end Go.Proofs.Ytpmeaikiaoojkaa
namespace Go.Proofs.Ytpmeaikiaoojkaa

def noSp (s : ByteArray) : Prop := (32 : UInt8) ∉ s.data.toList
def spB : ByteArray := ⟨#[32]⟩
def joinS : List ByteArray → ByteArray
  | [] => ByteArray.empty
  | [x] => x
  | x :: y :: r => x ++ spB ++ joinS (y :: r)
theorem idxB_join : ∀ (p r : List UInt8), (32 : UInt8) ∉ p → Lib.indexByte (p ++ 32 :: r) 32 = (p.length : Int)
  | [], r, _ => by simp [Lib.indexByte]
  | c :: p, r, h => by
    have h1 : ¬ c = 32 := fun e => h (by simp [e]); have h2 := idxB_join p r (fun e => h (by simp [e])); rw [List.cons_append, Lib.indexByte, h2]; simp [h1]
theorem idxB_none : ∀ (p : List UInt8), (32 : UInt8) ∉ p → Lib.indexByte p 32 = -1
  | [], _ => rfl
  | c :: p, h => by
    have h1 : ¬ c = 32 := fun e => h (by simp [e]); have h2 := idxB_none p (fun e => h (by simp [e])); rw [Lib.indexByte, h2]; simp [h1]
theorem index_sp (s : ByteArray) : Lib.indexB s spB = Lib.indexByte s.data.toList 32 := Lib.index_one s.data.toList 32
theorem idx_join {p r : ByteArray} (h : noSp p) : Lib.indexB (p ++ spB ++ r) spB = (p.size : Int) := by
  rw [index_sp]; have e : (p ++ spB ++ r).data.toList = p.data.toList ++ 32 :: r.data.toList := by simp [spB]
  rw [e, idxB_join _ _ h]
  show ((p.data.toList.length : Nat) : Int) = ((p.data.size : Nat) : Int)
  rw [Array.length_toList]
theorem idx_none {p : ByteArray} (h : noSp p) : Lib.indexB p spB = -1 := by rw [index_sp, idxB_none _ h]
theorem ext_left (p q r : ByteArray) : (p ++ q ++ r).extract 0 p.size = p := by
  have hs : p.size = p.data.toList.length := by rw [Array.length_toList]; rfl
  rw [Lib.extract_eq, List.drop_zero, hs]
  apply ByteArray.ext
  simp
theorem ext_right (p r : ByteArray) : (p ++ spB ++ r).extract (p.size + spB.size) (p ++ spB ++ r).size = r := by
  apply ByteArray.ext
  apply Array.ext'
  simp only [ByteArray.data_extract, ByteArray.data_append, Array.toList_extract, Array.toList_append, ByteArray.size, Array.size_append, List.extract_eq_take_drop]
  rw [List.take_of_length_le (by simp; omega), List.drop_append_of_le_length (by simp [spB])]; simp [spB]
theorem split_join : ∀ (ps : List ByteArray), ps ≠ [] → (∀ p ∈ ps, noSp p) → Lib.countB (joinS ps) spB + 1 = ps.length ∧ Lib.splitB spB 0 (Lib.countB (joinS ps) spB) (joinS ps) = ps
  | [], h, _ => absurd rfl h
  | [x], _, h => by
    have hx := idx_none (h x (by simp))
    show Lib.countB x spB + 1 = 1 ∧ Lib.splitB spB 0 (Lib.countB x spB) x = [x]
    rw [Lib.countB_miss _ _ hx, Lib.splitB_miss _ _ _ _ hx]; exact ⟨rfl, rfl⟩
  | x :: y :: r, _, h => by
    obtain ⟨h1, h2⟩ := split_join (y :: r) (by simp) (fun p hp => h p (List.mem_cons_of_mem _ hp)); have hx := idx_join (r := joinS (y :: r)) (h x (by simp))
    show Lib.countB (x ++ spB ++ joinS (y :: r)) spB + 1 = _ ∧ Lib.splitB spB 0 (Lib.countB (x ++ spB ++ joinS (y :: r)) spB) (x ++ spB ++ joinS (y :: r)) = _
    rw [Lib.countB_hit _ _ _ (by decide) hx, ext_right, Nat.add_comm 1, Lib.splitB_hit _ _ _ _ _ hx, ext_right, Nat.add_zero x.size, ext_left, h2]; exact ⟨by simpa using h1, rfl⟩
/-! ### the reference's cut -/
def cutC : List UInt8 → List UInt8 → List (List UInt8)
  | acc, [] => [acc]
  | acc, c :: r => if c = 32 then acc :: cutC [] r else cutC (acc ++ [c]) r
theorem cutC_join : ∀ (p acc r : List UInt8), (32 : UInt8) ∉ p → cutC acc (p ++ 32 :: r) = (acc ++ p) :: cutC [] r
  | [], acc, r, _ => by simp [cutC]
  | c :: p, acc, r, h => by
    have h1 : ¬ c = 32 := fun e => h (by simp [e]); rw [List.cons_append, cutC, if_neg h1, cutC_join p (acc ++ [c]) r (fun e => h (by simp [e]))]; simp
theorem cutC_none : ∀ (p acc : List UInt8), (32 : UInt8) ∉ p → cutC acc p = [acc ++ p]
  | [], acc, _ => by simp [cutC]
  | c :: p, acc, h => by
    have h1 : ¬ c = 32 := fun e => h (by simp [e]); rw [cutC, if_neg h1, cutC_none p (acc ++ [c]) (fun e => h (by simp [e]))]; simp
def cutS (s : ByteArray) : List ByteArray := (cutC [] s.data.toList).map fun l => ⟨l.toArray⟩
theorem cut_join : ∀ (ps : List ByteArray), ps ≠ [] → (∀ p ∈ ps, noSp p) → cutS (joinS ps) = ps
  | [], h, _ => absurd rfl h
  | [x], _, h => by
    show cutS x = [x]
    rw [cutS, cutC_none _ _ (h x (by simp))]; simp
  | x :: y :: r, _, h => by
    have ih := cut_join (y :: r) (by simp) (fun p hp => h p (List.mem_cons_of_mem _ hp))
    show cutS (x ++ spB ++ joinS (y :: r)) = _
    have e : (x ++ spB ++ joinS (y :: r)).data.toList = x.data.toList ++ 32 :: (joinS (y :: r)).data.toList := by simp [spB]
    rw [cutS, e, cutC_join _ _ _ (h x (by simp)), List.map_cons]; rw [cutS] at ih; rw [ih]; simp
theorem cutC_ne : ∀ (l acc : List UInt8), cutC acc l ≠ []
  | [], acc => by simp [cutC]
  | c :: r, acc => by
    rw [cutC]; split
    · simp
    · exact cutC_ne r _
theorem cutS_ne (s : ByteArray) : cutS s ≠ [] := by simp [cutS, cutC_ne]
/-! ### digits -/
def dstep (a : Nat) (c : UInt8) : Nat := a * 10 + (c.toNat - 48)
def dval (l : List UInt8) : Nat := l.foldl dstep 0
def digits (l : List UInt8) : Prop := ∀ c ∈ l, 48 ≤ c.toNat ∧ c.toNat ≤ 57
theorem dig_toNat {d : Nat} (h : d < 10) : (UInt8.ofNat (48 + d)).toNat = 48 + d := by
  rw [UInt8.toNat_ofNat_of_lt' (by show 48 + d < 256; omega)]
theorem dval_dec : ∀ (f u : Nat), u < f → dval (Lib.decDigits u) = u ∧ digits (Lib.decDigits u)
  | 0, u, h => by omega
  | f + 1, u, h => by
    rw [Lib.decDigits]
    split
    · rename_i hu
      refine ⟨by simp only [dval, dstep, List.foldl_cons, List.foldl_nil, dig_toNat hu]; omega, fun c hc => ?_⟩; simp only [List.mem_singleton] at hc
      rw [hc, dig_toNat hu]; omega
    · rename_i hu
      obtain ⟨h1, h2⟩ := dval_dec f (u / 10) (by omega); refine ⟨?_, fun c hc => ?_⟩
      · unfold dval at h1 ⊢
        rw [List.foldl_append, h1]; simp only [List.foldl_cons, List.foldl_nil, dstep]
        rw [dig_toNat (Nat.mod_lt _ (by omega))]
        omega
      · rcases List.mem_append.1 hc with hc | hc
        · exact h2 c hc
        · simp only [List.mem_singleton] at hc
          rw [hc, dig_toNat (Nat.mod_lt _ (by omega))]; omega
theorem dval_decDigits (u : Nat) : dval (Lib.decDigits u) = u := (dval_dec (u + 1) u (by omega)).1
theorem digits_decDigits (u : Nat) : digits (Lib.decDigits u) := (dval_dec (u + 1) u (by omega)).2
theorem head_dec : ∀ (f u : Nat), u < f → 1 ≤ u → ∃ c r, Lib.decDigits u = c :: r ∧ 49 ≤ c.toNat
  | 0, u, h, _ => by omega
  | f + 1, u, h, h1 => by
    rw [Lib.decDigits]
    split
    · rename_i hu
      exact ⟨_, _, rfl, by rw [dig_toNat hu]; omega⟩
    · rename_i hu
      obtain ⟨c, r, e, hc⟩ := head_dec f (u / 10) (by omega) (by omega); exact ⟨c, r ++ [UInt8.ofNat (48 + u % 10)], by rw [e]; rfl, hc⟩
theorem sp_eq : sp = spB := rfl
def piecesOf (j : Nat) (key hi : ByteArray) (num : Int) (a b c : Bool) : List ByteArray :=
  word j :: ((if a = true then [key] else []) ++ ((if b = true then [hi] else []) ++ (if c = true then [dec num] else [])))
theorem catT_join (j : Nat) (key hi : ByteArray) (num : Int) (a b c : Bool) : catT j key hi num a b c = joinS (piecesOf j key hi num a b c) := by
  cases a <;> cases b <;> cases c <;> simp [catT, addS, piecesOf, joinS, sp_eq, ByteArray.append_assoc]
theorem noSp_word {j : Nat} (h : j < 9) : noSp (word j) := by
  have hc : j = 0 ∨ j = 1 ∨ j = 2 ∨ j = 3 ∨ j = 4 ∨ j = 5 ∨ j = 6 ∨ j = 7 ∨ j = 8 := by omega
  unfold noSp
  rcases hc with rfl | rfl | rfl | rfl | rfl | rfl | rfl | rfl | rfl <;> decide
theorem noSp_key {s : ByteArray} (h : keyOk s = true) : noSp s := by
  unfold keyOk allLow at h
  simp only [Bool.and_eq_true, List.all_eq_true] at h
  intro hm; have := h.2 _ hm; simp [lowB] at this
theorem noSp_digits {l : List UInt8} (h : digits l) : (32 : UInt8) ∉ l := by
  intro hm; have := h _ hm; simp at this
theorem noSp_dec (n : Int) : noSp (dec n) := by
  by_cases hn : n < 0
  · obtain ⟨u, rfl, hu⟩ : ∃ u : Nat, n = -(u : Int) ∧ 1 ≤ u := ⟨n.natAbs, by omega, by omega⟩; rw [dec_neg u hu]
    unfold noSp
    have := noSp_digits (digits_decDigits u)
    simpa [decN] using this
  · obtain ⟨u, rfl⟩ : ∃ u : Nat, n = (u : Int) := ⟨n.toNat, by omega⟩; rw [dec_nonneg]
    unfold noSp
    have := noSp_digits (digits_decDigits u)
    simpa [decN] using this
theorem noSp_empty : noSp ByteArray.empty := by unfold noSp; decide
theorem emp_eq {s : ByteArray} (h : emp s = true) : s = ByteArray.empty := by
  unfold emp at h
  rw [beq_iff_eq, ByteArray.toList_eq] at h; exact ByteArray.ext (Array.toList_inj.1 h)
theorem noSp_field {s : ByteArray} {f : Bool} (h : fieldB s f = true) : noSp s := by
  unfold fieldB at h
  split at h
  · exact noSp_key h
  · rw [emp_eq h]; exact noSp_empty
/-- what a right request is, whole -/
theorem askOk_whole {k : Int} {key hi : ByteArray} {num : Int} (h : askOk k key hi num = true) : ∃ (j : Nat) (a b c : Bool), k = (j : Int) + 1 ∧ j < 9 ∧ shape k = (a, b, c) ∧ fieldB key a = true ∧ fieldB hi b = true ∧ (c = false → num = 0) ∧ -999 ≤ num ∧ num ≤ 999 := by
  obtain ⟨j, a, b, c, rfl, hj, hs, _, _, n0, n1⟩ := askOk_facts h; rw [askOk_mid (by omega) (by omega) hs] at h; simp only [Bool.and_eq_true] at h
  refine ⟨j, a, b, c, rfl, hj, hs, h.1, h.2.1, fun hc => ?_, n0, n1⟩; subst hc
  simpa using h.2.2
theorem shape_cases (k : Int) {a b c : Bool} (h : shape k = (a, b, c)) : (a, b, c) = (true, false, false) ∨ (a, b, c) = (true, true, false) ∨ (a, b, c) = (true, false, true) ∨ (a, b, c) = (false, false, false) := by
  rw [← h]; unfold shape
  repeat' split
  all_goals simp
theorem noSp_pieces {j : Nat} {key hi : ByteArray} {num : Int} {a b c : Bool} (hj : j < 9) (h1 : fieldB key a = true) (h2 : fieldB hi b = true) : ∀ p ∈ piecesOf j key hi num a b c, noSp p := by
  intro p hp
  unfold piecesOf at hp
  simp only [List.mem_cons, List.mem_append] at hp
  rcases hp with rfl | hp | hp | hp
  · exact noSp_word hj
  · cases a
    · simp at hp
    · simp at hp; rw [hp]; exact noSp_field h1
  · cases b
    · simp at hp
    · simp at hp; rw [hp]; exact noSp_field h2
  · cases c
    · simp at hp
    · simp at hp; rw [hp]; exact noSp_dec num
theorem pieces_ne (j : Nat) (key hi : ByteArray) (num : Int) (a b c : Bool) : piecesOf j key hi num a b c ≠ [] := by simp [piecesOf]
/-- the words of a text, as the program and as the reference cut it -/
def wordsOf (s : ByteArray) : List ByteArray := Lib.splitB spB 0 (Lib.countB s spB) s
def nthW (ws : List ByteArray) (i : Nat) : ByteArray := ws.getD i ByteArray.empty
/-- a text that a right request writes, cut -/
theorem text_words {k : Int} {key hi : ByteArray} {num : Int} (h : askOk k key hi num = true) {ws : List ByteArray} (hw : ws = wordsOf (askText k key hi num) ∨ ws = cutS (askText k key hi num)) :
    ∃ (j : Nat) (a b c : Bool), k = (j : Int) + 1 ∧ j < 9 ∧ shape k = (a, b, c) ∧ nthW ws 0 = word j ∧ key = (if a = true then nthW ws 1 else ByteArray.empty) ∧ hi = (if b = true then nthW ws 2 else ByteArray.empty) ∧
      (c = true → nthW ws 2 = dec num) ∧ (c = false → num = 0) ∧ -999 ≤ num ∧ num ≤ 999 ∧ ws.length = 1 + (if a = true then 1 else 0) + (if b = true then 1 else 0) + (if c = true then 1 else 0) := by
  obtain ⟨j, a, b, c, rfl, hj, hs, h1, h2, hc, n0, n1⟩ := askOk_whole h
  have hp : ws = piecesOf j key hi num a b c := by
    rw [askText_ok h hs, catT_join] at hw
    rcases hw with hw | hw
    · rw [hw]; exact (split_join _ (pieces_ne _ _ _ _ _ _ _) (noSp_pieces hj h1 h2)).2
    · rw [hw]; exact cut_join _ (pieces_ne _ _ _ _ _ _ _) (noSp_pieces hj h1 h2)
  have hsc := shape_cases _ hs; refine ⟨j, a, b, c, rfl, hj, hs, ?_⟩; subst hp; simp only [Prod.mk.injEq] at hsc
  rcases hsc with ⟨rfl, rfl, rfl⟩ | ⟨rfl, rfl, rfl⟩ | ⟨rfl, rfl, rfl⟩ | ⟨rfl, rfl, rfl⟩
  all_goals simp only [fieldB] at h1 h2
  all_goals (try replace h1 := emp_eq h1)
  all_goals (try replace h2 := emp_eq h2)
  all_goals simp_all [piecesOf, nthW]
theorem word_inj {i j : Nat} (hi : i < 9) (hj : j < 9) (h : word i = word j) : i = j := by
  have hd : ∀ i j : Fin 9, word i.val = word j.val → i = j := by decide +kernel
  have := hd ⟨i, hi⟩ ⟨j, hj⟩ h; exact Fin.mk.inj_iff.1 this
theorem askText_ne {k : Int} {key hi : ByteArray} {num : Int} (h : askOk k key hi num = true) : askText k key hi num ≠ ByteArray.empty := by
  obtain ⟨j, a, b, c, _, hj, _, e0, -, -, -, -, -, -, hl⟩ := text_words h (.inl rfl); intro e; rw [e] at e0; have : nthW (wordsOf ByteArray.empty) 0 = ByteArray.empty := by decide +kernel
  rw [this] at e0; have hd : ∀ i : Fin 9, ByteArray.empty ≠ word i.val := by decide +kernel
  exact hd ⟨j, hj⟩ e0
theorem dec_form (n : Int) : ∃ u : Nat, (n = (u : Int) ∧ (dec n).data.toList = Lib.decDigits u) ∨ (n = -(u : Int) ∧ 1 ≤ u ∧ (dec n).data.toList = 45 :: Lib.decDigits u) := by
  by_cases hn : n < 0
  · obtain ⟨u, rfl, hu⟩ : ∃ u : Nat, n = -(u : Int) ∧ 1 ≤ u := ⟨n.natAbs, by omega, by omega⟩; exact ⟨u, .inr ⟨rfl, hu, by rw [dec_neg u hu]; simp [decN]⟩⟩
  · obtain ⟨u, rfl⟩ : ∃ u : Nat, n = (u : Int) := ⟨n.toNat, by omega⟩; exact ⟨u, .inl ⟨rfl, by rw [dec_nonneg]; simp [decN]⟩⟩
/-- what a reader of numbers must give: where the text is a small number, that number -/
def IsNum (s : ByteArray) (v : Int) : Prop := ∀ n : Int, -999 ≤ n → n ≤ 999 → s = dec n → v = n
theorem decDigits_ne (u : Nat) : Lib.decDigits u ≠ [] := by
  intro e; have := Lib.decDigits_length u; have h := Lib.nDigits_pos u; rw [e] at this; simp at this
  omega
theorem head_digit (u : Nat) : (Lib.decDigits u).head? ≠ some 45 := by
  intro e; have := digits_decDigits u 45 (List.mem_of_mem_head? e); simp at this
theorem head_zero {u : Nat} (h : 1 ≤ u) : (Lib.decDigits u).head? ≠ some 48 := by
  obtain ⟨c, r, e, hc⟩ := head_dec (u + 1) u (by omega) h; rw [e]; intro e2; simp at e2
  subst e2; simp at hc
theorem len_small {u : Nat} (h : u ≤ 999) : (Lib.decDigits u).length ≤ 3 := by
  rw [Lib.decDigits_length]
  by_cases h1 : u < 10
  · rw [Lib.nDigits_small h1]; omega
  · rw [Lib.nDigits_big h1]
    by_cases h2 : u / 10 < 10
    · rw [Lib.nDigits_small h2]; omega
    · rw [Lib.nDigits_big h2, Lib.nDigits_small (by omega)]; omega
theorem len_zero : (Lib.decDigits 0).length = 1 := by rw [Lib.decDigits_length, Lib.nDigits_small (by omega)]
theorem size_list (s : ByteArray) : s.size = s.data.toList.length := by rw [Array.length_toList]; rfl
theorem isNum_parts {s : ByteArray} {l : List UInt8} {neg : Bool} (hneg : neg = true ↔ s.data.toList.head? = some 45) (ht : l = if neg = true then s.data.toList.drop 1 else s.data.toList) {n : Int} (h0 : -999 ≤ n) (h1 : n ≤ 999) (e : s = dec n) :
    ∃ u : Nat, u ≤ 999 ∧ l = Lib.decDigits u ∧ n = (if neg = true then -(u : Int) else (u : Int)) ∧ (neg = true → 1 ≤ u) := by
  subst e; obtain ⟨u, ⟨rfl, hu⟩ | ⟨rfl, hu1, hu⟩⟩ := dec_form n
  · have hn : neg = false := by
      cases neg
      · rfl
      · have := hneg.1 rfl; rw [hu] at this; exact absurd this (head_digit u)
    subst hn; exact ⟨u, by omega, by rw [ht, hu]; rfl, rfl, fun h => by cases h⟩
  · have hn : neg = true := hneg.2 (by rw [hu]; rfl); subst hn; exact ⟨u, by omega, by rw [ht, hu]; rfl, rfl, fun _ => hu1⟩
theorem isNum_early {s : ByteArray} {l : List UInt8} {neg : Bool} (hneg : neg = true ↔ s.data.toList.head? = some 45) (ht : l = if neg = true then s.data.toList.drop 1 else s.data.toList)
    (hbad : l.length = 0 ∨ 17 < l.length ∨ (l.head? = some 48 ∧ (1 < l.length ∨ neg = true)) ∨ (∃ c ∈ l, ¬ (48 ≤ c.toNat ∧ c.toNat ≤ 57))) (v : Int) : IsNum s v := by
  intro n h0 h1 e
  exfalso
  obtain ⟨u, hu, rfl, -, hn⟩ := isNum_parts hneg ht h0 h1 e; have h3 := len_small hu
  rcases hbad with h | h | ⟨h, h2⟩ | ⟨c, hc, h⟩
  · exact decDigits_ne u (List.length_eq_zero_iff.1 h)
  · omega
  · have hz : u = 0 := by
      rcases Nat.eq_zero_or_pos u with hz | hz
      · exact hz
      · exact absurd h (head_zero hz)
    subst hz; have := len_zero
    rcases h2 with h2 | h2
    · omega
    · have := hn h2; omega
  · exact h (digits_decDigits u c hc)
theorem isNum_val {s : ByteArray} {l : List UInt8} {neg : Bool} (hneg : neg = true ↔ s.data.toList.head? = some 45) (ht : l = if neg = true then s.data.toList.drop 1 else s.data.toList) :
    IsNum s (if neg = true then -(dval l : Int) else (dval l : Int)) := by
  intro n h0 h1 e; obtain ⟨u, hu, rfl, rfl, -⟩ := isNum_parts hneg ht h0 h1 e; rw [dval_decDigits]
theorem dval_snoc (l : List UInt8) (c : UInt8) : dval (l ++ [c]) = dval l * 10 + (c.toNat - 48) := by simp [dval, dstep]
theorem foldl_lt : ∀ (l : List UInt8) (a : Nat), digits l → l.foldl dstep a < (a + 1) * 10 ^ l.length
  | [], a, _ => by simp
  | c :: r, a, h => by
    have h1 := foldl_lt r (dstep a c) (fun x hx => h x (by simp [hx])); have h2 := h c (by simp); have h3 : dstep a c + 1 ≤ (a + 1) * 10 := by unfold dstep; omega
    have h4 := Nat.mul_le_mul_right (10 ^ r.length) h3; rw [List.foldl_cons, List.length_cons, Nat.pow_succ, Nat.mul_comm (10 ^ r.length) 10, ← Nat.mul_assoc]
    omega
theorem dval_lt (l : List UInt8) (h : digits l) : dval l < 10 ^ l.length := by
  have := foldl_lt l 0 h
  simpa [dval] using this
end Go.Proofs.Ytpmeaikiaoojkaa
namespace Go.Proofs.Ytpmeaikiaoojkaa
open Go.RowKit

theorem cellsOf_encT (l : List ByteArray) : cellsOf encT l = l.map Value.string := by
  induction l with
  | nil => rfl
  | cons x r ih =>
    have : cellsOf encT (x :: r) = encT x ++ cellsOf encT r := rfl; rw [this, ih]; rfl
/-- the box at g holds the words that are still to come; all of it lies below B -/
def Scan (W : World) (B g : Nat) (ws : List ByteArray) : Prop := ∃ A n, BoxC W g 101 #[.slice A n n] ∧ g < B ∧ Sl encT W B A n ws ∧ ∀ a, A = some a → a.block ≠ g
theorem Scan.keep {W W' : World} {B g : Nat} {ws : List ByteArray} (h : Scan W B g ws) (hb : Below B W W') : Scan W' B g ws := by
  obtain ⟨A, n, hx, hg, hs, ha⟩ := h; exact ⟨A, n, (hb.block g hg).trans hx, hg, hs.keep hb, ha⟩
theorem Sl.turn {α : Type} {enc : α → List Value} {w w' : World} {B n g : Nat} {A : Option Addr} {l : List α} (h : Sl enc w B A n l) (hB : B ≤ w.heap.size) (ht : Turn (some ⟨g, 0, none⟩) w w') (hne : ∀ a, A = some a → a.block ≠ g) : Sl enc w' B A n l := by
  refine ⟨h.1, fun hn => ?_⟩; obtain ⟨b, off, hA, hb, hc⟩ := h.2 hn; refine ⟨b, off, hA, hb, fun q u hu => ?_⟩; have h1 := hc q u hu; have h2 := ht.block b (by omega) (by have := hne _ hA; simpa using this); simp only [World.cell?] at h1 ⊢
  rw [h2]; exact h1
end Go.Proofs.Ytpmeaikiaoojkaa
namespace Go.Proofs.Ytpmeaikiaoojkaa
open Go.RowKit

def NumIs (s : ByteArray) (w : World) (e : Ending) (w' : World) : Prop :=
  ∃ v b, e = .returned (.tuple #[.int .i64 v, .bool b]) ∧ IsNum s v ∧ -9223372036854775808 ≤ v ∧ v ≤ 9223372036854775807 ∧ Below w.heap.size w w'
end Go.Proofs.Ytpmeaikiaoojkaa
namespace Go.Proofs.Ytpmeaikiaoojkaa
open Go.RowKit

def ReadPost (text : ByteArray) (w : World) (e : Ending) (w' : World) : Prop :=
  ((∃ k key hi num, askOk k key hi num = true ∧ askText k key hi num = text ∧ e = .returned (.tuple #[.agg #[.int .i64 k, .string key, .string hi, .int .i64 num], .bool true])) ∨
   ((∀ k key hi num, askOk k key hi num = true → askText k key hi num ≠ text) ∧ e = .returned (.tuple #[.agg #[.int .i64 0, .string ByteArray.empty, .string ByteArray.empty, .int .i64 0], .bool false]))) ∧ Below w.heap.size w w'
theorem read_unique {text : ByteArray} {ws : List ByteArray} (hw : ws = wordsOf text ∨ ws = cutS text) {j : Nat} (hj : j < 9) (h0 : nthW ws 0 = word j) {a b c : Bool} (hs : shape ((j : Int) + 1) = (a, b, c)) {key hi : ByteArray} {num : Int}
    (h1 : key = if a = true then nthW ws 1 else ByteArray.empty) (h2 : hi = if b = true then nthW ws 2 else ByteArray.empty) (h3 : c = true → IsNum (nthW ws 2) num) (h4 : c = false → num = 0)
    {k' : Int} {key' hi' : ByteArray} {num' : Int} (hok : askOk k' key' hi' num' = true) (ht : askText k' key' hi' num' = text) : k' = (j : Int) + 1 ∧ key' = key ∧ hi' = hi ∧ num' = num := by
  subst ht; obtain ⟨j', a', b', c', rfl, hj', hs', e0, e1, e2, e3, e4, n0, n1, -⟩ := text_words hok hw; obtain rfl := word_inj hj' hj (e0.symm.trans h0); rw [hs] at hs'; simp only [Prod.mk.injEq] at hs'
  obtain ⟨rfl, rfl, rfl⟩ := hs'; refine ⟨rfl, e1.trans h1.symm, e2.trans h2.symm, ?_⟩; cases c
  · rw [e4 rfl, h4 rfl]
  · exact (h3 rfl num' n0 n1 (e3 rfl)).symm
theorem read_none {text : ByteArray} {ws : List ByteArray} (hw : ws = wordsOf text ∨ ws = cutS text) (h : ∀ j, j < 9 → word j ≠ nthW ws 0) {k' : Int} {key' hi' : ByteArray} {num' : Int} (hok : askOk k' key' hi' num' = true) : askText k' key' hi' num' ≠ text := by
  intro ht; subst ht; obtain ⟨j', a', b', c', rfl, hj', hs', e0, -⟩ := text_words hok hw; exact h j' hj' e0.symm
theorem belB {w : World} {B g : Nat} (o : Nat) (u : Value) (hB : B ≤ w.heap.size) (hg : B ≤ g) : Below B w (w.setCell ⟨g, o, none⟩ u) := by
  have ht := (Turn.refl (some ⟨g, 0, none⟩) w).set o u; exact ⟨ht.os, ht.tape, ht.output, ht.size, fun k hk => ht.block k (by omega) (by simp; omega)⟩
theorem bel_set4 {w W : World} {B : Nat} (h : Below w.heap.size w W) (hB : w.heap.size ≤ B) (u0 u1 u2 u3 : Value) : Below w.heap.size w ((((W.setCell ⟨B, 0, none⟩ u0).setCell ⟨B, 1, none⟩ u1).setCell ⟨B, 2, none⟩ u2).setCell ⟨B, 3, none⟩ u3) :=
  bel_set (bel_set (bel_set (bel_set h (p := ⟨B, 0, none⟩) hB u0) (p := ⟨B, 1, none⟩) hB u1) (p := ⟨B, 2, none⟩) hB u2) (p := ⟨B, 3, none⟩) hB u3
end Go.Proofs.Ytpmeaikiaoojkaa
namespace Go.Proofs.Ytpmeaikiaoojkaa
open Go.RowKit

set_option maxHeartbeats 1000000 in
theorem l4Wrong (on bad : Bool) (at_ : Int) (B : Option Addr) (m d : Nat) (w : World) :
    Calls Try.prog 120 #[.agg #[.bool on, .bool bad, .int .i64 at_, .slice B m d]] w fun e w' => e = .returned (.agg #[.bool on, .bool on, .int .i64 at_, .slice B m d]) ∧ Below w.heap.size w w' := by
  have x1 := (BoxC.new w 52 #[.bool on, .bool bad, .int .i64 at_, .slice B m d]).alloc (.cells #[.bool false, .bool false, .int .i64 0, .slice none 0 0] 52); have x2 := BoxC.new (w.alloc (.cells #[.bool on, .bool bad, .int .i64 at_, .slice B m d] 52)) 52 #[.bool false, .bool false, .int .i64 0, .slice none 0 0]; simp only [World.size_alloc] at x2
  have b0 := bel_alloc (bel_alloc (Below.refl _ w) (.cells #[.bool on, .bool bad, .int .i64 at_, .slice B m d] 52)) (.cells #[.bool false, .bool false, .int .i64 0, .slice none 0 0] 52); go_enter Try.func120, Try.ntmps120; go_upto_region 1 with fail; generalize (w.alloc (.cells #[.bool on, .bool bad, .int .i64 at_, .slice B m d] 52)).alloc (.cells #[.bool false, .bool false, .int .i64 0, .slice none 0 0] 52) = w0 at *; obtain ⟨y0, y1, y2, y3⟩ := x1.k4; have g1 := x1.f 1; obtain ⟨z0, z1, z2, z3⟩ := x2.k4; have f0 := x2.f 0; have f1 := x2.f 1; have f2 := x2.f 2; have f3 := x2.f 3; have BB := Lib.hid (bel_set4 (bel_set b0 (p := ⟨w.heap.size, 1, none⟩) (Nat.le_refl _) (.bool on)) (Nat.le_succ _) (.bool on) (.bool on) (.int .i64 at_) (.slice B m d)); clear b0 x1 x2; go_wp2
  exact bodyPost_ret (v := .agg #[.bool on, .bool on, .int .i64 at_, .slice B m d]) (by simp [results, Try.results120, go_sem, z0, z1, z2, z3]) rfl ⟨rfl, BB.out⟩
def CopyPost (w : World) (on bad : Bool) (at_ : Int) (l : List Write) (e : Ending) (w' : World) : Prop := ∃ A c, e = .returned (.agg #[.bool on, .bool bad, .int .i64 at_, .slice A l.length c]) ∧ Own encWrite 3 113 w' w.heap.size (.slice A l.length c) l ∧ Below w.heap.size w w'
set_option maxHeartbeats 2000000 in
set_option maxRecDepth 100000 in
theorem l4Copy (on bad : Bool) (at_ : Int) (B : Option Addr) (m d : Nat) (lw : List Write) (w : World) (hs : Sl encWrite w w.heap.size B m lw) (hm : m ≤ 1048576) :
    Calls Try.prog 96 #[.agg #[.bool on, .bool bad, .int .i64 at_, .slice B m d]] w (CopyPost w on bad at_ lw) := by
  have HS := Lib.hid hs; have HM := Lib.hid hm; clear hs hm; have x1 := (BoxC.new w 52 #[.bool on, .bool bad, .int .i64 at_, .slice B m d]).alloc (.cells #[.bool false, .bool false, .int .i64 0, .slice none 0 0] 52); have x2 := BoxC.new (w.alloc (.cells #[.bool on, .bool bad, .int .i64 at_, .slice B m d] 52)) 52 #[.bool false, .bool false, .int .i64 0, .slice none 0 0]; simp only [World.size_alloc] at x2
  have b0 := bel_alloc (bel_alloc (Below.refl _ w) (.cells #[.bool on, .bool bad, .int .i64 at_, .slice B m d] 52)) (.cells #[.bool false, .bool false, .int .i64 0, .slice none 0 0] 52); go_enter Try.func96, Try.ntmps96; go_wp2_with fail; generalize (w.alloc (.cells #[.bool on, .bool bad, .int .i64 at_, .slice B m d] 52)).alloc (.cells #[.bool false, .bool false, .int .i64 0, .slice none 0 0] 52) = w0 at *; obtain ⟨y0, y1, y2, y3⟩ := x1.k4
  go_region_with (go_at_call 111; refine (l3Copy at_ B m d lw _ (by first | exact HS.out.on b0.drew | exact HS.out.on b0) HM.out).mono ?_; rintro e w1 ⟨A1, c1, rfl, o1, hb1⟩; have k1 := bel_trans b0.drew hb1; have t1 := (x1.drew).on hb1; obtain ⟨q0, q1, q2, q3⟩ := t1.k4; have t2 := (x2.drew).on hb1; obtain ⟨z0, z1, z2, z3⟩ := t2.k4; have f0 := t2.f 0; have f1 := t2.f 1; have f2 := t2.f 2; have f3 := t2.f 3)
  all_goals
    have T0 := t2.set 0 (.bool on); have T1 := T0.set 1 (.bool bad); have T2 := T1.set 2 (.int .i64 at_); have T3 := T2.set 3 (.slice A1 lw.length c1); have O5 := Lib.hid (((((o1.box t2 (by decide) (k := 0) (v := .bool on)).box T0 (by decide) (k := 1) (v := .bool bad)).box T1 (by decide) (k := 2) (v := .int .i64 at_)).box T2 (by decide) (k := 3) (v := .slice A1 lw.length c1)).lower (base' := w.heap.size) b0.size); have BB := Lib.hid (bel_set4 k1 (Nat.le_succ _) (.bool on) (.bool bad) (.int .i64 at_) (.slice A1 lw.length c1)); have r0 := Lib.hid (T3.c (k := 0) rfl); have r1 := Lib.hid (T3.c (k := 1) rfl); have r2 := Lib.hid (T3.c (k := 2) rfl); have r3 := Lib.hid (T3.c (k := 3) rfl); clear T0 T1 T2 T3 t1 t2 x1 x2 b0 k1 o1 hb1; go_wp2
    exact bodyPost_ret (v := .agg #[.bool on, .bool bad, .int .i64 at_, .slice A1 lw.length c1]) (by simp [results, Try.results96, go_sem, r0.out, r1.out, r2.out, r3.out]) rfl ⟨_, _, rfl, O5.out, BB.out⟩
end Go.Proofs.Ytpmeaikiaoojkaa
namespace Go.Proofs.Ytpmeaikiaoojkaa
open Go.RowKit

def DoNPost (w : World) (now : Int) (e : Ending) (w' : World) : Prop := ∃ (now' : Int) (A' : Option Addr) (c' : Nat) (l' : List Ver) (ok : Bool), e = .returned (.tuple #[.agg #[.int .i64 now', .slice A' l'.length c'], .bool ok]) ∧ now ≤ now' ∧ VersP now' l' ∧ Own encVer 4 131 w' w.heap.size (.slice A' l'.length c') l' ∧ Below w.heap.size w w'
set_option maxHeartbeats 4000000 in
set_option maxRecDepth 100000 in
theorem l2DoN (now : Int) (A : Option Addr) (n c : Nat) (l : List Ver) (B : Option Addr) (m d : Nat) (p : List Write) (w : World) (hr : Sl encVer w w.heap.size A n l) (hP : VersP now l) (hs : Sl encWrite w w.heap.size B m p) (hk : WriteSWf p) (hm : m ≤ 1000) :
    Calls Try.prog 75 #[.agg #[.int .i64 now, .slice A n c], .slice B m d] w (DoNPost w now) := by
  have hn60 : n ≤ 60 := by have := hP.1.2.2; rw [hr.len] at this; exact this
  have h0 : 0 ≤ now := hP.1.1; have h1 : now ≤ 40 := hP.1.2.1; have HR := Lib.hid hr; have HP := Lib.hid hP; have HS := Lib.hid hs; have HK := Lib.hid hk; have HM := Lib.hid hm; have HN := Lib.hid hn60; have b0 := bel_alloc (bel_alloc (Below.refl _ w) (.cells #[.int .i64 now, .slice A n c] 87)) (.cells #[.int .i64 0, .slice none 0 0] 87); have x1 := ((BoxC.new w 87 #[.int .i64 now, .slice A n c]).alloc (.cells #[.int .i64 0, .slice none 0 0] 87)); have x2 := (BoxC.new (w.alloc (.cells #[.int .i64 now, .slice A n c] 87)) 87 #[.int .i64 0, .slice none 0 0]); simp only [World.size_alloc] at x2
  have HZ := Lib.hid (show ((w.alloc (.cells #[.int .i64 now, .slice A n c] 87)).alloc (.cells #[.int .i64 0, .slice none 0 0] 87)).heap.size = w.heap.size + 2 by simp); obtain ⟨p0, p1⟩ := x1.k2; clear hr hP hs hk hm hn60; go_enter Try.func75, Try.ntmps75; go_wp2_with fail; generalize (w.alloc (.cells #[.int .i64 now, .slice A n c] 87)).alloc (.cells #[.int .i64 0, .slice none 0 0] 87) = w0 at *; refine (l2Copy now A n c l w0 (HR.out.on b0) (by have := HN.out; omega)).mono ?_; rintro e w1 ⟨A1, c1, rfl, o1, hb1⟩; replace x1 := x1.on hb1; replace x2 := x2.on hb1; have b1 := bel_trans b0 hb1; clear p0 p1; have y1 := x1.alloc (.cells #[.int .i64 now, .slice A1 l.length c1] 87); have y6 := BoxC.new w1 87 #[.int .i64 now, .slice A1 l.length c1]; obtain ⟨p0, p1⟩ := y1.k2; have q0 := y6.c (k := 0) rfl; have f0 := y6.f 0; have X1 := Lib.hid (x1.alloc (.cells #[.int .i64 (now + 1), .slice A1 l.length c1] 87)); have X2 := Lib.hid (x2.alloc (.cells #[.int .i64 (now + 1), .slice A1 l.length c1] 87)); have X6 := Lib.hid (BoxC.new w1 87 #[.int .i64 (now + 1), .slice A1 l.length c1]); have O1 := Lib.hid (o1.alloc (.cells #[.int .i64 (now + 1), .slice A1 l.length c1] 87)); have B1 := Lib.hid (bel_alloc b1 (.cells #[.int .i64 (now + 1), .slice A1 l.length c1] 87)); clear x1 x2 y1 y6 o1 b1; go_wp2_with fail
  go_loopw [7] (fun v7 wr => DoRel w now A n c w1.heap.size m w0.heap.size v7 wr) (fun v7 _ => m - (intOf v7).toNat)
  case atStart => exact ⟨0, l, A1, c1, Nat.zero_le _, rfl, O1.out, by have := HR.out.len; omega, HP.out.swf, X1.out, X2.out, X6.out, B1.out⟩
  case round =>
    clear p0 p1 q0 f0 X1 X2 X6 O1 B1; obtain ⟨i, l', A', c', him, rfl, ho, hl, hk, x1, x2, x6, hb⟩ := hrel; have HL := Lib.hid hl; clear hl; obtain ⟨s0, s1⟩ := x6.k2
    by_cases hi : i < m
    · have h0' : (i : Int) < (m : Int) := by omega
      have j0 : (0 : Int) ≤ (i : Int) := by omega
      have hn' : (m : Int) ≤ 1000 := by have := HM.out; omega
      obtain ⟨b, off, rfl, hbb⟩ := HS.out.spot (by omega); obtain ⟨g0, g1, g2, hx, e0, e1, e2⟩ := atWrite (HS.out.keep hb) hi; have HW := Lib.hid (HK.out.at_ hx); have X1 := Lib.hid x1; have X2 := Lib.hid x2; have X6 := Lib.hid x6; have HO := Lib.hid ho; have HKL := Lib.hid hk; have HB := Lib.hid hb; have HBW := Lib.hid (show w0.heap.size ≤ wr.heap.size by have := x6.lt; have := hb1.size; omega); clear hx x1 x2 x6 ho hk hb; go_wp2_with fail
      go_region_law (go_simp; go_at_call 94; refine (l2Write A' l'.length c' l' g0 g1 g2 (now + 1) w0.heap.size _ (by exact HO.out) HKL.out (by exact HW.out) (fun _ h => h) (by have := HL.out; have := HN.out; have := HM.out; omega) (by exact HBW.out)).mono ?_; rintro e w6 ⟨A6, c6, l6, rfl, o6, hl6, hk6, b6, k6⟩; have z6 := BoxC.keptO (by exact X6.out) k6 (by decide); have z61 := z6.c (k := 1) rfl; have fz6 := z6.f 1)
      all_goals
        have hz1 := X1.out.lt; have hz2 := X2.out.lt; have hz6 := X6.out.lt; have hw1 := hb1.size; have Y1 := Lib.hid ((BoxC.keptO (by exact X1.out) k6 (by decide)).other (B' := w1.heap.size) (k := 1) (x := .slice A6 l6.length c6) (by have := HZ.out; omega)); have Y2 := Lib.hid ((BoxC.keptO (by exact X2.out) k6 (by decide)).other (B' := w1.heap.size) (k := 1) (x := .slice A6 l6.length c6) (by have := HZ.out; omega)); have Y6 := Lib.hid (z6.set 1 (.slice A6 l6.length c6)); have Y7 := Lib.hid (o6.box z6 (by decide) (k := 1) (v := .slice A6 l6.length c6)); have Y8 := Lib.hid (bel_set (show Below w.heap.size w w6 by first | exact HB.out.trans (b6.mono (B' := w.heap.size) (by have := HZ.out; omega)) | exact HB.out.drew.trans (b6.mono (B' := w.heap.size) (by have := HZ.out; omega))) (p := ⟨w1.heap.size, 1, none⟩) (by have := HZ.out; simp only; omega) (.slice A6 l6.length c6)); have Y9 := Lib.hid (show l6.length ≤ n + (i + 1) by have := HL.out; omega); clear z6 o6 b6 k6 hl6; go_wp2_with fail; go_roundw
        case rel => exact ⟨i + 1, l6, A6, c6, by omega, by simp, Y7.out, Y9.out, hk6, Y1.out, Y2.out, Y6.out, Y8.out⟩
        case measure => simp [intOf]; omega
    · obtain rfl : i = m := by omega
      have h0' : ¬ ((i : Int) < (i : Int)) := by omega
      have hlm : l'.length ≤ 1048576 := by have := HL.out; have := HN.out; have := HM.out; omega
      have hsl := ho.sl; obtain ⟨p0, p1⟩ := x1.k2; go_wp2_with fail; refine (specVersOk (now + 1) A' l'.length c' l' _ hsl hk hlm).mono ?_; rintro e w2 ⟨rfl, hb2⟩; replace x1 := x1.on hb2; replace x2 := x2.on hb2; replace x6 := x6.on hb2; replace ho := ho.on hb2; have b2 := bel_trans hb hb2; clear p0 p1 s0 s1 hsl hb hb2 hlm; obtain ⟨p0, p1⟩ := x1.k2; obtain ⟨s0, s1⟩ := x6.k2; obtain ⟨r0, r1⟩ := x2.k2; have f0 := x2.f 0; have f1 := x2.f 1; have hz2 := x2.lt; have hle : w.heap.size ≤ w0.heap.size := by have := HZ.out; omega
      cases hok : versOk (now + 1) l'
      · clear hok; go_wp2_with fail; refine (l2Copy now A n c l w2 (HR.out.on b2) (by have := HN.out; omega)).mono ?_; rintro e w3 ⟨A3, c3, rfl, o3, b3⟩; replace x2 := x2.on b3; have b4 := bel_trans b2 b3; clear p0 p1 s0 s1 r0 r1 f0 f1; obtain ⟨r0, r1⟩ := x2.k2; have f0 := x2.f 0; have f1 := x2.f 1; have O5 := Lib.hid (((o3.box x2 (by decide) (k := 0) (v := .int .i64 now)).box (x2.set 0 (.int .i64 now)) (by decide) (k := 1) (v := .slice A3 l.length c3)).lower (base' := w.heap.size) b2.size); have B5 := Lib.hid (bel_set (bel_set b4 (p := ⟨w.heap.size + 1, 0, none⟩) (by simp only; omega) (.int .i64 now)) (p := ⟨w.heap.size + 1, 1, none⟩) (by simp only; omega) (.slice A3 l.length c3)); have z0 := Lib.hid ((((x2.set 0 (.int .i64 now)).set 1 (.slice A3 l.length c3))).c (k := 0) rfl); have z1 := Lib.hid ((((x2.set 0 (.int .i64 now)).set 1 (.slice A3 l.length c3))).c (k := 1) rfl); go_wp2_with fail; exact bodyPost_ret (v := .tuple #[.agg #[.int .i64 now, .slice A3 l.length c3], .bool false]) (by simp [results, Try.results75, go_sem, z0.out, z1.out]) rfl ⟨now, A3, c3, l, false, rfl, Int.le_refl _, HP.out, O5.out, B5.out⟩
      · have HQ := Lib.hid (versOk_iff.1 hok); clear hok; have O5 := Lib.hid (((ho.box x2 (by decide) (k := 0) (v := .int .i64 (now + 1))).box (x2.set 0 (.int .i64 (now + 1))) (by decide) (k := 1) (v := .slice A' l'.length c')).lower (base' := w.heap.size) hle); have B5 := Lib.hid (bel_set (bel_set b2 (p := ⟨w.heap.size + 1, 0, none⟩) (by simp only; omega) (.int .i64 (now + 1))) (p := ⟨w.heap.size + 1, 1, none⟩) (by simp only; omega) (.slice A' l'.length c')); have z0 := Lib.hid ((((x2.set 0 (.int .i64 (now + 1))).set 1 (.slice A' l'.length c'))).c (k := 0) rfl); have z1 := Lib.hid ((((x2.set 0 (.int .i64 (now + 1))).set 1 (.slice A' l'.length c'))).c (k := 1) rfl); go_wp2_with fail; exact bodyPost_ret (v := .tuple #[.agg #[.int .i64 (now + 1), .slice A' l'.length c'], .bool true]) (by simp [results, Try.results75, go_sem, z0.out, z1.out]) rfl ⟨now + 1, A', c', l', true, rfl, by omega, HQ.out, O5.out, B5.out⟩
end Go.Proofs.Ytpmeaikiaoojkaa
namespace Go.Proofs.Ytpmeaikiaoojkaa
open Go.RowKit

set_option maxHeartbeats 4000000 in
set_option maxRecDepth 100000 in
theorem seatOk (now : Int) (A : Option Addr) (n c : Nat) (lv : List Ver) (on bad : Bool) (at_ : Int) (B : Option Addr) (m d : Nat) (lw : List Write) (w : World) (hr : Sl encVer w w.heap.size A n lv) (hP : VersP now lv) (h0 : 0 ≤ at_) (h1 : at_ ≤ now) (hs : Sl encWrite w w.heap.size B m lw) (hk : SmallW lw) (hm : m ≤ 100) :
    Calls Try.prog 97 #[.agg #[.int .i64 now, .slice A n c], .agg #[.bool on, .bool bad, .int .i64 at_, .slice B m d]] w (SomeBool w) := by
  have HR := Lib.hid hr; have HP := Lib.hid hP; have HS := Lib.hid hs; have HK := Lib.hid hk; have HM := Lib.hid hm; have H0 := Lib.hid h0; have H1 := Lib.hid h1; have HN : Hid (n ≤ 60) := Lib.hid (by have := hP.1.2.2; rw [hr.len] at this; exact this); clear hr hP hs hk hm h0 h1; have x1 := (BoxC.new w 87 #[.int .i64 now, .slice A n c]).alloc (.cells #[.bool on, .bool bad, .int .i64 at_, .slice B m d] 52); have x2 := BoxC.new (w.alloc (.cells #[.int .i64 now, .slice A n c] 87)) 52 #[.bool on, .bool bad, .int .i64 at_, .slice B m d]; simp only [World.size_alloc] at x2
  have b0 := bel_alloc (bel_alloc (Below.refl _ w) (.cells #[.int .i64 now, .slice A n c] 87)) (.cells #[.bool on, .bool bad, .int .i64 at_, .slice B m d] 52); obtain ⟨y0, y1⟩ := x1.k2; go_enter Try.func97, Try.ntmps97; go_wp2_with fail; generalize (w.alloc (.cells #[.int .i64 now, .slice A n c] 87)).alloc (.cells #[.bool on, .bool bad, .int .i64 at_, .slice B m d] 52) = w0 at *; refine (specVersOk now A n c lv w0 (HR.out.on b0) HP.out.swf (by have := HN.out; omega)).mono ?_; rintro e w1 ⟨rfl, hb1⟩; rw [versOk_true HP.out]; replace x1 := x1.on hb1; replace x2 := x2.on hb1; have b1 := bel_trans b0 hb1; clear y0 y1 b0 hb1; obtain ⟨y0, y1⟩ := x1.k2; obtain ⟨z0, z1, z2, z3⟩ := x2.k4; cases on
  · cases bad
    · by_cases ha : at_ = 0
      · subst ha
        by_cases hmz : m = 0
        · subst hmz; go_wp2_with fail; go_ret
          exact ⟨_, rfl, b1⟩
        · have hm1 : ((m : Int) == 0) = false := by simp; omega
          go_wp2_with fail; go_ret
          exact ⟨_, rfl, b1⟩
      · have ha1 : (at_ == 0) = false := by simp [ha]
        go_wp2_with fail; go_ret
        exact ⟨_, rfl, b1⟩
    · go_wp2_with fail; go_ret
      exact ⟨_, rfl, b1⟩
  · go_wp2_with fail; refine (workOk now A n c lv at_ B m d lw w1 (HR.out.on b1) HP.out H0.out H1.out (HS.out.on b1) HK.out HM.out).mono ?_; rintro e w2 ⟨b, rfl, hb2⟩; go_wp2
    go_ret
    exact ⟨_, rfl, bel_trans b1 hb2⟩
set_option maxHeartbeats 8000000 in
set_option maxRecDepth 100000 in
theorem workRows (now : Int) (A : Option Addr) (n c : Nat) (lv : List Ver) (at_ : Int) (B : Option Addr) (m d : Nat) (lw : List Write) (w : World) (hr : Sl encVer w w.heap.size A n lv) (hP : VersP now lv) (h0 : 0 ≤ at_) (h1 : at_ ≤ now) (hs : Sl encWrite w w.heap.size B m lw) (hk : SmallW lw) (hm : m ≤ 100) :
    Calls Try.prog 132 #[.agg #[.int .i64 now, .slice A n c], .agg #[.int .i64 at_, .slice B m d]] w (RowsPost w w.heap.size (100 + m)) := by
  have HR := Lib.hid hr; have HP := Lib.hid hP; have HS := Lib.hid hs; have HK := Lib.hid hk; have HM := Lib.hid hm; have H0 := Lib.hid h0; have H1 := Lib.hid h1; have HN : Hid (n ≤ 60) := Lib.hid (by have := hP.1.2.2; rw [hr.len] at this; exact this); have hRP := at_rowsP hP h0 h1; have HA : Hid ((atL lv at_).length ≤ 100 ∧ ∀ r ∈ atL lv at_, r.1.size ≤ 3) := Lib.hid ⟨by have := hRP.1; omega, fun r hr => by have := hRP.small r hr; omega⟩; clear hr hP hs hk hm h0 h1 hRP; have x1 := (BoxC.new w 87 #[.int .i64 now, .slice A n c]).alloc (.cells #[.int .i64 at_, .slice B m d] 50); have x2 := BoxC.new (w.alloc (.cells #[.int .i64 now, .slice A n c] 87)) 50 #[.int .i64 at_, .slice B m d]; simp only [World.size_alloc] at x2
  have b0 := bel_alloc (bel_alloc (Below.refl _ w) (.cells #[.int .i64 now, .slice A n c] 87)) (.cells #[.int .i64 at_, .slice B m d] 50); obtain ⟨y0, y1⟩ := x1.k2; obtain ⟨z0, z1⟩ := x2.k2; go_enter Try.func132, Try.ntmps132; go_wp2_with fail; generalize (w.alloc (.cells #[.int .i64 now, .slice A n c] 87)).alloc (.cells #[.int .i64 at_, .slice B m d] 50) = w0 at *; refine (workOk now A n c lv at_ B m d lw w0 (HR.out.on b0) HP.out H0.out H1.out (HS.out.on b0) HK.out HM.out).mono ?_; rintro e w1 ⟨b, rfl, hb1⟩; replace x1 := x1.on hb1; replace x2 := x2.on hb1; have b1 := bel_trans b0 hb1; clear y0 y1 z0 z1 b0 hb1; obtain ⟨y0, y1⟩ := x1.k2; obtain ⟨z0, z1⟩ := x2.k2; cases b
  · go_wp2_with fail; go_ret
    exact ⟨_, _, [], rfl, (Own.made0 (enc := encRow) (sz := 2) (e := 133) (base := w.heap.size) w1 b1.size), fun r h => by (cases h; done), by simp, bel_alloc b1 _⟩
  · go_wp2_with fail
    go_region_with (first
      | (go_at_call 53; refine (specAt now A n c lv at_ _ (by first | exact HR.out.on b1.drew) (by have := HN.out; omega)).mono ?_; rintro e w2 ⟨v2, rfl, o2, hb2⟩; obtain ⟨A2, c2, rfl, -, -⟩ := o2.form; have b2 := bel_trans b1.drew hb2; have t2 := (x2.drew).on hb2; obtain ⟨q0, q1⟩ := t2.k2)
      | (go_at_call 124; refine (l3Rows A2 (atL lv at_).length c2 (atL lv at_) B m d lw _ _ o2 hb2.size HA.out.2 (by have := HA.out.1; omega) (HS.out.on b2) HK.out (by have := HM.out; omega)).mono ?_; rintro e w3 ⟨A3, c3, l3, rfl, o3, hs3, hl3, hb3⟩))
    all_goals
      have BS := b1.size; go_wp2
      go_ret
      exact ⟨_, _, l3, rfl, o3.lower BS, hs3, by have := HA.out.1; have := HM.out; omega, bel_trans b2 hb3⟩
end Go.Proofs.Ytpmeaikiaoojkaa
namespace Go.Proofs.Ytpmeaikiaoojkaa
open Go.RowKit

set_option maxHeartbeats 1000000 in
theorem specRowsGet (A : Option Addr) (n c : Nat) (l : List Row) (key : ByteArray) (w : World) (hr : Sl encRow w w.heap.size A n l) (hk : KeysWf l) (hn : n ≤ 1048576) :
    Calls Try.prog 141 #[.slice A n c, .string key] w fun e w' => e = .returned (.tuple #[.int .i64 (getNum l key), .bool (getHas l key)]) ∧ Below w.heap.size w w' := by
  have HL := Lib.hid hr.len; have HN := Lib.hid hn; clear hn; cases hok : rowsOk l
  · have HG := Lib.hid (get_bad (key := key) hok); have HO := Lib.hid hok; clear hok; go_enter Try.func141, Try.ntmps141
    go_wp2_with (first
      | (go_at_call 142; refine (l1Find A n c l key _ hr HN.out).mono ?_; rintro e w1 ⟨rfl, hb1⟩)
      | (go_at_call 123; refine (specRowsOk A n c l _ (hr.on hb1) hk HN.out).mono ?_; rintro e w2 ⟨rfl, hb2⟩; rw [HO.out]))
    go_ret2
    exact ⟨ret_ib HG.out.1.symm HG.out.2.symm, bel_trans hb1 hb2⟩
  · have HO := Lib.hid hok; clear hok; cases hh : hit l key
    · have HG := Lib.hid (get_miss hh); have HH := Lib.hid hh; clear hh; go_enter Try.func141, Try.ntmps141
      go_wp2_with (first
        | (go_at_call 142; refine (l1Find A n c l key _ hr HN.out).mono ?_; rintro e w1 ⟨rfl, hb1⟩; rw [HH.out])
        | (go_at_call 123; refine (specRowsOk A n c l _ (hr.on hb1) hk HN.out).mono ?_; rintro e w2 ⟨rfl, hb2⟩; rw [HO.out]))
      go_ret2
      exact ⟨ret_ib HG.out.1.symm HG.out.2.symm, bel_trans hb1 hb2⟩
    · obtain ⟨num, hrow⟩ := hit_key hh; have HG := Lib.hid (get_hit hh HO.out hrow); have hlt := hit_lt hh; rw [HL.out] at hlt; have HR := Lib.hid hrow; have HH := Lib.hid hh; clear hh hrow; obtain ⟨b, off, rfl, hb⟩ := hr.spot (by omega); generalize hf : fnd l key = f at *; have HF := Lib.hid hf; clear hf; have f0 : (0 : Int) ≤ (f : Int) := by omega
      have f1 : (f : Int) < (n : Int) := by omega
      go_enter Try.func141, Try.ntmps141
      go_wp2_with (first
        | (go_at_call 142; refine (l1Find _ n c l key _ hr HN.out).mono ?_; rintro e w1 ⟨rfl, hb1⟩; rw [HH.out, HF.out])
        | (go_at_call 123; refine (specRowsOk _ n c l _ (hr.on hb1) hk HN.out).mono ?_; rintro e w2 ⟨rfl, hb2⟩; rw [HO.out]; obtain ⟨key', num', hrow', hk1, hk2⟩ := rowAt (hr.keep (bel_trans hb1 hb2)) hlt; (obtain ⟨rfl, rfl⟩ : key' = key ∧ num' = num := by (rw [HR.out] at hrow'; cases hrow'; exact ⟨rfl, rfl⟩)); clear hrow'))
      go_ret2
      exact ⟨ret_ib HG.out.1.symm HG.out.2.symm, bel_trans hb1 hb2⟩
end Go.Proofs.Ytpmeaikiaoojkaa
namespace Go.Proofs.Ytpmeaikiaoojkaa
open Go.RowKit

/-- the sum of the first k numbers -/
def sumTo : List Row → Nat → Int
  | [], _ => 0
  | _, 0 => 0
  | r :: l, k + 1 => r.2 + sumTo l k
noncomputable def sumOut (l : List Row) : Int := if rowsOk l = true then sumTo l l.length else 0
theorem sumTo_zero (l : List Row) : sumTo l 0 = 0 := by cases l <;> rfl
theorem sumTo_succ (l : List Row) (k : Nat) (key : ByteArray) (num : Int) (h : l[k]? = some (key, num)) : sumTo l (k + 1) = sumTo l k + num := by
  induction l generalizing k with
  | nil => simp at h
  | cons r l ih =>
    cases k with
    | zero => simp at h; subst h; simp [sumTo, sumTo_zero]
    | succ k =>
      have h' : l[k]? = some (key, num) := by simpa using h
      show r.2 + sumTo l (k + 1) = r.2 + sumTo l k + num
      rw [ih k h']; omega
theorem sumOut_bad {l : List Row} (h : rowsOk l = false) : sumOut l = 0 := by simp [sumOut, h]
theorem sumOut_ok {l : List Row} (h : rowsOk l = true) : sumOut l = sumTo l l.length := by simp [sumOut, h]
theorem numOk_iff {n : Int} : numOk n = true ↔ -999 ≤ n ∧ n ≤ 999 := by simp [numOk]
theorem RowsP.num {l : List Row} (h : RowsP l) {k : Nat} {key : ByteArray} {num : Int} (hk : l[k]? = some (key, num)) : -999 ≤ num ∧ num ≤ 999 := numOk_iff.1 (h.2.1 k _ hk).2

set_option maxHeartbeats 1000000 in
theorem specRowsSum (A : Option Addr) (n c : Nat) (l : List Row) (w : World) (hr : Sl encRow w w.heap.size A n l) (hk : KeysWf l) (hn : n ≤ 1048576) :
    Calls Try.prog 140 #[.slice A n c] w fun e w' => e = .returned (.int .i64 (sumOut l)) ∧ Below w.heap.size w w' := by
  have HL := Lib.hid hr.len; cases hok : rowsOk l
  · have HS := Lib.hid (sumOut_bad hok); have HO := Lib.hid hok
    have h0 : 0 < n := by
      apply Nat.pos_of_ne_zero
      rintro rfl; rw [hr.nil_of] at hok; rw [rowsOk_true ⟨by simp, fun i r h => by simp at h, fun i a b h => by simp at h⟩] at hok; cases hok
    clear hok; go_enter Try.func140, Try.ntmps140; go_wp2
    go_loopw [3, 4] (fun s i wr => s = .int .i64 0 ∧ i = .int .i64 0 ∧ Below w.heap.size w wr) (fun _ _ _ => 0)
    case atStart => exact ⟨rfl, rfl, Below.refl _ _⟩
    case round =>
      obtain ⟨rfl, rfl, hbel⟩ := hrel; have i1 : (0 : Int) < (n : Int) := by omega
      go_wp2_with (go_at_call 123; refine (specRowsOk A n c l _ (hr.on hbel) hk hn).mono ?_; rintro e w1 ⟨rfl, hb1⟩; rw [HO.out]); go_ret
      exact ⟨ret_int HS.out.symm, bel_trans hbel hb1⟩
  · have hP := rowsOk_iff.1 hok; have HS := Lib.hid (sumOut_ok hok); have HO := Lib.hid hok; clear hok; have h10 : n ≤ 10 := by have := hP.1; rw [HL.out] at this; exact this
    have HP := Lib.hid hP; have HN := Lib.hid hn; clear hP hn; go_enter Try.func140, Try.ntmps140; go_wp2
    go_loopw [3, 4] (fun s i wr => ∃ (k : Nat) (v : Int), k ≤ n ∧ i = .int .i64 k ∧ s = .int .i64 v ∧ Hid (v = sumTo l k) ∧ -999 * (k : Int) ≤ v ∧ v ≤ 999 * (k : Int) ∧ Below w.heap.size w wr) (fun _ i _ => n - (intOf i).toNat)
    case atStart => exact ⟨0, 0, by omega, rfl, rfl, (sumTo_zero l).symm, by omega, by omega, Below.refl _ _⟩
    case round =>
      obtain ⟨k, v, hkn, rfl, rfl, hv, hv0, hv1, hbel⟩ := hrel; have HV0 := Lib.hid hv0; have HV1 := Lib.hid hv1
      by_cases hlt : k < n
      · have s0 : -20000 ≤ v := by omega
        have s1 : v ≤ 20000 := by omega
        clear hv0 hv1; obtain ⟨b, off, rfl, hb⟩ := hr.spot (by omega); have i0 : (0 : Int) ≤ (k : Int) := by omega
        have i1 : (k : Int) < (n : Int) := by omega
        have i2 : (n : Int) ≤ 10 := by omega
        obtain ⟨key, num, hrow⟩ : ∃ key num, l[k]? = some (key, num) := by
          obtain ⟨key, num, h, _⟩ := rowAt (hr.keep hbel) hlt; exact ⟨key, num, h⟩
        obtain ⟨hn0, hn1⟩ := HP.out.num hrow; have HR := Lib.hid hrow; clear hrow; go_wp2_with (go_at_call 123; refine (specRowsOk _ n c l _ (hr.on hbel) hk HN.out).mono ?_; rintro e w1 ⟨rfl, hb1⟩; rw [HO.out]; obtain ⟨key', num', hrow', hk1, hk2⟩ := rowAt (hr.keep (bel_trans hbel hb1)) hlt; (obtain ⟨rfl, rfl⟩ : key' = key ∧ num' = num := by (rw [HR.out] at hrow'; cases hrow'; exact ⟨rfl, rfl⟩)); clear hrow'); go_roundw
        case rel => exact ⟨k + 1, v + num', by omega, by go_num, rfl, (by rw [sumTo_succ l k key' num' HR.out, hv.out] : v + num' = sumTo l (k + 1)), by have := HV0.out; omega, by have := HV1.out; omega, bel_trans hbel hb1⟩
        case measure => simp [intOf]; omega
      · clear hv0 hv1; go_wp2
        go_ret
        refine ⟨ret_int ?_, hbel⟩; rw [HS.out, hv.out, HL.out, show k = n by omega]
end Go.Proofs.Ytpmeaikiaoojkaa
namespace Go.Proofs.Ytpmeaikiaoojkaa
open Go.RowKit Go.Shelf
attribute [local go_sem] Oper.semAt_some

/-! ### the rows from one key to another -/
def inP (lo hi : ByteArray) (r : Row) : Bool := !klt r.1 lo && !klt hi r.1
noncomputable def inRes (l : List Row) (lo hi : ByteArray) : List Row := if rowsOk l = true then l.filter (inP lo hi) else []
theorem inRes_bad {l : List Row} (h : rowsOk l = false) (lo hi : ByteArray) : inRes l lo hi = [] := by simp [inRes, h]

/-! ### the iterator -/
end Go.Proofs.Ytpmeaikiaoojkaa
namespace Go.Proofs.Ytpmeaikiaoojkaa
open Go.RowKit

theorem own_snoc {α : Type} {enc : α → List Value} {sz : Nat} {e : TypeId} {w' : World} {base : Nat} {v' : Value} {l : List α} {x : α} (h : w'.ownsRow base e sz v' (l.length + 1) (cellsOf enc l ++ enc x)) : Own enc sz e w' base v' (l ++ [x]) := by
  unfold Own
  rw [cellsOf_append, cellsOf_one, List.length_append]; exact h
theorem le_facts {x hi : ByteArray} (h : klt hi x = false) : klt x hi = true ∨ (klt x hi = false ∧ (x.toList == hi.toList) = true) := by
  cases hq : klt x hi with
  | true => exact .inl rfl
  | false => exact .inr ⟨rfl, by rw [klt_total hq h]; simp⟩
theorem gt_facts {x hi : ByteArray} (h : klt hi x = true) : klt x hi = false ∧ (x.toList == hi.toList) = false := by
  refine ⟨klt_asymm h, ?_⟩; cases hq : (x.toList == hi.toList) with
  | false => rfl
  | true => rw [klt, eq_of_beq hq] at h; rw [show Op.bytesLess hi.toList hi.toList = false from klt_irrefl hi] at h; cases h
theorem take_one {l : List Row} {i : Nat} {x : Row} (h : l[i]? = some x) : l.take (i + 1) = l.take i ++ [x] := by
  rw [List.take_add_one, h]; rfl
theorem inP_in {l : List Row} {i : Nat} {x : Row} {lo hi : ByteArray} (h : l[i]? = some x) (hp : inP lo hi x = true) : (l.take (i + 1)).filter (inP lo hi) = (l.take i).filter (inP lo hi) ++ [x] := by
  rw [take_one h, List.filter_append]; simp [hp]
theorem inP_out {l : List Row} {i : Nat} {x : Row} {lo hi : ByteArray} (h : l[i]? = some x) (hp : inP lo hi x = false) : (l.take (i + 1)).filter (inP lo hi) = (l.take i).filter (inP lo hi) := by
  rw [take_one h, List.filter_append]; simp [hp]

set_option maxHeartbeats 2000000 in
set_option maxRecDepth 100000 in
theorem specRowsIn (A : Option Addr) (n c : Nat) (l : List Row) (lo hi : ByteArray) (w : World) (hr : Sl encRow w w.heap.size A n l) (hk : KeysWf l) (hn : n ≤ 1048576) :
    Calls Try.prog 139 #[.slice A n c, .string lo, .string hi] w (OwnPost w (inRes l lo hi)) := by
  obtain ⟨i0, hi0, hz0, hz1, hz2⟩ := info_parts info46; have HL := Lib.hid hr.len; have HN := Lib.hid hn; have HR := Lib.hid hr; clear hn hr; cases hok : rowsOk l
  · rw [inRes_bad hok]; have HO := Lib.hid hok; clear hok; go_enter Try.func139, Try.ntmps139; go_wp2_with fail
    go_loopw [7, 8] (fun v7 v8 wr => v7 = .slice (some ⟨w.heap.size, 0, none⟩) 0 0 ∧ v8 = .int .i64 0 ∧ wr = w.alloc (.cells #[] 133)) (fun _ _ _ => 0)
    case atStart => exact ⟨rfl, rfl, rfl⟩
    case round =>
      obtain ⟨rfl, rfl, rfl⟩ := hrel; have ho := (Own.made0 (enc := encRow) (sz := 2) (e := 133) w (Nat.le_refl _)); have hb0 := bel_alloc (Below.refl w.heap.size w) (.cells #[] 133)
      by_cases h0 : 0 < n
      · have h0' : (0 : Int) < (n : Int) := by omega
        go_wp2_with fail; refine (specRowsOk A n c l _ (HR.out.on hb0) hk HN.out).mono ?_; rintro e w1 ⟨rfl, hb1⟩; rw [HO.out]; go_wp2
        go_ret
        exact ⟨_, rfl, ho.on hb1, bel_trans hb0 hb1⟩
      · have h0' : ¬ (0 : Int) < (n : Int) := by omega
        go_wp2_with fail; go_ret
        exact ⟨_, rfl, ho, hb0⟩
  · have hD : inRes l lo hi = l.filter (inP lo hi) := by simp [inRes, hok]
    rw [hD]; have HO := Lib.hid hok; clear hok hD; go_enter Try.func139, Try.ntmps139; go_wp2_with fail
    go_loopw [7, 8] (fun v7 v8 wr => ∃ (i : Nat), i ≤ n ∧ v8 = .int .i64 i ∧ Own encRow 2 133 wr w.heap.size v7 ((l.take i).filter (inP lo hi)) ∧ Below w.heap.size w wr) (fun _ v8 _ => n - (intOf v8).toNat)
    case atStart => exact ⟨0, Nat.zero_le _, rfl, Own.made0 w (Nat.le_refl _), bel_alloc (Below.refl _ _) _⟩
    case round =>
      obtain ⟨i, hin, rfl, ho, hb⟩ := hrel
      by_cases h0 : i < n
      · have h0' : (i : Int) < (n : Int) := by omega
        have j0 : (0 : Int) ≤ (i : Int) := by omega
        have j5 : IntKind.i64.wrap ((i : Int) + 1) = (i : Int) + 1 := IntWalk.i64_in _ (by have := HN.out; omega); have j6 : wrap64 ((i : Int) + 1) = (i : Int) + 1 := IntWalk.wrap64_in _ (by have := HN.out; omega)
        have hlen : ((l.take i).filter (inP lo hi)).length ≤ i := by
          refine Nat.le_trans (List.length_filter_le _ _) ?_; rw [List.length_take]; omega
        go_wp2_with fail; refine (specRowsOk A n c l _ (HR.out.on hb) hk HN.out).mono ?_; rintro e w1 ⟨rfl, hb1⟩; rw [HO.out]; have hb2 := bel_trans hb hb1; have ho2 := ho.on hb1; obtain ⟨b, off, rfl, hbb⟩ := HR.out.spot (by omega); obtain ⟨x, hx, hcell⟩ := Sl.at_ (sz := 2) (enc := encRow) (fun _ => rfl) (n := n) (HR.out.keep hb2) (k := i) (by omega); have e0 : w1.cell? ⟨b, off + i * 2, none⟩ = some (.string x.1) := by have := hcell 0 _ rfl; simpa using this
        have e1 : w1.cell? ⟨b, off + i * 2 + 1, none⟩ = some (.int .i64 x.2) := by have := hcell 1 _ rfl; rw [show off + i * 2 + 1 = off + (i * 2 + 1) by omega]; exact this
        clear hcell ho hb hb1; have HX := Lib.hid hx; clear hx; have fin_out : inP lo hi x = false → Own encRow 2 133 w1 w.heap.size u7 ((l.take (i + 1)).filter (inP lo hi)) := fun hp => by rw [inP_out HX.out hp]; exact ho2
        have FO := Lib.hid fin_out; clear fin_out; cases hlo : klt x.1 lo
        · have l1 : Op.bytesLess x.1.toList lo.toList = false := hlo; cases hhi : klt hi x.1
          · have hp : inP lo hi x = true := by simp [inP, hlo, hhi]
            obtain ⟨av, cv, rfl⟩ : ∃ a c, u7 = .slice a ((l.take i).filter (inP lo hi)).length c := by
              obtain ⟨a, c, h, _⟩ := ho2.form; exact ⟨a, c, h⟩
            have HPX := Lib.hid (inP_in HX.out hp); generalize (l.take i).filter (inP lo hi) = o at *
            rcases le_facts hhi with l2 | ⟨l2, l3⟩
            all_goals
              have l2' := l2
              unfold klt at l2'
              go_wp2_with (at_builtin; refine wpList_append_own _ rfl _ _ 94 rfl w.heap.size 133 i0 (.agg #[.string ByteArray.empty, .int .i64 0]) 2 24 Try.underlying94 hi0 hz0 hz1 hz2 rfl (by decide) _ o.length (cellsOf encRow o) rfl (World.ownsRow.alloc ho2 _) ⟨w1.heap.size, 0, none⟩ 1 1 [.string x.1, .int .i64 x.2] rfl rfl (cell_two_new _ _ _ _) ?c2 ?c3 ?c4 ?c5 ?_)
              case c2 => intro u hu; simp at hu; rcases hu with rfl | rfl <;> rfl
              case c3 => have := HN.out; unfold maxLen; omega
              case c4 => have := HN.out; omega
              case c5 => have := hb2.size; simp; omega
              intro v2 w3 hown3 hg3 _; have ho3 : Own encRow 2 133 w3 w.heap.size v2 (o ++ [x]) := own_snoc hown3; have hb3 : Below w.heap.size w w3 := bel_grown (bel_alloc hb2 _) hg3 (fun k hk => (World.ownsRow.lt ho2 k hk).1); rw [← HPX.out] at ho3; clear hown3 hg3; go_wp2
              go_roundw
              case rel => exact ⟨i + 1, by omega, by simp, ho3, hb3⟩
              case measure => simp [intOf]; omega
          · have hp : inP lo hi x = false := by simp [inP, hlo, hhi]
            obtain ⟨l2, l3⟩ := gt_facts hhi
            unfold klt at l2
            go_wp2_with fail; go_roundw
            case rel => exact ⟨i + 1, by omega, by simp, FO.out hp, hb2⟩
            case measure => simp [intOf]; omega
        · have l1 : Op.bytesLess x.1.toList lo.toList = true := hlo; have hp : inP lo hi x = false := by simp [inP, hlo]
          go_wp2_with fail; go_roundw
          case rel => exact ⟨i + 1, by omega, by simp, FO.out hp, hb2⟩
          case measure => simp [intOf]; omega
      · obtain rfl : i = n := by omega
        have h0' : ¬ (i : Int) < (i : Int) := by omega
        go_wp2_with fail; go_ret
        exact ⟨_, rfl, by rw [List.take_of_length_le (Nat.le_of_eq HL.out)] at ho; exact ho, hb⟩
end Go.Proofs.Ytpmeaikiaoojkaa
