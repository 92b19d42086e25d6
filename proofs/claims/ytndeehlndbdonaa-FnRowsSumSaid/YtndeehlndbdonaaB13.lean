/- Contracts: l1Cut and RowsCut of the reference. -/
import Derived.Test.YtndeehlndbdonaaB12
import Derived.Deep.RegionLaw
namespace Go.Proofs.Ytndeehlndbdonaa
open Go.RowKit

def cutL (l : List Row) (key : ByteArray) : List Row := if hit l key = true then l.take (fnd l key) ++ l.drop (fnd l key + 1) else l
theorem cutL_hit {l : List Row} {key : ByteArray} {f : Nat} (hf : fnd l key = f) (k : hit l key = true) : cutL l key = l.take f ++ l.drop (f + 1) := by simp [cutL, k, hf]
theorem cutL_miss {l : List Row} {key : ByteArray} (k : hit l key = false) : cutL l key = l := by simp [cutL, k]
theorem cutRes_eq {l : List Row} {key : ByteArray} (h : rowsOk l = true) : cutRes l key = (cutL l key, hit l key) := by
  cases k : hit l key
  · rw [cutRes_miss h k, cutL_miss k]
  · rw [cutRes_hit rfl h k, cutL_hit rfl k]
set_option maxHeartbeats 2000000 in
set_option maxRecDepth 100000 in
theorem l1Cut (A : Option Addr) (n c : Nat) (l : List Row) (key : ByteArray) (w : World) (hr : Sl encRow w w.heap.size A n l) (hn : n ≤ 1048576) (hA : Fine A n c) :
    Calls Try.prog 76 #[.slice A n c, .string key] w (OwnPost w (cutL l key)) := by
  obtain ⟨i0, hi, hz0, hz1, hz2⟩ := info_parts info46
  have HL := Lib.hid hr.len
  have HN := Lib.hid hn
  clear hn
  cases hh : hit l key
  · rw [cutL_miss hh]
    have HH := Lib.hid hh
    clear hh
    go_enter Try.func76, Try.ntmps76
    go_wp2_with fail
    refine (l1Find A n c l key w hr HN.out).mono ?_
    rintro e w1 ⟨rfl, hb1⟩
    rw [HH.out]
    go_wp2_with fail
    refine (l1Copy A n c l w1 (hr.on hb1) (Nat.le_trans HN.out (by omega))).mono ?_
    rintro e w2 ⟨v, rfl, ho2, hb2⟩
    go_wp2
    go_ret
    exact ⟨v, rfl, ho2.lower hb1.size, bel_trans hb1 hb2⟩
  · have hlt := hit_lt hh
    rw [HL.out] at hlt
    obtain ⟨f, hfd⟩ : ∃ f, fnd l key = f := ⟨_, rfl⟩
    rw [cutL_hit hfd hh]
    rw [hfd] at hlt
    have HF := Lib.hid hfd
    have HH := Lib.hid hh
    clear hh hfd
    obtain ⟨b, off, rfl, hb⟩ := hr.spot (by omega)
    have hnc := hA.1
    have j0 : (0 : Int) ≤ (f : Int) := by omega
    have j1 : (f : Int) + 1 ≤ (n : Int) := by omega
    have j2 : (f : Int) ≤ (c : Int) := by omega
    have j3 : (n : Int) ≤ (c : Int) := by omega
    have j4 : (0 : Int) ≤ (f : Int) + 1 := by omega
    have j5 : IntKind.i64.wrap ((f : Int) + 1) = (f : Int) + 1 := IntWalk.i64_in _ (by have := HN.out; omega)
    have j6 : ((f : Int) + 1).toNat = f + 1 := by omega
    have HF3 := Lib.hid (show f ≤ 2097152 by have := HN.out; omega)
    have HS3 := Lib.hid (show (l.take f).length + (n - (f + 1)) ≤ maxLen by rw [List.length_take, HL.out]; have := HN.out; unfold maxLen; omega)
    have HS4 := Lib.hid (show ((l.take f).length + (n - (f + 1))) * 24 ≤ 140737488355328 by rw [List.length_take, HL.out]; have := HN.out; omega)
    go_enter Try.func76, Try.ntmps76
    go_wp2_with fail
    refine (l1Find _ n c l key w hr HN.out).mono ?_
    rintro e w1 ⟨rfl, hb1⟩
    rw [HF.out, HH.out]
    go_wp2_with fail
    go_region_law (first
      | (go_simp; go_at_call 69; refine (l1Copy _ f c (l.take f) _ ((hr.on (by exact hb1.drew)).head encRow_len (by omega)) HF3.out).mono ?_; rintro e w3 ⟨v3, rfl, o3, hb3⟩; have c3 := bel_trans hb1.drew hb3; have hr5 : Sl encRow w3 w.heap.size (if c = f + 1 then some ⟨b, off, none⟩ else some ⟨b, off + (f + 1) * 2, none⟩) (n - (f + 1)) (l.drop (f + 1)) := (hr.keep (by exact c3)).rest encRow_len hlt hnc)
      | (refine step_append_sl _ (by rfl) (.tmp 20) (.tmp 24) 26 (by rfl) w1.heap.size 46 i0 _ 2 24 Try.underlying26 hi hz0 hz1 hz2 rfl (by decide) encRow_len encRow_one v3 (l.take f) (by rfl) o3 _ (if c = f + 1 then some ⟨b, off, none⟩ else some ⟨b, off + (f + 1) * 2, none⟩) (n - (f + 1)) (c - (f + 1)) (l.drop (f + 1)) (by rfl) hr5 HS3.out HS4.out (by have := hb3.size; simp at *; omega) ?_; intro v6 w6 o6 g6))
    all_goals
      have hz := hb1.size
      have o7 := o6.lower (base' := w.heap.size) (by omega)
      have b6 : Below w.heap.size w w6 := bel_grown c3 g6 (fun k hk => Nat.le_trans hz (World.ownsRow.lt o3 k hk).1)
      go_wp2
      all_goals
        go_ret
        exact ⟨v6, rfl, o7, b6⟩

set_option maxHeartbeats 1000000 in
theorem specRowsCut (A : Option Addr) (n c : Nat) (l : List Row) (key : ByteArray) (w : World) (hr : Sl encRow w w.heap.size A n l) (hk : KeysWf l) (hn : n ≤ 1048576) (hA : Fine A n c) :
    Calls Try.prog 48 #[.slice A n c, .string key] w (PutPost w (cutRes l key)) := by
  have HN := Lib.hid hn
  clear hn
  cases hok : rowsOk l
  · rw [cutRes_bad hok]
    have HO := Lib.hid hok
    clear hok
    go_enter Try.func48, Try.ntmps48
    go_wp2_with fail
    refine (specRowsOk A n c l w hr hk HN.out).mono ?_
    rintro e w1 ⟨rfl, hb1⟩
    rw [HO.out]
    have ho := (Own.made0 (enc := encRow) (sz := 2) (e := 46) w1 hb1.size)
    go_wp2
    go_ret2
    exact ⟨_, rfl, ho, bel_alloc hb1 _⟩
  · rw [cutRes_eq hok]
    have HO := Lib.hid hok
    clear hok
    go_enter Try.func48, Try.ntmps48
    go_wp2_with fail
    refine (specRowsOk A n c l w hr hk HN.out).mono ?_
    rintro e w1 ⟨rfl, hb1⟩
    rw [HO.out]
    go_wp2_with fail
    refine (l1Find A n c l key w1 (hr.on hb1) HN.out).mono ?_
    rintro e w2 ⟨rfl, hb2⟩
    have b2 := bel_trans hb1 hb2
    go_wp2_with fail
    refine (l1Cut A n c l key w2 (hr.on b2) HN.out hA).mono ?_
    rintro e w3 ⟨v, rfl, ho3, hb3⟩
    go_wp2
    go_ret2
    exact ⟨_, rfl, ho3.lower b2.size, bel_trans b2 hb3⟩
end Go.Proofs.Ytndeehlndbdonaa
