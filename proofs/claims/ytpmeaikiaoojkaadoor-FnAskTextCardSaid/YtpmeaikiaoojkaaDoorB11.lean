/- Contracts: RowsPut of the reference. -/
import Derived.Test.YtpmeaikiaoojkaaDoorB10
import Derived.Test.YtpmeaikiaoojkaaDoorM0
import Derived.Deep.RegionLaw
namespace Go.Proofs.YtpmeaikiaoojkaaDoor
open Go.RowKit

theorem set_eq {l : List Row} {f : Nat} {x : Row} (h : f < l.length) : l.set f x = l.take f ++ [x] ++ l.drop (f + 1) := by
  rw [List.set_eq_take_append_cons_drop, if_pos h]; simp
set_option maxHeartbeats 2000000 in
set_option maxRecDepth 100000 in
theorem l1PutHit (A : Option Addr) (n c : Nat) (l : List Row) (key : ByteArray) (num : Int) (w : World) (hr : Sl encRow w w.heap.size A n l) (hn : n ≤ 1048576) (hh : hit l key = true) :
    Calls Tryd.prog 46 #[.slice A n c, .string key, .int .i64 num] w (OwnPost w (putL l key num)) := by
  have HL := Lib.hid hr.len
  have hlt := hit_lt hh
  obtain ⟨old, hrow⟩ := hit_key hh
  obtain ⟨f, hfd⟩ : ∃ f, fnd l key = f := ⟨_, rfl⟩
  have HPUT := Lib.hid (putL_hit (num := num) hfd hh)
  rw [hfd] at hlt hrow
  have HR := Lib.hid hrow
  rw [HL.out] at hlt
  have HF := Lib.hid hfd
  have HH := Lib.hid hh
  have HN := Lib.hid hn
  clear hfd hh hrow hn
  have i0 : (0 : Int) ≤ (f : Int) := by omega
  have i1 : (f : Int) < (n : Int) := by omega
  go_enter Tryd.func46, Tryd.ntmps46
  go_wp2_with fail
  refine (l1Find A n c l key w hr HN.out).mono ?_
  rintro e w1 ⟨rfl, hb1⟩
  rw [HF.out, HH.out]
  go_wp2_with fail
  refine (l1Copy A n c l w1 (hr.on hb1) (Nat.le_trans HN.out (by omega))).mono ?_
  rintro e w2 ⟨v, rfl, ho2, hb2⟩
  obtain ⟨A2, c2, rfl, -, -⟩ := ho2.form
  rw [HL.out] at ho2 ⊢
  obtain ⟨g, rfl, hg1, hg2⟩ := ho2.spot (by omega)
  obtain ⟨f1, f2, f3, f4⟩ := ownRow ho2 HR.out
  have ho3 := ho2.set1 encRow_len f 1 (key, old) (key, num) (.int .i64 num) HR.out (by omega) rfl
  rw [set_eq (by rw [HL.out]; exact hlt)] at ho3
  have HO := Lib.hid ho3
  clear ho3
  go_wp2
  go_ret
  exact ⟨_, rfl, by rw [HPUT.out]; exact HO.out.lower hb1.size, bel_set (bel_trans hb1 hb2) (Nat.le_trans hb1.size hg1) _⟩
set_option maxHeartbeats 2000000 in
set_option maxRecDepth 100000 in
theorem l1PutMiss (b off n c : Nat) (l : List Row) (key : ByteArray) (num : Int) (w : World) (hr : Sl encRow w w.heap.size (some ⟨b, off, none⟩) n l) (hn : n ≤ 1048576) (hnc : n ≤ c) (hh : hit l key = false) :
    Calls Tryd.prog 46 #[.slice (some ⟨b, off, none⟩) n c, .string key, .int .i64 num] w (OwnPost w (putL l key num)) := by
  obtain ⟨i0, hi, hz0, hz1, hz2⟩ := info_parts info46
  have HL := Lib.hid hr.len
  have hle := fnd_le l key
  obtain ⟨f, hfd⟩ : ∃ f, fnd l key = f := ⟨_, rfl⟩
  have HPUT := Lib.hid (putL_miss (num := num) hfd hh)
  rw [hfd] at hle
  rw [HL.out] at hle
  have HF := Lib.hid hfd
  have HH := Lib.hid hh
  have HN := Lib.hid hn
  clear hfd hh hn
  have j0 : (0 : Int) ≤ (f : Int) := by omega
  have j1 : (f : Int) ≤ (n : Int) := by omega
  have j2 : (f : Int) ≤ (c : Int) := by omega
  have j3 : (n : Int) ≤ (c : Int) := by omega
  go_enter Tryd.func46, Tryd.ntmps46
  go_wp2_with fail
  refine (l1Find _ n c l key w hr HN.out).mono ?_
  rintro e w1 ⟨rfl, hb1⟩
  rw [HF.out, HH.out]
  go_wp2_with fail
  refine (l1Copy _ n c l w1 (hr.on hb1) (Nat.le_trans HN.out (by omega))).mono ?_
  rintro e w2 ⟨v, rfl, -, hb2⟩
  have b2 := bel_trans hb1 hb2
  go_wp2_with fail
  have hf3 : f ≤ 2097152 := Nat.le_trans hle (Nat.le_trans HN.out (by omega))
  have HF3 := Lib.hid hf3
  have HS1 := Lib.hid (show (l.take f).length + 1 ≤ maxLen by rw [List.length_take, HL.out]; unfold maxLen; omega)
  have HS2 := Lib.hid (show ((l.take f).length + 1) * 24 ≤ 140737488355328 by rw [List.length_take, HL.out]; omega)
  have HS3 := Lib.hid (show (l.take f ++ [(key, num)]).length + (n - f) ≤ maxLen by rw [List.length_append, List.length_take, HL.out]; have := HN.out; unfold maxLen; simp; omega)
  have HS4 := Lib.hid (show ((l.take f ++ [(key, num)]).length + (n - f)) * 24 ≤ 140737488355328 by rw [List.length_append, List.length_take, HL.out]; have := HN.out; simp; omega)
  clear hf3
  go_region_law (first
    | (go_simp; go_at_call 55; refine (l1Copy _ f c (l.take f) _ ((hr.on (by exact b2.drew)).head encRow_len hle) HF3.out).mono ?_; rintro e w3 ⟨v3, rfl, o3, hb3⟩; have c3 := bel_trans b2.drew hb3)
    | (go_simp; go_at_call 55; refine (l1Copy _ f c (l.take f) _ ((hr.on (by exact (bel_alloc b2 (.cells #[.string key, .int .i64 num] 78)).drew)).head encRow_len hle) HF3.out).mono ?_; rintro e w3 ⟨v3, rfl, o3, hb3⟩; have c3 := bel_trans (bel_alloc b2 (.cells #[.string key, .int .i64 num] 78)).drew hb3)
    | (refine step_append_sl _ (by rfl) (.tmp 28) (.tmp 32) 53 (by rfl) w2.heap.size 78 i0 _ 2 24 Tryd.underlying53 hi hz0 hz1 hz2 rfl (by decide) encRow_len encRow_one v3 (l.take f) (by rfl) (Own.alloc o3 (.cells #[.string key, .int .i64 num] 78)) _ (some ⟨w3.heap.size, 0, none⟩) 1 1 [(key, num)] (by rfl) (Sl.lit1 (enc := encRow) w3 #[.string key, .int .i64 num] 78 (key, num) rfl) HS1.out HS2.out (by have := hb3.size; simp at this ⊢; omega) ?_; intro v5 w5 o5 g5; have b5 : Below w.heap.size w w5 := bel_grown (bel_alloc c3 _) g5 (fun k hk => Nat.le_trans b2.size (World.ownsRow.lt o3 k hk).1); have hr5 : Sl encRow w5 w.heap.size (if c = f then some ⟨b, off, none⟩ else some ⟨b, off + f * 2, none⟩) (n - f) (l.drop f) := (hr.keep (by exact b5)).rest encRow_len hle hnc)
    | (refine step_append_sl _ (by rfl) (.tmp 28) (.tmp 32) 53 (by rfl) (w2.heap.size + 1) 78 i0 _ 2 24 Tryd.underlying53 hi hz0 hz1 hz2 rfl (by decide) encRow_len encRow_one v3 (l.take f) (by rfl) (by simpa using o3) _ (some ⟨w2.heap.size, 0, none⟩) 1 1 [(key, num)] (by rfl) (Sl.on (w := (w2.alloc (.cells #[.string key, .int .i64 num] 78)).drew) (by exact Sl.lit1 (enc := encRow) w2 #[.string key, .int .i64 num] 78 (key, num) rfl) hb3) HS1.out HS2.out (by have := hb3.size; simp at this ⊢; omega) ?_; intro v5 w5 o5 g5; have b5 : Below w.heap.size w w5 := bel_grown c3 g5 (fun k hk => Nat.le_trans (bel_alloc b2 (.cells #[.string key, .int .i64 num] 78)).drew.size (World.ownsRow.lt o3 k hk).1); have hr5 : Sl encRow w5 w.heap.size (if c = f then some ⟨b, off, none⟩ else some ⟨b, off + f * 2, none⟩) (n - f) (l.drop f) := (hr.keep (by exact b5)).rest encRow_len hle hnc)
    | (refine step_append_sl _ (by rfl) (.tmp 33) (.tmp 36) 53 (by rfl) w2.heap.size 78 i0 _ 2 24 Tryd.underlying53 hi hz0 hz1 hz2 rfl (by decide) encRow_len encRow_one v5 _ (by rfl) o5 _ (if c = f then some ⟨b, off, none⟩ else some ⟨b, off + f * 2, none⟩) (n - f) (c - f) (l.drop f) (by rfl) hr5 HS3.out HS4.out (by have := g5.size; have := hb3.size; simp at *; omega) ?_; intro v6 w6 o6 g6)
    | (refine step_append_sl _ (by rfl) (.tmp 33) (.tmp 36) 53 (by rfl) (w2.heap.size + 1) 78 i0 _ 2 24 Tryd.underlying53 hi hz0 hz1 hz2 rfl (by decide) encRow_len encRow_one v5 _ (by rfl) o5 _ (if c = f then some ⟨b, off, none⟩ else some ⟨b, off + f * 2, none⟩) (n - f) (c - f) (l.drop f) (by rfl) hr5 HS3.out HS4.out (by have := g5.size; have := hb3.size; simp at *; omega) ?_; intro v6 w6 o6 g6))
  all_goals
    have hz := b2.size
    have o7 := o6.lower (base' := w.heap.size) (by omega)
    have b6 : Below w.heap.size w w6 := bel_grown b5 g6 (fun k hk => Nat.le_trans (by omega) (World.ownsRow.lt o5 k hk).1)
    go_wp2
    all_goals
      go_ret
      exact ⟨_, rfl, by rw [HPUT.out]; exact o7, b6⟩

set_option maxHeartbeats 2000000 in
set_option maxRecDepth 100000 in
theorem l1PutNil (key : ByteArray) (num : Int) (w : World) :
    Calls Tryd.prog 46 #[.slice none 0 0, .string key, .int .i64 num] w (OwnPost w (putL [] key num)) := by
  obtain ⟨i0, hi, hz0, hz1, hz2⟩ := info_parts info46
  have HPUT := Lib.hid (show putL [] key num = [(key, num)] from rfl)
  go_enter Tryd.func46, Tryd.ntmps46
  go_wp2_with fail
  refine (l1Find none 0 0 [] key w (Sl.nil _ _ _ _) (by omega)).mono ?_
  rintro e w1 ⟨rfl, hb1⟩
  rw [show fnd [] key = 0 from rfl, show hit [] key = false from rfl]
  go_wp2_with fail
  refine (l1Copy none 0 0 [] w1 (Sl.nil _ _ _ _) (by omega)).mono ?_
  rintro e w2 ⟨v, rfl, -, hb2⟩
  have b2 := bel_trans hb1 hb2
  go_wp2_with fail
  go_region_law (first
    | (go_simp; go_at_call 55; refine (l1Copy none 0 0 [] _ (Sl.nil _ _ _ _) (by omega)).mono ?_; rintro e w3 ⟨v3, rfl, o3, hb3⟩; have c3 := bel_trans b2.drew hb3)
    | (go_simp; go_at_call 55; refine (l1Copy none 0 0 [] _ (Sl.nil _ _ _ _) (by omega)).mono ?_; rintro e w3 ⟨v3, rfl, o3, hb3⟩; have c3 := bel_trans (bel_alloc b2 (.cells #[.string key, .int .i64 num] 78)).drew hb3)
    | (refine step_append_sl _ (by rfl) (.tmp 28) (.tmp 32) 53 (by rfl) w2.heap.size 78 i0 _ 2 24 Tryd.underlying53 hi hz0 hz1 hz2 rfl (by decide) encRow_len encRow_one v3 [] (by rfl) (Own.alloc o3 (.cells #[.string key, .int .i64 num] 78)) _ (some ⟨w3.heap.size, 0, none⟩) 1 1 [(key, num)] (by rfl) (Sl.lit1 (enc := encRow) w3 #[.string key, .int .i64 num] 78 (key, num) rfl) (by unfold maxLen; simp) (by simp) (by have := hb3.size; simp at this ⊢; omega) ?_; intro v5 w5 o5 g5; have b5 : Below w.heap.size w w5 := bel_grown (bel_alloc c3 _) g5 (fun k hk => Nat.le_trans b2.size (World.ownsRow.lt o3 k hk).1))
    | (refine step_append_sl _ (by rfl) (.tmp 28) (.tmp 32) 53 (by rfl) (w2.heap.size + 1) 78 i0 _ 2 24 Tryd.underlying53 hi hz0 hz1 hz2 rfl (by decide) encRow_len encRow_one v3 [] (by rfl) (by simpa using o3) _ (some ⟨w2.heap.size, 0, none⟩) 1 1 [(key, num)] (by rfl) (Sl.on (w := (w2.alloc (.cells #[.string key, .int .i64 num] 78)).drew) (by exact Sl.lit1 (enc := encRow) w2 #[.string key, .int .i64 num] 78 (key, num) rfl) hb3) (by unfold maxLen; simp) (by simp) (by have := hb3.size; simp at this ⊢; omega) ?_; intro v5 w5 o5 g5; have b5 : Below w.heap.size w w5 := bel_grown c3 g5 (fun k hk => Nat.le_trans (bel_alloc b2 (.cells #[.string key, .int .i64 num] 78)).drew.size (World.ownsRow.lt o3 k hk).1))
    | (refine step_append_sl _ (by rfl) (.tmp 33) (.tmp 36) 53 (by rfl) w2.heap.size 78 i0 _ 2 24 Tryd.underlying53 hi hz0 hz1 hz2 rfl (by decide) encRow_len encRow_one v5 _ (by rfl) o5 0 none 0 0 [] (by rfl) (Sl.nil _ _ _ _) (by unfold maxLen; simp) (by simp) (by have := g5.size; have := hb3.size; simp at *; omega) ?_; intro v6 w6 o6 g6)
    | (refine step_append_sl _ (by rfl) (.tmp 33) (.tmp 36) 53 (by rfl) (w2.heap.size + 1) 78 i0 _ 2 24 Tryd.underlying53 hi hz0 hz1 hz2 rfl (by decide) encRow_len encRow_one v5 _ (by rfl) o5 0 none 0 0 [] (by rfl) (Sl.nil _ _ _ _) (by unfold maxLen; simp) (by simp) (by have := g5.size; have := hb3.size; simp at *; omega) ?_; intro v6 w6 o6 g6))
  all_goals
    have hz := b2.size
    have o7 := o6.lower (base' := w.heap.size) (by omega)
    have b6 : Below w.heap.size w w6 := bel_grown b5 g6 (fun k hk => Nat.le_trans (by omega) (World.ownsRow.lt o5 k hk).1)
    go_wp2
    all_goals
      go_ret
      exact ⟨v6, rfl, by rw [HPUT.out]; simpa using o7, b6⟩

theorem l1Put (A : Option Addr) (n c : Nat) (l : List Row) (key : ByteArray) (num : Int) (w : World) (hr : Sl encRow w w.heap.size A n l) (hn : n ≤ 1048576) (hA : Fine A n c) :
    Calls Tryd.prog 46 #[.slice A n c, .string key, .int .i64 num] w (OwnPost w (putL l key num)) := by
  cases hh : hit l key
  · rcases hA.2 with ⟨b, off, rfl⟩ | ⟨rfl, rfl, rfl⟩
    · exact l1PutMiss b off n c l key num w hr hn hA.1 hh
    · rw [hr.nil_of]
      exact l1PutNil key num w
  · exact l1PutHit A n c l key num w hr hn hh

end Go.Proofs.YtpmeaikiaoojkaaDoor
