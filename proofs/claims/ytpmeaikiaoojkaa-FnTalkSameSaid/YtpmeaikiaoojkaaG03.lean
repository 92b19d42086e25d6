/- FnTalkSame: contracts of what it reaches (PB11 PD3 PD4 PV1 PVP PV3 PV1N PV2 PV4 PV5 PV6 PV7 PV8 PT1 PT2 PT4 PX1). No condition. -/
import Derived.Test.YtpmeaikiaoojkaaG02
import Derived.Deep.RegionLaw
import Derived.Deep.RegionWith
import Derived.RangeFuncBox
import Derived.RangeFuncNested
import Derived.RangeFuncBound
import Derived.RangeFuncCalls
import Derived.RangeFuncLeaves
import Derived.Shelf.Abstract
import Derived.Shelf.RegionOpen
import Derived.OwnWalkIn
import Derived.TacticsInMore
import Derived.LoopNIn
import Derived.LoopIn
import Derived.Lib.SliceRun
import Derived.Lib.OthersKept
namespace Go.Proofs.Ytpmeaikiaoojkaa
open Go.RowKit

theorem set_eq {l : List Row} {f : Nat} {x : Row} (h : f < l.length) : l.set f x = l.take f ++ [x] ++ l.drop (f + 1) := by
  rw [List.set_eq_take_append_cons_drop, if_pos h]; simp
set_option maxHeartbeats 2000000 in
set_option maxRecDepth 100000 in
theorem l1PutHit (A : Option Addr) (n c : Nat) (l : List Row) (key : ByteArray) (num : Int) (w : World) (hr : Sl encRow w w.heap.size A n l) (hn : n ≤ 1048576) (hh : hit l key = true) :
    Calls Try.prog 135 #[.slice A n c, .string key, .int .i64 num] w (OwnPost w (putL l key num)) := by
  have HL := Lib.hid hr.len; have hlt := hit_lt hh; obtain ⟨old, hrow⟩ := hit_key hh; obtain ⟨f, hfd⟩ : ∃ f, fnd l key = f := ⟨_, rfl⟩; have HPUT := Lib.hid (putL_hit (num := num) hfd hh); rw [hfd] at hlt hrow; have HR := Lib.hid hrow; rw [HL.out] at hlt; have HF := Lib.hid hfd; have HH := Lib.hid hh; have HN := Lib.hid hn; clear hfd hh hrow hn; have i0 : (0 : Int) ≤ (f : Int) := by omega
  have i1 : (f : Int) < (n : Int) := by omega
  go_enter Try.func135, Try.ntmps135; go_wp2_with fail; refine (l1Find A n c l key w hr HN.out).mono ?_; rintro e w1 ⟨rfl, hb1⟩; rw [HF.out, HH.out]; go_wp2_with fail; refine (l1Copy A n c l w1 (hr.on hb1) (Nat.le_trans HN.out (by omega))).mono ?_; rintro e w2 ⟨v, rfl, ho2, hb2⟩; obtain ⟨A2, c2, rfl, -, -⟩ := ho2.form; rw [HL.out] at ho2 ⊢; obtain ⟨g, rfl, hg1, hg2⟩ := ho2.spot (by omega); obtain ⟨f1, f2, f3, f4⟩ := ownRow ho2 HR.out; have ho3 := ho2.set1 encRow_len f 1 (key, old) (key, num) (.int .i64 num) HR.out (by omega) rfl; rw [set_eq (by rw [HL.out]; exact hlt)] at ho3; have HO := Lib.hid ho3; clear ho3; go_wp2
  go_ret
  exact ⟨_, rfl, by rw [HPUT.out]; exact HO.out.lower hb1.size, bel_set (bel_trans hb1 hb2) (Nat.le_trans hb1.size hg1) _⟩
set_option maxHeartbeats 2000000 in
set_option maxRecDepth 100000 in
theorem l1PutMiss (b off n c : Nat) (l : List Row) (key : ByteArray) (num : Int) (w : World) (hr : Sl encRow w w.heap.size (some ⟨b, off, none⟩) n l) (hn : n ≤ 1048576) (hnc : n ≤ c) (hh : hit l key = false) :
    Calls Try.prog 135 #[.slice (some ⟨b, off, none⟩) n c, .string key, .int .i64 num] w (OwnPost w (putL l key num)) := by
  obtain ⟨i0, hi, hz0, hz1, hz2⟩ := info_parts info46; have HL := Lib.hid hr.len; have hle := fnd_le l key; obtain ⟨f, hfd⟩ : ∃ f, fnd l key = f := ⟨_, rfl⟩; have HPUT := Lib.hid (putL_miss (num := num) hfd hh); rw [hfd] at hle; rw [HL.out] at hle; have HF := Lib.hid hfd; have HH := Lib.hid hh; have HN := Lib.hid hn; clear hfd hh hn; have j0 : (0 : Int) ≤ (f : Int) := by omega
  have j1 : (f : Int) ≤ (n : Int) := by omega
  have j2 : (f : Int) ≤ (c : Int) := by omega
  have j3 : (n : Int) ≤ (c : Int) := by omega
  go_enter Try.func135, Try.ntmps135; go_wp2_with fail; refine (l1Find _ n c l key w hr HN.out).mono ?_; rintro e w1 ⟨rfl, hb1⟩; rw [HF.out, HH.out]; go_wp2_with fail; refine (l1Copy _ n c l w1 (hr.on hb1) (Nat.le_trans HN.out (by omega))).mono ?_; rintro e w2 ⟨v, rfl, -, hb2⟩; have b2 := bel_trans hb1 hb2; go_wp2_with fail; have hf3 : f ≤ 2097152 := Nat.le_trans hle (Nat.le_trans HN.out (by omega)); have HF3 := Lib.hid hf3; have HS1 := Lib.hid (show (l.take f).length + 1 ≤ maxLen by rw [List.length_take, HL.out]; unfold maxLen; omega); have HS2 := Lib.hid (show ((l.take f).length + 1) * 24 ≤ 140737488355328 by rw [List.length_take, HL.out]; omega); have HS3 := Lib.hid (show (l.take f ++ [(key, num)]).length + (n - f) ≤ maxLen by rw [List.length_append, List.length_take, HL.out]; have := HN.out; unfold maxLen; simp; omega); have HS4 := Lib.hid (show ((l.take f ++ [(key, num)]).length + (n - f)) * 24 ≤ 140737488355328 by rw [List.length_append, List.length_take, HL.out]; have := HN.out; simp; omega); clear hf3
  go_region_law (first
    | (go_simp; go_at_call 143; refine (l1Copy _ f c (l.take f) _ ((hr.on (by exact b2.drew)).head encRow_len hle) HF3.out).mono ?_; rintro e w3 ⟨v3, rfl, o3, hb3⟩; have c3 := bel_trans b2.drew hb3)
    | (go_simp; go_at_call 143; refine (l1Copy _ f c (l.take f) _ ((hr.on (by exact (bel_alloc b2 (.cells #[.string key, .int .i64 num] 133)).drew)).head encRow_len hle) HF3.out).mono ?_; rintro e w3 ⟨v3, rfl, o3, hb3⟩; have c3 := bel_trans (bel_alloc b2 (.cells #[.string key, .int .i64 num] 133)).drew hb3)
    | (refine step_append_sl _ (by rfl) (.tmp 28) (.tmp 32) 94 (by rfl) w2.heap.size 133 i0 _ 2 24 Try.underlying94 hi hz0 hz1 hz2 rfl (by decide) encRow_len encRow_one v3 (l.take f) (by rfl) (Own.alloc o3 (.cells #[.string key, .int .i64 num] 133)) _ (some ⟨w3.heap.size, 0, none⟩) 1 1 [(key, num)] (by rfl) (Sl.lit1 (enc := encRow) w3 #[.string key, .int .i64 num] 133 (key, num) rfl) HS1.out HS2.out (by have := hb3.size; simp at this ⊢; omega) ?_; intro v5 w5 o5 g5; have b5 : Below w.heap.size w w5 := bel_grown (bel_alloc c3 _) g5 (fun k hk => Nat.le_trans b2.size (World.ownsRow.lt o3 k hk).1); have hr5 : Sl encRow w5 w.heap.size (if c = f then some ⟨b, off, none⟩ else some ⟨b, off + f * 2, none⟩) (n - f) (l.drop f) := (hr.keep (by exact b5)).rest encRow_len hle hnc)
    | (refine step_append_sl _ (by rfl) (.tmp 28) (.tmp 32) 94 (by rfl) (w2.heap.size + 1) 133 i0 _ 2 24 Try.underlying94 hi hz0 hz1 hz2 rfl (by decide) encRow_len encRow_one v3 (l.take f) (by rfl) (by simpa using o3) _ (some ⟨w2.heap.size, 0, none⟩) 1 1 [(key, num)] (by rfl) (Sl.on (w := (w2.alloc (.cells #[.string key, .int .i64 num] 133)).drew) (by exact Sl.lit1 (enc := encRow) w2 #[.string key, .int .i64 num] 133 (key, num) rfl) hb3) HS1.out HS2.out (by have := hb3.size; simp at this ⊢; omega) ?_; intro v5 w5 o5 g5; have b5 : Below w.heap.size w w5 := bel_grown c3 g5 (fun k hk => Nat.le_trans (bel_alloc b2 (.cells #[.string key, .int .i64 num] 133)).drew.size (World.ownsRow.lt o3 k hk).1); have hr5 : Sl encRow w5 w.heap.size (if c = f then some ⟨b, off, none⟩ else some ⟨b, off + f * 2, none⟩) (n - f) (l.drop f) := (hr.keep (by exact b5)).rest encRow_len hle hnc)
    | (refine step_append_sl _ (by rfl) (.tmp 33) (.tmp 36) 94 (by rfl) w2.heap.size 133 i0 _ 2 24 Try.underlying94 hi hz0 hz1 hz2 rfl (by decide) encRow_len encRow_one v5 _ (by rfl) o5 _ (if c = f then some ⟨b, off, none⟩ else some ⟨b, off + f * 2, none⟩) (n - f) (c - f) (l.drop f) (by rfl) hr5 HS3.out HS4.out (by have := g5.size; have := hb3.size; simp at *; omega) ?_; intro v6 w6 o6 g6)
    | (refine step_append_sl _ (by rfl) (.tmp 33) (.tmp 36) 94 (by rfl) (w2.heap.size + 1) 133 i0 _ 2 24 Try.underlying94 hi hz0 hz1 hz2 rfl (by decide) encRow_len encRow_one v5 _ (by rfl) o5 _ (if c = f then some ⟨b, off, none⟩ else some ⟨b, off + f * 2, none⟩) (n - f) (c - f) (l.drop f) (by rfl) hr5 HS3.out HS4.out (by have := g5.size; have := hb3.size; simp at *; omega) ?_; intro v6 w6 o6 g6))
  all_goals
    have hz := b2.size; have o7 := o6.lower (base' := w.heap.size) (by omega); have b6 : Below w.heap.size w w6 := bel_grown b5 g6 (fun k hk => Nat.le_trans (by omega) (World.ownsRow.lt o5 k hk).1); go_wp2
    all_goals
      go_ret
      exact ⟨_, rfl, by rw [HPUT.out]; exact o7, b6⟩

set_option maxHeartbeats 2000000 in
set_option maxRecDepth 100000 in
theorem l1PutNil (key : ByteArray) (num : Int) (w : World) :
    Calls Try.prog 135 #[.slice none 0 0, .string key, .int .i64 num] w (OwnPost w (putL [] key num)) := by
  obtain ⟨i0, hi, hz0, hz1, hz2⟩ := info_parts info46; have HPUT := Lib.hid (show putL [] key num = [(key, num)] from rfl); go_enter Try.func135, Try.ntmps135; go_wp2_with fail; refine (l1Find none 0 0 [] key w (Sl.nil _ _ _ _) (by omega)).mono ?_; rintro e w1 ⟨rfl, hb1⟩; rw [show fnd [] key = 0 from rfl, show hit [] key = false from rfl]; go_wp2_with fail; refine (l1Copy none 0 0 [] w1 (Sl.nil _ _ _ _) (by omega)).mono ?_; rintro e w2 ⟨v, rfl, -, hb2⟩; have b2 := bel_trans hb1 hb2; go_wp2_with fail
  go_region_law (first
    | (go_simp; go_at_call 143; refine (l1Copy none 0 0 [] _ (Sl.nil _ _ _ _) (by omega)).mono ?_; rintro e w3 ⟨v3, rfl, o3, hb3⟩; have c3 := bel_trans b2.drew hb3)
    | (go_simp; go_at_call 143; refine (l1Copy none 0 0 [] _ (Sl.nil _ _ _ _) (by omega)).mono ?_; rintro e w3 ⟨v3, rfl, o3, hb3⟩; have c3 := bel_trans (bel_alloc b2 (.cells #[.string key, .int .i64 num] 133)).drew hb3)
    | (refine step_append_sl _ (by rfl) (.tmp 28) (.tmp 32) 94 (by rfl) w2.heap.size 133 i0 _ 2 24 Try.underlying94 hi hz0 hz1 hz2 rfl (by decide) encRow_len encRow_one v3 [] (by rfl) (Own.alloc o3 (.cells #[.string key, .int .i64 num] 133)) _ (some ⟨w3.heap.size, 0, none⟩) 1 1 [(key, num)] (by rfl) (Sl.lit1 (enc := encRow) w3 #[.string key, .int .i64 num] 133 (key, num) rfl) (by unfold maxLen; simp) (by simp) (by have := hb3.size; simp at this ⊢; omega) ?_; intro v5 w5 o5 g5; have b5 : Below w.heap.size w w5 := bel_grown (bel_alloc c3 _) g5 (fun k hk => Nat.le_trans b2.size (World.ownsRow.lt o3 k hk).1))
    | (refine step_append_sl _ (by rfl) (.tmp 28) (.tmp 32) 94 (by rfl) (w2.heap.size + 1) 133 i0 _ 2 24 Try.underlying94 hi hz0 hz1 hz2 rfl (by decide) encRow_len encRow_one v3 [] (by rfl) (by simpa using o3) _ (some ⟨w2.heap.size, 0, none⟩) 1 1 [(key, num)] (by rfl) (Sl.on (w := (w2.alloc (.cells #[.string key, .int .i64 num] 133)).drew) (by exact Sl.lit1 (enc := encRow) w2 #[.string key, .int .i64 num] 133 (key, num) rfl) hb3) (by unfold maxLen; simp) (by simp) (by have := hb3.size; simp at this ⊢; omega) ?_; intro v5 w5 o5 g5; have b5 : Below w.heap.size w w5 := bel_grown c3 g5 (fun k hk => Nat.le_trans (bel_alloc b2 (.cells #[.string key, .int .i64 num] 133)).drew.size (World.ownsRow.lt o3 k hk).1))
    | (refine step_append_sl _ (by rfl) (.tmp 33) (.tmp 36) 94 (by rfl) w2.heap.size 133 i0 _ 2 24 Try.underlying94 hi hz0 hz1 hz2 rfl (by decide) encRow_len encRow_one v5 _ (by rfl) o5 0 none 0 0 [] (by rfl) (Sl.nil _ _ _ _) (by unfold maxLen; simp) (by simp) (by have := g5.size; have := hb3.size; simp at *; omega) ?_; intro v6 w6 o6 g6)
    | (refine step_append_sl _ (by rfl) (.tmp 33) (.tmp 36) 94 (by rfl) (w2.heap.size + 1) 133 i0 _ 2 24 Try.underlying94 hi hz0 hz1 hz2 rfl (by decide) encRow_len encRow_one v5 _ (by rfl) o5 0 none 0 0 [] (by rfl) (Sl.nil _ _ _ _) (by unfold maxLen; simp) (by simp) (by have := g5.size; have := hb3.size; simp at *; omega) ?_; intro v6 w6 o6 g6))
  all_goals
    have hz := b2.size; have o7 := o6.lower (base' := w.heap.size) (by omega); have b6 : Below w.heap.size w w6 := bel_grown b5 g6 (fun k hk => Nat.le_trans (by omega) (World.ownsRow.lt o5 k hk).1); go_wp2
    all_goals
      go_ret
      exact ⟨v6, rfl, by rw [HPUT.out]; simpa using o7, b6⟩

theorem l1Put (A : Option Addr) (n c : Nat) (l : List Row) (key : ByteArray) (num : Int) (w : World) (hr : Sl encRow w w.heap.size A n l) (hn : n ≤ 1048576) (hA : Fine A n c) :
    Calls Try.prog 135 #[.slice A n c, .string key, .int .i64 num] w (OwnPost w (putL l key num)) := by
  cases hh : hit l key
  · rcases hA.2 with ⟨b, off, rfl⟩ | ⟨rfl, rfl, rfl⟩
    · exact l1PutMiss b off n c l key num w hr hn hA.1 hh
    · rw [hr.nil_of]; exact l1PutNil key num w
  · exact l1PutHit A n c l key num w hr hn hh

end Go.Proofs.Ytpmeaikiaoojkaa
namespace Go.Proofs.Ytpmeaikiaoojkaa
open Go.RowKit

theorem Own.farRd {α : Type} {enc : α → List Value} {sz : Nat} {e : TypeId} {w w' : World} {base g : Nat} {v : Value} {l : List α} (h : Own enc sz e w base v l) (ht : Turn (some ⟨g, 0, none⟩) w w') (hg : g < base) : Own enc sz e w' base v l := by
  obtain ⟨A, c, rfl, -, -⟩ := h.form; exact h.far ht (fun x y hx hy => by cases hx; have := (h.block hy).1; simp only; omega)
theorem RowsP.small {l : List Row} (h : RowsP l) : ∀ r ∈ l, r.1.size ≤ 2 := by
  intro r hr; obtain ⟨i, hi⟩ := List.mem_iff_getElem?.1 hr; exact keyOk_size (h.2.1 i r hi).1
theorem wf_of_small {l : List Row} {k : Nat} (h : ∀ r ∈ l, r.1.size ≤ k) (hk : k ≤ 1000) : KeysWf l := fun r hr => Nat.le_trans (h r hr) (by unfold maxLen; omega)
end Go.Proofs.Ytpmeaikiaoojkaa
namespace Go.Proofs.Ytpmeaikiaoojkaa
open Go.RowKit

theorem Turn.grown {A : Option Addr} {w w1 w2 : World} {row : Option Nat} (h : Turn A w w1) (hg : w1.grownBy w2 row) (hr : ∀ k, row = some k → w.heap.size ≤ k) : Turn A w w2 :=
  ⟨hg.os.trans h.os, hg.tape.trans h.tape, hg.output.trans h.output, Nat.le_trans h.size hg.size, fun i hi hne => (hg.block i (Nat.lt_of_lt_of_le hi h.size) (fun e => by have := hr i e.symm; omega)).trans (h.block i hi hne)⟩
theorem Rd.grown {w1 w2 : World} {g p : Nat} {A : Option Addr} {m c : Nat} {l : List UInt8} {row : Option Nat} (h : Rd w1 g p A m c l) (hg : w1.grownBy w2 row) (hr : ∀ k, row = some k → g < k) : Rd w2 g p A m c l :=
  h.keep ((Below.refl (g + 1) w1).grown hg h.lt (fun k hk => hr k hk)) (Nat.lt_succ_self g)
def NearPost (w : World) (g p : Nat) (A : Option Addr) (m c : Nat) (l : List UInt8) (e : Ending) (w' : World) : Prop :=
  ∃ (s : ByteArray) (p' : Nat), e = .returned (.string s) ∧ s.size ≤ 3 ∧ p' ≤ p + 3 ∧ Rd w' g p' A m c l ∧ Turn (some ⟨g, 0, none⟩) w w'

set_option maxHeartbeats 1000000 in
set_option maxRecDepth 100000 in
theorem l1Near (g p : Nat) (A : Option Addr) (m c : Nat) (l : List UInt8) (B : Option Addr) (n cb : Nat) (lr : List Row) (w : World) (hrd : Rd w g p A m c l) (hp : p ≤ 20000)
    (hs : Sl encRow w w.heap.size B n lr) (hn : n ≤ 1000) (hne : ∀ x, B = some x → g ≠ x.block) (hsm : ∀ r ∈ lr, r.1.size ≤ 3) :
    Calls Try.prog 90 #[.pointer (some ⟨g, 0, none⟩), .slice B n cb] w (NearPost w g p A m c l) := by
  have HP := Lib.hid hp; have HSM := Lib.hid hsm; have hg := hrd.lt; clear hp hsm
  by_cases h0 : n = 0
  · subst h0; go_enter Try.func90, Try.ntmps90; go_wp2_with fail; refine (l1Key g p A m c l w hrd (by have := HP.out; omega)).mono ?_; rintro e w1 ⟨s, rfl, hs, hr1, ht1⟩; go_wp2
    go_ret
    exact ⟨s, p + 2, rfl, hs, by omega, hr1, ht1⟩
  · obtain ⟨b, off, rfl, hb⟩ := hs.spot (by omega); have hgb : g ≠ b := hne _ rfl; have hn0 : 0 < n := by omega
    have hn1 : (0 : Int) < (n : Int) := by omega
    clear h0 hne; go_enter Try.func90, Try.ntmps90; go_wp2_with fail; refine (pick g p 2 A m c l w hrd (by omega) (by omega) (by have := HP.out; omega)).mono ?_; rintro e w1 ⟨v, rfl, hv, hr1, ht1⟩; have hs1 := hs.far ht1 (fun x hx => by cases hx; exact hgb) ht1.size
    by_cases hv0 : v = 0
    · subst hv0; go_wp2_with fail; refine (pick g (p + 1) n A m c l w1 hr1 (by omega) (by omega) (by have := HP.out; omega)).mono ?_; rintro e w2 ⟨v, rfl, hv2, hr2, ht2⟩; have hs2 := hs1.far ht2 (fun x hx => by cases hx; exact hgb) ht2.size; obtain ⟨key, num, hrow, hk1, hk2⟩ := rowAt hs2 hv2; have hsz := HSM.out _ (List.mem_of_getElem? hrow); clear hrow; have v0 : (0 : Int) ≤ (v : Int) := by omega
      have v1 : (v : Int) < (n : Int) := by omega
      go_wp2
      go_ret
      exact ⟨key, p + 1 + 1, rfl, hsz, by omega, hr2, ht1.trans ht2⟩
    · have hv1 : ((v : Int) == 0) = false := by simp; omega
      go_wp2_with fail; refine (l1Key g (p + 1) A m c l w1 hr1 (by have := HP.out; omega)).mono ?_; rintro e w2 ⟨s, rfl, hs, hr2, ht2⟩; go_wp2
      go_ret
      exact ⟨s, p + 1 + 2, rfl, hs, by omega, hr2, ht1.trans ht2⟩

theorem Own.zero {α : Type} {enc : α → List Value} {sz : Nat} {e : TypeId} {w : World} {base n c k : Nat} {A : Option Addr} {l : List α} (h : Own enc sz e w base (.slice A n c) l) (hk : k < n) : ∃ d, A = some ⟨d, 0, none⟩ := by
  obtain ⟨b, off, rfl, -⟩ := h.sl.spot (by omega); have := (h.block rfl).2.2.1; simp only at this
  subst this; exact ⟨b, rfl⟩
theorem Turn.setOwn {A : Option Addr} {w w1 : World} {d o : Nat} (h : Turn A w w1) (hd : w.heap.size ≤ d) (u : Value) : Turn A w (w1.setCell ⟨d, o, none⟩ u) :=
  ⟨h.os, h.tape, h.output, by simpa using h.size, fun i hi hne => (Below.heap_setCell _ _ _ _ (by rintro rfl; omega)).trans (h.block i hi hne)⟩
def Small (l : List Row) : Prop := l.length ≤ 11 ∧ ∀ r ∈ l, r.1.size ≤ 3
theorem Small.wf {l : List Row} (h : Small l) : KeysWf l := wf_of_small h.2 (by omega)
theorem Small.set {l : List Row} (h : Small l) (k : Nat) (x : Row) (hx : x.1.size ≤ 3) : Small (l.set k x) := by
  refine ⟨by rw [List.length_set]; exact h.1, fun r hr => ?_⟩
  rcases List.mem_or_eq_of_mem_set hr with h1 | rfl
  · exact h.2 r h1
  · exact hx
end Go.Proofs.Ytpmeaikiaoojkaa
namespace Go.Proofs.Ytpmeaikiaoojkaa
open Go.RowKit

abbrev Ver := ByteArray × Int × Int × Int
def encVer (x : Ver) : List Value := [.string x.1, .int .i64 x.2.1, .int .i64 x.2.2.1, .int .i64 x.2.2.2]
theorem encVer_len (x : Ver) : (encVer x).length = 4 := rfl
def VerWf (x : Ver) : Prop := x.1.size ≤ maxLen
def VerSWf (l : List Ver) : Prop := ∀ x : Ver, x ∈ l → VerWf x
theorem VerSWf.at_ {l : List Ver} (h : VerSWf l) {k : Nat} {x : Ver} (hk : l[k]? = some x) : VerWf x := h x (List.mem_of_getElem? hk)
theorem atVer {w : World} {B n b off k : Nat} {l : List Ver} (h : Sl encVer w B (some ⟨b, off, none⟩) n l) (hk : k < n) :
    ∃ f0 f1 f2 f3, l[k]? = some (f0, f1, f2, f3) ∧ w.cell? ⟨b, off + k * 4, none⟩ = some (.string f0) ∧ w.cell? ⟨b, off + k * 4 + 1, none⟩ = some (.int .i64 f1) ∧ w.cell? ⟨b, off + k * 4 + 2, none⟩ = some (.int .i64 f2) ∧ w.cell? ⟨b, off + k * 4 + 3, none⟩ = some (.int .i64 f3) := by
  obtain ⟨⟨f0, f1, f2, f3⟩, h1, h2⟩ := h.at_ encVer_len hk; exact ⟨f0, f1, f2, f3, h1, h2 0 _ rfl, h2 1 _ rfl, h2 2 _ rfl, h2 3 _ rfl⟩
theorem info77 : (Try.prog.info? 131).map (fun i => (i.zero, i.size, i.bytes)) = some (some (.agg #[.string ByteArray.empty, .int .i64 0, .int .i64 0, .int .i64 0]), 4, 40) := by kernel_rfl
/-! ### sizes -/
/-! ### equality -/
theorem ba_eqVer {a b : ByteArray} (h : a.toList = b.toList) : a = b := by
  rw [ByteArray.toList_eq, ByteArray.toList_eq] at h; exact ByteArray.ext (Array.toList_inj.1 h)
def eqVerB (a b : Ver) : Bool := ((a.1.toList == b.1.toList) && ((a.2.1 == b.2.1) && ((a.2.2.1 == b.2.2.1) && (a.2.2.2 == b.2.2.2))))
theorem eqVerB_iff {a b : Ver} : eqVerB a b = true ↔ a = b := by
  obtain ⟨f0, f1, f2, f3⟩ := a; obtain ⟨g0, g1, g2, g3⟩ := b; simp only [eqVerB, Bool.and_eq_true, beq_iff_eq, Prod.mk.injEq]
  constructor
  · rintro ⟨h0, h1, h2, h3⟩; exact ⟨ba_eqVer h0, h1, h2, h3⟩
  · rintro ⟨rfl, rfl, rfl, rfl⟩; exact ⟨rfl, rfl, rfl, rfl⟩
def verSEq (l m : List Ver) : Bool := decide (l = m)
def EqToVer (l m : List Ver) (k : Nat) : Prop := ∀ i : Nat, i < k → l[i]? = m[i]?
theorem EqToVer.zero (l m : List Ver) : EqToVer l m 0 := fun _ h => absurd h (by omega)
theorem EqToVer.step {l m : List Ver} {k : Nat} {x y : Ver} (h : EqToVer l m k) (hx : l[k]? = some x) (hy : m[k]? = some y) (he : eqVerB x y = true) : EqToVer l m (k + 1) := by
  intro i hi
  by_cases hik : i < k
  · exact h i hik
  · obtain rfl : i = k := by omega
    rw [hx, hy, eqVerB_iff.1 he]
theorem EqToVer.all {l m : List Ver} {k : Nat} (h : EqToVer l m k) (hl : l.length ≤ k) (hm : m.length ≤ k) : verSEq l m = true := by
  simp only [verSEq, decide_eq_true_eq]
  apply List.ext_getElem?
  intro i
  by_cases hi : i < k
  · exact h i hi
  · rw [List.getElem?_eq_none (by omega), List.getElem?_eq_none (by omega)]
end Go.Proofs.Ytpmeaikiaoojkaa
namespace Go.Proofs.Ytpmeaikiaoojkaa

/-- one version alone is right, at the time now -/
def verOk (now : Int) (x : Ver) : Bool := keyOk x.1 && numOk x.2.1 && (decide (1 ≤ x.2.2.1) && decide (x.2.2.1 ≤ now)) && (decide (x.2.2.2 = 0) || decide (x.2.2.1 < x.2.2.2) && decide (x.2.2.2 ≤ now))
/-- a may stand ahead of b -/
def ahead (a b : Ver) : Bool := if keq a.1 b.1 = true then decide (0 < a.2.2.2) && decide (a.2.2.2 ≤ b.2.2.1) else klt a.1 b.1
def vis (t : Int) (x : Ver) : Bool := decide (x.2.2.1 ≤ t) && (decide (x.2.2.2 = 0) || decide (t < x.2.2.2))
def AheadP (l : List Ver) : Prop := ∀ (i : Nat) (a b : Ver), l[i]? = some a → l[i + 1]? = some b → ahead a b = true
def EachV (now : Int) (l : List Ver) : Prop := ∀ (i : Nat) (x : Ver), l[i]? = some x → verOk now x = true
/-- how many are visible at t -/
def seen (l : List Ver) (t : Int) : Nat := (l.filter (vis t)).length
def FewP (now : Int) (l : List Ver) : Prop := ∀ t : Nat, (t : Int) ≤ now → seen l t ≤ 10
def VersP (now : Int) (l : List Ver) : Prop := (0 ≤ now ∧ now ≤ 40 ∧ l.length ≤ 60) ∧ EachV now l ∧ AheadP l ∧ FewP now l
open Classical in
noncomputable def versOk (now : Int) (l : List Ver) : Bool := decide (VersP now l)
theorem versOk_true {now : Int} {l : List Ver} (h : VersP now l) : versOk now l = true := by simp [versOk, h]
theorem versOk_false {now : Int} {l : List Ver} (h : ¬ VersP now l) : versOk now l = false := by simp [versOk, h]
theorem versOk_iff {now : Int} {l : List Ver} : versOk now l = true ↔ VersP now l := by simp [versOk]
/-- the rows of a time -/
def atL (l : List Ver) (t : Int) : List Row := (l.filter (vis t)).map fun x => (x.1, x.2.1)
def EachVTo (now : Int) (l : List Ver) (k : Nat) : Prop := ∀ (i : Nat) (x : Ver), i < k → l[i]? = some x → verOk now x = true
theorem EachVTo.zero (now : Int) (l : List Ver) : EachVTo now l 0 := fun _ _ h => absurd h (by omega)
theorem EachVTo.step {now : Int} {l : List Ver} {k : Nat} {x : Ver} (h : EachVTo now l k) (hx : l[k]? = some x) (ho : verOk now x = true) : EachVTo now l (k + 1) := by
  intro i y hi hy
  by_cases hik : i < k
  · exact h i y hik hy
  · obtain rfl : i = k := by omega
    rw [hx] at hy; cases hy; exact ho
theorem EachVTo.all {now : Int} {l : List Ver} {k : Nat} (h : EachVTo now l k) (hl : l.length ≤ k) : EachV now l := fun i x hx => h i x (by have := (List.getElem?_eq_some_iff.1 hx).1; omega) hx
theorem not_eachV {now : Int} {l : List Ver} {k : Nat} {x : Ver} (hx : l[k]? = some x) (ho : verOk now x = false) : ¬ EachV now l := fun h => by
  have := h k x hx; rw [ho] at this; cases this
/-- each of the first k is ahead of the next one -/
def AheadTo (l : List Ver) (j : Nat) : Prop := ∀ (i : Nat) (a b : Ver), i < j → l[i]? = some a → l[i + 1]? = some b → ahead a b = true
theorem AheadTo.zero (l : List Ver) : AheadTo l 0 := fun _ _ _ h => absurd h (by omega)
theorem AheadTo.step {l : List Ver} {k : Nat} {a b : Ver} (h : AheadTo l (k - 1)) (hk : 0 < k) (ha : l[k - 1]? = some a) (hb : l[k]? = some b) (ho : ahead a b = true) : AheadTo l k := by
  intro i x y hi hx hy
  by_cases hik : i < k - 1
  · exact h i x y hik hx hy
  · obtain rfl : i = k - 1 := by omega
    rw [ha] at hx; rw [show k - 1 + 1 = k by omega, hb] at hy; cases hx; cases hy; exact ho
theorem AheadTo.all {l : List Ver} {j : Nat} (h : AheadTo l j) (hj : l.length ≤ j + 1) : AheadP l := by
  intro i a b ha hb; exact h i a b (by have := (List.getElem?_eq_some_iff.1 hb).1; omega) ha hb
theorem not_ahead {l : List Ver} {k : Nat} {a b : Ver} (hk : 0 < k) (ha : l[k - 1]? = some a) (hb : l[k]? = some b) (ho : ahead a b = false) : ¬ AheadP l := fun h => by
  have := h (k - 1) a b ha (by rw [show k - 1 + 1 = k by omega]; exact hb); rw [ho] at this; cases this
def FewTo (l : List Ver) (k : Nat) : Prop := ∀ t : Nat, t < k → seen l t ≤ 10
theorem FewTo.zero (l : List Ver) : FewTo l 0 := fun _ h => absurd h (by omega)
theorem FewTo.step {l : List Ver} {k : Nat} (h : FewTo l k) (hk : seen l k ≤ 10) : FewTo l (k + 1) := by
  intro t ht
  by_cases e : t < k
  · exact h t e
  · obtain rfl : t = k := by omega
    exact hk
theorem FewTo.all {now : Int} {l : List Ver} {k : Nat} (h : FewTo l k) (hk : now < (k : Int)) : FewP now l := fun t ht => h t (by omega)
theorem not_few {now : Int} {l : List Ver} {k : Nat} (hk : (k : Int) ≤ now) (h : 10 < seen l k) : ¬ FewP now l := fun hf => by have := hf k hk; omega
end Go.Proofs.Ytpmeaikiaoojkaa
namespace Go.Proofs.Ytpmeaikiaoojkaa
open Go.RowKit

set_option maxHeartbeats 1000000 in
theorem specVer (f0 : ByteArray) (f1 f2 f3 now : Int) (w : World) (h : f0.size ≤ maxLen) :
    Calls Try.prog 109 #[.agg #[.string f0, .int .i64 f1, .int .i64 f2, .int .i64 f3], .int .i64 now] w fun e w' => e = .returned (.bool (verOk now (f0, f1, f2, f3))) ∧ Below w.heap.size w w' := by
  have b0 := bel_alloc (Below.refl _ w) (.cells #[.string f0, .int .i64 f1, .int .i64 f2, .int .i64 f3] 131); have C1 : Hid (∀ W, Calls Try.prog 92 #[.string f0] W fun e w' => e = .returned (.bool (keyOk f0)) ∧ W = w') := Lib.hid fun W => specKeyOk f0 W h; have C2 : Hid (∀ W, Calls Try.prog 93 #[.int .i64 f1] W fun e w' => e = .returned (.bool (numOk f1)) ∧ W = w') := Lib.hid fun W => l1NumC f1 W; obtain ⟨k, hk⟩ : ∃ k, keyOk f0 = k := ⟨_, rfl⟩; obtain ⟨q, hq⟩ : ∃ q, numOk f1 = q := ⟨_, rfl⟩; rw [hk] at C1; rw [hq] at C2; have HV := Lib.hid (show verOk now (f0, f1, f2, f3) = (k && q && (decide (1 ≤ f2) && decide (f2 ≤ now)) && (decide (f3 = 0) || decide (f2 < f3) && decide (f3 ≤ now))) by unfold verOk; simp only [hk, hq]); clear hk hq h; go_enter Try.func109, Try.ntmps109; go_wp2_with fail; refine (C1.out _).mono ?_; rintro e w1 ⟨rfl, rfl⟩; cases k
  · go_wp2
    go_ret
    exact ⟨retBool (by rw [HV.out]; rfl), b0⟩
  go_wp2_with fail; refine (C2.out _).mono ?_; rintro e w1 ⟨rfl, rfl⟩; cases q
  · go_wp2
    go_ret
    exact ⟨retBool (by rw [HV.out]; rfl), b0⟩
  go_wp2
  all_goals
    go_ret
    refine ⟨retBool ?_, bel_alloc (Below.refl _ _) _⟩; rw [HV.out]
    grind
set_option maxHeartbeats 1000000 in
theorem specAhead (f0 : ByteArray) (f1 f2 f3 : Int) (g0 : ByteArray) (g1 g2 g3 : Int) (w : World) :
    Calls Try.prog 110 #[.agg #[.string f0, .int .i64 f1, .int .i64 f2, .int .i64 f3], .agg #[.string g0, .int .i64 g1, .int .i64 g2, .int .i64 g3]] w fun e w' => e = .returned (.bool (ahead (f0, f1, f2, f3) (g0, g1, g2, g3))) ∧ Below w.heap.size w w' := by
  have b0 := bel_alloc (bel_alloc (Below.refl _ w) (.cells #[.string f0, .int .i64 f1, .int .i64 f2, .int .i64 f3] 131)) (.cells #[.string g0, .int .i64 g1, .int .i64 g2, .int .i64 g3] 131); have hne : (f0.toList != g0.toList) = !(f0.toList == g0.toList) := rfl; cases hk : (f0.toList == g0.toList)
  · rw [hk] at hne; simp only [Bool.not_false] at hne
    have HV := Lib.hid (show ahead (f0, f1, f2, f3) (g0, g1, g2, g3) = Op.bytesLess f0.toList g0.toList by
      show (if keq f0 g0 = true then _ else _) = _
      rw [if_neg (by show ¬ (f0.toList == g0.toList) = true; rw [hk]; simp)]; rfl)
    go_enter Try.func110, Try.ntmps110; go_wp2
    go_ret
    exact ⟨retBool (by rw [HV.out]), b0⟩
  · rw [hk] at hne; simp only [Bool.not_true] at hne
    have HV := Lib.hid (show ahead (f0, f1, f2, f3) (g0, g1, g2, g3) = (decide (0 < f3) && decide (f3 ≤ g2)) by
      show (if keq f0 g0 = true then _ else _) = _
      rw [if_pos (show keq f0 g0 = true from hk)])
    go_enter Try.func110, Try.ntmps110; go_wp2
    all_goals
      go_ret
      refine ⟨retBool ?_, bel_alloc (bel_alloc (Below.refl _ _) _) _⟩; rw [HV.out]
      grind
end Go.Proofs.Ytpmeaikiaoojkaa
namespace Go.Proofs.Ytpmeaikiaoojkaa
open Go.RowKit

end Go.Proofs.Ytpmeaikiaoojkaa
namespace Go.Proofs.Ytpmeaikiaoojkaa
open Go.RowKit

theorem bcellVers {W w1 : World} (hb : Below W.heap.size W w1) : (∀ b o, b < W.heap.size → w1.cell? ⟨b, o, none⟩ = W.cell? ⟨b, o, none⟩) ∧ (∀ b o, b < W.heap.size → w1.frozen? ⟨b, o, none⟩ = W.frozen? ⟨b, o, none⟩) :=
  ⟨fun b o h => hb.cell (p := ⟨b, o, none⟩) h, fun b o h => hb.frozen (p := ⟨b, o, none⟩) h⟩
theorem cell_new2Vers (w : World) (u v : Value) (t : TypeId) : (w.alloc (.cells #[u, v] t)).cell? ⟨w.heap.size, 0, none⟩ = some u ∧ (w.alloc (.cells #[u, v] t)).cell? ⟨w.heap.size, 1, none⟩ = some v := by
  constructor
  · rw [cell_of_row _ w.heap.size 0 #[u, v] t (0, 0) (heap_alloc_new w _)]; rfl
  · rw [cell_of_row _ w.heap.size 1 #[u, v] t (0, 0) (heap_alloc_new w _)]; rfl
end Go.Proofs.Ytpmeaikiaoojkaa
namespace Go.Proofs.Ytpmeaikiaoojkaa
open Go.RowKit

theorem at_in {l : List Ver} {t : Int} {i : Nat} {x : Ver} (h : l[i]? = some x) (hp : vis t x = true) : atL (l.take (i + 1)) t = atL (l.take i) t ++ [(x.1, x.2.1)] := by
  obtain ⟨hk, rfl⟩ := List.getElem?_eq_some_iff.1 h
  unfold atL
  rw [List.take_succ_eq_append_getElem hk, List.filter_append, List.map_append]; simp [hp]
theorem at_out {l : List Ver} {t : Int} {i : Nat} {x : Ver} (h : l[i]? = some x) (hp : vis t x = false) : atL (l.take (i + 1)) t = atL (l.take i) t := by
  obtain ⟨hk, rfl⟩ := List.getElem?_eq_some_iff.1 h
  unfold atL
  rw [List.take_succ_eq_append_getElem hk, List.filter_append, List.map_append]; simp [hp]
theorem at_len (l : List Ver) (t : Int) : (atL l t).length ≤ l.length := by unfold atL; rw [List.length_map]; exact List.length_filter_le _ _
theorem at_seen (l : List Ver) (t : Int) : (atL l t).length = seen l t := by unfold atL seen; rw [List.length_map]
theorem at_all {l : List Ver} {n : Nat} (h : l.length = n) (t : Int) : atL (l.take n) t = atL l t := by rw [List.take_of_length_le (by omega)]
set_option maxHeartbeats 2000000 in
set_option maxRecDepth 100000 in
theorem specAt (now : Int) (A : Option Addr) (n c : Nat) (l : List Ver) (t : Int) (w : World) (hr : Sl encVer w w.heap.size A n l) (hn : n ≤ 1048576) :
    Calls Try.prog 53 #[.agg #[.int .i64 now, .slice A n c], .int .i64 t] w (OwnPost w (atL l t)) := by
  obtain ⟨i0, hi0, hz0, hz1, hz2⟩ := info_parts info46; have HL := Lib.hid hr.len; have HN := Lib.hid hn; have HR := Lib.hid hr; have b0 := bel_alloc (Below.refl _ w) (.cells #[.int .i64 now, .slice A n c] 87); obtain ⟨p0, p1⟩ := cell_new2Vers w (.int .i64 now) (.slice A n c) 87; have b1 := bel_alloc b0 (.cells #[] 133); have p2 := ((bel_alloc (Below.refl _ (w.alloc (.cells #[.int .i64 now, .slice A n c] 87))) (.cells #[] 133)).cell (p := ⟨w.heap.size, 1, none⟩) (by simp)).trans p1; have o1 := Own.made0 (enc := encRow) (sz := 2) (e := 133) (base := w.heap.size + 1) (w.alloc (.cells #[.int .i64 now, .slice A n c] 87)) (by simp); generalize hw1 : (w.alloc (.cells #[.int .i64 now, .slice A n c] 87)).alloc (.cells #[] 133) = w1 at *; have hz1' : w.heap.size < w1.heap.size := by rw [← hw1]; simp; omega
  have HW := Lib.hid hw1; clear hw1 hn hr p0 p1; go_enter Try.func53, Try.ntmps53; go_wp2_with fail; rw [HW.out]
  go_loopw [5, 6] (fun v5 v6 wr => ∃ (i : Nat), i ≤ n ∧ v6 = .int .i64 i ∧ Own encRow 2 133 wr (w.heap.size + 1) v5 (atL (l.take i) t) ∧ Below w.heap.size w wr ∧ wr.cell? ⟨w.heap.size, 1, none⟩ = some (.slice A n c) ∧ w.heap.size < wr.heap.size) (fun _ v6 _ => n - (intOf v6).toNat)
  case atStart => exact ⟨0, Nat.zero_le _, rfl, by simpa [atL] using o1, b1, p2, hz1'⟩
  case round =>
    obtain ⟨i, hin, rfl, ho, hb, hc, hzr⟩ := hrel
    by_cases h0 : i < n
    · have h0' : (i : Int) < (n : Int) := by omega
      have j0 : (0 : Int) ≤ (i : Int) := by omega
      have j5 : IntKind.i64.wrap ((i : Int) + 1) = (i : Int) + 1 := IntWalk.i64_in _ (by have := HN.out; omega); have j6 : wrap64 ((i : Int) + 1) = (i : Int) + 1 := IntWalk.wrap64_in _ (by have := HN.out; omega)
      have hlen : (atL (l.take i) t).length ≤ i := by
        refine Nat.le_trans (at_len _ _) ?_; rw [List.length_take]; omega
      obtain ⟨b, off, rfl, hbb⟩ := HR.out.spot (by omega); obtain ⟨f0, f1, f2, f3, hx, e0, e1, e2, e3⟩ := atVer (HR.out.keep hb) h0; have HX := Lib.hid hx; clear hx; have hba := bel_alloc (Below.refl _ wr) (.cells #[.string f0, .int .i64 f1, .int .i64 f2, .int .i64 f3] 131); have hcc := (hba.cell (p := ⟨w.heap.size, 1, none⟩) hzr).trans hc; have hza : w.heap.size < (wr.alloc (.cells #[.string f0, .int .i64 f1, .int .i64 f2, .int .i64 f3] 131)).heap.size := by simp; omega
      cases hp : vis t (f0, f1, f2, f3)
      · have FO := Lib.hid (at_out HX.out hp)
        have hp' : ¬ (f2 ≤ t ∧ (f3 = 0 ∨ t < f3)) := by
          intro h; have : vis t (f0, f1, f2, f3) = true := by simp only [vis, Bool.and_eq_true, Bool.or_eq_true, decide_eq_true_eq]; exact h
          rw [hp] at this; cases this
        have HP := Lib.hid hp'; clear hp hp'; go_wp2_with fail
        all_goals first
          | (exfalso; have := HP.out; grind)
          | (go_roundw
             case rel => exact ⟨i + 1, by omega, by simp, by rw [FO.out]; exact ho.alloc _, bel_alloc hb _, hcc, hza⟩
             case measure => simp [intOf]; omega)
      · have FI := Lib.hid (at_in HX.out hp)
        have hp' : f2 ≤ t ∧ (f3 = 0 ∨ t < f3) := by
          simpa only [vis, Bool.and_eq_true, Bool.or_eq_true, decide_eq_true_eq] using hp
        obtain ⟨hp1, hp2⟩ := hp'; generalize atL (l.take i) t = o at *; have hz := hb.size
        obtain ⟨av, cv, rfl⟩ : ∃ a c, u5 = .slice a o.length c := by
          obtain ⟨a, c, h, _⟩ := ho.form; exact ⟨a, c, h⟩
        have q1 := (ho.alloc (.cells #[.string f0, .int .i64 f1, .int .i64 f2, .int .i64 f3] 131)).alloc (.cells #[.string f0, .int .i64 f1] 133)
        have q2 : Sl encRow ((wr.alloc (.cells #[.string f0, .int .i64 f1, .int .i64 f2, .int .i64 f3] 131)).alloc (.cells #[.string f0, .int .i64 f1] 133)) (wr.heap.size + 1 + 1) (some ⟨wr.heap.size + 1, 0, none⟩) 1 [(f0, f1)] := by
          have := Sl.lit1 (enc := encRow) (wr.alloc (.cells #[.string f0, .int .i64 f1, .int .i64 f2, .int .i64 f3] 131)) #[.string f0, .int .i64 f1] 133 (f0, f1) rfl
          simpa using this
        have hcd := ((bel_alloc (Below.refl _ (wr.alloc (.cells #[.string f0, .int .i64 f1, .int .i64 f2, .int .i64 f3] 131))) (.cells #[.string f0, .int .i64 f1] 133)).cell (p := ⟨w.heap.size, 1, none⟩) hza).trans hcc; have hzb : w.heap.size < ((wr.alloc (.cells #[.string f0, .int .i64 f1, .int .i64 f2, .int .i64 f3] 131)).alloc (.cells #[.string f0, .int .i64 f1] 133)).heap.size := by simp; omega
        have hcase : (f3 == 0) = true ∨ ((f3 == 0) = false ∧ t < f3) := by
          rcases hp2 with h | h
          · exact .inl (by simp [h])
          · cases hq : (f3 == 0)
            · exact .inr ⟨rfl, h⟩
            · exact .inl rfl
        clear hp hp2
        rcases hcase with h3 | ⟨h3, h4⟩
        all_goals
          go_wp2_with (at_builtin; refine wpList_append_sl _ rfl _ _ 94 rfl (w.heap.size + 1) 133 i0 _ 2 24 Try.underlying94 hi0 hz0 hz1 hz2 rfl (by decide) encRow_len encRow_one _ o rfl q1 _ (some ⟨wr.heap.size + 1, 0, none⟩) 1 1 [(f0, f1)] rfl q2 ?c3 ?c4 ?c5 ?_)
          case c3 => have := HN.out; unfold maxLen; omega
          case c4 => have := HN.out; omega
          case c5 => have := hb.size; first | omega | (simp; omega)
          intro v2 w3 ho3 hg3; have hb3 : Below w.heap.size w w3 := bel_grown (bel_alloc (bel_alloc hb _) _) hg3 (fun k hk => Nat.le_trans (by omega) (World.ownsRow.lt q1 k hk).1); have hg4 : Below (w.heap.size + 1) ((wr.alloc (.cells #[.string f0, .int .i64 f1, .int .i64 f2, .int .i64 f3] 131)).alloc (.cells #[.string f0, .int .i64 f1] 133)) w3 := (Below.refl _ _).grown hg3 (by omega) (fun k hk => (World.ownsRow.lt q1 k hk).1); have hc3 := (hg4.cell (p := ⟨w.heap.size, 1, none⟩) (by simp)).trans hcd; have hz3 := Nat.lt_of_lt_of_le hzb hg4.size; rw [← FI.out] at ho3; clear hg3 hg4 q1 q2 hcd hzb hcc hza hc; go_wp2
          go_roundw
          case rel => exact ⟨i + 1, by omega, by simp, ho3, hb3, hc3, hz3⟩
          case measure => simp [intOf]; omega
    · obtain rfl : i = n := by omega
      have h0' : ¬ (i : Int) < (i : Int) := by omega
      go_wp2_with fail; go_ret
      exact ⟨_, rfl, by rw [at_all HL.out] at ho; exact ho.lower (by omega), hb⟩
end Go.Proofs.Ytpmeaikiaoojkaa
namespace Go.Proofs.Ytpmeaikiaoojkaa
open Go.RowKit
attribute [local go_sem ↓] Go.wp_at_zero Go.wp_at_succ

theorem versOk_head {now : Int} {l : List Ver} (h : ¬ (0 ≤ now ∧ now ≤ 40 ∧ l.length ≤ 60)) : versOk now l = false := versOk_false fun h' => h h'.1
theorem versOk_each {now : Int} {l : List Ver} (h : ¬ EachV now l) : versOk now l = false := versOk_false fun h' => h h'.2.1
theorem versOk_ahead {now : Int} {l : List Ver} (h : ¬ AheadP l) : versOk now l = false := versOk_false fun h' => h h'.2.2.1
theorem versOk_few {now : Int} {l : List Ver} (h : ¬ FewP now l) : versOk now l = false := versOk_false fun h' => h h'.2.2.2
set_option maxHeartbeats 4000000 in
set_option maxRecDepth 100000 in
theorem specVersOk (now : Int) (A : Option Addr) (n c : Nat) (l : List Ver) (w : World) (hr : Sl encVer w w.heap.size A n l) (hk : VerSWf l) (_hn : n ≤ 1048576) :
    Calls Try.prog 95 #[.agg #[.int .i64 now, .slice A n c]] w fun e w' => e = .returned (.bool (versOk now l)) ∧ Below w.heap.size w w' := by
  have HL := Lib.hid hr.len; have HR := Lib.hid hr; have HK := Lib.hid hk; have b0 := bel_alloc (Below.refl _ w) (.cells #[.int .i64 now, .slice A n c] 87); obtain ⟨p0, p1⟩ := cell_new2Vers w (.int .i64 now) (.slice A n c) 87
  by_cases hd : 0 ≤ now ∧ now ≤ 40 ∧ n ≤ 60
  · obtain ⟨hd0, hd1, hd2⟩ := hd; have hd2' : (n : Int) ≤ 60 := by omega
    have HD := Lib.hid (show 0 ≤ now ∧ now ≤ 40 ∧ l.length ≤ 60 from ⟨hd0, hd1, by rw [HL.out]; exact hd2⟩)
    have HC : Hid (∀ W, Below (w.heap.size + 1) (w.alloc (.cells #[.int .i64 now, .slice A n c] 87)) W → (W.cell? ⟨w.heap.size, 0, none⟩ = some (.int .i64 now) ∧ W.cell? ⟨w.heap.size, 1, none⟩ = some (.slice A n c)) ∧ Below w.heap.size w W ∧ w.heap.size + 1 ≤ W.heap.size) :=
      Lib.hid fun W hW => ⟨⟨(hW.cell (p := ⟨w.heap.size, 0, none⟩) (by simp)).trans p0, (hW.cell (p := ⟨w.heap.size, 1, none⟩) (by simp)).trans p1⟩, b0.trans (hW.mono (by omega)), by have := hW.size; simpa using this⟩
    have hb1 : Below (w.heap.size + 1) (w.alloc (.cells #[.int .i64 now, .slice A n c] 87)) (w.alloc (.cells #[.int .i64 now, .slice A n c] 87)) := Below.refl _ _; generalize hw1 : w.alloc (.cells #[.int .i64 now, .slice A n c] 87) = w1 at *; have HW := Lib.hid hw1; clear hw1 hr hk p0 p1 b0; obtain ⟨⟨p0, p1⟩, -, -⟩ := HC.out _ hb1; go_enter Try.func95, Try.ntmps95; go_wp2_with fail; rw [HW.out]; go_wp2_with fail
    go_loopw [3] (fun v3 wr => ∃ (i : Nat), i ≤ n ∧ v3 = .int .i64 i ∧ EachVTo now l i ∧ AheadTo l (i - 1) ∧ Below (w.heap.size + 1) w1 wr) (fun v3 _ => n - (intOf v3).toNat)
    case atStart => exact ⟨0, Nat.zero_le _, rfl, EachVTo.zero _ _, AheadTo.zero _, hb1⟩
    case round =>
      obtain ⟨i, hin, rfl, he, ha, hb⟩ := hrel; clear p0 p1 hb1; obtain ⟨⟨p0, p1⟩, hbw, hsz⟩ := HC.out _ hb
      by_cases h0 : i < n
      · have h0' : (i : Int) < (n : Int) := by omega
        have j0 : (0 : Int) ≤ (i : Int) := by omega
        obtain ⟨b, off, rfl, hbb⟩ := HR.out.spot (by omega); obtain ⟨f0, f1, f2, f3, hx, e0, e1, e2, e3⟩ := atVer (HR.out.keep hbw) h0; have HX := Lib.hid hx; have HWF := Lib.hid (HK.out.at_ hx); clear hx; have HB := Lib.hid hb; have C1 : Hid (∀ W, Calls Try.prog 109 #[.agg #[.string f0, .int .i64 f1, .int .i64 f2, .int .i64 f3], .int .i64 now] W fun e w' => e = .returned (.bool (verOk now (f0, f1, f2, f3))) ∧ Below W.heap.size W w') := Lib.hid fun W => specVer f0 f1 f2 f3 now W HWF.out; cases hv : verOk now (f0, f1, f2, f3)
        · have HF := Lib.hid (versOk_each (not_eachV HX.out hv)); rw [hv] at C1; clear hv
          have HC2 : Hid (∀ W, Below wr.heap.size wr W → (W.cell? ⟨w.heap.size, 0, none⟩ = some (.int .i64 now) ∧ W.cell? ⟨w.heap.size, 1, none⟩ = some (.slice (some ⟨b, off, none⟩) n c)) ∧ (W.cell? ⟨b, off + i * 4, none⟩ = some (.string f0) ∧ W.cell? ⟨b, off + i * 4 + 1, none⟩ = some (.int .i64 f1) ∧ W.cell? ⟨b, off + i * 4 + 2, none⟩ = some (.int .i64 f2) ∧ W.cell? ⟨b, off + i * 4 + 3, none⟩ = some (.int .i64 f3))) :=
            Lib.hid fun W hW => ⟨⟨(hW.cell (p := ⟨w.heap.size, 0, none⟩) (by simp only; omega)).trans p0, (hW.cell (p := ⟨w.heap.size, 1, none⟩) (by simp only; omega)).trans p1⟩, (hW.cell (p := ⟨b, off + i * 4, none⟩) (by simp only; omega)).trans e0, (hW.cell (p := ⟨b, off + i * 4 + 1, none⟩) (by simp only; omega)).trans e1, (hW.cell (p := ⟨b, off + i * 4 + 2, none⟩) (by simp only; omega)).trans e2, (hW.cell (p := ⟨b, off + i * 4 + 3, none⟩) (by simp only; omega)).trans e3⟩
          go_wp2_with fail; refine wp_region_held_drew (S := (fun W' => ((W'.cell? ⟨w.heap.size, 0, none⟩ = some (.int .i64 now) ∧ W'.cell? ⟨w.heap.size, 1, none⟩ = some (.slice (some ⟨b, off, none⟩) n c)) ∧ (W'.cell? ⟨b, off + i * 4, none⟩ = some (.string f0) ∧ W'.cell? ⟨b, off + i * 4 + 1, none⟩ = some (.int .i64 f1) ∧ W'.cell? ⟨b, off + i * 4 + 2, none⟩ = some (.int .i64 f2) ∧ W'.cell? ⟨b, off + i * 4 + 3, none⟩ = some (.int .i64 f3))) ∧ Below wr.heap.size wr W')) (by kernel_rfl) ⟨HC2.out _ (Below.refl _ _).drew, (Below.refl _ _).drew⟩ (fun hHeld => ?_); refine tk 0 rfl ?_; (try simp only [AP]); refine tk 1 rfl ?_; (try simp only [AP]); refine tk 2 rfl ?_; (try simp only [AP]); refine tk 3 rfl ?_; (try simp only [AP]); refine tk 4 rfl ?_; (try simp only [AP]); refine tk 5 rfl ?_; (try simp only [AP]); refine tk 6 rfl ?_; (try simp only [AP]); refine ry 7 rfl fun K hK => ?_; go_simp; refine (C1.out _).mono ?_; rintro e W ⟨rfl, hbW'⟩; have hbW := bel_trans ((Below.refl wr.heap.size wr).drew) hbW'; go_wp2_with fail; refine hK.out _ _ ⟨HC2.out _ hbW, hbW⟩ (fun hHeld => ?_); clear hK K; (try simp only [AP]); refine tk 8 rfl ?_; (try simp only [AP]); refine tk 9 rfl ?_; (try simp only [AP]); refine wpAnyH_take (i := 10) (oi := { dst := some 36, op := Go.Op.move (Go.Operand.tmp 3), type := 3, pos := "l2_snap.go:36", after := #[{ on := 9, ground := Go.Ground.guard }], guard := some (9, false) }) (v := undef) rfl (by kernel_rfl) (by kernel_rfl) (by kernel_rfl) (fun _ _ _ h => h) (Or.inr ⟨by rfl, rfl⟩) (by assumption) ?_; (try simp only [AP]); refine wpAnyH_take (i := 11) (oi := { dst := some 37, op := Go.Op.binOp Go.BinOp.gtr 3 (Go.Operand.tmp 36) (Go.Operand.const (Go.Value.int Go.IntKind.i64 0)) 3, type := 4, pos := "l2_snap.go:36", after := #[{ on := 10, ground := Go.Ground.data }, { on := 9, ground := Go.Ground.guard }], guard := some (9, false) }) (v := undef) rfl (by kernel_rfl) (by kernel_rfl) (by kernel_rfl) (fun _ _ _ h => h) (Or.inr ⟨by rfl, rfl⟩) (by assumption) ?_; (try simp only [AP]); refine wpAnyH_take (i := 12) (oi := { dst := some 38, op := Go.Op.move (Go.Operand.tmp 37), type := 4, pos := "l2_snap.go:36", after := #[{ on := 11, ground := Go.Ground.data }, { on := 9, ground := Go.Ground.chain }, { on := 9, ground := Go.Ground.guard }], guard := some (9, false) }) (v := undef) rfl (by kernel_rfl) (by kernel_rfl) (by kernel_rfl) (fun _ _ _ h => h) (Or.inr ⟨by rfl, rfl⟩) (by assumption) ?_; (try simp only [AP]); refine wpAnyH_take (i := 13) (oi := { dst := some 39, op := Go.Op.fieldAddr 87 (Go.Operand.tmp 1) 1, type := 0, pos := "l2_snap.go:36", after := #[{ on := 12, ground := Go.Ground.guard }], guard := some (12, true) }) (v := undef) rfl (by kernel_rfl) (by kernel_rfl) (by kernel_rfl) (fun _ _ _ h => h) (Or.inr ⟨by rfl, rfl⟩) (by assumption) ?_; (try simp only [AP]); refine wpAnyH_take (i := 14) (oi := { dst := some 40, op := Go.Op.load 85 (Go.Operand.tmp 39), type := 85, pos := "l2_snap.go:36", after := #[{ on := 13, ground := Go.Ground.data }, { on := 12, ground := Go.Ground.guard }], guard := some (12, true) }) (v := undef) rfl (by kernel_rfl) (by kernel_rfl) (by kernel_rfl) (fun _ _ _ h => h) (Or.inr ⟨by rfl, rfl⟩) (by assumption) ?_
          (try simp only [AP]); refine wpAnyH_take (i := 15) (oi := { dst := some 41, op := Go.Op.move (Go.Operand.tmp 3), type := 3, pos := "l2_snap.go:36", after := #[{ on := 12, ground := Go.Ground.guard }], guard := some (12, true) }) (v := undef) rfl (by kernel_rfl) (by kernel_rfl) (by kernel_rfl) (fun _ _ _ h => h) (Or.inr ⟨by rfl, rfl⟩) (by assumption) ?_; (try simp only [AP]); refine wpAnyH_take (i := 16) (oi := { dst := some 42, op := Go.Op.binOp Go.BinOp.sub 3 (Go.Operand.tmp 41) (Go.Operand.const (Go.Value.int Go.IntKind.i64 1)) 3, type := 3, pos := "l2_snap.go:36", after := #[{ on := 15, ground := Go.Ground.data }, { on := 12, ground := Go.Ground.guard }], guard := some (12, true) }) (v := undef) rfl (by kernel_rfl) (by kernel_rfl) (by kernel_rfl) (fun _ _ _ h => h) (Or.inr ⟨by rfl, rfl⟩) (by assumption) ?_; (try simp only [AP]); refine wpAnyH_take (i := 17) (oi := { dst := some 43, op := Go.Op.indexAddr 85 (Go.Operand.tmp 40) (Go.Operand.tmp 42), type := 0, pos := "l2_snap.go:36", after := #[{ on := 14, ground := Go.Ground.data }, { on := 16, ground := Go.Ground.data }, { on := 12, ground := Go.Ground.guard }], guard := some (12, true) }) (v := undef) rfl (by kernel_rfl) (by kernel_rfl) (by kernel_rfl) (fun _ _ _ h => h) (Or.inr ⟨by rfl, rfl⟩) (by assumption) ?_; (try simp only [AP]); refine wpAnyH_take (i := 18) (oi := { dst := some 44, op := Go.Op.load 131 (Go.Operand.tmp 43), type := 131, pos := "l2_snap.go:36", after := #[{ on := 17, ground := Go.Ground.data }, { on := 12, ground := Go.Ground.guard }], guard := some (12, true) }) (v := undef) rfl (by kernel_rfl) (by kernel_rfl) (by kernel_rfl) (fun _ _ _ h => h) (Or.inr ⟨by rfl, rfl⟩) (by assumption) ?_; (try simp only [AP]); refine wpAnyH_take (i := 19) (oi := { dst := some 45, op := Go.Op.fieldAddr 87 (Go.Operand.tmp 1) 1, type := 0, pos := "l2_snap.go:36", after := #[{ on := 12, ground := Go.Ground.guard }], guard := some (12, true) }) (v := undef) rfl (by kernel_rfl) (by kernel_rfl) (by kernel_rfl) (fun _ _ _ h => h) (Or.inr ⟨by rfl, rfl⟩) (by assumption) ?_; (try simp only [AP]); refine wpAnyH_take (i := 20) (oi := { dst := some 46, op := Go.Op.load 85 (Go.Operand.tmp 45), type := 85, pos := "l2_snap.go:36", after := #[{ on := 19, ground := Go.Ground.data }, { on := 12, ground := Go.Ground.guard }], guard := some (12, true) }) (v := undef) rfl (by kernel_rfl) (by kernel_rfl) (by kernel_rfl) (fun _ _ _ h => h) (Or.inr ⟨by rfl, rfl⟩) (by assumption) ?_; (try simp only [AP]); refine wpAnyH_take (i := 21) (oi := { dst := some 47, op := Go.Op.move (Go.Operand.tmp 3), type := 3, pos := "l2_snap.go:36", after := #[{ on := 12, ground := Go.Ground.guard }], guard := some (12, true) }) (v := undef) rfl (by kernel_rfl) (by kernel_rfl) (by kernel_rfl) (fun _ _ _ h => h) (Or.inr ⟨by rfl, rfl⟩) (by assumption) ?_; (try simp only [AP]); refine wpAnyH_take (i := 22) (oi := { dst := some 48, op := Go.Op.indexAddr 85 (Go.Operand.tmp 46) (Go.Operand.tmp 47), type := 0, pos := "l2_snap.go:36", after := #[{ on := 20, ground := Go.Ground.data }, { on := 21, ground := Go.Ground.data }, { on := 12, ground := Go.Ground.guard }], guard := some (12, true) }) (v := undef) rfl (by kernel_rfl) (by kernel_rfl) (by kernel_rfl) (fun _ _ _ h => h) (Or.inr ⟨by rfl, rfl⟩) (by assumption) ?_
          (try simp only [AP]); refine wpAnyH_take (i := 23) (oi := { dst := some 49, op := Go.Op.load 131 (Go.Operand.tmp 48), type := 131, pos := "l2_snap.go:36", after := #[{ on := 22, ground := Go.Ground.data }, { on := 12, ground := Go.Ground.guard }], guard := some (12, true) }) (v := undef) rfl (by kernel_rfl) (by kernel_rfl) (by kernel_rfl) (fun _ _ _ h => h) (Or.inr ⟨by rfl, rfl⟩) (by assumption) ?_; (try simp only [AP]); refine wpAnyH_take (i := 24) (oi := { dst := some 50, op := Go.Op.call { callee := Go.Callee.value (Go.Operand.func 110), args := #[Go.Operand.tmp 44, Go.Operand.tmp 49], argTypes := #[131, 131] }, type := 4, pos := "l2_snap.go:36", after := #[{ on := 18, ground := Go.Ground.data }, { on := 23, ground := Go.Ground.data }, { on := 12, ground := Go.Ground.chain }, { on := 12, ground := Go.Ground.guard }], guard := some (12, true) }) (v := undef) rfl (by kernel_rfl) (by kernel_rfl) (by kernel_rfl) (fun _ _ _ h => h) (Or.inr ⟨by rfl, rfl⟩) (by assumption) ?_; (try simp only [AP]); refine wpAnyH_take (i := 25) (oi := { dst := some 51, op := Go.Op.unOp Go.UnOp.not 4 (Go.Operand.tmp 50), type := 4, pos := "l2_snap.go:36", after := #[{ on := 24, ground := Go.Ground.data }, { on := 12, ground := Go.Ground.guard }], guard := some (12, true) }) (v := undef) rfl (by kernel_rfl) (by kernel_rfl) (by kernel_rfl) (fun _ _ _ h => h) (Or.inr ⟨by rfl, rfl⟩) (by assumption) ?_; (try simp only [AP]); refine wpAnyH_take (i := 26) (oi := { dst := some 52, op := Go.Op.pick (Go.Operand.tmp 38) (Go.Operand.tmp 51) (Go.Operand.const (Go.Value.bool false)), type := 4, pos := "l2_snap.go:36", after := #[{ on := 12, ground := Go.Ground.data }, { on := 25, ground := Go.Ground.data }, { on := 9, ground := Go.Ground.guard }], guard := some (9, false) }) (v := undef) rfl (by kernel_rfl) (by kernel_rfl) (by kernel_rfl) (fun _ _ _ h => h) (Or.inr ⟨by rfl, rfl⟩) (by assumption) ?_; (try simp only [AP]); refine tk 27 rfl ?_; (try simp only [AP]); refine wpAnyH_done (by kernel_rfl) ?_ _; go_wp2_with fail; go_ret
          exact ⟨retBool HF.out.symm, bel_trans hbw hbW⟩
        · rw [hv] at C1; have HE := Lib.hid (he.step HX.out hv); have HV := Lib.hid hv; clear hv
          by_cases hi : 0 < i
          · obtain ⟨g0, g1, g2, g3, hy, d0, d1, d2, d3⟩ := atVer (HR.out.keep hbw) (show i - 1 < n by omega); have HY := Lib.hid hy; clear hy; have hi' : (0 : Int) < (i : Int) := by omega
            have hpi : ((i - 1 : Nat) : Int) = (i : Int) - 1 := by omega
            have hpn : ((i : Int) - 1).toNat = i - 1 := by omega
            have hp0 : (0 : Int) ≤ (i : Int) - 1 := by omega
            have hp1 : (i : Int) - 1 < (n : Int) := by omega
            have hp2 : (1 : Int) ≤ (i : Int) := by omega
            have hpw : IntKind.i64.wrap ((i : Int) - 1) = (i : Int) - 1 := IntWalk.i64_in _ (by omega)
            have HC2 : Hid (∀ W, Below wr.heap.size wr W → (W.cell? ⟨w.heap.size, 0, none⟩ = some (.int .i64 now) ∧ W.cell? ⟨w.heap.size, 1, none⟩ = some (.slice (some ⟨b, off, none⟩) n c)) ∧ (W.cell? ⟨b, off + i * 4, none⟩ = some (.string f0) ∧ W.cell? ⟨b, off + i * 4 + 1, none⟩ = some (.int .i64 f1) ∧ W.cell? ⟨b, off + i * 4 + 2, none⟩ = some (.int .i64 f2) ∧ W.cell? ⟨b, off + i * 4 + 3, none⟩ = some (.int .i64 f3))) :=
              Lib.hid fun W hW => ⟨⟨(hW.cell (p := ⟨w.heap.size, 0, none⟩) (by simp only; omega)).trans p0, (hW.cell (p := ⟨w.heap.size, 1, none⟩) (by simp only; omega)).trans p1⟩, (hW.cell (p := ⟨b, off + i * 4, none⟩) (by simp only; omega)).trans e0, (hW.cell (p := ⟨b, off + i * 4 + 1, none⟩) (by simp only; omega)).trans e1, (hW.cell (p := ⟨b, off + i * 4 + 2, none⟩) (by simp only; omega)).trans e2, (hW.cell (p := ⟨b, off + i * 4 + 3, none⟩) (by simp only; omega)).trans e3⟩
            have HC4 : Hid (∀ W, Below wr.heap.size wr W → (W.cell? ⟨b, off + (i - 1) * 4, none⟩ = some (.string g0) ∧ W.cell? ⟨b, off + (i - 1) * 4 + 1, none⟩ = some (.int .i64 g1) ∧ W.cell? ⟨b, off + (i - 1) * 4 + 2, none⟩ = some (.int .i64 g2) ∧ W.cell? ⟨b, off + (i - 1) * 4 + 3, none⟩ = some (.int .i64 g3))) :=
              Lib.hid fun W hW => ⟨(hW.cell (p := ⟨b, off + (i - 1) * 4, none⟩) (by simp only; omega)).trans d0, (hW.cell (p := ⟨b, off + (i - 1) * 4 + 1, none⟩) (by simp only; omega)).trans d1, (hW.cell (p := ⟨b, off + (i - 1) * 4 + 2, none⟩) (by simp only; omega)).trans d2, (hW.cell (p := ⟨b, off + (i - 1) * 4 + 3, none⟩) (by simp only; omega)).trans d3⟩
            have C2 : Hid (∀ W, Calls Try.prog 110 #[.agg #[.string g0, .int .i64 g1, .int .i64 g2, .int .i64 g3], .agg #[.string f0, .int .i64 f1, .int .i64 f2, .int .i64 f3]] W fun e w' => e = .returned (.bool (ahead (g0, g1, g2, g3) (f0, f1, f2, f3))) ∧ Below W.heap.size W w') := Lib.hid fun W => specAhead g0 g1 g2 g3 f0 f1 f2 f3 W; cases hq : ahead (g0, g1, g2, g3) (f0, f1, f2, f3)
            · have HF := Lib.hid (versOk_ahead (now := now) (not_ahead hi HY.out HX.out hq)); rw [hq] at C2; clear hq; go_wp2_with fail; refine wp_region_held_drew (S := (fun W' => ((W'.cell? ⟨w.heap.size, 0, none⟩ = some (.int .i64 now) ∧ W'.cell? ⟨w.heap.size, 1, none⟩ = some (.slice (some ⟨b, off, none⟩) n c)) ∧ (W'.cell? ⟨b, off + i * 4, none⟩ = some (.string f0) ∧ W'.cell? ⟨b, off + i * 4 + 1, none⟩ = some (.int .i64 f1) ∧ W'.cell? ⟨b, off + i * 4 + 2, none⟩ = some (.int .i64 f2) ∧ W'.cell? ⟨b, off + i * 4 + 3, none⟩ = some (.int .i64 f3))) ∧ (W'.cell? ⟨b, off + (i - 1) * 4, none⟩ = some (.string g0) ∧ W'.cell? ⟨b, off + (i - 1) * 4 + 1, none⟩ = some (.int .i64 g1) ∧ W'.cell? ⟨b, off + (i - 1) * 4 + 2, none⟩ = some (.int .i64 g2) ∧ W'.cell? ⟨b, off + (i - 1) * 4 + 3, none⟩ = some (.int .i64 g3)) ∧ Below wr.heap.size wr W')) (by kernel_rfl) ⟨HC2.out _ (Below.refl _ _).drew, HC4.out _ (Below.refl _ _).drew, (Below.refl _ _).drew⟩ (fun hHeld => ?_); refine tk 0 rfl ?_; (try simp only [AP]); refine tk 1 rfl ?_; (try simp only [AP]); refine tk 2 rfl ?_; (try simp only [AP]); refine tk 3 rfl ?_; (try simp only [AP]); refine tk 4 rfl ?_; (try simp only [AP]); refine tk 5 rfl ?_; (try simp only [AP]); refine tk 6 rfl ?_; (try simp only [AP]); refine ry 7 rfl fun K hK => ?_; go_simp; refine (C1.out _).mono ?_; rintro e W ⟨rfl, hbW'⟩; have hbW := bel_trans ((Below.refl wr.heap.size wr).drew) hbW'; go_wp2_with fail; refine hK.out _ _ ⟨HC2.out _ hbW, HC4.out _ hbW, hbW⟩ (fun hHeld => ?_); clear hK K; (try simp only [AP]); refine tk 8 rfl ?_; (try simp only [AP]); refine tk 9 rfl ?_; (try simp only [AP]); refine tk 10 rfl ?_; (try simp only [AP]); refine tk 11 rfl ?_; (try simp only [AP]); refine tk 12 rfl ?_; (try simp only [AP]); refine tk 13 rfl ?_; (try simp only [AP]); refine tk 14 rfl ?_; (try simp only [AP]); refine tk 15 rfl ?_; (try simp only [AP]); refine tk 16 rfl ?_; (try simp only [AP]); refine tk 17 rfl ?_; (try simp only [AP]); refine tk 18 rfl ?_; (try simp only [AP]); refine tk 19 rfl ?_; (try simp only [AP]); refine tk 20 rfl ?_; (try simp only [AP]); refine tk 21 rfl ?_; (try simp only [AP]); refine tk 22 rfl ?_; (try simp only [AP]); refine tk 23 rfl ?_; (try simp only [AP]); refine ry 24 rfl fun K hK => ?_; go_simp; refine (C2.out _).mono ?_; rintro e W2 ⟨rfl, hbX'⟩; have hbX := bel_trans hbW hbX'; go_wp2_with fail; refine hK.out _ _ ⟨HC2.out _ hbX, HC4.out _ hbX, hbX⟩ (fun hHeld => ?_); clear hK K; (try simp only [AP]); refine tk 25 rfl ?_; (try simp only [AP]); refine tk 26 rfl ?_; (try simp only [AP]); refine tk 27 rfl ?_; (try simp only [AP]); refine wpAnyH_done (by kernel_rfl) ?_ _; go_wp2_with fail; go_ret
              exact ⟨retBool HF.out.symm, bel_trans hbw hbX⟩
            · have HA := Lib.hid (ha.step hi HY.out HX.out hq); rw [hq] at C2; clear hq; go_wp2_with fail; refine wp_region_held_drew (S := (fun W' => ((W'.cell? ⟨w.heap.size, 0, none⟩ = some (.int .i64 now) ∧ W'.cell? ⟨w.heap.size, 1, none⟩ = some (.slice (some ⟨b, off, none⟩) n c)) ∧ (W'.cell? ⟨b, off + i * 4, none⟩ = some (.string f0) ∧ W'.cell? ⟨b, off + i * 4 + 1, none⟩ = some (.int .i64 f1) ∧ W'.cell? ⟨b, off + i * 4 + 2, none⟩ = some (.int .i64 f2) ∧ W'.cell? ⟨b, off + i * 4 + 3, none⟩ = some (.int .i64 f3))) ∧ (W'.cell? ⟨b, off + (i - 1) * 4, none⟩ = some (.string g0) ∧ W'.cell? ⟨b, off + (i - 1) * 4 + 1, none⟩ = some (.int .i64 g1) ∧ W'.cell? ⟨b, off + (i - 1) * 4 + 2, none⟩ = some (.int .i64 g2) ∧ W'.cell? ⟨b, off + (i - 1) * 4 + 3, none⟩ = some (.int .i64 g3)) ∧ Below wr.heap.size wr W')) (by kernel_rfl) ⟨HC2.out _ (Below.refl _ _).drew, HC4.out _ (Below.refl _ _).drew, (Below.refl _ _).drew⟩ (fun hHeld => ?_); refine tk 0 rfl ?_; (try simp only [AP]); refine tk 1 rfl ?_; (try simp only [AP]); refine tk 2 rfl ?_; (try simp only [AP]); refine tk 3 rfl ?_; (try simp only [AP]); refine tk 4 rfl ?_; (try simp only [AP]); refine tk 5 rfl ?_; (try simp only [AP]); refine tk 6 rfl ?_; (try simp only [AP]); refine ry 7 rfl fun K hK => ?_; go_simp; refine (C1.out _).mono ?_; rintro e W ⟨rfl, hbW'⟩; have hbW := bel_trans ((Below.refl wr.heap.size wr).drew) hbW'; go_wp2_with fail; refine hK.out _ _ ⟨HC2.out _ hbW, HC4.out _ hbW, hbW⟩ (fun hHeld => ?_); clear hK K; (try simp only [AP]); refine tk 8 rfl ?_; (try simp only [AP]); refine tk 9 rfl ?_; (try simp only [AP]); refine tk 10 rfl ?_; (try simp only [AP]); refine tk 11 rfl ?_; (try simp only [AP]); refine tk 12 rfl ?_; (try simp only [AP]); refine tk 13 rfl ?_; (try simp only [AP]); refine tk 14 rfl ?_; (try simp only [AP]); refine tk 15 rfl ?_; (try simp only [AP]); refine tk 16 rfl ?_; (try simp only [AP]); refine tk 17 rfl ?_; (try simp only [AP]); refine tk 18 rfl ?_; (try simp only [AP]); refine tk 19 rfl ?_; (try simp only [AP]); refine tk 20 rfl ?_; (try simp only [AP]); refine tk 21 rfl ?_; (try simp only [AP]); refine tk 22 rfl ?_; (try simp only [AP]); refine tk 23 rfl ?_; (try simp only [AP]); refine ry 24 rfl fun K hK => ?_; go_simp; refine (C2.out _).mono ?_; rintro e W2 ⟨rfl, hbX'⟩; have hbX := bel_trans hbW hbX'; go_wp2_with fail; refine hK.out _ _ ⟨HC2.out _ hbX, HC4.out _ hbX, hbX⟩ (fun hHeld => ?_); clear hK K; (try simp only [AP]); refine tk 25 rfl ?_; (try simp only [AP]); refine tk 26 rfl ?_; (try simp only [AP]); refine tk 27 rfl ?_; (try simp only [AP]); refine wpAnyH_done (by kernel_rfl) ?_ _; go_wp2_with fail; go_roundw
              case rel => exact ⟨i + 1, by omega, by simp, HE.out, HA.out, HB.out.trans (hbX.mono (by omega))⟩
              case measure => simp [intOf]; omega
          · obtain rfl : i = 0 := by omega
            simp only [Nat.zero_mul, Nat.add_zero] at e0 e1 e2 e3
            have HC2 : Hid (∀ W, Below wr.heap.size wr W → (W.cell? ⟨w.heap.size, 0, none⟩ = some (.int .i64 now) ∧ W.cell? ⟨w.heap.size, 1, none⟩ = some (.slice (some ⟨b, off, none⟩) n c)) ∧ (W.cell? ⟨b, off, none⟩ = some (.string f0) ∧ W.cell? ⟨b, off + 1, none⟩ = some (.int .i64 f1) ∧ W.cell? ⟨b, off + 2, none⟩ = some (.int .i64 f2) ∧ W.cell? ⟨b, off + 3, none⟩ = some (.int .i64 f3))) :=
              Lib.hid fun W hW => ⟨⟨(hW.cell (p := ⟨w.heap.size, 0, none⟩) (by simp only; omega)).trans p0, (hW.cell (p := ⟨w.heap.size, 1, none⟩) (by simp only; omega)).trans p1⟩, (hW.cell (p := ⟨b, off, none⟩) (by simp only; omega)).trans e0, (hW.cell (p := ⟨b, off + 1, none⟩) (by simp only; omega)).trans e1, (hW.cell (p := ⟨b, off + 2, none⟩) (by simp only; omega)).trans e2, (hW.cell (p := ⟨b, off + 3, none⟩) (by simp only; omega)).trans e3⟩
            have hz0 : decide ((0 : Int) < 0) = false := by decide
            go_wp2_with fail; refine wp_region_held_drew (S := (fun W' => ((W'.cell? ⟨w.heap.size, 0, none⟩ = some (.int .i64 now) ∧ W'.cell? ⟨w.heap.size, 1, none⟩ = some (.slice (some ⟨b, off, none⟩) n c)) ∧ (W'.cell? ⟨b, off, none⟩ = some (.string f0) ∧ W'.cell? ⟨b, off + 1, none⟩ = some (.int .i64 f1) ∧ W'.cell? ⟨b, off + 2, none⟩ = some (.int .i64 f2) ∧ W'.cell? ⟨b, off + 3, none⟩ = some (.int .i64 f3))) ∧ Below wr.heap.size wr W')) (by kernel_rfl) ⟨HC2.out _ (Below.refl _ _).drew, (Below.refl _ _).drew⟩ (fun hHeld => ?_); refine tk 0 rfl ?_; (try simp only [AP]); refine tk 1 rfl ?_; (try simp only [AP]); refine tk 2 rfl ?_; (try simp only [AP]); refine tk 3 rfl ?_; (try simp only [AP]); refine tk 4 rfl ?_; (try simp only [AP]); refine tk 5 rfl ?_; (try simp only [AP]); refine tk 6 rfl ?_; (try simp only [AP]); refine ry 7 rfl fun K hK => ?_; go_simp; refine (C1.out _).mono ?_; rintro e W ⟨rfl, hbW'⟩; have hbW := bel_trans ((Below.refl wr.heap.size wr).drew) hbW'; go_wp2_with fail; refine hK.out _ _ ⟨HC2.out _ hbW, hbW⟩ (fun hHeld => ?_); clear hK K; (try simp only [AP]); refine tk 8 rfl ?_; (try simp only [AP]); refine tk 9 rfl ?_; (try simp only [AP]); refine tk 10 rfl ?_; (try simp only [AP]); refine tk 11 rfl ?_; (try simp only [AP]); refine tk 12 rfl ?_; (try simp only [AP]); refine wpAnyH_take (i := 13) (oi := { dst := some 39, op := Go.Op.fieldAddr 87 (Go.Operand.tmp 1) 1, type := 0, pos := "l2_snap.go:36", after := #[{ on := 12, ground := Go.Ground.guard }], guard := some (12, true) }) (v := undef) rfl (by kernel_rfl) (by kernel_rfl) (by kernel_rfl) (fun _ _ _ h => h) (Or.inr ⟨by rfl, rfl⟩) (by assumption) ?_; (try simp only [AP]); refine wpAnyH_take (i := 14) (oi := { dst := some 40, op := Go.Op.load 85 (Go.Operand.tmp 39), type := 85, pos := "l2_snap.go:36", after := #[{ on := 13, ground := Go.Ground.data }, { on := 12, ground := Go.Ground.guard }], guard := some (12, true) }) (v := undef) rfl (by kernel_rfl) (by kernel_rfl) (by kernel_rfl) (fun _ _ _ h => h) (Or.inr ⟨by rfl, rfl⟩) (by assumption) ?_; (try simp only [AP]); refine wpAnyH_take (i := 15) (oi := { dst := some 41, op := Go.Op.move (Go.Operand.tmp 3), type := 3, pos := "l2_snap.go:36", after := #[{ on := 12, ground := Go.Ground.guard }], guard := some (12, true) }) (v := undef) rfl (by kernel_rfl) (by kernel_rfl) (by kernel_rfl) (fun _ _ _ h => h) (Or.inr ⟨by rfl, rfl⟩) (by assumption) ?_; (try simp only [AP]); refine wpAnyH_take (i := 16) (oi := { dst := some 42, op := Go.Op.binOp Go.BinOp.sub 3 (Go.Operand.tmp 41) (Go.Operand.const (Go.Value.int Go.IntKind.i64 1)) 3, type := 3, pos := "l2_snap.go:36", after := #[{ on := 15, ground := Go.Ground.data }, { on := 12, ground := Go.Ground.guard }], guard := some (12, true) }) (v := undef) rfl (by kernel_rfl) (by kernel_rfl) (by kernel_rfl) (fun _ _ _ h => h) (Or.inr ⟨by rfl, rfl⟩) (by assumption) ?_; (try simp only [AP]); refine wpAnyH_take (i := 17) (oi := { dst := some 43, op := Go.Op.indexAddr 85 (Go.Operand.tmp 40) (Go.Operand.tmp 42), type := 0, pos := "l2_snap.go:36", after := #[{ on := 14, ground := Go.Ground.data }, { on := 16, ground := Go.Ground.data }, { on := 12, ground := Go.Ground.guard }], guard := some (12, true) }) (v := undef) rfl (by kernel_rfl) (by kernel_rfl) (by kernel_rfl) (fun _ _ _ h => h) (Or.inr ⟨by rfl, rfl⟩) (by assumption) ?_
            (try simp only [AP]); refine wpAnyH_take (i := 18) (oi := { dst := some 44, op := Go.Op.load 131 (Go.Operand.tmp 43), type := 131, pos := "l2_snap.go:36", after := #[{ on := 17, ground := Go.Ground.data }, { on := 12, ground := Go.Ground.guard }], guard := some (12, true) }) (v := undef) rfl (by kernel_rfl) (by kernel_rfl) (by kernel_rfl) (fun _ _ _ h => h) (Or.inr ⟨by rfl, rfl⟩) (by assumption) ?_; (try simp only [AP]); refine wpAnyH_take (i := 19) (oi := { dst := some 45, op := Go.Op.fieldAddr 87 (Go.Operand.tmp 1) 1, type := 0, pos := "l2_snap.go:36", after := #[{ on := 12, ground := Go.Ground.guard }], guard := some (12, true) }) (v := undef) rfl (by kernel_rfl) (by kernel_rfl) (by kernel_rfl) (fun _ _ _ h => h) (Or.inr ⟨by rfl, rfl⟩) (by assumption) ?_; (try simp only [AP]); refine wpAnyH_take (i := 20) (oi := { dst := some 46, op := Go.Op.load 85 (Go.Operand.tmp 45), type := 85, pos := "l2_snap.go:36", after := #[{ on := 19, ground := Go.Ground.data }, { on := 12, ground := Go.Ground.guard }], guard := some (12, true) }) (v := undef) rfl (by kernel_rfl) (by kernel_rfl) (by kernel_rfl) (fun _ _ _ h => h) (Or.inr ⟨by rfl, rfl⟩) (by assumption) ?_; (try simp only [AP]); refine wpAnyH_take (i := 21) (oi := { dst := some 47, op := Go.Op.move (Go.Operand.tmp 3), type := 3, pos := "l2_snap.go:36", after := #[{ on := 12, ground := Go.Ground.guard }], guard := some (12, true) }) (v := undef) rfl (by kernel_rfl) (by kernel_rfl) (by kernel_rfl) (fun _ _ _ h => h) (Or.inr ⟨by rfl, rfl⟩) (by assumption) ?_; (try simp only [AP]); refine wpAnyH_take (i := 22) (oi := { dst := some 48, op := Go.Op.indexAddr 85 (Go.Operand.tmp 46) (Go.Operand.tmp 47), type := 0, pos := "l2_snap.go:36", after := #[{ on := 20, ground := Go.Ground.data }, { on := 21, ground := Go.Ground.data }, { on := 12, ground := Go.Ground.guard }], guard := some (12, true) }) (v := undef) rfl (by kernel_rfl) (by kernel_rfl) (by kernel_rfl) (fun _ _ _ h => h) (Or.inr ⟨by rfl, rfl⟩) (by assumption) ?_; (try simp only [AP]); refine wpAnyH_take (i := 23) (oi := { dst := some 49, op := Go.Op.load 131 (Go.Operand.tmp 48), type := 131, pos := "l2_snap.go:36", after := #[{ on := 22, ground := Go.Ground.data }, { on := 12, ground := Go.Ground.guard }], guard := some (12, true) }) (v := undef) rfl (by kernel_rfl) (by kernel_rfl) (by kernel_rfl) (fun _ _ _ h => h) (Or.inr ⟨by rfl, rfl⟩) (by assumption) ?_; (try simp only [AP]); refine wpAnyH_take (i := 24) (oi := { dst := some 50, op := Go.Op.call { callee := Go.Callee.value (Go.Operand.func 110), args := #[Go.Operand.tmp 44, Go.Operand.tmp 49], argTypes := #[131, 131] }, type := 4, pos := "l2_snap.go:36", after := #[{ on := 18, ground := Go.Ground.data }, { on := 23, ground := Go.Ground.data }, { on := 12, ground := Go.Ground.chain }, { on := 12, ground := Go.Ground.guard }], guard := some (12, true) }) (v := undef) rfl (by kernel_rfl) (by kernel_rfl) (by kernel_rfl) (fun _ _ _ h => h) (Or.inr ⟨by rfl, rfl⟩) (by assumption) ?_; (try simp only [AP])
            refine wpAnyH_take (i := 25) (oi := { dst := some 51, op := Go.Op.unOp Go.UnOp.not 4 (Go.Operand.tmp 50), type := 4, pos := "l2_snap.go:36", after := #[{ on := 24, ground := Go.Ground.data }, { on := 12, ground := Go.Ground.guard }], guard := some (12, true) }) (v := undef) rfl (by kernel_rfl) (by kernel_rfl) (by kernel_rfl) (fun _ _ _ h => h) (Or.inr ⟨by rfl, rfl⟩) (by assumption) ?_; (try simp only [AP]); refine tk 26 rfl ?_; (try simp only [AP]); refine tk 27 rfl ?_; (try simp only [AP]); refine wpAnyH_done (by kernel_rfl) ?_ _; go_wp2_with fail; go_roundw
            case rel => exact ⟨1, by omega, by simp, HE.out, AheadTo.zero _, HB.out.trans (hbW.mono (by omega))⟩
            case measure => simp [intOf]; omega
      · obtain rfl : i = n := by omega
        have h0' : ¬ ((i : Int) < (i : Int)) := by omega
        have hev := he.all (Nat.le_of_eq HL.out); have haa := ha.all (by rw [HL.out]; omega); have HEV := Lib.hid hev; have HAA := Lib.hid haa; clear hev haa he ha; go_wp2_with fail; obtain ⟨wo, rfl⟩ : ∃ wo : World, wo = wr := ⟨_, rfl⟩; have HB := Lib.hid hb; clear hb p0 p1 hbw
        go_loopw [4] (fun v4 wr => ∃ (k : Nat), (k : Int) ≤ now + 1 ∧ v4 = .int .i64 k ∧ FewTo l k ∧ Below (w.heap.size + 1) w1 wr) (fun v4 _ => 41 - (intOf v4).toNat)
        case atStart => exact ⟨0, by omega, rfl, FewTo.zero _, HB.out⟩
        case round =>
          obtain ⟨k, hk, rfl, hf, hb⟩ := hrel; obtain ⟨⟨p0, p1⟩, hbw, hsz'⟩ := HC.out _ hb
          by_cases hkn : (k : Int) ≤ now
          · have hln := at_len l (k : Int); rw [HL.out] at hln; have HAL := Lib.hid (at_seen l (k : Int)); go_wp2_with fail; refine (specAt now A i c l (k : Int) _ (HR.out.on hbw) (by omega)).mono ?_; rintro e W2 ⟨v, rfl, ho, hbW⟩
            obtain ⟨av, cv, rfl⟩ : ∃ a c, v = .slice a (atL l k).length c := by
              obtain ⟨a, c, h, _⟩ := ho.form; exact ⟨a, c, h⟩
            have hb2 := hb.trans (hbW.mono (by omega)); have hbw2 := bel_trans hbw hbW
            by_cases hbig : (atL l (k : Int)).length ≤ 10
            · have HS := Lib.hid (hf.step (by rw [← HAL.out]; exact hbig)); generalize (atL l (k : Int)).length = q at *; have hbig' : (q : Int) ≤ 10 := by omega
              go_wp2_with fail; go_roundw
              case rel => exact ⟨k + 1, by omega, by simp, HS.out, hb2⟩
              case measure => simp [intOf]; omega
            · have HF := Lib.hid (versOk_few (now := now) (l := l) (not_few hkn (by rw [← HAL.out]; omega))); generalize (atL l (k : Int)).length = q at *; have hbig' : (10 : Int) < (q : Int) := by omega
              go_wp2_with fail; go_ret
              exact ⟨retBool HF.out.symm, hbw2⟩
          · have HF := Lib.hid (versOk_true (now := now) (l := l) ⟨HD.out, HEV.out, HAA.out, hf.all (by omega)⟩); have hkn' : now < (k : Int) := by omega
            go_wp2_with fail; go_ret
            exact ⟨retBool HF.out.symm, hbw⟩
  · have HF := Lib.hid (versOk_head (now := now) (l := l) (by rw [HL.out]; exact hd)); go_enter Try.func95, Try.ntmps95; go_wp2
    all_goals first
      | (go_ret; exact ⟨retBool HF.out.symm, b0⟩)
      | (exfalso; omega)
end Go.Proofs.Ytpmeaikiaoojkaa
namespace Go.Proofs.Ytpmeaikiaoojkaa
open Go.RowKit Go.Shelf
attribute [local go_sem] Oper.semAt_some

theorem grownBy_of_below {w w' : World} (h : Below w.heap.size w w') : w.grownBy w' none := ⟨h.os, h.tape, h.output, h.size, fun k hk _ => h.block k hk⟩
theorem AbidesFrom.below {β : Type} {B : Nat} {J : β → World → Prop} (h : AbidesFrom B J) {s : β} {w w' : World} (hs : J s w) (hb : Below w.heap.size w w') : J s w' :=
  h s w w' none hs (grownBy_of_below hb) (fun r e => by cases e)
/-- what the closure has captured -/
def CaptV (w : World) (g1 g2 : Nat) (A : Option Addr) (n c : Nat) (t : Int) : Prop :=
  w.cell? ⟨g1, 1, none⟩ = some (.slice A n c) ∧ w.cell? ⟨g2, 0, none⟩ = some (.int .i64 t)
/-- what a round that goes on keeps: what lies below n₀, and the two captured blocks -/
def KpV (n₀ g1 g2 : Nat) (X Y : World) : Prop := Below n₀ X Y ∧ Y.heap[g1]? = X.heap[g1]? ∧ Y.heap[g2]? = X.heap[g2]?
theorem KpV.trans {n₀ g1 g2 : Nat} {X Y Z : World} (h : KpV n₀ g1 g2 X Y) (k : KpV n₀ g1 g2 Y Z) : KpV n₀ g1 g2 X Z := ⟨h.1.trans k.1, k.2.1.trans h.2.1, k.2.2.trans h.2.2⟩
theorem KpV.refl (n₀ g1 g2 : Nat) (X : World) : KpV n₀ g1 g2 X X := ⟨Below.refl _ _, rfl, rfl⟩
theorem KpV.of {n₀ g1 g2 : Nat} {X Y : World} (h : Below X.heap.size X Y) (hn : n₀ ≤ X.heap.size) (h1 : g1 < X.heap.size) (h2 : g2 < X.heap.size) : KpV n₀ g1 g2 X Y := ⟨h.mono hn, h.block _ h1, h.block _ h2⟩
theorem KpV.put {n₀ g1 g2 B l : Nat} {W : World} (o' : Obj) (hn : n₀ ≤ B) (h1 : g1 < B) (h2 : g2 < B) (hB : B ≤ l) {o : Obj} (ho : W.heap[l]? = some o) : KpV n₀ g1 g2 W (W.putObj l o') :=
  ⟨(Below.refl n₀ W).grown (grownBy_putObj' W l o') (by have := (Array.getElem?_eq_some_iff.1 ho).1; omega) (fun k e => by cases e; omega), World.putObj_heap_other (by omega), World.putObj_heap_other (by omega)⟩
theorem cell_heap {X Y : World} {b : Nat} (h : Y.heap[b]? = X.heap[b]?) (k : Nat) : Y.cell? ⟨b, k, none⟩ = X.cell? ⟨b, k, none⟩ := by simp only [World.cell?, h]
theorem CaptV.keep {w w' : World} {n₀ g1 g2 n c : Nat} {A : Option Addr} {t : Int} (h : CaptV w g1 g2 A n c t) (hb : KpV n₀ g1 g2 w w') : CaptV w' g1 g2 A n c t :=
  ⟨(cell_heap hb.2.1 1).trans h.1, (cell_heap hb.2.2 0).trans h.2⟩
end Go.Proofs.Ytpmeaikiaoojkaa
namespace Go.Proofs.Ytpmeaikiaoojkaa
open Go.RowKit Go.Shelf
attribute [local go_sem] Oper.semAt_some

/-! ### the marks that the rounds of an outer loop leave -/
def Marks (B : Nat) (W : World) (ds : List Nat) : Prop := ds.Nodup ∧ ∀ D ∈ ds, B ≤ D ∧ W.heap[D]? = some (.deferred (some []))
theorem Marks.nil (B : Nat) (W : World) : Marks B W [] := ⟨List.nodup_nil, fun _ h => by simp at h⟩
theorem Marks.lt {B : Nat} {W : World} {ds : List Nat} (h : Marks B W ds) {D : Nat} (hD : D ∈ ds) : D < W.heap.size := (Array.getElem?_eq_some_iff.1 (h.2 D hD).2).1
theorem Marks.on {B : Nat} {W W' : World} {ds : List Nat} (h : Marks B W ds) (hb : Below W.heap.size W W') : Marks B W' ds := ⟨h.1, fun D hD => ⟨(h.2 D hD).1, (hb.block D (h.lt hD)).trans (h.2 D hD).2⟩⟩
theorem Marks.cons {B : Nat} {W : World} {ds : List Nat} (h : Marks B W ds) {D : Nat} (hB : B ≤ D) (hD : W.heap[D]? = some (.deferred (some []))) (hne : D ∉ ds) : Marks B W (D :: ds) :=
  ⟨List.nodup_cons.2 ⟨hne, h.1⟩, fun E hE => by
    rcases List.mem_cons.1 hE with rfl | hE
    · exact ⟨hB, hD⟩
    · exact h.2 E hE⟩
theorem Marks.kept {B : Nat} {W W' : World} {ds : List Nat} (h : Marks B W ds) (hk : KeepsOthers W W') : Marks B W' ds := ⟨h.1, fun D hD => ⟨(h.2 D hD).1, hk.same D _ (h.2 D hD).2 rfl⟩⟩
end Go.Proofs.Ytpmeaikiaoojkaa
namespace Go.Proofs.Ytpmeaikiaoojkaa
open Go.RowKit

/-- a box that lay before a row was made -/
theorem Own.after {α : Type} {enc : α → List Value} {sz : Nat} {e : TypeId} {w w0 : World} {n c b k : Nat} {A : Option Addr} {l : List α} {v : Value} (h : Own enc sz e w w0.heap.size (.slice A n c) l) (hc : w0.cell? ⟨b, k, none⟩ = some v) : ∀ x, A = some x → b ≠ x.block :=
  fun _ hx => by have h1 := World.block_lt_of_cell? w0 _ hc; have h2 := (h.block hx).1; simp only at h1; omega
/-- a box that is laid behind a row -/
theorem Own.before {α : Type} {enc : α → List Value} {sz : Nat} {e : TypeId} {w : World} {n c base : Nat} {A : Option Addr} {l : List α} (h : Own enc sz e w base (.slice A n c) l) : ∀ x, A = some x → w.heap.size ≠ x.block :=
  fun _ hx => by have h2 := (h.block hx).2.1; omega
end Go.Proofs.Ytpmeaikiaoojkaa
namespace Go.Proofs.Ytpmeaikiaoojkaa
open Go.RowKit

theorem encVer_one (r : Ver) : ∀ u ∈ encVer r, u.oneCell' = true := by
  intro u hu; simp only [encVer, List.mem_cons, List.not_mem_nil, or_false] at hu
  rcases hu with rfl | rfl | rfl | rfl <;> rfl
/-- to be forgotten -/
def dropV (t : Int) (x : Ver) : Bool := decide (x.2.2.2 ≠ 0) && decide (x.2.2.2 ≤ t)
def keepV (t : Int) (x : Ver) : Bool := !dropV t x
def trimL (l : List Ver) (t : Int) : List Ver := l.filter (keepV t)
theorem trimL_len (l : List Ver) (t : Int) : (trimL l t).length ≤ l.length := List.length_filter_le _ _
def AllKept (l : List Ver) (t : Int) (k : Nat) : Prop := ∀ (i : Nat) (x : Ver), i < k → l[i]? = some x → dropV t x = false
theorem AllKept.zero (l : List Ver) (t : Int) : AllKept l t 0 := fun _ _ h => absurd h (by omega)
theorem AllKept.step {l : List Ver} {t : Int} {k : Nat} {x : Ver} (h : AllKept l t k) (hx : l[k]? = some x) (hd : dropV t x = false) : AllKept l t (k + 1) := by
  intro i y hi hy
  by_cases hik : i < k
  · exact h i y hik hy
  · obtain rfl : i = k := by omega
    rw [hx] at hy; cases hy; exact hd
theorem AllKept.take {l : List Ver} {t : Int} {k : Nat} (h : AllKept l t k) : (l.take k).filter (keepV t) = l.take k := by
  rw [List.filter_eq_self]; intro x hx; obtain ⟨i, hi⟩ := List.mem_iff_getElem?.1 hx; have hik : i < k := by have := (List.getElem?_eq_some_iff.1 hi).1; rw [List.length_take] at this; omega
  rw [List.getElem?_take, if_pos hik] at hi; simp [keepV, h i x hik hi]
theorem AllKept.all {l : List Ver} {t : Int} {k : Nat} (h : AllKept l t k) (hk : l.length ≤ k) : trimL l t = l := by
  have := h.take
  rwa [List.take_of_length_le hk] at this
theorem kept_in {l : List Ver} {t : Int} {i : Nat} {x : Ver} (h : l[i]? = some x) (hp : dropV t x = false) : trimL (l.take (i + 1)) t = trimL (l.take i) t ++ [x] := by
  obtain ⟨hk, rfl⟩ := List.getElem?_eq_some_iff.1 h
  unfold trimL
  rw [List.take_succ_eq_append_getElem hk, List.filter_append]; simp [keepV, hp]
theorem kept_out {l : List Ver} {t : Int} {i : Nat} {x : Ver} (h : l[i]? = some x) (hp : dropV t x = true) : trimL (l.take (i + 1)) t = trimL (l.take i) t := by
  obtain ⟨hk, rfl⟩ := List.getElem?_eq_some_iff.1 h
  unfold trimL
  rw [List.take_succ_eq_append_getElem hk, List.filter_append]; simp [keepV, hp]
/-- the row after j elements were looked at, i of them kept in front -/
def DelRow (l : List Ver) (t : Int) (j i : Nat) (q : List Ver) : Prop := q.length = l.length ∧ i < j ∧ j ≤ l.length ∧ q.take i = trimL (l.take j) t ∧ q.drop j = l.drop j
theorem DelRow.start {l : List Ver} {t : Int} {i : Nat} {x : Ver} (h : AllKept l t i) (hx : l[i]? = some x) (hd : dropV t x = true) : DelRow l t (i + 1) i l :=
  ⟨rfl, by omega, (List.getElem?_eq_some_iff.1 hx).1, by rw [kept_out hx hd]; exact h.take.symm, rfl⟩
theorem DelRow.len {l q : List Ver} {t : Int} {j i : Nat} (h : DelRow l t j i q) : (trimL (l.take j) t).length = i := by
  rw [← h.2.2.2.1, List.length_take]; have := h.1; have := h.2.1; have := h.2.2.1; omega
theorem DelRow.at_ {l q : List Ver} {t : Int} {j i : Nat} (h : DelRow l t j i q) : q[j]? = l[j]? := by
  have h1 := congrArg (fun m : List Ver => m[0]?) h.2.2.2.2
  simpa using h1
theorem DelRow.out {l q : List Ver} {t : Int} {j i : Nat} {x : Ver} (h : DelRow l t j i q) (hx : l[j]? = some x) (hd : dropV t x = true) : DelRow l t (j + 1) i q :=
  ⟨h.1, by have := h.2.1; omega, (List.getElem?_eq_some_iff.1 hx).1, by rw [kept_out hx hd]; exact h.2.2.2.1, by
    have h1 := congrArg (List.drop 1) h.2.2.2.2
    simpa [List.drop_drop, Nat.add_comm] using h1⟩
/-- a prefix of an owned row -/
theorem Own.front {α : Type} {enc : α → List Value} {sz : Nat} {e : TypeId} {w : World} {base g n c k : Nat} {l : List α} (hs : ∀ x, (enc x).length = sz) (h : Own enc sz e w base (.slice (some ⟨g, 0, none⟩) n c) l) (hk : k ≤ n) : Own enc sz e w base (.slice (some ⟨g, 0, none⟩) k c) (l.take k) := by
  have hn := h.len; refine ⟨cellsOf_length hs _, ?_⟩
  rcases h.2 with ⟨h1, _⟩ | ⟨g', cap, cur, h1, h2, h3, h4, h5, h6, h7⟩
  · injection h1 with h1; cases h1
  · injection h1 with e1 e2 e3
    injection e1 with e1
    injection e1 with e1
    subst e1; subst e3; refine .inr ⟨g, c, cur, by rw [List.length_take, Nat.min_eq_left (by omega)], h2, h3, by rw [List.length_take]; omega, h5, h6, ?_⟩; rw [List.length_take, Nat.min_eq_left (by omega), cellsOf_take hs, ← h7, List.take_take, Nat.min_eq_left (Nat.mul_le_mul_right _ (by omega))]
end Go.Proofs.Ytpmeaikiaoojkaa
namespace Go.Proofs.Ytpmeaikiaoojkaa
open Go.RowKit

/-- a history in new memory -/
def VersPost (w : World) (now : Int) (l : List Ver) (e : Ending) (w' : World) : Prop := ∃ A c, e = .returned (.agg #[.int .i64 now, .slice A l.length c]) ∧ Own encVer 4 131 w' w.heap.size (.slice A l.length c) l ∧ Below w.heap.size w w'
end Go.Proofs.Ytpmeaikiaoojkaa
namespace Go.Proofs.Ytpmeaikiaoojkaa
open Go.RowKit

noncomputable def trimNow (now : Int) (l : List Ver) : Int := if versOk now l = true then now else 0
noncomputable def trimRes (now : Int) (l : List Ver) (t : Int) : List Ver := if versOk now l = true then trimL l t else []
theorem trim_bad {now : Int} {l : List Ver} {t : Int} (h : versOk now l = false) : trimNow now l = 0 ∧ trimRes now l t = [] := by simp [trimNow, trimRes, h]
theorem trim_ok {now : Int} {l : List Ver} {t : Int} (h : versOk now l = true) : trimNow now l = now ∧ trimRes now l t = trimL l t := by simp [trimNow, trimRes, h]
end Go.Proofs.Ytpmeaikiaoojkaa
namespace Go.Proofs.Ytpmeaikiaoojkaa
open Go.RowKit

/-- a row of one's own, cut short in place -/
theorem Own.shrink {α : Type} {enc : α → List Value} {sz : Nat} {e : TypeId} {w : World} {base n c k : Nat} {A : Option Addr} {l : List α} (hs : ∀ x, (enc x).length = sz) (h : Own enc sz e w base (.slice A n c) l) (hk : k ≤ n) :
    Own enc sz e w base (.slice A k c) (l.take k) := by
  have hn := h.len; have hl : (l.take k).length = k := by rw [List.length_take]; omega
  refine ⟨by rw [cellsOf_length hs], ?_⟩
  rcases h.2 with ⟨h1, h2⟩ | ⟨g, cap, cur, h1, hb, hh, hc, hm, hsz, ht⟩
  · refine .inl ⟨?_, by rw [hl]; omega⟩
    injection h1 with h3 h4 h5
    rw [h3, h5, show k = 0 by omega]
  · refine .inr ⟨g, cap, cur, ?_, hb, hh, by rw [hl]; omega, hm, hsz, ?_⟩
    · injection h1 with h3 h4 h5
      rw [h3, h5, hl]
    · rw [hl, cellsOf_take hs, ← ht, List.take_take, hn]
      congr 1
      have : k * sz ≤ n * sz := Nat.mul_le_mul_right _ hk
      omega
theorem BoxC.keptO {W W' : World} {B : Nat} {t e : TypeId} {cs : Array Value} (h : BoxC W B t cs) (k : Lib.OthersKept e none W W') (he : t ≠ e) : BoxC W' B t cs :=
  k B _ h (by simp) (fun c fz eq => by cases eq; exact he rfl)
theorem keptO_set {α : Type} {enc : α → List Value} {sz : Nat} {e : TypeId} {W : World} {base n c g o : Nat} {l : List α} (h : Own enc sz e W base (.slice (some ⟨g, 0, none⟩) n c) l) (u : Value) : Lib.OthersKept e none W (W.setCell ⟨g, o, none⟩ u) := by
  intro k x hk _ hx
  have hne : k ≠ g := by
    rintro rfl
    rcases h.2 with ⟨h1, _⟩ | ⟨g', cap, cur, h1, _, hh, _⟩
    · injection h1 with h1; cases h1
    · injection h1 with h1; injection h1 with h1; injection h1 with h1
      subst h1; rw [hk] at hh; exact hx cur (0, 0) (Option.some.inj hh)
  rw [Below.heap_setCell _ _ _ _ hne]; exact hk
theorem keptO_grown {α : Type} {enc : α → List Value} {sz : Nat} {e : TypeId} {W W' : World} {base n c : Nat} {A : Option Addr} {l : List α} (h : Own enc sz e W base (.slice A n c) l) (hg : W.grownBy W' (Value.slice A n c).ownBlock) : Lib.OthersKept e none W W' := by
  refine (Lib.OthersKept.refl e none W).grown hg fun g hgr => ?_
  rcases h.2 with ⟨h1, _⟩ | ⟨g', cap, cur, h1, _, hh, _⟩
  · rw [h1] at hgr; simp [Value.ownBlock] at hgr
  · rw [h1] at hgr; simp only [Value.ownBlock, Option.some.injEq] at hgr
    subst hgr; exact ⟨cur, (0, 0), hh⟩

set_option maxHeartbeats 2000000 in
set_option maxRecDepth 100000 in
theorem l2Copy (now : Int) (A : Option Addr) (n c : Nat) (l : List Ver) (w : World) (hr : Sl encVer w w.heap.size A n l) (hn : n ≤ 1048576) :
    Calls Try.prog 76 #[.agg #[.int .i64 now, .slice A n c]] w (VersPost w now l) := by
  obtain ⟨i0, hi0, hz0, hz1, hz2⟩ := info_parts info77; have HL := Lib.hid hr.len; have b0 := bel_alloc (bel_alloc (Below.refl _ w) (.cells #[.int .i64 now, .slice A n c] 87)) (.cells #[.int .i64 0, .slice none 0 0] 87); have x1 := ((BoxC.new w 87 #[.int .i64 now, .slice A n c]).alloc (.cells #[.int .i64 0, .slice none 0 0] 87)).alloc (.cells #[] 131); have x2 := (BoxC.new (w.alloc (.cells #[.int .i64 now, .slice A n c] 87)) 87 #[.int .i64 0, .slice none 0 0]).alloc (.cells #[] 131); have ho := Own.drew (Own.made0 (enc := encVer) (sz := 4) (e := 131) ((w.alloc (.cells #[.int .i64 now, .slice A n c] 87)).alloc (.cells #[.int .i64 0, .slice none 0 0] 87)) (Nat.le_refl _)); simp only [World.size_alloc] at x2 ho
  have b1 := (bel_alloc b0 (.cells #[] 131)).drew; have hl2 : Sl encVer (((w.alloc (.cells #[.int .i64 now, .slice A n c] 87)).alloc (.cells #[.int .i64 0, .slice none 0 0] 87)).alloc (.cells #[] 131)).drew w.heap.size A n l := hr.keep b1; have HSa := Lib.hid (show ([] : List Ver).length + n ≤ maxLen by unfold maxLen; simp; omega); have HSb := Lib.hid (show (([] : List Ver).length + n) * 40 ≤ 140737488355328 by simp; omega); have X1 := Lib.hid x1.drew; have X2 := Lib.hid x2.drew; obtain ⟨p0, p1⟩ := x1.k2; obtain ⟨s0, s1⟩ := x2.k2; clear hr hn; go_enter Try.func76, Try.ntmps76; go_wp2_with fail
  go_region_law (refine step_append_sl _ (by rfl) (.tmp 5) (.tmp 7) 85 (by rfl) (w.heap.size + 1 + 1) 131 i0 _ 4 40 Try.underlying85 hi0 hz0 hz1 hz2 rfl (by decide) encVer_len encVer_one (.slice (some ⟨w.heap.size + 1 + 1, 0, none⟩) 0 0) [] (by rfl) ho _ A n c l (by rfl) hl2 HSa.out HSb.out (by simp) ?_; intro v6 w6 o6 g6; obtain ⟨A6, c6, rfl, -, -⟩ := o6.form; have x6 := X2.out.appended (by decide) ho g6; have f60 := x6.f 0; have f61 := x6.f 1; obtain ⟨s60, s61⟩ := x6.k2; have y6 := X1.out.appended (by decide) ho g6; obtain ⟨q60, q61⟩ := y6.k2)
  all_goals
    simp only [List.nil_append] at o6
    have O5 := Lib.hid (((o6.box x6 (by decide) (k := 0) (v := .int .i64 now)).box (x6.set 0 (.int .i64 now)) (by decide) (k := 1) (v := .slice A6 l.length c6)).lower (base' := w.heap.size) (by omega)); have B5 := Lib.hid (bel_set (bel_set (bel_grown b1 g6 (fun k hk => by have := (World.ownsRow.lt ho k hk).1; omega)) (p := ⟨w.heap.size + 1, 0, none⟩) (by simp only; omega) (.int .i64 now)) (p := ⟨w.heap.size + 1, 1, none⟩) (by simp only; omega) (.slice A6 l.length c6)); have z0 := Lib.hid ((((x6.set 0 (.int .i64 now)).set 1 (.slice A6 l.length c6))).c (k := 0) rfl); have z1 := Lib.hid ((((x6.set 0 (.int .i64 now)).set 1 (.slice A6 l.length c6))).c (k := 1) rfl); clear x6 y6 o6 g6; go_wp2_with fail; exact bodyPost_ret (v := .agg #[.int .i64 now, .slice A6 l.length c6]) (by simp [results, Try.results76, go_sem, z0.out, z1.out]) rfl ⟨A6, c6, rfl, O5.out, B5.out⟩
end Go.Proofs.Ytpmeaikiaoojkaa
