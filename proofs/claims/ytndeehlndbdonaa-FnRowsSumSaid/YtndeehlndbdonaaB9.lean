/- Contracts: copies of rows, a row put, RowsPut of the program and of the reference. -/
import Derived.Test.YtndeehlndbdonaaB6
import Derived.Test.YtndeehlndbdonaaK3
namespace Go.Proofs.Ytndeehlndbdonaa
open Go.RowKit

theorem encRow_one (r : Row) : ∀ u ∈ encRow r, u.oneCell' = true := by
  intro u hu
  simp only [encRow, List.mem_cons, List.not_mem_nil, or_false] at hu
  rcases hu with rfl | rfl <;> rfl
def OwnPost (w : World) (l : List Row) (e : Ending) (w' : World) : Prop :=
  ∃ v, e = .returned v ∧ Own encRow 2 46 w' w.heap.size v l ∧ Below w.heap.size w w'
set_option maxHeartbeats 1000000 in
theorem l1Copy (A : Option Addr) (n c : Nat) (l : List Row) (w : World) (hr : Sl encRow w w.heap.size A n l) (hn : n ≤ 2097152) :
    Calls Try.prog 69 #[.slice A n c] w (OwnPost w l) := by
  obtain ⟨i0, hi, hz0, hz1, hz2⟩ := info_parts info46
  have hm := Own.made0 (enc := encRow) (sz := 2) (e := 46) w (Nat.le_refl w.heap.size)
  have hr2 := (hr.on (bel_alloc (Below.refl _ w) (.cells #[] 46)))
  have hb1 : ((0 + n) * 24 ≤ 140737488355328) := by omega
  have HB := Lib.hid hb1
  have HM := Lib.hid (show 0 + n ≤ maxLen by unfold maxLen; omega)
  clear hb1 hn
  go_enter Try.func69, Try.ntmps69
  go_wp2_with (at_builtin; refine wpList_append_sl _ rfl _ _ 26 rfl w.heap.size 46 i0 _ 2 24 Try.underlying26 hi hz0 hz1 hz2 rfl (by decide) encRow_len encRow_one _ [] rfl hm _ A n c l rfl hr2 HM.out HB.out (by simp) ?_)
  intro v2 w3 hown3 hg3
  go_wp2
  go_ret
  exact ⟨_, rfl, by simpa using hown3, bel_grown (bel_alloc (Below.refl _ w) _) hg3 (fun k hk => (World.ownsRow.lt hm k hk).1)⟩

set_option maxHeartbeats 1000000 in
set_option maxRecDepth 100000 in
theorem clone (A : Option Addr) (n c : Nat) (l : List Row) (w : World) (hr : Sl encRow w w.heap.size A n l) (hn : n ≤ 2097152) :
    Calls Try.prog 71 #[.slice A n c] w (OwnPost w l) := by
  rcases A with _ | ad
  · have hl : l = [] := by
      rcases Nat.eq_zero_or_pos n with h | h
      · subst h; exact hr.nil_of
      · obtain ⟨b, off, h1, _⟩ := hr.spot h; cases h1
    subst hl
    clear hr hn
    have hq : ∀ W : World, (binOp .eql 26 (.slice none n c) (.slice none 0 0)).run Try.prog W = .ok (.bool true) W := fun W => Lib.run_eql_slice_nil W 26 46 none n c 0 0 Try.underlying26
    go_enter Try.func71, Try.ntmps71
    go_wp2
    go_ret
    exact ⟨_, rfl, Own.nil _ _, Below.refl _ _⟩
  · have hq : ∀ W : World, (binOp .eql 26 (.slice (some ad) n c) (.slice none 0 0)).run Try.prog W = .ok (.bool false) W := fun W => Lib.run_eql_slice_nil W 26 46 (some ad) n c 0 0 Try.underlying26
    obtain ⟨i0, hi, hz0, hz1, hz2⟩ := info_parts info46
    have hm := Own.made0 (enc := encRow) (sz := 2) (e := 46) w (Nat.le_refl w.heap.size)
    have hr2 := (hr.on (bel_alloc (Below.refl _ w) (.cells #[] 46)))
    have HB := Lib.hid (show (0 + n) * 24 ≤ 140737488355328 by omega)
    have HM := Lib.hid (show 0 + n ≤ maxLen by unfold maxLen; omega)
    clear hn
    go_enter Try.func71, Try.ntmps71
    go_wp2_with (at_builtin; refine wpList_append_sl _ rfl _ _ 26 rfl w.heap.size 46 i0 _ 2 24 Try.underlying26 hi hz0 hz1 hz2 rfl (by decide) encRow_len encRow_one _ [] rfl hm _ (some ad) n c l rfl hr2 HM.out HB.out (by simp) ?_)
    intro v2 w3 hown3 hg3
    go_wp2
    go_ret
    exact ⟨_, rfl, by simpa using hown3, bel_grown (bel_alloc (Below.refl _ w) _) hg3 (fun k hk => (World.ownsRow.lt hm k hk).1)⟩

/-! ### one row stored -/
def putL (l : List Row) (key : ByteArray) (num : Int) : List Row :=
  l.take (fnd l key) ++ [(key, num)] ++ l.drop (if hit l key = true then fnd l key + 1 else fnd l key)
theorem madeRows_size (c : Nat) : (madeRows c).size = c * 2 := size_madeCells _ _
theorem putL_hit {l : List Row} {key : ByteArray} {num : Int} {f : Nat} (hf : fnd l key = f) (h : hit l key = true) : putL l key num = l.take f ++ [(key, num)] ++ l.drop (f + 1) := by simp [putL, h, hf]
theorem putL_miss {l : List Row} {key : ByteArray} {num : Int} {f : Nat} (hf : fnd l key = f) (h : hit l key = false) : putL l key num = l.take f ++ [(key, num)] ++ l.drop f := by simp [putL, h, hf]
theorem cell_new2 (w : World) (u v : Value) (t : TypeId) : (w.alloc (.cells #[u, v] t)).cell? ⟨w.heap.size, 0, none⟩ = some u ∧ (w.alloc (.cells #[u, v] t)).cell? ⟨w.heap.size, 1, none⟩ = some v := by
  constructor
  · rw [cell_of_row _ w.heap.size 0 #[u, v] t (0, 0) (heap_alloc_new w _)]; rfl
  · rw [cell_of_row _ w.heap.size 1 #[u, v] t (0, 0) (heap_alloc_new w _)]; rfl
theorem make46' (n : Nat) (h : n ≤ 1048576) (W : World) : (Instr.makeSlice 26 (.int .i64 0) (.int .i64 ((n : Int) + 1))).run Try.prog W = .ok (.slice (some ⟨W.heap.size, 0, none⟩) 0 (n + 1)) (W.alloc (.cells (madeRows (n + 1)) 46)) := by
  have := make46 0 (n + 1) (by omega) (by omega) W
  simpa using this

set_option maxHeartbeats 2000000 in
set_option maxRecDepth 100000 in
theorem storedMiss (b off n c : Nat) (l : List Row) (key : ByteArray) (num : Int) (w : World) (hr : Sl encRow w w.heap.size (some ⟨b, off, none⟩) n l) (ha : AscP l) (hn : n ≤ 1048576) (hnc : n ≤ c) (hh : hit l key = false) :
    Calls Try.prog 70 #[.slice (some ⟨b, off, none⟩) n c, .agg #[.string key, .int .i64 num], .func (.func 58) #[] #[]] w (OwnPost w (putL l key num)) := by
  obtain ⟨i0, hi, hz0, hz1, hz2⟩ := info_parts info46
  have HL := Lib.hid hr.len
  have hf := fnd_le l key
  rw [HL.out] at hf
  skip
  have hmk := make46' n hn
  have HN := Lib.hid hn
  have hn2 : (n : Int) ≤ 2000000 := by omega
  clear hn
  obtain ⟨f, hfd⟩ : ∃ f, fnd l key = f := ⟨_, rfl⟩
  have HPUT := Lib.hid (putL_miss (num := num) hfd hh)
  rw [hfd] at hf
  have HF := Lib.hid hfd
  have HH := Lib.hid hh
  clear hfd hh
  have tok1 : True := trivial
  have tok2 : True := trivial
  have tok3 : True := trivial
  have b1 := bel_alloc (Below.refl _ w) (.cells #[.string key, .int .i64 num] 46)
  obtain ⟨q1, q2⟩ := cell_new2 w (.string key) (.int .i64 num) 46
  go_enter Try.func70, Try.ntmps70
  go_wp2_with fail
  refine (rowKey key num _).mono ?_
  rintro e w1 ⟨rfl, rfl⟩
  go_wp2_with fail
  refine (place _ n c l key _ (hr.on (bel_alloc b1 _)) ha HN.out).mono ?_
  rintro e w2 ⟨rfl, hb2⟩
  rw [HF.out, HH.out]
  have c2 : Below (w.heap.size + 1) (w.alloc (.cells #[.string key, .int .i64 num] 46)) w2 := by
    have h1 := bel_trans (bel_alloc (Below.refl _ (w.alloc (.cells #[.string key, .int .i64 num] 46))) (.cells #[.string key, .int .i64 num] 46)) hb2
    simpa using h1
  have b2 : Below w.heap.size w w2 := b1.trans (c2.mono (by omega))
  have z2 : w.heap.size + 1 ≤ w2.heap.size := by have := c2.size; simpa using this
  have o2 := Own.madeCap (enc := encRow) (sz := 2) (e := 46) (base := w.heap.size + 1) w2 (madeRows (n + 1)) (n + 1) z2 (by unfold maxLen; omega) (madeRows_size _)
  have r2 := ((hr.keep (bel_alloc b2 (.cells (madeRows (n + 1)) 46))).head (k := f) encRow_len (by omega))
  clear hb2
  go_wp2_with (first
    | (at_builtin; have _t := tok1; clear tok1; refine wpList_append_sl _ rfl _ _ 26 rfl (w.heap.size + 1) 46 i0 _ 2 24 Try.underlying26 hi hz0 hz1 hz2 rfl (by decide) encRow_len encRow_one _ [] rfl o2 _ (some ⟨b, off, none⟩) f c (l.take f) rfl r2 (by unfold maxLen; simp; omega) (by simp; omega) (by simp; omega) ?_; intro v3 w3 o3 g3; clear _t; have c3 : Below (w.heap.size + 1) (w.alloc (.cells #[.string key, .int .i64 num] 46)) w3 := (c2.alloc z2 _).grown g3 (by simp; omega) (fun k hk => (World.ownsRow.lt o2 k hk).1); have f1 := (c3.cell (p := ⟨w.heap.size, 0, none⟩) (by simp)).trans q1; have f2 := (c3.cell (p := ⟨w.heap.size, 1, none⟩) (by simp)).trans q2; have z3 : w.heap.size + 1 ≤ w3.heap.size := (by have := c3.size; simpa using this); clear r2 o2; have r4 := Sl.lit1 (enc := encRow) w3 #[.string key, .int .i64 num] 46 (key, num) rfl; have o3' := Own.alloc o3 (.cells #[.string key, .int .i64 num] 46))
    | (at_builtin; have _t := tok2; clear tok2; refine wpList_append_sl _ rfl _ _ 26 rfl (w.heap.size + 1) 46 i0 _ 2 24 Try.underlying26 hi hz0 hz1 hz2 rfl (by decide) encRow_len encRow_one v3 _ rfl o3' _ (some ⟨w3.heap.size, 0, none⟩) 1 1 [(key, num)] rfl r4 (by unfold maxLen; simp; omega) (by simp; omega) (by simp; omega) ?_; intro v5 w5 o5 g5; clear _t; have c5 : Below (w.heap.size + 1) (w.alloc (.cells #[.string key, .int .i64 num] 46)) w5 := (c3.alloc z3 _).grown g5 (by simp; omega) (fun k hk => (World.ownsRow.lt o3 k hk).1); have b5 : Below w.heap.size w w5 := b1.trans (c5.mono (by omega)); have z5 : w.heap.size + 1 ≤ w5.heap.size := (by have := c5.size; simpa using this); have hr5 : Sl encRow w5 w.heap.size (if c = f then some ⟨b, off, none⟩ else some ⟨b, off + f * 2, none⟩) (n - f) (l.drop f) := (hr.keep (by exact b5)).rest encRow_len hf hnc; clear r4 o3' f1 f2)
    | (at_builtin; have _t := tok3; clear tok3; refine wpList_append_sl _ rfl _ _ 26 rfl (w.heap.size + 1) 46 i0 _ 2 24 Try.underlying26 hi hz0 hz1 hz2 rfl (by decide) encRow_len encRow_one v5 _ rfl o5 _ (if c = f then some ⟨b, off, none⟩ else some ⟨b, off + f * 2, none⟩) (n - f) (c - f) (l.drop f) rfl hr5 (by unfold maxLen; simp; omega) (by simp; omega) z5 ?_; intro v6 w6 o6 g6; clear _t))
  all_goals
    go_ret
    refine ⟨_, rfl, ?_, b1.trans ((c5.grown g6 z5 (fun k hk => (World.ownsRow.lt o5 k hk).1)).mono (by omega))⟩
    have o7 := o6.lower (base' := w.heap.size) (by omega)
    rw [HPUT.out]
    simpa using o7

set_option maxHeartbeats 2000000 in
set_option maxRecDepth 100000 in
theorem storedHit (b off n c : Nat) (l : List Row) (key : ByteArray) (num : Int) (w : World) (hr : Sl encRow w w.heap.size (some ⟨b, off, none⟩) n l) (ha : AscP l) (hn : n ≤ 1048576) (hnc : n ≤ c) (hh : hit l key = true) :
    Calls Try.prog 70 #[.slice (some ⟨b, off, none⟩) n c, .agg #[.string key, .int .i64 num], .func (.func 58) #[] #[]] w (OwnPost w (putL l key num)) := by
  obtain ⟨i0, hi, hz0, hz1, hz2⟩ := info_parts info46
  have HL := Lib.hid hr.len
  have hf := fnd_le l key
  rw [HL.out] at hf
  have hlt := hit_lt hh; rw [HL.out] at hlt
  have hmk := make46' n hn
  have HN := Lib.hid hn
  have hn2 : (n : Int) ≤ 2000000 := by omega
  clear hn
  obtain ⟨f, hfd⟩ : ∃ f, fnd l key = f := ⟨_, rfl⟩
  have HPUT := Lib.hid (putL_hit (num := num) hfd hh)
  rw [hfd] at hf hlt
  have HF := Lib.hid hfd
  have HH := Lib.hid hh
  clear hfd hh
  have tok1 : True := trivial
  have tok2 : True := trivial
  have tok3 : True := trivial
  have b1 := bel_alloc (Below.refl _ w) (.cells #[.string key, .int .i64 num] 46)
  obtain ⟨q1, q2⟩ := cell_new2 w (.string key) (.int .i64 num) 46
  go_enter Try.func70, Try.ntmps70
  go_wp2_with fail
  refine (rowKey key num _).mono ?_
  rintro e w1 ⟨rfl, rfl⟩
  go_wp2_with fail
  refine (place _ n c l key _ (hr.on (bel_alloc b1 _)) ha HN.out).mono ?_
  rintro e w2 ⟨rfl, hb2⟩
  rw [HF.out, HH.out]
  have c2 : Below (w.heap.size + 1) (w.alloc (.cells #[.string key, .int .i64 num] 46)) w2 := by
    have h1 := bel_trans (bel_alloc (Below.refl _ (w.alloc (.cells #[.string key, .int .i64 num] 46))) (.cells #[.string key, .int .i64 num] 46)) hb2
    simpa using h1
  have b2 : Below w.heap.size w w2 := b1.trans (c2.mono (by omega))
  have z2 : w.heap.size + 1 ≤ w2.heap.size := by have := c2.size; simpa using this
  have o2 := Own.madeCap (enc := encRow) (sz := 2) (e := 46) (base := w.heap.size + 1) w2 (madeRows (n + 1)) (n + 1) z2 (by unfold maxLen; omega) (madeRows_size _)
  have r2 := ((hr.keep (bel_alloc b2 (.cells (madeRows (n + 1)) 46))).head (k := f) encRow_len (by omega))
  clear hb2
  go_wp2_with (first
    | (at_builtin; have _t := tok1; clear tok1; refine wpList_append_sl _ rfl _ _ 26 rfl (w.heap.size + 1) 46 i0 _ 2 24 Try.underlying26 hi hz0 hz1 hz2 rfl (by decide) encRow_len encRow_one _ [] rfl o2 _ (some ⟨b, off, none⟩) f c (l.take f) rfl r2 (by unfold maxLen; simp; omega) (by simp; omega) (by simp; omega) ?_; intro v3 w3 o3 g3; clear _t; have c3 : Below (w.heap.size + 1) (w.alloc (.cells #[.string key, .int .i64 num] 46)) w3 := (c2.alloc z2 _).grown g3 (by simp; omega) (fun k hk => (World.ownsRow.lt o2 k hk).1); have f1 := (c3.cell (p := ⟨w.heap.size, 0, none⟩) (by simp)).trans q1; have f2 := (c3.cell (p := ⟨w.heap.size, 1, none⟩) (by simp)).trans q2; have z3 : w.heap.size + 1 ≤ w3.heap.size := (by have := c3.size; simpa using this); clear r2 o2; have r4 := Sl.lit1 (enc := encRow) w3 #[.string key, .int .i64 num] 46 (key, num) rfl; have o3' := Own.alloc o3 (.cells #[.string key, .int .i64 num] 46))
    | (at_builtin; have _t := tok2; clear tok2; refine wpList_append_sl _ rfl _ _ 26 rfl (w.heap.size + 1) 46 i0 _ 2 24 Try.underlying26 hi hz0 hz1 hz2 rfl (by decide) encRow_len encRow_one v3 _ rfl o3' _ (some ⟨w3.heap.size, 0, none⟩) 1 1 [(key, num)] rfl r4 (by unfold maxLen; simp; omega) (by simp; omega) (by simp; omega) ?_; intro v5 w5 o5 g5; clear _t; have c5 : Below (w.heap.size + 1) (w.alloc (.cells #[.string key, .int .i64 num] 46)) w5 := (c3.alloc z3 _).grown g5 (by simp; omega) (fun k hk => (World.ownsRow.lt o3 k hk).1); have b5 : Below w.heap.size w w5 := b1.trans (c5.mono (by omega)); have z5 : w.heap.size + 1 ≤ w5.heap.size := (by have := c5.size; simpa using this); have hr5 : Sl encRow w5 w.heap.size (if c = f + 1 then some ⟨b, off, none⟩ else some ⟨b, off + (f + 1) * 2, none⟩) (n - (f + 1)) (l.drop (f + 1)) := (hr.keep (by exact b5)).rest encRow_len (by omega) hnc; clear r4 o3' f1 f2)
    | (at_builtin; have _t := tok3; clear tok3; refine wpList_append_sl _ rfl _ _ 26 rfl (w.heap.size + 1) 46 i0 _ 2 24 Try.underlying26 hi hz0 hz1 hz2 rfl (by decide) encRow_len encRow_one v5 _ rfl o5 _ (if c = f + 1 then some ⟨b, off, none⟩ else some ⟨b, off + (f + 1) * 2, none⟩) (n - (f + 1)) (c - (f + 1)) (l.drop (f + 1)) rfl hr5 (by unfold maxLen; simp; omega) (by simp; omega) z5 ?_; intro v6 w6 o6 g6; clear _t))
  all_goals
    go_ret
    refine ⟨_, rfl, ?_, b1.trans ((c5.grown g6 z5 (fun k hk => (World.ownsRow.lt o5 k hk).1)).mono (by omega))⟩
    have o7 := o6.lower (base' := w.heap.size) (by omega)
    rw [HPUT.out]
    simpa using o7
end Go.Proofs.Ytndeehlndbdonaa
