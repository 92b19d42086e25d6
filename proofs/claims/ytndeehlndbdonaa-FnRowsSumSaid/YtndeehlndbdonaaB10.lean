/- Contracts: RowsPut of the program and of the reference. -/
import Derived.Test.YtndeehlndbdonaaB9
namespace Go.Proofs.Ytndeehlndbdonaa
open Go.RowKit

/-- a slice value with an address, or the nil slice -/
def Fine (A : Option Addr) (n c : Nat) : Prop := n ≤ c ∧ ((∃ b off, A = some ⟨b, off, none⟩) ∨ (A = none ∧ n = 0 ∧ c = 0))
theorem Own.fine {α : Type} {enc : α → List Value} {sz : Nat} {e : TypeId} {w : World} {base n c : Nat} {A : Option Addr} {l : List α} (h : Own enc sz e w base (.slice A n c) l) : Fine A n c := by
  obtain ⟨A', c', hv, h1, h2⟩ := h.form
  injection hv with e1 e2 e3
  subst e1; subst e2; subst e3
  refine ⟨h1, ?_⟩
  rcases h.2 with ⟨h3, h4⟩ | ⟨g, cap, cur, h3, _⟩
  · injection h3 with e1 e2 e3
    exact .inr ⟨e1, h4, e3⟩
  · injection h3 with e1 e2 e3
    exact .inl ⟨g, 0, e1⟩
set_option maxHeartbeats 2000000 in
set_option maxRecDepth 100000 in
theorem storedNil (key : ByteArray) (num : Int) (w : World) :
    Calls Try.prog 70 #[.slice none 0 0, .agg #[.string key, .int .i64 num], .func (.func 58) #[] #[]] w (OwnPost w (putL [] key num)) := by
  obtain ⟨i0, hi, hz0, hz1, hz2⟩ := info_parts info46
  have hmk : ∀ W : World, (Instr.makeSlice 26 (.int .i64 0) (.int .i64 1)).run Try.prog W = .ok (.slice (some ⟨W.heap.size, 0, none⟩) 0 1) (W.alloc (.cells (madeRows 1) 46)) := fun W => by simpa using make46 0 1 (by omega) (by omega) W
  have HPUT := Lib.hid (show putL [] key num = [(key, num)] from rfl)
  have tok1 : True := trivial
  have tok2 : True := trivial
  have tok3 : True := trivial
  have b1 := bel_alloc (Below.refl _ w) (.cells #[.string key, .int .i64 num] 46)
  obtain ⟨q1, q2⟩ := cell_new2 w (.string key) (.int .i64 num) 46
  go_enter Try.func70, Try.ntmps70
  go_wp2_with fail
  refine (rowKey key num _).mono ?_
  rintro e w1 ⟨rfl, rfl⟩
  go_wp2_with fail
  refine (place none 0 0 [] key _ (Sl.nil _ _ _ _) (fun i a b h => by simp at h) (by omega)).mono ?_
  rintro e w2 ⟨rfl, hb2⟩
  rw [show fnd [] key = 0 from rfl, show hit [] key = false from rfl]
  have c2 : Below (w.heap.size + 1) (w.alloc (.cells #[.string key, .int .i64 num] 46)) w2 := by
    have h1 := bel_trans (bel_alloc (Below.refl _ (w.alloc (.cells #[.string key, .int .i64 num] 46))) (.cells #[.string key, .int .i64 num] 46)) hb2
    simpa using h1
  have b2 : Below w.heap.size w w2 := b1.trans (c2.mono (by omega))
  have z2 : w.heap.size + 1 ≤ w2.heap.size := by have := c2.size; simpa using this
  have o2 := Own.madeCap (enc := encRow) (sz := 2) (e := 46) (base := w.heap.size + 1) w2 (madeRows 1) 1 z2 (by unfold maxLen; omega) (madeRows_size _)
  clear hb2
  go_wp2_with (first
    | (at_builtin; have _t := tok1; clear tok1; refine wpList_append_sl _ rfl _ _ 26 rfl (w.heap.size + 1) 46 i0 _ 2 24 Try.underlying26 hi hz0 hz1 hz2 rfl (by decide) encRow_len encRow_one _ [] rfl o2 0 none 0 0 [] rfl (Sl.nil _ _ _ _) (by unfold maxLen; simp) (by simp) (by simp; omega) ?_; intro v3 w3 o3 g3; clear _t; have c3 : Below (w.heap.size + 1) (w.alloc (.cells #[.string key, .int .i64 num] 46)) w3 := (c2.alloc z2 _).grown g3 (by simp; omega) (fun k hk => (World.ownsRow.lt o2 k hk).1); have f1 := (c3.cell (p := ⟨w.heap.size, 0, none⟩) (by simp)).trans q1; have f2 := (c3.cell (p := ⟨w.heap.size, 1, none⟩) (by simp)).trans q2; have z3 : w.heap.size + 1 ≤ w3.heap.size := (by have := c3.size; simpa using this); clear o2; have r4 := Sl.lit1 (enc := encRow) w3 #[.string key, .int .i64 num] 46 (key, num) rfl; have o3' := Own.alloc o3 (.cells #[.string key, .int .i64 num] 46))
    | (at_builtin; have _t := tok2; clear tok2; refine wpList_append_sl _ rfl _ _ 26 rfl (w.heap.size + 1) 46 i0 _ 2 24 Try.underlying26 hi hz0 hz1 hz2 rfl (by decide) encRow_len encRow_one v3 _ rfl o3' _ (some ⟨w3.heap.size, 0, none⟩) 1 1 [(key, num)] rfl r4 (by unfold maxLen; simp) (by simp) (by simp; omega) ?_; intro v5 w5 o5 g5; clear _t; have c5 : Below (w.heap.size + 1) (w.alloc (.cells #[.string key, .int .i64 num] 46)) w5 := (c3.alloc z3 _).grown g5 (by simp; omega) (fun k hk => (World.ownsRow.lt o3 k hk).1); have b5 : Below w.heap.size w w5 := b1.trans (c5.mono (by omega)); have z5 : w.heap.size + 1 ≤ w5.heap.size := (by have := c5.size; simpa using this); clear r4 o3' f1 f2)
    | (at_builtin; have _t := tok3; clear tok3; refine wpList_append_sl _ rfl _ _ 26 rfl (w.heap.size + 1) 46 i0 _ 2 24 Try.underlying26 hi hz0 hz1 hz2 rfl (by decide) encRow_len encRow_one v5 _ rfl o5 0 none 0 0 [] rfl (Sl.nil _ _ _ _) (by unfold maxLen; simp) (by simp) z5 ?_; intro v6 w6 o6 g6; clear _t))
  all_goals
    go_ret
    refine ⟨_, rfl, ?_, b1.trans ((c5.grown g6 z5 (fun k hk => (World.ownsRow.lt o5 k hk).1)).mono (by omega))⟩
    have o7 := o6.lower (base' := w.heap.size) (by omega)
    rw [HPUT.out]
    simpa using o7
theorem storedAny (A : Option Addr) (n c : Nat) (l : List Row) (key : ByteArray) (num : Int) (w : World) (hr : Sl encRow w w.heap.size A n l) (ha : AscP l) (hn : n ≤ 1048576) (hA : Fine A n c) :
    Calls Try.prog 70 #[.slice A n c, .agg #[.string key, .int .i64 num], .func (.func 58) #[] #[]] w (OwnPost w (putL l key num)) := by
  rcases hA.2 with ⟨b, off, rfl⟩ | ⟨rfl, rfl, rfl⟩
  · cases hh : hit l key
    · exact storedMiss b off n c l key num w hr ha hn hA.1 hh
    · exact storedHit b off n c l key num w hr ha hn hA.1 hh
  · rw [hr.nil_of]
    exact storedNil key num w

noncomputable def putRes (l : List Row) (key : ByteArray) (num : Int) : List Row × Bool :=
  if rowsOk l = true then (if rowsOk (putL l key num) = true then (putL l key num, true) else (l, false)) else ([], false)
theorem putRes_bad {l : List Row} {key : ByteArray} {num : Int} (h : rowsOk l = false) : putRes l key num = ([], false) := by simp [putRes, h]
theorem putRes_full {l : List Row} {key : ByteArray} {num : Int} (h : rowsOk l = true) (k : rowsOk (putL l key num) = false) : putRes l key num = (l, false) := by simp [putRes, h, k]
theorem putRes_ok {l : List Row} {key : ByteArray} {num : Int} (h : rowsOk l = true) (k : rowsOk (putL l key num) = true) : putRes l key num = (putL l key num, true) := by simp [putRes, h, k]
theorem putL_len (l : List Row) (key : ByteArray) (num : Int) : (putL l key num).length ≤ l.length + 1 := by
  have := fnd_le l key
  unfold putL
  simp only [List.length_append, List.length_take, List.length_drop, List.length_cons, List.length_nil]
  split <;> omega
theorem putL_keys {l : List Row} {key : ByteArray} {num : Int} (h : KeysWf l) (hk : key.size ≤ maxLen) : KeysWf (putL l key num) := by
  intro r hr
  unfold putL at hr
  simp only [List.mem_append, List.mem_cons, List.not_mem_nil, or_false] at hr
  rcases hr with (hr | hr) | hr
  · exact h r (List.mem_of_mem_take hr)
  · rw [hr]; exact hk
  · exact h r (List.mem_of_mem_drop hr)
def PutPost (w : World) (r : List Row × Bool) (e : Ending) (w' : World) : Prop :=
  ∃ v, e = .returned (.tuple #[v, .bool r.2]) ∧ Own encRow 2 46 w' w.heap.size v r.1 ∧ Below w.heap.size w w'
set_option maxHeartbeats 1000000 in
theorem implRowsPut (A : Option Addr) (n c : Nat) (l : List Row) (key : ByteArray) (num : Int) (w : World) (hr : Sl encRow w w.heap.size A n l) (hk : KeysWf l) (hn : n ≤ 1048576) (hA : Fine A n c) (hks : key.size ≤ maxLen) :
    Calls Try.prog 45 #[.slice A n c, .string key, .int .i64 num] w (PutPost w (putRes l key num)) := by
  have HL := Lib.hid hr.len
  have HN := Lib.hid hn
  clear hn
  cases hok : rowsOk l
  · rw [putRes_bad hok]
    have HO := Lib.hid hok
    clear hok
    go_enter Try.func45, Try.ntmps45
    go_wp2_with fail
    refine (implRowsOk A n c l w hr hk HN.out).mono ?_
    rintro e w1 ⟨rfl, hb1⟩
    rw [HO.out]
    go_wp2
    go_ret2
    exact ⟨_, rfl, Own.nil _ _, hb1⟩
  · have hP := rowsOk_iff.1 hok
    have HN2 := Lib.hid (show n + 1 ≤ 1048576 by have h := hP.1; rw [HL.out] at h; omega)
    have HP := Lib.hid hP
    have HO := Lib.hid hok
    clear hP hok
    have hpl := putL_len l key num
    rw [HL.out] at hpl
    have HPL := Lib.hid hpl
    clear hpl
    have HPK := Lib.hid (putL_keys (num := num) hk hks)
    cases hok2 : rowsOk (putL l key num)
    all_goals
      first | rw [putRes_full HO.out hok2] | rw [putRes_ok HO.out hok2]
      have HO2 := Lib.hid hok2
      clear hok2
      generalize hp : putL l key num = p at *
      have HPE := Lib.hid hp
      clear hp
      go_enter Try.func45, Try.ntmps45
      go_wp2_with fail
      refine (implRowsOk A n c l w hr hk HN.out).mono ?_
      rintro e w1 ⟨rfl, hb1⟩
      rw [HO.out]
      go_wp2_with fail
      refine (storedAny A n c l key num w1 (hr.on hb1) HP.out.2.2 HN.out hA).mono ?_
      rintro e w2 ⟨v, rfl, ho2, hb2⟩
      rw [HPE.out] at ho2
      obtain ⟨A2, c2, rfl, -, -⟩ := ho2.form
      have b2 := bel_trans hb1 hb2
      go_wp2_with fail
      refine (implRowsOk A2 p.length c2 p w2 ho2.sl HPK.out (Nat.le_trans HPL.out HN2.out)).mono ?_
      rintro e w3 ⟨rfl, hb3⟩
      rw [HO2.out]
      have b3 := bel_trans b2 hb3
      have ho3 := ho2.on hb3
      go_wp2_with fail
    · refine (clone A n c l w3 (hr.on b3) (Nat.le_trans HN.out (by omega))).mono ?_
      rintro e w4 ⟨v4, rfl, ho4, hb4⟩
      go_wp2
      go_ret2
      exact ⟨_, rfl, ho4.lower b3.size, bel_trans b3 hb4⟩
    · go_ret2
      exact ⟨_, rfl, ho3.lower hb1.size, b3⟩
end Go.Proofs.Ytndeehlndbdonaa
