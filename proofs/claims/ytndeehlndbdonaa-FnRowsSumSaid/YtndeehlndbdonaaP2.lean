/- Plain facts of valid rows: what a put, a cut, a range leave. No program in sight. -/
import Derived.Test.YtndeehlndbdonaaB13
import Derived.Test.YtndeehlndbdonaaB14
namespace Go.Proofs.Ytndeehlndbdonaa

def Srt (l : List Row) : Prop := l.Pairwise fun a b => klt a.1 b.1 = true
theorem asc_srt {l : List Row} : AscP l ↔ Srt l := by
  unfold Srt
  rw [List.pairwise_iff_getElem]
  constructor
  · intro h i j hi hj hij
    exact h.lt hij (List.getElem?_eq_getElem hi) (List.getElem?_eq_getElem hj)
  · intro h i a b ha hb
    obtain ⟨hi, rfl⟩ := List.getElem?_eq_some_iff.1 ha
    obtain ⟨hj, rfl⟩ := List.getElem?_eq_some_iff.1 hb
    exact h i (i + 1) hi hj (by omega)
theorem Srt.ext {l m : List Row} (hl : Srt l) (hm : Srt m) (h : ∀ r, r ∈ l ↔ r ∈ m) : l = m := by
  induction l generalizing m with
  | nil =>
    cases m with
    | nil => rfl
    | cons b m => exact absurd ((h b).2 (by simp)) (by simp)
  | cons a l ih =>
    cases m with
    | nil => exact absurd ((h a).1 (by simp)) (by simp)
    | cons b m =>
      obtain ⟨ha, hl'⟩ := List.pairwise_cons.1 hl
      obtain ⟨hb, hm'⟩ := List.pairwise_cons.1 hm
      have hab : a = b := by
        rcases List.mem_cons.1 ((h a).1 (by simp)) with e | e
        · exact e
        · rcases List.mem_cons.1 ((h b).2 (by simp)) with e2 | e2
          · exact e2.symm
          · have := klt_asymm (ha b e2); rw [hb a e] at this; cases this
      subst hab
      rw [ih hl' hm' fun r => ?_]
      constructor
      · intro hr
        rcases List.mem_cons.1 ((h r).1 (List.mem_cons_of_mem _ hr)) with e | e
        · subst e; have := ha r hr; rw [klt_irrefl] at this; cases this
        · exact e
      · intro hr
        rcases List.mem_cons.1 ((h r).2 (List.mem_cons_of_mem _ hr)) with e | e
        · subst e; have := hb r hr; rw [klt_irrefl] at this; cases this
        · exact e
theorem Srt.inj {l : List Row} (h : Srt l) {k : ByteArray} {v v' : Int} (h1 : (k, v) ∈ l) (h2 : (k, v') ∈ l) : v = v' := by
  induction l with
  | nil => simp at h1
  | cons a l ih =>
    obtain ⟨ha, hl⟩ := List.pairwise_cons.1 h
    rcases List.mem_cons.1 h1 with e1 | e1 <;> rcases List.mem_cons.1 h2 with e2 | e2
    · subst e1; cases e2; rfl
    · subst e1; have := ha _ e2; simp only [klt_irrefl] at this; cases this
    · subst e2; have := ha _ e1; simp only [klt_irrefl] at this; cases this
    · exact ih hl e1 e2
theorem low_mem {l : List Row} {key : ByteArray} {r : Row} (h : r ∈ l.take (fnd l key)) : klt r.1 key = true := by
  obtain ⟨i, hi⟩ := List.mem_iff_getElem?.1 h
  rw [List.getElem?_take] at hi
  split at hi
  · rename_i hlt; exact fnd_lt hlt hi
  · cases hi
theorem drop_mem {l : List Row} {k : Nat} {r : Row} (h : r ∈ l.drop k) : ∃ j, k ≤ j ∧ l[j]? = some r := by
  obtain ⟨i, hi⟩ := List.mem_iff_getElem?.1 h
  rw [List.getElem?_drop] at hi
  exact ⟨k + i, by omega, hi⟩
theorem highH {l : List Row} (ha : AscP l) {key : ByteArray} {r : Row} (hh : hit l key = true) (h : r ∈ l.drop (fnd l key + 1)) : klt key r.1 = true := by
  obtain ⟨j, hj, hr⟩ := drop_mem h
  obtain ⟨v, hv⟩ := hit_key hh
  exact ha.lt (i := fnd l key) (j := j) (by omega) hv hr
theorem highM {l : List Row} (ha : AscP l) {key : ByteArray} {r : Row} (hh : hit l key = false) (h : r ∈ l.drop (fnd l key)) : klt key r.1 = true := by
  obtain ⟨j, hj, hr⟩ := drop_mem h
  have hl : fnd l key < l.length := by have := (List.getElem?_eq_some_iff.1 hr).1; omega
  have e := List.getElem?_eq_getElem hl
  have h1 := fnd_at e
  rw [hit_some e] at hh
  have h2 : klt key (l[fnd l key]).1 = true := by
    cases h3 : klt key (l[fnd l key]).1
    · have := klt_total h1 h3
      rw [keq_iff.2 this] at hh; cases hh
    · rfl
  by_cases hjf : j = fnd l key
  · subst hjf; rw [e] at hr; cases hr; exact h2
  · exact klt_trans h2 (ha.lt (i := fnd l key) (j := j) (by omega) e hr)
theorem split_mem {l : List Row} (k : Nat) {r : Row} : r ∈ l ↔ r ∈ l.take k ∨ r ∈ l.drop k := by
  conv => lhs; rw [← List.take_append_drop k l]
  rw [List.mem_append]
theorem ne_of_klt {a b : ByteArray} (h : klt a b = true) : a ≠ b := by rintro rfl; rw [klt_irrefl] at h; cases h
theorem hit_drop {l : List Row} {key : ByteArray} (h : hit l key = true) : ∃ v, l.drop (fnd l key) = (key, v) :: l.drop (fnd l key + 1) := by
  obtain ⟨v, hv⟩ := hit_key h
  refine ⟨v, ?_⟩
  have hl := hit_lt h
  rw [List.drop_eq_getElem_cons hl]
  rw [List.getElem?_eq_getElem hl] at hv
  rw [Option.some.inj hv]
theorem mem_putL {l : List Row} (ha : AscP l) {key : ByteArray} {num : Int} {r : Row} : r ∈ putL l key num ↔ r = (key, num) ∨ (r ∈ l ∧ r.1 ≠ key) := by
  unfold putL
  rw [split_mem (l := l) (fnd l key)]
  simp only [List.mem_append, List.mem_singleton]
  cases hh : hit l key
  · simp only [Bool.false_eq_true, if_false]
    constructor
    · rintro ((h | h) | h)
      · exact .inr ⟨.inl h, ne_of_klt (low_mem h)⟩
      · exact .inl h
      · exact .inr ⟨.inr h, (ne_of_klt (highM ha hh h)).symm⟩
    · rintro (h | ⟨h | h, _⟩)
      · exact .inl (.inr h)
      · exact .inl (.inl h)
      · exact .inr h
  · simp only [if_true]
    obtain ⟨v, hv⟩ := hit_drop hh
    rw [hv]
    constructor
    · rintro ((h | h) | h)
      · exact .inr ⟨.inl h, ne_of_klt (low_mem h)⟩
      · exact .inl h
      · exact .inr ⟨.inr (List.mem_cons_of_mem _ h), (ne_of_klt (highH ha hh h)).symm⟩
    · rintro (h | ⟨h | h, hk⟩)
      · exact .inl (.inr h)
      · exact .inl (.inl h)
      · rcases List.mem_cons.1 h with rfl | h
        · exact absurd rfl hk
        · exact .inr h
theorem mem_cutL {l : List Row} (ha : AscP l) {key : ByteArray} {r : Row} : r ∈ cutL l key ↔ r ∈ l ∧ r.1 ≠ key := by
  cases hh : hit l key
  · rw [cutL_miss hh]
    refine ⟨fun h => ⟨h, ?_⟩, fun h => h.1⟩
    rcases (split_mem (fnd l key)).1 h with h | h
    · exact ne_of_klt (low_mem h)
    · exact (ne_of_klt (highM ha hh h)).symm
  · rw [cutL_hit rfl hh, split_mem (l := l) (fnd l key)]
    obtain ⟨v, hv⟩ := hit_drop hh
    rw [hv, List.mem_append]
    constructor
    · rintro (h | h)
      · exact ⟨.inl h, ne_of_klt (low_mem h)⟩
      · exact ⟨.inr (List.mem_cons_of_mem _ h), (ne_of_klt (highH ha hh h)).symm⟩
    · rintro ⟨h | h, hk⟩
      · exact .inl h
      · rcases List.mem_cons.1 h with rfl | h
        · exact absurd rfl hk
        · exact .inr h
theorem Srt.take {l : List Row} (h : Srt l) (k : Nat) : Srt (l.take k) := h.sublist (List.take_sublist k l)
theorem Srt.drop {l : List Row} (h : Srt l) (k : Nat) : Srt (l.drop k) := h.sublist (List.drop_sublist k l)
theorem srt_putL {l : List Row} (ha : AscP l) (key : ByteArray) (num : Int) : Srt (putL l key num) := by
  have hs := asc_srt.1 ha
  have hd : Srt (l.drop (if hit l key = true then fnd l key + 1 else fnd l key)) ∧ ∀ r ∈ l.drop (if hit l key = true then fnd l key + 1 else fnd l key), klt key r.1 = true := by
    cases hh : hit l key
    · exact ⟨hs.drop _, fun r hr => highM ha hh (by simpa using hr)⟩
    · exact ⟨hs.drop _, fun r hr => highH ha hh (by simpa using hr)⟩
  unfold putL Srt
  rw [List.append_assoc, List.pairwise_append]
  refine ⟨hs.take _, ?_, ?_⟩
  · rw [List.singleton_append, List.pairwise_cons]
    exact ⟨hd.2, hd.1⟩
  · intro a hma b hb
    rcases List.mem_cons.1 hb with rfl | hb
    · exact low_mem hma
    · exact klt_trans (low_mem hma) (hd.2 b hb)
theorem srt_cutL {l : List Row} (ha : AscP l) (key : ByteArray) : Srt (cutL l key) := by
  have hs := asc_srt.1 ha
  cases hh : hit l key
  · rw [cutL_miss hh]; exact hs
  · rw [cutL_hit rfl hh]
    unfold Srt
    rw [List.pairwise_append]
    exact ⟨hs.take _, hs.drop _, fun a hma b hb => klt_trans (low_mem hma) (highH ha hh hb)⟩
theorem hit_iff {l : List Row} (ha : AscP l) {key : ByteArray} : hit l key = true ↔ ∃ v, (key, v) ∈ l := by
  constructor
  · intro h
    obtain ⟨v, hv⟩ := hit_key h
    exact ⟨v, List.mem_of_getElem? hv⟩
  · rintro ⟨v, hv⟩
    cases hh : hit l key
    · rcases (split_mem (fnd l key)).1 hv with h | h
      · have := low_mem h; simp only [klt_irrefl] at this; cases this
      · have := highM ha hh h; simp only [klt_irrefl] at this; cases this
    · rfl
theorem get_mem {l : List Row} (hP : RowsP l) {key : ByteArray} {v : Int} (h : (key, v) ∈ l) : getHas l key = true ∧ getNum l key = v := by
  have hh := (hit_iff hP.2.2).2 ⟨v, h⟩
  have hk := rowsOk_true hP
  refine ⟨by simp [getHas, hh, hk], ?_⟩
  obtain ⟨v', hv⟩ := hit_key hh
  unfold getNum
  rw [hv]
  simp only [hh, hk, and_self, if_true]
  exact (asc_srt.1 hP.2.2).inj (List.mem_of_getElem? hv) h
theorem has_iff {l : List Row} (hP : RowsP l) {key : ByteArray} : getHas l key = true ↔ ∃ v, (key, v) ∈ l := by
  rw [← hit_iff hP.2.2]; simp [getHas, rowsOk_true hP]
theorem has_hit {l : List Row} (hP : RowsP l) (key : ByteArray) : getHas l key = hit l key := by simp [getHas, rowsOk_true hP]
theorem rowsP_iff {l : List Row} : RowsP l ↔ l.length ≤ 10 ∧ (∀ r ∈ l, keyOk r.1 = true ∧ numOk r.2 = true) ∧ Srt l := by
  unfold RowsP EachP
  rw [asc_srt]
  constructor
  · rintro ⟨h1, h2, h3⟩
    refine ⟨h1, fun r hr => ?_, h3⟩
    obtain ⟨i, hi⟩ := List.mem_iff_getElem?.1 hr
    exact h2 i r hi
  · rintro ⟨h1, h2, h3⟩
    exact ⟨h1, fun i r hi => h2 r (List.mem_of_getElem? hi), h3⟩
theorem putL_length {l : List Row} (key : ByteArray) (num : Int) : (putL l key num).length = if hit l key = true then l.length else l.length + 1 := by
  have h1 := fnd_le l key
  unfold putL
  cases hh : hit l key
  · simp only [Bool.false_eq_true, if_false, List.length_append, List.length_take, List.length_drop, List.length_cons, List.length_nil]; omega
  · have := hit_lt hh
    simp only [if_true, List.length_append, List.length_take, List.length_drop, List.length_cons, List.length_nil]; omega
theorem cutL_length {l : List Row} (key : ByteArray) (hh : hit l key = true) : (cutL l key).length = l.length - 1 ∧ 0 < l.length := by
  have := hit_lt hh
  rw [cutL_hit rfl hh, List.length_append, List.length_take, List.length_drop]; omega
theorem put_ok_iff {l : List Row} (hP : RowsP l) {key : ByteArray} {num : Int} : RowsP (putL l key num) ↔ keyOk key = true ∧ numOk num = true ∧ (hit l key = true ∨ l.length < 10) := by
  rw [rowsP_iff, putL_length]
  have h10 := hP.1
  have he := (rowsP_iff.1 hP).2.1
  constructor
  · rintro ⟨h1, h2, -⟩
    have h3 := h2 (key, num) ((mem_putL hP.2.2).2 (.inl rfl))
    refine ⟨h3.1, h3.2, ?_⟩
    by_cases hh : hit l key = true
    · exact .inl hh
    · rw [if_neg hh] at h1; exact .inr (by omega)
  · rintro ⟨h1, h2, h3⟩
    refine ⟨?_, fun r hr => ?_, srt_putL hP.2.2 key num⟩
    · rcases h3 with h3 | h3
      · rw [if_pos h3]; exact h10
      · split <;> omega
    · rcases (mem_putL hP.2.2).1 hr with rfl | ⟨hr, -⟩
      · exact ⟨h1, h2⟩
      · exact he r hr
theorem cut_ok {l : List Row} (hP : RowsP l) (key : ByteArray) : RowsP (cutL l key) := by
  rw [rowsP_iff]
  refine ⟨?_, fun r hr => (rowsP_iff.1 hP).2.1 r ((mem_cutL hP.2.2).1 hr).1, srt_cutL hP.2.2 key⟩
  have := hP.1
  cases hh : hit l key
  · rw [cutL_miss hh]; exact this
  · have := cutL_length key hh; omega
end Go.Proofs.Ytndeehlndbdonaa
