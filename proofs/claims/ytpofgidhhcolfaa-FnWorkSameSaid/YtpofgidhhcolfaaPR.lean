/- Plain facts of valid rows: members, keys, look-ups. No program in sight. -/
import Derived.Test.YtpofgidhhcolfaaB5
namespace Go.Proofs.Ytpofgidhhcolfaa

def Srt (l : List Row) : Prop := l.Pairwise fun a b => klt a.1 b.1 = true
theorem asc_srt {l : List Row} : AscP l ↔ Srt l := by
  unfold Srt
  rw [List.pairwise_iff_getElem]
  constructor
  · intro h i j hi hj hij
    exact h.lt hij (List.getElem?_eq_getElem hi) (List.getElem?_eq_getElem hj)
  · intro h i a b ha hb
    obtain ⟨hi, rfl⟩ := List.getElem?_eq_some_iff.1 ha
    obtain ⟨hj, rfl⟩ := List.getElem?_eq_some_iff.1 hb
    exact h i (i + 1) hi hj (by omega)
theorem Srt.ext {l m : List Row} (hl : Srt l) (hm : Srt m) (h : ∀ r, r ∈ l ↔ r ∈ m) : l = m := by
  induction l generalizing m with
  | nil =>
    cases m with
    | nil => rfl
    | cons b m => exact absurd ((h b).2 (by simp)) (by simp)
  | cons a l ih =>
    cases m with
    | nil => exact absurd ((h a).1 (by simp)) (by simp)
    | cons b m =>
      obtain ⟨ha, hl'⟩ := List.pairwise_cons.1 hl
      obtain ⟨hb, hm'⟩ := List.pairwise_cons.1 hm
      have hab : a = b := by
        rcases List.mem_cons.1 ((h a).1 (by simp)) with e | e
        · exact e
        · rcases List.mem_cons.1 ((h b).2 (by simp)) with e2 | e2
          · exact e2.symm
          · have := klt_asymm (ha b e2); rw [hb a e] at this; cases this
      subst hab
      rw [ih hl' hm' fun r => ?_]
      constructor
      · intro hr
        rcases List.mem_cons.1 ((h r).1 (List.mem_cons_of_mem _ hr)) with e | e
        · subst e; have := ha r hr; rw [klt_irrefl] at this; cases this
        · exact e
      · intro hr
        rcases List.mem_cons.1 ((h r).2 (List.mem_cons_of_mem _ hr)) with e | e
        · subst e; have := hb r hr; rw [klt_irrefl] at this; cases this
        · exact e
theorem Srt.inj {l : List Row} (h : Srt l) {k : ByteArray} {v v' : Int} (h1 : (k, v) ∈ l) (h2 : (k, v') ∈ l) : v = v' := by
  induction l with
  | nil => simp at h1
  | cons a l ih =>
    obtain ⟨ha, hl⟩ := List.pairwise_cons.1 h
    rcases List.mem_cons.1 h1 with e1 | e1 <;> rcases List.mem_cons.1 h2 with e2 | e2
    · subst e1; cases e2; rfl
    · subst e1; have := ha _ e2; simp only [klt_irrefl] at this; cases this
    · subst e2; have := ha _ e1; simp only [klt_irrefl] at this; cases this
    · exact ih hl e1 e2
theorem low_mem {l : List Row} {key : ByteArray} {r : Row} (h : r ∈ l.take (fnd l key)) : klt r.1 key = true := by
  obtain ⟨i, hi⟩ := List.mem_iff_getElem?.1 h
  rw [List.getElem?_take] at hi
  split at hi
  · rename_i hlt; exact fnd_lt hlt hi
  · cases hi
theorem drop_mem {l : List Row} {k : Nat} {r : Row} (h : r ∈ l.drop k) : ∃ j, k ≤ j ∧ l[j]? = some r := by
  obtain ⟨i, hi⟩ := List.mem_iff_getElem?.1 h
  rw [List.getElem?_drop] at hi
  exact ⟨k + i, by omega, hi⟩
theorem highM {l : List Row} (ha : AscP l) {key : ByteArray} {r : Row} (hh : hit l key = false) (h : r ∈ l.drop (fnd l key)) : klt key r.1 = true := by
  obtain ⟨j, hj, hr⟩ := drop_mem h
  have hl : fnd l key < l.length := by have := (List.getElem?_eq_some_iff.1 hr).1; omega
  have e := List.getElem?_eq_getElem hl
  have h1 := fnd_at e
  rw [hit_some e] at hh
  have h2 : klt key (l[fnd l key]).1 = true := by
    cases h3 : klt key (l[fnd l key]).1
    · have := klt_total h1 h3
      rw [keq_iff.2 this] at hh; cases hh
    · rfl
  by_cases hjf : j = fnd l key
  · subst hjf; rw [e] at hr; cases hr; exact h2
  · exact klt_trans h2 (ha.lt (i := fnd l key) (j := j) (by omega) e hr)
theorem split_mem {l : List Row} (k : Nat) {r : Row} : r ∈ l ↔ r ∈ l.take k ∨ r ∈ l.drop k := by
  conv => lhs; rw [← List.take_append_drop k l]
  rw [List.mem_append]
theorem ne_of_klt {a b : ByteArray} (h : klt a b = true) : a ≠ b := by rintro rfl; rw [klt_irrefl] at h; cases h
theorem hit_drop {l : List Row} {key : ByteArray} (h : hit l key = true) : ∃ v, l.drop (fnd l key) = (key, v) :: l.drop (fnd l key + 1) := by
  obtain ⟨v, hv⟩ := hit_key h
  refine ⟨v, ?_⟩
  have hl := hit_lt h
  rw [List.drop_eq_getElem_cons hl]
  rw [List.getElem?_eq_getElem hl] at hv
  rw [Option.some.inj hv]
theorem hit_iff {l : List Row} (ha : AscP l) {key : ByteArray} : hit l key = true ↔ ∃ v, (key, v) ∈ l := by
  constructor
  · intro h
    obtain ⟨v, hv⟩ := hit_key h
    exact ⟨v, List.mem_of_getElem? hv⟩
  · rintro ⟨v, hv⟩
    cases hh : hit l key
    · rcases (split_mem (fnd l key)).1 hv with h | h
      · have := low_mem h; simp only [klt_irrefl] at this; cases this
      · have := highM ha hh h; simp only [klt_irrefl] at this; cases this
    · rfl
theorem get_mem {l : List Row} (hP : RowsP l) {key : ByteArray} {v : Int} (h : (key, v) ∈ l) : getHas l key = true ∧ getNum l key = v := by
  have hh := (hit_iff hP.2.2).2 ⟨v, h⟩
  have hk := rowsOk_true hP
  refine ⟨by simp [getHas, hh, hk], ?_⟩
  obtain ⟨v', hv⟩ := hit_key hh
  unfold getNum
  rw [hv]
  simp only [hh, hk, and_self, if_true]
  exact (asc_srt.1 hP.2.2).inj (List.mem_of_getElem? hv) h
theorem has_iff {l : List Row} (hP : RowsP l) {key : ByteArray} : getHas l key = true ↔ ∃ v, (key, v) ∈ l := by
  rw [← hit_iff hP.2.2]; simp [getHas, rowsOk_true hP]
theorem has_hit {l : List Row} (hP : RowsP l) (key : ByteArray) : getHas l key = hit l key := by simp [getHas, rowsOk_true hP]
theorem rowsP_iff {l : List Row} : RowsP l ↔ l.length ≤ 10 ∧ (∀ r ∈ l, keyOk r.1 = true ∧ numOk r.2 = true) ∧ Srt l := by
  unfold RowsP EachP
  rw [asc_srt]
  constructor
  · rintro ⟨h1, h2, h3⟩
    refine ⟨h1, fun r hr => ?_, h3⟩
    obtain ⟨i, hi⟩ := List.mem_iff_getElem?.1 hr
    exact h2 i r hi
  · rintro ⟨h1, h2, h3⟩
    exact ⟨h1, fun i r hi => h2 r (List.mem_of_getElem? hi), h3⟩
end Go.Proofs.Ytpofgidhhcolfaa
