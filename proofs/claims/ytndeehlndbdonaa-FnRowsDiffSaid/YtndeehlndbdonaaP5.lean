/- Plain facts of the difference of two lists. No program in sight. -/
import Derived.Test.YtndeehlndbdonaaP4
import Derived.Test.YtndeehlndbdonaaB7
namespace Go.Proofs.Ytndeehlndbdonaa

/-- the key k has not the same in a and in b -/
def Dv (a b : List Row) (k : ByteArray) : Prop := ∃ v, ((k, v) ∈ a ∧ (k, v) ∉ b) ∨ ((k, v) ∈ b ∧ (k, v) ∉ a)
theorem Dv.comm {a b : List Row} {k : ByteArray} : Dv a b k ↔ Dv b a k := by
  unfold Dv
  constructor <;> (rintro ⟨v, h⟩; exact ⟨v, h.symm⟩)
theorem Dv.left {x : Row} {p b : List Row} (hx : x ∉ b) (k : ByteArray) : Dv (x :: p) b k ↔ k = x.1 ∨ Dv p b k := by
  unfold Dv
  constructor
  · rintro ⟨v, ⟨h1, h2⟩ | ⟨h1, h2⟩⟩
    · rcases List.mem_cons.1 h1 with h3 | h3
      · exact .inl (congrArg Prod.fst h3)
      · exact .inr ⟨v, .inl ⟨h3, h2⟩⟩
    · exact .inr ⟨v, .inr ⟨h1, fun h => h2 (List.mem_cons_of_mem _ h)⟩⟩
  · rintro (rfl | ⟨v, ⟨h1, h2⟩ | ⟨h1, h2⟩⟩)
    · exact ⟨x.2, .inl ⟨by simp, hx⟩⟩
    · exact ⟨v, .inl ⟨List.mem_cons_of_mem _ h1, h2⟩⟩
    · refine ⟨v, .inr ⟨h1, fun h => ?_⟩⟩
      rcases List.mem_cons.1 h with h3 | h3
      · exact hx (h3 ▸ h1)
      · exact h2 h3
theorem Dv.right {y : Row} {a q : List Row} (hy : y ∉ a) (k : ByteArray) : Dv a (y :: q) k ↔ k = y.1 ∨ Dv a q k := by
  rw [Dv.comm, Dv.left hy, Dv.comm]
theorem Dv.same {x : Row} {p q : List Row} (hp : x ∉ p) (hq : x ∉ q) (k : ByteArray) : Dv (x :: p) (x :: q) k ↔ Dv p q k := by
  unfold Dv
  constructor
  · rintro ⟨v, ⟨h1, h2⟩ | ⟨h1, h2⟩⟩
    · rcases List.mem_cons.1 h1 with h3 | h3
      · exact absurd (List.mem_cons.2 (.inl h3)) h2
      · exact ⟨v, .inl ⟨h3, fun h => h2 (List.mem_cons_of_mem _ h)⟩⟩
    · rcases List.mem_cons.1 h1 with h3 | h3
      · exact absurd (List.mem_cons.2 (.inl h3)) h2
      · exact ⟨v, .inr ⟨h3, fun h => h2 (List.mem_cons_of_mem _ h)⟩⟩
  · rintro ⟨v, ⟨h1, h2⟩ | ⟨h1, h2⟩⟩
    · refine ⟨v, .inl ⟨List.mem_cons_of_mem _ h1, fun h => ?_⟩⟩
      rcases List.mem_cons.1 h with h3 | h3
      · exact hp (h3 ▸ h1)
      · exact h2 h3
    · refine ⟨v, .inr ⟨List.mem_cons_of_mem _ h1, fun h => ?_⟩⟩
      rcases List.mem_cons.1 h with h3 | h3
      · exact hq (h3 ▸ h1)
      · exact h2 h3
theorem Dv.gt {a b : List Row} {k h : ByteArray} (ha : ∀ r ∈ a, klt h r.1 = true) (hb : ∀ r ∈ b, klt h r.1 = true) (hd : Dv a b k) : klt h k = true := by
  obtain ⟨v, ⟨h1, _⟩ | ⟨h1, _⟩⟩ := hd
  · exact ha _ h1
  · exact hb _ h1
theorem not_mem_gt {x : Row} {l : List Row} (h : ∀ r ∈ l, klt x.1 r.1 = true) : x ∉ l := fun hm => by
  have := h x hm; rw [klt_irrefl] at this; cases this
def Asc (l : List ByteArray) : Prop := l.Pairwise fun a b => klt a b = true
theorem dif_spec : ∀ (f : Nat) (a b : List Row), Srt a → Srt b → a.length + b.length ≤ f → (∀ k, k ∈ dif f a b ↔ Dv a b k) ∧ Asc (dif f a b)
  | 0, a, b, _, _, hl => by
    obtain rfl := List.eq_nil_of_length_eq_zero (show a.length = 0 by omega)
    obtain rfl := List.eq_nil_of_length_eq_zero (show b.length = 0 by omega)
    exact ⟨fun k => by simp [dif, Dv], List.Pairwise.nil⟩
  | f + 1, [], [], _, _, _ => ⟨fun k => by simp [dif, Dv], List.Pairwise.nil⟩
  | f + 1, x :: p, [], ha, hb, hl => by
    obtain ⟨hx, hp⟩ := List.pairwise_cons.1 ha
    obtain ⟨h1, h2⟩ := dif_spec f p [] hp hb (by simp at hl ⊢; omega)
    refine ⟨fun k => ?_, ?_⟩
    · rw [Dv.left (by simp), ← h1]; simp [dif]
    · exact List.pairwise_cons.2 ⟨fun e he => Dv.gt hx (fun r hr => by cases hr) ((h1 e).1 he), h2⟩
  | f + 1, [], y :: q, ha, hb, hl => by
    obtain ⟨hy, hq⟩ := List.pairwise_cons.1 hb
    obtain ⟨h1, h2⟩ := dif_spec f [] q ha hq (by simp at hl ⊢; omega)
    refine ⟨fun k => ?_, ?_⟩
    · rw [Dv.right (by simp), ← h1]; simp [dif]
    · exact List.pairwise_cons.2 ⟨fun e he => Dv.gt (fun r hr => by cases hr) hy ((h1 e).1 he), h2⟩
  | f + 1, x :: p, y :: q, ha, hb, hl => by
    obtain ⟨hx, hp⟩ := List.pairwise_cons.1 ha
    obtain ⟨hy, hq⟩ := List.pairwise_cons.1 hb
    rw [dif]
    cases hxy : klt x.1 y.1
    · cases hyx : klt y.1 x.1
      · have hk := klt_total hxy hyx
        have hxq : x ∉ q := not_mem_gt (fun r hr => by rw [hk]; exact hy r hr)
        have hyp : y ∉ p := not_mem_gt (fun r hr => by rw [← hk]; exact hx r hr)
        obtain ⟨h1, h2⟩ := dif_spec f p q hp hq (by simp at hl ⊢; omega)
        simp only [Bool.false_eq_true, if_false]
        cases hn : (x.2 != y.2)
        · have he : x = y := by
            have h3 : x.2 = y.2 := by simpa using hn
            exact Prod.ext hk h3
          subst he
          simp only [Bool.false_eq_true, if_false]
          exact ⟨fun k => by rw [Dv.same hyp hxq, h1], h2⟩
        · have hne : x ≠ y := by rintro rfl; simp at hn
          simp only [if_true]
          refine ⟨fun k => ?_, List.pairwise_cons.2 ⟨fun e he => Dv.gt hx (fun r hr => by rw [hk]; exact hy r hr) ((h1 e).1 he), h2⟩⟩
          rw [Dv.left (by simp [hne, hxq]), Dv.right hyp, ← h1, ← hk, List.mem_cons, ← or_assoc, or_self]
      · simp only [Bool.false_eq_true, if_false, if_true]
        have hyp : ∀ r ∈ p, klt y.1 r.1 = true := fun r hr => klt_trans hyx (hx r hr)
        have hyx2 : ∀ r ∈ x :: p, klt y.1 r.1 = true := fun r hr => by
          rcases List.mem_cons.1 hr with rfl | hr
          · exact hyx
          · exact hyp r hr
        obtain ⟨h1, h2⟩ := dif_spec f (x :: p) q ha hq (by simp at hl ⊢; omega)
        refine ⟨fun k => ?_, List.pairwise_cons.2 ⟨fun e he => Dv.gt hyx2 hy ((h1 e).1 he), h2⟩⟩
        rw [Dv.right (not_mem_gt hyx2), ← h1, List.mem_cons]
    · simp only [if_true]
      have hxy2 : ∀ r ∈ y :: q, klt x.1 r.1 = true := fun r hr => by
        rcases List.mem_cons.1 hr with rfl | hr
        · exact hxy
        · exact klt_trans hxy (hy r hr)
      obtain ⟨h1, h2⟩ := dif_spec f p (y :: q) hp hb (by simp at hl ⊢; omega)
      refine ⟨fun k => ?_, List.pairwise_cons.2 ⟨fun e he => Dv.gt hx hxy2 ((h1 e).1 he), h2⟩⟩
      rw [Dv.left (not_mem_gt hxy2), ← h1, List.mem_cons]
theorem Asc.ext {l m : List ByteArray} (hl : Asc l) (hm : Asc m) (h : ∀ r, r ∈ l ↔ r ∈ m) : l = m := by
  induction l generalizing m with
  | nil =>
    cases m with
    | nil => rfl
    | cons b m => exact absurd ((h b).2 (by simp)) (by simp)
  | cons a l ih =>
    cases m with
    | nil => exact absurd ((h a).1 (by simp)) (by simp)
    | cons b m =>
      obtain ⟨ha, hl'⟩ := List.pairwise_cons.1 hl
      obtain ⟨hb, hm'⟩ := List.pairwise_cons.1 hm
      have hab : a = b := by
        rcases List.mem_cons.1 ((h a).1 (by simp)) with e | e
        · exact e
        · rcases List.mem_cons.1 ((h b).2 (by simp)) with e2 | e2
          · exact e2.symm
          · have := klt_asymm (ha b e2); rw [hb a e] at this; cases this
      subst hab
      rw [ih hl' hm' fun r => ?_]
      constructor
      · intro hr
        rcases List.mem_cons.1 ((h r).1 (List.mem_cons_of_mem _ hr)) with e | e
        · subst e; have := ha r hr; rw [klt_irrefl] at this; cases this
        · exact e
      · intro hr
        rcases List.mem_cons.1 ((h r).2 (List.mem_cons_of_mem _ hr)) with e | e
        · subst e; have := hb r hr; rw [klt_irrefl] at this; cases this
        · exact e
theorem diff_spec {a b : List Row} (ha : RowsP a) (hb : RowsP b) : (∀ k, k ∈ diffOut a b ↔ Dv a b k) ∧ Asc (diffOut a b) := by
  rw [diffOut_ok (rowsOk_true ha) (rowsOk_true hb)]
  exact dif_spec _ a b (asc_srt.1 ha.2.2) (asc_srt.1 hb.2.2) (Nat.le_refl _)
theorem diff_comm (a b : List Row) : diffOut a b = diffOut b a := by
  by_cases h : rowsOk a = true ∧ rowsOk b = true
  · obtain ⟨h1, h2⟩ := diff_spec (rowsOk_iff.1 h.1) (rowsOk_iff.1 h.2)
    obtain ⟨h3, h4⟩ := diff_spec (rowsOk_iff.1 h.2) (rowsOk_iff.1 h.1)
    exact h2.ext h4 fun k => by rw [h1, h3, Dv.comm]
  · rw [diffOut_bad (by cases h1 : rowsOk a <;> cases h2 : rowsOk b <;> simp_all), diffOut_bad (by cases h1 : rowsOk a <;> cases h2 : rowsOk b <;> simp_all)]
theorem diff_get {a b : List Row} (ha : RowsP a) (hb : RowsP b) {k : ByteArray} (h : k ∈ diffOut a b) : ¬ (getHas a k = getHas b k ∧ getNum a k = getNum b k) := by
  rintro ⟨h1, h2⟩
  obtain ⟨v, ⟨h3, h4⟩ | ⟨h3, h4⟩⟩ := ((diff_spec ha hb).1 k).1 h
  · obtain ⟨g1, g2⟩ := get_mem ha h3
    rw [g1] at h1
    obtain ⟨v', hv⟩ := (has_iff hb).1 h1.symm
    rw [g2, (get_mem hb hv).2] at h2
    exact h4 (h2 ▸ hv)
  · obtain ⟨g1, g2⟩ := get_mem hb h3
    rw [g1] at h1
    obtain ⟨v', hv⟩ := (has_iff ha).1 h1
    rw [g2, (get_mem ha hv).2] at h2
    exact h4 (h2 ▸ hv)
theorem diff_nil {a b : List Row} (ha : RowsP a) (hb : RowsP b) : (diffOut a b).length = 0 ↔ a = b := by
  obtain ⟨h1, _⟩ := diff_spec ha hb
  constructor
  · intro h
    refine (asc_srt.1 ha.2.2).ext (asc_srt.1 hb.2.2) fun r => ?_
    have hn := List.eq_nil_of_length_eq_zero h
    have h2 : ¬ Dv a b r.1 := fun hd => by have := (h1 _).2 hd; rw [hn] at this; cases this
    constructor
    · intro hr
      exact Classical.byContradiction fun hc => h2 ⟨r.2, .inl ⟨hr, hc⟩⟩
    · intro hr
      exact Classical.byContradiction fun hc => h2 ⟨r.2, .inr ⟨hr, hc⟩⟩
  · rintro rfl
    rw [List.length_eq_zero_iff, List.eq_nil_iff_forall_not_mem]
    intro k hk
    obtain ⟨v, ⟨h3, h4⟩ | ⟨h3, h4⟩⟩ := (h1 k).1 hk
    · exact h4 h3
    · exact h4 h3
theorem dif_len2 : ∀ (f : Nat) (la lb : List Row), (dif f la lb).length ≤ f
  | 0, _, _ => by simp [dif]
  | f + 1, [], [] => by simp [dif]
  | f + 1, a :: p, [] => by
    show (a.1 :: dif f p []).length ≤ _
    have := dif_len2 f p []; simp; omega
  | f + 1, [], b :: q => by
    show (b.1 :: dif f [] q).length ≤ _
    have := dif_len2 f [] q; simp; omega
  | f + 1, a :: p, b :: q => by
    show (if klt a.1 b.1 = true then a.1 :: dif f p (b :: q) else if klt b.1 a.1 = true then b.1 :: dif f (a :: p) q else if (a.2 != b.2) = true then a.1 :: dif f p q else dif f p q).length ≤ _
    have h1 := dif_len2 f p (b :: q); have h2 := dif_len2 f (a :: p) q; have h3 := dif_len2 f p q
    split
    · simp; omega
    · split
      · simp; omega
      · split
        · simp; omega
        · omega
theorem diffOut_len2 (l p : List Row) : (diffOut l p).length ≤ 20 := by
  unfold diffOut
  split
  · rename_i h
    have h1 := (rowsOk_iff.1 h.1).1
    have h2 := (rowsOk_iff.1 h.2).1
    have := dif_len2 (l.length + p.length) l p
    omega
  · simp

theorem diff_len {a b : List Row} : (diffOut a b).length ≤ 1000 := Nat.le_trans (diffOut_len2 a b) (by omega)
end Go.Proofs.Ytndeehlndbdonaa
