/- Contracts: the copy of a history in new memory; the deletion of what stood no more at a time. -/
import Derived.Test.YtpofgidhhcolfaaV7
import Derived.Test.YtpofgidhhcolfaaV8
import Derived.Lib.SliceRun
namespace Go.Proofs.Ytpofgidhhcolfaa
open Go.RowKit

theorem encVer_one (r : Ver) : ∀ u ∈ encVer r, u.oneCell' = true := by
  intro u hu
  simp only [encVer, List.mem_cons, List.not_mem_nil, or_false] at hu
  rcases hu with rfl | rfl | rfl | rfl <;> rfl
/-- to be forgotten -/
def dropV (t : Int) (x : Ver) : Bool := decide (x.2.2.2 ≠ 0) && decide (x.2.2.2 ≤ t)
def keepV (t : Int) (x : Ver) : Bool := !dropV t x
def trimL (l : List Ver) (t : Int) : List Ver := l.filter (keepV t)
theorem trimL_len (l : List Ver) (t : Int) : (trimL l t).length ≤ l.length := List.length_filter_le _ _
def AllKept (l : List Ver) (t : Int) (k : Nat) : Prop := ∀ (i : Nat) (x : Ver), i < k → l[i]? = some x → dropV t x = false
theorem AllKept.zero (l : List Ver) (t : Int) : AllKept l t 0 := fun _ _ h => absurd h (by omega)
theorem AllKept.step {l : List Ver} {t : Int} {k : Nat} {x : Ver} (h : AllKept l t k) (hx : l[k]? = some x) (hd : dropV t x = false) : AllKept l t (k + 1) := by
  intro i y hi hy
  by_cases hik : i < k
  · exact h i y hik hy
  · obtain rfl : i = k := by omega
    rw [hx] at hy; cases hy; exact hd
theorem AllKept.take {l : List Ver} {t : Int} {k : Nat} (h : AllKept l t k) : (l.take k).filter (keepV t) = l.take k := by
  rw [List.filter_eq_self]
  intro x hx
  obtain ⟨i, hi⟩ := List.mem_iff_getElem?.1 hx
  have hik : i < k := by have := (List.getElem?_eq_some_iff.1 hi).1; rw [List.length_take] at this; omega
  rw [List.getElem?_take, if_pos hik] at hi
  simp [keepV, h i x hik hi]
theorem AllKept.all {l : List Ver} {t : Int} {k : Nat} (h : AllKept l t k) (hk : l.length ≤ k) : trimL l t = l := by
  have := h.take
  rwa [List.take_of_length_le hk] at this
theorem kept_in {l : List Ver} {t : Int} {i : Nat} {x : Ver} (h : l[i]? = some x) (hp : dropV t x = false) : trimL (l.take (i + 1)) t = trimL (l.take i) t ++ [x] := by
  obtain ⟨hk, rfl⟩ := List.getElem?_eq_some_iff.1 h
  unfold trimL
  rw [List.take_succ_eq_append_getElem hk, List.filter_append]; simp [keepV, hp]
theorem kept_out {l : List Ver} {t : Int} {i : Nat} {x : Ver} (h : l[i]? = some x) (hp : dropV t x = true) : trimL (l.take (i + 1)) t = trimL (l.take i) t := by
  obtain ⟨hk, rfl⟩ := List.getElem?_eq_some_iff.1 h
  unfold trimL
  rw [List.take_succ_eq_append_getElem hk, List.filter_append]; simp [keepV, hp]
/-- the row after j elements were looked at, i of them kept in front -/
def DelRow (l : List Ver) (t : Int) (j i : Nat) (q : List Ver) : Prop := q.length = l.length ∧ i < j ∧ j ≤ l.length ∧ q.take i = trimL (l.take j) t ∧ q.drop j = l.drop j
theorem DelRow.start {l : List Ver} {t : Int} {i : Nat} {x : Ver} (h : AllKept l t i) (hx : l[i]? = some x) (hd : dropV t x = true) : DelRow l t (i + 1) i l :=
  ⟨rfl, by omega, (List.getElem?_eq_some_iff.1 hx).1, by rw [kept_out hx hd]; exact h.take.symm, rfl⟩
theorem DelRow.len {l q : List Ver} {t : Int} {j i : Nat} (h : DelRow l t j i q) : (trimL (l.take j) t).length = i := by
  rw [← h.2.2.2.1, List.length_take]; have := h.1; have := h.2.1; have := h.2.2.1; omega
theorem DelRow.at_ {l q : List Ver} {t : Int} {j i : Nat} (h : DelRow l t j i q) : q[j]? = l[j]? := by
  have h1 := congrArg (fun m : List Ver => m[0]?) h.2.2.2.2
  simpa using h1
theorem DelRow.out {l q : List Ver} {t : Int} {j i : Nat} {x : Ver} (h : DelRow l t j i q) (hx : l[j]? = some x) (hd : dropV t x = true) : DelRow l t (j + 1) i q :=
  ⟨h.1, by have := h.2.1; omega, (List.getElem?_eq_some_iff.1 hx).1, by rw [kept_out hx hd]; exact h.2.2.2.1, by
    have h1 := congrArg (List.drop 1) h.2.2.2.2
    simpa [List.drop_drop, Nat.add_comm] using h1⟩
theorem DelRow.in_ {l q : List Ver} {t : Int} {j i : Nat} {x : Ver} (h : DelRow l t j i q) (hx : l[j]? = some x) (hd : dropV t x = false) : DelRow l t (j + 1) (i + 1) (q.set i x) := by
  have hj := (List.getElem?_eq_some_iff.1 hx).1
  have hi := h.2.1
  have hq := h.1
  refine ⟨by rw [List.length_set]; exact h.1, by omega, hj, ?_, ?_⟩
  · rw [kept_in hx hd, ← h.2.2.2.1, List.take_add_one, List.take_set_of_le (by omega), List.getElem?_set, if_pos rfl, if_pos (by omega)]
    rfl
  · rw [List.drop_set_of_lt (by omega)]
    have h1 := congrArg (List.drop 1) h.2.2.2.2
    simpa [List.drop_drop, Nat.add_comm] using h1
theorem DelRow.end_ {l q : List Ver} {t : Int} {i : Nat} (h : DelRow l t l.length i q) : q.take i = trimL l t := by
  have := h.2.2.2.1
  rwa [List.take_of_length_le (Nat.le_refl _)] at this

/-- a prefix of an owned row -/
theorem Own.front {α : Type} {enc : α → List Value} {sz : Nat} {e : TypeId} {w : World} {base g n c k : Nat} {l : List α} (hs : ∀ x, (enc x).length = sz) (h : Own enc sz e w base (.slice (some ⟨g, 0, none⟩) n c) l) (hk : k ≤ n) : Own enc sz e w base (.slice (some ⟨g, 0, none⟩) k c) (l.take k) := by
  have hn := h.len
  refine ⟨cellsOf_length hs _, ?_⟩
  rcases h.2 with ⟨h1, _⟩ | ⟨g', cap, cur, h1, h2, h3, h4, h5, h6, h7⟩
  · injection h1 with h1; cases h1
  · injection h1 with e1 e2 e3
    injection e1 with e1
    injection e1 with e1
    subst e1; subst e3
    refine .inr ⟨g, c, cur, by rw [List.length_take, Nat.min_eq_left (by omega)], h2, h3, by rw [List.length_take]; omega, h5, h6, ?_⟩
    rw [List.length_take, Nat.min_eq_left (by omega), cellsOf_take hs, ← h7, List.take_take, Nat.min_eq_left (Nat.mul_le_mul_right _ (by omega))]
/-- writes behind the elements leave them -/
theorem Own.tail {α : Type} {enc : α → List Value} {sz : Nat} {e : TypeId} {base g n c : Nat} {l : List α} (hs : ∀ x, (enc x).length = sz) : ∀ (us : List Value) (o : Nat) (w : World), n * sz ≤ o → Own enc sz e w base (.slice (some ⟨g, 0, none⟩) n c) l → Own enc sz e (w.setCells g o us) base (.slice (some ⟨g, 0, none⟩) n c) l
  | [], _, _, _, h => h
  | u :: us, o, w, ho, h => by
    refine Own.tail hs us (o + 1) _ (by omega) ?_
    have hn := h.len
    have h1 := (h.at_.stored o u).1
    rw [List.set_eq_of_length_le (by rw [cellsOf_length hs, hn]; exact ho)] at h1
    unfold Own
    rw [hn] at h1 ⊢
    exact h1
theorem Turn.setCells {g : Nat} {w : World} : ∀ (us : List Value) (o : Nat) (w1 : World), Turn (some ⟨g, 0, none⟩) w w1 → Turn (some ⟨g, 0, none⟩) w (w1.setCells g o us)
  | [], _, _, h => h
  | u :: us, o, _, h => Turn.setCells us (o + 1) _ (h.set o u)
end Go.Proofs.Ytpofgidhhcolfaa
