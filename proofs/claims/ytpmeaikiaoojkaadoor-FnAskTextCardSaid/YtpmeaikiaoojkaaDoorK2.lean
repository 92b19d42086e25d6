/- Words for memory, second part: one cell of an owned row is stored; appending; what only one row has turned. No program in sight. -/
import Derived.Test.YtpmeaikiaoojkaaDoorK
namespace Go.Proofs.YtpmeaikiaoojkaaDoor
open Go.RowKit
section
variable {α : Type} {enc : α → List Value} {sz : Nat} {e : TypeId} {w w' : World} {base n c g : Nat} {l : List α}
theorem cellsOf_setj (hs : ∀ x, (enc x).length = sz) (l : List α) (k j : Nat) (x x' : α) (u : Value) (hx : l[k]? = some x) (hj : j < sz) (he : enc x' = (enc x).set j u) :
    (cellsOf enc l).set (k * sz + j) u = cellsOf enc (l.set k x') := by
  have hsz : 0 < sz := by omega
  have hk := (List.getElem?_eq_some_iff.1 hx).1
  have hlt : k * sz + j < l.length * sz := by
    have : (k + 1) * sz ≤ l.length * sz := Nat.mul_le_mul_right _ hk
    rw [Nat.add_mul] at this; omega
  apply ext_of
  intro q
  have hd : q = q / sz * sz + q % sz := by rw [Nat.mul_comm]; exact (Nat.div_add_mod q sz).symm
  have hm : q % sz < sz := Nat.mod_lt _ hsz
  by_cases hq : q = k * sz + j
  · rw [List.getElem?_set, if_pos hq.symm, if_pos (by rw [cellsOf_length hs]; exact hlt), hq, cellsOf_get hs _ _ _ hj, List.getElem?_set, if_pos rfl, if_pos hk]
    simp only [Option.bind_some]
    rw [he, List.getElem?_set, if_pos rfl, if_pos (by rw [hs]; exact hj)]
  · rw [List.getElem?_set, if_neg (Ne.symm hq), hd, cellsOf_get hs _ _ _ hm, cellsOf_get hs _ _ _ hm, List.getElem?_set]
    by_cases hqk : q / sz = k
    · rw [if_pos hqk.symm, if_pos hk, hqk, hx]
      simp only [Option.bind_some]
      rw [he, List.getElem?_set, if_neg]
      rintro rfl
      exact hq (by rw [← hqk]; exact hd)
    · rw [if_neg (Ne.symm hqk)]
theorem Own.at_ (h : Own enc sz e w base (.slice (some ⟨g, 0, none⟩) n c) l) : w.ownsRow base e sz (.slice (some ⟨g, 0, none⟩) l.length c) l.length (cellsOf enc l) := by
  have hn := h.len
  rw [hn]; rw [Own, hn] at h; exact h
theorem Own.set1 (hs : ∀ x, (enc x).length = sz) (h : Own enc sz e w base (.slice (some ⟨g, 0, none⟩) n c) l) (k j : Nat) (x x' : α) (u : Value) (hx : l[k]? = some x) (hj : j < sz) (he : enc x' = (enc x).set j u) :
    Own enc sz e (w.setCell ⟨g, k * sz + j, none⟩ u) base (.slice (some ⟨g, 0, none⟩) n c) (l.set k x') := by
  have hn := h.len
  have h1 := (h.at_.stored (k * sz + j) u).1
  rw [cellsOf_setj hs l k j x x' u hx hj he] at h1
  unfold Own
  rw [List.length_set]
  rw [hn] at h1 ⊢
  exact h1
/-- only the row at A may have turned, and what is new -/
def Turn (A : Option Addr) (w w' : World) : Prop := w.grownBy w' (A.map (·.block))
theorem Turn.of_below {A : Option Addr} (h : Below w.heap.size w w') : Turn A w w' := ⟨h.os, h.tape, h.output, h.size, fun i hi _ => h.block i hi⟩
theorem Turn.refl (A : Option Addr) (w : World) : Turn A w w := ⟨rfl, rfl, rfl, Nat.le_refl _, fun _ _ _ => rfl⟩
theorem Turn.trans {A : Option Addr} {w1 w2 w3 : World} (h : Turn A w1 w2) (k : Turn A w2 w3) : Turn A w1 w3 :=
  ⟨k.os.trans h.os, k.tape.trans h.tape, k.output.trans h.output, Nat.le_trans h.size k.size, fun i hi hne => (k.block i (Nat.lt_of_lt_of_le hi h.size) hne).trans (h.block i hi hne)⟩
theorem Turn.below {A : Option Addr} {w1 w2 w3 : World} (h : Turn A w1 w2) (k : Below w2.heap.size w2 w3) : Turn A w1 w3 := h.trans (Turn.of_below k)
theorem Turn.set {w1 w2 : World} (h : Turn (some ⟨g, 0, none⟩) w1 w2) (o : Nat) (u : Value) : Turn (some ⟨g, 0, none⟩) w1 (w2.setCell ⟨g, o, none⟩ u) :=
  h.trans ⟨rfl, rfl, rfl, by simp, fun i _ hne => Below.heap_setCell _ _ _ _ (by rintro rfl; exact hne rfl)⟩
/-- a row of the call's own was turned: for the caller nothing below its base -/
theorem Turn.bel {A : Option Addr} {a : World} (hb : Below a.heap.size a w) (h : Turn A w w') (hA : ∀ x, A = some x → a.heap.size ≤ x.block) : Below a.heap.size a w' :=
  hb.trans ⟨h.os, h.tape, h.output, h.size, fun i hi => h.block i (Nat.lt_of_lt_of_le hi hb.size) (fun e => by
    cases A with
    | none => cases e
    | some x =>
      simp only [Option.map_some, Option.some.injEq] at e
      have := hA x rfl
      omega)⟩
/-- another owned row lies as it lay -/
theorem Own.far {A B : Option Addr} {n c : Nat} (h : Own enc sz e w base (.slice B n c) l) (ht : Turn A w w') (hne : ∀ x y, A = some x → B = some y → x.block ≠ y.block) : Own enc sz e w' base (.slice B n c) l := by
  refine World.ownsRow.kept h ht ?_
  cases B with
  | none => exact .inl rfl
  | some y =>
    refine .inr ?_
    cases A with
    | none => simp [Value.ownBlock]
    | some x =>
      simp only [Value.ownBlock, Option.map_some, ne_eq, Option.some.injEq]
      exact Ne.symm (hne x y rfl rfl)
/-- rows that were made one behind the other lie apart -/
theorem Own.apart {α' : Type} {enc' : α' → List Value} {sz' : Nat} {e' : TypeId} {A B : Option Addr} {n c n' c' base' : Nat} {l' : List α'} {w0 : World} (h : Own enc sz e w0 base (.slice A n c) l) (k : Own enc' sz' e' w base' (.slice B n' c') l') (hb : w0.heap.size ≤ base') :
    ∀ x y, A = some x → B = some y → x.block ≠ y.block := by
  intro x y hx hy
  have h1 := (h.block hx).2.1
  have h2 := (k.block hy).1
  omega
end
end Go.Proofs.YtpmeaikiaoojkaaDoor
