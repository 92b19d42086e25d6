/- FnTalkSame: contracts of what it reaches (K K2 K3 Q KT N1 N1N A1 A2 QA1 QA2 W1). No condition. -/
import Derived.WalkKit
import Derived.WalkSpells
import Derived.WalkLawsBesides
import Derived.Lib.Hide
import Derived.IntWalk
import Derived.Deep.RegionHeld3
import Derived.Deep.AppendLies
import Derived.Maps.AppendAt
import Derived.Deep.OwnRows
import Derived.RegionTactic
import Derived.OwnWalk
import Derived.Deep.DrawnRows
import Derived.Test.YtpmeaikiaoojkaaRows
import Derived.Laws.StructEq
namespace Go.Proofs.Ytpmeaikiaoojkaa
open Go.RowKit

theorem retBool {a b : Bool} (h : a = b) : Ending.returned (.bool a) = .returned (.bool b) := by rw [h]
theorem retInt {k : IntKind} {a b : Int} (h : a = b) : Ending.returned (.int k a) = .returned (.int k b) := by rw [h]

/-! ### Below -/
section
variable {a w w' : World}
theorem bel_alloc (h : Below a.heap.size a w) (o : Obj) : Below a.heap.size a (w.alloc o) := h.alloc h.size o
theorem bel_trans (h : Below a.heap.size a w) (k : Below w.heap.size w w') : Below a.heap.size a w' := h.trans (k.mono h.size)
theorem bel_drewN (h : Below a.heap.size a w) (n : Nat) : Below a.heap.size a (w.drewN n) := ⟨h.os, h.tape, h.output, h.size, h.block⟩
theorem bel_set (h : Below a.heap.size a w) {p : Addr} (hp : a.heap.size ≤ p.block) (u : Value) : Below a.heap.size a (w.setCell p u) := h.setCell hp u
theorem bel_grown (h : Below a.heap.size a w) {row : Option Nat} (hg : w.grownBy w' row) (hr : ∀ k, row = some k → a.heap.size ≤ k) : Below a.heap.size a w' := h.grown hg h.size hr
end

/-! ### Cells of a list -/
section
variable {α : Type}
def cellsOf (enc : α → List Value) (l : List α) : List Value := l.flatMap enc
theorem cellsOf_append (enc : α → List Value) (l m : List α) : cellsOf enc (l ++ m) = cellsOf enc l ++ cellsOf enc m := by simp [cellsOf]
theorem cellsOf_one (enc : α → List Value) (x : α) : cellsOf enc [x] = enc x := by simp [cellsOf]
theorem cellsOf_length {enc : α → List Value} {sz : Nat} (hs : ∀ x, (enc x).length = sz) (l : List α) : (cellsOf enc l).length = l.length * sz := by
  induction l with
  | nil => simp [cellsOf]
  | cons x l ih =>
    have : cellsOf enc (x :: l) = enc x ++ cellsOf enc l := rfl; rw [this, List.length_append, ih, hs, List.length_cons, Nat.add_mul]; omega
theorem cellsOf_get {enc : α → List Value} {sz : Nat} (hs : ∀ x, (enc x).length = sz) (l : List α) (i j : Nat) (hj : j < sz) :
    (cellsOf enc l)[i * sz + j]? = (l[i]?).bind fun x => (enc x)[j]? := by
  induction l generalizing i with
  | nil => simp [cellsOf]
  | cons x l ih =>
    have : cellsOf enc (x :: l) = enc x ++ cellsOf enc l := rfl; rw [this]; cases i with
    | zero => rw [List.getElem?_append_left (by rw [hs]; omega)]; simp
    | succ i =>
      rw [List.getElem?_append_right (by rw [hs, Nat.add_mul]; omega), hs, show (i + 1) * sz + j - sz = i * sz + j by rw [Nat.add_mul]; omega, ih]; simp
theorem cellsOf_take {enc : α → List Value} {sz : Nat} (hs : ∀ x, (enc x).length = sz) (l : List α) (k : Nat) : cellsOf enc (l.take k) = (cellsOf enc l).take (k * sz) := by
  induction l generalizing k with
  | nil => simp [cellsOf]
  | cons x l ih =>
    cases k with
    | zero => simp [cellsOf]
    | succ k =>
      have h1 : cellsOf enc (x :: l) = enc x ++ cellsOf enc l := rfl; have h2 : cellsOf enc ((x :: l).take (k + 1)) = enc x ++ cellsOf enc (l.take k) := rfl; rw [h1, h2, List.take_append, ih, List.take_of_length_le (l := enc x) (by rw [hs, Nat.add_mul]; omega), hs, show (k + 1) * sz - sz = k * sz by rw [Nat.add_mul]; omega]
theorem cellsOf_drop {enc : α → List Value} {sz : Nat} (hs : ∀ x, (enc x).length = sz) (l : List α) (k : Nat) : cellsOf enc (l.drop k) = (cellsOf enc l).drop (k * sz) := by
  induction l generalizing k with
  | nil => simp [cellsOf]
  | cons x l ih =>
    cases k with
    | zero => simp [cellsOf]
    | succ k =>
      have h1 : cellsOf enc (x :: l) = enc x ++ cellsOf enc l := rfl; have h2 : cellsOf enc ((x :: l).drop (k + 1)) = cellsOf enc (l.drop k) := rfl; rw [h1, h2, List.drop_append, ih, List.drop_of_length_le (l := enc x) (by rw [hs, Nat.add_mul]; omega), hs, show (k + 1) * sz - sz = k * sz by rw [Nat.add_mul]; omega]; simp
theorem cellsOf_mem {enc : α → List Value} (h1 : ∀ x, ∀ v ∈ enc x, v.oneCell' = true) (l : List α) : ∀ u ∈ cellsOf enc l, u.oneCell' = true := by
  intro u hu; obtain ⟨x, _, hx⟩ := List.mem_flatMap.1 hu; exact h1 x u hx
theorem ext_of {xs ys : List Value} (h : ∀ j : Nat, xs[j]? = ys[j]?) : xs = ys := List.ext_getElem? h
/-- the cells of element k, set one by one, are the cells of the list with element k set: two cells -/
theorem cellsOf_set2 {enc : α → List Value} (hs : ∀ x, (enc x).length = 2) (l : List α) (k : Nat) (x : α) (u v : Value) (he : enc x = [u, v]) (hk : k < l.length) :
    ((cellsOf enc l).set (k * 2) u).set (k * 2 + 1) v = cellsOf enc (l.set k x) := by
  induction l generalizing k with
  | nil => simp at hk
  | cons y l ih =>
    have h1 : cellsOf enc (y :: l) = enc y ++ cellsOf enc l := rfl; have hy := hs y
    match h : enc y, hy with
    | [p, q], _ =>
      cases k with
      | zero => simp [cellsOf, h, he]
      | succ k =>
        have h2 : cellsOf enc ((y :: l).set (k + 1) x) = enc y ++ cellsOf enc (l.set k x) := rfl; rw [h1, h2, h, ← ih k (by simpa using hk), show (k + 1) * 2 = k * 2 + 1 + 1 by omega]; simp
end

/-! ### make([]T, n, c) -/
/-! ### A slice that reads as a list -/
section
variable {α : Type}
/-- the slice of n elements at A reads as l; its block lies below B -/
def Sl (enc : α → List Value) (w : World) (B : Nat) (A : Option Addr) (n : Nat) (l : List α) : Prop :=
  l.length = n ∧ (0 < n → ∃ b off, A = some ⟨b, off, none⟩ ∧ b < B ∧ ∀ (j : Nat) (u : Value), (cellsOf enc l)[j]? = some u → w.cell? ⟨b, off + j, none⟩ = some u)
variable {enc : α → List Value} {w w' : World} {B n : Nat} {A : Option Addr} {l : List α}
theorem Sl.len (h : Sl enc w B A n l) : l.length = n := h.1
theorem Sl.spot (h : Sl enc w B A n l) (hn : 0 < n) : ∃ b off, A = some ⟨b, off, none⟩ ∧ b < B := by
  obtain ⟨b, off, h1, h2, _⟩ := h.2 hn; exact ⟨b, off, h1, h2⟩
theorem Sl.nil (enc : α → List Value) (w : World) (B : Nat) (A : Option Addr) : Sl enc w B A 0 [] := ⟨rfl, fun h => absurd h (by omega)⟩
theorem Sl.nil_of (h : Sl enc w B A 0 l) : l = [] := List.eq_nil_of_length_eq_zero h.1
theorem Sl.keep (h : Sl enc w B A n l) (hb : Below B w w') : Sl enc w' B A n l :=
  ⟨h.1, fun hn => by
    obtain ⟨b, off, h1, h2, h3⟩ := h.2 hn; exact ⟨b, off, h1, h2, fun j u hu => (hb.cell (p := ⟨b, off + j, none⟩) h2).trans (h3 j u hu)⟩⟩
theorem Sl.more {B' : Nat} (h : Sl enc w B A n l) (hB : B ≤ B') : Sl enc w B' A n l :=
  ⟨h.1, fun hn => by
    obtain ⟨b, off, h1, h2, h3⟩ := h.2 hn; exact ⟨b, off, h1, by omega, h3⟩⟩
/-- read on in a later world, as a reading below that world's own size -/
theorem Sl.on (h : Sl enc w w.heap.size A n l) (hb : Below w.heap.size w w') : Sl enc w' w'.heap.size A n l := (h.keep hb).more hb.size
theorem Sl.cells {b off : Nat} (h : Sl enc w B (some ⟨b, off, none⟩) n l) (hn : 0 < n) : b < B ∧ ∀ (j : Nat) (u : Value), (cellsOf enc l)[j]? = some u → w.cell? ⟨b, off + j, none⟩ = some u := by
  obtain ⟨b', off', h1, h2, h3⟩ := h.2 hn; simp only [Option.some.injEq, Addr.mk.injEq, and_true] at h1
  obtain ⟨rfl, rfl⟩ := h1; exact ⟨h2, h3⟩
theorem Sl.at_ {b off sz : Nat} (hs : ∀ x, (enc x).length = sz) (h : Sl enc w B (some ⟨b, off, none⟩) n l) {k : Nat} (hk : k < n) :
    ∃ x, l[k]? = some x ∧ ∀ (j : Nat) (u : Value), (enc x)[j]? = some u → w.cell? ⟨b, off + (k * sz + j), none⟩ = some u := by
  obtain ⟨_, h3⟩ := h.cells (by omega); have hl : k < l.length := by rw [h.1]; exact hk
  refine ⟨l[k], List.getElem?_eq_getElem hl, fun j u hu => h3 _ u ?_⟩; have hj : j < sz := by have := (List.getElem?_eq_some_iff.1 hu).1; rw [hs] at this; exact this
  rw [cellsOf_get hs l k j hj, List.getElem?_eq_getElem hl]
  simpa using hu
/-- a cut 's[i:j]' with an address of its own -/
theorem Sl.cut {b off sz : Nat} (hs : ∀ x, (enc x).length = sz) (h : Sl enc w B (some ⟨b, off, none⟩) n l) (i j : Nat) (hij : i ≤ j) (hj : j ≤ n) :
    Sl enc w B (some ⟨b, off + i * sz, none⟩) (j - i) ((l.drop i).take (j - i)) := by
  refine ⟨by rw [List.length_take, List.length_drop, h.1]; omega, fun hn => ?_⟩; obtain ⟨h2, h3⟩ := h.cells (by omega); refine ⟨b, off + i * sz, rfl, h2, fun q u hu => ?_⟩; rw [cellsOf_take hs, cellsOf_drop hs, List.getElem?_take] at hu
  split at hu
  · rw [List.getElem?_drop] at hu; have := h3 _ u hu; rw [← Nat.add_assoc] at this; exact this
  · cases hu
end

/-! ### A slice that the call owns -/
section
variable {α : Type}
/-- the slice .slice A n c owns a row (from block base on, not frozen) whose first n elements are l -/
def Own (enc : α → List Value) (sz : Nat) (e : TypeId) (w : World) (base : Nat) (v : Value) (l : List α) : Prop :=
  w.ownsRow base e sz v l.length (cellsOf enc l)
variable {enc : α → List Value} {sz : Nat} {e : TypeId} {w w' : World} {base n c : Nat} {A : Option Addr} {v : Value} {l : List α}
theorem Own.form (h : Own enc sz e w base v l) : ∃ A c, v = .slice A l.length c ∧ l.length ≤ c ∧ c ≤ maxLen := by
  rcases h.2 with ⟨h1, h2⟩ | ⟨g, cap, cur, h1, _, _, h4, h5, _⟩
  · exact ⟨none, 0, by rw [h2]; exact h1, by omega, by simp [maxLen]⟩
  · exact ⟨_, cap, h1, h4, h5⟩
theorem Own.sl (h : Own enc sz e w base (.slice A n c) l) : Sl enc w w.heap.size A n l := by
  obtain ⟨A', c', hv, _, _⟩ := h.form
  injection hv with h1 h2 h3
  subst h1; subst h2; subst h3; refine ⟨rfl, fun hn => ?_⟩
  rcases h.2 with ⟨h1, h2⟩ | ⟨g, cap, cur, h1, _, hh, _⟩
  · omega
  · injection h1 with h1 h2 h3
    subst h1; refine ⟨g, 0, rfl, (Array.getElem?_eq_some_iff.1 hh).1, fun j u hu => ?_⟩; have hlt := (List.getElem?_eq_some_iff.1 hu).1; have hl := h.1; rw [Nat.zero_add]; subst h3; rw [World.ownsRow.cellAt h j (by omega)]; exact hu
theorem Own.keep {B : Nat} (h : Own enc sz e w base v l) (hb : Below B w w') (hB : w.heap.size ≤ B) : Own enc sz e w' base v l := by
  refine ⟨h.1, ?_⟩
  rcases h.2 with hn | ⟨g, cap, cur, rfl, h1, h2, h3⟩
  · exact .inl hn
  · exact .inr ⟨g, cap, cur, rfl, h1, by rw [hb.block g (by have := (Array.getElem?_eq_some_iff.1 h2).1; omega)]; exact h2, h3⟩
theorem Own.on (h : Own enc sz e w base v l) (hb : Below w.heap.size w w') : Own enc sz e w' base v l := h.keep hb (Nat.le_refl _)
theorem Own.lower {base' : Nat} (h : Own enc sz e w base v l) (hb : base' ≤ base) : Own enc sz e w base' v l := by
  refine ⟨h.1, ?_⟩
  rcases h.2 with hn | ⟨g, cap, cur, rfl, h1, h2⟩
  · exact .inl hn
  · exact .inr ⟨g, cap, cur, rfl, by omega, h2⟩
theorem Own.nil (w : World) (base : Nat) : Own enc sz e w base (.slice none 0 0) ([] : List α) := World.ownsRow_nil w base e sz
theorem Own.len (h : Own enc sz e w base (.slice A n c) l) : l.length = n := by
  obtain ⟨A', c', hv, _, _⟩ := h.form
  injection hv with h1 h2 h3
  exact h2.symm
theorem Own.block (h : Own enc sz e w base (.slice A n c) l) {a : Addr} (ha : A = some a) : base ≤ a.block ∧ a.block < w.heap.size ∧ a.off = 0 ∧ a.spot = none := by
  subst ha
  rcases h.2 with ⟨h1, _⟩ | ⟨g, cap, cur, h1, hb, hh, _⟩
  · injection h1 with h1; cases h1
  · injection h1 with h1 h2 h3
    injection h1 with h1
    subst h1; exact ⟨hb, (Array.getElem?_eq_some_iff.1 hh).1, rfl, rfl⟩
end

/-! ### Stores into an owned row of two-cell elements; a new row -/
section
variable {α : Type} {enc : α → List Value} {e : TypeId} {w : World} {base n c g : Nat} {l : List α}
theorem Own.cellAt {sz : Nat} (hs : ∀ x, (enc x).length = sz) (h : Own enc sz e w base (.slice (some ⟨g, 0, none⟩) n c) l) {k j : Nat} {x : α} {u : Value} (hx : l[k]? = some x) (hu : (enc x)[j]? = some u) :
    w.cell? ⟨g, k * sz + j, none⟩ = some u := by
  have hn := h.len; have hk := (List.getElem?_eq_some_iff.1 hx).1; have hj : j < sz := by have := (List.getElem?_eq_some_iff.1 hu).1; rw [hs] at this; exact this
  have h' : w.ownsRow base e sz (.slice (some ⟨g, 0, none⟩) l.length c) l.length (cellsOf enc l) := by rw [hn]; rw [Own, hn] at h; exact h
  have hlt : k * sz + j < l.length * sz := by
    have : (k + 1) * sz ≤ l.length * sz := Nat.mul_le_mul_right _ hk; rw [Nat.add_mul] at this; omega
  rw [World.ownsRow.cellAt h' _ hlt, cellsOf_get hs l k j hj, hx]; exact hu
theorem Own.free {sz : Nat} (h : Own enc sz e w base (.slice (some ⟨g, 0, none⟩) n c) l) (j : Nat) : w.frozen? ⟨g, j, none⟩ = false := by
  have hn := h.len; have h' : w.ownsRow base e sz (.slice (some ⟨g, 0, none⟩) l.length c) l.length (cellsOf enc l) := by rw [hn]; rw [Own, hn] at h; exact h
  exact World.ownsRow.frozenAt h' j
theorem Own.set2 (hs : ∀ x, (enc x).length = 2) (h : Own enc 2 e w base (.slice (some ⟨g, 0, none⟩) n c) l) (k : Nat) (x : α) (u v : Value) (he : enc x = [u, v]) (hk : k < n) :
    Own enc 2 e ((w.setCell ⟨g, k * 2, none⟩ u).setCell ⟨g, k * 2 + 1, none⟩ v) base (.slice (some ⟨g, 0, none⟩) n c) (l.set k x) := by
  have hn := h.len; have h' : w.ownsRow base e 2 (.slice (some ⟨g, 0, none⟩) l.length c) l.length (cellsOf enc l) := by rw [hn]; rw [Own, hn] at h; exact h
  have h1 := (h'.stored (k * 2) u).1; have h2 := (h1.stored (k * 2 + 1) v).1; rw [cellsOf_set2 hs l k x u v he (by omega)] at h2
  unfold Own
  rw [List.length_set]; rw [hn] at h2 ⊢; exact h2
theorem Own.made {sz : Nat} (w : World) (cs : Array Value) (hb : base ≤ w.heap.size) (hm : l.length ≤ maxLen) (hs : ∀ x, (enc x).length = sz) (hc : cs.toList = cellsOf enc l) :
    Own enc sz e (w.alloc (.cells cs e)) base (.slice (some ⟨w.heap.size, 0, none⟩) l.length l.length) l := by
  unfold Own
  rw [← hc]; refine World.ownsRow_lit w cs l.length hb hm ?_; rw [← Array.length_toList, hc, cellsOf_length hs]
end
end Go.Proofs.Ytpmeaikiaoojkaa
namespace Go.Proofs.Ytpmeaikiaoojkaa
open Go.RowKit
section
variable {α : Type} {enc : α → List Value} {sz : Nat} {e : TypeId} {w w' : World} {base n c g : Nat} {l : List α}
theorem cellsOf_setj (hs : ∀ x, (enc x).length = sz) (l : List α) (k j : Nat) (x x' : α) (u : Value) (hx : l[k]? = some x) (hj : j < sz) (he : enc x' = (enc x).set j u) :
    (cellsOf enc l).set (k * sz + j) u = cellsOf enc (l.set k x') := by
  have hsz : 0 < sz := by omega
  have hk := (List.getElem?_eq_some_iff.1 hx).1
  have hlt : k * sz + j < l.length * sz := by
    have : (k + 1) * sz ≤ l.length * sz := Nat.mul_le_mul_right _ hk; rw [Nat.add_mul] at this; omega
  apply ext_of
  intro q; have hd : q = q / sz * sz + q % sz := by rw [Nat.mul_comm]; exact (Nat.div_add_mod q sz).symm
  have hm : q % sz < sz := Nat.mod_lt _ hsz
  by_cases hq : q = k * sz + j
  · rw [List.getElem?_set, if_pos hq.symm, if_pos (by rw [cellsOf_length hs]; exact hlt), hq, cellsOf_get hs _ _ _ hj, List.getElem?_set, if_pos rfl, if_pos hk]; simp only [Option.bind_some]
    rw [he, List.getElem?_set, if_pos rfl, if_pos (by rw [hs]; exact hj)]
  · rw [List.getElem?_set, if_neg (Ne.symm hq), hd, cellsOf_get hs _ _ _ hm, cellsOf_get hs _ _ _ hm, List.getElem?_set]
    by_cases hqk : q / sz = k
    · rw [if_pos hqk.symm, if_pos hk, hqk, hx]; simp only [Option.bind_some]
      rw [he, List.getElem?_set, if_neg]; rintro rfl; exact hq (by rw [← hqk]; exact hd)
    · rw [if_neg (Ne.symm hqk)]
theorem Own.at_ (h : Own enc sz e w base (.slice (some ⟨g, 0, none⟩) n c) l) : w.ownsRow base e sz (.slice (some ⟨g, 0, none⟩) l.length c) l.length (cellsOf enc l) := by
  have hn := h.len; rw [hn]; rw [Own, hn] at h; exact h
theorem Own.set1 (hs : ∀ x, (enc x).length = sz) (h : Own enc sz e w base (.slice (some ⟨g, 0, none⟩) n c) l) (k j : Nat) (x x' : α) (u : Value) (hx : l[k]? = some x) (hj : j < sz) (he : enc x' = (enc x).set j u) :
    Own enc sz e (w.setCell ⟨g, k * sz + j, none⟩ u) base (.slice (some ⟨g, 0, none⟩) n c) (l.set k x') := by
  have hn := h.len; have h1 := (h.at_.stored (k * sz + j) u).1; rw [cellsOf_setj hs l k j x x' u hx hj he] at h1
  unfold Own
  rw [List.length_set]; rw [hn] at h1 ⊢; exact h1
/-- only the row at A may have turned, and what is new -/
def Turn (A : Option Addr) (w w' : World) : Prop := w.grownBy w' (A.map (·.block))
theorem Turn.of_below {A : Option Addr} (h : Below w.heap.size w w') : Turn A w w' := ⟨h.os, h.tape, h.output, h.size, fun i hi _ => h.block i hi⟩
theorem Turn.refl (A : Option Addr) (w : World) : Turn A w w := ⟨rfl, rfl, rfl, Nat.le_refl _, fun _ _ _ => rfl⟩
theorem Turn.trans {A : Option Addr} {w1 w2 w3 : World} (h : Turn A w1 w2) (k : Turn A w2 w3) : Turn A w1 w3 :=
  ⟨k.os.trans h.os, k.tape.trans h.tape, k.output.trans h.output, Nat.le_trans h.size k.size, fun i hi hne => (k.block i (Nat.lt_of_lt_of_le hi h.size) hne).trans (h.block i hi hne)⟩
theorem Turn.below {A : Option Addr} {w1 w2 w3 : World} (h : Turn A w1 w2) (k : Below w2.heap.size w2 w3) : Turn A w1 w3 := h.trans (Turn.of_below k)
theorem Turn.set {w1 w2 : World} (h : Turn (some ⟨g, 0, none⟩) w1 w2) (o : Nat) (u : Value) : Turn (some ⟨g, 0, none⟩) w1 (w2.setCell ⟨g, o, none⟩ u) :=
  h.trans ⟨rfl, rfl, rfl, by simp, fun i _ hne => Below.heap_setCell _ _ _ _ (by rintro rfl; exact hne rfl)⟩
/-- a row of the call's own was turned: for the caller nothing below its base -/
theorem Turn.bel {A : Option Addr} {a : World} (hb : Below a.heap.size a w) (h : Turn A w w') (hA : ∀ x, A = some x → a.heap.size ≤ x.block) : Below a.heap.size a w' :=
  hb.trans ⟨h.os, h.tape, h.output, h.size, fun i hi => h.block i (Nat.lt_of_lt_of_le hi hb.size) (fun e => by
    cases A with
    | none => cases e
    | some x =>
      simp only [Option.map_some, Option.some.injEq] at e
      have := hA x rfl
      omega)⟩
/-- another owned row lies as it lay -/
theorem Own.far {A B : Option Addr} {n c : Nat} (h : Own enc sz e w base (.slice B n c) l) (ht : Turn A w w') (hne : ∀ x y, A = some x → B = some y → x.block ≠ y.block) : Own enc sz e w' base (.slice B n c) l := by
  refine World.ownsRow.kept h ht ?_; cases B with
  | none => exact .inl rfl
  | some y =>
    refine .inr ?_; cases A with
    | none => simp [Value.ownBlock]
    | some x =>
      simp only [Value.ownBlock, Option.map_some, ne_eq, Option.some.injEq]
      exact Ne.symm (hne x y rfl rfl)
/-- rows that were made one behind the other lie apart -/
theorem Own.apart {α' : Type} {enc' : α' → List Value} {sz' : Nat} {e' : TypeId} {A B : Option Addr} {n c n' c' base' : Nat} {l' : List α'} {w0 : World} (h : Own enc sz e w0 base (.slice A n c) l) (k : Own enc' sz' e' w base' (.slice B n' c') l') (hb : w0.heap.size ≤ base') :
    ∀ x y, A = some x → B = some y → x.block ≠ y.block := by
  intro x y hx hy; have h1 := (h.block hx).2.1; have h2 := (k.block hy).1
  omega
end
end Go.Proofs.Ytpmeaikiaoojkaa
namespace Go.Proofs.Ytpmeaikiaoojkaa
open Go.RowKit
section
variable {P : Program} (w : World) {α : Type} {enc : α → List Value}
theorem run_append_sl (base : Nat) (t ty e : TypeId) (i : TypeInfo) (z : Value) (size bytes : Nat) (ht : P.underlying t = some (.slice e)) (hi : P.info? e = some i) (hz : i.zero = some z)
    (hsize : i.size = size) (hby : i.bytes = bytes) (hzs : z.cells.size = size) (hsz : 0 < size) (henc : ∀ x, (enc x).length = size) (h1 : ∀ x, ∀ u ∈ enc x, u.oneCell' = true)
    (v : Value) (l : List α) (hown : Own enc size e w base v l)
    (B : Nat) (A : Option Addr) (m c : Nat) (l2 : List α) (hr : Sl enc w B A m l2)
    (h63 : l.length + m ≤ maxLen) (hbytes : (l.length + m) * bytes ≤ 140737488355328) (hbase : base ≤ w.heap.size) :
    ∃ v' w', (Builtin.append_ #[t, t] ty #[v, .slice A m c]).run P w = .ok v' w' ∧ Own enc size e w' base v' (l ++ l2) ∧ w.grownBy w' v.ownBlock := by
  have hlen := hr.len
  have fin : ∀ {v' : Value} {w' : World}, w'.ownsRow base e size v' (l.length + m) (cellsOf enc l ++ cellsOf enc l2) → Own enc size e w' base v' (l ++ l2) := by
    intro v' w' h
    unfold Own
    rw [cellsOf_append, List.length_append, hlen]; exact h
  rcases A with _ | ad
  · have hm : m = 0 := by
      rcases Nat.eq_zero_or_pos m with h0 | h0
      · exact h0
      · obtain ⟨b, off, h, _⟩ := hr.spot h0; cases h
    subst hm; have hn : l2 = [] := hr.nil_of; subst hn; refine ⟨v, w, ?_, by rw [List.append_nil]; exact hown, ⟨rfl, rfl, rfl, Nat.le_refl _, fun _ _ _ => rfl⟩⟩; have hown' : w.ownsRow base e size v l.length (cellsOf enc l) := hown
    rcases hown'.2 with ⟨rfl, hl0⟩ | ⟨g, cap, cur, rfl, _, _, hnc, _⟩
    · simp [Builtin.append_, run_underlying ht, sizeOf, typeInfo, hi, Builtin.lenOf, Builtin.firstCells]
    · simp [Builtin.append_, run_underlying ht, sizeOf, typeInfo, hi, Builtin.lenOf, Builtin.firstCells, hnc, storeCells]
  · have hcells : ∀ j u, (cellsOf enc l2)[j]? = some u → w.cell? (ad.add j) = some u := by
      intro j u hu
      rcases Nat.eq_zero_or_pos m with h0 | h0
      · subst h0; rw [hr.nil_of] at hu; simp [cellsOf] at hu
      · obtain ⟨b, off, h, _⟩ := hr.spot h0
        injection h with h
        subst h; have := (hr.cells h0).2 j u hu; have hadd : (⟨b, off, none⟩ : Addr).add j = ⟨b, off + j, none⟩ := by unfold Addr.add; split <;> simp_all
        rw [hadd]; exact this
    obtain ⟨v', w', hrun, h2, h3, _⟩ := run_append_own (P := P) w base t ty e i z size bytes ht hi hz hsize hby hzs hsz v l.length (cellsOf enc l) hown ad m c (cellsOf enc l2)
      (by rw [cellsOf_length henc, hlen]) hcells (cellsOf_mem h1 l2) h63 hbytes hbase
    exact ⟨v', w', hrun, fin h2, h3⟩

theorem wp_append_sl {o : Oper} {a : Act} {K : Act → World → Prop} {Q : Exit → Act → World → Prop} (s x : Operand) (t : TypeId)
    (ho : o.op = .call { callee := .builtin .append, args := #[s, x], argTypes := #[t, t] })
    (base : Nat) (e : TypeId) (i : TypeInfo) (z : Value) (size bytes : Nat) (ht : P.underlying t = some (.slice e)) (hi : P.info? e = some i) (hz : i.zero = some z)
    (hsize : i.size = size) (hby : i.bytes = bytes) (hzs : z.cells.size = size) (hsz : 0 < size) (henc : ∀ x, (enc x).length = size) (h1 : ∀ x, ∀ u ∈ enc x, u.oneCell' = true)
    (v : Value) (l : List α) (hs : a.eval s = v) (hown : Own enc size e w base v l)
    (B : Nat) (A : Option Addr) (m c : Nat) (l2 : List α) (hx : a.eval x = .slice A m c) (hr : Sl enc w B A m l2)
    (h63 : l.length + m ≤ maxLen) (hbytes : (l.length + m) * bytes ≤ 140737488355328) (hbase : base ≤ w.heap.size)
    (h : ∀ v' w', Own enc size e w' base v' (l ++ l2) → w.grownBy w' v.ownBlock → K (a.put o.dst v') w') : o.wp P a w K Q := by
  obtain ⟨v', w', hrun, h2, h3⟩ := run_append_sl (P := P) w base t o.type e i z size bytes ht hi hz hsize hby hzs hsz henc h1 v l hown B A m c l2 hr h63 hbytes hbase
  unfold Oper.wp execOp
  simp only [ho, resolve, invoke, builtin, Sem.run_bind, Sem.run_pure, Result.andThen_ok, List.map_toArray, List.map_cons, List.map_nil, hs, hx, hrun]
  exact h v' w' h2 h3

theorem wpList_append_sl {ops : Array Oper} {rest : List Oper} {o : Oper} {a : Act} {Q : Exit → Act → World → Prop} (hgd : o.guard = none) (s x : Operand) (t : TypeId)
    (ho : o.op = .call { callee := .builtin .append, args := #[s, x], argTypes := #[t, t] })
    (base : Nat) (e : TypeId) (i : TypeInfo) (z : Value) (size bytes : Nat) (ht : P.underlying t = some (.slice e)) (hi : P.info? e = some i) (hz : i.zero = some z)
    (hsize : i.size = size) (hby : i.bytes = bytes) (hzs : z.cells.size = size) (hsz : 0 < size) (henc : ∀ x, (enc x).length = size) (h1 : ∀ x, ∀ u ∈ enc x, u.oneCell' = true)
    (v : Value) (l : List α) (hs : a.eval s = v) (hown : Own enc size e w base v l)
    (B : Nat) (A : Option Addr) (m c : Nat) (l2 : List α) (hx : a.eval x = .slice A m c) (hr : Sl enc w B A m l2)
    (h63 : l.length + m ≤ maxLen) (hbytes : (l.length + m) * bytes ≤ 140737488355328) (hbase : base ≤ w.heap.size)
    (h : ∀ v' w', Own enc size e w' base v' (l ++ l2) → w.grownBy w' v.ownBlock → wpList P ops Q rest (a.put o.dst v') w') : wpList P ops Q (o :: rest) a w :=
  wpList_plain hgd fun _ hK => wp_append_sl w s x t ho base e i z size bytes ht hi hz hsize hby hzs hsz henc h1 v l hs hown B A m c l2 hx hr h63 hbytes hbase fun v' w' h2 h3 => hK _ _ (h v' w' h2 h3)

theorem step_append_sl {ops : Array Oper} {o : Oper} {a : Act} {K : Act → World → Prop} {Q : Exit → Act → World → Prop} {E : Prop} (hgd : o.guard = none) (s x : Operand) (t : TypeId)
    (ho : o.op = .call { callee := .builtin .append, args := #[s, x], argTypes := #[t, t] })
    (base : Nat) (e : TypeId) (i : TypeInfo) (z : Value) (size bytes : Nat) (ht : P.underlying t = some (.slice e)) (hi : P.info? e = some i) (hz : i.zero = some z)
    (hsize : i.size = size) (hby : i.bytes = bytes) (hzs : z.cells.size = size) (hsz : 0 < size) (henc : ∀ x, (enc x).length = size) (h1 : ∀ x, ∀ u ∈ enc x, u.oneCell' = true)
    (v : Value) (l : List α) (hs : a.eval s = v) (hown : Own enc size e w base v l)
    (B : Nat) (A : Option Addr) (m c : Nat) (l2 : List α) (hx : a.eval x = .slice A m c) (hr : Sl enc w B A m l2)
    (h63 : l.length + m ≤ maxLen) (hbytes : (l.length + m) * bytes ≤ 140737488355328) (hbase : base ≤ w.heap.size)
    (h : ∀ v' w', Own enc size e w' base v' (l ++ l2) → w.grownBy w' v.ownBlock → K (a.put o.dst v') w') :
    if Region.wanted o (yielded ops a.tmps) = true then Oper.wp P o a w K Q else E := by
  have hw : Region.wanted o (yielded ops a.tmps) = true := by simp [Region.wanted, hgd]
  rw [if_pos hw]; exact wp_append_sl w s x t ho base e i z size bytes ht hi hz hsize hby hzs hsz henc h1 v l hs hown B A m c l2 hx hr h63 hbytes hbase h
end
section
variable {α : Type} {enc : α → List Value} {sz : Nat} {e : TypeId} {w w' : World} {base n c : Nat} {A : Option Addr} {v : Value} {l : List α}
/-- a row laid by a literal of one element -/
theorem Sl.lit1 (w : World) (cs : Array Value) (t : TypeId) (x : α) (h : cs.toList = enc x) : Sl enc (w.alloc (.cells cs t)) ((w.alloc (.cells cs t)).heap.size) (some ⟨w.heap.size, 0, none⟩) 1 [x] := by
  refine ⟨rfl, fun _ => ⟨w.heap.size, 0, rfl, by simp, fun j u hu => ?_⟩⟩; rw [cellsOf_one, ← h] at hu; rw [Nat.zero_add, cell_of_row _ w.heap.size j cs t (0, 0) (heap_alloc_new w _)]
  simpa using hu
/-- a cut 's[:k]' of whatever slice -/
theorem Sl.head {B k : Nat} (hs : ∀ x, (enc x).length = sz) (h : Sl enc w B A n l) (hk : k ≤ n) : Sl enc w B A k (l.take k) := by
  refine ⟨by rw [List.length_take, h.len]; omega, fun hk0 => ?_⟩; obtain ⟨b, off, rfl, hb⟩ := h.spot (by omega); obtain ⟨h2, h3⟩ := h.cells (by omega); refine ⟨b, off, rfl, h2, fun j u hu => ?_⟩; rw [cellsOf_take hs, List.getElem?_take] at hu
  split at hu
  · exact h3 j u hu
  · cases hu
/-- a cut 's[k:]' of a slice with an address -/
theorem Sl.rest {B b off k : Nat} (hs : ∀ x, (enc x).length = sz) (h : Sl enc w B (some ⟨b, off, none⟩) n l) (hk : k ≤ n) (hc : n ≤ c) :
    Sl enc w B (if c = k then some ⟨b, off, none⟩ else some ⟨b, off + k * sz, none⟩) (n - k) (l.drop k) := by
  by_cases h1 : c = k
  · rw [if_pos h1]; have hl : l.drop k = [] := List.drop_of_length_le (by rw [h.len]; omega); rw [hl, show n - k = 0 by omega]; exact Sl.nil _ _ _ _
  · rw [if_neg h1]; have := h.cut hs k n hk (Nat.le_refl _)
    rwa [List.take_of_length_le (by rw [List.length_drop, h.len]; exact Nat.le_refl _)] at this
theorem Own.made0 (w : World) (h : base ≤ w.heap.size) : Own enc sz e (w.alloc (.cells #[] e)) base (.slice (some ⟨w.heap.size, 0, none⟩) 0 0) ([] : List α) := by
  unfold Own
  exact World.ownsRow_lit w #[] 0 h (by simp [maxLen]) (by simp)
theorem Own.drewN (h : Own enc sz e w base v l) (k : Nat) : Own enc sz e (w.drewN k) base v l := h
theorem Own.drew (h : Own enc sz e w base v l) : Own enc sz e w.drew base v l := h
theorem Own.alloc (h : Own enc sz e w base v l) (o : Obj) : Own enc sz e (w.alloc o) base v l := World.ownsRow.alloc h o
end
end Go.Proofs.Ytpmeaikiaoojkaa
namespace Go.Proofs.Ytpmeaikiaoojkaa
open Go.RowKit

theorem keepC {W W' : World} (hb : Below W.heap.size W W') {b k : Nat} {v : Value} (c : W.cell? ⟨b, k, none⟩ = some v) : W'.cell? ⟨b, k, none⟩ = some v :=
  (hb.cell (p := ⟨b, k, none⟩) (World.block_lt_of_cell? W _ c)).trans c
/-- block B of type t holds the cells cs -/
def BoxC (W : World) (B : Nat) (t : TypeId) (cs : Array Value) : Prop := W.heap[B]? = some (.cells cs t (0, 0))
section
variable {W W' : World} {B : Nat} {t : TypeId} {cs : Array Value}
theorem BoxC.lt (h : BoxC W B t cs) : B < W.heap.size := (Array.getElem?_eq_some_iff.1 h).1
theorem BoxC.c (h : BoxC W B t cs) {k : Nat} {v : Value} (hk : cs[k]? = some v) : W.cell? ⟨B, k, none⟩ = some v := by
  simp only [World.cell?, show W.heap[B]? = _ from h]; simpa using hk
theorem BoxC.f (h : BoxC W B t cs) (k : Nat) : W.frozen? ⟨B, k, none⟩ = false := by simp [World.frozen?, show W.heap[B]? = _ from h]
theorem BoxC.new (W : World) (t : TypeId) (cs : Array Value) : BoxC (W.alloc (.cells cs t)) W.heap.size t cs := heap_alloc_new W _
theorem BoxC.on (h : BoxC W B t cs) (hb : Below W.heap.size W W') : BoxC W' B t cs := (hb.block B h.lt).trans h
theorem BoxC.turn {A : Option Addr} (h : BoxC W B t cs) (ht : Turn A W W') (hne : ∀ x, A = some x → B ≠ x.block) : BoxC W' B t cs :=
  (ht.block B h.lt (by
    cases A with
    | none => simp
    | some x => simpa using hne x rfl)).trans h
theorem BoxC.grown {row : Option Nat} (h : BoxC W B t cs) (hg : W.grownBy W' row) (hne : some B ≠ row) : BoxC W' B t cs := (hg.block B h.lt hne).trans h
theorem BoxC.alloc (h : BoxC W B t cs) (o : Obj) : BoxC (W.alloc o) B t cs := h.on (bel_alloc (Below.refl _ _) o)
theorem BoxC.drew (h : BoxC W B t cs) : BoxC W.drew B t cs := h
theorem BoxC.other {B' k : Nat} {x : Value} (h : BoxC W B t cs) (hne : B ≠ B') : BoxC (W.setCell ⟨B', k, none⟩ x) B t cs := (Below.heap_setCell _ _ _ _ (by simpa using hne)).trans h
theorem BoxC.set (h : BoxC W B t cs) (k : Nat) (x : Value) : BoxC (W.setCell ⟨B, k, none⟩ x) B t (cs.setIfInBounds k x) := by
  obtain ⟨hlt, hk⟩ := Array.getElem?_eq_some_iff.1 h
  show (W.heap.modify B _)[B]? = _
  rw [Array.getElem?_eq_getElem (by rw [Array.size_modify]; exact hlt), Array.getElem_modify_self, hk]
  rfl
theorem BoxC.apart {α : Type} {enc : α → List Value} {sz : Nat} {e : TypeId} {base n c : Nat} {A : Option Addr} {l : List α} (h : BoxC W B t cs) (hte : t ≠ e) (ho : Own enc sz e W base (.slice A n c) l) : ∀ x, A = some x → B ≠ x.block := by
  intro x hx hB
  rcases ho.2 with ⟨h1, _⟩ | ⟨g, cap, cur, h1, _, hh, _⟩
  · injection h1 with h1; rw [h1] at hx; cases hx
  · injection h1 with h1
    rw [h1] at hx; cases hx; simp only at hB
    subst hB; rw [show W.heap[_]? = _ from h] at hh; simp only [Option.some.injEq, Obj.cells.injEq] at hh
    exact hte hh.2.1
theorem BoxC.appended {α : Type} {enc : α → List Value} {sz : Nat} {e : TypeId} {base n c : Nat} {A : Option Addr} {l : List α} (h : BoxC W B t cs) (hte : t ≠ e) (ho : Own enc sz e W base (.slice A n c) l) (hg : W.grownBy W' (Value.slice A n c).ownBlock) : BoxC W' B t cs :=
  h.grown hg (fun eq => by
    cases A with
    | none => simp [Value.ownBlock] at eq
    | some x => exact h.apart hte ho x rfl (by simpa [Value.ownBlock] using eq))
/-- a row of one's own and a store into a box -/
theorem Own.box {α : Type} {enc : α → List Value} {sz : Nat} {e : TypeId} {base n c k : Nat} {A : Option Addr} {l : List α} {v : Value} (ho : Own enc sz e W base (.slice A n c) l) (h : BoxC W B t cs) (hte : t ≠ e) : Own enc sz e (W.setCell ⟨B, k, none⟩ v) base (.slice A n c) l :=
  ho.far ((Turn.refl (some ⟨B, 0, none⟩) W).set k v) (fun x y hx hy => by cases hx; exact h.apart hte ho y hy)
end
end Go.Proofs.Ytpmeaikiaoojkaa
namespace Go.Proofs.Ytpmeaikiaoojkaa
open Go.RowKit

theorem bput {a w w' : World} {B : Nat} (hb : Below a.heap.size a w) (ht : Turn (some ⟨B, 0, none⟩) w w') (h : a.heap.size ≤ B) : Below a.heap.size a w' := Turn.bel hb ht (fun z hz => by cases hz; exact h)
section
variable {P : Program} {ops : Array Oper} {Q : Exit → Act → World → Prop} {md : Region.Mode} {S : World → Prop}
theorem tk (i : Nat) {oi : Oper} {v : Value} {fuel : Nat} {listed : Array Bool} {a : Act} {w : World} (hi : ops.toList[i]? = some oi)
    (h : wpAnyH P md ops Q S fuel (listed.setIfInBounds i true) (a.put oi.dst v) w) (hS : S w := by assumption)
    (hy : ∀ w, S w → (execOp a.eval oi).run P w = .ok (.value v) w := by ((intro w hSw; (try dsimp only at hSw); go_simp); try with_reducible rfl))
    (hs : Region.noSelect ops = true := by kernel_rfl) (hf : Region.free md ops listed i = true := by kernel_rfl) (hr : (Region.ready md ops listed).contains i = true := by kernel_rfl)
    (hQ : ∀ c a w, Q (.panic c) (a.put oi.dst v) w → Q (.panic c) a w := by exact fun _ _ _ h => h)
    (hw : Region.wanted oi (yielded ops a.tmps) = true := by first | kernel_rfl | rfl) : wpAnyH P md ops Q S (fuel + 1) listed a w :=
  wpAnyH_take (by rw [← Array.getElem?_toList]; exact hi) hs hf hr hQ (.inl ⟨hw, hy⟩) hS h
theorem tkoff (i : Nat) {oi : Oper} {fuel : Nat} {listed : Array Bool} {a : Act} {w : World} (hi : ops.toList[i]? = some oi)
    (h : wpAnyH P md ops Q S fuel (listed.setIfInBounds i true) (a.put oi.dst undef) w) (hS : S w := by assumption)
    (hs : Region.noSelect ops = true := by kernel_rfl) (hf : Region.free md ops listed i = true := by kernel_rfl) (hr : (Region.ready md ops listed).contains i = true := by kernel_rfl)
    (hQ : ∀ c a w, Q (.panic c) (a.put oi.dst undef) w → Q (.panic c) a w := by exact fun _ _ _ h => h)
    (hw : Region.wanted oi (yielded ops a.tmps) = false := by first | kernel_rfl | rfl) : wpAnyH P md ops Q S (fuel + 1) listed a w :=
  wpAnyH_take (by rw [← Array.getElem?_toList]; exact hi) hs hf hr hQ (.inr ⟨hw, rfl⟩) hS h
theorem ry (i : Nat) {o : Oper} {fuel : Nat} {listed : Array Bool} {a : Act} {w : World} (ho : ops.toList[i]? = some o)
    (h : ∀ K' : Act → World → Prop, Shut (∀ a w, S w → (S w → wpAnyH P md ops Q S fuel (listed.setIfInBounds i true) a w) → K' a w) → if Region.wanted o (yielded ops a.tmps) = true then Oper.wp P o a w K' Q else K' (a.put o.dst undef) w)
    (hr : Region.ready md ops listed = [i] := by kernel_rfl) : wpAnyH P md ops Q S (fuel + 1) listed a w :=
  wpAnyH_ready hr (by simp) (AllReadyH.cons (by rw [← Array.getElem?_toList]; exact ho) h AllReadyH.nil)
theorem wS {fuel : Nat} {listed : Array Bool} {a : Act} {w : World} (hS : S w) (h : S w → wpAnyH P md ops Q S fuel listed a w) : wpAnyH P md ops Q S fuel listed a w := h hS
end
theorem AP : (∀ (a : Act) (d : Tmp) (v : Value), a.put (some d) v = { a with tmps := a.tmps.setIfInBounds d v }) ∧ (∀ (a : Act) (v : Value), a.put none v = a) ∧ (∀ (l : List Value) (i : Nat) (v : Value), l.toArray.setIfInBounds i v = (l.set i v).toArray) ∧ (∀ (x : Value) (xs : List Value) (v : Value), (x :: xs).set 0 v = v :: xs) ∧ (∀ (x : Value) (xs : List Value) (n : Nat) (v : Value), (x :: xs).set (n + 1) v = x :: xs.set n v) :=
  ⟨fun _ _ _ => rfl, fun _ _ => rfl, fun l i v => by simp, fun _ _ _ => rfl, fun _ _ _ _ => rfl⟩
theorem BoxC.k2 {W : World} {B : Nat} {t : TypeId} {c0 c1 : Value} {cs : List Value} (h : BoxC W B t (c0 :: c1 :: cs).toArray) : W.cell? ⟨B, 0, none⟩ = some c0 ∧ W.cell? ⟨B, 1, none⟩ = some c1 := ⟨h.c (k := 0) rfl, h.c (k := 1) rfl⟩
theorem BoxC.k3 {W : World} {B : Nat} {t : TypeId} {c0 c1 c2 : Value} {cs : List Value} (h : BoxC W B t (c0 :: c1 :: c2 :: cs).toArray) : W.cell? ⟨B, 0, none⟩ = some c0 ∧ W.cell? ⟨B, 1, none⟩ = some c1 ∧ W.cell? ⟨B, 2, none⟩ = some c2 := ⟨h.c (k := 0) rfl, h.c (k := 1) rfl, h.c (k := 2) rfl⟩
theorem BoxC.k4 {W : World} {B : Nat} {t : TypeId} {c0 c1 c2 c3 : Value} {cs : List Value} (h : BoxC W B t (c0 :: c1 :: c2 :: c3 :: cs).toArray) : W.cell? ⟨B, 0, none⟩ = some c0 ∧ W.cell? ⟨B, 1, none⟩ = some c1 ∧ W.cell? ⟨B, 2, none⟩ = some c2 ∧ W.cell? ⟨B, 3, none⟩ = some c3 := ⟨h.c (k := 0) rfl, h.c (k := 1) rfl, h.c (k := 2) rfl, h.c (k := 3) rfl⟩
theorem BoxC.k5 {W : World} {B : Nat} {t : TypeId} {c0 c1 c2 c3 c4 : Value} {cs : List Value} (h : BoxC W B t (c0 :: c1 :: c2 :: c3 :: c4 :: cs).toArray) : W.cell? ⟨B, 0, none⟩ = some c0 ∧ W.cell? ⟨B, 1, none⟩ = some c1 ∧ W.cell? ⟨B, 2, none⟩ = some c2 ∧ W.cell? ⟨B, 3, none⟩ = some c3 ∧ W.cell? ⟨B, 4, none⟩ = some c4 := ⟨h.c (k := 0) rfl, h.c (k := 1) rfl, h.c (k := 2) rfl, h.c (k := 3) rfl, h.c (k := 4) rfl⟩
theorem BoxC.k8 {W : World} {B : Nat} {t : TypeId} {c0 c1 c2 c3 c4 c5 c6 c7 : Value} {cs : List Value} (h : BoxC W B t (c0 :: c1 :: c2 :: c3 :: c4 :: c5 :: c6 :: c7 :: cs).toArray) : W.cell? ⟨B, 0, none⟩ = some c0 ∧ W.cell? ⟨B, 1, none⟩ = some c1 ∧ W.cell? ⟨B, 2, none⟩ = some c2 ∧ W.cell? ⟨B, 3, none⟩ = some c3 ∧ W.cell? ⟨B, 4, none⟩ = some c4 ∧ W.cell? ⟨B, 5, none⟩ = some c5 ∧ W.cell? ⟨B, 6, none⟩ = some c6 ∧ W.cell? ⟨B, 7, none⟩ = some c7 := ⟨h.c (k := 0) rfl, h.c (k := 1) rfl, h.c (k := 2) rfl, h.c (k := 3) rfl, h.c (k := 4) rfl, h.c (k := 5) rfl, h.c (k := 6) rfl, h.c (k := 7) rfl⟩
theorem hd1 (w : World) (t0 : TypeId) (c0 : Array Value) : ∃ w0, (w.alloc (.cells c0 t0)) = w0 ∧ BoxC w0 (w.heap.size) t0 c0 ∧ Below w.heap.size w w0 := ⟨_, rfl, (BoxC.new w t0 c0), (bel_alloc (Below.refl _ w) (.cells c0 t0))⟩
theorem hd2 (w : World) (t0 : TypeId) (c0 : Array Value) (t1 : TypeId) (c1 : Array Value) : ∃ w0, ((w.alloc (.cells c0 t0)).alloc (.cells c1 t1)) = w0 ∧ BoxC w0 (w.heap.size) t0 c0 ∧ BoxC w0 (w.heap.size + 1) t1 c1 ∧ Below w.heap.size w w0 := ⟨_, rfl, ((BoxC.new w t0 c0).alloc (.cells c1 t1)), by have h := (BoxC.new (w.alloc (.cells c0 t0)) t1 c1); simpa only [World.size_alloc] using h, (bel_alloc (bel_alloc (Below.refl _ w) (.cells c0 t0)) (.cells c1 t1))⟩
theorem hd3 (w : World) (t0 : TypeId) (c0 : Array Value) (t1 : TypeId) (c1 : Array Value) (t2 : TypeId) (c2 : Array Value) : ∃ w0, (((w.alloc (.cells c0 t0)).alloc (.cells c1 t1)).alloc (.cells c2 t2)) = w0 ∧ BoxC w0 (w.heap.size) t0 c0 ∧ BoxC w0 (w.heap.size + 1) t1 c1 ∧ BoxC w0 (w.heap.size + 1 + 1) t2 c2 ∧ Below w.heap.size w w0 := ⟨_, rfl, (((BoxC.new w t0 c0).alloc (.cells c1 t1)).alloc (.cells c2 t2)), by have h := ((BoxC.new (w.alloc (.cells c0 t0)) t1 c1).alloc (.cells c2 t2)); simpa only [World.size_alloc] using h, by have h := (BoxC.new ((w.alloc (.cells c0 t0)).alloc (.cells c1 t1)) t2 c2); simpa only [World.size_alloc] using h, (bel_alloc (bel_alloc (bel_alloc (Below.refl _ w) (.cells c0 t0)) (.cells c1 t1)) (.cells c2 t2))⟩
theorem hd5 (w : World) (t0 : TypeId) (c0 : Array Value) (t1 : TypeId) (c1 : Array Value) (t2 : TypeId) (c2 : Array Value) (t3 : TypeId) (c3 : Array Value) (t4 : TypeId) (c4 : Array Value) : ∃ w0, (((((w.alloc (.cells c0 t0)).alloc (.cells c1 t1)).alloc (.cells c2 t2)).alloc (.cells c3 t3)).alloc (.cells c4 t4)) = w0 ∧ BoxC w0 (w.heap.size) t0 c0 ∧ BoxC w0 (w.heap.size + 1) t1 c1 ∧ BoxC w0 (w.heap.size + 1 + 1) t2 c2 ∧ BoxC w0 (w.heap.size + 1 + 1 + 1) t3 c3 ∧ BoxC w0 (w.heap.size + 1 + 1 + 1 + 1) t4 c4 ∧ Below w.heap.size w w0 := ⟨_, rfl, (((((BoxC.new w t0 c0).alloc (.cells c1 t1)).alloc (.cells c2 t2)).alloc (.cells c3 t3)).alloc (.cells c4 t4)), by have h := ((((BoxC.new (w.alloc (.cells c0 t0)) t1 c1).alloc (.cells c2 t2)).alloc (.cells c3 t3)).alloc (.cells c4 t4)); simpa only [World.size_alloc] using h, by have h := (((BoxC.new ((w.alloc (.cells c0 t0)).alloc (.cells c1 t1)) t2 c2).alloc (.cells c3 t3)).alloc (.cells c4 t4)); simpa only [World.size_alloc] using h, by have h := ((BoxC.new (((w.alloc (.cells c0 t0)).alloc (.cells c1 t1)).alloc (.cells c2 t2)) t3 c3).alloc (.cells c4 t4)); simpa only [World.size_alloc] using h, by have h := (BoxC.new ((((w.alloc (.cells c0 t0)).alloc (.cells c1 t1)).alloc (.cells c2 t2)).alloc (.cells c3 t3)) t4 c4); simpa only [World.size_alloc] using h, (bel_alloc (bel_alloc (bel_alloc (bel_alloc (bel_alloc (Below.refl _ w) (.cells c0 t0)) (.cells c1 t1)) (.cells c2 t2)) (.cells c3 t3)) (.cells c4 t4))⟩
theorem hd6 (w : World) (t0 : TypeId) (c0 : Array Value) (t1 : TypeId) (c1 : Array Value) (t2 : TypeId) (c2 : Array Value) (t3 : TypeId) (c3 : Array Value) (t4 : TypeId) (c4 : Array Value) (t5 : TypeId) (c5 : Array Value) : ∃ w0, ((((((w.alloc (.cells c0 t0)).alloc (.cells c1 t1)).alloc (.cells c2 t2)).alloc (.cells c3 t3)).alloc (.cells c4 t4)).alloc (.cells c5 t5)) = w0 ∧ BoxC w0 (w.heap.size) t0 c0 ∧ BoxC w0 (w.heap.size + 1) t1 c1 ∧ BoxC w0 (w.heap.size + 1 + 1) t2 c2 ∧ BoxC w0 (w.heap.size + 1 + 1 + 1) t3 c3 ∧ BoxC w0 (w.heap.size + 1 + 1 + 1 + 1) t4 c4 ∧ BoxC w0 (w.heap.size + 1 + 1 + 1 + 1 + 1) t5 c5 ∧ Below w.heap.size w w0 := ⟨_, rfl, ((((((BoxC.new w t0 c0).alloc (.cells c1 t1)).alloc (.cells c2 t2)).alloc (.cells c3 t3)).alloc (.cells c4 t4)).alloc (.cells c5 t5)), by have h := (((((BoxC.new (w.alloc (.cells c0 t0)) t1 c1).alloc (.cells c2 t2)).alloc (.cells c3 t3)).alloc (.cells c4 t4)).alloc (.cells c5 t5)); simpa only [World.size_alloc] using h, by have h := ((((BoxC.new ((w.alloc (.cells c0 t0)).alloc (.cells c1 t1)) t2 c2).alloc (.cells c3 t3)).alloc (.cells c4 t4)).alloc (.cells c5 t5)); simpa only [World.size_alloc] using h, by have h := (((BoxC.new (((w.alloc (.cells c0 t0)).alloc (.cells c1 t1)).alloc (.cells c2 t2)) t3 c3).alloc (.cells c4 t4)).alloc (.cells c5 t5)); simpa only [World.size_alloc] using h, by have h := ((BoxC.new ((((w.alloc (.cells c0 t0)).alloc (.cells c1 t1)).alloc (.cells c2 t2)).alloc (.cells c3 t3)) t4 c4).alloc (.cells c5 t5)); simpa only [World.size_alloc] using h, by have h := (BoxC.new (((((w.alloc (.cells c0 t0)).alloc (.cells c1 t1)).alloc (.cells c2 t2)).alloc (.cells c3 t3)).alloc (.cells c4 t4)) t5 c5); simpa only [World.size_alloc] using h, (bel_alloc (bel_alloc (bel_alloc (bel_alloc (bel_alloc (bel_alloc (Below.refl _ w) (.cells c0 t0)) (.cells c1 t1)) (.cells c2 t2)) (.cells c3 t3)) (.cells c4 t4)) (.cells c5 t5))⟩
theorem rg_2 {P : Program} {ops : Array Oper} {Q : Exit → Act → World → Prop} {id : Nat} {a : Act} {W : World} {B0 : Nat} {t0 : TypeId} {a0_0 a0_1 : Value} (x0 : BoxC W B0 t0 #[a0_0, a0_1]) (h : (fun W' => (W'.cell? ⟨B0, 0, none⟩ = some a0_0 ∧ W'.cell? ⟨B0, 1, none⟩ = some a0_1)) W.drew → wpAnyH P .any ops Q (fun W' => (W'.cell? ⟨B0, 0, none⟩ = some a0_0 ∧ W'.cell? ⟨B0, 1, none⟩ = some a0_1)) ops.size (Array.replicate ops.size false) a W.drew) (hm : P.follows .mixedOrders = true := by kernel_rfl) : (Code.region id ops true).wp P Q a W := wp_region_held_drew (S := (fun W' => (W'.cell? ⟨B0, 0, none⟩ = some a0_0 ∧ W'.cell? ⟨B0, 1, none⟩ = some a0_1))) hm x0.drew.k2 h
theorem rg_8 {P : Program} {ops : Array Oper} {Q : Exit → Act → World → Prop} {id : Nat} {a : Act} {W : World} {B0 : Nat} {t0 : TypeId} {a0_0 a0_1 a0_2 a0_3 a0_4 a0_5 a0_6 a0_7 : Value} (x0 : BoxC W B0 t0 #[a0_0, a0_1, a0_2, a0_3, a0_4, a0_5, a0_6, a0_7]) (h : (fun W' => (W'.cell? ⟨B0, 0, none⟩ = some a0_0 ∧ W'.cell? ⟨B0, 1, none⟩ = some a0_1 ∧ W'.cell? ⟨B0, 2, none⟩ = some a0_2 ∧ W'.cell? ⟨B0, 3, none⟩ = some a0_3 ∧ W'.cell? ⟨B0, 4, none⟩ = some a0_4 ∧ W'.cell? ⟨B0, 5, none⟩ = some a0_5 ∧ W'.cell? ⟨B0, 6, none⟩ = some a0_6 ∧ W'.cell? ⟨B0, 7, none⟩ = some a0_7)) W.drew → wpAnyH P .any ops Q (fun W' => (W'.cell? ⟨B0, 0, none⟩ = some a0_0 ∧ W'.cell? ⟨B0, 1, none⟩ = some a0_1 ∧ W'.cell? ⟨B0, 2, none⟩ = some a0_2 ∧ W'.cell? ⟨B0, 3, none⟩ = some a0_3 ∧ W'.cell? ⟨B0, 4, none⟩ = some a0_4 ∧ W'.cell? ⟨B0, 5, none⟩ = some a0_5 ∧ W'.cell? ⟨B0, 6, none⟩ = some a0_6 ∧ W'.cell? ⟨B0, 7, none⟩ = some a0_7)) ops.size (Array.replicate ops.size false) a W.drew) (hm : P.follows .mixedOrders = true := by kernel_rfl) : (Code.region id ops true).wp P Q a W := wp_region_held_drew (S := (fun W' => (W'.cell? ⟨B0, 0, none⟩ = some a0_0 ∧ W'.cell? ⟨B0, 1, none⟩ = some a0_1 ∧ W'.cell? ⟨B0, 2, none⟩ = some a0_2 ∧ W'.cell? ⟨B0, 3, none⟩ = some a0_3 ∧ W'.cell? ⟨B0, 4, none⟩ = some a0_4 ∧ W'.cell? ⟨B0, 5, none⟩ = some a0_5 ∧ W'.cell? ⟨B0, 6, none⟩ = some a0_6 ∧ W'.cell? ⟨B0, 7, none⟩ = some a0_7))) hm x0.drew.k8 h
theorem rg_2_4 {P : Program} {ops : Array Oper} {Q : Exit → Act → World → Prop} {id : Nat} {a : Act} {W : World} {B0 B1 : Nat} {t0 t1 : TypeId} {a0_0 a0_1 a1_0 a1_1 a1_2 a1_3 : Value} (x0 : BoxC W B0 t0 #[a0_0, a0_1]) (x1 : BoxC W B1 t1 #[a1_0, a1_1, a1_2, a1_3]) (h : (fun W' => (W'.cell? ⟨B0, 0, none⟩ = some a0_0 ∧ W'.cell? ⟨B0, 1, none⟩ = some a0_1) ∧ (W'.cell? ⟨B1, 0, none⟩ = some a1_0 ∧ W'.cell? ⟨B1, 1, none⟩ = some a1_1 ∧ W'.cell? ⟨B1, 2, none⟩ = some a1_2 ∧ W'.cell? ⟨B1, 3, none⟩ = some a1_3)) W.drew → wpAnyH P .any ops Q (fun W' => (W'.cell? ⟨B0, 0, none⟩ = some a0_0 ∧ W'.cell? ⟨B0, 1, none⟩ = some a0_1) ∧ (W'.cell? ⟨B1, 0, none⟩ = some a1_0 ∧ W'.cell? ⟨B1, 1, none⟩ = some a1_1 ∧ W'.cell? ⟨B1, 2, none⟩ = some a1_2 ∧ W'.cell? ⟨B1, 3, none⟩ = some a1_3)) ops.size (Array.replicate ops.size false) a W.drew) (hm : P.follows .mixedOrders = true := by kernel_rfl) : (Code.region id ops true).wp P Q a W := wp_region_held_drew (S := (fun W' => (W'.cell? ⟨B0, 0, none⟩ = some a0_0 ∧ W'.cell? ⟨B0, 1, none⟩ = some a0_1) ∧ (W'.cell? ⟨B1, 0, none⟩ = some a1_0 ∧ W'.cell? ⟨B1, 1, none⟩ = some a1_1 ∧ W'.cell? ⟨B1, 2, none⟩ = some a1_2 ∧ W'.cell? ⟨B1, 3, none⟩ = some a1_3))) hm ⟨x0.drew.k2, x1.drew.k4⟩ h
theorem rg_2_8 {P : Program} {ops : Array Oper} {Q : Exit → Act → World → Prop} {id : Nat} {a : Act} {W : World} {B0 B1 : Nat} {t0 t1 : TypeId} {a0_0 a0_1 a1_0 a1_1 a1_2 a1_3 a1_4 a1_5 a1_6 a1_7 : Value} (x0 : BoxC W B0 t0 #[a0_0, a0_1]) (x1 : BoxC W B1 t1 #[a1_0, a1_1, a1_2, a1_3, a1_4, a1_5, a1_6, a1_7]) (h : (fun W' => (W'.cell? ⟨B0, 0, none⟩ = some a0_0 ∧ W'.cell? ⟨B0, 1, none⟩ = some a0_1) ∧ (W'.cell? ⟨B1, 0, none⟩ = some a1_0 ∧ W'.cell? ⟨B1, 1, none⟩ = some a1_1 ∧ W'.cell? ⟨B1, 2, none⟩ = some a1_2 ∧ W'.cell? ⟨B1, 3, none⟩ = some a1_3 ∧ W'.cell? ⟨B1, 4, none⟩ = some a1_4 ∧ W'.cell? ⟨B1, 5, none⟩ = some a1_5 ∧ W'.cell? ⟨B1, 6, none⟩ = some a1_6 ∧ W'.cell? ⟨B1, 7, none⟩ = some a1_7)) W.drew → wpAnyH P .any ops Q (fun W' => (W'.cell? ⟨B0, 0, none⟩ = some a0_0 ∧ W'.cell? ⟨B0, 1, none⟩ = some a0_1) ∧ (W'.cell? ⟨B1, 0, none⟩ = some a1_0 ∧ W'.cell? ⟨B1, 1, none⟩ = some a1_1 ∧ W'.cell? ⟨B1, 2, none⟩ = some a1_2 ∧ W'.cell? ⟨B1, 3, none⟩ = some a1_3 ∧ W'.cell? ⟨B1, 4, none⟩ = some a1_4 ∧ W'.cell? ⟨B1, 5, none⟩ = some a1_5 ∧ W'.cell? ⟨B1, 6, none⟩ = some a1_6 ∧ W'.cell? ⟨B1, 7, none⟩ = some a1_7)) ops.size (Array.replicate ops.size false) a W.drew) (hm : P.follows .mixedOrders = true := by kernel_rfl) : (Code.region id ops true).wp P Q a W := wp_region_held_drew (S := (fun W' => (W'.cell? ⟨B0, 0, none⟩ = some a0_0 ∧ W'.cell? ⟨B0, 1, none⟩ = some a0_1) ∧ (W'.cell? ⟨B1, 0, none⟩ = some a1_0 ∧ W'.cell? ⟨B1, 1, none⟩ = some a1_1 ∧ W'.cell? ⟨B1, 2, none⟩ = some a1_2 ∧ W'.cell? ⟨B1, 3, none⟩ = some a1_3 ∧ W'.cell? ⟨B1, 4, none⟩ = some a1_4 ∧ W'.cell? ⟨B1, 5, none⟩ = some a1_5 ∧ W'.cell? ⟨B1, 6, none⟩ = some a1_6 ∧ W'.cell? ⟨B1, 7, none⟩ = some a1_7))) hm ⟨x0.drew.k2, x1.drew.k8⟩ h
theorem rg_8_8 {P : Program} {ops : Array Oper} {Q : Exit → Act → World → Prop} {id : Nat} {a : Act} {W : World} {B0 B1 : Nat} {t0 t1 : TypeId} {a0_0 a0_1 a0_2 a0_3 a0_4 a0_5 a0_6 a0_7 a1_0 a1_1 a1_2 a1_3 a1_4 a1_5 a1_6 a1_7 : Value} (x0 : BoxC W B0 t0 #[a0_0, a0_1, a0_2, a0_3, a0_4, a0_5, a0_6, a0_7]) (x1 : BoxC W B1 t1 #[a1_0, a1_1, a1_2, a1_3, a1_4, a1_5, a1_6, a1_7]) (h : (fun W' => (W'.cell? ⟨B0, 0, none⟩ = some a0_0 ∧ W'.cell? ⟨B0, 1, none⟩ = some a0_1 ∧ W'.cell? ⟨B0, 2, none⟩ = some a0_2 ∧ W'.cell? ⟨B0, 3, none⟩ = some a0_3 ∧ W'.cell? ⟨B0, 4, none⟩ = some a0_4 ∧ W'.cell? ⟨B0, 5, none⟩ = some a0_5 ∧ W'.cell? ⟨B0, 6, none⟩ = some a0_6 ∧ W'.cell? ⟨B0, 7, none⟩ = some a0_7) ∧ (W'.cell? ⟨B1, 0, none⟩ = some a1_0 ∧ W'.cell? ⟨B1, 1, none⟩ = some a1_1 ∧ W'.cell? ⟨B1, 2, none⟩ = some a1_2 ∧ W'.cell? ⟨B1, 3, none⟩ = some a1_3 ∧ W'.cell? ⟨B1, 4, none⟩ = some a1_4 ∧ W'.cell? ⟨B1, 5, none⟩ = some a1_5 ∧ W'.cell? ⟨B1, 6, none⟩ = some a1_6 ∧ W'.cell? ⟨B1, 7, none⟩ = some a1_7)) W.drew → wpAnyH P .any ops Q (fun W' => (W'.cell? ⟨B0, 0, none⟩ = some a0_0 ∧ W'.cell? ⟨B0, 1, none⟩ = some a0_1 ∧ W'.cell? ⟨B0, 2, none⟩ = some a0_2 ∧ W'.cell? ⟨B0, 3, none⟩ = some a0_3 ∧ W'.cell? ⟨B0, 4, none⟩ = some a0_4 ∧ W'.cell? ⟨B0, 5, none⟩ = some a0_5 ∧ W'.cell? ⟨B0, 6, none⟩ = some a0_6 ∧ W'.cell? ⟨B0, 7, none⟩ = some a0_7) ∧ (W'.cell? ⟨B1, 0, none⟩ = some a1_0 ∧ W'.cell? ⟨B1, 1, none⟩ = some a1_1 ∧ W'.cell? ⟨B1, 2, none⟩ = some a1_2 ∧ W'.cell? ⟨B1, 3, none⟩ = some a1_3 ∧ W'.cell? ⟨B1, 4, none⟩ = some a1_4 ∧ W'.cell? ⟨B1, 5, none⟩ = some a1_5 ∧ W'.cell? ⟨B1, 6, none⟩ = some a1_6 ∧ W'.cell? ⟨B1, 7, none⟩ = some a1_7)) ops.size (Array.replicate ops.size false) a W.drew) (hm : P.follows .mixedOrders = true := by kernel_rfl) : (Code.region id ops true).wp P Q a W := wp_region_held_drew (S := (fun W' => (W'.cell? ⟨B0, 0, none⟩ = some a0_0 ∧ W'.cell? ⟨B0, 1, none⟩ = some a0_1 ∧ W'.cell? ⟨B0, 2, none⟩ = some a0_2 ∧ W'.cell? ⟨B0, 3, none⟩ = some a0_3 ∧ W'.cell? ⟨B0, 4, none⟩ = some a0_4 ∧ W'.cell? ⟨B0, 5, none⟩ = some a0_5 ∧ W'.cell? ⟨B0, 6, none⟩ = some a0_6 ∧ W'.cell? ⟨B0, 7, none⟩ = some a0_7) ∧ (W'.cell? ⟨B1, 0, none⟩ = some a1_0 ∧ W'.cell? ⟨B1, 1, none⟩ = some a1_1 ∧ W'.cell? ⟨B1, 2, none⟩ = some a1_2 ∧ W'.cell? ⟨B1, 3, none⟩ = some a1_3 ∧ W'.cell? ⟨B1, 4, none⟩ = some a1_4 ∧ W'.cell? ⟨B1, 5, none⟩ = some a1_5 ∧ W'.cell? ⟨B1, 6, none⟩ = some a1_6 ∧ W'.cell? ⟨B1, 7, none⟩ = some a1_7))) hm ⟨x0.drew.k8, x1.drew.k8⟩ h
theorem rg_2_2_4 {P : Program} {ops : Array Oper} {Q : Exit → Act → World → Prop} {id : Nat} {a : Act} {W : World} {B0 B1 B2 : Nat} {t0 t1 t2 : TypeId} {a0_0 a0_1 a1_0 a1_1 a2_0 a2_1 a2_2 a2_3 : Value} (x0 : BoxC W B0 t0 #[a0_0, a0_1]) (x1 : BoxC W B1 t1 #[a1_0, a1_1]) (x2 : BoxC W B2 t2 #[a2_0, a2_1, a2_2, a2_3]) (h : (fun W' => (W'.cell? ⟨B0, 0, none⟩ = some a0_0 ∧ W'.cell? ⟨B0, 1, none⟩ = some a0_1) ∧ (W'.cell? ⟨B1, 0, none⟩ = some a1_0 ∧ W'.cell? ⟨B1, 1, none⟩ = some a1_1) ∧ (W'.cell? ⟨B2, 0, none⟩ = some a2_0 ∧ W'.cell? ⟨B2, 1, none⟩ = some a2_1 ∧ W'.cell? ⟨B2, 2, none⟩ = some a2_2 ∧ W'.cell? ⟨B2, 3, none⟩ = some a2_3)) W.drew → wpAnyH P .any ops Q (fun W' => (W'.cell? ⟨B0, 0, none⟩ = some a0_0 ∧ W'.cell? ⟨B0, 1, none⟩ = some a0_1) ∧ (W'.cell? ⟨B1, 0, none⟩ = some a1_0 ∧ W'.cell? ⟨B1, 1, none⟩ = some a1_1) ∧ (W'.cell? ⟨B2, 0, none⟩ = some a2_0 ∧ W'.cell? ⟨B2, 1, none⟩ = some a2_1 ∧ W'.cell? ⟨B2, 2, none⟩ = some a2_2 ∧ W'.cell? ⟨B2, 3, none⟩ = some a2_3)) ops.size (Array.replicate ops.size false) a W.drew) (hm : P.follows .mixedOrders = true := by kernel_rfl) : (Code.region id ops true).wp P Q a W := wp_region_held_drew (S := (fun W' => (W'.cell? ⟨B0, 0, none⟩ = some a0_0 ∧ W'.cell? ⟨B0, 1, none⟩ = some a0_1) ∧ (W'.cell? ⟨B1, 0, none⟩ = some a1_0 ∧ W'.cell? ⟨B1, 1, none⟩ = some a1_1) ∧ (W'.cell? ⟨B2, 0, none⟩ = some a2_0 ∧ W'.cell? ⟨B2, 1, none⟩ = some a2_1 ∧ W'.cell? ⟨B2, 2, none⟩ = some a2_2 ∧ W'.cell? ⟨B2, 3, none⟩ = some a2_3))) hm ⟨x0.drew.k2, x1.drew.k2, x2.drew.k4⟩ h
theorem rg_2_8_2 {P : Program} {ops : Array Oper} {Q : Exit → Act → World → Prop} {id : Nat} {a : Act} {W : World} {B0 B1 B2 : Nat} {t0 t1 t2 : TypeId} {a0_0 a0_1 a1_0 a1_1 a1_2 a1_3 a1_4 a1_5 a1_6 a1_7 a2_0 a2_1 : Value} (x0 : BoxC W B0 t0 #[a0_0, a0_1]) (x1 : BoxC W B1 t1 #[a1_0, a1_1, a1_2, a1_3, a1_4, a1_5, a1_6, a1_7]) (x2 : BoxC W B2 t2 #[a2_0, a2_1]) (h : (fun W' => (W'.cell? ⟨B0, 0, none⟩ = some a0_0 ∧ W'.cell? ⟨B0, 1, none⟩ = some a0_1) ∧ (W'.cell? ⟨B1, 0, none⟩ = some a1_0 ∧ W'.cell? ⟨B1, 1, none⟩ = some a1_1 ∧ W'.cell? ⟨B1, 2, none⟩ = some a1_2 ∧ W'.cell? ⟨B1, 3, none⟩ = some a1_3 ∧ W'.cell? ⟨B1, 4, none⟩ = some a1_4 ∧ W'.cell? ⟨B1, 5, none⟩ = some a1_5 ∧ W'.cell? ⟨B1, 6, none⟩ = some a1_6 ∧ W'.cell? ⟨B1, 7, none⟩ = some a1_7) ∧ (W'.cell? ⟨B2, 0, none⟩ = some a2_0 ∧ W'.cell? ⟨B2, 1, none⟩ = some a2_1)) W.drew → wpAnyH P .any ops Q (fun W' => (W'.cell? ⟨B0, 0, none⟩ = some a0_0 ∧ W'.cell? ⟨B0, 1, none⟩ = some a0_1) ∧ (W'.cell? ⟨B1, 0, none⟩ = some a1_0 ∧ W'.cell? ⟨B1, 1, none⟩ = some a1_1 ∧ W'.cell? ⟨B1, 2, none⟩ = some a1_2 ∧ W'.cell? ⟨B1, 3, none⟩ = some a1_3 ∧ W'.cell? ⟨B1, 4, none⟩ = some a1_4 ∧ W'.cell? ⟨B1, 5, none⟩ = some a1_5 ∧ W'.cell? ⟨B1, 6, none⟩ = some a1_6 ∧ W'.cell? ⟨B1, 7, none⟩ = some a1_7) ∧ (W'.cell? ⟨B2, 0, none⟩ = some a2_0 ∧ W'.cell? ⟨B2, 1, none⟩ = some a2_1)) ops.size (Array.replicate ops.size false) a W.drew) (hm : P.follows .mixedOrders = true := by kernel_rfl) : (Code.region id ops true).wp P Q a W := wp_region_held_drew (S := (fun W' => (W'.cell? ⟨B0, 0, none⟩ = some a0_0 ∧ W'.cell? ⟨B0, 1, none⟩ = some a0_1) ∧ (W'.cell? ⟨B1, 0, none⟩ = some a1_0 ∧ W'.cell? ⟨B1, 1, none⟩ = some a1_1 ∧ W'.cell? ⟨B1, 2, none⟩ = some a1_2 ∧ W'.cell? ⟨B1, 3, none⟩ = some a1_3 ∧ W'.cell? ⟨B1, 4, none⟩ = some a1_4 ∧ W'.cell? ⟨B1, 5, none⟩ = some a1_5 ∧ W'.cell? ⟨B1, 6, none⟩ = some a1_6 ∧ W'.cell? ⟨B1, 7, none⟩ = some a1_7) ∧ (W'.cell? ⟨B2, 0, none⟩ = some a2_0 ∧ W'.cell? ⟨B2, 1, none⟩ = some a2_1))) hm ⟨x0.drew.k2, x1.drew.k8, x2.drew.k2⟩ h
theorem rg_8_4 {P : Program} {ops : Array Oper} {Q : Exit → Act → World → Prop} {id : Nat} {a : Act} {W : World} {B0 B1 : Nat} {t0 t1 : TypeId} {a0_0 a0_1 a0_2 a0_3 a0_4 a0_5 a0_6 a0_7 a1_0 a1_1 a1_2 a1_3 : Value} (x0 : BoxC W B0 t0 #[a0_0, a0_1, a0_2, a0_3, a0_4, a0_5, a0_6, a0_7]) (x1 : BoxC W B1 t1 #[a1_0, a1_1, a1_2, a1_3]) (h : (fun W' => (W'.cell? ⟨B0, 0, none⟩ = some a0_0 ∧ W'.cell? ⟨B0, 1, none⟩ = some a0_1 ∧ W'.cell? ⟨B0, 2, none⟩ = some a0_2 ∧ W'.cell? ⟨B0, 3, none⟩ = some a0_3 ∧ W'.cell? ⟨B0, 4, none⟩ = some a0_4 ∧ W'.cell? ⟨B0, 5, none⟩ = some a0_5 ∧ W'.cell? ⟨B0, 6, none⟩ = some a0_6 ∧ W'.cell? ⟨B0, 7, none⟩ = some a0_7) ∧ (W'.cell? ⟨B1, 0, none⟩ = some a1_0 ∧ W'.cell? ⟨B1, 1, none⟩ = some a1_1 ∧ W'.cell? ⟨B1, 2, none⟩ = some a1_2 ∧ W'.cell? ⟨B1, 3, none⟩ = some a1_3)) W.drew → wpAnyH P .any ops Q (fun W' => (W'.cell? ⟨B0, 0, none⟩ = some a0_0 ∧ W'.cell? ⟨B0, 1, none⟩ = some a0_1 ∧ W'.cell? ⟨B0, 2, none⟩ = some a0_2 ∧ W'.cell? ⟨B0, 3, none⟩ = some a0_3 ∧ W'.cell? ⟨B0, 4, none⟩ = some a0_4 ∧ W'.cell? ⟨B0, 5, none⟩ = some a0_5 ∧ W'.cell? ⟨B0, 6, none⟩ = some a0_6 ∧ W'.cell? ⟨B0, 7, none⟩ = some a0_7) ∧ (W'.cell? ⟨B1, 0, none⟩ = some a1_0 ∧ W'.cell? ⟨B1, 1, none⟩ = some a1_1 ∧ W'.cell? ⟨B1, 2, none⟩ = some a1_2 ∧ W'.cell? ⟨B1, 3, none⟩ = some a1_3)) ops.size (Array.replicate ops.size false) a W.drew) (hm : P.follows .mixedOrders = true := by kernel_rfl) : (Code.region id ops true).wp P Q a W := wp_region_held_drew (S := (fun W' => (W'.cell? ⟨B0, 0, none⟩ = some a0_0 ∧ W'.cell? ⟨B0, 1, none⟩ = some a0_1 ∧ W'.cell? ⟨B0, 2, none⟩ = some a0_2 ∧ W'.cell? ⟨B0, 3, none⟩ = some a0_3 ∧ W'.cell? ⟨B0, 4, none⟩ = some a0_4 ∧ W'.cell? ⟨B0, 5, none⟩ = some a0_5 ∧ W'.cell? ⟨B0, 6, none⟩ = some a0_6 ∧ W'.cell? ⟨B0, 7, none⟩ = some a0_7) ∧ (W'.cell? ⟨B1, 0, none⟩ = some a1_0 ∧ W'.cell? ⟨B1, 1, none⟩ = some a1_1 ∧ W'.cell? ⟨B1, 2, none⟩ = some a1_2 ∧ W'.cell? ⟨B1, 3, none⟩ = some a1_3))) hm ⟨x0.drew.k8, x1.drew.k4⟩ h
end Go.Proofs.Ytpmeaikiaoojkaa
namespace Go.Proofs.Ytpmeaikiaoojkaa
open Go.RowKit

abbrev Named := ByteArray × Int × ByteArray × ByteArray × Int
def encNamed (x : Named) : List Value := [.string x.1, .int .i64 x.2.1, .string x.2.2.1, .string x.2.2.2.1, .int .i64 x.2.2.2.2]
theorem encNamed_len (x : Named) : (encNamed x).length = 5 := rfl
def NamedWf (x : Named) : Prop := x.1.size ≤ maxLen ∧ x.2.2.1.size ≤ maxLen ∧ x.2.2.2.1.size ≤ maxLen
def NamedSWf (l : List Named) : Prop := ∀ x : Named, x ∈ l → NamedWf x
theorem NamedSWf.at_ {l : List Named} (h : NamedSWf l) {k : Nat} {x : Named} (hk : l[k]? = some x) : NamedWf x := h x (List.mem_of_getElem? hk)
theorem atNamed {w : World} {B n b off k : Nat} {l : List Named} (h : Sl encNamed w B (some ⟨b, off, none⟩) n l) (hk : k < n) :
    ∃ f0 f1 f2 f3 f4, l[k]? = some (f0, f1, f2, f3, f4) ∧ w.cell? ⟨b, off + k * 5, none⟩ = some (.string f0) ∧ w.cell? ⟨b, off + k * 5 + 1, none⟩ = some (.int .i64 f1) ∧ w.cell? ⟨b, off + k * 5 + 2, none⟩ = some (.string f2) ∧ w.cell? ⟨b, off + k * 5 + 3, none⟩ = some (.string f3) ∧ w.cell? ⟨b, off + k * 5 + 4, none⟩ = some (.int .i64 f4) := by
  obtain ⟨⟨f0, f1, f2, f3, f4⟩, h1, h2⟩ := h.at_ encNamed_len hk; exact ⟨f0, f1, f2, f3, f4, h1, h2 0 _ rfl, h2 1 _ rfl, h2 2 _ rfl, h2 3 _ rfl, h2 4 _ rfl⟩
theorem info64 : (Try.prog.info? 64).map (fun i => (i.zero, i.size, i.bytes)) = some (some (.agg #[.string ByteArray.empty, .int .i64 0, .string ByteArray.empty, .string ByteArray.empty, .int .i64 0]), 5, 64) := by kernel_rfl
abbrev Ask := Int × ByteArray × ByteArray × Int
/-! ### sizes -/
/-! ### equality -/
theorem ba_eqNamed {a b : ByteArray} (h : a.toList = b.toList) : a = b := by
  rw [ByteArray.toList_eq, ByteArray.toList_eq] at h; exact ByteArray.ext (Array.toList_inj.1 h)
def eqNamedB (a b : Named) : Bool := ((a.1.toList == b.1.toList) && ((a.2.1 == b.2.1) && ((a.2.2.1.toList == b.2.2.1.toList) && ((a.2.2.2.1.toList == b.2.2.2.1.toList) && (a.2.2.2.2 == b.2.2.2.2)))))
theorem eqNamedB_iff {a b : Named} : eqNamedB a b = true ↔ a = b := by
  obtain ⟨f0, f1, f2, f3, f4⟩ := a; obtain ⟨g0, g1, g2, g3, g4⟩ := b; simp only [eqNamedB, Bool.and_eq_true, beq_iff_eq, Prod.mk.injEq]
  constructor
  · rintro ⟨h0, h1, h2, h3, h4⟩; exact ⟨ba_eqNamed h0, h1, ba_eqNamed h2, ba_eqNamed h3, h4⟩
  · rintro ⟨rfl, rfl, rfl, rfl, rfl⟩; exact ⟨rfl, rfl, rfl, rfl, rfl⟩
def eqAskB (a b : Ask) : Bool := ((a.1 == b.1) && ((a.2.1.toList == b.2.1.toList) && ((a.2.2.1.toList == b.2.2.1.toList) && (a.2.2.2 == b.2.2.2))))
def namedSEq (l m : List Named) : Bool := decide (l = m)
theorem namedSEq_self (l : List Named) : namedSEq l l = true := by simp [namedSEq]
theorem namedSEq_len {l m : List Named} (h : l.length ≠ m.length) : namedSEq l m = false := by
  simp only [namedSEq, decide_eq_false_iff_not]; intro e; exact h (by rw [e])
theorem namedSEq_at {l m : List Named} {k : Nat} {x y : Named} (hx : l[k]? = some x) (hy : m[k]? = some y) (h : eqNamedB x y = false) : namedSEq l m = false := by
  simp only [namedSEq, decide_eq_false_iff_not]
  rintro rfl; rw [hx] at hy; cases hy; have := (eqNamedB_iff (a := x) (b := x)).2 rfl; rw [h] at this; cases this
def EqToNamed (l m : List Named) (k : Nat) : Prop := ∀ i : Nat, i < k → l[i]? = m[i]?
theorem EqToNamed.zero (l m : List Named) : EqToNamed l m 0 := fun _ h => absurd h (by omega)
theorem EqToNamed.step {l m : List Named} {k : Nat} {x y : Named} (h : EqToNamed l m k) (hx : l[k]? = some x) (hy : m[k]? = some y) (he : eqNamedB x y = true) : EqToNamed l m (k + 1) := by
  intro i hi
  by_cases hik : i < k
  · exact h i hik
  · obtain rfl : i = k := by omega
    rw [hx, hy, eqNamedB_iff.1 he]
theorem EqToNamed.all {l m : List Named} {k : Nat} (h : EqToNamed l m k) (hl : l.length ≤ k) (hm : m.length ≤ k) : namedSEq l m = true := by
  simp only [namedSEq, decide_eq_true_eq]
  apply List.ext_getElem?
  intro i
  by_cases hi : i < k
  · exact h i hi
  · rw [List.getElem?_eq_none (by omega), List.getElem?_eq_none (by omega)]
end Go.Proofs.Ytpmeaikiaoojkaa
namespace Go.Proofs.Ytpmeaikiaoojkaa
open Go.RowKit

theorem fieldsAsk : ((Try.prog.fieldsOf 62).toList.map fun f => (f.type, f.offset, f.name)) = [(3, 0, "Kind"), (9, 1, "Key"), (9, 2, "Hi"), (3, 3, "Num")] := by kernel_rfl
theorem fieldsNamed : ((Try.prog.fieldsOf 64).toList.map fun f => (f.type, f.offset, f.name)) = [(9, 0, "Name"), (62, 1, "Ask")] := by kernel_rfl
theorem underAsk : Try.prog.underlying 62 = some (.struct (Try.prog.fieldsOf 62)) := by kernel_rfl
theorem underNamed : Try.prog.underlying 64 = some (.struct (Try.prog.fieldsOf 64)) := by kernel_rfl
theorem stoodAsk : Try.prog.stoodInHeld 62 = false := by kernel_rfl
theorem stoodNamed : Try.prog.stoodInHeld 64 = false := by kernel_rfl
theorem guardNamed : Try.prog.eqGuardType Try.prog.depth 64 = false := by kernel_rfl
theorem equalInAsk (f1 : Int) (f2 f3 : ByteArray) (f4 : Int) (g1 : Int) (g2 g3 : ByteArray) (g4 : Int) (w : World) : (Op.equalIn 9999 62 (.agg #[.int .i64 f1, .string f2, .string f3, .int .i64 f4]) (.agg #[.int .i64 g1, .string g2, .string g3, .int .i64 g4])).run Try.prog w = .ok (eqAskB (f1, f2, f3, f4) (g1, g2, g3, g4)) w := by
  rw [run_equalIn_struct w 9998 62 _ _ underAsk stoodAsk]; have hf := fieldsAsk; generalize (Try.prog.fieldsOf 62).toList = fs at hf
  match fs, hf with
  | [], hf => simp at hf
  | [_], hf => simp at hf
  | [_, _], hf => simp at hf
  | [_, _, _], hf => simp at hf
  | _ :: _ :: _ :: _ :: _ :: _, hf => simp at hf
  | [z0, z1, z2, z3], hf =>
    simp only [List.map_cons, List.map_nil, List.cons.injEq, Prod.mk.injEq, and_true] at hf
    obtain ⟨⟨t0, o0, n0⟩, ⟨t1, o1, n1⟩, ⟨t2, o2, n2⟩, t3, o3, n3⟩ := hf
    have p0 : ∀ f1 f2 f3 f4, (part 3 #[.int .i64 f1, .string f2, .string f3, .int .i64 f4] 0).run Try.prog w = .ok (.int .i64 f1) w := by
      intro f1 f2 f3 f4; simp [part, go_sem]
    have p1 : ∀ f1 f2 f3 f4, (part 9 #[.int .i64 f1, .string f2, .string f3, .int .i64 f4] 1).run Try.prog w = .ok (.string f2) w := by
      intro f1 f2 f3 f4; simp [part, go_sem]
    have p2 : ∀ f1 f2 f3 f4, (part 9 #[.int .i64 f1, .string f2, .string f3, .int .i64 f4] 2).run Try.prog w = .ok (.string f3) w := by
      intro f1 f2 f3 f4; simp [part, go_sem]
    have p3 : ∀ f1 f2 f3 f4, (part 3 #[.int .i64 f1, .string f2, .string f3, .int .i64 f4] 3).run Try.prog w = .ok (.int .i64 f4) w := by
      intro f1 f2 f3 f4; simp [part, go_sem]
    have q0 := run_equalIn_int (P := Try.prog) w 9997 3 .i64 .i64 f1 g1 Try.underlying3; have q1 := run_equalIn_string (P := Try.prog) w 9997 9 f2 g2 Try.underlying9; have q2 := run_equalIn_string (P := Try.prog) w 9997 9 f3 g3 Try.underlying9; have q3 := run_equalIn_int (P := Try.prog) w 9997 3 .i64 .i64 f4 g4 Try.underlying3; simp only [Nat.reduceAdd] at q0 q1 q2 q3
    simp only [Op.eqFields, t0, o0, n0, t1, o1, n1, t2, o2, n2, t3, o3, n3, ne_eq, Sem.run_bind, Sem.run_ite, p0, p1, p2, p3, Result.andThen_ok, q0, q1, q2, q3]
    cases h0 : (f1 == g1) <;> cases h1 : (f2.toList == g2.toList) <;> cases h2 : (f3.toList == g3.toList) <;> cases h3 : (f4 == g4)
    all_goals simp [eqAskB, h0, h1, h2, h3, go_sem]
theorem partAsk (f0 : ByteArray) (f1 : Int) (f2 f3 : ByteArray) (f4 : Int) (w : World) : (part 62 #[.string f0, .int .i64 f1, .string f2, .string f3, .int .i64 f4] 1).run Try.prog w = .ok (.agg #[.int .i64 f1, .string f2, .string f3, .int .i64 f4]) w := by
  simp [part, isAgg, sizeOf, go_sem]
  rfl
theorem equalInNamed (f0 : ByteArray) (f1 : Int) (f2 f3 : ByteArray) (f4 : Int) (g0 : ByteArray) (g1 : Int) (g2 g3 : ByteArray) (g4 : Int) (w : World) : (Op.equalIn 10000 64 (.agg #[.string f0, .int .i64 f1, .string f2, .string f3, .int .i64 f4]) (.agg #[.string g0, .int .i64 g1, .string g2, .string g3, .int .i64 g4])).run Try.prog w = .ok (eqNamedB (f0, f1, f2, f3, f4) (g0, g1, g2, g3, g4)) w := by
  rw [run_equalIn_struct w 9999 64 _ _ underNamed stoodNamed]; have hf := fieldsNamed; generalize (Try.prog.fieldsOf 64).toList = fs at hf
  match fs, hf with
  | [], hf => simp at hf
  | [_], hf => simp at hf
  | _ :: _ :: _ :: _, hf => simp at hf
  | [z0, z1], hf =>
    simp only [List.map_cons, List.map_nil, List.cons.injEq, Prod.mk.injEq, and_true] at hf
    obtain ⟨⟨t0, o0, n0⟩, t1, o1, n1⟩ := hf
    have p0 : ∀ f0 f1 f2 f3 f4, (part 9 #[.string f0, .int .i64 f1, .string f2, .string f3, .int .i64 f4] 0).run Try.prog w = .ok (.string f0) w := by
      intro f0 f1 f2 f3 f4; simp [part, go_sem]
    have p1 := fun f0 f1 f2 f3 f4 => partAsk f0 f1 f2 f3 f4 w; have q0 := run_equalIn_string (P := Try.prog) w 9998 9 f0 g0 Try.underlying9; have q1 := equalInAsk f1 f2 f3 f4 g1 g2 g3 g4 w; simp only [Nat.reduceAdd] at q0 q1
    simp only [Op.eqFields, t0, o0, n0, t1, o1, n1, ne_eq, Sem.run_bind, Sem.run_ite, p0, p1, Result.andThen_ok, q0, q1]
    have hu : eqNamedB (f0, f1, f2, f3, f4) (g0, g1, g2, g3, g4) = ((f0.toList == g0.toList) && eqAskB (f1, f2, f3, f4) (g1, g2, g3, g4)) := rfl; rw [hu]; cases h0 : (f0.toList == g0.toList) <;> cases h1 : eqAskB (f1, f2, f3, f4) (g1, g2, g3, g4)
    all_goals simp [go_sem]
theorem neqNamed (f0 : ByteArray) (f1 : Int) (f2 f3 : ByteArray) (f4 : Int) (g0 : ByteArray) (g1 : Int) (g2 g3 : ByteArray) (g4 : Int) (w : World) : (binOp .neq 64 (.agg #[.string f0, .int .i64 f1, .string f2, .string f3, .int .i64 f4]) (.agg #[.string g0, .int .i64 g1, .string g2, .string g3, .int .i64 g4])).run Try.prog w = .ok (.bool (!eqNamedB (f0, f1, f2, f3, f4) (g0, g1, g2, g3, g4))) w := by
  rw [run_neq_struct, equalInNamed]; rfl
end Go.Proofs.Ytpmeaikiaoojkaa
namespace Go.Proofs.Ytpmeaikiaoojkaa
open Go.RowKit

/-- a letter: its sign and its body -/
abbrev Let := ByteArray × ByteArray
def digI (v : Int) : Bool := decide (48 ≤ v) && decide (v ≤ 57)
def signI (v : Int) : Bool := (decide (65 ≤ v) && decide (v ≤ 90)) || digI v
def bodyI (v : Int) : Bool := decide (32 ≤ v) && decide (v ≤ 126)
def bodyOk (l : List UInt8) : Bool := l.all fun c => bodyI (c.toNat : Int)
def letOk (x : Let) : Bool := (x.1.data.toList.length == 1 && (x.1.data.toList.all fun c => signI (c.toNat : Int))) && (decide (x.2.size ≤ 40) && bodyOk x.2.data.toList)

theorem l5Sign (v : Int) (w : World) : Calls Try.prog 34 #[.int .u8 v] w fun e w' => e = .returned (.bool (signI v)) ∧ w = w' := by
  go_enter Try.func34, Try.ntmps34; go_wp2
  all_goals
    go_ret
    exact ⟨retBool (by unfold signI digI; grind), rfl⟩
theorem l5Body (v : Int) (w : World) : Calls Try.prog 35 #[.int .u8 v] w fun e w' => e = .returned (.bool (bodyI v)) ∧ w = w' := by
  go_enter Try.func35, Try.ntmps35; go_wp2
  all_goals
    go_ret
    exact ⟨retBool (by simp [bodyI]; omega), rfl⟩
end Go.Proofs.Ytpmeaikiaoojkaa
namespace Go.Proofs.Ytpmeaikiaoojkaa
open Go.RowKit

theorem let_short {x : Let} (h : x.1.size ≠ 1) : letOk x = false := by
  have : (x.1.data.toList.length == 1) = false := by simpa using h
  unfold letOk; rw [this]; rfl
theorem one_list {s : ByteArray} (h : 0 < s.size) (h1 : s.size = 1) : s.data.toList = [s[0]] := by
  apply List.ext_getElem
  · simpa using h1
  · intro i hi hj; have : i = 0 := by simp at hj; omega
    subst this; rfl
theorem let_one {x : Let} (h : 0 < x.1.size) (h1 : x.1.size = 1) : letOk x = (signI (x.1[0].toNat : Int) && (decide (x.2.size ≤ 40) && bodyOk x.2.data.toList)) := by
  unfold letOk
  rw [one_list h h1]; simp
theorem take_snoc (s : ByteArray) (k : Nat) (h : k < s.size) : s.data.toList.take (k + 1) = s.data.toList.take k ++ [s[k]] := by
  rw [List.take_succ_eq_append_getElem (by simpa using h)]; rfl
theorem body_step {s : ByteArray} {k : Nat} (h : k < s.size) (hk : bodyOk (s.data.toList.take k) = true) (h1 : bodyI (s[k].toNat : Int) = true) : bodyOk (s.data.toList.take (k + 1)) = true := by
  unfold bodyOk at *
  rw [take_snoc s k h, List.all_append, hk]
  simpa using h1
theorem body_bad {s : ByteArray} {k : Nat} (h : k < s.size) (h1 : bodyI (s[k].toNat : Int) = false) : bodyOk s.data.toList = false := by
  unfold bodyOk
  rw [List.all_eq_false]; refine ⟨s[k], ?_, by simpa using h1⟩; have : s[k] = s.data.toList[k]'(by simpa using h) := rfl; rw [this]; exact List.getElem_mem _
theorem body_all {s : ByteArray} {k : Nat} (h : ¬ k < s.size) (hk : bodyOk (s.data.toList.take k) = true) : bodyOk s.data.toList = true := by
  rwa [List.take_of_length_le (by simp; omega)] at hk

set_option maxHeartbeats 1000000 in
theorem specLetterOk (x : Let) (w : World) (h1 : x.1.size ≤ maxLen) (h2 : x.2.size ≤ maxLen) :
    Calls Try.prog 12 #[.agg #[.string x.1, .string x.2]] w fun e w' => e = .returned (.bool (letOk x)) ∧ Below w.heap.size w w' := by
  obtain ⟨s, b⟩ := x
  unfold maxLen at h1 h2
  simp only at h1 h2
  by_cases hs : s.size = 1
  · have h0 : 0 < s.size := by omega
    have j1 : ((s.size : Int) != 1) = false := by simp [hs]
    have j0 : (0 : Int) < (s.size : Int) := by omega
    rw [let_one (x := (s, b)) h0 hs]; simp only
    cases hsg : signI (s[0].toNat : Int)
    · go_enter Try.func12, Try.ntmps12; go_wp2_with (go_at_call 34; refine (l5Sign _ _).mono ?_; rw [hsg]; rintro e w' ⟨rfl, rfl⟩); go_ret
      exact ⟨rfl, bel_alloc (Below.refl _ _) _⟩
    · by_cases hbig : 40 < b.size
      · have j2 : (40 : Int) < (b.size : Int) := by omega
        go_enter Try.func12, Try.ntmps12; go_wp2_with (go_at_call 34; refine (l5Sign _ _).mono ?_; rw [hsg]; rintro e w' ⟨rfl, rfl⟩); go_ret
        exact ⟨retBool (by simp; omega), bel_alloc (Below.refl _ _) _⟩
      · have j2 : ¬ (40 : Int) < (b.size : Int) := by omega
        have hbd : decide (b.size ≤ 40) = true := by simp; omega
        rw [hbd]; simp only [Bool.true_and]
        go_enter Try.func12, Try.ntmps12; go_wp2_with (go_at_call 34; refine (l5Sign _ _).mono ?_; rw [hsg]; rintro e w' ⟨rfl, rfl⟩)
        go_loop [3] (fun i => ∃ k : Nat, k ≤ b.size ∧ i = .int .i64 k ∧ Hid (bodyOk (b.data.toList.take k) = true)) (fun i => b.size - (intOf i).toNat)
        case atStart => exact ⟨0, Nat.zero_le _, rfl, rfl⟩
        case round =>
          obtain ⟨k, hk, rfl, ha⟩ := hrel
          by_cases hlt : k < b.size
          · have hlt' : (k : Int) < (b.size : Int) := by omega
            cases hbb : bodyI (b[k].toNat : Int)
            · go_wp2_with (go_at_call 35; refine (l5Body _ _).mono ?_; rw [hbb]; rintro e w' ⟨rfl, rfl⟩); go_ret
              exact ⟨retBool (body_bad hlt hbb).symm, bel_alloc (Below.refl _ _) _⟩
            · go_wp2_with (go_at_call 35; refine (l5Body _ _).mono ?_; rw [hbb]; rintro e w' ⟨rfl, rfl⟩)
              case roundEnd => exact ⟨⟨k + 1, by omega, by go_num, body_step hlt ha.out hbb⟩, by simp [intOf]; omega⟩
          · have hlt' : ¬ (k : Int) < (b.size : Int) := by omega
            go_wp2
            go_ret
            exact ⟨retBool (body_all hlt ha.out).symm, bel_alloc (Below.refl _ _) _⟩
  · rw [let_short (x := (s, b)) hs]; have j1 : ((s.size : Int) != 1) = true := by simp; omega
    go_enter Try.func12, Try.ntmps12; go_wp2
    go_ret
    exact ⟨rfl, bel_alloc (Below.refl _ _) _⟩
end Go.Proofs.Ytpmeaikiaoojkaa
namespace Go.Proofs.Ytpmeaikiaoojkaa
open Go.RowKit

theorem ret_bool {a b : Bool} (h : a = b) : Ending.returned (.bool a) = .returned (.bool b) := by rw [h]
theorem ret_int {k : IntKind} {a b : Int} (h : a = b) : Ending.returned (.int k a) = .returned (.int k b) := by rw [h]

/-- a byte from 'a' to 'z' -/
def lowB (c : UInt8) : Bool := decide (97 ≤ c.toNat) && decide (c.toNat ≤ 122)
def allLow (l : List UInt8) : Bool := l.all lowB
/-- one or two bytes from 'a' to 'z' -/
def keyOk (s : ByteArray) : Bool := (decide (s.size = 1) || decide (s.size = 2)) && allLow s.data.toList

theorem low_step (s : ByteArray) (k : Nat) (h : k < s.size) (hk : allLow (s.data.toList.take k) = true) (h1 : 97 ≤ (s[k].toNat : Int)) (h2 : (s[k].toNat : Int) ≤ 122) :
    allLow (s.data.toList.take (k + 1)) = true := by
  unfold allLow at *
  rw [take_snoc s k h, List.all_append, hk]; simp [lowB]; omega
theorem low_bad (s : ByteArray) (k : Nat) (h : k < s.size) (hb : (s[k].toNat : Int) < 97 ∨ 122 < (s[k].toNat : Int)) : allLow s.data.toList = false := by
  unfold allLow
  rw [List.all_eq_false]; refine ⟨s[k], ?_, ?_⟩
  · have : s[k] = s.data.toList[k]'(by simpa using h) := rfl; rw [this]; exact List.getElem_mem _
  · simp [lowB]; omega
theorem low_all (s : ByteArray) (k : Nat) (h : ¬ k < s.size) (hk : allLow (s.data.toList.take k) = true) : allLow s.data.toList = true := by
  rwa [List.take_of_length_le (by simp; omega)] at hk

theorem keyOk_short (s : ByteArray) (h : 1 ≤ s.size) (h2 : s.size ≤ 2) : keyOk s = allLow s.data.toList := by
  have : s.size = 1 ∨ s.size = 2 := by omega
  unfold keyOk
  rcases this with h | h <;> simp [h]
theorem keyOk_long (s : ByteArray) (h : ¬ (1 ≤ s.size ∧ s.size ≤ 2)) : keyOk s = false := by
  unfold keyOk
  have h1 : ¬ s.size = 1 := by omega
  have h2 : ¬ s.size = 2 := by omega
  simp [h1, h2]
theorem keyOk_low (s : ByteArray) (h : allLow s.data.toList = false) : keyOk s = false := by
  simp [keyOk, h]
theorem keyOk_fin (s : ByteArray) (k : Nat) (h : ¬ k < s.size) (h1 : 1 ≤ (s.size : Int)) (hk : allLow (s.data.toList.take k) = true) : decide ((s.size : Int) ≤ 2) = keyOk s := by
  have ha := low_all s k h hk
  by_cases h2 : s.size ≤ 2
  · rw [keyOk_short s (by omega) h2, ha]; simp; omega
  · rw [keyOk_long s (by omega)]; simp; omega
set_option maxHeartbeats 400000 in
theorem specKeyOk (s : ByteArray) (w : World) (hs : s.size ≤ maxLen) :
    Calls Try.prog 92 #[.string s] w fun e w' => e = .returned (.bool (keyOk s)) ∧ w = w' := by
  unfold maxLen at hs
  go_enter Try.func92, Try.ntmps92; go_wp2
  go_loop [3] (fun i => ∃ k : Nat, k ≤ s.size ∧ i = .int .i64 k ∧ Hid (allLow (s.data.toList.take k) = true)) (fun i => s.size - (intOf i).toNat)
  case atStart => exact ⟨0, Nat.zero_le _, rfl, rfl⟩
  case round =>
    obtain ⟨k, hk, rfl, ha⟩ := hrel; go_wp2
    case roundEnd => exact ⟨⟨k + 1, by omega, by go_num, low_step s k (by assumption) ha.out (by omega) (by omega)⟩, by simp [intOf]; omega⟩
    all_goals
      go_ret
      refine ⟨ret_bool ?_, rfl⟩
      first
        | (rw [keyOk_low s (low_bad s k (by assumption) (by omega))]; done)
        | (rw [keyOk_long s (by omega)]; done)
        | exact keyOk_fin s k (by assumption) (by omega) ha.out

end Go.Proofs.Ytpmeaikiaoojkaa
namespace Go.Proofs.Ytpmeaikiaoojkaa
open Go.RowKit

def numOk (n : Int) : Bool := decide (-999 ≤ n) && decide (n ≤ 999)
theorem l1NumC (num : Int) (w : World) : Calls Try.prog 93 #[.int .i64 num] w fun e w' => e = .returned (.bool (numOk num)) ∧ w = w' := by
  go_enter Try.func93, Try.ntmps93; go_wp2
  all_goals (go_ret; refine ⟨ret_bool ?_, rfl⟩; simp [numOk]; try omega)
/-- which fields a kind has: a key, a second one, a number -/
def shape (k : Int) : Bool × Bool × Bool :=
  if k = 1 ∨ k = 6 then (true, false, false) else if k = 2 ∨ k = 3 then (true, true, false) else if k = 4 ∨ k = 5 then (true, false, true) else (false, false, false)
set_option maxHeartbeats 1000000 in
theorem l4Shape (k : Int) (w : World) : Calls Try.prog 102 #[.int .i64 k] w fun e w' => e = .returned (.tuple #[.bool (shape k).1, .bool (shape k).2.1, .bool (shape k).2.2]) ∧ w = w' := by
  by_cases h1 : k = 1
  · subst h1; go_enter Try.func102, Try.ntmps102; go_wp2
    go_ret3
    exact ⟨rfl, rfl⟩
  by_cases h2 : k = 6
  · subst h2; go_enter Try.func102, Try.ntmps102; go_wp2
    go_ret3
    exact ⟨rfl, rfl⟩
  by_cases h3 : k = 2
  · subst h3; go_enter Try.func102, Try.ntmps102; go_wp2
    go_ret3
    exact ⟨rfl, rfl⟩
  by_cases h4 : k = 3
  · subst h4; go_enter Try.func102, Try.ntmps102; go_wp2
    go_ret3
    exact ⟨rfl, rfl⟩
  by_cases h5 : k = 4
  · subst h5; go_enter Try.func102, Try.ntmps102; go_wp2
    go_ret3
    exact ⟨rfl, rfl⟩
  by_cases h6 : k = 5
  · subst h6; go_enter Try.func102, Try.ntmps102; go_wp2
    go_ret3
    exact ⟨rfl, rfl⟩
  have hs : shape k = (false, false, false) := by simp [shape, h1, h2, h3, h4, h5, h6]
  rw [hs]; clear hs; have e1 : (k == 1) = false := by simpa using h1
  have e2 : (k == 6) = false := by simpa using h2
  have e3 : (k == 2) = false := by simpa using h3
  have e4 : (k == 3) = false := by simpa using h4
  have e5 : (k == 4) = false := by simpa using h5
  have e6 : (k == 5) = false := by simpa using h6
  clear h1 h2 h3 h4 h5 h6; go_enter Try.func102, Try.ntmps102; go_wp2
  go_ret3
  exact ⟨rfl, rfl⟩
def emp (s : ByteArray) : Bool := s.toList == []
/-- a field is right: a key, if there has to be one, and empty otherwise -/
def fieldB (s : ByteArray) (has : Bool) : Bool := if has = true then keyOk s else emp s
end Go.Proofs.Ytpmeaikiaoojkaa
namespace Go.Proofs.Ytpmeaikiaoojkaa
open Go.RowKit

abbrev Write := ByteArray × Int × Bool
def encWrite (x : Write) : List Value := [.string x.1, .int .i64 x.2.1, .bool x.2.2]
theorem encWrite_len (x : Write) : (encWrite x).length = 3 := rfl
def WriteWf (x : Write) : Prop := x.1.size ≤ maxLen
def WriteSWf (l : List Write) : Prop := ∀ x : Write, x ∈ l → WriteWf x
theorem WriteSWf.at_ {l : List Write} (h : WriteSWf l) {k : Nat} {x : Write} (hk : l[k]? = some x) : WriteWf x := h x (List.mem_of_getElem? hk)
theorem atWrite {w : World} {B n b off k : Nat} {l : List Write} (h : Sl encWrite w B (some ⟨b, off, none⟩) n l) (hk : k < n) :
    ∃ f0 f1 f2, l[k]? = some (f0, f1, f2) ∧ w.cell? ⟨b, off + k * 3, none⟩ = some (.string f0) ∧ w.cell? ⟨b, off + k * 3 + 1, none⟩ = some (.int .i64 f1) ∧ w.cell? ⟨b, off + k * 3 + 2, none⟩ = some (.bool f2) := by
  obtain ⟨⟨f0, f1, f2⟩, h1, h2⟩ := h.at_ encWrite_len hk; exact ⟨f0, f1, f2, h1, h2 0 _ rfl, h2 1 _ rfl, h2 2 _ rfl⟩
theorem info113 : (Try.prog.info? 113).map (fun i => (i.zero, i.size, i.bytes)) = some (some (.agg #[.string ByteArray.empty, .int .i64 0, .bool false]), 3, 32) := by kernel_rfl
/-! ### sizes -/
/-! ### equality -/
theorem ba_eqWrite {a b : ByteArray} (h : a.toList = b.toList) : a = b := by
  rw [ByteArray.toList_eq, ByteArray.toList_eq] at h; exact ByteArray.ext (Array.toList_inj.1 h)
def eqWriteB (a b : Write) : Bool := ((a.1.toList == b.1.toList) && ((a.2.1 == b.2.1) && (a.2.2 == b.2.2)))
theorem eqWriteB_iff {a b : Write} : eqWriteB a b = true ↔ a = b := by
  obtain ⟨f0, f1, f2⟩ := a; obtain ⟨g0, g1, g2⟩ := b; simp only [eqWriteB, Bool.and_eq_true, beq_iff_eq, Prod.mk.injEq]
  constructor
  · rintro ⟨h0, h1, h2⟩; exact ⟨ba_eqWrite h0, h1, h2⟩
  · rintro ⟨rfl, rfl, rfl⟩; exact ⟨rfl, rfl, rfl⟩
def writeSEq (l m : List Write) : Bool := decide (l = m)
theorem writeSEq_len {l m : List Write} (h : l.length ≠ m.length) : writeSEq l m = false := by
  simp only [writeSEq, decide_eq_false_iff_not]; intro e; exact h (by rw [e])
theorem writeSEq_at {l m : List Write} {k : Nat} {x y : Write} (hx : l[k]? = some x) (hy : m[k]? = some y) (h : eqWriteB x y = false) : writeSEq l m = false := by
  simp only [writeSEq, decide_eq_false_iff_not]
  rintro rfl; rw [hx] at hy; cases hy; have := (eqWriteB_iff (a := x) (b := x)).2 rfl; rw [h] at this; cases this
def EqToWrite (l m : List Write) (k : Nat) : Prop := ∀ i : Nat, i < k → l[i]? = m[i]?
theorem EqToWrite.zero (l m : List Write) : EqToWrite l m 0 := fun _ h => absurd h (by omega)
theorem EqToWrite.step {l m : List Write} {k : Nat} {x y : Write} (h : EqToWrite l m k) (hx : l[k]? = some x) (hy : m[k]? = some y) (he : eqWriteB x y = true) : EqToWrite l m (k + 1) := by
  intro i hi
  by_cases hik : i < k
  · exact h i hik
  · obtain rfl : i = k := by omega
    rw [hx, hy, eqWriteB_iff.1 he]
theorem EqToWrite.all {l m : List Write} {k : Nat} (h : EqToWrite l m k) (hl : l.length ≤ k) (hm : m.length ≤ k) : writeSEq l m = true := by
  simp only [writeSEq, decide_eq_true_eq]
  apply List.ext_getElem?
  intro i
  by_cases hi : i < k
  · exact h i hi
  · rw [List.getElem?_eq_none (by omega), List.getElem?_eq_none (by omega)]
end Go.Proofs.Ytpmeaikiaoojkaa
