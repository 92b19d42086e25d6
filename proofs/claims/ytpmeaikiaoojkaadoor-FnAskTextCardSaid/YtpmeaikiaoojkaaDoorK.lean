/- Words for memory: a slice that reads as a list of plain structs, a slice that the call owns. No program in sight. -/
import Derived.WalkKit
import Derived.WalkSpells
import Derived.WalkLawsBesides
import Derived.Lib.Hide
import Derived.IntWalk
import Derived.Deep.RegionHeld3
import Derived.Deep.AppendLies
import Derived.Maps.AppendAt
import Derived.Deep.OwnRows
namespace Go.Proofs.YtpmeaikiaoojkaaDoor
open Go.RowKit

theorem retBool {a b : Bool} (h : a = b) : Ending.returned (.bool a) = .returned (.bool b) := by rw [h]
theorem retInt {k : IntKind} {a b : Int} (h : a = b) : Ending.returned (.int k a) = .returned (.int k b) := by rw [h]

/-! ### Below -/
section
variable {a w w' : World}
theorem bel_alloc (h : Below a.heap.size a w) (o : Obj) : Below a.heap.size a (w.alloc o) := h.alloc h.size o
theorem bel_trans (h : Below a.heap.size a w) (k : Below w.heap.size w w') : Below a.heap.size a w' := h.trans (k.mono h.size)
theorem bel_drewN (h : Below a.heap.size a w) (n : Nat) : Below a.heap.size a (w.drewN n) := ⟨h.os, h.tape, h.output, h.size, h.block⟩
theorem bel_set (h : Below a.heap.size a w) {p : Addr} (hp : a.heap.size ≤ p.block) (u : Value) : Below a.heap.size a (w.setCell p u) := h.setCell hp u
theorem bel_grown (h : Below a.heap.size a w) {row : Option Nat} (hg : w.grownBy w' row) (hr : ∀ k, row = some k → a.heap.size ≤ k) : Below a.heap.size a w' := h.grown hg h.size hr
theorem bel_of_eq (h : w = w') : Below w.heap.size w w' := h ▸ Below.refl _ _
end

/-! ### Cells of a list -/
section
variable {α : Type}
def cellsOf (enc : α → List Value) (l : List α) : List Value := l.flatMap enc
theorem cellsOf_nil (enc : α → List Value) : cellsOf enc [] = [] := rfl
theorem cellsOf_append (enc : α → List Value) (l m : List α) : cellsOf enc (l ++ m) = cellsOf enc l ++ cellsOf enc m := by simp [cellsOf]
theorem cellsOf_one (enc : α → List Value) (x : α) : cellsOf enc [x] = enc x := by simp [cellsOf]
theorem cellsOf_length {enc : α → List Value} {sz : Nat} (hs : ∀ x, (enc x).length = sz) (l : List α) : (cellsOf enc l).length = l.length * sz := by
  induction l with
  | nil => simp [cellsOf]
  | cons x l ih =>
    have : cellsOf enc (x :: l) = enc x ++ cellsOf enc l := rfl
    rw [this, List.length_append, ih, hs, List.length_cons, Nat.add_mul]; omega
theorem cellsOf_get {enc : α → List Value} {sz : Nat} (hs : ∀ x, (enc x).length = sz) (l : List α) (i j : Nat) (hj : j < sz) :
    (cellsOf enc l)[i * sz + j]? = (l[i]?).bind fun x => (enc x)[j]? := by
  induction l generalizing i with
  | nil => simp [cellsOf]
  | cons x l ih =>
    have : cellsOf enc (x :: l) = enc x ++ cellsOf enc l := rfl
    rw [this]
    cases i with
    | zero => rw [List.getElem?_append_left (by rw [hs]; omega)]; simp
    | succ i =>
      rw [List.getElem?_append_right (by rw [hs, Nat.add_mul]; omega), hs, show (i + 1) * sz + j - sz = i * sz + j by rw [Nat.add_mul]; omega, ih]
      simp
theorem cellsOf_take {enc : α → List Value} {sz : Nat} (hs : ∀ x, (enc x).length = sz) (l : List α) (k : Nat) : cellsOf enc (l.take k) = (cellsOf enc l).take (k * sz) := by
  induction l generalizing k with
  | nil => simp [cellsOf]
  | cons x l ih =>
    cases k with
    | zero => simp [cellsOf]
    | succ k =>
      have h1 : cellsOf enc (x :: l) = enc x ++ cellsOf enc l := rfl
      have h2 : cellsOf enc ((x :: l).take (k + 1)) = enc x ++ cellsOf enc (l.take k) := rfl
      rw [h1, h2, List.take_append, ih, List.take_of_length_le (l := enc x) (by rw [hs, Nat.add_mul]; omega), hs, show (k + 1) * sz - sz = k * sz by rw [Nat.add_mul]; omega]
theorem cellsOf_drop {enc : α → List Value} {sz : Nat} (hs : ∀ x, (enc x).length = sz) (l : List α) (k : Nat) : cellsOf enc (l.drop k) = (cellsOf enc l).drop (k * sz) := by
  induction l generalizing k with
  | nil => simp [cellsOf]
  | cons x l ih =>
    cases k with
    | zero => simp [cellsOf]
    | succ k =>
      have h1 : cellsOf enc (x :: l) = enc x ++ cellsOf enc l := rfl
      have h2 : cellsOf enc ((x :: l).drop (k + 1)) = cellsOf enc (l.drop k) := rfl
      rw [h1, h2, List.drop_append, ih, List.drop_of_length_le (l := enc x) (by rw [hs, Nat.add_mul]; omega), hs, show (k + 1) * sz - sz = k * sz by rw [Nat.add_mul]; omega]
      simp
theorem cellsOf_mem {enc : α → List Value} (h1 : ∀ x, ∀ v ∈ enc x, v.oneCell' = true) (l : List α) : ∀ u ∈ cellsOf enc l, u.oneCell' = true := by
  intro u hu
  obtain ⟨x, _, hx⟩ := List.mem_flatMap.1 hu
  exact h1 x u hx
theorem ext_of {xs ys : List Value} (h : ∀ j : Nat, xs[j]? = ys[j]?) : xs = ys := List.ext_getElem? h
/-- the cells of element k, set one by one, are the cells of the list with element k set: two cells -/
theorem cellsOf_set2 {enc : α → List Value} (hs : ∀ x, (enc x).length = 2) (l : List α) (k : Nat) (x : α) (u v : Value) (he : enc x = [u, v]) (hk : k < l.length) :
    ((cellsOf enc l).set (k * 2) u).set (k * 2 + 1) v = cellsOf enc (l.set k x) := by
  induction l generalizing k with
  | nil => simp at hk
  | cons y l ih =>
    have h1 : cellsOf enc (y :: l) = enc y ++ cellsOf enc l := rfl
    have hy := hs y
    match h : enc y, hy with
    | [p, q], _ =>
      cases k with
      | zero => simp [cellsOf, h, he]
      | succ k =>
        have h2 : cellsOf enc ((y :: l).set (k + 1) x) = enc y ++ cellsOf enc (l.set k x) := rfl
        rw [h1, h2, h, ← ih k (by simpa using hk), show (k + 1) * 2 = k * 2 + 1 + 1 by omega]
        simp
end

/-! ### make([]T, n, c) -/
theorem run_make_rowN {P : Program} (t e : TypeId) (i : TypeInfo) (z : Value) (ht : P.underlying t = some (.slice e)) (hi : P.info? e = some i) (hz : i.zero = some z)
    (kl kc : IntKind) (n c : Nat) (hnc : n ≤ c) (hbytes : i.bytes * c ≤ 281474976710656) (h63 : c ≤ 9223372036854775807) (w : World) :
    (Instr.makeSlice t (.int kl (n : Int)) (.int kc (c : Int))).run P w = .ok (.slice (some ⟨w.heap.size, 0, none⟩) n c) (w.alloc (.cells (madeCells z.cells (c * i.size)) e)) := by
  have hb : (i.bytes : Int) * (c : Int) ≤ 281474976710656 := by
    have h : ((i.bytes * c : Nat) : Int) ≤ 281474976710656 := by omega
    rwa [Int.natCast_mul] at h
  have hr := run_make (P := P) w t e i z ht hi hz kl kc n c (by omega) (by omega) hb (by omega)
  simp only [Int.toNat_natCast] at hr
  exact hr
/-- the cells of n zero elements -/
theorem madeCells_eq {α : Type} {enc : α → List Value} {sz : Nat} (hs : ∀ x, (enc x).length = sz) (hsz : 0 < sz) (z : α) (zc : Array Value) (hz : zc.toList = enc z) (n : Nat) :
    (madeCells zc (n * sz)).toList = cellsOf enc (List.replicate n z) := by
  have hzs : zc.size = sz := by rw [← Array.length_toList, hz, hs]
  apply ext_of
  intro q
  by_cases hq : q < n * sz
  · have hd : q = q / sz * sz + q % sz := by rw [Nat.mul_comm]; exact (Nat.div_add_mod q sz).symm
    have hm : q % sz < sz := Nat.mod_lt _ hsz
    have hdl : q / sz < n := Nat.div_lt_of_lt_mul (by rw [Nat.mul_comm]; exact hq)
    have h2 : (cellsOf enc (List.replicate n z))[q]? = (enc z)[q % sz]? := by
      conv => lhs; rw [hd]
      rw [cellsOf_get hs _ _ _ hm, List.getElem?_replicate, if_pos hdl]
      rfl
    have hlt : q % sz < zc.size := by omega
    rw [h2, ← hz]
    simp [madeCells, hq, hzs, Array.getElem?_eq_getElem hlt]
    exact getElem!_pos zc _ hlt
  · rw [List.getElem?_eq_none (by simp [size_madeCells]; omega), List.getElem?_eq_none (by rw [cellsOf_length hs, List.length_replicate]; omega)]

/-! ### A slice that reads as a list -/
section
variable {α : Type}
/-- the slice of n elements at A reads as l; its block lies below B -/
def Sl (enc : α → List Value) (w : World) (B : Nat) (A : Option Addr) (n : Nat) (l : List α) : Prop :=
  l.length = n ∧ (0 < n → ∃ b off, A = some ⟨b, off, none⟩ ∧ b < B ∧ ∀ (j : Nat) (u : Value), (cellsOf enc l)[j]? = some u → w.cell? ⟨b, off + j, none⟩ = some u)
variable {enc : α → List Value} {w w' : World} {B n : Nat} {A : Option Addr} {l : List α}
theorem Sl.len (h : Sl enc w B A n l) : l.length = n := h.1
theorem Sl.spot (h : Sl enc w B A n l) (hn : 0 < n) : ∃ b off, A = some ⟨b, off, none⟩ ∧ b < B := by
  obtain ⟨b, off, h1, h2, _⟩ := h.2 hn
  exact ⟨b, off, h1, h2⟩
theorem Sl.nil (enc : α → List Value) (w : World) (B : Nat) (A : Option Addr) : Sl enc w B A 0 [] := ⟨rfl, fun h => absurd h (by omega)⟩
theorem Sl.nil_of (h : Sl enc w B A 0 l) : l = [] := List.eq_nil_of_length_eq_zero h.1
theorem Sl.keep (h : Sl enc w B A n l) (hb : Below B w w') : Sl enc w' B A n l :=
  ⟨h.1, fun hn => by
    obtain ⟨b, off, h1, h2, h3⟩ := h.2 hn
    exact ⟨b, off, h1, h2, fun j u hu => (hb.cell (p := ⟨b, off + j, none⟩) h2).trans (h3 j u hu)⟩⟩
theorem Sl.more {B' : Nat} (h : Sl enc w B A n l) (hB : B ≤ B') : Sl enc w B' A n l :=
  ⟨h.1, fun hn => by
    obtain ⟨b, off, h1, h2, h3⟩ := h.2 hn
    exact ⟨b, off, h1, by omega, h3⟩⟩
/-- read on in a later world, as a reading below that world's own size -/
theorem Sl.on (h : Sl enc w w.heap.size A n l) (hb : Below w.heap.size w w') : Sl enc w' w'.heap.size A n l := (h.keep hb).more hb.size
theorem Sl.cells {b off : Nat} (h : Sl enc w B (some ⟨b, off, none⟩) n l) (hn : 0 < n) : b < B ∧ ∀ (j : Nat) (u : Value), (cellsOf enc l)[j]? = some u → w.cell? ⟨b, off + j, none⟩ = some u := by
  obtain ⟨b', off', h1, h2, h3⟩ := h.2 hn
  simp only [Option.some.injEq, Addr.mk.injEq, and_true] at h1
  obtain ⟨rfl, rfl⟩ := h1
  exact ⟨h2, h3⟩
theorem Sl.at_ {b off sz : Nat} (hs : ∀ x, (enc x).length = sz) (h : Sl enc w B (some ⟨b, off, none⟩) n l) {k : Nat} (hk : k < n) :
    ∃ x, l[k]? = some x ∧ ∀ (j : Nat) (u : Value), (enc x)[j]? = some u → w.cell? ⟨b, off + (k * sz + j), none⟩ = some u := by
  obtain ⟨_, h3⟩ := h.cells (by omega)
  have hl : k < l.length := by rw [h.1]; exact hk
  refine ⟨l[k], List.getElem?_eq_getElem hl, fun j u hu => h3 _ u ?_⟩
  have hj : j < sz := by have := (List.getElem?_eq_some_iff.1 hu).1; rw [hs] at this; exact this
  rw [cellsOf_get hs l k j hj, List.getElem?_eq_getElem hl]
  simpa using hu
/-- a cut 's[i:j]' with an address of its own -/
theorem Sl.cut {b off sz : Nat} (hs : ∀ x, (enc x).length = sz) (h : Sl enc w B (some ⟨b, off, none⟩) n l) (i j : Nat) (hij : i ≤ j) (hj : j ≤ n) :
    Sl enc w B (some ⟨b, off + i * sz, none⟩) (j - i) ((l.drop i).take (j - i)) := by
  refine ⟨by rw [List.length_take, List.length_drop, h.1]; omega, fun hn => ?_⟩
  obtain ⟨h2, h3⟩ := h.cells (by omega)
  refine ⟨b, off + i * sz, rfl, h2, fun q u hu => ?_⟩
  rw [cellsOf_take hs, cellsOf_drop hs, List.getElem?_take] at hu
  split at hu
  · rw [List.getElem?_drop] at hu
    have := h3 _ u hu
    rw [← Nat.add_assoc] at this
    exact this
  · cases hu
end

/-! ### A slice that the call owns -/
section
variable {α : Type}
/-- the slice .slice A n c owns a row (from block base on, not frozen) whose first n elements are l -/
def Own (enc : α → List Value) (sz : Nat) (e : TypeId) (w : World) (base : Nat) (v : Value) (l : List α) : Prop :=
  w.ownsRow base e sz v l.length (cellsOf enc l)
variable {enc : α → List Value} {sz : Nat} {e : TypeId} {w w' : World} {base n c : Nat} {A : Option Addr} {v : Value} {l : List α}
theorem Own.form (h : Own enc sz e w base v l) : ∃ A c, v = .slice A l.length c ∧ l.length ≤ c ∧ c ≤ maxLen := by
  rcases h.2 with ⟨h1, h2⟩ | ⟨g, cap, cur, h1, _, _, h4, h5, _⟩
  · exact ⟨none, 0, by rw [h2]; exact h1, by omega, by simp [maxLen]⟩
  · exact ⟨_, cap, h1, h4, h5⟩
theorem Own.sl (h : Own enc sz e w base (.slice A n c) l) : Sl enc w w.heap.size A n l := by
  obtain ⟨A', c', hv, _, _⟩ := h.form
  injection hv with h1 h2 h3
  subst h1; subst h2; subst h3
  refine ⟨rfl, fun hn => ?_⟩
  rcases h.2 with ⟨h1, h2⟩ | ⟨g, cap, cur, h1, _, hh, _⟩
  · omega
  · injection h1 with h1 h2 h3
    subst h1
    refine ⟨g, 0, rfl, (Array.getElem?_eq_some_iff.1 hh).1, fun j u hu => ?_⟩
    have hlt := (List.getElem?_eq_some_iff.1 hu).1
    have hl := h.1
    rw [Nat.zero_add]
    subst h3
    rw [World.ownsRow.cellAt h j (by omega)]
    exact hu
theorem Own.slB (h : Own enc sz e w base (.slice A n c) l) : Sl enc w w.heap.size A n l := h.sl
theorem Own.keep {B : Nat} (h : Own enc sz e w base v l) (hb : Below B w w') (hB : w.heap.size ≤ B) : Own enc sz e w' base v l := by
  refine ⟨h.1, ?_⟩
  rcases h.2 with hn | ⟨g, cap, cur, rfl, h1, h2, h3⟩
  · exact .inl hn
  · exact .inr ⟨g, cap, cur, rfl, h1, by rw [hb.block g (by have := (Array.getElem?_eq_some_iff.1 h2).1; omega)]; exact h2, h3⟩
theorem Own.on (h : Own enc sz e w base v l) (hb : Below w.heap.size w w') : Own enc sz e w' base v l := h.keep hb (Nat.le_refl _)
theorem Own.lower {base' : Nat} (h : Own enc sz e w base v l) (hb : base' ≤ base) : Own enc sz e w base' v l := by
  refine ⟨h.1, ?_⟩
  rcases h.2 with hn | ⟨g, cap, cur, rfl, h1, h2⟩
  · exact .inl hn
  · exact .inr ⟨g, cap, cur, rfl, by omega, h2⟩
theorem Own.nil (w : World) (base : Nat) : Own enc sz e w base (.slice none 0 0) ([] : List α) := World.ownsRow_nil w base e sz
theorem Own.len (h : Own enc sz e w base (.slice A n c) l) : l.length = n := by
  obtain ⟨A', c', hv, _, _⟩ := h.form
  injection hv with h1 h2 h3
  exact h2.symm
theorem Own.block (h : Own enc sz e w base (.slice A n c) l) {a : Addr} (ha : A = some a) : base ≤ a.block ∧ a.block < w.heap.size ∧ a.off = 0 ∧ a.spot = none := by
  subst ha
  rcases h.2 with ⟨h1, _⟩ | ⟨g, cap, cur, h1, hb, hh, _⟩
  · injection h1 with h1; cases h1
  · injection h1 with h1 h2 h3
    injection h1 with h1
    subst h1
    exact ⟨hb, (Array.getElem?_eq_some_iff.1 hh).1, rfl, rfl⟩
end

/-! ### Stores into an owned row of two-cell elements; a new row -/
section
variable {α : Type} {enc : α → List Value} {e : TypeId} {w : World} {base n c g : Nat} {l : List α}
theorem Own.cellAt {sz : Nat} (hs : ∀ x, (enc x).length = sz) (h : Own enc sz e w base (.slice (some ⟨g, 0, none⟩) n c) l) {k j : Nat} {x : α} {u : Value} (hx : l[k]? = some x) (hu : (enc x)[j]? = some u) :
    w.cell? ⟨g, k * sz + j, none⟩ = some u := by
  have hn := h.len
  have hk := (List.getElem?_eq_some_iff.1 hx).1
  have hj : j < sz := by have := (List.getElem?_eq_some_iff.1 hu).1; rw [hs] at this; exact this
  have h' : w.ownsRow base e sz (.slice (some ⟨g, 0, none⟩) l.length c) l.length (cellsOf enc l) := by rw [hn]; rw [Own, hn] at h; exact h
  have hlt : k * sz + j < l.length * sz := by
    have : (k + 1) * sz ≤ l.length * sz := Nat.mul_le_mul_right _ hk
    rw [Nat.add_mul] at this; omega
  rw [World.ownsRow.cellAt h' _ hlt, cellsOf_get hs l k j hj, hx]
  exact hu
theorem Own.free {sz : Nat} (h : Own enc sz e w base (.slice (some ⟨g, 0, none⟩) n c) l) (j : Nat) : w.frozen? ⟨g, j, none⟩ = false := by
  have hn := h.len
  have h' : w.ownsRow base e sz (.slice (some ⟨g, 0, none⟩) l.length c) l.length (cellsOf enc l) := by rw [hn]; rw [Own, hn] at h; exact h
  exact World.ownsRow.frozenAt h' j
theorem Own.set2 (hs : ∀ x, (enc x).length = 2) (h : Own enc 2 e w base (.slice (some ⟨g, 0, none⟩) n c) l) (k : Nat) (x : α) (u v : Value) (he : enc x = [u, v]) (hk : k < n) :
    Own enc 2 e ((w.setCell ⟨g, k * 2, none⟩ u).setCell ⟨g, k * 2 + 1, none⟩ v) base (.slice (some ⟨g, 0, none⟩) n c) (l.set k x) := by
  have hn := h.len
  have h' : w.ownsRow base e 2 (.slice (some ⟨g, 0, none⟩) l.length c) l.length (cellsOf enc l) := by rw [hn]; rw [Own, hn] at h; exact h
  have h1 := (h'.stored (k * 2) u).1
  have h2 := (h1.stored (k * 2 + 1) v).1
  rw [cellsOf_set2 hs l k x u v he (by omega)] at h2
  unfold Own
  rw [List.length_set]
  rw [hn] at h2 ⊢
  exact h2
theorem Own.made {sz : Nat} (w : World) (cs : Array Value) (hb : base ≤ w.heap.size) (hm : l.length ≤ maxLen) (hs : ∀ x, (enc x).length = sz) (hc : cs.toList = cellsOf enc l) :
    Own enc sz e (w.alloc (.cells cs e)) base (.slice (some ⟨w.heap.size, 0, none⟩) l.length l.length) l := by
  unfold Own
  rw [← hc]
  refine World.ownsRow_lit w cs l.length hb hm ?_
  rw [← Array.length_toList, hc, cellsOf_length hs]
/-- filling up, element by element -/
theorem fill_set (l : List α) (z x : α) (n k : Nat) (hl : l.length = n) (hx : l[k]? = some x) : (l.take k ++ List.replicate (n - k) z).set k x = l.take (k + 1) ++ List.replicate (n - (k + 1)) z := by
  have hk := (List.getElem?_eq_some_iff.1 hx).1
  have hx' := (List.getElem?_eq_some_iff.1 hx).2
  rw [List.set_append_right _ _ (by rw [List.length_take]; omega), List.length_take, show k - min k l.length = 0 by omega, show n - k = n - (k + 1) + 1 by omega, List.replicate_succ, List.set_cons_zero,
    List.take_succ_eq_append_getElem hk, hx', List.append_assoc]
  rfl
theorem fill_all (l : List α) (z : α) (n k : Nat) (hl : l.length = n) (hk : n ≤ k) : l.take k ++ List.replicate (n - k) z = l := by
  rw [List.take_of_length_le (by omega), show n - k = 0 by omega]; simp
theorem fill_len (l : List α) (z : α) (n k : Nat) (hl : l.length = n) (hk : k ≤ n) : (l.take k ++ List.replicate (n - k) z).length = n := by
  rw [List.length_append, List.length_take, List.length_replicate]; omega
theorem fill_get (l : List α) (z : α) (n k : Nat) (hl : l.length = n) (hk : k < n) : (l.take k ++ List.replicate (n - k) z)[k]? = some z := by
  rw [List.getElem?_append_right (by rw [List.length_take]; omega), List.length_take, List.getElem?_replicate, if_pos (by omega)]
end
end Go.Proofs.YtpmeaikiaoojkaaDoor
