/- Blocks of known cells (locals whose address is taken), carried from world to world. No program in sight. -/
import Derived.Test.YtpmeaikiaoojkaaDoorK2
import Derived.Deep.RegionHeld3
import Derived.Deep.DrawnRows
namespace Go.Proofs.YtpmeaikiaoojkaaDoor
open Go.RowKit

theorem keepC {W W' : World} (hb : Below W.heap.size W W') {b k : Nat} {v : Value} (c : W.cell? ⟨b, k, none⟩ = some v) : W'.cell? ⟨b, k, none⟩ = some v :=
  (hb.cell (p := ⟨b, k, none⟩) (World.block_lt_of_cell? W _ c)).trans c
theorem below_of_turnA {A : Option Addr} {a w w' : World} (hb : Below a.heap.size a w) (ht : Turn A w w') (hg : ∀ x, A = some x → a.heap.size ≤ x.block) : Below a.heap.size a w' := Turn.bel hb ht hg
/-- block B of type t holds the cells cs -/
def BoxC (W : World) (B : Nat) (t : TypeId) (cs : Array Value) : Prop := W.heap[B]? = some (.cells cs t (0, 0))
section
variable {W W' : World} {B : Nat} {t : TypeId} {cs : Array Value}
theorem BoxC.lt (h : BoxC W B t cs) : B < W.heap.size := (Array.getElem?_eq_some_iff.1 h).1
theorem BoxC.c (h : BoxC W B t cs) {k : Nat} {v : Value} (hk : cs[k]? = some v) : W.cell? ⟨B, k, none⟩ = some v := by
  simp only [World.cell?, show W.heap[B]? = _ from h]; simpa using hk
theorem BoxC.f (h : BoxC W B t cs) (k : Nat) : W.frozen? ⟨B, k, none⟩ = false := by simp [World.frozen?, show W.heap[B]? = _ from h]
theorem BoxC.new (W : World) (t : TypeId) (cs : Array Value) : BoxC (W.alloc (.cells cs t)) W.heap.size t cs := heap_alloc_new W _
theorem BoxC.on (h : BoxC W B t cs) (hb : Below W.heap.size W W') : BoxC W' B t cs := (hb.block B h.lt).trans h
theorem BoxC.turn {A : Option Addr} (h : BoxC W B t cs) (ht : Turn A W W') (hne : ∀ x, A = some x → B ≠ x.block) : BoxC W' B t cs :=
  (ht.block B h.lt (by
    cases A with
    | none => simp
    | some x => simpa using hne x rfl)).trans h
theorem BoxC.grown {row : Option Nat} (h : BoxC W B t cs) (hg : W.grownBy W' row) (hne : some B ≠ row) : BoxC W' B t cs := (hg.block B h.lt hne).trans h
theorem BoxC.alloc (h : BoxC W B t cs) (o : Obj) : BoxC (W.alloc o) B t cs := h.on (bel_alloc (Below.refl _ _) o)
theorem BoxC.drew (h : BoxC W B t cs) : BoxC W.drew B t cs := h
theorem BoxC.other {B' k : Nat} {x : Value} (h : BoxC W B t cs) (hne : B ≠ B') : BoxC (W.setCell ⟨B', k, none⟩ x) B t cs := (Below.heap_setCell _ _ _ _ (by simpa using hne)).trans h
theorem BoxC.set (h : BoxC W B t cs) (k : Nat) (x : Value) : BoxC (W.setCell ⟨B, k, none⟩ x) B t (cs.setIfInBounds k x) := by
  obtain ⟨hlt, hk⟩ := Array.getElem?_eq_some_iff.1 h
  show (W.heap.modify B _)[B]? = _
  rw [Array.getElem?_eq_getElem (by rw [Array.size_modify]; exact hlt), Array.getElem_modify_self, hk]
  rfl
theorem BoxC.apart {α : Type} {enc : α → List Value} {sz : Nat} {e : TypeId} {base n c : Nat} {A : Option Addr} {l : List α} (h : BoxC W B t cs) (hte : t ≠ e) (ho : Own enc sz e W base (.slice A n c) l) : ∀ x, A = some x → B ≠ x.block := by
  intro x hx hB
  rcases ho.2 with ⟨h1, _⟩ | ⟨g, cap, cur, h1, _, hh, _⟩
  · injection h1 with h1; rw [h1] at hx; cases hx
  · injection h1 with h1
    rw [h1] at hx
    cases hx
    simp only at hB
    subst hB
    rw [show W.heap[_]? = _ from h] at hh
    simp only [Option.some.injEq, Obj.cells.injEq] at hh
    exact hte hh.2.1
theorem BoxC.appended {α : Type} {enc : α → List Value} {sz : Nat} {e : TypeId} {base n c : Nat} {A : Option Addr} {l : List α} (h : BoxC W B t cs) (hte : t ≠ e) (ho : Own enc sz e W base (.slice A n c) l) (hg : W.grownBy W' (Value.slice A n c).ownBlock) : BoxC W' B t cs :=
  h.grown hg (fun eq => by
    cases A with
    | none => simp [Value.ownBlock] at eq
    | some x => exact h.apart hte ho x rfl (by simpa [Value.ownBlock] using eq))
/-- a row of one's own and a store into a box -/
theorem Own.box {α : Type} {enc : α → List Value} {sz : Nat} {e : TypeId} {base n c k : Nat} {A : Option Addr} {l : List α} {v : Value} (ho : Own enc sz e W base (.slice A n c) l) (h : BoxC W B t cs) (hte : t ≠ e) : Own enc sz e (W.setCell ⟨B, k, none⟩ v) base (.slice A n c) l :=
  ho.far ((Turn.refl (some ⟨B, 0, none⟩) W).set k v) (fun x y hx hy => by cases hx; exact h.apart hte ho y hy)
end
end Go.Proofs.YtpmeaikiaoojkaaDoor
