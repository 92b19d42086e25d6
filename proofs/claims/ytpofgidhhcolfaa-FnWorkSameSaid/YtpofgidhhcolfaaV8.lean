/- Cells and rows carried along a law's walk. No program in sight. -/
import Derived.Test.YtpofgidhhcolfaaV2
import Derived.Deep.RegionHeld3
import Derived.Deep.DrawnRows
namespace Go.Proofs.Ytpofgidhhcolfaa
open Go.RowKit

theorem keepC {W W' : World} (hb : Below W.heap.size W W') {b k : Nat} {v : Value} (c : W.cell? ⟨b, k, none⟩ = some v) : W'.cell? ⟨b, k, none⟩ = some v :=
  (hb.cell (p := ⟨b, k, none⟩) (World.block_lt_of_cell? W _ c)).trans c
theorem keepT {W W' : World} {g : Nat} (ht : Turn (some ⟨g, 0, none⟩) W W') {b k : Nat} {v : Value} (c : W.cell? ⟨b, k, none⟩ = some v) (hne : b ≠ g) : W'.cell? ⟨b, k, none⟩ = some v := by
  have h := ht.block b (World.block_lt_of_cell? W _ c) (by simpa using hne)
  simp only [World.cell?] at c ⊢
  rw [h]; exact c
theorem below_of_turn {a w w' : World} {g : Nat} (hb : Below a.heap.size a w) (ht : Turn (some ⟨g, 0, none⟩) w w') (hg : a.heap.size ≤ g) : Below a.heap.size a w' :=
  Turn.bel hb ht (fun x hx => by cases hx; exact hg)
/-- a row apart from another one: the marks of one leave the other -/
theorem Own.farG {α : Type} {enc : α → List Value} {sz : Nat} {e : TypeId} {w w' : World} {base n c g : Nat} {A : Option Addr} {l : List α} (h : Own enc sz e w base (.slice A n c) l) (ht : Turn (some ⟨g, 0, none⟩) w w') (hne : ∀ y, A = some y → g ≠ y.block) : Own enc sz e w' base (.slice A n c) l :=
  h.far ht (fun x y hx hy => by cases hx; exact hne y hy)
theorem lt_of_cell {W : World} {b k : Nat} {v : Value} (c : W.cell? ⟨b, k, none⟩ = some v) : b < W.heap.size := World.block_lt_of_cell? W _ c
theorem Own.apartC {α : Type} {enc : α → List Value} {sz : Nat} {e : TypeId} {w : World} {base n c b : Nat} {A : Option Addr} {l : List α} (h : Own enc sz e w base (.slice A n c) l) (hb : b < base) : ∀ y, A = some y → b ≠ y.block :=
  fun _ hy => by have := (h.block hy).1; omega
theorem Own.ltB {α : Type} {enc : α → List Value} {sz : Nat} {e : TypeId} {w : World} {base n c : Nat} {A : Option Addr} {l : List α} (h : Own enc sz e w base (.slice A n c) l) : ∀ y, A = some y → y.block < w.heap.size :=
  fun _ hy => (h.block hy).2.1
theorem keepTA {A : Option Addr} {W W' : World} (ht : Turn A W W') {b k : Nat} {v : Value} (c : W.cell? ⟨b, k, none⟩ = some v) (hne : ∀ x, A = some x → b ≠ x.block) : W'.cell? ⟨b, k, none⟩ = some v := by
  have h := ht.block b (World.block_lt_of_cell? W _ c) (by
    cases A with
    | none => simp
    | some x => simpa using hne x rfl)
  simp only [World.cell?] at c ⊢
  rw [h]; exact c
theorem below_of_turnA {A : Option Addr} {a w w' : World} (hb : Below a.heap.size a w) (ht : Turn A w w') (hg : ∀ x, A = some x → a.heap.size ≤ x.block) : Below a.heap.size a w' := Turn.bel hb ht hg
/-- a box that lay before a row was made -/
theorem Own.after {α : Type} {enc : α → List Value} {sz : Nat} {e : TypeId} {w w0 : World} {n c b k : Nat} {A : Option Addr} {l : List α} {v : Value} (h : Own enc sz e w w0.heap.size (.slice A n c) l) (hc : w0.cell? ⟨b, k, none⟩ = some v) : ∀ x, A = some x → b ≠ x.block :=
  fun _ hx => by have h1 := World.block_lt_of_cell? w0 _ hc; have h2 := (h.block hx).1; simp only at h1; omega
/-- a box that is laid behind a row -/
theorem Own.before {α : Type} {enc : α → List Value} {sz : Nat} {e : TypeId} {w : World} {n c base : Nat} {A : Option Addr} {l : List α} (h : Own enc sz e w base (.slice A n c) l) : ∀ x, A = some x → w.heap.size ≠ x.block :=
  fun _ hx => by have h2 := (h.block hx).2.1; omega
end Go.Proofs.Ytpofgidhhcolfaa
