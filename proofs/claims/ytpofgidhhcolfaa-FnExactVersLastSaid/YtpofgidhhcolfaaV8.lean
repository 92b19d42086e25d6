/- Cells and rows carried along a law's walk. No program in sight. -/
import Derived.Test.YtpofgidhhcolfaaV2
import Derived.Deep.RegionHeld3
import Derived.Deep.DrawnRows
namespace Go.Proofs.Ytpofgidhhcolfaa
open Go.RowKit

theorem keepC {W W' : World} (hb : Below W.heap.size W W') {b k : Nat} {v : Value} (c : W.cell? ⟨b, k, none⟩ = some v) : W'.cell? ⟨b, k, none⟩ = some v :=
  (hb.cell (p := ⟨b, k, none⟩) (World.block_lt_of_cell? W _ c)).trans c
theorem keepT {W W' : World} {g : Nat} (ht : Turn (some ⟨g, 0, none⟩) W W') {b k : Nat} {v : Value} (c : W.cell? ⟨b, k, none⟩ = some v) (hne : b ≠ g) : W'.cell? ⟨b, k, none⟩ = some v := by
  have h := ht.block b (World.block_lt_of_cell? W _ c) (by simpa using hne)
  simp only [World.cell?] at c ⊢
  rw [h]; exact c
theorem below_of_turn {a w w' : World} {g : Nat} (hb : Below a.heap.size a w) (ht : Turn (some ⟨g, 0, none⟩) w w') (hg : a.heap.size ≤ g) : Below a.heap.size a w' :=
  Turn.bel hb ht (fun x hx => by cases hx; exact hg)
/-- a row apart from another one: the marks of one leave the other -/
theorem Own.farG {α : Type} {enc : α → List Value} {sz : Nat} {e : TypeId} {w w' : World} {base n c g : Nat} {A : Option Addr} {l : List α} (h : Own enc sz e w base (.slice A n c) l) (ht : Turn (some ⟨g, 0, none⟩) w w') (hne : ∀ y, A = some y → g ≠ y.block) : Own enc sz e w' base (.slice A n c) l :=
  h.far ht (fun x y hx hy => by cases hx; exact hne y hy)
theorem lt_of_cell {W : World} {b k : Nat} {v : Value} (c : W.cell? ⟨b, k, none⟩ = some v) : b < W.heap.size := World.block_lt_of_cell? W _ c
theorem Own.apartC {α : Type} {enc : α → List Value} {sz : Nat} {e : TypeId} {w : World} {base n c b : Nat} {A : Option Addr} {l : List α} (h : Own enc sz e w base (.slice A n c) l) (hb : b < base) : ∀ y, A = some y → b ≠ y.block :=
  fun _ hy => by have := (h.block hy).1; omega
theorem Own.ltB {α : Type} {enc : α → List Value} {sz : Nat} {e : TypeId} {w : World} {base n c : Nat} {A : Option Addr} {l : List α} (h : Own enc sz e w base (.slice A n c) l) : ∀ y, A = some y → y.block < w.heap.size :=
  fun _ hy => (h.block hy).2.1
end Go.Proofs.Ytpofgidhhcolfaa
