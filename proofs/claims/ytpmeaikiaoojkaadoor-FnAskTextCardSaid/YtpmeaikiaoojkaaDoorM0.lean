/- The text of a mark. -/
import Derived.Test.YtpmeaikiaoojkaaDoorRows
import Derived.Test.YtpmeaikiaoojkaaDoorK2
import Derived.Laws.BytesArg
namespace Go.Proofs.YtpmeaikiaoojkaaDoor
open Go.RowKit

theorem Own.spot {α : Type} {enc : α → List Value} {sz : Nat} {e : TypeId} {w : World} {base n c : Nat} {A : Option Addr} {l : List α} (h : Own enc sz e w base (.slice A n c) l) (hn : 0 < n) : ∃ g, A = some ⟨g, 0, none⟩ ∧ base ≤ g ∧ g < w.heap.size := by
  obtain ⟨b, off, rfl, hb⟩ := h.sl.spot hn
  obtain ⟨h1, h2, h3, _⟩ := h.block rfl
  simp only at h3
  subst h3
  exact ⟨b, rfl, h1, h2⟩
end Go.Proofs.YtpmeaikiaoojkaaDoor
