/- Contracts: RowsPut of the program and of the reference. -/
import Derived.Test.YtpmeaikiaoojkaaDoorB9
namespace Go.Proofs.YtpmeaikiaoojkaaDoor
open Go.RowKit

/-- a slice value with an address, or the nil slice -/
def Fine (A : Option Addr) (n c : Nat) : Prop := n ≤ c ∧ ((∃ b off, A = some ⟨b, off, none⟩) ∨ (A = none ∧ n = 0 ∧ c = 0))
theorem Own.fine {α : Type} {enc : α → List Value} {sz : Nat} {e : TypeId} {w : World} {base n c : Nat} {A : Option Addr} {l : List α} (h : Own enc sz e w base (.slice A n c) l) : Fine A n c := by
  obtain ⟨A', c', hv, h1, h2⟩ := h.form
  injection hv with e1 e2 e3
  subst e1; subst e2; subst e3
  refine ⟨h1, ?_⟩
  rcases h.2 with ⟨h3, h4⟩ | ⟨g, cap, cur, h3, _⟩
  · injection h3 with e1 e2 e3
    exact .inr ⟨e1, h4, e3⟩
  · injection h3 with e1 e2 e3
    exact .inl ⟨g, 0, e1⟩
noncomputable def putRes (l : List Row) (key : ByteArray) (num : Int) : List Row × Bool :=
  if rowsOk l = true then (if rowsOk (putL l key num) = true then (putL l key num, true) else (l, false)) else ([], false)
theorem putRes_bad {l : List Row} {key : ByteArray} {num : Int} (h : rowsOk l = false) : putRes l key num = ([], false) := by simp [putRes, h]
theorem putRes_full {l : List Row} {key : ByteArray} {num : Int} (h : rowsOk l = true) (k : rowsOk (putL l key num) = false) : putRes l key num = (l, false) := by simp [putRes, h, k]
theorem putRes_ok {l : List Row} {key : ByteArray} {num : Int} (h : rowsOk l = true) (k : rowsOk (putL l key num) = true) : putRes l key num = (putL l key num, true) := by simp [putRes, h, k]
theorem putL_len (l : List Row) (key : ByteArray) (num : Int) : (putL l key num).length ≤ l.length + 1 := by
  have := fnd_le l key
  unfold putL
  simp only [List.length_append, List.length_take, List.length_drop, List.length_cons, List.length_nil]
  split <;> omega
theorem putL_keys {l : List Row} {key : ByteArray} {num : Int} (h : KeysWf l) (hk : key.size ≤ maxLen) : KeysWf (putL l key num) := by
  intro r hr
  unfold putL at hr
  simp only [List.mem_append, List.mem_cons, List.not_mem_nil, or_false] at hr
  rcases hr with (hr | hr) | hr
  · exact h r (List.mem_of_mem_take hr)
  · rw [hr]; exact hk
  · exact h r (List.mem_of_mem_drop hr)
def PutPost (w : World) (r : List Row × Bool) (e : Ending) (w' : World) : Prop :=
  ∃ v, e = .returned (.tuple #[v, .bool r.2]) ∧ Own encRow 2 78 w' w.heap.size v r.1 ∧ Below w.heap.size w w'
end Go.Proofs.YtpmeaikiaoojkaaDoor
