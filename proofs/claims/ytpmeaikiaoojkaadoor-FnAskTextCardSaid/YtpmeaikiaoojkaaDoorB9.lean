/- Contracts: copies of rows, a row put, RowsPut of the program and of the reference. -/
import Derived.Test.YtpmeaikiaoojkaaDoorB6
import Derived.Test.YtpmeaikiaoojkaaDoorK3
namespace Go.Proofs.YtpmeaikiaoojkaaDoor
open Go.RowKit

theorem encRow_one (r : Row) : ∀ u ∈ encRow r, u.oneCell' = true := by
  intro u hu
  simp only [encRow, List.mem_cons, List.not_mem_nil, or_false] at hu
  rcases hu with rfl | rfl <;> rfl
def OwnPost (w : World) (l : List Row) (e : Ending) (w' : World) : Prop :=
  ∃ v, e = .returned v ∧ Own encRow 2 78 w' w.heap.size v l ∧ Below w.heap.size w w'
set_option maxHeartbeats 1000000 in
theorem l1Copy (A : Option Addr) (n c : Nat) (l : List Row) (w : World) (hr : Sl encRow w w.heap.size A n l) (hn : n ≤ 2097152) :
    Calls Tryd.prog 55 #[.slice A n c] w (OwnPost w l) := by
  obtain ⟨i0, hi, hz0, hz1, hz2⟩ := info_parts info46
  have hm := Own.made0 (enc := encRow) (sz := 2) (e := 78) w (Nat.le_refl w.heap.size)
  have hr2 := (hr.on (bel_alloc (Below.refl _ w) (.cells #[] 78)))
  have hb1 : ((0 + n) * 24 ≤ 140737488355328) := by omega
  have HB := Lib.hid hb1
  have HM := Lib.hid (show 0 + n ≤ maxLen by unfold maxLen; omega)
  clear hb1 hn
  go_enter Tryd.func55, Tryd.ntmps55
  go_wp2_with (at_builtin; refine wpList_append_sl _ rfl _ _ 53 rfl w.heap.size 78 i0 _ 2 24 Tryd.underlying53 hi hz0 hz1 hz2 rfl (by decide) encRow_len encRow_one _ [] rfl hm _ A n c l rfl hr2 HM.out HB.out (by simp) ?_)
  intro v2 w3 hown3 hg3
  go_wp2
  go_ret
  exact ⟨_, rfl, by simpa using hown3, bel_grown (bel_alloc (Below.refl _ w) _) hg3 (fun k hk => (World.ownsRow.lt hm k hk).1)⟩

/-! ### one row stored -/
def putL (l : List Row) (key : ByteArray) (num : Int) : List Row :=
  l.take (fnd l key) ++ [(key, num)] ++ l.drop (if hit l key = true then fnd l key + 1 else fnd l key)
theorem madeRows_size (c : Nat) : (madeRows c).size = c * 2 := size_madeCells _ _
theorem putL_hit {l : List Row} {key : ByteArray} {num : Int} {f : Nat} (hf : fnd l key = f) (h : hit l key = true) : putL l key num = l.take f ++ [(key, num)] ++ l.drop (f + 1) := by simp [putL, h, hf]
theorem putL_miss {l : List Row} {key : ByteArray} {num : Int} {f : Nat} (hf : fnd l key = f) (h : hit l key = false) : putL l key num = l.take f ++ [(key, num)] ++ l.drop f := by simp [putL, h, hf]
theorem cell_new2 (w : World) (u v : Value) (t : TypeId) : (w.alloc (.cells #[u, v] t)).cell? ⟨w.heap.size, 0, none⟩ = some u ∧ (w.alloc (.cells #[u, v] t)).cell? ⟨w.heap.size, 1, none⟩ = some v := by
  constructor
  · rw [cell_of_row _ w.heap.size 0 #[u, v] t (0, 0) (heap_alloc_new w _)]; rfl
  · rw [cell_of_row _ w.heap.size 1 #[u, v] t (0, 0) (heap_alloc_new w _)]; rfl
end Go.Proofs.YtpmeaikiaoojkaaDoor
