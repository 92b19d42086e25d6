/- The text of a mark. -/
import Derived.Test.YtpofgidhhcolfaaRows
import Derived.Test.YtpofgidhhcolfaaK2
import Derived.Laws.BytesArg
namespace Go.Proofs.Ytpofgidhhcolfaa
open Go.RowKit

/-- the string of one byte -/
def b1 (z : Int) : ByteArray := strOfNums [z]
theorem b1_size (z : Int) : (b1 z).size = 1 := rfl
theorem cell_new (w : World) (v : Value) (t : TypeId) : (w.alloc (.cells #[v] t)).cell? ⟨w.heap.size, 0, none⟩ = some v := by
  rw [cell_of_row _ w.heap.size 0 #[v] t (0, 0) (heap_alloc_new w _)]; rfl
set_option maxRecDepth 100000 in
theorem conv1 (W : World) (z : Int) : (convert 68 9 (.slice (some ⟨W.heap.size, 0, none⟩) 1 1)).run Try.prog (W.alloc (.cells #[.int .u8 z] 5)) = .ok (.string (b1 z)) (W.alloc (.cells #[.int .u8 z] 5)) :=
  run_convert_bytes_arg (P := Try.prog) _ 68 5 Try.underlying68 Try.underlying5 W.heap.size 0 1 1 [z] rfl (fun i hi => by
    obtain rfl : i = 0 := by omega
    simp only [Nat.add_zero]
    exact cell_new W (.int .u8 z) 5) 9 Try.underlying9
/-- the digits of k ahead of s, with fuel -/
def mkDig : Nat → Nat → ByteArray → ByteArray
  | 0, _, s => s
  | f + 1, k, s => if k = 0 then s else mkDig f (k / 10) (b1 (48 + (k : Int) % 10) ++ s)
theorem mkDig_zero (f : Nat) (s : ByteArray) : mkDig f 0 s = s := by cases f <;> simp [mkDig]
theorem mkDig_step (f k : Nat) (s : ByteArray) (hk : 0 < k) : mkDig (f + 1) k s = mkDig f (k / 10) (b1 (48 + (k : Int) % 10) ++ s) := by
  show (if k = 0 then s else _) = _
  rw [if_neg (by omega)]
def mB : ByteArray := { data := #[109] }
/-- the mark of k -/
def mk (k : Nat) : ByteArray := mB ++ mkDig k k ByteArray.empty
set_option maxHeartbeats 400000 in
set_option maxRecDepth 100000 in
theorem markText (k : Nat) (w : World) (hk : 0 < k) (h : k ≤ 100000000) :
    Calls Try.prog 81 #[.int .i64 k] w fun e w' => e = .returned (.string (mk k)) ∧ Below w.heap.size w w' := by
  have hcv := conv1
  go_enter Try.func81, Try.ntmps81
  go_wp2
  go_loopw [0, 3] (fun i s wr => ∃ (q f : Nat) (t : ByteArray), q ≤ k ∧ q ≤ f ∧ i = .int .i64 q ∧ s = .string t ∧ t.size + q ≤ k ∧ Hid (mkDig f q t = mkDig k k ByteArray.empty) ∧ Below w.heap.size w wr) (fun i _ _ => (intOf i).toNat)
  case atStart => exact ⟨k, k, ByteArray.empty, by omega, by omega, rfl, rfl, by simp, rfl, Below.refl _ _⟩
  case round =>
    obtain ⟨q, f, t, hq, hqf, rfl, rfl, ht, hm, hbel⟩ := hrel
    by_cases h0 : 0 < q
    · have hb1 := b1_size (48 + (q : Int) % 10)
      have ht2 : t.size ≤ 100000000 := by omega
      obtain ⟨f, rfl⟩ : ∃ f', f = f' + 1 := ⟨f - 1, by omega⟩
      have HB := Lib.hid hb1
      go_wp2
      go_roundw
      case rel => exact ⟨q / 10, f, b1 (48 + (q : Int) % 10) ++ t, by omega, by omega, by rw [show (q : Int) / 10 = ((q / 10 : Nat) : Int) by omega], rfl, by rw [ByteArray.size_append, HB.out]; omega, (by rw [← mkDig_step f q t h0]; exact hm.out : mkDig f (q / 10) (b1 (48 + (q : Int) % 10) ++ t) = mkDig k k ByteArray.empty), bel_alloc hbel _⟩
      case measure => simp [intOf]; omega
    · obtain rfl : q = 0 := by omega
      have hf : mB ++ t = mk k := by rw [mk, ← hm.out, mkDig_zero]
      have HF := Lib.hid hf
      clear hf
      go_wp2
      go_ret
      exact ⟨congrArg (fun s => Ending.returned (.string s)) HF.out, hbel⟩

theorem Own.spot {α : Type} {enc : α → List Value} {sz : Nat} {e : TypeId} {w : World} {base n c : Nat} {A : Option Addr} {l : List α} (h : Own enc sz e w base (.slice A n c) l) (hn : 0 < n) : ∃ g, A = some ⟨g, 0, none⟩ ∧ base ≤ g ∧ g < w.heap.size := by
  obtain ⟨b, off, rfl, hb⟩ := h.sl.spot hn
  obtain ⟨h1, h2, h3, _⟩ := h.block rfl
  simp only at h3
  subst h3
  exact ⟨b, rfl, h1, h2⟩
end Go.Proofs.Ytpofgidhhcolfaa
