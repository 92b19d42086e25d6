/- A number in decimals: l11Dec of the reference; plain facts. -/
import Derived.Test.YtpmeaikiaoojkaaDoorQ
import Derived.Test.YtpmeaikiaoojkaaDoorRows
import Derived.Laws.BytesArg
import Derived.Lib.ItoaNum
import Derived.Lib.ItoaMem
namespace Go.Proofs.YtpmeaikiaoojkaaDoor
open Go.RowKit

/-- the string of one byte -/
def b1 (z : Int) : ByteArray := strOfNums [z]
theorem b1_size (z : Int) : (b1 z).size = 1 := rfl
theorem cell_new1 (w : World) (v : Value) (t : TypeId) : (w.alloc (.cells #[v] t)).cell? ⟨w.heap.size, 0, none⟩ = some v := by
  rw [cell_of_row _ w.heap.size 0 #[v] t (0, 0) (heap_alloc_new w _)]; rfl
set_option maxRecDepth 100000 in
theorem conv1 (W : World) (z : Int) : (convert 30 9 (.slice (some ⟨W.heap.size, 0, none⟩) 1 1)).run Tryd.prog (W.alloc (.cells #[.int .u8 z] 5)) = .ok (.string (b1 z)) (W.alloc (.cells #[.int .u8 z] 5)) :=
  run_convert_bytes_arg (P := Tryd.prog) _ 30 5 Tryd.underlying30 Tryd.underlying5 W.heap.size 0 1 1 [z] rfl (fun i hi => by
    obtain rfl : i = 0 := by omega
    simp only [Nat.add_zero]
    exact cell_new1 W (.int .u8 z) 5) 9 Tryd.underlying9
/-- the numeral of a number, as a string -/
def dec (n : Int) : ByteArray := ⟨(Lib.itoa n).toArray⟩
def decN (u : Nat) : ByteArray := ⟨(Lib.decDigits u).toArray⟩
theorem b1_data (u : Nat) (_ : u < 256) : (b1 (u : Int)).data = #[UInt8.ofNat u] := by simp [b1, strOfNums]
theorem ba_cat (a b : List UInt8) : (⟨(a ++ b).toArray⟩ : ByteArray) = ⟨a.toArray⟩ ++ ⟨b.toArray⟩ := by
  apply ByteArray.ext; simp
theorem decN_small {u : Nat} (h : u ≤ 9) : decN u = b1 (48 + (u : Int)) := by
  apply ByteArray.ext
  rw [show (48 + (u : Int)) = ((48 + u : Nat) : Int) by omega, b1_data _ (by omega), decN, Lib.decDigits_one (by omega)]
theorem decN_step {u : Nat} (h : 9 < u) : decN u = decN (u / 10) ++ b1 (48 + (u : Int) % 10) := by
  have e : b1 (48 + (u : Int) % 10) = ⟨[UInt8.ofNat (48 + u % 10)].toArray⟩ := by
    apply ByteArray.ext
    rw [show (48 + (u : Int) % 10) = ((48 + u % 10 : Nat) : Int) by omega, b1_data _ (by omega)]
  rw [e, decN, decN, ← ba_cat]
  conv => lhs; rw [Lib.decDigits, dif_neg (by omega)]
theorem dec_nonneg (u : Nat) : dec (u : Int) = decN u := by rw [dec, Lib.itoa_nonneg]; rfl
theorem dec_neg (u : Nat) (h : 1 ≤ u) : dec (-(u : Int)) = (⟨#[45]⟩ : ByteArray) ++ decN u := by
  rw [dec, Lib.itoa_neg u h, decN]
  exact ba_cat [45] (Lib.decDigits u)
theorem nDigits_le : ∀ (f u : Nat), u < 10 ^ f → 1 ≤ f → Lib.nDigits u ≤ f
  | 0, u, _, h => by omega
  | f + 1, u, hu, _ => by
    rw [Lib.nDigits]
    split
    · omega
    · have hf : 1 ≤ f := by
        rcases Nat.eq_zero_or_pos f with rfl | h
        · simp at hu; omega
        · exact h
      have := nDigits_le f (u / 10) (by rw [Nat.pow_succ] at hu; omega) hf
      omega
theorem decN_size {u f : Nat} (h : u < 10 ^ f) (hf : 1 ≤ f) : (decN u).size ≤ f := by
  show (Lib.decDigits u).toArray.size ≤ f
  rw [List.size_toArray, Lib.decDigits_length]
  exact nDigits_le f u h hf
set_option maxHeartbeats 1000000 in
set_option maxRecDepth 100000 in
theorem l11DecN (u : Nat) (w : World) (h : u ≤ 99999999) :
    Calls Tryd.prog 24 #[.int .i64 (u : Int)] w fun e w' => e = .returned (.string (decN u)) ∧ Below w.heap.size w w' := by
  have hcv := conv1
  have h0 : ¬ (u : Int) < -9223372036854775807 := by omega
  have h1 : ¬ (u : Int) < 0 := by omega
  go_enter Tryd.func24, Tryd.ntmps24
  go_wp2
  go_loopw [0, 3] (fun i s wr => ∃ (q : Nat) (t : ByteArray), q ≤ u ∧ i = .int .i64 q ∧ s = .string t ∧ t.size + q ≤ u ∧ Hid (decN q ++ t = decN u) ∧ Below w.heap.size w wr) (fun i _ _ => (intOf i).toNat)
  case atStart => exact ⟨u, ByteArray.empty, by omega, rfl, rfl, by simp, Lib.hid (by simp), Below.refl _ _⟩
  case round =>
    obtain ⟨q, t, hq, rfl, rfl, ht, hm, hbel⟩ := hrel
    have ht2 : t.size ≤ 99999999 := by omega
    by_cases h9 : 9 < q
    · have hb1 := b1_size (48 + (q : Int) % 10)
      have HB := Lib.hid hb1
      have HM := Lib.hid (show decN (q / 10) ++ (b1 (48 + (q : Int) % 10) ++ t) = decN u by rw [← ByteArray.append_assoc, ← decN_step h9]; exact hm.out)
      go_wp2
      go_roundw
      case rel => exact ⟨q / 10, b1 (48 + (q : Int) % 10) ++ t, by omega, by rw [show (q : Int) / 10 = ((q / 10 : Nat) : Int) by omega], rfl, by rw [ByteArray.size_append, HB.out]; omega, HM, bel_alloc hbel _⟩
      case measure => simp [intOf]; omega
    · have hb1 := b1_size (48 + (q : Int))
      have HF := Lib.hid (show b1 (48 + (q : Int)) ++ t = decN u by rw [← decN_small (by omega)]; exact hm.out)
      go_wp2
      go_ret
      exact ⟨congrArg (fun s => Ending.returned (.string s)) HF.out, bel_alloc hbel _⟩
theorem l11Dec (n : Int) (w : World) (h0 : -99999999 ≤ n) (h1 : n ≤ 99999999) :
    Calls Tryd.prog 24 #[.int .i64 n] w fun e w' => e = .returned (.string (dec n)) ∧ Below w.heap.size w w' := by
  by_cases hn : n < 0
  · obtain ⟨u, rfl, hu⟩ : ∃ u : Nat, n = -(u : Int) ∧ 1 ≤ u := ⟨n.natAbs, by omega, by omega⟩
    rw [dec_neg u hu]
    have hs := decN_size (u := u) (f := 8) (by omega) (by omega)
    have h2 : ¬ -(u : Int) < -9223372036854775807 := by omega
    have h3 : -(u : Int) < 0 := by omega
    have h4 : - -(u : Int) = (u : Int) := by omega
    have hu8 : (u : Int) ≤ 99999999 := by omega
    clear hn h0 h1
    go_enter Tryd.func24, Tryd.ntmps24
    go_wp2_with fail
    refine (l11DecN u _ (by omega)).mono ?_
    rintro e w1 ⟨rfl, hb1⟩
    go_wp2
    go_ret
    exact ⟨rfl, hb1⟩
  · obtain ⟨u, rfl⟩ : ∃ u : Nat, n = (u : Int) := ⟨n.toNat, by omega⟩
    rw [dec_nonneg]
    exact l11DecN u w (by omega)
end Go.Proofs.YtpmeaikiaoojkaaDoor
