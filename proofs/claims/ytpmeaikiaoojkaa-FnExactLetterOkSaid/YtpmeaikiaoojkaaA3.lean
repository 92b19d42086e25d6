/- Contracts of szLetter, toLetter; the law FnExactLetterOk walked. -/
import Derived.Test.YtpmeaikiaoojkaaA2
namespace Go.Proofs.Ytpmeaikiaoojkaa
open Go.RowKit

def szL (x : Let) (left : Int) : Int := if left - x.1.size < 0 then -1 else if left - x.1.size - x.2.size < 0 then -1 else left - x.1.size - x.2.size
theorem szLetter (x : Let) (left : Int) (w : World) (h1 : x.1.size ≤ maxLen) (h2 : x.2.size ≤ maxLen) (l0 : 0 ≤ left) (l1 : left ≤ 1048576) :
    Calls Try.prog 11 #[.agg #[.string x.1, .string x.2], .int .i64 left] w fun e w' => e = .returned (.int .i64 (szL x left)) ∧ Below w.heap.size w w' := by
  obtain ⟨s, b⟩ := x
  unfold maxLen at h1 h2
  simp only at h1 h2
  have j1 : wrap64 (left - (s.size : Int)) = left - (s.size : Int) := IntWalk.wrap64_in _ (by omega)
  unfold szL
  simp only
  by_cases hs : left - (s.size : Int) < 0
  · rw [if_pos hs]
    go_enter Try.func11, Try.ntmps11
    go_wp2
    go_ret
    exact ⟨rfl, bel_alloc (Below.refl _ _) _⟩
  · rw [if_neg hs]
    have j2 : wrap64 (left - (s.size : Int) - (b.size : Int)) = left - (s.size : Int) - (b.size : Int) := IntWalk.wrap64_in _ (by omega)
    by_cases hb : left - (s.size : Int) - (b.size : Int) < 0
    · rw [if_pos hb]
      go_enter Try.func11, Try.ntmps11
      go_wp2
      go_ret
      exact ⟨rfl, bel_alloc (Below.refl _ _) _⟩
    · rw [if_neg hb]
      go_enter Try.func11, Try.ntmps11
      go_wp2
      go_ret
      exact ⟨retInt (by go_num), bel_alloc (Below.refl _ _) _⟩
theorem toLetter (x : Let) (w : World) :
    Calls Try.prog 13 #[.agg #[.string x.1, .string x.2]] w fun e w' => e = .returned (.agg #[.string x.1, .string x.2]) ∧ Below w.heap.size w w' := by
  obtain ⟨s, b⟩ := x
  go_enter Try.func13, Try.ntmps13
  go_wp2
  exact bodyPost_ret (v := .agg #[.string s, .string b]) (by simp [results, Try.results13, go_sem]) rfl ⟨rfl, bel_alloc (bel_alloc (bel_alloc (Below.refl _ _) _) _) _⟩

/-- the cells of a boxed letter -/
theorem boxL (w w' : World) (s b : ByteArray) (h : Below (w.alloc (.cells #[.string s, .string b] 24)).heap.size (w.alloc (.cells #[.string s, .string b] 24)) w') :
    w'.cell? ⟨w.heap.size, 0, none⟩ = some (.string s) ∧ w'.cell? ⟨w.heap.size, 1, none⟩ = some (.string b) := by
  have hl : w.heap.size < (w.alloc (.cells #[.string s, .string b] 24)).heap.size := by simp
  refine ⟨(h.cell (p := ⟨w.heap.size, 0, none⟩) hl).trans ?_, (h.cell (p := ⟨w.heap.size, 1, none⟩) hl).trans ?_⟩
  · rw [cell_of_row _ w.heap.size 0 #[.string s, .string b] 24 (0, 0) (heap_alloc_new w _)]; rfl
  · rw [cell_of_row _ w.heap.size 1 #[.string s, .string b] 24 (0, 0) (heap_alloc_new w _)]; rfl
set_option maxHeartbeats 1000000 in
theorem lawLetterOk (x : Let) (w : World) (h1 : x.1.size ≤ maxLen) (h2 : x.2.size ≤ maxLen) :
    Calls Try.prog 4 #[.agg #[.string x.1, .string x.2]] w fun e w' => e = .returned (.bool true) ∧ Below w.heap.size w w' := by
  obtain ⟨s, b⟩ := x
  have bx := boxL w
  go_enter Try.func4, Try.ntmps4
  go_wp2_with fail
  refine (szLetter (s, b) _ _ h1 h2 (by omega) (by omega)).mono ?_
  rintro e w1 ⟨rfl, hb1⟩
  have c1 := bx w1 s b hb1
  have b1 := bel_trans (bel_alloc (Below.refl _ _) _) hb1
  obtain ⟨c10, c11⟩ := c1
  generalize szL (s, b) 1048576 = z
  by_cases hz : z < 0
  · go_wp2
    go_ret
    exact ⟨rfl, b1⟩
  · go_wp2_with fail
    refine (toLetter (s, b) _).mono ?_
    rintro e w2 ⟨rfl, hb2⟩
    have hb2' := hb1.trans (hb2.mono hb1.size)
    go_wp2_with fail
    refine (specLetterOk (s, b) _ h1 h2).mono ?_
    rintro e w3 ⟨rfl, hb3⟩
    have hb3' := hb2'.trans (hb3.mono hb2'.size)
    obtain ⟨c30, c31⟩ := bx w3 s b hb3'
    go_wp2_with fail
    refine (toLetter (s, b) _).mono ?_
    rintro e w4 ⟨rfl, hb4⟩
    go_wp2_with fail
    refine (implLetterOk (s, b) _ h1 h2).mono ?_
    rintro e w5 ⟨rfl, hb5⟩
    have b5 := bel_trans (bel_trans (bel_trans (bel_trans b1 hb2) hb3) hb4) hb5
    have hq : (letOk (s, b) != letOk (s, b)) = false := by simp
    go_wp2
    go_ret
    exact ⟨rfl, b5⟩
end Go.Proofs.Ytpmeaikiaoojkaa
