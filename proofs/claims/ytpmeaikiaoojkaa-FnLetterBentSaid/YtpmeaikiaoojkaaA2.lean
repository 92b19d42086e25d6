/- Contracts of LetterOk: the two functions whole. -/
import Derived.Test.YtpmeaikiaoojkaaA1
namespace Go.Proofs.Ytpmeaikiaoojkaa
open Go.RowKit

theorem let_short {x : Let} (h : x.1.size ≠ 1) : letOk x = false := by
  have : (x.1.data.toList.length == 1) = false := by simpa using h
  unfold letOk; rw [this]; rfl
theorem one_list {s : ByteArray} (h : 0 < s.size) (h1 : s.size = 1) : s.data.toList = [s[0]] := by
  apply List.ext_getElem
  · simpa using h1
  · intro i hi hj
    have : i = 0 := by simp at hj; omega
    subst this; rfl
theorem let_one {x : Let} (h : 0 < x.1.size) (h1 : x.1.size = 1) : letOk x = (signI (x.1[0].toNat : Int) && (decide (x.2.size ≤ 40) && bodyOk x.2.data.toList)) := by
  unfold letOk
  rw [one_list h h1]
  simp
theorem take_snoc (s : ByteArray) (k : Nat) (h : k < s.size) : s.data.toList.take (k + 1) = s.data.toList.take k ++ [s[k]] := by
  rw [List.take_succ_eq_append_getElem (by simpa using h)]; rfl
theorem body_step {s : ByteArray} {k : Nat} (h : k < s.size) (hk : bodyOk (s.data.toList.take k) = true) (h1 : bodyI (s[k].toNat : Int) = true) : bodyOk (s.data.toList.take (k + 1)) = true := by
  unfold bodyOk at *
  rw [take_snoc s k h, List.all_append, hk]
  simpa using h1
theorem body_bad {s : ByteArray} {k : Nat} (h : k < s.size) (h1 : bodyI (s[k].toNat : Int) = false) : bodyOk s.data.toList = false := by
  unfold bodyOk
  rw [List.all_eq_false]
  refine ⟨s[k], ?_, by simpa using h1⟩
  have : s[k] = s.data.toList[k]'(by simpa using h) := rfl
  rw [this]; exact List.getElem_mem _
theorem body_all {s : ByteArray} {k : Nat} (h : ¬ k < s.size) (hk : bodyOk (s.data.toList.take k) = true) : bodyOk s.data.toList = true := by
  rwa [List.take_of_length_le (by simp; omega)] at hk

set_option maxHeartbeats 1000000 in
theorem implLetterOk (x : Let) (w : World) (h1 : x.1.size ≤ maxLen) (h2 : x.2.size ≤ maxLen) :
    Calls Try.prog 14 #[.agg #[.string x.1, .string x.2]] w fun e w' => e = .returned (.bool (letOk x)) ∧ Below w.heap.size w w' := by
  obtain ⟨s, b⟩ := x
  unfold maxLen at h1 h2
  simp only at h1 h2
  by_cases hs : s.size = 1
  · have h0 : 0 < s.size := by omega
    have j1 : ((s.size : Int) != 1) = false := by simp [hs]
    have j0 : (0 : Int) < (s.size : Int) := by omega
    rw [let_one (x := (s, b)) h0 hs]
    simp only
    cases hsg : signI (s[0].toNat : Int)
    · go_enter Try.func14, Try.ntmps14
      go_wp2_with (go_at_call 36; refine (signOk _ _).mono ?_; rw [hsg]; rintro e w' ⟨rfl, rfl⟩)
      go_ret
      exact ⟨rfl, bel_alloc (Below.refl _ _) _⟩
    · by_cases hbig : 40 < b.size
      · have j2 : (40 : Int) < (b.size : Int) := by omega
        go_enter Try.func14, Try.ntmps14
        go_wp2_with (go_at_call 36; refine (signOk _ _).mono ?_; rw [hsg]; rintro e w' ⟨rfl, rfl⟩)
        go_ret
        exact ⟨retBool (by simp; omega), bel_alloc (Below.refl _ _) _⟩
      · have j2 : ¬ (40 : Int) < (b.size : Int) := by omega
        have hbd : decide (b.size ≤ 40) = true := by simp; omega
        rw [hbd]
        simp only [Bool.true_and]
        go_enter Try.func14, Try.ntmps14
        go_wp2_with (go_at_call 36; refine (signOk _ _).mono ?_; rw [hsg]; rintro e w' ⟨rfl, rfl⟩)
        go_loop [3] (fun i => ∃ k : Nat, k ≤ b.size ∧ i = .int .i64 k ∧ Hid (bodyOk (b.data.toList.take k) = true)) (fun i => b.size - (intOf i).toNat)
        case atStart => exact ⟨0, Nat.zero_le _, rfl, rfl⟩
        case round =>
          obtain ⟨k, hk, rfl, ha⟩ := hrel
          by_cases hlt : k < b.size
          · have hlt' : (k : Int) < (b.size : Int) := by omega
            cases hbb : bodyI (b[k].toNat : Int)
            · go_wp2_with (go_at_call 37; refine (bodyByteOk _ _).mono ?_; rw [hbb]; rintro e w' ⟨rfl, rfl⟩)
              go_ret
              exact ⟨retBool (body_bad hlt hbb).symm, bel_alloc (Below.refl _ _) _⟩
            · go_wp2_with (go_at_call 37; refine (bodyByteOk _ _).mono ?_; rw [hbb]; rintro e w' ⟨rfl, rfl⟩)
              case roundEnd => exact ⟨⟨k + 1, by omega, by go_num, body_step hlt ha.out hbb⟩, by simp [intOf]; omega⟩
          · have hlt' : ¬ (k : Int) < (b.size : Int) := by omega
            go_wp2
            go_ret
            exact ⟨retBool (body_all hlt ha.out).symm, bel_alloc (Below.refl _ _) _⟩
  · rw [let_short (x := (s, b)) hs]
    have j1 : ((s.size : Int) != 1) = true := by simp; omega
    go_enter Try.func14, Try.ntmps14
    go_wp2
    go_ret
    exact ⟨rfl, bel_alloc (Below.refl _ _) _⟩

set_option maxHeartbeats 1000000 in
theorem specLetterOk (x : Let) (w : World) (h1 : x.1.size ≤ maxLen) (h2 : x.2.size ≤ maxLen) :
    Calls Try.prog 12 #[.agg #[.string x.1, .string x.2]] w fun e w' => e = .returned (.bool (letOk x)) ∧ Below w.heap.size w w' := by
  obtain ⟨s, b⟩ := x
  unfold maxLen at h1 h2
  simp only at h1 h2
  by_cases hs : s.size = 1
  · have h0 : 0 < s.size := by omega
    have j1 : ((s.size : Int) != 1) = false := by simp [hs]
    have j0 : (0 : Int) < (s.size : Int) := by omega
    rw [let_one (x := (s, b)) h0 hs]
    simp only
    cases hsg : signI (s[0].toNat : Int)
    · go_enter Try.func12, Try.ntmps12
      go_wp2_with (go_at_call 34; refine (l5Sign _ _).mono ?_; rw [hsg]; rintro e w' ⟨rfl, rfl⟩)
      go_ret
      exact ⟨rfl, bel_alloc (Below.refl _ _) _⟩
    · by_cases hbig : 40 < b.size
      · have j2 : (40 : Int) < (b.size : Int) := by omega
        go_enter Try.func12, Try.ntmps12
        go_wp2_with (go_at_call 34; refine (l5Sign _ _).mono ?_; rw [hsg]; rintro e w' ⟨rfl, rfl⟩)
        go_ret
        exact ⟨retBool (by simp; omega), bel_alloc (Below.refl _ _) _⟩
      · have j2 : ¬ (40 : Int) < (b.size : Int) := by omega
        have hbd : decide (b.size ≤ 40) = true := by simp; omega
        rw [hbd]
        simp only [Bool.true_and]
        go_enter Try.func12, Try.ntmps12
        go_wp2_with (go_at_call 34; refine (l5Sign _ _).mono ?_; rw [hsg]; rintro e w' ⟨rfl, rfl⟩)
        go_loop [3] (fun i => ∃ k : Nat, k ≤ b.size ∧ i = .int .i64 k ∧ Hid (bodyOk (b.data.toList.take k) = true)) (fun i => b.size - (intOf i).toNat)
        case atStart => exact ⟨0, Nat.zero_le _, rfl, rfl⟩
        case round =>
          obtain ⟨k, hk, rfl, ha⟩ := hrel
          by_cases hlt : k < b.size
          · have hlt' : (k : Int) < (b.size : Int) := by omega
            cases hbb : bodyI (b[k].toNat : Int)
            · go_wp2_with (go_at_call 35; refine (l5Body _ _).mono ?_; rw [hbb]; rintro e w' ⟨rfl, rfl⟩)
              go_ret
              exact ⟨retBool (body_bad hlt hbb).symm, bel_alloc (Below.refl _ _) _⟩
            · go_wp2_with (go_at_call 35; refine (l5Body _ _).mono ?_; rw [hbb]; rintro e w' ⟨rfl, rfl⟩)
              case roundEnd => exact ⟨⟨k + 1, by omega, by go_num, body_step hlt ha.out hbb⟩, by simp [intOf]; omega⟩
          · have hlt' : ¬ (k : Int) < (b.size : Int) := by omega
            go_wp2
            go_ret
            exact ⟨retBool (body_all hlt ha.out).symm, bel_alloc (Below.refl _ _) _⟩
  · rw [let_short (x := (s, b)) hs]
    have j1 : ((s.size : Int) != 1) = true := by simp; omega
    go_enter Try.func12, Try.ntmps12
    go_wp2
    go_ret
    exact ⟨rfl, bel_alloc (Below.refl _ _) _⟩
end Go.Proofs.Ytpmeaikiaoojkaa
