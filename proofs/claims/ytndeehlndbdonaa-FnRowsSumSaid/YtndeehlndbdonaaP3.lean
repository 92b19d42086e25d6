/- Plain facts: the whole range; the empty key. No program in sight. -/
import Derived.Test.YtndeehlndbdonaaP2
namespace Go.Proofs.Ytndeehlndbdonaa

theorem nil_toL : (⟨#[]⟩ : ByteArray).toList = [] := by rw [ByteArray.toList_eq]
theorem zzz_toL : (⟨#[122, 122, 122]⟩ : ByteArray).toList = [122, 122, 122] := by rw [ByteArray.toList_eq]
theorem klt_empty (a : ByteArray) : klt a ⟨#[]⟩ = false := by
  rw [klt_eq, nil_toL]
  cases a.toList with
  | nil => exact bl_nn
  | cons c l => exact bl_cn c l
theorem keyOk_empty : keyOk ⟨#[]⟩ = false := by decide
theorem keyOk_shape {s : ByteArray} (h : keyOk s = true) : (∃ c, s.toList = [c] ∧ 97 ≤ c.toNat ∧ c.toNat ≤ 122) ∨ ∃ c d, s.toList = [c, d] ∧ (97 ≤ c.toNat ∧ c.toNat ≤ 122) ∧ 97 ≤ d.toNat ∧ d.toNat ≤ 122 := by
  unfold keyOk at h
  simp only [Bool.and_eq_true, Bool.or_eq_true, decide_eq_true_eq, allLow] at h
  obtain ⟨h1, h2⟩ := h
  rw [ByteArray.toList_eq]
  have hsz : s.data.toList.length = s.size := Array.length_toList
  match hl : s.data.toList with
  | [] => rw [hl] at hsz; change 0 = s.size at hsz; omega
  | [c] =>
    rw [hl] at h2
    simp [lowB] at h2
    exact .inl ⟨c, rfl, h2⟩
  | [c, d] =>
    rw [hl] at h2
    simp [lowB] at h2
    exact .inr ⟨c, d, rfl, h2⟩
  | _ :: _ :: _ :: q => rw [hl] at hsz; change q.length + 1 + 1 + 1 = s.size at hsz; omega
theorem klt_zzz {s : ByteArray} (h : keyOk s = true) : klt ⟨#[122, 122, 122]⟩ s = false := by
  rw [klt_eq, zzz_toL]
  rcases keyOk_shape h with ⟨c, hc, h1, h2⟩ | ⟨c, d, hc, ⟨h1, h2⟩, h3, h4⟩
  · rw [hc, bl_cc]
    rw [if_neg (by simp; omega)]
    split
    · rfl
    · exact bl_cn _ _
  · rw [hc, bl_cc]
    rw [if_neg (by simp; omega)]
    split
    · rfl
    · rw [bl_cc, if_neg (by simp; omega)]
      split
      · rfl
      · exact bl_cn _ _
theorem keyOk_size' {s : ByteArray} (h : keyOk s = true) : s.size ≤ maxLen := by
  have : s.size ≤ 2 := by
    unfold keyOk at h
    simp only [Bool.and_eq_true, Bool.or_eq_true, decide_eq_true_eq] at h
    omega
  unfold maxLen; omega
theorem in_all {l : List Row} (hP : RowsP l) : inRes l ⟨#[]⟩ ⟨#[122, 122, 122]⟩ = l := by
  unfold inRes
  rw [if_pos (rowsOk_true hP), List.filter_eq_self]
  intro r hr
  have := ((rowsP_iff.1 hP).2.1 r hr).1
  simp [inP, klt_empty, klt_zzz this]
theorem hit_empty {l : List Row} (hP : RowsP l) : hit l ⟨#[]⟩ = false := by
  cases hh : hit l ⟨#[]⟩
  · rfl
  · obtain ⟨v, hv⟩ := (hit_iff hP.2.2).1 hh
    have := ((rowsP_iff.1 hP).2.1 _ hv).1
    simp only [keyOk_empty] at this; cases this
end Go.Proofs.Ytndeehlndbdonaa
