/- Contract: the reference's reading of a number. -/
import Derived.Test.YtpmeaikiaoojkaaDoorS4
import Derived.Test.YtpmeaikiaoojkaaDoorS2
import Derived.Deep.DeepCutAuto
namespace Go.Proofs.YtpmeaikiaoojkaaDoor
open Go.RowKit

theorem get_at {s : ByteArray} {k : Nat} (h : k < s.size) : s.data.toList[k]? = some s[k] := by
  rw [List.getElem?_eq_getElem (by rw [← size_list]; exact h)]
  rfl
theorem head_at {s : ByteArray} (h : 0 < s.size) : s.data.toList.head? = some s[0] := by
  rw [List.head?_eq_getElem?]; exact get_at h
theorem mem_at {s : ByteArray} {k : Nat} (h : k < s.size) : s[k] ∈ s.data.toList := List.mem_of_getElem? (get_at h)
theorem take_at {s : ByteArray} {k : Nat} (h : k < s.size) : s.data.toList.take (k + 1) = s.data.toList.take k ++ [s[k]] := by
  rw [List.take_add_one, get_at h]; rfl
theorem digits_snoc {l : List UInt8} {c : UInt8} (h : digits l) (h0 : 48 ≤ c.toNat) (h1 : c.toNat ≤ 57) : digits (l ++ [c]) := by
  intro x hx
  rcases List.mem_append.1 hx with hx | hx
  · exact h x hx
  · simp only [List.mem_singleton] at hx
    rw [hx]; exact ⟨h0, h1⟩
def NegOf (neg : Bool) (s : ByteArray) : Prop := neg = true ↔ s.data.toList.head? = some 45
def TailOf (neg : Bool) (s t : ByteArray) : Prop := t.data.toList = if neg = true then s.data.toList.drop 1 else s.data.toList
set_option maxHeartbeats 8000000 in
set_option maxRecDepth 100000 in
theorem l11Num (s : ByteArray) (w : World) (hs : s.size ≤ 1048576) :
    Calls Tryd.prog 35 #[.string s] w (NumPost s w) := by
  by_cases z0 : s.size = 0
  · have g0 : ((s.size : Int) == 0) = true := by rw [z0]; rfl
    have g1 : ¬ (0 : Int) < (s.size : Int) := by omega
    have hl : s.data.toList = [] := List.length_eq_zero_iff.1 (by rw [← size_list]; exact z0)
    have HB := Lib.hid (isNum_early (s := s) (l := s.data.toList) (neg := false) (by rw [hl]; simp) rfl (.inl (by rw [hl]; rfl)) 0)
    clear hl z0
    go_enter Tryd.func35, Tryd.ntmps35
    go_wp2_with fail
    go_ret2
    exact ⟨0, false, rfl, HB.out, by omega, by omega, Below.refl _ _⟩
  have hp : 0 < s.size := by omega
  have ip : (0 : Int) < (s.size : Int) := by omega
  have ip1 : (1 : Int) ≤ (s.size : Int) := by omega
  have HH := Lib.hid (head_at hp)
  by_cases e45 : s[0].toNat = 45
  · have g45 : ((s[0].toNat : Int) == 45) = true := by simp; omega
    obtain ⟨t, ht⟩ : ∃ t, s.extract 1 s.size = t := ⟨_, rfl⟩
    have hts : t.size ≤ 1048576 := by rw [← ht, ByteArray.size_extract]; omega
    have HNEG := Lib.hid (show NegOf true s from ⟨fun _ => by rw [HH.out]; exact congrArg some (UInt8.toNat_inj.1 e45), fun _ => rfl⟩)
    have HT := Lib.hid (show TailOf true s t by unfold TailOf; rw [if_pos rfl, ← ht, Lib.extract_eq]; exact List.take_of_length_le (by rw [List.length_drop, ← size_list]; exact Nat.le_refl _))
    have HX := Lib.hid ht
    clear ht z0 e45
    go_enter Tryd.func35, Tryd.ntmps35
    go_upto_region 4 with fail
    rw [HX.out]
    clear g45 HH ip1
    by_cases e0 : t.size = 0
    · have g0 : ((t.size : Int) == 0) = true := by rw [e0]; rfl
      go_wp2_with fail
      go_ret2
      exact ⟨0, false, rfl, isNum_early (neg := true) HNEG.out HT.out (.inl (by rw [← size_list]; exact e0)) 0, by omega, by omega, Below.refl _ _⟩
    have g0 : ((t.size : Int) == 0) = false := by rw [beq_eq_false_iff_ne]; omega
    by_cases e17 : 17 < t.size
    · have g1 : (17 : Int) < (t.size : Int) := by omega
      go_wp2_with fail
      go_ret2
      exact ⟨0, false, rfl, isNum_early (neg := true) HNEG.out HT.out (.inr (.inl (by rw [← size_list]; exact e17))) 0, by omega, by omega, Below.refl _ _⟩
    have g1 : ¬ (17 : Int) < (t.size : Int) := by omega
    have hpos : 0 < t.size := by omega
    have ipos : (0 : Int) < (t.size : Int) := by omega
    have hhd : t.data.toList.head? = some t[0] := head_at hpos
    have HHD := Lib.hid hhd
    clear hhd
    by_cases e48 : t[0].toNat = 48
    · have g2 : ((t[0].toNat : Int) == 48) = true := by simp; omega
      have HB := Lib.hid e48
      clear e48
      by_cases e1 : 1 < t.size
      · have g3 : (1 : Int) < (t.size : Int) := by omega
        go_wp2_with fail
        go_ret2
        exact ⟨0, false, rfl, isNum_early (neg := true) HNEG.out HT.out (.inr (.inr (.inl ⟨by rw [HHD.out]; exact congrArg some (UInt8.toNat_inj.1 HB.out), .inr rfl⟩))) 0, by omega, by omega, Below.refl _ _⟩
      · have g3 : ¬ (1 : Int) < (t.size : Int) := by omega
        go_wp2_with fail
        go_ret2
        exact ⟨0, false, rfl, isNum_early (neg := true) HNEG.out HT.out (.inr (.inr (.inl ⟨by rw [HHD.out]; exact congrArg some (UInt8.toNat_inj.1 HB.out), .inr rfl⟩))) 0, by omega, by omega, Below.refl _ _⟩
    have g2 : ((t[0].toNat : Int) == 48) = false := by simp; omega
    clear e48
    have HSZ := Lib.hid e17
    clear e0 e17
    go_wp2_with fail
    clear g0 g1
    go_loop [5, 6] (fun n i => ∃ k : Nat, k ≤ t.size ∧ i = .int .i64 (k : Int) ∧ Hid (digits (t.data.toList.take k)) ∧ n = .int .i64 ((dval (t.data.toList.take k) : Nat) : Int)) (fun _ i => t.size - (intOf i).toNat)
    case atStart => exact ⟨0, Nat.zero_le _, rfl, Lib.hid (by simp [digits]), by simp [dval]⟩
    case round =>
      obtain ⟨k, hk, rfl, hd, rfl⟩ := hrel
      have hvl := dval_lt _ hd.out
      by_cases hlt : k < t.size
      · have j0 : (0 : Int) ≤ (k : Int) := by omega
        have j1 : (k : Int) < (t.size : Int) := by omega
        have hv : dval (t.data.toList.take k) < 10000000000000000 := by
          have h1 : (t.data.toList.take k).length ≤ 16 := by rw [List.length_take]; have := HSZ.out; omega
          have h2 : 10 ^ (t.data.toList.take k).length ≤ 10 ^ 16 := Nat.pow_le_pow_right (by omega) h1
          omega
        have HST := Lib.hid (take_at hlt)
        obtain ⟨v, hvv⟩ : ∃ v, dval (t.data.toList.take k) = v := ⟨_, rfl⟩
        have HV := Lib.hid hvv
        rw [hvv] at hv ⊢
        clear hvl hvv
        by_cases d0 : t[k].toNat < 48
        · have g4 : (t[k].toNat : Int) < 48 := by omega
          have HBD := Lib.hid d0
          clear d0
          go_wp2_with fail
          go_ret2
          exact ⟨0, false, rfl, isNum_early (neg := true) HNEG.out HT.out (.inr (.inr (.inr ⟨t[k], mem_at hlt, by have := HBD.out; omega⟩))) 0, by omega, by omega, Below.refl _ _⟩
        have g4 : ¬ (t[k].toNat : Int) < 48 := by omega
        by_cases d1 : 57 < t[k].toNat
        · have g5 : (57 : Int) < (t[k].toNat : Int) := by omega
          have HBD := Lib.hid d1
          clear d1
          go_wp2_with fail
          go_ret2
          exact ⟨0, false, rfl, isNum_early (neg := true) HNEG.out HT.out (.inr (.inr (.inr ⟨t[k], mem_at hlt, by have := HBD.out; omega⟩))) 0, by omega, by omega, Below.refl _ _⟩
        have g5 : ¬ (57 : Int) < (t[k].toNat : Int) := by omega
        go_wp2_with fail
        case roundEnd => exact ⟨⟨k + 1, by omega, by go_num, Lib.hid (by rw [HST.out]; exact digits_snoc hd.out (by omega) (by omega)), by rw [HST.out, dval_snoc, HV.out]; go_num⟩, by simp [intOf]; omega⟩
      · have j1 : ¬ (k : Int) < (t.size : Int) := by omega
        have hall : t.data.toList.take k = t.data.toList := List.take_of_length_le (by rw [← size_list]; omega)
        rw [hall] at hvl ⊢
        have hv : dval t.data.toList < 100000000000000000 := by
          have h1 : t.data.toList.length ≤ 17 := by rw [← size_list]; have := HSZ.out; omega
          have h2 : 10 ^ t.data.toList.length ≤ 10 ^ 17 := Nat.pow_le_pow_right (by omega) h1
          omega
        have HV := Lib.hid (isNum_val (neg := true) HNEG.out HT.out)
        generalize dval t.data.toList = v at *
        clear hvl hall
        go_wp2_with fail
        go_ret2
        exact ⟨_, true, rfl, by simpa using HV.out, by omega, by omega, Below.refl _ _⟩
  · have g45 : ((s[0].toNat : Int) == 45) = false := by simp; omega
    have HNEG := Lib.hid (show NegOf false s from ⟨fun h => (by cases h), fun h => by rw [HH.out] at h; injection h with h; rw [h] at e45; exact absurd rfl e45⟩)
    have HT := Lib.hid (show TailOf false s s from rfl)
    clear z0 e45
    go_enter Tryd.func35, Tryd.ntmps35
    go_upto_region 4 with fail
    clear g45 HH ip1
    by_cases e0 : s.size = 0
    · have g0 : ((s.size : Int) == 0) = true := by rw [e0]; rfl
      go_wp2_with fail
      go_ret2
      exact ⟨0, false, rfl, isNum_early (neg := false) HNEG.out HT.out (.inl (by rw [← size_list]; exact e0)) 0, by omega, by omega, Below.refl _ _⟩
    have g0 : ((s.size : Int) == 0) = false := by rw [beq_eq_false_iff_ne]; omega
    by_cases e17 : 17 < s.size
    · have g1 : (17 : Int) < (s.size : Int) := by omega
      go_wp2_with fail
      go_ret2
      exact ⟨0, false, rfl, isNum_early (neg := false) HNEG.out HT.out (.inr (.inl (by rw [← size_list]; exact e17))) 0, by omega, by omega, Below.refl _ _⟩
    have g1 : ¬ (17 : Int) < (s.size : Int) := by omega
    have hpos : 0 < s.size := by omega
    have ipos : (0 : Int) < (s.size : Int) := by omega
    have hhd : s.data.toList.head? = some s[0] := head_at hpos
    have HHD := Lib.hid hhd
    clear hhd
    have hcase : (((s[0].toNat : Int) == 48) = true ∧ (1 : Int) < (s.size : Int)) ∨ (((s[0].toNat : Int) == 48) = true ∧ ¬ (1 : Int) < (s.size : Int)) ∨ ((s[0].toNat : Int) == 48) = false := by
      cases ((s[0].toNat : Int) == 48)
      · exact .inr (.inr rfl)
      · by_cases e1 : (1 : Int) < (s.size : Int)
        · exact .inl ⟨rfl, e1⟩
        · exact .inr (.inl ⟨rfl, e1⟩)
    rcases hcase with ⟨g2, g3⟩ | hcase
    · have HB := Lib.hid (show s[0].toNat = 48 by simp at g2; omega)
      go_wp2_with fail
      go_ret2
      exact ⟨0, false, rfl, isNum_early (neg := false) HNEG.out HT.out (.inr (.inr (.inl ⟨by rw [HHD.out]; exact congrArg some (UInt8.toNat_inj.1 HB.out), .inl (by rw [← size_list]; omega)⟩))) 0, by omega, by omega, Below.refl _ _⟩
    rcases hcase with ⟨g2, g3⟩ | g2
    all_goals
      have HSZ := Lib.hid e17
      clear e0 e17
      go_wp2_with fail
      clear g0 g1
      go_loop [5, 6] (fun n i => ∃ k : Nat, k ≤ s.size ∧ i = .int .i64 (k : Int) ∧ Hid (digits (s.data.toList.take k)) ∧ n = .int .i64 ((dval (s.data.toList.take k) : Nat) : Int)) (fun _ i => s.size - (intOf i).toNat)
      case atStart => exact ⟨0, Nat.zero_le _, rfl, Lib.hid (by simp [digits]), by simp [dval]⟩
      case round =>
        obtain ⟨k, hk, rfl, hd, rfl⟩ := hrel
        have hvl := dval_lt _ hd.out
        by_cases hlt : k < s.size
        · have j0 : (0 : Int) ≤ (k : Int) := by omega
          have j1 : (k : Int) < (s.size : Int) := by omega
          have hv : dval (s.data.toList.take k) < 10000000000000000 := by
            have h1 : (s.data.toList.take k).length ≤ 16 := by rw [List.length_take]; have := HSZ.out; omega
            have h2 : 10 ^ (s.data.toList.take k).length ≤ 10 ^ 16 := Nat.pow_le_pow_right (by omega) h1
            omega
          have HST := Lib.hid (take_at hlt)
          obtain ⟨v, hvv⟩ : ∃ v, dval (s.data.toList.take k) = v := ⟨_, rfl⟩
          have HV := Lib.hid hvv
          rw [hvv] at hv ⊢
          clear hvl hvv
          by_cases d0 : s[k].toNat < 48
          · have g4 : (s[k].toNat : Int) < 48 := by omega
            have HBD := Lib.hid d0
            clear d0
            go_wp2_with fail
            go_ret2
            exact ⟨0, false, rfl, isNum_early (neg := false) HNEG.out HT.out (.inr (.inr (.inr ⟨s[k], mem_at hlt, by have := HBD.out; omega⟩))) 0, by omega, by omega, Below.refl _ _⟩
          have g4 : ¬ (s[k].toNat : Int) < 48 := by omega
          by_cases d1 : 57 < s[k].toNat
          · have g5 : (57 : Int) < (s[k].toNat : Int) := by omega
            have HBD := Lib.hid d1
            clear d1
            go_wp2_with fail
            go_ret2
            exact ⟨0, false, rfl, isNum_early (neg := false) HNEG.out HT.out (.inr (.inr (.inr ⟨s[k], mem_at hlt, by have := HBD.out; omega⟩))) 0, by omega, by omega, Below.refl _ _⟩
          have g5 : ¬ (57 : Int) < (s[k].toNat : Int) := by omega
          go_wp2_with fail
          case roundEnd => exact ⟨⟨k + 1, by omega, by go_num, Lib.hid (by rw [HST.out]; exact digits_snoc hd.out (by omega) (by omega)), by rw [HST.out, dval_snoc, HV.out]; go_num⟩, by simp [intOf]; omega⟩
        · have j1 : ¬ (k : Int) < (s.size : Int) := by omega
          have hall : s.data.toList.take k = s.data.toList := List.take_of_length_le (by rw [← size_list]; omega)
          rw [hall] at hvl ⊢
          have hv : dval s.data.toList < 100000000000000000 := by
            have h1 : s.data.toList.length ≤ 17 := by rw [← size_list]; have := HSZ.out; omega
            have h2 : 10 ^ s.data.toList.length ≤ 10 ^ 17 := Nat.pow_le_pow_right (by omega) h1
            omega
          have HV := Lib.hid (isNum_val (neg := false) HNEG.out HT.out)
          generalize dval s.data.toList = v at *
          clear hvl hall
          go_wp2_with fail
          go_ret2
          exact ⟨_, true, rfl, by simpa using HV.out, by omega, by omega, Below.refl _ _⟩
end Go.Proofs.YtpmeaikiaoojkaaDoor
