/- Contract: the reference's cut of a text. -/
import Derived.Test.YtpmeaikiaoojkaaDoorS1
namespace Go.Proofs.YtpmeaikiaoojkaaDoor
open Go.RowKit

theorem info9 : (Tryd.prog.info? 9).map (fun i => (i.zero, i.size, i.bytes)) = some (some (.string ByteArray.empty), 1, 16) := by kernel_rfl
theorem encT_one (x : ByteArray) : ∀ u ∈ encT x, u.oneCell' = true := by
  intro u hu
  simp only [encT, List.mem_singleton] at hu
  rw [hu]; rfl
def mkB (l : List UInt8) : ByteArray := ⟨l.toArray⟩
/-- what is still to be cut off, from place fr on, the reader at k -/
def Rest (s : ByteArray) (fr k : Nat) (out : List ByteArray) : Prop := out ++ (cutL ((s.data.toList.drop fr).take (k - fr)) (s.data.toList.drop k)).map mkB = cutS s
theorem Rest.start (s : ByteArray) : Rest s 0 0 [] := by simp [Rest, cutS, mkB]
theorem ext_mk (s : ByteArray) (fr k : Nat) : s.extract fr k = mkB ((s.data.toList.drop fr).take (k - fr)) := Lib.extract_eq s fr k
theorem drop_at {s : ByteArray} {k : Nat} (h : k < s.size) : s.data.toList.drop k = s[k] :: s.data.toList.drop (k + 1) := by
  rw [List.drop_eq_getElem_cons (by rw [← size_list]; exact h)]
  congr 1
theorem Rest.hit {s : ByteArray} {fr k : Nat} {out : List ByteArray} (h : Rest s fr k out) (hk : k < s.size) (hc : s[k].toNat = 32) : Rest s (k + 1) (k + 1) (out ++ [s.extract fr k]) := by
  unfold Rest at h ⊢
  have e : s[k] = 32 := UInt8.toNat_inj.1 (by rw [hc]; rfl)
  rw [drop_at hk, cutL, if_pos e, List.map_cons] at h
  rw [Nat.sub_self, List.take_zero, ext_mk, List.append_assoc]
  exact h
theorem Rest.miss {s : ByteArray} {fr k : Nat} {out : List ByteArray} (h : Rest s fr k out) (hk : k < s.size) (hf : fr ≤ k) (hc : s[k].toNat ≠ 32) : Rest s fr (k + 1) out := by
  unfold Rest at h ⊢
  have e : ¬ s[k] = 32 := fun e => hc (by rw [e]; rfl)
  rw [drop_at hk, cutL, if_neg e] at h
  have h2 : (s.data.toList.drop fr).take (k + 1 - fr) = (s.data.toList.drop fr).take (k - fr) ++ [s[k]] := by
    rw [show k + 1 - fr = k - fr + 1 by omega, List.take_add_one, List.getElem?_drop, show fr + (k - fr) = k by omega]
    have : s.data.toList[k]? = some s[k] := by
      rw [List.getElem?_eq_getElem (by rw [← size_list]; exact hk)]
      rfl
    rw [this]; rfl
  rw [h2]
  exact h
theorem Rest.last {s : ByteArray} {fr k : Nat} {out : List ByteArray} (h : Rest s fr k out) (hk : k = s.size) : out ++ [s.extract fr k] = cutS s := by
  unfold Rest at h
  have e : s.data.toList.drop k = [] := List.drop_of_length_le (by rw [← size_list]; omega)
  rw [e] at h
  simp only [cutL] at h
  rw [ext_mk]
  exact h
def CutPost (w : World) (l : List ByteArray) (e : Ending) (w' : World) : Prop :=
  ∃ A n c, e = .returned (.slice A n c) ∧ Own encT 1 9 w' w.heap.size (.slice A n c) l ∧ Below w.heap.size w w'
set_option maxHeartbeats 4000000 in
set_option maxRecDepth 100000 in
theorem l11Cut (s : ByteArray) (w : World) (hs : s.size ≤ 1048576) :
    Calls Tryd.prog 34 #[.string s, .int .u8 32] w (CutPost w (cutS s)) := by
  obtain ⟨i0, hi, hz0, hz1, hz2⟩ := info_parts info9
  go_enter Tryd.func34, Tryd.ntmps34
  go_wp2
  have o0 : Own encT 1 9 (w.alloc (.cells #[] 9)) w.heap.size (.slice (some ⟨w.heap.size, 0, none⟩) 0 0) ([] : List ByteArray) := Own.made0 w (Nat.le_refl _)
  have b0 := bel_alloc (Below.refl _ w) (.cells #[] 9)
  go_loopw [5, 6, 7] (fun o f i wr => ∃ (k fr : Nat) (out : List ByteArray) (A : Option Addr) (n c : Nat), k ≤ s.size + 1 ∧ i = .int .i64 (k : Int) ∧ f = .int .i64 (fr : Int) ∧ fr ≤ k ∧ o = .slice A n c ∧ Own encT 1 9 wr w.heap.size (.slice A n c) out ∧ out.length ≤ k ∧ Below w.heap.size w wr ∧ Hid (k ≤ s.size → Rest s fr k out) ∧ Hid (k = s.size + 1 → out = cutS s)) (fun _ _ i _ => s.size + 1 - (intOf i).toNat)
  case atStart => exact ⟨0, 0, [], some ⟨w.heap.size, 0, none⟩, 0, 0, by omega, rfl, rfl, Nat.le_refl _, rfl, o0, Nat.le_refl _, b0, Lib.hid fun _ => Rest.start s, Lib.hid fun h => by omega⟩
  case round =>
    clear o0 b0
    obtain ⟨k, fr, out, A, n, c, hk1, rfl, rfl, hfr, rfl, ho, hol, hb, hrest, hdone⟩ := hrel
    have hon := ho.len
    by_cases hk : k ≤ s.size
    · have i0' : (0 : Int) ≤ (k : Int) := by omega
      have i1 : (k : Int) ≤ (s.size : Int) := by omega
      have i2 : (fr : Int) ≤ (k : Int) := by omega
      have i3 : (0 : Int) ≤ (fr : Int) := by omega
      have hR := hrest.out hk
      have HR := Lib.hid hR
      clear hrest hdone hR
      have hb1 := bel_alloc hb (.cells #[.string (s.extract fr k)] 9)
      have ho1 := ho.alloc (.cells #[.string (s.extract fr k)] 9)
      have hsl : Sl encT (wr.alloc (.cells #[.string (s.extract fr k)] 9)) ((wr.alloc (.cells #[.string (s.extract fr k)] 9)).heap.size) (some ⟨wr.heap.size, 0, none⟩) 1 [s.extract fr k] := Sl.lit1 wr _ 9 _ rfl
      have HSL := Lib.hid hsl
      have HO := Lib.hid ho1
      have HB := Lib.hid hb1
      have h63 : out.length + 1 ≤ maxLen := by simp [maxLen]; omega
      clear hsl ho1 hb1
      by_cases hke : k = s.size
      · have hc1 : ((k : Int) == (s.size : Int)) = true := by simp; omega
        have HKE := Lib.hid hke
        clear hke
        go_wp2_with (at_builtin; refine wpList_append_sl _ rfl _ _ 57 rfl w.heap.size 9 i0 _ 1 16 Tryd.underlying57 hi hz0 hz1 hz2 rfl (by decide) encT_len encT_one _ out rfl HO.out _ (some ⟨wr.heap.size, 0, none⟩) 1 1 [s.extract fr k] rfl HSL.out h63 (by omega) HB.out.size ?_)
        intro v2 w3 o3 g3
        have b3 := bel_grown HB.out g3 (fun q hq => (World.ownsRow.lt HO.out q hq).1)
        obtain ⟨A2, c2, rfl, -, -⟩ := o3.form
        go_wp2
        go_roundw
        case rel => exact ⟨k + 1, k + 1, out ++ [s.extract fr k], A2, _, c2, by omega, by go_num, by go_num, Nat.le_refl _, rfl, o3, by simp; omega, b3, Lib.hid fun h => by have := HKE.out; omega, Lib.hid fun _ => HR.out.last HKE.out⟩
        case measure => simp [intOf]; omega
      · have hlt : k < s.size := by omega
        have i4 : (k : Int) < (s.size : Int) := by omega
        have hc1 : ((k : Int) == (s.size : Int)) = false := by simp; omega
        by_cases h32 : s[k].toNat = 32
        · have hc2 : ((s[k].toNat : Int) == 32) = true := by simp; omega
          go_wp2_with (at_builtin; refine wpList_append_sl _ rfl _ _ 57 rfl w.heap.size 9 i0 _ 1 16 Tryd.underlying57 hi hz0 hz1 hz2 rfl (by decide) encT_len encT_one _ out rfl HO.out _ (some ⟨wr.heap.size, 0, none⟩) 1 1 [s.extract fr k] rfl HSL.out h63 (by omega) HB.out.size ?_)
          intro v2 w3 o3 g3
          have b3 := bel_grown HB.out g3 (fun q hq => (World.ownsRow.lt HO.out q hq).1)
          obtain ⟨A2, c2, rfl, -, -⟩ := o3.form
          go_wp2
          go_roundw
          case rel => exact ⟨k + 1, k + 1, out ++ [s.extract fr k], A2, _, c2, by omega, by go_num, by go_num, Nat.le_refl _, rfl, o3, by simp; omega, b3, Lib.hid fun _ => HR.out.hit hlt h32, Lib.hid fun h => by omega⟩
          case measure => simp [intOf]; omega
        · have hc2 : ((s[k].toNat : Int) == 32) = false := by simp; omega
          have HO2 := Lib.hid ho
          have HB2 := Lib.hid hb
          go_wp2_with fail
          go_roundw
          case rel => exact ⟨k + 1, fr, out, A, n, c, by omega, by go_num, rfl, by omega, rfl, HO2.out, by omega, HB2.out, Lib.hid fun _ => HR.out.miss hlt hfr h32, Lib.hid fun h => by omega⟩
          case measure => simp [intOf]; omega
    · have i1 : ¬ (k : Int) ≤ (s.size : Int) := by omega
      have hD := hdone.out (by omega)
      subst hD
      go_wp2_with fail
      go_ret
      exact ⟨A, n, c, rfl, ho, hb⟩
end Go.Proofs.YtpmeaikiaoojkaaDoor
