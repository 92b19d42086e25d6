/- Contract: what reads a number, of the program. -/
import Derived.Test.YtpmeaikiaoojkaaDoorS1
namespace Go.Proofs.YtpmeaikiaoojkaaDoor
open Go.RowKit

theorem formatInt (n : Int) (w : World) (h0 : -9223372036854775808 ≤ n) (h1 : n ≤ 9223372036854775807) (ht : Pow10 w) :
    Calls Tryd.prog 42 #[.int .i64 n, .int .i64 10] w fun e w' => e = .returned (.string (dec n)) ∧ Below w.heap.size w w' := by
  refine (Tryd.strconv_FormatInt_10 n h0 h1 w ht).mono ?_
  rintro e w' ⟨rfl, k, os, rfl⟩
  exact ⟨rfl, below_grow w k os⟩
theorem trim_size (s : ByteArray) : (⟨(Lib.trimPrefix s.data.toList [45]).toArray⟩ : ByteArray).size ≤ s.size := by
  rw [size_list, size_list s]
  simp only [Lib.trimPrefix]
  split
  · simp
  · simp
def NumPost (s : ByteArray) (w : World) (e : Ending) (w' : World) : Prop :=
  ∃ v b, e = .returned (.tuple #[.int .i64 v, .bool b]) ∧ IsNum s v ∧ -9223372036854775808 ≤ v ∧ v ≤ 9223372036854775807 ∧ Below w.heap.size w w'
set_option maxHeartbeats 2000000 in
set_option maxRecDepth 100000 in
theorem readNum (s : ByteArray) (w : World) (hE : Env w) (hs : s.size ≤ 1048576) :
    Calls Tryd.prog 28 #[.string s] w (NumPost s w) := by
  have HE := Lib.hid hE
  have HL := Lib.hid (@isNum_long s)
  have hts := trim_size s
  clear hE
  go_enter Tryd.func28, Tryd.ntmps28
  go_wp2_with fail
  refine (Tryd.strings_TrimPrefix s ⟨#[45]⟩ w).mono ?_
  rintro e w1 ⟨rfl, hw⟩
  subst hw
  have HT : Hid ((⟨(Lib.trimPrefix s.data.toList [45]).toArray⟩ : ByteArray).size = (Lib.trimPrefix s.data.toList [45]).length) := Lib.hid (by rw [size_list])
  rw [show (⟨#[45]⟩ : ByteArray).data.toList = [45] from rfl]
  generalize (⟨(Lib.trimPrefix s.data.toList [45]).toArray⟩ : ByteArray) = t at *
  have hts2 : t.size ≤ 1048576 := by omega
  clear hts
  by_cases h17 : 17 < t.size
  · have h17' : (17 : Int) < (t.size : Int) := by omega
    go_wp2_with fail
    go_ret2
    exact ⟨0, false, rfl, HL.out (by rw [← HT.out]; exact h17) 0, by omega, by omega, Below.refl _ _⟩
  have h17' : ¬ (17 : Int) < (t.size : Int) := by omega
  go_wp2_with fail
  clear h17 h17' hts2
  cases hp : Lib.parseIntB 64 s.data.toList with
  | «syntax» =>
    obtain ⟨ev, hv, hev⟩ := HE.out.2.1
    have HB := Lib.hid (isNum_bad (s := s) (fun v h => by rw [hp] at h; cases h) 0)
    refine (Tryd.strconv_ParseInt_10_at64_syntax s (by omega) hp ev w1 hv hev).mono ?_
    rintro e w2 ⟨N, rfl, hN, hh, hb⟩
    clear hv hev hh hp
    go_wp2
    go_ret2
    exact ⟨0, false, rfl, HB.out, by omega, by omega, hb⟩
  | range =>
    obtain ⟨ev, hv, hev⟩ := HE.out.2.2.1
    have HB := Lib.hid (isNum_bad (s := s) (fun v h => by rw [hp] at h; cases h) 0)
    refine (Tryd.strconv_ParseInt_10_at64_range s (by omega) hp ev w1 hv hev).mono ?_
    rintro e w2 ⟨N, rfl, hN, hh, hb⟩
    clear hv hev hh hp
    generalize Lib.intSat 64 s.data.toList = q
    go_wp2
    go_ret2
    exact ⟨0, false, rfl, HB.out, by omega, by omega, hb⟩
  | ok v =>
    obtain ⟨r0, r1⟩ := parse_range hp
    have HP := Lib.hid (isNum_parse hp)
    have HO := Lib.hid (fun h => isNum_other hp h 0)
    refine (Tryd.strconv_ParseInt_10_at64_ok s (by omega) v hp w1).mono ?_
    rintro e w2 ⟨rfl, hw⟩
    have hb : Below w1.heap.size w1 w2 := by
      rcases hw with rfl | ⟨t, rfl⟩
      · exact Below.refl _ _
      · exact Lib.bytesWorld_below _ _ _
    clear hw hp
    go_wp2_with fail
    refine (formatInt v w2 r0 r1 ((HE.out.on hb).1.2)).mono ?_
    rintro e w3 ⟨rfl, hb3⟩
    have b3 := bel_trans hb hb3
    cases he : ((dec v).toList == s.toList)
    · have hn : dec v ≠ s := fun e => by rw [e] at he; simp at he
      have HN := Lib.hid (HO.out hn)
      clear hn
      go_wp2
      go_ret2
      exact ⟨0, false, rfl, HN.out, by omega, by omega, b3⟩
    · go_wp2
      go_ret2
      exact ⟨v, true, rfl, HP.out, r0, r1, b3⟩
end Go.Proofs.YtpmeaikiaoojkaaDoor
