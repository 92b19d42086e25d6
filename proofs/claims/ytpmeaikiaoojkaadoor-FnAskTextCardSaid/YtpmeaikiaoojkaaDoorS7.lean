/- The law FnExactAskRead, walked. -/
import Derived.Test.YtpmeaikiaoojkaaDoorS6
namespace Go.Proofs.YtpmeaikiaoojkaaDoor
open Go.RowKit

set_option maxHeartbeats 1000000 in
theorem eqAskSame (k : Int) (key hi : ByteArray) (num : Int) (w : World) :
    Calls Tryd.prog 17 #[.agg #[.int .i64 k, .string key, .string hi, .int .i64 num], .agg #[.int .i64 k, .string key, .string hi, .int .i64 num]] w fun e w' => e = .returned (.bool true) ∧ Below w.heap.size w w' := by
  have d0 : (k != k) = false := by simp
  have d3 : (num != num) = false := by simp
  go_enter Tryd.func17, Tryd.ntmps17
  go_wp2
  go_ret
  exact ⟨rfl, bel_alloc (bel_alloc (Below.refl _ _) _) _⟩
/-- what reading a text gives, as one value -/
def Read (text : ByteArray) (k : Int) (key hi : ByteArray) (num : Int) (ok : Bool) : Prop :=
  (ok = true ∧ askOk k key hi num = true ∧ askText k key hi num = text) ∨ (ok = false ∧ k = 0 ∧ key = ByteArray.empty ∧ hi = ByteArray.empty ∧ num = 0 ∧ ∀ k' key' hi' num', askOk k' key' hi' num' = true → askText k' key' hi' num' ≠ text)
theorem ReadPost.open_ {s : ByteArray} {w w' : World} {e : Ending} (h : ReadPost s w e w') : (∃ k key hi num ok, Read s k key hi num ok ∧ e = .returned (.tuple #[.agg #[.int .i64 k, .string key, .string hi, .int .i64 num], .bool ok])) ∧ Below w.heap.size w w' := by
  obtain ⟨⟨k, key, hi, num, h1, h2, h3⟩ | ⟨h1, h2⟩, hb⟩ := h
  · exact ⟨⟨k, key, hi, num, true, .inl ⟨rfl, h1, h2⟩, h3⟩, hb⟩
  · exact ⟨⟨0, ByteArray.empty, ByteArray.empty, 0, false, .inr ⟨rfl, rfl, rfl, rfl, rfl, h1⟩, h2⟩, hb⟩
theorem Read.same {s : ByteArray} {k : Int} {key hi : ByteArray} {num : Int} {ok : Bool} {k2 : Int} {key2 hi2 : ByteArray} {num2 : Int} {ok2 : Bool} (h : Read s k key hi num ok) (h2 : Read s k2 key2 hi2 num2 ok2) : k = k2 ∧ key = key2 ∧ hi = hi2 ∧ num = num2 ∧ ok = ok2 := by
  rcases h with ⟨rfl, a1, a2⟩ | ⟨rfl, rfl, rfl, rfl, rfl, a1⟩ <;> rcases h2 with ⟨rfl, b1, b2⟩ | ⟨rfl, rfl, rfl, rfl, rfl, b1⟩
  · obtain ⟨c1, c2, c3, c4⟩ := askText_inj a1 b1 (a2.trans b2.symm)
    exact ⟨c1, c2, c3, c4, rfl⟩
  · exact absurd a2 (b1 _ _ _ _ a1)
  · exact absurd b2 (a1 _ _ _ _ b1)
  · exact ⟨rfl, rfl, rfl, rfl, rfl⟩
set_option maxHeartbeats 2000000 in
set_option maxRecDepth 100000 in
theorem lawAskRead (s : ByteArray) (w : World) (hE : Env w) (hs : s.size ≤ maxLen) :
    Calls Tryd.prog 6 #[.string s] w fun e w' => e = .returned (.bool true) ∧ Below w.heap.size w w' := by
  unfold maxLen at hs
  by_cases hbig : 1048576 < s.size
  · have hb : (1048576 : Int) < (s.size : Int) := by omega
    go_enter Tryd.func6, Tryd.ntmps6
    go_wp2
    go_ret
    exact ⟨rfl, Below.refl _ _⟩
  have hb : ¬ (1048576 : Int) < (s.size : Int) := by omega
  have HE := Lib.hid hE
  have HS := Lib.hid (show s.size ≤ 1048576 by omega)
  clear hbig hE
  go_enter Tryd.func6, Tryd.ntmps6
  go_wp2_with fail
  refine (specAskRead s _ HS.out).mono ?_
  intro e w1 hr
  obtain ⟨⟨k, key, hi, num, ok, hR, rfl⟩, hb1⟩ := hr.open_
  clear hr
  have xa := BoxC.new w1 26 #[.int .i64 k, .string key, .string hi, .int .i64 num]
  have b1 := bel_alloc hb1 (.cells #[.int .i64 k, .string key, .string hi, .int .i64 num] 26)
  go_wp2_with fail
  refine (implAskRead s _ (HE.out.on b1) HS.out).mono ?_
  intro e w2 hr
  obtain ⟨⟨k2, key2, hi2, num2, ok2, hR2, rfl⟩, hb2⟩ := hr.open_
  clear hr
  obtain ⟨rfl, rfl, rfl, rfl, rfl⟩ := hR.same hR2
  clear hR hR2
  have xb := xa.on hb2
  have b2 := bel_trans b1 hb2
  have yb := BoxC.new w2 26 #[.int .i64 k, .string key, .string hi, .int .i64 num]
  have xc := xb.alloc (.cells #[.int .i64 k, .string key, .string hi, .int .i64 num] 26)
  have b3 := bel_alloc b2 (.cells #[.int .i64 k, .string key, .string hi, .int .i64 num] 26)
  have c0 := xc.c (k := 0) rfl
  have c1 := xc.c (k := 1) rfl
  have c2 := xc.c (k := 2) rfl
  have c3 := xc.c (k := 3) rfl
  have d0 := yb.c (k := 0) rfl
  have d1 := yb.c (k := 1) rfl
  have d2 := yb.c (k := 2) rfl
  have d3 := yb.c (k := 3) rfl
  clear xa xb xc yb b1 hb1 hb2 b2
  go_wp2_with fail
  refine (eqAskSame k key hi num _).mono ?_
  rintro e w3 ⟨rfl, hb3⟩
  have b4 := bel_trans b3 hb3
  have ho : (ok != ok) = false := by simp
  go_wp2
  go_ret
  exact ⟨rfl, b4⟩
end Go.Proofs.YtpmeaikiaoojkaaDoor
