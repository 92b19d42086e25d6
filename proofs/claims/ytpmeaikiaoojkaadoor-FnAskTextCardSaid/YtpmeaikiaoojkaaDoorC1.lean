/- Contracts: szAsk, toAsk; the law FnExactAskOk, walked. -/
import Derived.Test.YtpmeaikiaoojkaaDoorA3
namespace Go.Proofs.YtpmeaikiaoojkaaDoor
open Go.RowKit

set_option maxHeartbeats 400000 in
theorem szAsk (k : Int) (key hi : ByteArray) (num left : Int) (w : World) (h1 : key.size ≤ maxLen) (h2 : hi.size ≤ maxLen) (l0 : 0 ≤ left) (l1 : left ≤ 1048576) :
    Calls Tryd.prog 7 #[.agg #[.int .i64 k, .string key, .string hi, .int .i64 num], .int .i64 left] w fun e w' => (∃ v : Int, e = .returned (.int .i64 v) ∧ -1 ≤ v ∧ v ≤ left ∧ (0 ≤ v → (key.size : Int) + (hi.size : Int) ≤ left)) ∧ Below w.heap.size w w' := by
  unfold maxLen at h1 h2
  go_enter Tryd.func7, Tryd.ntmps7
  go_wp2
  all_goals
    go_ret
    exact ⟨⟨_, rfl, by omega, by omega, by omega⟩, bel_alloc (Below.refl _ _) _⟩
set_option maxHeartbeats 400000 in
theorem toAsk (k : Int) (key hi : ByteArray) (num : Int) (w : World) :
    Calls Tryd.prog 9 #[.agg #[.int .i64 k, .string key, .string hi, .int .i64 num]] w fun e w' => e = .returned (.agg #[.int .i64 k, .string key, .string hi, .int .i64 num]) ∧ Below w.heap.size w w' := by
  go_enter Tryd.func9, Tryd.ntmps9
  go_wp2
  exact bodyPost_ret (v := .agg #[.int .i64 k, .string key, .string hi, .int .i64 num]) (by simp [results, Tryd.results9, go_sem]) rfl ⟨rfl, bel_alloc (bel_alloc (bel_alloc (Below.refl _ _) _) _) _⟩
set_option maxHeartbeats 2000000 in
theorem lawAskOk (k : Int) (key hi : ByteArray) (num : Int) (w : World) (hF : FormsW w) (h1 : key.size ≤ maxLen) (h2 : hi.size ≤ maxLen) :
    Calls Tryd.prog 3 #[.agg #[.int .i64 k, .string key, .string hi, .int .i64 num]] w fun e w' => e = .returned (.bool true) ∧ Below w.heap.size w w' := by
  have b0 := bel_alloc (Below.refl _ w) (.cells #[.int .i64 k, .string key, .string hi, .int .i64 num] 23)
  have x0 := BoxC.new w 23 #[.int .i64 k, .string key, .string hi, .int .i64 num]
  have H1 := Lib.hid h1
  have H2 := Lib.hid h2
  clear h1 h2
  obtain ⟨r, hr⟩ : ∃ r, askOk k key hi num = r := ⟨_, rfl⟩
  have HR := Lib.hid hr
  clear hr
  have hrr : (r != r) = false := by simp
  go_enter Tryd.func3, Tryd.ntmps3
  go_wp2_with fail
  refine (szAsk k key hi num _ _ H1.out H2.out (by omega) (by omega)).mono ?_
  rintro e w1 ⟨⟨v, rfl, hv0, hv1, -⟩, hb1⟩
  have b1 := bel_trans b0 hb1
  have x1 := x0.on hb1
  have c0 := x1.c (k := 0) rfl
  have c1 := x1.c (k := 1) rfl
  have c2 := x1.c (k := 2) rfl
  have c3 := x1.c (k := 3) rfl
  go_wp2_with fail
  · go_ret
    exact ⟨rfl, b1⟩
  refine (toAsk k key hi num _).mono ?_
  rintro e w2 ⟨rfl, hb2⟩
  have b2 := bel_trans b1 hb2
  have x2 := x1.on hb2
  clear c0 c1 c2 c3
  go_wp2_with fail
  refine (specAskOk k key hi num _ H1.out H2.out).mono ?_
  rintro e w3 ⟨rfl, hb3⟩
  have b3 := bel_trans b2 hb3
  have x3 := x2.on hb3
  have c0 := x3.c (k := 0) rfl
  have c1 := x3.c (k := 1) rfl
  have c2 := x3.c (k := 2) rfl
  have c3 := x3.c (k := 3) rfl
  rw [HR.out]
  go_wp2_with fail
  refine (toAsk k key hi num _).mono ?_
  rintro e w4 ⟨rfl, hb4⟩
  have b4 := bel_trans b3 hb4
  go_wp2_with fail
  refine (implAskOk k key hi num _ (hF.on b4) H1.out H2.out).mono ?_
  rintro e w5 ⟨rfl, hb5⟩
  have b5 := bel_trans b4 hb5
  rw [HR.out]
  go_wp2
  go_ret
  exact ⟨rfl, b5⟩
end Go.Proofs.YtpmeaikiaoojkaaDoor
