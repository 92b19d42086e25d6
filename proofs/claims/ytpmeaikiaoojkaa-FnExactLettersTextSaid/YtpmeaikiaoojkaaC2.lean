/- The laws FnExactLetterText and FnExactLettersText, walked. -/
import Derived.Test.YtpmeaikiaoojkaaL3
namespace Go.Proofs.Ytpmeaikiaoojkaa
open Go.RowKit

set_option maxHeartbeats 2000000 in
theorem lawLetterText (x : Letter) (w : World) (h1 : x.1.size ≤ maxLen) (h2 : x.2.size ≤ maxLen) :
    Calls Try.prog 5 #[.agg #[.string x.1, .string x.2]] w fun e w' => e = .returned (.bool true) ∧ Below w.heap.size w w' := by
  obtain ⟨s, b⟩ := x
  simp only at h1 h2 ⊢
  have b0 := bel_alloc (Below.refl _ w) (.cells #[.string s, .string b] 24)
  have x0 := BoxC.new w 24 #[.string s, .string b]
  have H1 := Lib.hid h1
  have H2 := Lib.hid h2
  clear h1 h2
  go_enter Try.func5, Try.ntmps5
  go_wp2_with fail
  refine (szLetter s b _ _ ⟨H1.out, H2.out⟩ (by omega) (by omega)).mono ?_
  rintro e w1 ⟨v, rfl, hv0, hv1, -, hb1⟩
  have b1 := bel_trans b0 hb1
  have x1 := x0.on hb1
  have c10 := x1.c (k := 0) rfl
  have c11 := x1.c (k := 1) rfl
  go_wp2_with fail
  · go_ret
    exact ⟨rfl, b1⟩
  refine (toLetter s b _).mono ?_
  rintro e w2 ⟨rfl, hb2⟩
  have b2 := bel_trans b1 hb2
  have x2 := x1.on hb2
  clear c10 c11
  go_wp2_with fail
  refine (specLetterText s b _ H1.out H2.out).mono ?_
  rintro e w3 ⟨rfl, hb3⟩
  have b3 := bel_trans b2 hb3
  have x3 := x2.on hb3
  have c30 := x3.c (k := 0) rfl
  have c31 := x3.c (k := 1) rfl
  go_wp2_with fail
  refine (toLetter s b _).mono ?_
  rintro e w4 ⟨rfl, hb4⟩
  have b4 := bel_trans b3 hb4
  go_wp2_with fail
  refine (implLetterText s b _ H1.out H2.out).mono ?_
  rintro e w5 ⟨rfl, hb5⟩
  have b5 := bel_trans b4 hb5
  generalize letRes (s, b) = t
  have hq : (t.toList != t.toList) = false := by simp
  go_wp2
  go_ret
  exact ⟨rfl, b5⟩
set_option maxHeartbeats 2000000 in
theorem lawLettersText (A : Option Addr) (n c : Nat) (l : List Letter) (w : World) (hr : Sl encLetter w w.heap.size A n l) (hk : LetterSWf l) (hn : n ≤ maxLen) :
    Calls Try.prog 7 #[.slice A n c] w fun e w' => e = .returned (.bool true) ∧ Below w.heap.size w w' := by
  have HN := Lib.hid hn
  clear hn
  obtain ⟨t, ht⟩ : ∃ t, lettersRes l = t := ⟨_, rfl⟩
  have HT := Lib.hid ht
  clear ht
  have hq : (t.toList != t.toList) = false := by simp
  have he := letterSEq_self l
  go_enter Try.func7, Try.ntmps7
  go_wp2_with fail
  refine (szLetterS A n c l _ _ hr hk HN.out (by omega) (by omega)).mono ?_
  rintro e w1 ⟨v, rfl, hv0, hv1, hv2, hb1⟩
  go_wp2_with fail
  · go_ret
    exact ⟨rfl, hb1⟩
  have HN2 := Lib.hid (show n ≤ 1048576 by have h3 := hv2 (by omega); omega)
  clear hv2
  refine (toLetterS A n c l _ (hr.on hb1) HN2.out).mono ?_
  rintro e w2 ⟨g, rfl, o2, hb2⟩
  have b2 := bel_trans hb1 hb2
  go_wp2_with fail
  refine (specLettersText _ n n l _ o2.sl hk HN2.out).mono ?_
  rintro e w3 ⟨rfl, hb3⟩
  have b3 := bel_trans b2 hb3
  rw [HT.out]
  clear o2
  go_wp2_with fail
  refine (toLetterS A n c l _ (hr.on b3) HN2.out).mono ?_
  rintro e w4 ⟨g4, rfl, o4, hb4⟩
  have b4 := bel_trans b3 hb4
  go_wp2_with fail
  refine (implLettersText _ n n l _ o4.sl hk HN2.out).mono ?_
  rintro e w5 ⟨rfl, hb5⟩
  have b5 := bel_trans b4 hb5
  have o5 := o4.on hb5
  rw [HT.out]
  clear o4
  go_wp2_with fail
  refine (toLetterS A n c l _ (hr.on b5) HN2.out).mono ?_
  rintro e w6 ⟨g6, rfl, o6, hb6⟩
  have b6 := bel_trans b5 hb6
  have o7 := o5.on hb6
  go_wp2_with fail
  refine (eqLetterS _ _ n n n n l l _ o7.sl o6.sl HN2.out).mono ?_
  rintro e w7 ⟨rfl, hb7⟩
  have b7 := bel_trans b6 hb7
  rw [he]
  go_wp2
  go_ret
  exact ⟨rfl, b7⟩
end Go.Proofs.Ytpmeaikiaoojkaa
