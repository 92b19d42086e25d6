/- The law FnLetterBent, walked. -/
import Derived.Test.YtpmeaikiaoojkaaL3
import Derived.Test.YtpmeaikiaoojkaaLD
namespace Go.Proofs.Ytpmeaikiaoojkaa
open Go.RowKit

theorem lettersRes_mid {x : Letter} (a b : Letter) (h : letOk x = false) : lettersRes [a, x, b] = ByteArray.empty :=
  allOk_bad (k := 1) (by rfl) h
theorem cells3 (a b c : Letter) : #[Value.string a.1, .string a.2, .string b.1, .string b.2, .string c.1, .string c.2].toList = cellsOf encLetter [a, b, c] := rfl
set_option maxHeartbeats 4000000 in
set_option maxRecDepth 100000 in
theorem lawLetterBent (A : Option Addr) (n c : Nat) (l : List UInt8) (w : World) (hr : Sl encB w w.heap.size A n l) (hn : n ≤ maxLen) (hc : n ≤ c) :
    Calls Try.prog 6 #[.slice A n c] w fun e w' => e = .returned (.bool true) ∧ Below w.heap.size w w' := by
  unfold maxLen at hn
  by_cases hbig : 1048576 < n
  · have hb : (1048576 : Int) < (n : Int) := by omega
    go_enter Try.func6, Try.ntmps6
    go_wp2
    go_ret
    exact ⟨rfl, Below.refl _ _⟩
  have hb : ¬ (1048576 : Int) < (n : Int) := by omega
  go_enter Try.func6, Try.ntmps6
  go_wp2_with fail
  refine (drawLetter A n c l w hr (by omega) hc).mono ?_
  rintro e w1 ⟨⟨s, b, rfl, hs, hbs⟩, hb1⟩
  have z1 : s.size ≤ maxLen := by unfold maxLen; omega
  have z2 : b.size ≤ maxLen := by unfold maxLen; omega
  have b1 := bel_alloc hb1 (.cells #[.string s, .string b] 27)
  have x1 := BoxC.new w1 27 #[.string s, .string b]
  have C1 := Lib.hid (fun W => implLetterOk (s, b) W z1 z2)
  have C2 := Lib.hid (fun W => specLetterOk (s, b) W z1 z2)
  have C3 := Lib.hid (fun W => implLetterText s b W z1 z2)
  obtain ⟨ok, hok⟩ : ∃ ok, letOk (s, b) = ok := ⟨_, rfl⟩
  rw [hok] at C1 C2
  have HK := Lib.hid hok
  clear hok hr hb hbig hn
  go_wp2_with fail
  refine (C1.out _).mono ?_
  rintro e w2 ⟨rfl, hb2⟩
  have b2 := bel_trans b1 hb2
  have x2 := x1.on hb2
  have c0 := x2.c (k := 0) rfl
  have c1 := x2.c (k := 1) rfl
  go_wp2_with fail
  refine (C2.out _).mono ?_
  rintro e w3 ⟨rfl, hb3⟩
  have b3 := bel_trans b2 hb3
  have x3 := x2.on hb3
  clear c0 c1
  have c0 := x3.c (k := 0) rfl
  have c1 := x3.c (k := 1) rfl
  have z3 := x3.lt
  cases ok
  · have HR := Lib.hid (letRes_bad HK.out)
    have y3 := BoxC.new w3 27 #[.string ⟨#[83]⟩, .string ⟨#[]⟩]
    replace x3 := x3.alloc (.cells #[.string ⟨#[83]⟩, .string ⟨#[]⟩] 27)
    have b4 := bel_alloc b3 (.cells #[.string ⟨#[83]⟩, .string ⟨#[]⟩] 27)
    go_wp2_with fail
    refine (C3.out _).mono ?_
    rintro e w4 ⟨rfl, hb4⟩
    have b5 := bel_trans b4 hb4
    replace x3 := x3.on hb4
    replace y3 := y3.on hb4
    rw [HR.out]
    clear c0 c1
    have c0 := x3.c (k := 0) rfl
    have c1 := x3.c (k := 1) rfl
    have d0 := y3.c (k := 0) rfl
    have d1 := y3.c (k := 1) rfl
    have hwf : LetterSWf [((⟨#[83]⟩, ⟨#[]⟩) : Letter), (s, b), (⟨#[83]⟩, ⟨#[]⟩)] := fun x hx => by
      simp only [List.mem_cons, List.not_mem_nil, or_false] at hx
      rcases hx with rfl | rfl | rfl
      · exact ⟨by decide, by decide⟩
      · exact ⟨z1, z2⟩
      · exact ⟨by decide, by decide⟩
    have s4 := Sl.lit (enc := encLetter) w4 #[.string ⟨#[83]⟩, .string ⟨#[]⟩, .string s, .string b, .string ⟨#[83]⟩, .string ⟨#[]⟩] 27 [(⟨#[83]⟩, ⟨#[]⟩), (s, b), (⟨#[83]⟩, ⟨#[]⟩)] rfl 3 rfl
    have HM := Lib.hid (lettersRes_mid (⟨#[83]⟩, ⟨#[]⟩) (⟨#[83]⟩, ⟨#[]⟩) HK.out)
    have b6 := bel_alloc b5 (.cells #[.string ⟨#[83]⟩, .string ⟨#[]⟩, .string s, .string b, .string ⟨#[83]⟩, .string ⟨#[]⟩] 27)
    have hee : ByteArray.empty.toList = [] := by rw [ByteArray.toList_eq]; rfl
    go_wp2_with fail
    refine (implLettersText _ 3 3 _ _ s4 hwf (by omega)).mono ?_
    rintro e w5 ⟨rfl, hb5⟩
    rw [HM.out]
    go_wp2_with fail
    refine (implLettersText none 0 0 [] _ (Sl.nil _ _ _ _) (fun x hx => by simp at hx) (by omega)).mono ?_
    rintro e w6 ⟨rfl, hb6⟩
    rw [show lettersRes [] = ByteArray.empty from rfl]
    go_wp2
    go_ret
    exact ⟨rfl, bel_trans (bel_trans b6 hb5) hb6⟩
  · go_wp2_with fail
    refine (C2.out _).mono ?_
    rintro e w4 ⟨rfl, hb4⟩
    go_wp2
    go_ret
    exact ⟨rfl, bel_trans b3 hb4⟩
end Go.Proofs.Ytpmeaikiaoojkaa
