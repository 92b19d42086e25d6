/- Contracts: AskOk of the program and of the reference. -/
import Derived.Test.YtpmeaikiaoojkaaDoorA2
namespace Go.Proofs.YtpmeaikiaoojkaaDoor
open Go.RowKit

/-- the forms of the statements, as they are laid: word, key, second key, number -/
def formCells : List Value := [.string ⟨#[103, 101, 116]⟩, .bool true, .bool false, .bool false, .string ⟨#[97, 108, 108]⟩, .bool true, .bool true, .bool false, .string ⟨#[115, 117, 109]⟩, .bool true, .bool true, .bool false, .string ⟨#[112, 117, 116]⟩, .bool true, .bool false, .bool true, .string ⟨#[97, 100, 100]⟩, .bool true, .bool false, .bool true, .string ⟨#[99, 117, 116]⟩, .bool true, .bool false, .bool false, .string ⟨#[98, 101, 103, 105, 110]⟩, .bool false, .bool false, .bool false, .string ⟨#[101, 110, 100]⟩, .bool false, .bool false, .bool false, .string ⟨#[117, 110, 100, 111]⟩, .bool false, .bool false, .bool false]
def words : List ByteArray := [⟨#[103, 101, 116]⟩, ⟨#[97, 108, 108]⟩, ⟨#[115, 117, 109]⟩, ⟨#[112, 117, 116]⟩, ⟨#[97, 100, 100]⟩, ⟨#[99, 117, 116]⟩, ⟨#[98, 101, 103, 105, 110]⟩, ⟨#[101, 110, 100]⟩, ⟨#[117, 110, 100, 111]⟩]
def word (j : Nat) : ByteArray := words.getD j ⟨#[]⟩
def FormsW (W : World) : Prop := ∀ (j : Nat) (u : Value), formCells[j]? = some u → W.cell? ⟨0, j, none⟩ = some u
theorem FormsW.on {W W' : World} (h : FormsW W) (hb : Below W.heap.size W W') : FormsW W' := fun j u hu => keepC hb (h j u hu)
theorem formsAt {W : World} (h : FormsW W) {j : Nat} (hj : j < 9) : W.cell? ⟨0, j * 4, none⟩ = some (.string (word j)) ∧ W.cell? ⟨0, j * 4 + 1, none⟩ = some (.bool (shape ((j : Int) + 1)).1) ∧
    W.cell? ⟨0, j * 4 + 2, none⟩ = some (.bool (shape ((j : Int) + 1)).2.1) ∧ W.cell? ⟨0, j * 4 + 3, none⟩ = some (.bool (shape ((j : Int) + 1)).2.2) := by
  have hc : j = 0 ∨ j = 1 ∨ j = 2 ∨ j = 3 ∨ j = 4 ∨ j = 5 ∨ j = 6 ∨ j = 7 ∨ j = 8 := by omega
  rcases hc with rfl | rfl | rfl | rfl | rfl | rfl | rfl | rfl | rfl <;> exact ⟨h _ _ rfl, h _ _ rfl, h _ _ rfl, h _ _ rfl⟩
def askOk (k : Int) (key hi : ByteArray) (num : Int) : Bool :=
  (decide (1 ≤ k) && decide (k ≤ 9)) && (fieldB key (shape k).1 && (fieldB hi (shape k).2.1 && (if (shape k).2.2 = true then numOk num else num == 0)))
theorem askOk_low {k : Int} {key hi : ByteArray} {num : Int} (h : k < 1 ∨ 9 < k) : askOk k key hi num = false := by
  unfold askOk
  rcases h with h | h
  · rw [show decide (1 ≤ k) = false by simpa using h]; rfl
  · rw [show decide (k ≤ 9) = false by simpa using h]; simp
theorem askOk_mid {k : Int} {key hi : ByteArray} {num : Int} {a b c : Bool} (h1 : 1 ≤ k) (h2 : k ≤ 9) (hs : shape k = (a, b, c)) :
    askOk k key hi num = (fieldB key a && (fieldB hi b && (if c = true then numOk num else num == 0))) := by
  unfold askOk
  rw [hs]
  simp [h1, h2]
theorem keyOk_emp {s : ByteArray} (h : emp s = true) : keyOk s = false := by
  have h1 : s = ⟨#[]⟩ := by
    unfold emp at h
    rw [beq_iff_eq, ByteArray.toList_eq] at h
    exact ByteArray.ext (Array.toList_inj.1 h)
  subst h1; decide
theorem numOk_zero {n : Int} (h : (n == 0) = true) : numOk n = true := by
  rw [beq_iff_eq] at h; subst h; decide

set_option maxHeartbeats 4000000 in
set_option maxRecDepth 100000 in
theorem implAskOk (k : Int) (key hi : ByteArray) (num : Int) (w : World) (hF : FormsW w) (hk1 : key.size ≤ maxLen) (hk2 : hi.size ≤ maxLen) :
    Calls Tryd.prog 10 #[.agg #[.int .i64 k, .string key, .string hi, .int .i64 num]] w fun e w' => e = .returned (.bool (askOk k key hi num)) ∧ Below w.heap.size w w' := by
  have b0 := bel_alloc (Below.refl _ w) (.cells #[.int .i64 k, .string key, .string hi, .int .i64 num] 26)
  by_cases hlo : k < 1 ∨ 9 < k
  · rw [askOk_low hlo]
    rcases hlo with h | h
    · go_enter Tryd.func10, Tryd.ntmps10
      go_wp2
      go_ret
      exact ⟨rfl, b0⟩
    · have h1 : ¬ k < 1 := by omega
      go_enter Tryd.func10, Tryd.ntmps10
      go_wp2
      go_ret
      exact ⟨rfl, b0⟩
  · obtain ⟨j, rfl⟩ : ∃ j : Nat, k = (j : Int) + 1 := ⟨(k - 1).toNat, by omega⟩
    have hj : j < 9 := by omega
    obtain ⟨a, b, c, hs⟩ : ∃ a b c, shape ((j : Int) + 1) = (a, b, c) := ⟨_, _, _, rfl⟩
    have HA := Lib.hid (askOk_mid (key := key) (hi := hi) (num := num) (by omega) (by omega) hs)
    obtain ⟨c0, c1, c2, c3⟩ := formsAt (hF.on b0) hj
    rw [hs] at c1 c2 c3
    clear hs hlo
    have C1 := Lib.hid (fun W => fieldOk key a W hk1)
    have C2 := Lib.hid (fun W => fieldOk hi b W hk2)
    have C3 := Lib.hid (fun W => numOkC num W)
    clear hk1 hk2 hF
    obtain ⟨f1, hf1⟩ : ∃ f, fieldB key a = f := ⟨_, rfl⟩
    obtain ⟨f2, hf2⟩ : ∃ f, fieldB hi b = f := ⟨_, rfl⟩
    rw [hf1] at C1 HA
    rw [hf2] at C2 HA
    clear hf1 hf2
    have n0 : ¬ (j : Int) + 1 < 1 := by omega
    have n1 : ¬ (9 : Int) < (j : Int) + 1 := by omega
    have i0 : (0 : Int) ≤ (j : Int) := by omega
    have i1 : (j : Int) < 9 := by omega
    have b1 := bel_alloc b0 (.cells #[.string (word j), .bool a, .bool b, .bool c] 42)
    have x0 := (BoxC.new w 26 #[.int .i64 ((j : Int) + 1), .string key, .string hi, .int .i64 num]).alloc (.cells #[.string (word j), .bool a, .bool b, .bool c] 42)
    cases hc : c
    · subst hc
      cases hz : (num == 0)
      · have hz2 : (num != 0) = true := by simp [bne, hz]
        have HF := Lib.hid (show askOk ((j : Int) + 1) key hi num = false by rw [HA.out, if_neg (by simp), hz]; simp)
        clear hz
        go_enter Tryd.func10, Tryd.ntmps10
        go_wp2_with fail
        go_ret
        exact ⟨ret_bool HF.out.symm, b1⟩
      · have hz2 : (num != 0) = false := by simp [bne, hz]
        have HN := Lib.hid (numOk_zero hz)
        have HF := Lib.hid (show askOk ((j : Int) + 1) key hi num = (f1 && f2) by rw [HA.out, if_neg (by simp), hz, Bool.and_true])
        clear hz
        go_enter Tryd.func10, Tryd.ntmps10
        go_wp2_with fail
        refine (C1.out _).mono ?_
        rintro e w1 ⟨rfl, rfl⟩
        cases f1
        · go_wp2_with fail
          go_ret
          exact ⟨ret_bool (by rw [HF.out]; rfl), b1⟩
        · go_wp2_with fail
          refine (C2.out _).mono ?_
          rintro e w1 ⟨rfl, rfl⟩
          cases f2
          · go_wp2_with fail
            go_ret
            exact ⟨ret_bool (by rw [HF.out]; rfl), b1⟩
          · go_wp2_with fail
            refine (C3.out _).mono ?_
            rintro e w1 ⟨rfl, rfl⟩
            rw [HN.out]
            go_wp2_with fail
            go_ret
            exact ⟨ret_bool (by rw [HF.out]; rfl), b1⟩
    · subst hc
      have HF := Lib.hid (show askOk ((j : Int) + 1) key hi num = (f1 && (f2 && numOk num)) by rw [HA.out, if_pos rfl])
      go_enter Tryd.func10, Tryd.ntmps10
      go_wp2_with fail
      refine (C1.out _).mono ?_
      rintro e w1 ⟨rfl, rfl⟩
      cases f1
      · go_wp2_with fail
        go_ret
        exact ⟨ret_bool (by rw [HF.out]; rfl), b1⟩
      · go_wp2_with fail
        refine (C2.out _).mono ?_
        rintro e w1 ⟨rfl, rfl⟩
        cases f2
        · go_wp2_with fail
          go_ret
          exact ⟨ret_bool (by rw [HF.out]; rfl), b1⟩
        · go_wp2_with fail
          refine (C3.out _).mono ?_
          rintro e w1 ⟨rfl, rfl⟩
          go_wp2_with fail
          go_ret
          exact ⟨ret_bool (by rw [HF.out]; simp), b1⟩

set_option maxHeartbeats 4000000 in
set_option maxRecDepth 100000 in
theorem specAskOk (k : Int) (key hi : ByteArray) (num : Int) (w : World) (hk1 : key.size ≤ maxLen) (hk2 : hi.size ≤ maxLen) :
    Calls Tryd.prog 8 #[.agg #[.int .i64 k, .string key, .string hi, .int .i64 num]] w fun e w' => e = .returned (.bool (askOk k key hi num)) ∧ Below w.heap.size w w' := by
  have b0 := bel_alloc (Below.refl _ w) (.cells #[.int .i64 k, .string key, .string hi, .int .i64 num] 26)
  by_cases hlo : k < 1 ∨ 9 < k
  · rw [askOk_low hlo]
    rcases hlo with h | h
    · go_enter Tryd.func8, Tryd.ntmps8
      go_wp2
      go_ret
      exact ⟨rfl, b0⟩
    · have h1 : ¬ k < 1 := by omega
      go_enter Tryd.func8, Tryd.ntmps8
      go_wp2
      go_ret
      exact ⟨rfl, b0⟩
  · have n0 : ¬ k < 1 := by omega
    have n1 : ¬ 9 < k := by omega
    obtain ⟨a, b, c, hs⟩ : ∃ a b c, shape k = (a, b, c) := ⟨_, _, _, rfl⟩
    have HA := Lib.hid (askOk_mid (key := key) (hi := hi) (num := num) (by omega) (by omega) hs)
    have C0 := Lib.hid (fun W => l4Shape k W)
    rw [hs] at C0
    clear hs hlo
    have C1 := Lib.hid (fun W => specKeyOk key W hk1)
    have C2 := Lib.hid (fun W => specKeyOk hi W hk2)
    have C3 := Lib.hid (fun W => l1NumC num W)
    clear hk1 hk2
    have HK1 := Lib.hid (fun h => keyOk_emp (s := key) h)
    have HK2 := Lib.hid (fun h => keyOk_emp (s := hi) h)
    obtain ⟨f1, hf1⟩ : ∃ f, keyOk key = f := ⟨_, rfl⟩
    obtain ⟨f2, hf2⟩ : ∃ f, keyOk hi = f := ⟨_, rfl⟩
    have HE1 := Lib.hid hf1
    have HE2 := Lib.hid hf2
    rw [hf1] at C1 HK1
    rw [hf2] at C2 HK2
    clear hf1 hf2
    go_enter Tryd.func8, Tryd.ntmps8
    go_wp2_with fail
    refine (C0.out _).mono ?_
    rintro e w1 ⟨rfl, rfl⟩
    cases a <;> cases b <;> cases c
    all_goals
      go_wp2_with (first
        | ((with_reducible (go_at_call 19; refine (C1.out _).mono ?_)); rintro e w' ⟨rfl, rfl⟩)
        | ((with_reducible (go_at_call 19; refine (C2.out _).mono ?_)); rintro e w' ⟨rfl, rfl⟩)
        | ((with_reducible (go_at_call 20; refine (C3.out _).mono ?_)); rintro e w' ⟨rfl, rfl⟩))
    all_goals
      go_ret
      refine ⟨ret_bool ?_, b0⟩
      rw [HA.out]
      have E1 := HE1.out
      have E2 := HE2.out
      have K1 := HK1.out
      have K2 := HK2.out
      simp_all [fieldB, emp]
end Go.Proofs.YtpmeaikiaoojkaaDoor
