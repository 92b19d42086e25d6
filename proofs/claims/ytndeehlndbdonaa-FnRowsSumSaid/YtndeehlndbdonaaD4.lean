/- Rows bent, a key near: l1Near, l1Bent. -/
import Derived.Test.YtndeehlndbdonaaD3
namespace Go.Proofs.Ytndeehlndbdonaa
open Go.RowKit

theorem Turn.grown {A : Option Addr} {w w1 w2 : World} {row : Option Nat} (h : Turn A w w1) (hg : w1.grownBy w2 row) (hr : ∀ k, row = some k → w.heap.size ≤ k) : Turn A w w2 :=
  ⟨hg.os.trans h.os, hg.tape.trans h.tape, hg.output.trans h.output, Nat.le_trans h.size hg.size, fun i hi hne => (hg.block i (Nat.lt_of_lt_of_le hi h.size) (fun e => by have := hr i e.symm; omega)).trans (h.block i hi hne)⟩
theorem Rd.grown {w1 w2 : World} {g p : Nat} {A : Option Addr} {m c : Nat} {l : List UInt8} {row : Option Nat} (h : Rd w1 g p A m c l) (hg : w1.grownBy w2 row) (hr : ∀ k, row = some k → g < k) : Rd w2 g p A m c l :=
  h.keep ((Below.refl (g + 1) w1).grown hg h.lt (fun k hk => hr k hk)) (Nat.lt_succ_self g)
def NearPost (w : World) (g p : Nat) (A : Option Addr) (m c : Nat) (l : List UInt8) (e : Ending) (w' : World) : Prop :=
  ∃ (s : ByteArray) (p' : Nat), e = .returned (.string s) ∧ s.size ≤ 3 ∧ p' ≤ p + 3 ∧ Rd w' g p' A m c l ∧ Turn (some ⟨g, 0, none⟩) w w'

set_option maxHeartbeats 1000000 in
set_option maxRecDepth 100000 in
theorem l1Near (g p : Nat) (A : Option Addr) (m c : Nat) (l : List UInt8) (B : Option Addr) (n cb : Nat) (lr : List Row) (w : World) (hrd : Rd w g p A m c l) (hp : p ≤ 20000)
    (hs : Sl encRow w w.heap.size B n lr) (hn : n ≤ 1000) (hne : ∀ x, B = some x → g ≠ x.block) (hsm : ∀ r ∈ lr, r.1.size ≤ 3) :
    Calls Try.prog 72 #[.pointer (some ⟨g, 0, none⟩), .slice B n cb] w (NearPost w g p A m c l) := by
  have HP := Lib.hid hp
  have HSM := Lib.hid hsm
  have hg := hrd.lt
  clear hp hsm
  by_cases h0 : n = 0
  · subst h0
    go_enter Try.func72, Try.ntmps72
    go_wp2_with fail
    refine (l1Key g p A m c l w hrd (by have := HP.out; omega)).mono ?_
    rintro e w1 ⟨s, rfl, hs, hr1, ht1⟩
    go_wp2
    go_ret
    exact ⟨s, p + 2, rfl, hs, by omega, hr1, ht1⟩
  · obtain ⟨b, off, rfl, hb⟩ := hs.spot (by omega)
    have hgb : g ≠ b := hne _ rfl
    have hn0 : 0 < n := by omega
    have hn1 : (0 : Int) < (n : Int) := by omega
    clear h0 hne
    go_enter Try.func72, Try.ntmps72
    go_wp2_with fail
    refine (pick g p 2 A m c l w hrd (by omega) (by omega) (by have := HP.out; omega)).mono ?_
    rintro e w1 ⟨v, rfl, hv, hr1, ht1⟩
    have hs1 := hs.far ht1 (fun x hx => by cases hx; exact hgb) ht1.size
    by_cases hv0 : v = 0
    · subst hv0
      go_wp2_with fail
      refine (pick g (p + 1) n A m c l w1 hr1 (by omega) (by omega) (by have := HP.out; omega)).mono ?_
      rintro e w2 ⟨v, rfl, hv2, hr2, ht2⟩
      have hs2 := hs1.far ht2 (fun x hx => by cases hx; exact hgb) ht2.size
      obtain ⟨key, num, hrow, hk1, hk2⟩ := rowAt hs2 hv2
      have hsz := HSM.out _ (List.mem_of_getElem? hrow)
      clear hrow
      have v0 : (0 : Int) ≤ (v : Int) := by omega
      have v1 : (v : Int) < (n : Int) := by omega
      go_wp2
      go_ret
      exact ⟨key, p + 1 + 1, rfl, hsz, by omega, hr2, ht1.trans ht2⟩
    · have hv1 : ((v : Int) == 0) = false := by simp; omega
      go_wp2_with fail
      refine (l1Key g (p + 1) A m c l w1 hr1 (by have := HP.out; omega)).mono ?_
      rintro e w2 ⟨s, rfl, hs, hr2, ht2⟩
      go_wp2
      go_ret
      exact ⟨s, p + 1 + 2, rfl, hs, by omega, hr2, ht1.trans ht2⟩

theorem Own.zero {α : Type} {enc : α → List Value} {sz : Nat} {e : TypeId} {w : World} {base n c k : Nat} {A : Option Addr} {l : List α} (h : Own enc sz e w base (.slice A n c) l) (hk : k < n) : ∃ d, A = some ⟨d, 0, none⟩ := by
  obtain ⟨b, off, rfl, -⟩ := h.sl.spot (by omega)
  have := (h.block rfl).2.2.1
  simp only at this
  subst this
  exact ⟨b, rfl⟩
theorem Turn.setOwn {A : Option Addr} {w w1 : World} {d o : Nat} (h : Turn A w w1) (hd : w.heap.size ≤ d) (u : Value) : Turn A w (w1.setCell ⟨d, o, none⟩ u) :=
  ⟨h.os, h.tape, h.output, by simpa using h.size, fun i hi hne => (Below.heap_setCell _ _ _ _ (by rintro rfl; omega)).trans (h.block i hi hne)⟩
def Small (l : List Row) : Prop := l.length ≤ 11 ∧ ∀ r ∈ l, r.1.size ≤ 3
theorem Small.wf {l : List Row} (h : Small l) : KeysWf l := wf_of_small h.2 (by omega)
theorem RowsP.sm {l : List Row} (h : RowsP l) : Small l := ⟨Nat.le_trans h.1 (by omega), fun r hr => Nat.le_trans (h.small r hr) (by omega)⟩
theorem Small.set {l : List Row} (h : Small l) (k : Nat) (x : Row) (hx : x.1.size ≤ 3) : Small (l.set k x) := by
  refine ⟨by rw [List.length_set]; exact h.1, fun r hr => ?_⟩
  rcases List.mem_or_eq_of_mem_set hr with h1 | rfl
  · exact h.2 r h1
  · exact hx
theorem Small.push {l : List Row} (h : Small l) (hl : l.length ≤ 10) (x : Row) (hx : x.1.size ≤ 3) : Small (l ++ [x]) := by
  refine ⟨by simp; omega, fun r hr => ?_⟩
  rcases List.mem_append.1 hr with h1 | h1
  · exact h.2 r h1
  · rw [List.mem_singleton.1 h1]; exact hx
def BentPost (w : World) (g p : Nat) (A : Option Addr) (m c : Nat) (l : List UInt8) (e : Ending) (w' : World) : Prop :=
  ∃ (v : Value) (lr : List Row) (p' : Nat), e = .returned v ∧ Own encRow 2 46 w' w.heap.size v lr ∧ Small lr ∧ p' ≤ p + 20 ∧ Rd w' g p' A m c l ∧ Turn (some ⟨g, 0, none⟩) w w'
def bs1 : List ByteArray := [⟨#[]⟩, ⟨#[65]⟩, ⟨#[122, 122]⟩, ⟨#[97]⟩]
theorem bs1_small : ∀ s ∈ bs1, s.size ≤ 3 := by decide
def bs2 : List ByteArray := [⟨#[97]⟩, ⟨#[122]⟩]
theorem bs2_small : ∀ s ∈ bs2, s.size ≤ 1 := by decide
def bi1 : List Int := [1000, -9223372036854775808]
def BentRel (w : World) (g p : Nat) (A : Option Addr) (m c : Nat) (l : List UInt8) (o : Value) (wr : World) : Prop :=
  ∃ (p' : Nat) (lr : List Row) (B : Option Addr) (cb : Nat), o = .slice B lr.length cb ∧ Own encRow 2 46 wr w.heap.size (.slice B lr.length cb) lr ∧ Small lr ∧ p' + (11 - lr.length) ≤ p + 20 ∧ Rd wr g p' A m c l ∧ Turn (some ⟨g, 0, none⟩) w wr

set_option maxHeartbeats 2000000 in
set_option maxRecDepth 100000 in
theorem l1Bent (g p : Nat) (A : Option Addr) (m c : Nat) (l : List UInt8) (B : Option Addr) (n cb : Nat) (lr : List Row) (w : World) (hrd : Rd w g p A m c l) (hp : p ≤ 20000)
    (hs : Sl encRow w w.heap.size B n lr) (hP : RowsP lr) :
    Calls Try.prog 66 #[.pointer (some ⟨g, 0, none⟩), .slice B n cb] w (BentPost w g p A m c l) := by
  have HP := Lib.hid hp
  have hg := hrd.lt
  have HLN := Lib.hid hs.len
  have hn : n ≤ 10 := by rw [← HLN.out]; exact hP.1
  have hsm := hP.sm
  clear hp
  go_enter Try.func66, Try.ntmps66
  go_wp2_with fail
  refine (l1Copy B n cb lr w hs (by omega)).mono ?_
  rintro e w1 ⟨v1, rfl, ho1, hb1⟩
  obtain ⟨D, cd, rfl, -, -⟩ := ho1.form
  have r1 := hrd.on hb1
  have t1 : Turn (some ⟨g, 0, none⟩) w w1 := (Turn.refl _ w).below hb1
  rw [HLN.out] at ho1 ⊢
  by_cases h0 : n = 0
  · subst h0
    go_wp2
    go_ret
    exact ⟨_, lr, p, rfl, ho1, hsm, by omega, r1, t1⟩
  have hn0 : ((n : Int) == 0) = false := by simp; omega
  go_wp2_with fail
  refine (pick g p 8 A m c l w1 r1 (by omega) (by omega) (by have := HP.out; omega)).mono ?_
  rintro e w2 ⟨v, rfl, hv, hr2, ht2⟩
  have o2 := ho1.farRd ht2 hg
  have t2 := t1.trans ht2
  by_cases hv0 : 0 < v
  · have hv1 : (0 : Int) < (v : Int) := by omega
    clear hv0 hv
    go_wp2
    go_ret
    exact ⟨_, lr, p + 1, rfl, o2, hsm, by omega, hr2, t2⟩
  obtain rfl : v = 0 := by omega
  clear hv0 hv ho1 t1 r1
  go_wp2_with fail
  refine (pick g (p + 1) n A m c l w2 hr2 (by omega) (by omega) (by have := HP.out; omega)).mono ?_
  rintro e w3 ⟨k, rfl, hk, hr3, ht3⟩
  have o3 := o2.farRd ht3 hg
  have t3 := t2.trans ht3
  clear o2 t2 ht3 hr2 ht2
  go_wp2_with fail
  refine (pick g (p + 1 + 1) 4 A m c l w3 hr3 (by omega) (by omega) (by have := HP.out; omega)).mono ?_
  rintro e w4 ⟨q, rfl, hq, hr4, ht4⟩
  have o4 := o3.farRd ht4 hg
  have t4 := t3.trans ht4
  clear o3 t3 ht4 hr3
  have q0 : q = 0 ∨ q = 1 ∨ q = 2 ∨ q = 3 := by omega
  clear hq
  have k0 : (0 : Int) ≤ (k : Int) := by omega
  have k1 : (k : Int) < (n : Int) := by omega
  obtain ⟨d, rfl⟩ := o4.zero hk
  obtain ⟨⟨key, num⟩, hx⟩ : ∃ x, lr[k]? = some x := ⟨_, List.getElem?_eq_getElem (show k < lr.length by rw [HLN.out]; exact hk)⟩
  have hd : g < d := by have := (o4.block rfl).1; simp only at this; omega
  have hksz := hsm.2 _ (List.mem_of_getElem? hx)
  have HX := Lib.hid hx
  clear hx
  rcases q0 with rfl | rfl | rfl | rfl
  · go_wp2_with fail
    have b5 := bel_alloc (Below.refl _ w4) (.cells #[.string ⟨#[]⟩, .string ⟨#[65]⟩, .string ⟨#[122, 122]⟩, .string ⟨#[97]⟩] 9)
    refine (ofC g (p + 1 + 1 + 1) 4 4 w4.heap.size 0 A m c l bs1 _ (hr4.on b5) (by have := HP.out; omega) (Sl.lit w4 _ 9 bs1 rfl 4 rfl) (by have := hr4.lt; omega) (by omega) (by omega)).mono ?_
    rintro e w5 ⟨s, rfl, hs5, hr5, ht5⟩
    have o5 := (o4.on b5).farRd ht5 hg
    have t5 := (t4.below b5).trans ht5
    obtain ⟨f1, f2, f3, f4⟩ := ownRow o5 HX.out
    have hz5 := bs1_small s hs5
    have o6 := o5.set1 encRow_len k 0 (key, num) (s, num) (.string s) HX.out (by omega) rfl
    go_wp2
    go_ret
    refine ⟨_, _, p + 1 + 1 + 1 + 1, rfl, by simpa using o6, hsm.set k (s, num) hz5, by omega, ?_, ?_⟩
    · exact hr5.keep ((Below.refl (g + 1) w5).setCell (p := ⟨d, k * 2, none⟩) hd _) (by omega)
    · exact t5.setOwn (by have := (o5.block rfl).1; simpa using this) _
  · go_wp2_with fail
    have b5 := bel_alloc (Below.refl _ w4) (.cells #[.int .i64 1000, .int .i64 (-9223372036854775808)] 3)
    refine (numC g (p + 1 + 1 + 1) 2 2 w4.heap.size 0 A m c l bi1 _ (hr4.on b5) (by have := HP.out; omega) (Sl.lit w4 _ 3 bi1 rfl 2 rfl) (by have := hr4.lt; omega) (by omega) (by omega)).mono ?_
    rintro e w5 ⟨s, rfl, hs5, hr5, ht5⟩
    have o5 := (o4.on b5).farRd ht5 hg
    have t5 := (t4.below b5).trans ht5
    obtain ⟨f1, f2, f3, f4⟩ := ownRow o5 HX.out
    have o6 := o5.set1 encRow_len k 1 (key, num) (key, s) (.int .i64 s) HX.out (by omega) rfl
    go_wp2
    go_ret
    refine ⟨_, _, p + 1 + 1 + 1 + 1, rfl, by simpa using o6, hsm.set k (key, s) hksz, by omega, ?_, ?_⟩
    · exact hr5.keep ((Below.refl (g + 1) w5).setCell (p := ⟨d, k * 2 + 1, none⟩) hd _) (by omega)
    · exact t5.setOwn (by have := (o5.block rfl).1; simpa using this) _
  · obtain ⟨i0, hi, hz0, hz1, hz2⟩ := info_parts info46
    obtain ⟨f1, f2, f3, f4⟩ := ownRow o4 HX.out
    have b5 := bel_alloc (Below.refl _ w4) (.cells #[.string key, .int .i64 num] 46)
    have o5 := o4.on b5
    have r5 := Sl.lit1 (enc := encRow) w4 #[.string key, .int .i64 num] 46 (key, num) rfl
    have zz := t4.size
    go_wp2_with (at_builtin; refine wpList_append_sl _ rfl _ _ 26 rfl w.heap.size 46 i0 _ 2 24 Try.underlying26 hi hz0 hz1 hz2 rfl (by decide) encRow_len encRow_one _ lr rfl o5 _ (some ⟨w4.heap.size, 0, none⟩) 1 1 [(key, num)] rfl r5 (by unfold maxLen; rw [HLN.out]; omega) (by rw [HLN.out]; omega) (by simp; omega) ?_)
    intro v6 w6 o6 g6
    have gk : ∀ k, Value.ownBlock (.slice (some ⟨d, 0, none⟩) n cd) = some k → w.heap.size ≤ k := fun k hk => (World.ownsRow.lt o5 k hk).1
    go_wp2
    go_ret
    exact ⟨v6, _, p + 1 + 1 + 1, rfl, o6, hsm.push (by rw [HLN.out]; exact hn) _ hksz, by omega, (hr4.on b5).grown g6 (fun k hk => Nat.lt_of_lt_of_le hg (gk k hk)), (t4.below b5).grown g6 gk⟩
  · obtain ⟨i0, hi, hz0, hz1, hz2⟩ := info_parts info46
    rw [← HLN.out] at o4
    go_wp2_with fail
    go_loopw [5] (BentRel w g p A m c l) (fun o _ => match o with | .slice _ n _ => 11 - n | _ => 0)
    case atStart => exact ⟨p + 1 + 1 + 1, lr, _, cd, by rw [HLN.out], o4, hsm, by omega, hr4, t4⟩
    case round =>
      clear o4 t4 hr4
      obtain ⟨p', ls, E, ce, rfl, ho, hS, hp', hr, ht⟩ := hrel
      have HP5 := Lib.hid hp'
      clear hp'
      by_cases hlt : ls.length ≤ 10
      · have hlt' : (ls.length : Int) ≤ 10 := by omega
        go_wp2_with fail
        have b5 := bel_alloc (Below.refl _ wr) (.cells #[.string ⟨#[97]⟩, .string ⟨#[122]⟩] 9)
        refine (ofC g p' 2 2 wr.heap.size 0 A m c l bs2 _ (hr.on b5) (by have := HP5.out; have := HP.out; omega) (Sl.lit wr _ 9 bs2 rfl 2 rfl) (by have := hr.lt; omega) (by omega) (by omega)).mono ?_
        rintro e w5 ⟨s, rfl, hs5, hr5, ht5⟩
        have o5 := (ho.on b5).farRd ht5 hg
        have t5 := (ht.below b5).trans ht5
        have hz5 := bs2_small s hs5
        clear ho ht hr hs5
        have hz6 : ((⟨#[122]⟩ : ByteArray) ++ s).size ≤ 3 := by rw [ByteArray.size_append, show (⟨#[122]⟩ : ByteArray).size = 1 from rfl]; omega
        have b6 := bel_alloc (Below.refl _ w5) (.cells #[.string (⟨#[122]⟩ ++ s), .int .i64 0] 46)
        have o6 := o5.on b6
        have r6 := Sl.lit1 (enc := encRow) w5 #[.string (⟨#[122]⟩ ++ s), .int .i64 0] 46 ((⟨#[122]⟩ : ByteArray) ++ s, 0) rfl
        have zz := t5.size
        go_wp2_with (at_builtin; refine wpList_append_sl _ rfl _ _ 26 rfl w.heap.size 46 i0 _ 2 24 Try.underlying26 hi hz0 hz1 hz2 rfl (by decide) encRow_len encRow_one _ ls rfl o6 _ (some ⟨w5.heap.size, 0, none⟩) 1 1 [((⟨#[122]⟩ : ByteArray) ++ s, 0)] rfl r6 (by unfold maxLen; omega) (by omega) (by simp; omega) ?_)
        intro v7 w7 o7 g7
        have gk : ∀ k, Value.ownBlock (.slice E ls.length ce) = some k → w.heap.size ≤ k := fun k hk => (World.ownsRow.lt o6 k hk).1
        have r7 := (hr5.on b6).grown g7 (fun k hk => Nat.lt_of_lt_of_le hg (gk k hk))
        have t7 := (t5.below b6).grown g7 gk
        have hS7 := hS.push hlt ((⟨#[122]⟩ : ByteArray) ++ s, 0) hz6
        have hl7 : (ls ++ [((⟨#[122]⟩ : ByteArray) ++ s, (0 : Int))]).length = ls.length + 1 := by simp
        generalize hL : ls ++ [((⟨#[122]⟩ : ByteArray) ++ s, (0 : Int))] = ls2 at *
        obtain ⟨D7, c7, rfl, -, -⟩ := o7.form
        have HL7 := Lib.hid hl7
        clear hl7 hL
        go_wp2
        go_roundw
        case rel => exact ⟨p' + 1, ls2, D7, c7, rfl, o7, hS7, by have := HP5.out; have := HL7.out; omega, r7, t7⟩
        case measure => have := HL7.out; simp; omega
      · go_wp2
        go_ret
        exact ⟨_, ls, p', rfl, ho, hS, by have := HP5.out; omega, hr, ht⟩
end Go.Proofs.Ytndeehlndbdonaa
