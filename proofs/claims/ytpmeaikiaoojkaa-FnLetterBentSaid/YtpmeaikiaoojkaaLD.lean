/- A letter drawn: l11Many, l5Letter, DrawLetterText. -/
import Derived.Test.YtpmeaikiaoojkaaD2
import Derived.Test.YtpmeaikiaoojkaaL1
namespace Go.Proofs.Ytpmeaikiaoojkaa
open Go.RowKit

theorem Turn.setOwn {A : Option Addr} {w w1 : World} {d o : Nat} (h : Turn A w w1) (hd : w.heap.size ≤ d) (u : Value) : Turn A w (w1.setCell ⟨d, o, none⟩ u) :=
  ⟨h.os, h.tape, h.output, by simpa using h.size, fun i hi hne => (Below.heap_setCell _ _ _ _ (by rintro rfl; omega)).trans (h.block i hi hne)⟩
theorem many_step (q t M : Nat) (o : Nat) (h : o + q * t ≤ M) (hq : 0 < q) : t ≤ M ∧ o + q / 2 * (t + t) ≤ M ∧ (q % 2 = 1 → o + t + q / 2 * (t + t) ≤ M) := by
  have h1 : q * t = q / 2 * (t + t) + q % 2 * t := by
    conv => lhs; rw [← Nat.div_add_mod q 2]
    rw [Nat.add_mul, Nat.mul_add, Nat.mul_comm 2 (q / 2), Nat.mul_assoc, Nat.two_mul, Nat.mul_add]
  have h2 : t ≤ q * t := Nat.le_mul_of_pos_left t hq
  refine ⟨by omega, by omega, fun h3 => ?_⟩
  rw [h3, Nat.one_mul] at h1
  omega
set_option maxHeartbeats 1000000 in
theorem l11Many (s : ByteArray) (n M : Nat) (w : World) (hs : n * s.size ≤ M) (hs1 : s.size ≤ 64) (hM : M ≤ 64) (hn : n ≤ 64) :
    Calls Try.prog 62 #[.string s, .int .i64 (n : Int)] w fun e w' => (∃ t : ByteArray, e = .returned (.string t) ∧ t.size ≤ 64) ∧ w = w' := by
  go_enter Try.func62, Try.ntmps62
  go_wp2
  go_loop [0, 1, 5] (fun s i o => ∃ (q : Nat) (t z : ByteArray), q ≤ 64 ∧ i = .int .i64 q ∧ s = .string t ∧ o = .string z ∧ Hid (z.size + q * t.size ≤ M) ∧ t.size ≤ 128 ∧ z.size ≤ 64) (fun _ i _ => (intOf i).toNat)
  case atStart => exact ⟨n, s, ByteArray.empty, hn, rfl, rfl, rfl, Lib.hid (by simpa using hs), by omega, by simp⟩
  case round =>
    obtain ⟨q, t, z, hq, rfl, rfl, rfl, hp, ht, hz⟩ := hrel
    by_cases h0 : 0 < q
    · obtain ⟨m1, m2, m3⟩ := many_step q t.size M z.size hp.out h0
      have M2 := Lib.hid m2
      have M3 := Lib.hid m3
      clear m2 m3 hs
      have ht2 : t.size ≤ 64 := by omega
      by_cases hodd : q % 2 = 1
      · have hz2 : z.size + t.size ≤ 64 := by have := M3.out hodd; omega
        have hoi : ((q : Int) % 2) = 1 := by omega
        have HO := Lib.hid hodd
        clear hodd
        go_wp2
        go_round
        case rel => exact ⟨q / 2, t ++ t, z ++ t, by omega, by rw [show (q : Int) / 2 = ((q / 2 : Nat) : Int) by omega], rfl, rfl, Lib.hid (by rw [ByteArray.size_append, ByteArray.size_append]; exact M3.out HO.out), by rw [ByteArray.size_append]; omega, by rw [ByteArray.size_append]; omega⟩
        case measure => simp [intOf]; omega
      · have hoi : ((q : Int) % 2 == 1) = false := by simp; omega
        clear hodd
        go_wp2
        go_round
        case rel => exact ⟨q / 2, t ++ t, z, by omega, by rw [show (q : Int) / 2 = ((q / 2 : Nat) : Int) by omega], rfl, rfl, Lib.hid (by rw [ByteArray.size_append]; exact M2.out), by rw [ByteArray.size_append]; omega, hz⟩
        case measure => simp [intOf]; omega
    · go_wp2
      go_ret
      exact ⟨⟨z, rfl, hz⟩, rfl⟩

def ls1 : List ByteArray := [⟨#[81]⟩, ⟨#[80]⟩, ⟨#[69]⟩, ⟨#[83]⟩, ⟨#[88]⟩, ⟨#[90]⟩, ⟨#[49]⟩]
theorem ls1_small : ∀ s ∈ ls1, s.size ≤ 9 := by decide
def ls2 : List ByteArray := [⟨#[]⟩, ⟨#[103, 101, 116, 32, 97]⟩, ⟨#[112, 117, 116, 32, 97, 98, 32, 45, 55]⟩, ⟨#[110, 32, 103, 101, 116, 32, 97]⟩, ⟨#[110]⟩, ⟨#[98, 101, 103, 105, 110]⟩, ⟨#[97, 108, 108, 32, 97, 32, 122, 122]⟩]
theorem ls2_small : ∀ s ∈ ls2, s.size ≤ 9 := by decide
def ls3 : List ByteArray := [⟨#[]⟩, ⟨#[113]⟩, ⟨#[81, 81]⟩, ⟨#[32]⟩]
theorem ls3_small : ∀ s ∈ ls3, s.size ≤ 9 := by decide
def LetPost (w : World) (g : Nat) (e : Ending) (w' : World) : Prop :=
  ∃ s b : ByteArray, e = .returned (.agg #[.string s, .string b]) ∧ s.size ≤ 64 ∧ b.size ≤ 64 ∧ Turn (some ⟨g, 0, none⟩) w w'
set_option maxHeartbeats 4000000 in
set_option maxRecDepth 100000 in
theorem l5Letter (g p : Nat) (A : Option Addr) (m c : Nat) (l : List UInt8) (w : World) (hrd : Rd w g p A m c l) (hp : p ≤ 10000) :
    Calls Try.prog 39 #[.pointer (some ⟨g, 0, none⟩)] w (LetPost w g) := by
  have HP := Lib.hid hp
  have hg := hrd.lt
  clear hp
  have xr := BoxC.new w 27 #[.string ⟨#[]⟩, .string ⟨#[]⟩]
  have ha := bel_alloc (Below.refl _ w) (.cells #[.string ⟨#[]⟩, .string ⟨#[]⟩] 27)
  have ha2 := bel_alloc ha (.cells #[.string ⟨#[81]⟩, .string ⟨#[80]⟩, .string ⟨#[69]⟩, .string ⟨#[83]⟩, .string ⟨#[88]⟩, .string ⟨#[90]⟩, .string ⟨#[49]⟩] 9)
  have r1 := hrd.on ha2
  have s1 := Sl.lit (enc := encT) (w.alloc (.cells #[.string ⟨#[]⟩, .string ⟨#[]⟩] 27)) #[.string ⟨#[81]⟩, .string ⟨#[80]⟩, .string ⟨#[69]⟩, .string ⟨#[83]⟩, .string ⟨#[88]⟩, .string ⟨#[90]⟩, .string ⟨#[49]⟩] 9 ls1 rfl 7 rfl
  simp only [World.size_alloc] at s1
  have t0 : Turn (some ⟨g, 0, none⟩) w ((w.alloc (.cells #[.string ⟨#[]⟩, .string ⟨#[]⟩] 27)).alloc (.cells #[.string ⟨#[81]⟩, .string ⟨#[80]⟩, .string ⟨#[69]⟩, .string ⟨#[83]⟩, .string ⟨#[88]⟩, .string ⟨#[90]⟩, .string ⟨#[49]⟩] 9)) := Turn.of_below ha2
  replace xr := xr.alloc (.cells #[.string ⟨#[81]⟩, .string ⟨#[80]⟩, .string ⟨#[69]⟩, .string ⟨#[83]⟩, .string ⟨#[88]⟩, .string ⟨#[90]⟩, .string ⟨#[49]⟩] 9)
  clear ha ha2
  go_enter Try.func39, Try.ntmps39
  go_wp2_with fail
  refine (ofC g p 7 7 (w.heap.size + 1) 0 A m c l ls1 _ r1 (by have := HP.out; omega) (by simpa using s1) (by omega) (by omega) (by omega)).mono ?_
  rintro e w2 ⟨s, rfl, hs, r2, ht2⟩
  have hss := ls1_small s hs
  have t2 := t0.trans ht2
  replace xr := xr.turn ht2 (fun x hx => by cases hx; show w.heap.size ≠ g; omega)
  clear r1 s1 t0 ht2 hs
  have r3 := r2.on (bel_alloc (Below.refl _ w2) (.cells #[.string ⟨#[]⟩, .string ⟨#[103, 101, 116, 32, 97]⟩, .string ⟨#[112, 117, 116, 32, 97, 98, 32, 45, 55]⟩, .string ⟨#[110, 32, 103, 101, 116, 32, 97]⟩, .string ⟨#[110]⟩, .string ⟨#[98, 101, 103, 105, 110]⟩, .string ⟨#[97, 108, 108, 32, 97, 32, 122, 122]⟩] 9))
  have z2 := t2.size
  go_wp2_with fail
  refine (ofC g (p + 1) 7 7 w2.heap.size 0 A m c l ls2 _ r3 (by have := HP.out; omega) (Sl.lit w2 _ 9 ls2 rfl 7 rfl) (by omega) (by omega) (by omega)).mono ?_
  rintro e w3 ⟨b, rfl, hb, r4, ht3⟩
  have hbs := ls2_small b hb
  have t3 := (t2.alloc _).trans ht3
  replace xr := (xr.alloc (.cells #[.string ⟨#[]⟩, .string ⟨#[103, 101, 116, 32, 97]⟩, .string ⟨#[112, 117, 116, 32, 97, 98, 32, 45, 55]⟩, .string ⟨#[110, 32, 103, 101, 116, 32, 97]⟩, .string ⟨#[110]⟩, .string ⟨#[98, 101, 103, 105, 110]⟩, .string ⟨#[97, 108, 108, 32, 97, 32, 122, 122]⟩] 9)).turn ht3 (fun x hx => by cases hx; show w.heap.size ≠ g; omega)
  clear r2 r3 t2 ht3 hb
  have z3 : w.heap.size < w3.heap.size := xr.lt
  have hgL : g ≠ w3.heap.size := by have := r4.lt; omega
  have xl := BoxC.new w3 27 #[.string s, .string b]
  have bl := bel_alloc (Below.refl _ w3) (.cells #[.string s, .string b] 27)
  have r5 := r4.on bl
  have t4 := t3.below bl
  replace xr := xr.on bl
  clear r4 t3 bl
  go_wp2_with fail
  refine (pick g (p + 1 + 1) 48 A m c l _ r5 (by omega) (by omega) (by have := HP.out; omega)).mono ?_
  rintro e w4 ⟨v, rfl, hv, r6, ht4⟩
  have t5 := t4.trans ht4
  replace xr := xr.turn ht4 (fun x hx => by cases hx; show w.heap.size ≠ g; omega)
  replace xl := xl.turn ht4 (fun x hx => by cases hx; show w3.heap.size ≠ g; omega)
  obtain ⟨L, hL⟩ : ∃ L, w3.heap.size = L := ⟨_, rfl⟩
  rw [hL] at xl z3 hgL ⊢
  clear r5 t4 ht4 hL
  have n1 : ¬ L = w.heap.size := by omega
  have n2 : ¬ w.heap.size = L := by omega
  have cl0 := xl.c (k := 0) rfl
  have cl1 := xl.c (k := 1) rfl
  have fl0 := xl.f 0
  have fl1 := xl.f 1
  have hLl := xl.lt
  have fr0 := xr.f 0
  have fr1 := xr.f 1
  have cr0 := xr.c (k := 0) rfl
  have cr1 := xr.c (k := 1) rfl
  by_cases v0 : v = 0
  · subst v0
    have s4 := Sl.lit (enc := encT) w4 #[.string ⟨#[]⟩, .string ⟨#[113]⟩, .string ⟨#[81, 81]⟩, .string ⟨#[32]⟩] 9 ls3 rfl 4 rfl
    have r7 := r6.on (bel_alloc (Below.refl _ w4) (.cells #[.string ⟨#[]⟩, .string ⟨#[113]⟩, .string ⟨#[81, 81]⟩, .string ⟨#[32]⟩] 9))
    have hg4 := r6.lt
    go_wp2_with fail
    refine (ofC g (p + 1 + 1 + 1) 4 4 w4.heap.size 0 A m c l ls3 _ r7 (by have := HP.out; omega) s4 (by omega) (by omega) (by omega)).mono ?_
    rintro e w5 ⟨s', rfl, hs', r8, ht5⟩
    have hss' := ls3_small s' hs'
    have t6 := (t5.alloc _).trans ht5
    replace xl := (xl.alloc (.cells #[.string ⟨#[]⟩, .string ⟨#[113]⟩, .string ⟨#[81, 81]⟩, .string ⟨#[32]⟩] 9)).turn ht5 (fun x hx => by cases hx; show L ≠ g; omega)
    replace xr := (xr.alloc (.cells #[.string ⟨#[]⟩, .string ⟨#[113]⟩, .string ⟨#[81, 81]⟩, .string ⟨#[32]⟩] 9)).turn ht5 (fun x hx => by cases hx; show w.heap.size ≠ g; omega)
    clear cl0 cl1 fl0 fl1 fr0 fr1 cr0 cr1 hs'
    have cl0 := xl.c (k := 0) rfl
    have cl1 := xl.c (k := 1) rfl
    have fl0 := xl.f 0
    have fl1 := xl.f 1
    have fr0 := xr.f 0
    have fr1 := xr.f 1
    have cr0 := xr.c (k := 0) rfl
    have cr1 := xr.c (k := 1) rfl
    have T := Lib.hid (fun u x y => ((t6.setOwn (d := L) (o := 0) (by omega) u).setOwn (d := w.heap.size) (o := 0) (Nat.le_refl _) x).setOwn (d := w.heap.size) (o := 1) (Nat.le_refl _) y)
    go_wp2
    exact bodyPost_ret (v := .agg #[.string s', .string b]) (by simp [results, Try.results39, go_sem, cl0, cl1, fl0, fl1, fr0, fr1, cr0, cr1]) rfl ⟨s', b, rfl, by omega, by omega, T.out _ _ _⟩
  have e0 : ((v : Int) == 0) = false := by simp; omega
  clear v0

  by_cases v1 : v = 1
  · subst v1
    have T := Lib.hid (fun u x y => (((t5.setOwn (d := L) (o := 1) (by omega) u).setOwn (d := w.heap.size) (o := 0) (Nat.le_refl _) x).setOwn (d := w.heap.size) (o := 1) (Nat.le_refl _) y))
    go_wp2
    exact bodyPost_ret (v := .agg #[.string s, .string (b ++ ⟨#[10]⟩)]) (by simp [results, Try.results39, go_sem, cl0, cl1, fl0, fl1, fr0, fr1, cr0, cr1]) rfl ⟨s, _, rfl, by omega, by rw [ByteArray.size_append, show (⟨#[10]⟩ : ByteArray).size = 1 from rfl]; omega, T.out _ _ _⟩
  have e1 : ((v : Int) == 1) = false := by simp; omega
  clear v1
  by_cases v2 : v = 2
  · subst v2
    go_wp2_with fail
    refine (pick g (p + 1 + 1 + 1) 2 A m c l _ r6 (by omega) (by omega) (by have := HP.out; omega)).mono ?_
    rintro e w5 ⟨q, rfl, hq, r8, ht5⟩
    have t6 := t5.trans ht5
    replace xl := xl.turn ht5 (fun x hx => by cases hx; show L ≠ g; omega)
    replace xr := xr.turn ht5 (fun x hx => by cases hx; show w.heap.size ≠ g; omega)
    clear cl0 cl1 fl0 fl1 fr0 fr1 cr0 cr1
    have cl0 := xl.c (k := 0) rfl
    have cl1 := xl.c (k := 1) rfl
    have fl0 := xl.f 0
    have fl1 := xl.f 1
    have fr0 := xr.f 0
    have fr1 := xr.f 1
    have cr0 := xr.c (k := 0) rfl
    have cr1 := xr.c (k := 1) rfl
    have T := Lib.hid (fun u x y => (((t6.setOwn (d := L) (o := 1) (by omega) u).setOwn (d := w.heap.size) (o := 0) (Nat.le_refl _) x).setOwn (d := w.heap.size) (o := 1) (Nat.le_refl _) y))
    go_wp2_with fail
    rw [show ((40 : Int) + (q : Int)) = ((40 + q : Nat) : Int) by omega]
    refine (l11Many ⟨#[120]⟩ (40 + q) 41 _ (by simp [ByteArray.size]; omega) (by simp [ByteArray.size]) (by omega) (by omega)).mono ?_
    rintro e w6 ⟨⟨b', rfl, hb'⟩, rfl⟩
    go_wp2
    exact bodyPost_ret (v := .agg #[.string s, .string b']) (by simp [results, Try.results39, go_sem, cl0, cl1, fl0, fl1, fr0, fr1, cr0, cr1]) rfl ⟨s, b', rfl, by omega, hb', T.out _ _ _⟩
  have e2 : ((v : Int) == 2) = false := by simp; omega
  clear v2
  by_cases v3 : v = 3
  · subst v3
    have T := Lib.hid (fun u x y => (((t5.setOwn (d := L) (o := 1) (by omega) u).setOwn (d := w.heap.size) (o := 0) (Nat.le_refl _) x).setOwn (d := w.heap.size) (o := 1) (Nat.le_refl _) y))
    go_wp2
    exact bodyPost_ret (v := .agg #[.string s, .string (⟨#[127]⟩ ++ b)]) (by simp [results, Try.results39, go_sem, cl0, cl1, fl0, fl1, fr0, fr1, cr0, cr1]) rfl ⟨s, _, rfl, by omega, by rw [ByteArray.size_append, show (⟨#[127]⟩ : ByteArray).size = 1 from rfl]; omega, T.out _ _ _⟩
  have e3 : ((v : Int) == 3) = false := by simp; omega
  clear v3
  have T := Lib.hid (fun x y => ((t5.setOwn (d := w.heap.size) (o := 0) (Nat.le_refl _) x).setOwn (d := w.heap.size) (o := 1) (Nat.le_refl _) y))
  go_wp2
  exact bodyPost_ret (v := .agg #[.string s, .string b]) (by simp [results, Try.results39, go_sem, cl0, cl1, fl0, fl1, fr0, fr1, cr0, cr1]) rfl ⟨s, b, rfl, by omega, by omega, T.out _ _⟩
set_option maxHeartbeats 1000000 in
theorem drawLetter (A : Option Addr) (n c : Nat) (l : List UInt8) (w : World) (hr : Sl encB w w.heap.size A n l) (hn : n ≤ 1048576) (hc : n ≤ c) :
    Calls Try.prog 17 #[.slice A n c] w fun e w' => (∃ s b : ByteArray, e = .returned (.agg #[.string s, .string b]) ∧ s.size ≤ 64 ∧ b.size ≤ 64) ∧ Below w.heap.size w w' := by
  have b0 := bel_alloc (Below.refl _ w) (.cells #[.string ⟨#[]⟩, .string ⟨#[]⟩] 27)
  have x0 := BoxC.new w 27 #[.string ⟨#[]⟩, .string ⟨#[]⟩]
  have H0 := Lib.hid (hr.on b0)
  have HN := Lib.hid hn
  have HC := Lib.hid hc
  clear hr hn hc
  go_enter Try.func17, Try.ntmps17
  go_wp2_with fail
  refine (l11Open A n c l _ H0.out HN.out HC.out).mono ?_
  rintro e w1 ⟨A', m, c', l', rfl, r1, hb1⟩
  have b1 := bel_trans b0 hb1
  have x1 := x0.on hb1
  simp only [World.size_alloc] at r1 ⊢
  go_wp2_with fail
  refine (l5Letter _ 0 A' m c' l' _ r1 (by omega)).mono ?_
  rintro e w2 ⟨s, b, rfl, hs, hb, ht⟩
  have b2 := below_of_turnA b1 ht (fun x hx => by cases hx; show w.heap.size ≤ w.heap.size + 1; omega)
  have x2 := x1.turn ht (fun x hx => by cases hx; show w.heap.size ≠ w.heap.size + 1; omega)
  have c0 := x2.c (k := 0) rfl
  have c1 := x2.c (k := 1) rfl
  have f0 := x2.f 0
  have f1 := x2.f 1
  have T := Lib.hid (fun x y => bel_set (bel_set b2 (p := ⟨w.heap.size, 0, none⟩) (Nat.le_refl _) x) (p := ⟨w.heap.size, 1, none⟩) (Nat.le_refl _) y)
  go_wp2
  exact bodyPost_ret (v := .agg #[.string s, .string b]) (by simp [results, Try.results17, go_sem, c0, c1, f0, f1]) rfl ⟨⟨s, b, rfl, hs, hb⟩, T.out _ _⟩
end Go.Proofs.Ytpmeaikiaoojkaa
