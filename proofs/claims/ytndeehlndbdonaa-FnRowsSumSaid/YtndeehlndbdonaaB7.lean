/- Contracts: RowsDiff of the program and of the reference. -/
import Derived.Test.YtndeehlndbdonaaB6
import Derived.Test.YtndeehlndbdonaaM2
namespace Go.Proofs.Ytndeehlndbdonaa
open Go.RowKit

theorem info9 : (Try.prog.info? 9).map (fun i => (i.zero, i.size, i.bytes)) = some (some (.string ByteArray.empty), 1, 16) := by kernel_rfl
theorem own_snoc {α : Type} {enc : α → List Value} {sz : Nat} {e : TypeId} {w' : World} {base : Nat} {v' : Value} {l : List α} {x : α} (h : w'.ownsRow base e sz v' (l.length + 1) (cellsOf enc l ++ enc x)) : Own enc sz e w' base v' (l ++ [x]) := by
  unfold Own
  rw [cellsOf_append, cellsOf_one, List.length_append]
  exact h
/-- the keys under which two lists have not the same, with fuel -/
def dif : Nat → List Row → List Row → List ByteArray
  | 0, _, _ => []
  | _ + 1, [], [] => []
  | f + 1, a :: p, [] => a.1 :: dif f p []
  | f + 1, [], b :: q => b.1 :: dif f [] q
  | f + 1, a :: p, b :: q => if klt a.1 b.1 = true then a.1 :: dif f p (b :: q) else if klt b.1 a.1 = true then b.1 :: dif f (a :: p) q else if (a.2 != b.2) = true then a.1 :: dif f p q else dif f p q
theorem dif_nil (f : Nat) : dif f [] [] = [] := by cases f <;> rfl
theorem cons_of {l : List Row} {key : ByteArray} {num : Int} (h : l[0]? = some (key, num)) : l = (key, num) :: l.drop 1 := by
  cases l with
  | nil => simp at h
  | cons r l => simp at h; subst h; rfl
theorem dif_a {f : Nat} {la : List Row} {key : ByteArray} {num : Int} (h : la[0]? = some (key, num)) : dif (f + 1) la [] = key :: dif f (la.drop 1) [] := by
  conv => lhs; rw [cons_of h]
  rfl
theorem dif_b {f : Nat} {lb : List Row} {key : ByteArray} {num : Int} (h : lb[0]? = some (key, num)) : dif (f + 1) [] lb = key :: dif f [] (lb.drop 1) := by
  conv => lhs; rw [cons_of h]
  rfl
theorem dif_lt {f : Nat} {la lb : List Row} {key key2 : ByteArray} {num num2 : Int} (h : la[0]? = some (key, num)) (k : lb[0]? = some (key2, num2)) (hlt : klt key key2 = true) : dif (f + 1) la lb = key :: dif f (la.drop 1) lb := by
  conv => lhs; rw [cons_of h, cons_of k]
  conv => rhs; rw [cons_of k]
  show (if klt key key2 = true then _ else _) = _
  rw [if_pos hlt]
theorem dif_gt {f : Nat} {la lb : List Row} {key key2 : ByteArray} {num num2 : Int} (h : la[0]? = some (key, num)) (k : lb[0]? = some (key2, num2)) (hlt : klt key key2 = false) (hgt : klt key2 key = true) : dif (f + 1) la lb = key2 :: dif f la (lb.drop 1) := by
  conv => lhs; rw [cons_of h, cons_of k]
  conv => rhs; rw [cons_of h]
  show (if klt key key2 = true then _ else if klt key2 key = true then _ else _) = _
  rw [if_neg (by rw [hlt]; simp), if_pos hgt]
theorem dif_ne {f : Nat} {la lb : List Row} {key key2 : ByteArray} {num num2 : Int} (h : la[0]? = some (key, num)) (k : lb[0]? = some (key2, num2)) (hlt : klt key key2 = false) (hgt : klt key2 key = false) (hn : (num != num2) = true) : dif (f + 1) la lb = key :: dif f (la.drop 1) (lb.drop 1) := by
  conv => lhs; rw [cons_of h, cons_of k]
  show (if klt key key2 = true then _ else if klt key2 key = true then _ else if (num != num2) = true then _ else _) = _
  rw [if_neg (by rw [hlt]; simp), if_neg (by rw [hgt]; simp), if_pos hn]
theorem dif_eq {f : Nat} {la lb : List Row} {key key2 : ByteArray} {num num2 : Int} (h : la[0]? = some (key, num)) (k : lb[0]? = some (key2, num2)) (hlt : klt key key2 = false) (hgt : klt key2 key = false) (hn : (num != num2) = false) : dif (f + 1) la lb = dif f (la.drop 1) (lb.drop 1) := by
  conv => lhs; rw [cons_of h, cons_of k]
  show (if klt key key2 = true then _ else if klt key2 key = true then _ else if (num != num2) = true then _ else _) = _
  rw [if_neg (by rw [hlt]; simp), if_neg (by rw [hgt]; simp), if_neg (by rw [hn]; simp)]
noncomputable def diffOut (l p : List Row) : List ByteArray := if rowsOk l = true ∧ rowsOk p = true then dif (l.length + p.length) l p else []
theorem diffOut_ok {l p : List Row} (h : rowsOk l = true) (k : rowsOk p = true) : diffOut l p = dif (l.length + p.length) l p := by simp [diffOut, h, k]
theorem diffOut_bad {l p : List Row} (h : rowsOk l = false ∨ rowsOk p = false) : diffOut l p = [] := by rcases h with h | h <;> simp [diffOut, h]

def lenOf : Value → Nat
  | .slice _ n _ => n
  | _ => 0
theorem Sl.tail {w : World} {B b off n c : Nat} {l : List Row} (h : Sl encRow w B (some ⟨b, off, none⟩) n l) (hn : 0 < n) (hc : n ≤ c) :
    Sl encRow w B (if c = 1 then some ⟨b, off, none⟩ else some ⟨b, off + 2, none⟩) (n - 1) (l.drop 1) := by
  by_cases h1 : c = 1
  · rw [if_pos h1]
    obtain rfl : n = 1 := by omega
    have hl : l.drop 1 = [] := List.drop_of_length_le (by rw [h.len]; exact Nat.le_refl _)
    rw [hl]
    exact Sl.nil _ _ _ _
  · rw [if_neg h1]
    have := h.cut encRow_len 1 n (by omega) (Nat.le_refl _)
    rwa [Nat.one_mul, List.take_of_length_le (by rw [List.length_drop, h.len]; exact Nat.le_refl _)] at this
theorem dif_fuel {f g : Nat} {la lb : List Row} (h : la.length + lb.length ≤ f) (hg : f ≤ g) : dif f la lb = dif g la lb := by
  induction f generalizing g la lb with
  | zero =>
    have h1 : la = [] := List.eq_nil_of_length_eq_zero (by omega)
    have h2 : lb = [] := List.eq_nil_of_length_eq_zero (by omega)
    subst h1; subst h2; rw [dif_nil, dif_nil]
  | succ f ih =>
    obtain ⟨g, rfl⟩ : ∃ k, g = k + 1 := ⟨g - 1, by omega⟩
    match la, lb, h with
    | [], [], _ => rfl
    | a :: p, [], h => show a.1 :: _ = a.1 :: _; rw [ih (g := g) (by simp at h ⊢; omega) (by omega)]
    | [], b :: q, h => show b.1 :: _ = b.1 :: _; rw [ih (g := g) (by simp at h ⊢; omega) (by omega)]
    | a :: p, b :: q, h =>
      show (if klt a.1 b.1 = true then _ else if klt b.1 a.1 = true then _ else if (a.2 != b.2) = true then _ else _) = (if klt a.1 b.1 = true then _ else if klt b.1 a.1 = true then _ else if (a.2 != b.2) = true then _ else _)
      simp only [List.length_cons] at h
      rw [ih (g := g) (la := p) (lb := b :: q) (by simp; omega) (by omega), ih (g := g) (la := a :: p) (lb := q) (by simp; omega) (by omega), ih (g := g) (la := p) (lb := q) (by omega) (by omega)]
def DiffPost (w : World) (o : List ByteArray) (e : Ending) (w' : World) : Prop :=
  ∃ v, e = .returned v ∧ Own encS 1 9 w' w.heap.size v o ∧ Below w.heap.size w w'

set_option maxHeartbeats 4000000 in
set_option maxRecDepth 100000 in
theorem implDiffOk (A B : Option Addr) (n c m d : Nat) (l p : List Row) (w : World) (hr : Sl encRow w w.heap.size A n l) (hk : KeysWf l) (hn : n ≤ 1048576) (hnc : n ≤ c)
    (hs : Sl encRow w w.heap.size B m p) (hkp : KeysWf p) (hm : m ≤ 1048576) (hmd : m ≤ d) (hP : rowsOk l = true) (hQ : rowsOk p = true) :
    Calls Try.prog 34 #[.slice A n c, .slice B m d] w (DiffPost w (diffOut l p)) := by
  have hPP := rowsOk_iff.1 hP
  have hQQ := rowsOk_iff.1 hQ
  have HP := Lib.hid hP
  have HQ := Lib.hid hQ
  have HD := Lib.hid (diffOut_ok hP hQ)
  have HL := Lib.hid hr.len
  have HLP := Lib.hid hs.len
  have h10 : n ≤ 10 := by have := hPP.1; rw [hr.len] at this; exact this
  have h11 : m ≤ 10 := by have := hQQ.1; rw [hs.len] at this; exact this
  have HN := Lib.hid hn
  have HM := Lib.hid hm
  clear hP hQ hPP hQQ hn hm
  obtain ⟨i0, hi, hz0, hz1, hz2⟩ := info_parts info9
  go_enter Try.func34, Try.ntmps34
  go_wp2_with fail
  refine (implRowsOk A n c l _ hr hk HN.out).mono ?_
  rintro e w1 ⟨rfl, hb1⟩
  rw [HP.out]
  go_wp2_with fail
  refine (implRowsOk B m d p _ (hs.on hb1) hkp HM.out).mono ?_
  rintro e w2 ⟨rfl, hb2⟩
  rw [HQ.out]
  have b2 := bel_trans hb1 hb2
  go_wp2
  go_loopw [0, 1, 5] (fun x y z wr => ∃ (A1 B1 : Option Addr) (n1 c1 m1 d1 : Nat) (la lb : List Row) (o : List ByteArray), x = .slice A1 n1 c1 ∧ y = .slice B1 m1 d1 ∧ n1 ≤ c1 ∧ m1 ≤ d1 ∧ n1 ≤ 10 ∧ m1 ≤ 10 ∧
      Sl encRow w w.heap.size A1 n1 la ∧ Sl encRow w w.heap.size B1 m1 lb ∧ Own encS 1 9 wr w.heap.size z o ∧ o.length + n1 + m1 ≤ 20 ∧ Hid (o ++ dif (n1 + m1) la lb = diffOut l p) ∧ Below w.heap.size w wr) (fun x y _ _ => lenOf x + lenOf y)
  case atStart =>
    exact ⟨A, B, n, c, m, d, l, p, [], rfl, rfl, hnc, hmd, h10, h11, hr, hs, Own.nil _ _, by simp; omega, (by rw [HD.out, HL.out, HLP.out]; rfl : ([] : List ByteArray) ++ dif (n + m) l p = diffOut l p), b2⟩
  case round =>
    clear HD HL HLP hr hs hk hkp h10 h11 hnc hmd HP HQ HN HM hb1 hb2 b2
    obtain ⟨A1, B1, n1, c1, m1, d1, la, lb, o, rfl, rfl, hn1, hm1, hx1, hx2, hsa, hsb, hown, ho, hd, hbel⟩ := hrel
    by_cases hb0 : m1 = 0
    · by_cases ha0 : n1 = 0
      · have t1 : decide ((0 : Int) < (n1 : Int)) = false := by simp; omega
        have t2 : decide ((0 : Int) < (m1 : Int)) = false := by simp; omega
        have t1' : decide (0 < n1) = false := by simp; omega
        have t2' : decide (0 < m1) = false := by simp; omega
        have hfin : o = diffOut l p := by
          have := hd.out
          subst ha0; subst hb0
          rw [hsa.nil_of, hsb.nil_of, dif_nil, List.append_nil] at this
          exact this
        have HF := Lib.hid hfin
        clear hfin ha0 hb0
        go_wp2
        go_ret
        exact ⟨_, rfl, by rw [← HF.out]; exact hown, hbel⟩
      · have t1 : decide ((0 : Int) < (n1 : Int)) = true := by simp; omega
        have t1' : decide (0 < n1) = true := by simp; omega
        have t2 : ((m1 : Int) == 0) = true := by simp; omega
        have ha1 : 0 < n1 := by omega
        obtain ⟨b, off, rfl, hbb⟩ := hsa.spot ha1
        obtain ⟨key, num, hrow, hk1, hk2⟩ := rowAt (k := 0) (hsa.keep hbel) ha1
        simp only [Nat.zero_mul, Nat.add_zero] at hk1 hk2
        have hd2 : (o ++ [key]) ++ dif (n1 - 1 + m1) (la.drop 1) lb = diffOut l p := by
          have hd' := hd.out
          subst hb0
          rw [hsb.nil_of, show n1 + 0 = (n1 - 1 + 0) + 1 by omega, dif_a hrow] at hd'
          rw [hsb.nil_of, List.append_assoc]; exact hd'
        have HD2 := Lib.hid hd2
        have HA0 := Lib.hid ha0
        have HB0 := Lib.hid hb0
        clear hrow hd2 ha0 hb0 hd
        go_wp2_with fail
        go_quiet (fail)
        have hownD : ∀ k : Nat, (wr.drewN k).ownsRow w.heap.size 9 1 _ o.length (cellsOf encS o) := fun _ => hown
        clear hown
        go_wp2_with (at_builtin; refine wpList_append_own _ rfl _ _ 37 rfl w.heap.size 9 i0 (.string ByteArray.empty) 1 16 Try.underlying37 hi hz0 hz1 hz2 rfl (by decide) _ o.length (cellsOf encS o) rfl ((hownD _).alloc _) ⟨wr.heap.size, 0, none⟩ 1 1 [.string key] rfl rfl (cell_one_new _ _ _) ?c2 ?c3 ?c4 ?c5 ?_)
        case c2 => intro u hu; simp at hu; subst hu; rfl
        case c3 => unfold maxLen; omega
        case c4 => omega
        case c5 => have := hbel.size; simp; omega
        intro v2 w3 hown3 hg3 _
        have ho3 : Own encS 1 9 w3 w.heap.size v2 (o ++ [key]) := own_snoc hown3
        have hb3 : Below w.heap.size w w3 := bel_grown (bel_alloc (bel_drewN hbel _) _) hg3 (fun k hk => ((hownD 0).lt k hk).1)
        clear hown3 hg3 hownD
        go_wp2
        go_roundw
        case rel => exact ⟨_, _, _, _, _, _, la.drop 1, lb, o ++ [key], rfl, rfl, by omega, hm1, by omega, hx2, hsa.tail ha1 hn1, hsb, ho3, by simp; omega, HD2.out, hb3⟩
        case measure => simp [lenOf]; omega
    · by_cases ha0 : n1 = 0
      · have t1 : decide ((0 : Int) < (n1 : Int)) = false := by simp; omega
        have t1' : decide (0 < n1) = false := by simp; omega
        have t2 : decide ((0 : Int) < (m1 : Int)) = true := by simp; omega
        have t2' : decide (0 < m1) = true := by simp; omega
        have t3 : ((m1 : Int) == 0) = false := by simp; omega
        have t4 : ((n1 : Int) == 0) = true := by simp; omega
        have hb1' : 0 < m1 := by omega
        obtain ⟨b, off, rfl, hbb⟩ := hsb.spot hb1'
        obtain ⟨key, num, hrow, hk1, hk2⟩ := rowAt (k := 0) (hsb.keep hbel) hb1'
        simp only [Nat.zero_mul, Nat.add_zero] at hk1 hk2
        have hd2 : (o ++ [key]) ++ dif (n1 + (m1 - 1)) la (lb.drop 1) = diffOut l p := by
          have hd' := hd.out
          subst ha0
          rw [hsa.nil_of, show 0 + m1 = (0 + (m1 - 1)) + 1 by omega, dif_b hrow] at hd'
          rw [hsa.nil_of, List.append_assoc]; exact hd'
        have HD2 := Lib.hid hd2
        have HA0 := Lib.hid ha0
        have HB0 := Lib.hid hb0
        clear hrow hd2 ha0 hb0 hd
        go_wp2_with fail
        go_quiet (fail)
        go_wp2_with fail
        go_quiet (fail)
        have hownD : ∀ k : Nat, (wr.drewN k).ownsRow w.heap.size 9 1 _ o.length (cellsOf encS o) := fun _ => hown
        clear hown
        go_wp2_with (at_builtin; refine wpList_append_own _ rfl _ _ 37 rfl w.heap.size 9 i0 (.string ByteArray.empty) 1 16 Try.underlying37 hi hz0 hz1 hz2 rfl (by decide) _ o.length (cellsOf encS o) rfl ((hownD _).alloc _) ⟨wr.heap.size, 0, none⟩ 1 1 [.string key] rfl rfl (cell_one_new _ _ _) ?c2 ?c3 ?c4 ?c5 ?_)
        case c2 => intro u hu; simp at hu; subst hu; rfl
        case c3 => unfold maxLen; omega
        case c4 => omega
        case c5 => have := hbel.size; simp; omega
        intro v2 w3 hown3 hg3 _
        have ho3 : Own encS 1 9 w3 w.heap.size v2 (o ++ [key]) := own_snoc hown3
        have hb3 : Below w.heap.size w w3 := bel_grown (bel_alloc (bel_drewN hbel _) _) hg3 (fun k hk => ((hownD 0).lt k hk).1)
        clear hown3 hg3 hownD
        go_wp2
        go_roundw
        case rel => exact ⟨_, _, _, _, _, _, la, lb.drop 1, o ++ [key], rfl, rfl, hn1, by omega, hx1, by omega, hsa, hsb.tail hb1' hm1, ho3, by simp; omega, HD2.out, hb3⟩
        case measure => simp [lenOf]; omega
      · have t1 : decide ((0 : Int) < (n1 : Int)) = true := by simp; omega
        have t1' : decide (0 < n1) = true := by simp; omega
        have t3 : ((m1 : Int) == 0) = false := by simp; omega
        have t4 : ((n1 : Int) == 0) = false := by simp; omega
        have ha1 : 0 < n1 := by omega
        have hb1' : 0 < m1 := by omega
        have i1 : (0 : Int) < (n1 : Int) := by omega
        have i2 : (0 : Int) < (m1 : Int) := by omega
        obtain ⟨b, off, rfl, hbb⟩ := hsa.spot ha1
        obtain ⟨b2, off2, rfl, hbb2⟩ := hsb.spot hb1'
        obtain ⟨key, num, hrow, hk1, hk2⟩ := rowAt (k := 0) (hsa.keep hbel) ha1
        obtain ⟨key2, num2, hrow2, hk3, hk4⟩ := rowAt (k := 0) (hsb.keep hbel) hb1'
        simp only [Nat.zero_mul, Nat.add_zero] at hk1 hk2 hk3 hk4
        have HR := Lib.hid hrow
        have HR2 := Lib.hid hrow2
        have HA0 := Lib.hid ha0
        have HB0 := Lib.hid hb0
        clear hrow hrow2 ha0 hb0
        cases hlt : klt key key2
        · have hlt' : Op.bytesLess key.toList key2.toList = false := hlt
          have HLT := Lib.hid hlt
          clear hlt
          cases hgt : klt key2 key
          · have hgt' : Op.bytesLess key2.toList key.toList = false := hgt
            have HGT := Lib.hid hgt
            clear hgt
            cases hne : (num != num2)
            · have hd2 : o ++ dif (n1 - 1 + (m1 - 1)) (la.drop 1) (lb.drop 1) = diffOut l p := by
                have hd' := hd.out
                rw [show n1 + m1 = (n1 - 1 + (m1 - 1) + 1) + 1 by omega, dif_eq HR.out HR2.out HLT.out HGT.out hne] at hd'
                rw [dif_fuel (by rw [List.length_drop, List.length_drop, hsa.len, hsb.len]; omega) (show n1 - 1 + (m1 - 1) ≤ n1 - 1 + (m1 - 1) + 1 by omega)]
                exact hd'
              have HD2 := Lib.hid hd2
              clear hd2 hd
              go_wp2_with fail
              go_quiet (fail)
              go_wp2_with fail
              go_quiet (fail)
              go_wp2_with fail
              go_quiet (fail)
              go_wp2_with fail
              go_quiet (fail)
              go_wp2
              go_roundw
              case rel => exact ⟨_, _, _, _, _, _, la.drop 1, lb.drop 1, o, rfl, rfl, by omega, by omega, by omega, by omega, hsa.tail ha1 hn1, hsb.tail hb1' hm1, hown, by omega, HD2.out, (by repeat (first | exact hbel | refine bel_drewN ?_ _))⟩
              case measure => simp [lenOf]; omega
            · have hd2 : (o ++ [key]) ++ dif (n1 - 1 + (m1 - 1)) (la.drop 1) (lb.drop 1) = diffOut l p := by
                have hd' := hd.out
                rw [show n1 + m1 = (n1 - 1 + (m1 - 1) + 1) + 1 by omega, dif_ne HR.out HR2.out HLT.out HGT.out hne] at hd'
                rw [dif_fuel (by rw [List.length_drop, List.length_drop, hsa.len, hsb.len]; omega) (show n1 - 1 + (m1 - 1) ≤ n1 - 1 + (m1 - 1) + 1 by omega), List.append_assoc]
                exact hd'
              have HD2 := Lib.hid hd2
              clear hd2 hd
              go_wp2_with fail
              go_quiet (fail)
              go_wp2_with fail
              go_quiet (fail)
              go_wp2_with fail
              go_quiet (fail)
              have hownD : ∀ k : Nat, (wr.drewN k).ownsRow w.heap.size 9 1 _ o.length (cellsOf encS o) := fun _ => hown
              clear hown
              go_wp2_with (at_builtin; refine wpList_append_own _ rfl _ _ 37 rfl w.heap.size 9 i0 (.string ByteArray.empty) 1 16 Try.underlying37 hi hz0 hz1 hz2 rfl (by decide) _ o.length (cellsOf encS o) rfl ((hownD _).alloc _) ⟨wr.heap.size, 0, none⟩ 1 1 [.string key] rfl rfl (cell_one_new _ _ _) ?c2 ?c3 ?c4 ?c5 ?_)
              case c2 => intro u hu; simp at hu; subst hu; rfl
              case c3 => unfold maxLen; omega
              case c4 => omega
              case c5 => have := hbel.size; simp; omega
              intro v2 w3 hown3 hg3 _
              have ho3 : Own encS 1 9 w3 w.heap.size v2 (o ++ [key]) := own_snoc hown3
              have hb3 : Below w.heap.size w w3 := bel_grown (bel_alloc (bel_drewN hbel _) _) hg3 (fun k hk => ((hownD 0).lt k hk).1)
              clear hown3 hg3 hownD
              go_wp2_with fail
              go_quiet (fail)
              go_wp2
              go_roundw
              case rel => exact ⟨_, _, _, _, _, _, la.drop 1, lb.drop 1, o ++ [key], rfl, rfl, by omega, by omega, by omega, by omega, hsa.tail ha1 hn1, hsb.tail hb1' hm1, ho3, by simp; omega, HD2.out, bel_drewN hb3 _⟩
              case measure => simp [lenOf]; omega
          · have hgt' : Op.bytesLess key2.toList key.toList = true := hgt
            have HGT := Lib.hid hgt
            clear hgt
            have hd2 : (o ++ [key2]) ++ dif (n1 + (m1 - 1)) la (lb.drop 1) = diffOut l p := by
              have hd' := hd.out
              rw [show n1 + m1 = (n1 + (m1 - 1)) + 1 by omega, dif_gt HR.out HR2.out HLT.out HGT.out] at hd'
              rw [List.append_assoc]; exact hd'
            have HD2 := Lib.hid hd2
            clear hd2 hd
            go_wp2_with fail
            go_quiet (fail)
            go_wp2_with fail
            go_quiet (fail)
            have hownD : ∀ k : Nat, (wr.drewN k).ownsRow w.heap.size 9 1 _ o.length (cellsOf encS o) := fun _ => hown
            clear hown
            go_wp2_with (at_builtin; refine wpList_append_own _ rfl _ _ 37 rfl w.heap.size 9 i0 (.string ByteArray.empty) 1 16 Try.underlying37 hi hz0 hz1 hz2 rfl (by decide) _ o.length (cellsOf encS o) rfl ((hownD _).alloc _) ⟨wr.heap.size, 0, none⟩ 1 1 [.string key2] rfl rfl (cell_one_new _ _ _) ?c2 ?c3 ?c4 ?c5 ?_)
            case c2 => intro u hu; simp at hu; subst hu; rfl
            case c3 => unfold maxLen; omega
            case c4 => omega
            case c5 => have := hbel.size; simp; omega
            intro v2 w3 hown3 hg3 _
            have ho3 : Own encS 1 9 w3 w.heap.size v2 (o ++ [key2]) := own_snoc hown3
            have hb3 : Below w.heap.size w w3 := bel_grown (bel_alloc (bel_drewN hbel _) _) hg3 (fun k hk => ((hownD 0).lt k hk).1)
            clear hown3 hg3 hownD
            go_wp2
            go_roundw
            case rel => exact ⟨_, _, _, _, _, _, la, lb.drop 1, o ++ [key2], rfl, rfl, hn1, by omega, hx1, by omega, hsa, hsb.tail hb1' hm1, ho3, by simp; omega, HD2.out, hb3⟩
            case measure => simp [lenOf]; omega
        · have hlt' : Op.bytesLess key.toList key2.toList = true := hlt
          have HLT := Lib.hid hlt
          clear hlt
          have hd2 : (o ++ [key]) ++ dif (n1 - 1 + m1) (la.drop 1) lb = diffOut l p := by
            have hd' := hd.out
            rw [show n1 + m1 = (n1 - 1 + m1) + 1 by omega, dif_lt HR.out HR2.out HLT.out] at hd'
            rw [List.append_assoc]; exact hd'
          have HD2 := Lib.hid hd2
          clear hd2 hd
          go_wp2_with fail
          go_quiet (fail)
          have hownD : ∀ k : Nat, (wr.drewN k).ownsRow w.heap.size 9 1 _ o.length (cellsOf encS o) := fun _ => hown
          clear hown
          go_wp2_with (at_builtin; refine wpList_append_own _ rfl _ _ 37 rfl w.heap.size 9 i0 (.string ByteArray.empty) 1 16 Try.underlying37 hi hz0 hz1 hz2 rfl (by decide) _ o.length (cellsOf encS o) rfl ((hownD _).alloc _) ⟨wr.heap.size, 0, none⟩ 1 1 [.string key] rfl rfl (cell_one_new _ _ _) ?c2 ?c3 ?c4 ?c5 ?_)
          case c2 => intro u hu; simp at hu; subst hu; rfl
          case c3 => unfold maxLen; omega
          case c4 => omega
          case c5 => have := hbel.size; simp; omega
          intro v2 w3 hown3 hg3 _
          have ho3 : Own encS 1 9 w3 w.heap.size v2 (o ++ [key]) := own_snoc hown3
          have hb3 : Below w.heap.size w w3 := bel_grown (bel_alloc (bel_drewN hbel _) _) hg3 (fun k hk => ((hownD 0).lt k hk).1)
          clear hown3 hg3 hownD
          go_wp2
          go_roundw
          case rel => exact ⟨_, _, _, _, _, _, la.drop 1, lb, o ++ [key], rfl, rfl, by omega, hm1, by omega, hx2, hsa.tail ha1 hn1, hsb, ho3, by simp; omega, HD2.out, hb3⟩
          case measure => simp [lenOf]; omega
end Go.Proofs.Ytndeehlndbdonaa
