/- Contracts: comparing, the binary search, the place of a key, RowsGet. -/
import Derived.Test.YtpofgidhhcolfaaB3
import Derived.Test.YtpofgidhhcolfaaP1
namespace Go.Proofs.Ytpofgidhhcolfaa
open Go.RowKit

theorem cell_new (w : World) (v : Value) (t : TypeId) : (w.alloc (.cells #[v] t)).cell? ⟨w.heap.size, 0, none⟩ = some v := by
  rw [cell_of_row _ w.heap.size 0 #[v] t (0, 0) (heap_alloc_new w _)]; rfl
theorem ret_ib {i j : Int} {x y : Bool} (hi : i = j) (hx : x = y) : Ending.returned (.tuple #[.int .i64 i, .bool x]) = .returned (.tuple #[.int .i64 j, .bool y]) := by rw [hi, hx]
set_option maxRecDepth 100000 in
set_option maxHeartbeats 400000 in
theorem compareString (a b : ByteArray) (w : World) :
    Calls Try.prog 155 #[.string a, .string b] w fun e w' => e = .returned (.int .i64 (kcmp a b)) ∧ w = w' := by
  go_enter Try.func155, Try.ntmps155
  go_wp2
  rw [run_callFunc_extern Try.func159 (by kernel_rfl) (by kernel_rfl) (by kernel_rfl) (e := Extern.BytealgCompare.compare) (by kernel_rfl), Lib.run_compareString]
  simp only [Result.andThen]
  rw [Oper.upon_value]
  go_wp2
  go_ret
  exact ⟨rfl, rfl⟩
set_option maxRecDepth 100000 in
set_option maxHeartbeats 400000 in
theorem compare (a b : ByteArray) (w : World) :
    Calls Try.prog 145 #[.string a, .string b] w fun e w' => e = .returned (.int .i64 (kcmp a b)) ∧ w = w' := by
  go_enter Try.func145, Try.ntmps145
  go_wp2_with (go_at_call 155; refine (compareString _ _ _).mono ?_; rintro e w' ⟨rfl, rfl⟩)
  go_ret
  exact ⟨rfl, rfl⟩
set_option maxRecDepth 100000 in
set_option maxHeartbeats 400000 in
theorem placeCmp (key : ByteArray) (num : Int) (k : ByteArray) (g : Nat) (w : World) (hg : w.cell? ⟨g, 0, none⟩ = some (.func (.func 111) #[] #[])) :
    Calls Try.prog 144 #[.agg #[.string key, .int .i64 num], .string k, .pointer (some ⟨g, 0, none⟩)] w fun e w' => e = .returned (.int .i64 (kcmp key k)) ∧ Below w.heap.size w w' := by
  have hg' : ∀ o, (w.alloc o).cell? ⟨g, 0, none⟩ = some (.func (.func 111) #[] #[]) := fun o => (World.cell?_alloc_lt w o _ (World.block_lt_of_cell? w _ hg)).trans hg
  go_enter Try.func144, Try.ntmps144
  go_wp2_with (first
    | (go_at_call 111; refine (rowKey _ _ _).mono ?_; rintro e w' ⟨rfl, rfl⟩)
    | (go_at_call 145; refine (compare _ _ _).mono ?_; rintro e w' ⟨rfl, rfl⟩))
  go_ret
  exact ⟨rfl, bel_alloc (bel_alloc (Below.refl _ _) _) _⟩

def LoP (l : List Row) (key : ByteArray) (i : Nat) : Prop := ∀ (q : Nat) (r : Row), q < i → l[q]? = some r → klt r.1 key = true
def HiP (l : List Row) (key : ByteArray) (j : Nat) : Prop := ∀ (q : Nat) (r : Row), j ≤ q → l[q]? = some r → klt r.1 key = false
theorem LoP.up {l : List Row} (ha : AscP l) {key : ByteArray} {h : Nat} {x : ByteArray} {num : Int} (hx : l[h]? = some (x, num)) (hlt : klt x key = true) : LoP l key (h + 1) := by
  intro q r hq hr
  by_cases e : q = h
  · subst e; rw [hx] at hr; cases hr; exact hlt
  · exact klt_trans (ha.lt (i := q) (j := h) (by omega) hr hx) hlt
theorem HiP.down {l : List Row} (ha : AscP l) {key : ByteArray} {h : Nat} {x : ByteArray} {num : Int} (hx : l[h]? = some (x, num)) (hlt : klt x key = false) : HiP l key h := by
  intro q r hq hr
  by_cases e : q = h
  · subst e; rw [hx] at hr; cases hr; exact hlt
  · cases hk : klt r.1 key
    · rfl
    · have := klt_trans (ha.lt (i := h) (j := q) (by omega) hx hr) hk
      rw [hlt] at this; cases this
theorem fnd_of {l : List Row} {key : ByteArray} {i : Nat} (hi : i ≤ l.length) (h1 : LoP l key i) (h2 : HiP l key i) : fnd l key = i :=
  fnd_unique hi (fun q r hq hr => h1 q r hq hr) (fun r hr => h2 i r (Nat.le_refl _) hr)

theorem kcmp_lt {a b : ByteArray} (h : klt a b = true) : kcmp a b < 0 := by rw [kcmp_neg h]; omega
theorem kcmp_ge {a b : ByteArray} (h : klt a b = false) : 0 ≤ kcmp a b := by rw [kcmp_eq, h]; simp only [Bool.false_eq_true, if_false]; split <;> omega
set_option maxHeartbeats 1000000 in
set_option maxRecDepth 1000000 in
theorem binSearch (A : Option Addr) (n c : Nat) (l : List Row) (key : ByteArray) (g : Nat) (w : World) (hr : Sl encRow w w.heap.size A n l) (ha : AscP l) (hn : n ≤ 1048576)
    (hg : w.cell? ⟨g, 0, none⟩ = some (.func (.func 111) #[] #[])) :
    Calls Try.prog 143 #[.slice A n c, .string key, .func (.func 144) #[] #[.pointer (some ⟨g, 0, none⟩)]] w fun e w' => e = .returned (.tuple #[.int .i64 (fnd l key), .bool (hit l key)]) ∧ Below w.heap.size w w' := by
  have HL := Lib.hid hr.len
  have HG := Lib.hid hg
  have hgb := World.block_lt_of_cell? w _ hg
  clear hg
  go_enter Try.func143, Try.ntmps143
  go_wp2
  go_loopw [9, 10] (fun i j wr => ∃ (p q : Nat), p ≤ q ∧ q ≤ n ∧ i = .int .i64 p ∧ j = .int .i64 q ∧ LoP l key p ∧ HiP l key q ∧ Below w.heap.size w wr) (fun i j _ => (intOf j).toNat - (intOf i).toNat)
  case atStart => exact ⟨0, n, by omega, by omega, rfl, rfl, fun _ _ h => absurd h (by omega), fun q r hq hqr => absurd (List.getElem?_eq_some_iff.1 hqr).1 (by rw [HL.out]; omega), Below.refl _ _⟩
  case round =>
    obtain ⟨p, q, hpq, hqn, rfl, rfl, hlo, hhi, hbel⟩ := hrel
    have hgr := (hbel.cell (p := ⟨g, 0, none⟩) hgb).trans HG.out
    by_cases hlt : p < q
    · obtain ⟨b, off, rfl, hb⟩ := hr.spot (by omega)
      obtain ⟨x, num, hrow, hk1, hk2⟩ := rowAt (k := (p + q) / 2) (hr.keep hbel) (by omega)
      have HR := Lib.hid hrow
      clear hrow
      cases hx : klt x key
      · have hc := kcmp_ge hx
        have HX := Lib.hid hx
        clear hx
        go_wp2_with (go_at_call 144; refine (placeCmp _ _ _ _ _ hgr).mono ?_; rintro e w' ⟨rfl, hb1⟩)
        go_roundw
        case rel => exact ⟨p, (p + q) / 2, by omega, by omega, rfl, by rw [show ((p : Int) + (q : Int)) / 2 = (((p + q) / 2 : Nat) : Int) by omega], hlo, HiP.down ha HR.out HX.out, bel_trans hbel hb1⟩
        case measure => simp [intOf]; omega
      · have hc := kcmp_lt hx
        have HX := Lib.hid hx
        clear hx
        go_wp2_with (go_at_call 144; refine (placeCmp _ _ _ _ _ hgr).mono ?_; rintro e w' ⟨rfl, hb1⟩)
        go_roundw
        case rel => exact ⟨(p + q) / 2 + 1, q, by omega, by omega, by rw [show ((p : Int) + (q : Int)) / 2 + 1 = (((p + q) / 2 + 1 : Nat) : Int) by omega], rfl, LoP.up ha HR.out HX.out, hhi, bel_trans hbel hb1⟩
        case measure => simp [intOf]; omega
    · obtain rfl : q = p := by omega
      have hf := fnd_of (by rw [HL.out]; omega) hlo hhi
      have HF := Lib.hid hf
      clear hf
      by_cases hn2 : q < n
      · obtain ⟨b, off, rfl, hb⟩ := hr.spot (by omega)
        obtain ⟨x, num, hrow, hk1, hk2⟩ := rowAt (k := q) (hr.keep hbel) (by omega)
        have HH := Lib.hid (show hit l key = keq x key by rw [hit_some (by rw [HF.out]; exact hrow)])
        have HZ := Lib.hid (kcmp_zero x key)
        clear hrow
        go_wp2_with (go_at_call 144; refine (placeCmp _ _ _ _ _ hgr).mono ?_; rintro e w' ⟨rfl, hb1⟩)
        go_ret2
        exact ⟨ret_ib (by rw [HF.out]) (by rw [HH.out]; exact HZ.out), bel_trans hbel hb1⟩
      · have HH := Lib.hid (show hit l key = false from hit_none (by rw [HF.out, HL.out]; omega))
        go_wp2
        go_ret2
        exact ⟨ret_ib (by rw [HF.out]) (by rw [HH.out]), hbel⟩

set_option maxRecDepth 100000 in
set_option maxHeartbeats 400000 in
theorem place (A : Option Addr) (n c : Nat) (l : List Row) (key : ByteArray) (w : World) (hr : Sl encRow w w.heap.size A n l) (ha : AscP l) (hn : n ≤ 1048576) :
    Calls Try.prog 110 #[.slice A n c, .string key, .func (.func 111) #[] #[]] w fun e w' => e = .returned (.tuple #[.int .i64 (fnd l key), .bool (hit l key)]) ∧ Below w.heap.size w w' := by
  have HN := Lib.hid hn
  clear hn
  go_enter Try.func110, Try.ntmps110
  go_wp2_with fail
  refine (binSearch A n c l key _ _ (hr.on (bel_alloc (Below.refl _ _) _)) ha HN.out (cell_new _ _ _)).mono ?_
  rintro e w1 ⟨rfl, hb1⟩
  go_wp2
  go_ret2
  exact ⟨rfl, bel_trans (bel_alloc (Below.refl _ _) _) hb1⟩

/-! ### RowsGet -/
noncomputable def getNum (l : List Row) (key : ByteArray) : Int :=
  match l[fnd l key]? with
  | some r => if hit l key = true ∧ rowsOk l = true then r.2 else 0
  | none => 0
noncomputable def getHas (l : List Row) (key : ByteArray) : Bool := hit l key && rowsOk l
theorem get_bad {l : List Row} {key : ByteArray} (h : rowsOk l = false) : getNum l key = 0 ∧ getHas l key = false := by
  constructor
  · unfold getNum; split <;> simp [h]
  · simp [getHas, h]
theorem get_miss {l : List Row} {key : ByteArray} (h : hit l key = false) : getNum l key = 0 ∧ getHas l key = false := by
  constructor
  · unfold getNum; split <;> simp [h]
  · simp [getHas, h]
theorem get_hit {l : List Row} {key : ByteArray} {num : Int} (h : hit l key = true) (ho : rowsOk l = true) (hr : l[fnd l key]? = some (key, num)) : getNum l key = num ∧ getHas l key = true := by
  constructor
  · unfold getNum; rw [hr]; simp [h, ho]
  · simp [getHas, h, ho]

set_option maxHeartbeats 1000000 in
theorem implRowsGet (A : Option Addr) (n c : Nat) (l : List Row) (key : ByteArray) (w : World) (hr : Sl encRow w w.heap.size A n l) (hk : KeysWf l) (hn : n ≤ 1048576) :
    Calls Try.prog 61 #[.slice A n c, .string key] w fun e w' => e = .returned (.tuple #[.int .i64 (getNum l key), .bool (getHas l key)]) ∧ Below w.heap.size w w' := by
  have HL := Lib.hid hr.len
  have HC := Lib.hid (implRowsOk A n c l w hr hk hn)
  have HN := Lib.hid hn
  clear hn
  cases hok : rowsOk l
  · have HG := Lib.hid (get_bad (key := key) hok)
    have HO := Lib.hid hok
    clear hok
    go_enter Try.func61, Try.ntmps61
    go_wp2_with (go_at_call 66; refine HC.out.mono ?_; rintro e w1 ⟨rfl, hb1⟩; rw [HO.out])
    go_ret2
    exact ⟨ret_ib HG.out.1.symm HG.out.2.symm, hb1⟩
  · have hP := rowsOk_iff.1 hok
    have HP := Lib.hid hP
    have HO := Lib.hid hok
    clear hP hok
    cases hh : hit l key
    · have HG := Lib.hid (get_miss hh)
      have HH := Lib.hid hh
      clear hh
      go_enter Try.func61, Try.ntmps61
      go_wp2_with (first
        | (go_at_call 66; refine HC.out.mono ?_; rintro e w1 ⟨rfl, hb1⟩; rw [HO.out])
        | (go_at_call 110; refine (place A n c l key _ (hr.on hb1) HP.out.2.2 HN.out).mono ?_; rintro e w2 ⟨rfl, hb2⟩; rw [HH.out]))
      go_ret2
      exact ⟨ret_ib HG.out.1.symm HG.out.2.symm, bel_trans hb1 hb2⟩
    · obtain ⟨num, hrow⟩ := hit_key hh
      have HG := Lib.hid (get_hit hh HO.out hrow)
      have hlt := hit_lt hh
      rw [HL.out] at hlt
      have HR := Lib.hid hrow
      have HH := Lib.hid hh
      clear hh hrow
      obtain ⟨b, off, rfl, hb⟩ := hr.spot (by omega)
      generalize hf : fnd l key = f at *
      have HF := Lib.hid hf
      clear hf
      have f0 : (0 : Int) ≤ (f : Int) := by omega
      have f1 : (f : Int) < (n : Int) := by omega
      go_enter Try.func61, Try.ntmps61
      go_wp2_with (first
        | (go_at_call 66; refine HC.out.mono ?_; rintro e w1 ⟨rfl, hb1⟩; rw [HO.out])
        | (go_at_call 110; refine (place _ n c l key _ (hr.on hb1) HP.out.2.2 HN.out).mono ?_; rintro e w2 ⟨rfl, hb2⟩; rw [HH.out, HF.out]; obtain ⟨key', num', hrow', hk1, hk2⟩ := rowAt (hr.keep (bel_trans hb1 hb2)) hlt; (obtain ⟨rfl, rfl⟩ : key' = key ∧ num' = num := by (rw [HR.out] at hrow'; cases hrow'; exact ⟨rfl, rfl⟩)); clear hrow'))
      go_ret2
      exact ⟨ret_ib HG.out.1.symm HG.out.2.symm, bel_trans hb1 hb2⟩
end Go.Proofs.Ytpofgidhhcolfaa
