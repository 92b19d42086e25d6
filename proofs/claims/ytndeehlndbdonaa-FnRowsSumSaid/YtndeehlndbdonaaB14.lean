/- Contracts: the iterator over the rows from one key to another; slices.Collect over it; RowsIn of the program. -/
import Derived.Test.YtndeehlndbdonaaB10
import Derived.RangeFuncBox
import Derived.RangeFuncNested
import Derived.RangeFuncBound
import Derived.RangeFuncCalls
import Derived.RangeFuncLeaves
import Derived.Shelf.Abstract
import Derived.Shelf.RegionOpen
import Derived.OwnWalkIn
import Derived.TacticsInMore
import Derived.LoopNIn
import Derived.LoopIn
namespace Go.Proofs.Ytndeehlndbdonaa
open Go.RowKit Go.Shelf
attribute [local go_sem] Oper.semAt_some

/-! ### the rows from one key to another -/
def leHi (hi : ByteArray) (r : Row) : Bool := !klt hi r.1
def within (l : List Row) (lo hi : ByteArray) : List Row := (l.drop (fnd l lo)).takeWhile (leHi hi)
def inP (lo hi : ByteArray) (r : Row) : Bool := !klt r.1 lo && !klt hi r.1
noncomputable def inRes (l : List Row) (lo hi : ByteArray) : List Row := if rowsOk l = true then l.filter (inP lo hi) else []
theorem AscP.tail {r : Row} {l : List Row} (h : AscP (r :: l)) : AscP l := fun i a b ha hb => h (i + 1) a b (by simpa using ha) (by simpa using hb)
theorem AscP.head_lt {r : Row} {l : List Row} (h : AscP (r :: l)) {x : Row} (hx : x ∈ l) : klt r.1 x.1 = true := by
  obtain ⟨i, hi⟩ := List.mem_iff_getElem?.1 hx
  exact h.lt (i := 0) (j := i + 1) (by omega) rfl (by simpa using hi)
theorem takeWhile_eq {l : List Row} (h : AscP l) (hi : ByteArray) : l.takeWhile (leHi hi) = l.filter (leHi hi) := by
  induction l with
  | nil => rfl
  | cons r l ih =>
    by_cases hr : leHi hi r = true
    · rw [List.takeWhile_cons_of_pos hr, List.filter_cons_of_pos hr, ih h.tail]
    · rw [List.takeWhile_cons_of_neg hr, List.filter_cons_of_neg hr]
      symm
      rw [List.filter_eq_nil_iff]
      intro x hx
      have h1 := h.head_lt hx
      have h2 : klt hi r.1 = true := by simpa [leHi] using hr
      simp [leHi, klt_trans h2 h1]
theorem within_eq {l : List Row} (h : AscP l) (lo hi : ByteArray) : within l lo hi = l.filter (inP lo hi) := by
  induction l with
  | nil => rfl
  | cons r l ih =>
    by_cases hr : klt r.1 lo = true
    · have h1 : within (r :: l) lo hi = within l lo hi := by unfold within; rw [fnd_pos hr]; rfl
      rw [h1, ih h.tail, List.filter_cons_of_neg (by simp [inP, hr])]
    · have h1 : within (r :: l) lo hi = (r :: l).takeWhile (leHi hi) := by unfold within; rw [fnd_neg hr]; rfl
      rw [h1, takeWhile_eq h]
      apply List.filter_congr
      intro x hx
      have hlo : klt x.1 lo = false := by
        rcases List.mem_cons.1 hx with rfl | hx
        · simpa using hr
        · cases hk : klt x.1 lo
          · rfl
          · exact absurd (klt_trans (h.head_lt hx) hk) hr
      simp [inP, leHi, hlo]
theorem inRes_ok {l : List Row} (h : rowsOk l = true) (lo hi : ByteArray) : inRes l lo hi = within l lo hi := by
  rw [within_eq (rowsOk_iff.1 h).2.2]; simp [inRes, h]
theorem inRes_bad {l : List Row} (h : rowsOk l = false) (lo hi : ByteArray) : inRes l lo hi = [] := by simp [inRes, h]

/-! ### the iterator -/
def encIt (r : Row) : Array Value := #[.agg #[.string r.1, .int .i64 r.2]]
theorem grownBy_of_below {w w' : World} (h : Below w.heap.size w w') : w.grownBy w' none := ⟨h.os, h.tape, h.output, h.size, fun k hk _ => h.block k hk⟩
theorem AbidesFrom.below {β : Type} {B : Nat} {J : β → World → Prop} (h : AbidesFrom B J) {s : β} {w w' : World} (hs : J s w) (hb : Below w.heap.size w w') : J s w' :=
  h s w w' none hs (grownBy_of_below hb) (fun r e => by cases e)
/-- what the closure has captured -/
def Capt (w : World) (g1 g2 g3 : Nat) (A : Option Addr) (n c : Nat) (lo hi : ByteArray) : Prop :=
  w.cell? ⟨g1, 0, none⟩ = some (.slice A n c) ∧ w.cell? ⟨g2, 0, none⟩ = some (.string lo) ∧ w.cell? ⟨g3, 0, none⟩ = some (.string hi)
set_option maxRecDepth 100000 in
set_option maxHeartbeats 2000000 in
theorem within_in (m : Nat) (hm : 1 ≤ m) (l0 g1 g2 g3 n₀ : Nat) (A : Option Addr) (n c : Nat) (l : List Row) (lo hi : ByteArray) (J Jx : List Row → World → Prop)
    (W : World) (hW : n₀ ≤ W.heap.size) (hJa : AbidesFrom W.heap.size J)
    (hY : ∀ pre x W1, J pre W1 → pre.length < (within l lo hi).length → YieldAt Fence.wide (m - 1) Try.prog l0 (encIt x) W1 fun e W' =>
      (e = .returned (.bool true) ∧ J (pre ++ [x]) W' ∧ Below n₀ W1 W') ∨ (e = .returned (.bool false) ∧ Jx (pre ++ [x]) W'))
    (hg1 : g1 < n₀) (_hg2 : g2 < n₀) (hg3 : g3 < n₀) (hc : Capt W g1 g2 g3 A n c lo hi) (hr : Sl encRow W n₀ A n l) (ha : AscP l) (hn : n ≤ 1048576) (hA : Fine A n c) (h0 : J [] W) :
    CallsIn Fence.wide m Try.prog 84 #[.func (.yield l0) #[] #[], .pointer (some ⟨g1, 0, none⟩), .pointer (some ⟨g2, 0, none⟩), .pointer (some ⟨g3, 0, none⟩)] W fun e W' => (∃ v, e = .returned v) ∧
      ((∃ ys, ys = within l lo hi ∧ J ys W') ∨ (∃ pre, pre <+: within l lo hi ∧ Jx pre W')) := by
  obtain ⟨c1, c2, c3⟩ := hc
  have HL := Lib.hid hr.len
  refine callsIn_of_wp Try.func84 rfl trivial ?_ rfl
  simp only [Try.ntmps84, List.size_toArray, List.length_cons, List.length_nil, Nat.reduceAdd, Nat.reduceSub, Array.replicate_succ, Array.replicate_zero, List.push_toArray, List.append_toArray, List.nil_append, List.cons_append]
  gi_wp2_with fail
  refine ⟨trivial, (callsIn_wide.2 (place A n c l lo _ (hr.more hW) ha hn)).mono ?_⟩
  rintro e W1 ⟨rfl, hb1⟩
  have hk := fnd_le l lo
  have hc1 : fnd l lo ≤ n := by rw [← HL.out]; exact hk
  have hc2 : n ≤ c := hA.1
  have hb1' : Below n₀ W W1 := hb1.mono hW
  have hJ1 : J [] W1 := AbidesFrom.below hJa h0 hb1
  have d1 : W1.cell? ⟨g1, 0, none⟩ = some (.slice A n c) := (hb1'.cell (p := ⟨g1, 0, none⟩) hg1).trans c1
  have hwi : within l lo hi = [] ++ (l.drop (fnd l lo)).takeWhile (leHi hi) := rfl
  generalize hK : fnd l lo = k at *
  have HR := Lib.hid hr
  clear hr
  rcases hA.2 with ⟨b, off, rfl⟩ | ⟨rfl, rfl, rfl⟩
  · have hch : c = k ∨ c ≠ k := by omega
    rcases hch with hck | hck
    all_goals
      gi_wp2_with fail
      gi_loopw [8, 19] (fun v8 i wr => ∃ (j : Nat) (pre : List Row), j ≤ n - k ∧ i = .int .i64 j ∧ within l lo hi = pre ++ (l.drop (k + j)).takeWhile (leHi hi) ∧ J pre wr ∧ Below n₀ W wr)
        (fun v8 i wr => n - k - (intOf i).toNat)
      case atStart => exact ⟨0, [], Nat.zero_le _, rfl, by rw [hwi]; rfl, hJ1, hb1'⟩
      case round => 
        obtain ⟨j, pre, hj, rfl, hpre, hJr, hbr⟩ := hrel
        by_cases hlt : j < n - k
        · try (exfalso; omega)
          all_goals obtain ⟨x, hx, hcell⟩ := Sl.at_ (sz := 2) (enc := encRow) (fun _ => rfl) (n := n) (HR.out.keep hbr) (k := k + j) (by omega)
          all_goals have e0 : wr.cell? ⟨b, off + k * 2 + j * 2, none⟩ = some (.string x.1) := by have := hcell 0 _ rfl; rw [show off + k * 2 + j * 2 = off + ((k + j) * 2 + 0) by omega]; exact this
          all_goals have e1 : wr.cell? ⟨b, off + k * 2 + j * 2 + 1, none⟩ = some (.int .i64 x.2) := by have := hcell 1 _ rfl; rw [show off + k * 2 + j * 2 + 1 = off + ((k + j) * 2 + 1) by omega]; exact this
          all_goals have hl3 : wr.cell? ⟨g3, 0, none⟩ = some (.string hi) := (hbr.cell (p := ⟨g3, 0, none⟩) hg3).trans c3
          all_goals clear hcell
          all_goals have hlt' : (j : Int) < (n - k : Nat) := by omega
          all_goals
            have hba : Below wr.heap.size wr (wr.alloc (.cells #[.string x.1, .int .i64 x.2] 46)) := (Below.refl _ _).alloc (Nat.le_refl _) _
            have hl4 : (wr.alloc (.cells #[.string x.1, .int .i64 x.2] 46)).cell? ⟨g3, 0, none⟩ = some (.string hi) := (hba.cell (p := ⟨g3, 0, none⟩) (Nat.lt_of_lt_of_le hg3 (Nat.le_trans hW hbr.size))).trans hl3
            have hJ2 : J pre (wr.alloc (.cells #[.string x.1, .int .i64 x.2] 46)) := hJa _ _ _ none hJr (grownBy_of_below hba) (fun r e => by cases e)
            have hdx : l.drop (k + j) = x :: l.drop (k + (j + 1)) := by
              obtain ⟨h1, h2⟩ := List.getElem?_eq_some_iff.1 hx
              rw [List.drop_eq_getElem_cons h1, h2]; rfl
            by_cases hcmp : klt hi x.1 = true
            · have hg1' : Op.bytesLess x.1.toList hi.toList = false := klt_asymm hcmp
              have hg2' : (x.1.toList == hi.toList) = false := by
                cases hq : (x.1.toList == hi.toList) with
                | false => rfl
                | true => rw [klt, eq_of_beq hq] at hcmp; rw [show Op.bytesLess hi.toList hi.toList = false from klt_irrefl hi] at hcmp; cases hcmp
              gi_wp2_with fail
              refine ⟨fun _ h => (by cases h), ?_⟩
              gi_wp2_with fail
              refine bodyPost_ret (results_none rfl _ _ _) rfl ?_
              exact ⟨⟨_, rfl⟩, .inl ⟨pre, by rw [hpre, hdx, List.takeWhile_cons_of_neg (by simp [leHi, hcmp])]; simp, hJ2⟩⟩
            · have hpx : within l lo hi = pre ++ x :: (l.drop (k + (j + 1))).takeWhile (leHi hi) := by rw [hpre, hdx, List.takeWhile_cons_of_pos (by simp [leHi, hcmp])]
              obtain ⟨fn, tmps, assign, body, hy, hR⟩ := hY pre x _ hJ2 (by rw [hpx]; simp)
              dsimp only [encIt] at hy
              have hs : Op.bytesLess x.1.toList hi.toList = true ∨ (Op.bytesLess x.1.toList hi.toList = false ∧ (x.1.toList == hi.toList) = true) := by
                cases hq : klt x.1 hi with
                | true => exact .inl hq
                | false => exact .inr ⟨hq, by rw [klt_total hq (by simpa using hcmp)]; simp⟩
              rcases hs with hg1' | ⟨hg1', hg2'⟩
              all_goals
                gi_wp2_with fail
                refine hR.mono ?_
                rintro e W3 (⟨rfl, hJ3, hk3⟩ | ⟨rfl, hJx3⟩)
                · gi_wp2_with fail
                  go_roundw
                  case rel => exact ⟨j + 1, pre ++ [x], by omega, by simp, by rw [hpx]; simp, hJ3, (hbr.trans (hba.mono (Nat.le_trans hW hbr.size))).trans hk3⟩
                  case measure => simp [intOf]; omega
                · gi_wp2_with fail
                  refine bodyPost_ret (results_none rfl _ _ _) rfl ?_
                  exact ⟨⟨_, rfl⟩, .inr ⟨_, ⟨(l.drop (k + (j + 1))).takeWhile (leHi hi), by rw [hpx]; simp⟩, hJx3⟩⟩
        · obtain rfl : j = n - k := by omega
          have hfin : pre = (l.drop k).takeWhile (leHi hi) := by
            have h := hwi.symm.trans hpre
            have h0 : l.drop (k + (n - k)) = [] := List.drop_eq_nil_of_le (by rw [HL.out]; omega)
            rw [h0] at h
            simpa using h.symm
          have hlt' : ¬ (((n - k : Nat) : Int) < (n - k : Nat)) := by omega
          gi_wp2_with fail
          go_end0
          rw [hfin] at hJr
          exact ⟨⟨_, rfl⟩, .inl hJr⟩
  · have hl0 : l = [] := List.eq_nil_of_length_eq_zero HL.out
    have hk0 : k = 0 := by omega
    subst hl0 hk0
    gi_wp2_with fail
    gi_loopw [8, 19] (fun v8 i wr => i = .int .i64 0 ∧ J [] wr) (fun v8 i wr => 0)
    case atStart => exact ⟨rfl, hJ1⟩
    case round =>
      obtain ⟨rfl, hJr⟩ := hrel
      gi_wp2_with fail
      go_end0
      exact ⟨⟨_, rfl⟩, .inl ⟨[], by rw [hwi]; rfl, hJr⟩⟩
end Go.Proofs.Ytndeehlndbdonaa
