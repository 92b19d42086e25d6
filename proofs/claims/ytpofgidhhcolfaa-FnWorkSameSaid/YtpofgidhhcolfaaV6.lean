/- Contracts: the iterator over the versions that are visible at a time. -/
import Derived.Test.YtpofgidhhcolfaaV3
import Derived.Test.YtpofgidhhcolfaaV2
import Derived.RangeFuncBox
import Derived.RangeFuncNested
import Derived.RangeFuncBound
import Derived.RangeFuncCalls
import Derived.RangeFuncLeaves
import Derived.Shelf.Abstract
import Derived.Shelf.RegionOpen
import Derived.OwnWalkIn
import Derived.TacticsInMore
import Derived.LoopNIn
import Derived.LoopIn
namespace Go.Proofs.Ytpofgidhhcolfaa
open Go.RowKit Go.Shelf
attribute [local go_sem] Oper.semAt_some

def encItV (x : Ver) : Array Value := #[.agg #[.string x.1, .int .i64 x.2.1, .int .i64 x.2.2.1, .int .i64 x.2.2.2]]
theorem grownBy_of_below {w w' : World} (h : Below w.heap.size w w') : w.grownBy w' none := ⟨h.os, h.tape, h.output, h.size, fun k hk _ => h.block k hk⟩
theorem AbidesFrom.below {β : Type} {B : Nat} {J : β → World → Prop} (h : AbidesFrom B J) {s : β} {w w' : World} (hs : J s w) (hb : Below w.heap.size w w') : J s w' :=
  h s w w' none hs (grownBy_of_below hb) (fun r e => by cases e)
theorem cell_new4Ver (w : World) (x : Ver) (t : TypeId) : (w.alloc (.cells #[.string x.1, .int .i64 x.2.1, .int .i64 x.2.2.1, .int .i64 x.2.2.2] t)).cell? ⟨w.heap.size, 0, none⟩ = some (.string x.1) ∧
    (w.alloc (.cells #[.string x.1, .int .i64 x.2.1, .int .i64 x.2.2.1, .int .i64 x.2.2.2] t)).cell? ⟨w.heap.size, 1, none⟩ = some (.int .i64 x.2.1) ∧
    (w.alloc (.cells #[.string x.1, .int .i64 x.2.1, .int .i64 x.2.2.1, .int .i64 x.2.2.2] t)).cell? ⟨w.heap.size, 2, none⟩ = some (.int .i64 x.2.2.1) ∧
    (w.alloc (.cells #[.string x.1, .int .i64 x.2.1, .int .i64 x.2.2.1, .int .i64 x.2.2.2] t)).cell? ⟨w.heap.size, 3, none⟩ = some (.int .i64 x.2.2.2) := by
  have hh := World.alloc_heap_new w (.cells #[.string x.1, .int .i64 x.2.1, .int .i64 x.2.2.1, .int .i64 x.2.2.2] t)
  exact ⟨by simp only [World.cell?, hh]; rfl, by simp only [World.cell?, hh]; rfl, by simp only [World.cell?, hh]; rfl, by simp only [World.cell?, hh]; rfl⟩
/-- what the closure has captured -/
def CaptV (w : World) (g1 g2 : Nat) (A : Option Addr) (n c : Nat) (t : Int) : Prop :=
  w.cell? ⟨g1, 1, none⟩ = some (.slice A n c) ∧ w.cell? ⟨g2, 0, none⟩ = some (.int .i64 t)
/-- what a round that goes on keeps: what lies below n₀, and the two captured blocks -/
def KpV (n₀ g1 g2 : Nat) (X Y : World) : Prop := Below n₀ X Y ∧ Y.heap[g1]? = X.heap[g1]? ∧ Y.heap[g2]? = X.heap[g2]?
theorem KpV.trans {n₀ g1 g2 : Nat} {X Y Z : World} (h : KpV n₀ g1 g2 X Y) (k : KpV n₀ g1 g2 Y Z) : KpV n₀ g1 g2 X Z := ⟨h.1.trans k.1, k.2.1.trans h.2.1, k.2.2.trans h.2.2⟩
theorem KpV.refl (n₀ g1 g2 : Nat) (X : World) : KpV n₀ g1 g2 X X := ⟨Below.refl _ _, rfl, rfl⟩
theorem KpV.of {n₀ g1 g2 : Nat} {X Y : World} (h : Below X.heap.size X Y) (hn : n₀ ≤ X.heap.size) (h1 : g1 < X.heap.size) (h2 : g2 < X.heap.size) : KpV n₀ g1 g2 X Y := ⟨h.mono hn, h.block _ h1, h.block _ h2⟩
theorem KpV.put {n₀ g1 g2 B l : Nat} {W : World} (o' : Obj) (hn : n₀ ≤ B) (h1 : g1 < B) (h2 : g2 < B) (hB : B ≤ l) {o : Obj} (ho : W.heap[l]? = some o) : KpV n₀ g1 g2 W (W.putObj l o') :=
  ⟨(Below.refl n₀ W).grown (grownBy_putObj' W l o') (by have := (Array.getElem?_eq_some_iff.1 ho).1; omega) (fun k e => by cases e; omega), World.putObj_heap_other (by omega), World.putObj_heap_other (by omega)⟩
theorem cell_heap {X Y : World} {b : Nat} (h : Y.heap[b]? = X.heap[b]?) (k : Nat) : Y.cell? ⟨b, k, none⟩ = X.cell? ⟨b, k, none⟩ := by simp only [World.cell?, h]
theorem CaptV.keep {w w' : World} {n₀ g1 g2 n c : Nat} {A : Option Addr} {t : Int} (h : CaptV w g1 g2 A n c t) (hb : KpV n₀ g1 g2 w w') : CaptV w' g1 g2 A n c t :=
  ⟨(cell_heap hb.2.1 1).trans h.1, (cell_heap hb.2.2 0).trans h.2⟩
def visL (l : List Ver) (t : Int) : List Ver := l.filter (vis t)
theorem visL_len (l : List Ver) (t : Int) : (visL l t).length ≤ l.length := List.length_filter_le _ _
theorem drop_one {l : List Ver} {j : Nat} {x : Ver} (h : l[j]? = some x) : l.drop j = x :: l.drop (j + 1) := by
  obtain ⟨h1, h2⟩ := List.getElem?_eq_some_iff.1 h
  rw [List.drop_eq_getElem_cons h1, h2]
set_option maxRecDepth 100000 in
set_option maxHeartbeats 2000000 in
theorem snap_in (m : Nat) (hm : 1 ≤ m) (l0 g1 g2 n₀ : Nat) (A : Option Addr) (n c : Nat) (l : List Ver) (t : Int) (J Jx : List Ver → World → Prop)
    (W : World) (hW : n₀ ≤ W.heap.size) (hJa : AbidesFrom W.heap.size J)
    (hY : ∀ pre x W1, J pre W1 → pre.length < (visL l t).length → YieldAt Fence.wide (m - 1) Try.prog l0 (encItV x) W1 fun e W' =>
      (e = .returned (.bool true) ∧ J (pre ++ [x]) W' ∧ KpV n₀ g1 g2 W1 W') ∨ (e = .returned (.bool false) ∧ Jx (pre ++ [x]) W'))
    (hg1 : g1 < W.heap.size) (hg2 : g2 < W.heap.size) (hc : CaptV W g1 g2 A n c t) (hr : Sl encVer W n₀ A n l) (hn : n ≤ 1048576) (h0 : J [] W) :
    CallsIn Fence.wide m Try.prog 133 #[.func (.yield l0) #[] #[], .pointer (some ⟨g1, 0, none⟩), .pointer (some ⟨g2, 0, none⟩)] W fun e W' => (∃ v, e = .returned v) ∧
      ((∃ ys, ys = visL l t ∧ J ys W') ∨ (∃ pre, pre <+: visL l t ∧ Jx pre W')) := by
  have hc1 := hc.1
  have HL := Lib.hid hr.len
  have hwi : visL l t = [] ++ (l.drop 0).filter (vis t) := rfl
  have HN := Lib.hid hn
  refine callsIn_of_wp Try.func133 rfl trivial ?_ rfl
  simp only [Try.ntmps133, List.size_toArray, List.length_cons, List.length_nil, Nat.reduceAdd, Nat.reduceSub, Array.replicate_succ, Array.replicate_zero, List.push_toArray, List.append_toArray, List.nil_append, List.cons_append]
  gi_wp2_with fail
  have HR := Lib.hid hr
  clear hr
  gi_loopw [9] (fun i wr => ∃ (j : Nat) (pre : List Ver), j ≤ n ∧ i = .int .i64 j ∧ visL l t = pre ++ (l.drop j).filter (vis t) ∧ J pre wr ∧ KpV n₀ g1 g2 W wr)
    (fun i wr => n - (intOf i).toNat)
  case atStart => exact ⟨0, [], Nat.zero_le _, rfl, hwi, h0, KpV.refl _ _ _ _⟩
  case round =>
    obtain ⟨j, pre, hj, rfl, hpre, hJr, hbr⟩ := hrel
    have HP := Lib.hid hpre
    clear hpre hwi
    have hz0 : n₀ ≤ wr.heap.size := Nat.le_trans hW hbr.1.size
    have hz1 : g1 < wr.heap.size := Nat.lt_of_lt_of_le hg1 hbr.1.size
    have hz2 : g2 < wr.heap.size := Nat.lt_of_lt_of_le hg2 hbr.1.size
    by_cases hlt : j < n
    · obtain ⟨b, off, rfl, hbb⟩ := HR.out.spot (by omega)
      obtain ⟨f0, f1, f2, f3, hx, e0, e1, e2, e3⟩ := atVer (HR.out.keep hbr.1) hlt
      have HX := Lib.hid hx
      clear hx
      have hba := bel_alloc (Below.refl _ wr) (.cells #[.string f0, .int .i64 f1, .int .i64 f2, .int .i64 f3] 77)
      obtain ⟨q0, q1, q2, q3⟩ := cell_new4Ver wr (f0, f1, f2, f3) 77
      simp only at q0 q1 q2 q3
      have hz : wr.heap.size < (wr.alloc (.cells #[.string f0, .int .i64 f1, .int .i64 f2, .int .i64 f3] 77)).heap.size := by simp
      have hl2 : (wr.alloc (.cells #[.string f0, .int .i64 f1, .int .i64 f2, .int .i64 f3] 77)).cell? ⟨g2, 0, none⟩ = some (.int .i64 t) := (hba.cell (p := ⟨g2, 0, none⟩) hz2).trans (hc.keep hbr).2
      have hlt' : (j : Int) < (n : Int) := by omega
      have j0 : (0 : Int) ≤ (j : Int) := by omega
      have hn' : (n : Int) ≤ 1048576 := by have := HN.out; omega
      gi_wp2_with fail
      refine ⟨trivial, (callsIn_wide.2 (implVis f0 f1 f2 f3 t _)).mono ?_⟩
      rintro e W2 ⟨rfl, hb2⟩
      have hb3 := bel_trans hba hb2
      have hb4 : KpV n₀ g1 g2 W W2 := hbr.trans (KpV.of hb3 hz0 hz1 hz2)
      have hJ2 : J pre W2 := AbidesFrom.below hJa hJr hb3
      have r0 := (hb2.cell (p := ⟨wr.heap.size, 0, none⟩) hz).trans q0
      have r1 := (hb2.cell (p := ⟨wr.heap.size, 1, none⟩) hz).trans q1
      have r2 := (hb2.cell (p := ⟨wr.heap.size, 2, none⟩) hz).trans q2
      have r3 := (hb2.cell (p := ⟨wr.heap.size, 3, none⟩) hz).trans q3
      have hdx := drop_one HX.out
      clear q0 q1 q2 q3 e0 e1 e2 e3 hl2
      have HDX := Lib.hid hdx
      clear hdx
      cases hv : vis t (f0, f1, f2, f3)
      · have HV := Lib.hid (show visL l t = pre ++ (l.drop (j + 1)).filter (vis t) by rw [HP.out, HDX.out, List.filter_cons_of_neg (by simp [hv])])
        clear hv
        gi_wp2_with fail
        refine ⟨fun _ h => (by cases h), ?_⟩
        gi_wp2_with fail
        go_roundw
        case rel => exact ⟨j + 1, pre, by omega, by simp, HV.out, hJ2, hb4⟩
        case measure => simp [intOf]; omega
      · have HV := Lib.hid (show visL l t = pre ++ (f0, f1, f2, f3) :: (l.drop (j + 1)).filter (vis t) by rw [HP.out, HDX.out, List.filter_cons_of_pos (by simp [hv])])
        clear hv
        obtain ⟨fn, tmps, assign, body, hy, hR⟩ := hY pre (f0, f1, f2, f3) W2 hJ2 (by rw [HV.out]; simp)
        dsimp only [encItV] at hy
        gi_wp2_with fail
        refine hR.mono ?_
        rintro e W3 (⟨rfl, hJ3, hk3⟩ | ⟨rfl, hJx3⟩)
        · gi_wp2_with fail
          go_roundw
          case rel => exact ⟨j + 1, pre ++ [(f0, f1, f2, f3)], by omega, by simp, by rw [HV.out]; simp, hJ3, hb4.trans hk3⟩
          case measure => simp [intOf]; omega
        · gi_wp2_with fail
          refine bodyPost_ret (results_none rfl _ _ _) rfl ?_
          exact ⟨⟨_, rfl⟩, .inr ⟨_, ⟨(l.drop (j + 1)).filter (vis t), by rw [HV.out]; simp⟩, hJx3⟩⟩
    · obtain rfl : j = n := by omega
      have hfin : pre = visL l t := by
        have h := HP.out
        rw [List.drop_of_length_le (by rw [HL.out]; omega)] at h
        simpa using h.symm
      have hlt' : ¬ ((j : Int) < (j : Int)) := by omega
      rw [hfin] at hJr
      clear hfin
      gi_wp2_with fail
      go_end0
      exact ⟨⟨_, rfl⟩, .inl hJr⟩
theorem snap_stops (m : Nat) (hm : 1 ≤ m) (g1 g2 n₀ : Nat) (A : Option Addr) (n c : Nat) (l : List Ver) (t : Int) (w : World) (hn₀ : n₀ ≤ w.heap.size)
    (h1 : g1 < w.heap.size) (h2 : g2 < w.heap.size) (hc : CaptV w g1 g2 A n c t) (hr : Sl encVer w n₀ A n l) (hn : n ≤ 1048576) :
    SeqStopsK Fence.wide m Try.prog 133 #[.pointer (some ⟨g1, 0, none⟩), .pointer (some ⟨g2, 0, none⟩)] encItV (KpV n₀ g1 g2) (fun ys => ys = visL l t) (fun pre => pre <+: visL l t) (visL l t).length w :=
  fun l0 J Jx W hW hJ _ hY h0 => by
    have hb := KpV.of (n₀ := n₀) hW hn₀ h1 h2
    exact snap_in m hm l0 g1 g2 n₀ A n c l t J Jx W (Nat.le_trans hn₀ hW.size) hJ hY (Nat.lt_of_lt_of_le h1 hW.size) (Nat.lt_of_lt_of_le h2 hW.size) (hc.keep hb) (hr.keep hb.1) hn h0
theorem cell_old1 (w : World) (o : Obj) (b k : Nat) (h : b < w.heap.size) : (w.alloc o).cell? ⟨b, k, none⟩ = w.cell? ⟨b, k, none⟩ := ((Below.refl w.heap.size w).alloc (Nat.le_refl _) o).cell (p := ⟨b, k, none⟩) h
theorem cell_newL (w : World) (v : Value) (t : TypeId) {b : Nat} (h : b = w.heap.size) : (w.alloc (.cells #[v] t)).cell? ⟨b, 0, none⟩ = some v := by
  subst h
  have hh := World.alloc_heap_new w (.cells #[v] t)
  simp only [World.cell?, hh]; rfl
theorem snapshot (now : Int) (A : Option Addr) (n c : Nat) (t : Int) (w : World) :
    Calls Try.prog 92 #[.agg #[.int .i64 now, .slice A n c], .int .i64 t] w fun e w' => e = .returned (.func (.func 133) #[] #[.pointer (some ⟨w.heap.size, 0, none⟩), .pointer (some ⟨w.heap.size + 1, 0, none⟩)]) ∧ w.heap.size + 1 < w'.heap.size ∧ CaptV w' w.heap.size (w.heap.size + 1) A n c t ∧ Below w.heap.size w w' := by
  have hb := bel_alloc (bel_alloc (Below.refl _ w) (.cells #[.int .i64 now, .slice A n c] 39)) (.cells #[.int .i64 t] 3)
  go_enter Try.func92, Try.ntmps92
  go_wp2_with fail
  go_ret
  refine ⟨rfl, by simp, ⟨?_, ?_⟩, hb⟩
  · rw [cell_old1 _ _ _ _ (by simp)]; exact (cell_new2Vers w (.int .i64 now) (.slice A n c) 39).2
  · exact cell_newL _ _ _ (by simp)
end Go.Proofs.Ytpofgidhhcolfaa
