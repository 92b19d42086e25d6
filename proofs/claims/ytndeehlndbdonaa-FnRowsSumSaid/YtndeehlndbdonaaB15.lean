/- Contracts: slices.AppendSeq, slices.Collect over the rows from one key to another; RowsIn of the program. -/
import Derived.Test.YtndeehlndbdonaaB14
import Derived.Test.YtndeehlndbdonaaK3
import Derived.Test.YtndeehlndbdonaaB7
import Derived.Maps.AppendAt
namespace Go.Proofs.Ytndeehlndbdonaa
open Go.RowKit Go.Shelf
attribute [local go_sem] Oper.semAt_some

theorem within_len (l : List Row) (lo hi : ByteArray) : (within l lo hi).length ≤ l.length := by
  have h1 : (l.drop (fnd l lo)).length ≤ l.length := by simp
  exact Nat.le_trans (List.takeWhile_sublist _).length_le h1
theorem Capt.keep {w w' : World} {n₀ g1 g2 g3 n c : Nat} {A : Option Addr} {lo hi : ByteArray} (h : Capt w g1 g2 g3 A n c lo hi) (hb : Below n₀ w w') (h1 : g1 < n₀) (h2 : g2 < n₀) (h3 : g3 < n₀) : Capt w' g1 g2 g3 A n c lo hi :=
  ⟨(hb.cell (p := ⟨g1, 0, none⟩) h1).trans h.1, (hb.cell (p := ⟨g2, 0, none⟩) h2).trans h.2.1, (hb.cell (p := ⟨g3, 0, none⟩) h3).trans h.2.2⟩
theorem within_stops (m : Nat) (hm : 1 ≤ m) (g1 g2 g3 n₀ : Nat) (A : Option Addr) (n c : Nat) (l : List Row) (lo hi : ByteArray) (w : World) (hn₀ : n₀ ≤ w.heap.size)
    (h1 : g1 < n₀) (h2 : g2 < n₀) (h3 : g3 < n₀) (hc : Capt w g1 g2 g3 A n c lo hi) (hr : Sl encRow w n₀ A n l) (ha : AscP l) (hn : n ≤ 1048576) (hA : Fine A n c) :
    SeqStopsK Fence.wide m Try.prog 84 #[.pointer (some ⟨g1, 0, none⟩), .pointer (some ⟨g2, 0, none⟩), .pointer (some ⟨g3, 0, none⟩)] encIt (Below n₀) (fun ys => ys = within l lo hi) (fun pre => pre <+: within l lo hi) (within l lo hi).length w :=
  fun l0 J Jx W hW hJ _ hY h0 => by
    have hb : Below n₀ w W := hW.mono hn₀
    exact within_in m hm l0 g1 g2 g3 n₀ A n c l lo hi J Jx W (Nat.le_trans hn₀ hW.size) hJ hY h1 h2 h3 (hc.keep hb h1 h2 h3) (hr.keep hb) ha hn hA h0

theorem cell_two_new (w : World) (x y : Value) (t : TypeId) : ∀ j u, [x, y][j]? = some u → (w.alloc (.cells #[x, y] t)).cell? ((⟨w.heap.size, 0, none⟩ : Addr).add j) = some u := by
  intro j u h
  have hh := World.alloc_heap_new w (.cells #[x, y] t)
  match j, h with
  | 0, h => simp only [World.cell?, Addr.add, Nat.zero_add, if_true, hh]; exact h
  | 1, h => simp only [World.cell?, Addr.add, Nat.zero_add, Nat.one_ne_zero, if_false, hh]; exact h
  | j + 2, h => simp at h
/-- the loop variable's block -/
def RowBox (W : World) (B : Nat) (x : Row) : Prop := W.heap[B]? = some (.cells #[.string x.1, .int .i64 x.2] 46 (0, 0))
theorem RowBox.lt {W : World} {B : Nat} {x : Row} (h : RowBox W B x) : B < W.heap.size := (Array.getElem?_eq_some_iff.1 h).1
theorem RowBox.c0 {W : World} {B : Nat} {x : Row} (h : RowBox W B x) : W.cell? ⟨B, 0, none⟩ = some (.string x.1) := by simp [World.cell?, show W.heap[B]? = _ from h]
theorem RowBox.c1 {W : World} {B : Nat} {x : Row} (h : RowBox W B x) : W.cell? ⟨B, 1, none⟩ = some (.int .i64 x.2) := by simp [World.cell?, show W.heap[B]? = _ from h]
theorem RowBox.new (W : World) (x : Row) : RowBox (W.alloc (.cells #[.string x.1, .int .i64 x.2] 46)) W.heap.size x := World.alloc_heap_new W _
theorem RowBox.own {β : Type} (B : Nat) (x : Row) : Go.Own (fun (_ : β) W => RowBox W B x) := fun _ X Y row hs hg hrow =>
  (hg.block B (RowBox.lt hs) (fun e' => by obtain ⟨o, ho, hc⟩ := hrow B e'.symm; rw [show X.heap[B]? = _ from hs] at ho; cases ho; cases hc)).trans hs
/-- what the loop has gathered -/
def Got (n₀ : Nat) (pre : List Row) (W : World) : Prop := ∃ v, Boxed W n₀ 26 v ∧ W.ownsRow n₀ 46 2 v pre.length (cellsOf encRow pre) ∧ True
def ActOf (g1 g2 g3 n₀ Bx : Nat) (x : Row) : Act :=
  { tmps := #[.slice none 0 0, .func (.func 84) #[] #[.pointer (some ⟨g1, 0, none⟩), .pointer (some ⟨g2, 0, none⟩), .pointer (some ⟨g3, 0, none⟩)],
      .pointer (some ⟨n₀, 0, none⟩), undef, .slice none 0 0, .pointer (some ⟨Bx, 0, none⟩),
      .func (.func 84) #[] #[.pointer (some ⟨g1, 0, none⟩), .pointer (some ⟨g2, 0, none⟩), .pointer (some ⟨g3, 0, none⟩)],
      .agg #[.string x.1, .int .i64 x.2], undef, undef, undef, undef, undef], defers := [] }
def AxOf (g1 g2 g3 n₀ : Nat) (x : Row) (a' : Act) (W : World) : Prop := ∃ Bx, n₀ < Bx ∧ RowBox W Bx x ∧ a' = ActOf g1 g2 g3 n₀ Bx x

set_option maxRecDepth 100000 in
set_option maxHeartbeats 2000000 in
theorem appendSeq (g1 g2 g3 : Nat) (A : Option Addr) (n c : Nat) (l : List Row) (lo hi : ByteArray) (w : World) (h1 : g1 < w.heap.size) (h2 : g2 < w.heap.size) (h3 : g3 < w.heap.size)
    (hc : Capt w g1 g2 g3 A n c lo hi) (hr : Sl encRow w w.heap.size A n l) (ha : AscP l) (hn : n ≤ 1048576) (hA : Fine A n c) :
    CallsIn Fence.wide 6 Try.prog 83 #[.slice none 0 0, .func (.func 84) #[] #[.pointer (some ⟨g1, 0, none⟩), .pointer (some ⟨g2, 0, none⟩), .pointer (some ⟨g3, 0, none⟩)]] w fun e w' => ∃ v, e = .returned v ∧ Own encRow 2 46 w' w.heap.size v (within l lo hi) ∧ Below w.heap.size w w' := by
  obtain ⟨i0, hi0, hz0, hz1, hz2⟩ := info_parts info46
  have hwl := within_len l lo hi
  rw [hr.len] at hwl
  refine callsIn_of_wp_marks Try.func83 rfl trivial ?_ rfl
  simp only [Try.ntmps83, List.size_toArray, List.length_cons, List.length_nil, Nat.reduceAdd, Nat.reduceSub, Array.replicate_succ, Array.replicate_zero, List.push_toArray, List.append_toArray, List.nil_append, List.cons_append]
  gi_wp2_with fail
  have bO := Boxed.new w 26 (.slice none 0 0)
  have hB0 : Below w.heap.size w (w.alloc (.cells #[.slice none 0 0] 26)) := (Below.refl _ w).alloc (Nat.le_refl _) _
  refine wpIn_rangeFunc_ownH rfl (by omega) (gf := 84) (lb := #[.pointer (some ⟨g1, 0, none⟩), .pointer (some ⟨g2, 0, none⟩), .pointer (some ⟨g3, 0, none⟩)]) rfl trivial (enters_of Try.func84 (by kernel_rfl) rfl)
    (within_stops 5 (by omega) g1 g2 g3 w.heap.size A n c l lo hi _ hB0.size h1 h2 h3 (hc.keep hB0 h1 h2 h3) (hr.keep hB0) ha hn hA) belowK_t (belowK_b hB0.size) (Below.refl _ _) (fun _ => rfl)
    (fun pre W => Got w.heap.size pre W ∧ Below w.heap.size w W)
    (fun _ _ _ => False)
    (OwnFrom.and (Own.from (holdsRow_own w.heap.size w.heap.size 26 46 2 (fun pre => pre.length) (fun pre => cellsOf encRow pre) (fun _ _ => True)) _) (ownFrom_below (Nat.le_refl _) hB0.size))
    (fun _ _ _ _ _ hs _ _ => hs)
    ⟨⟨_, bO, World.ownsRow_nil _ _ _ _, trivial⟩, hB0⟩
    (AxOf g1 g2 g3 w.heap.size)
    (fun x a' s X Y row hs hg hrw => by
      obtain ⟨Bx, hBx, hb, ha'⟩ := hs
      exact ⟨Bx, hBx, (RowBox.own (β := Unit) Bx x) () X Y row hb hg (fun r e => (hrw r e).2), ha'⟩)
    ?assign ?body ?done ?stop
  case assign =>
    rintro l0 pre x W K ⟨⟨v, hv, hrow, -⟩, hB⟩ hK
    unfold encIt
    have hla : (W.alloc (.cells #[.string x.1, .int .i64 x.2] 46)).heap.size = W.heap.size + 1 := by simp
    gi_wp2_with fail
    exact hK _ _ ((KeepsOthers.alloc _ _).from _) ((Below.refl _ W).alloc hB.size _) ⟨⟨v, hv.alloc _, hrow.alloc _, trivial⟩, bel_alloc hB _⟩ ⟨W.heap.size, hv.lt, RowBox.new W x, rfl⟩
  case body =>
    rintro l0 pre x a' W hl ⟨r, hr'⟩ ⟨⟨v, hv, hrow, -⟩, hB⟩ ⟨Bx, hBx, bX, rfl⟩ hlt
    unfold ActOf
    obtain ⟨av, cv, rfl⟩ : ∃ a c, v = .slice a pre.length c := by
      rcases hrow.2 with ⟨h, h'⟩ | ⟨g, cap, cur, h, _⟩
      · exact ⟨none, 0, by rw [h, h']⟩
      · exact ⟨_, _, h⟩
    have hc := hv.cell
    have x0 := bX.c0
    have x1 := bX.c1
    gi_wp2_with (gi_at_builtin; refine wpListIn_append_own _ rfl _ _ 26 rfl w.heap.size 46 i0 (.agg #[.string ByteArray.empty, .int .i64 0]) 2 24 Try.underlying26 hi0 hz0 hz1 hz2 rfl (by decide) _ _ _ rfl (hrow.alloc _) ⟨W.heap.size, 0, none⟩ 1 1 [.string x.1, .int .i64 x.2] rfl rfl (cell_two_new _ _ _ _) (by simp [Value.oneCell']) (by unfold maxLen; omega) (by omega) (by have := hB.size; simp; omega) ?_; intro v' w1 hown' hgrow _; obtain ⟨g', cap', rfl⟩ := ownsRow_succ hown'; obtain ⟨hv1, hv2, hr2, hk2, hb2⟩ := hv.appended (by decide) hrow hB.size (Nat.le_refl _) hown' hgrow; have hc1 := hv1.cell; have hf1 := hv1.frozen)
    exact ⟨hk2.from _, hb2, ⟨_, hv2, own_snoc hr2, trivial⟩, hB.trans hb2⟩
  case done =>
    rintro D ys W hD rfl ⟨⟨v, hv, hrow, -⟩, hB⟩ hK
    have hc := hv.cell
    gi_wp2_with fail
    refine ⟨by simp, .inl ⟨_, _, rfl, run_takeDeferred hK, ?_⟩⟩
    exact ⟨_, results_tmp rfl _ _ _, v, rfl, ownsRow_putObj hrow _ hK rfl, hB.trans (belowK_b (w := w) (Nat.le_refl _) W D _ _ (by have := hB0.size; omega) hK rfl rfl)⟩
  case stop =>
    rintro D c pre W _ _ h _
    exact h.elim

theorem collectIn (g1 g2 g3 : Nat) (A : Option Addr) (n c : Nat) (l : List Row) (lo hi : ByteArray) (w : World) (h1 : g1 < w.heap.size) (h2 : g2 < w.heap.size) (h3 : g3 < w.heap.size)
    (hc : Capt w g1 g2 g3 A n c lo hi) (hr : Sl encRow w w.heap.size A n l) (ha : AscP l) (hn : n ≤ 1048576) (hA : Fine A n c) :
    Calls Try.prog 63 #[.func (.func 84) #[] #[.pointer (some ⟨g1, 0, none⟩), .pointer (some ⟨g2, 0, none⟩), .pointer (some ⟨g3, 0, none⟩)]] w fun e w' => ∃ v, e = .returned v ∧ Own encRow 2 46 w' w.heap.size v (within l lo hi) ∧ Below w.heap.size w w' := by
  have C := Lib.hid (callsIn_wide.1 (appendSeq g1 g2 g3 A n c l lo hi w h1 h2 h3 hc hr ha hn hA))
  clear hc hr
  go_enter Try.func63, Try.ntmps63
  go_wp2_with fail
  refine C.out.mono ?_
  rintro e w1 ⟨v, rfl, ho, hb⟩
  go_wp2
  go_ret
  exact ⟨_, rfl, ho, hb⟩
theorem cell_old2 (w : World) (o : Obj) (b : Nat) (h : b < w.heap.size) : (w.alloc o).cell? ⟨b, 0, none⟩ = w.cell? ⟨b, 0, none⟩ := ((Below.refl w.heap.size w).alloc (Nat.le_refl _) o).cell (p := ⟨b, 0, none⟩) h
theorem cell_newL (w : World) (v : Value) (t : TypeId) {b : Nat} (h : b = w.heap.size) : (w.alloc (.cells #[v] t)).cell? ⟨b, 0, none⟩ = some v := by subst h; exact cell_new _ _ _
theorem rowsWithin (A : Option Addr) (n c : Nat) (lo hi : ByteArray) (w : World) :
    Calls Try.prog 64 #[.slice A n c, .string lo, .string hi] w fun e w' => ∃ g1 g2 g3, e = .returned (.func (.func 84) #[] #[.pointer (some ⟨g1, 0, none⟩), .pointer (some ⟨g2, 0, none⟩), .pointer (some ⟨g3, 0, none⟩)]) ∧ g1 < w'.heap.size ∧ g2 < w'.heap.size ∧ g3 < w'.heap.size ∧ Capt w' g1 g2 g3 A n c lo hi ∧ Below w.heap.size w w' := by
  go_enter Try.func64, Try.ntmps64
  go_wp2_with fail
  go_ret
  refine ⟨_, _, _, rfl, ?_, ?_, ?_, ?_, ?_⟩
  · simp; try omega
  · simp; try omega
  · simp; try omega
  · refine ⟨?_, ?_, ?_⟩
    · rw [cell_old2 _ _ _ (by simp; try omega), cell_old2 _ _ _ (by simp; try omega)]; exact cell_new _ _ _
    · rw [cell_old2 _ _ _ (by simp; try omega)]; exact cell_newL _ _ _ (by simp)
    · exact cell_newL _ _ _ (by simp)
  · exact bel_alloc (bel_alloc (bel_alloc (Below.refl _ _) _) _) _
theorem implRowsIn (A : Option Addr) (n c : Nat) (l : List Row) (lo hi : ByteArray) (w : World) (hr : Sl encRow w w.heap.size A n l) (hk : KeysWf l) (hn : n ≤ 1048576) (hA : Fine A n c) :
    Calls Try.prog 40 #[.slice A n c, .string lo, .string hi] w fun e w' => ∃ v, e = .returned v ∧ Own encRow 2 46 w' w.heap.size v (inRes l lo hi) ∧ Below w.heap.size w w' := by
  have HR := Lib.hid hr
  have HA := Lib.hid hA
  have C := Lib.hid (implRowsOk A n c l w hr hk hn)
  clear hr hA
  go_enter Try.func40, Try.ntmps40
  go_wp2_with fail
  refine C.out.mono ?_
  rintro e w1 ⟨rfl, hb1⟩
  cases hok : rowsOk l with
  | false =>
    go_wp2_with fail
    go_ret
    exact ⟨_, rfl, by rw [inRes_bad hok]; exact Own.nil _ _, hb1⟩
  | true =>
    go_wp2_with fail
    refine (rowsWithin A n c lo hi w1).mono ?_
    rintro e w2 ⟨g1, g2, g3, rfl, h1, h2, h3, hcp, hb2⟩
    have hb12 := bel_trans hb1 hb2
    go_wp2_with fail
    refine (collectIn g1 g2 g3 A n c l lo hi w2 h1 h2 h3 hcp (HR.out.on hb12) (rowsOk_iff.1 hok).2.2 hn HA.out).mono ?_
    rintro e w3 ⟨v, rfl, ho, hb3⟩
    go_wp2_with fail
    go_ret
    exact ⟨_, rfl, by rw [inRes_ok hok]; exact ho.lower hb12.size, bel_trans hb12 hb3⟩
end Go.Proofs.Ytndeehlndbdonaa
