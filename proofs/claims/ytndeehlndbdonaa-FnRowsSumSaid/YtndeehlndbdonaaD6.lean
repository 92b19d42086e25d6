/- The draw of two lists of rows. -/
import Derived.Test.YtndeehlndbdonaaD5
namespace Go.Proofs.Ytndeehlndbdonaa
open Go.RowKit

theorem putL_small {l : List Row} {key : ByteArray} {num : Int} {k : Nat} (h : ∀ r ∈ l, r.1.size ≤ k) (hk : key.size ≤ k) : ∀ r ∈ putL l key num, r.1.size ≤ k := by
  intro r hr
  unfold putL at hr
  simp only [List.mem_append, List.mem_cons, List.not_mem_nil, or_false] at hr
  rcases hr with (hr | hr) | hr
  · exact h r (List.mem_of_mem_take hr)
  · rw [hr]; exact hk
  · exact h r (List.mem_of_mem_drop hr)
theorem cutL_small {l : List Row} {key : ByteArray} {k : Nat} (h : ∀ r ∈ l, r.1.size ≤ k) : ∀ r ∈ cutL l key, r.1.size ≤ k := by
  intro r hr
  unfold cutL at hr
  split at hr
  · rcases List.mem_append.1 hr with h1 | h1
    · exact h r (List.mem_of_mem_take h1)
    · exact h r (List.mem_of_mem_drop h1)
  · exact h r hr
theorem cutL_len (l : List Row) (key : ByteArray) : (cutL l key).length ≤ l.length := by
  unfold cutL
  split
  · rw [List.length_append, List.length_take, List.length_drop]; omega
  · exact Nat.le_refl _
def Small2 (l : List Row) : Prop := l.length ≤ 12 ∧ ∀ r ∈ l, r.1.size ≤ 3
theorem Small.two {l : List Row} (h : Small l) : Small2 l := ⟨Nat.le_trans h.1 (by omega), h.2⟩
theorem Small2.wf {l : List Row} (h : Small2 l) : KeysWf l := wf_of_small h.2 (by omega)
def DrewTwoPost (w : World) (e : Ending) (w' : World) : Prop :=
  ∃ (A B : Option Addr) (c d : Nat) (la lb : List Row), e = .returned (.tuple #[.slice A la.length c, .slice B lb.length d]) ∧ Own encRow 2 46 w' w.heap.size (.slice A la.length c) la ∧ Own encRow 2 46 w' w.heap.size (.slice B lb.length d) lb ∧ Small la ∧ Small2 lb ∧ Below w.heap.size w w'
set_option maxHeartbeats 1000000 in
set_option maxRecDepth 100000 in
theorem drawRowsDiff (A : Option Addr) (n c : Nat) (l : List UInt8) (w : World) (hr : Sl encB w w.heap.size A n l) (hn : n ≤ 1048576) (hc : n ≤ c) :
    Calls Try.prog 51 #[.slice A n c] w (DrewTwoPost w) := by
  have HN := Lib.hid hn
  have HC := Lib.hid hc
  clear hn hc
  go_enter Try.func51, Try.ntmps51
  go_wp2_with fail
  refine (l11Open A n c l w hr HN.out HC.out).mono ?_
  rintro e w1 ⟨B, m, cb, lb, rfl, r1, b1⟩
  go_wp2_with fail
  refine (l1Rows w.heap.size 0 B m cb lb w1 r1 (by omega)).mono ?_
  rintro e w2 ⟨v2, l2, p2, rfl, o2, hP2, hp2, r2, t2⟩
  obtain ⟨D2, c2, rfl, -, -⟩ := o2.form
  have b2 := Rd.bel b1 t2 (Nat.le_refl _)
  go_wp2_with fail
  refine (l1Bent w.heap.size p2 B m cb lb D2 l2.length c2 l2 w2 r2 (by omega) o2.sl hP2).mono ?_
  rintro e w3 ⟨v3, l3, p3, rfl, o3, hS3, hp3, r3, t3⟩
  obtain ⟨D3, c3, rfl, -, -⟩ := o3.form
  have b3 := Rd.bel b2 t3 (Nat.le_refl _)
  have hg2 := r2.lt
  have z2 := b2.size
  clear o2 hP2 r2 t2 r1
  go_wp2_with fail
  refine (pick w.heap.size p3 3 B m cb lb w3 r3 (by omega) (by omega) (by omega)).mono ?_
  rintro e w4 ⟨v, rfl, hv, r4, t4⟩
  have o4 := o3.farRd t4 hg2
  have b4 := Rd.bel b3 t4 (Nat.le_refl _)
  have hg4 := r4.lt
  clear o3 r3
  by_cases hv0 : v = 0
  · subst hv0
    go_wp2_with fail
    refine (l1Rows w.heap.size (p3 + 1) B m cb lb w4 r4 (by omega)).mono ?_
    rintro e w5 ⟨v5, l5, p5, rfl, o5, hP5, hp5, r5, t5⟩
    obtain ⟨D5, c5, rfl, -, -⟩ := o5.form
    have o6 := o4.farRd t5 hg2
    have b5 := Rd.bel b4 t5 (Nat.le_refl _)
    go_wp2
    go_ret2
    exact ⟨D3, D5, c3, c5, l3, l5, rfl, o6.lower z2, o5.lower b4.size, hS3, hP5.sm.two, b5⟩
  · have hv1 : ((v : Int) == 0) = false := by simp; omega
    clear hv0
    go_wp2_with fail
    refine (l1Near w.heap.size (p3 + 1) B m cb lb D3 l3.length c3 l3 w4 r4 (by omega) o4.sl (by have := hS3.1; omega) (fun x hx => by have := (o4.block hx).1; omega) hS3.2).mono ?_
    rintro e w5 ⟨s, p5, rfl, hs5, hp5, r5, t5⟩
    have o5 := o4.farRd t5 hg2
    have b5 := Rd.bel b4 t5 (Nat.le_refl _)
    go_wp2_with fail
    refine (l1Cut D3 l3.length c3 l3 s w5 o5.sl (by have := hS3.1; omega) o5.fine).mono ?_
    rintro e w6 ⟨v6, rfl, o6, hb6⟩
    obtain ⟨D6, c6, rfl, -, -⟩ := o6.form
    have o5' := o5.on hb6
    have b6 := bel_trans b5 hb6
    have r6 := r5.on hb6
    have z5 := b5.size
    have hg5 := r5.lt
    go_wp2_with fail
    refine (l1Key w.heap.size p5 B m cb lb w6 r6 (by omega)).mono ?_
    rintro e w7 ⟨key, rfl, hkey, r7, t7⟩
    have o7 := o6.farRd t7 hg5
    have o7' := o5'.farRd t7 hg2
    have b7 := Rd.bel b6 t7 (Nat.le_refl _)
    go_wp2_with fail
    refine (l1Value w.heap.size (p5 + 2) B m cb lb w7 r7 (by omega)).mono ?_
    rintro e w8 ⟨num, rfl, hnum, r8, t8⟩
    have o8 := o7.farRd t8 hg5
    have o8' := o7'.farRd t8 hg2
    have b8 := Rd.bel b7 t8 (Nat.le_refl _)
    have hlen := cutL_len l3 s
    have hsm := cutL_small (key := s) hS3.2
    generalize hC : cutL l3 s = C at *
    go_wp2_with fail
    refine (l1Put D6 C.length c6 C key num w8 o8.sl (by have := hS3.1; omega) o8.fine).mono ?_
    rintro e w9 ⟨v9, rfl, o9, hb9⟩
    obtain ⟨D9, c9, rfl, -, -⟩ := o9.form
    have o9' := o8'.on hb9
    have b9 := bel_trans b8 hb9
    go_wp2
    go_ret2
    exact ⟨D3, D9, c3, c9, l3, _, rfl, o9'.lower z2, o9.lower b8.size, hS3, ⟨by have := putL_len C key num; have := hS3.1; omega, putL_small hsm hkey⟩, b9⟩
end Go.Proofs.Ytndeehlndbdonaa
