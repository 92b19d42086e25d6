/- Contract: one write into a history (l2Write): some history comes back, one longer at most. -/
import Derived.Test.YtpofgidhhcolfaaX1
import Derived.BigQuiet
namespace Go.Proofs.Ytpofgidhhcolfaa
open Go.RowKit

theorem VerSWf.take {l : List Ver} (h : VerSWf l) (k : Nat) : VerSWf (l.take k) := fun x hx => h x (List.mem_of_mem_take hx)
theorem VerSWf.drop {l : List Ver} (h : VerSWf l) (k : Nat) : VerSWf (l.drop k) := fun x hx => h x (List.mem_of_mem_drop hx)
theorem VerSWf.app {l m : List Ver} (h : VerSWf l) (k : VerSWf m) : VerSWf (l ++ m) := fun x hx => (List.mem_append.1 hx).elim (h x) (k x)
theorem VerSWf.one {x : Ver} (h : VerWf x) : VerSWf [x] := fun y hy => by rw [List.mem_singleton.1 hy]; exact h
theorem VerSWf.set {l : List Ver} (h : VerSWf l) (k : Nat) {x : Ver} (hx : VerWf x) : VerSWf (l.set k x) := fun y hy => by
  rcases List.mem_or_eq_of_mem_set hy with h1 | rfl
  · exact h y h1
  · exact hx
theorem bel_drewNB {B : Nat} {a w : World} (h : Below B a w) (n : Nat) : Below B a (w.drewN n) := ⟨h.os, h.tape, h.output, h.size, h.block⟩
theorem keptO_drewN {e : TypeId} {b : Option Nat} {a w : World} (h : Lib.OthersKept e b a w) (n : Nat) : Lib.OthersKept e b a (w.drewN n) := h
/-- what a write leaves: a history of one's own -/
def WrPost (w : World) (base n : Nat) (e : Ending) (w' : World) : Prop :=
  ∃ A' c' l', e = .returned (.slice A' l'.length c') ∧ Own encVer 4 77 w' base (.slice A' l'.length c') l' ∧ l'.length ≤ n + 1 ∧ VerSWf l' ∧ Below base w w' ∧ Lib.OthersKept 77 none w w'
def WrRel (w : World) (base : Nat) (A : Option Addr) (n c : Nat) (key : ByteArray) (v : Int) (gone : Bool) (v7 v8 : Value) (wr : World) : Prop :=
  ∃ (a i : Nat) (l : List Ver), a ≤ i ∧ i ≤ n ∧ v7 = .int .i64 a ∧ v8 = .int .i64 i ∧ Own encVer 4 77 wr base (.slice A n c) l ∧ VerSWf l ∧ BoxC wr w.heap.size 73 #[.string key, .int .i64 v, .bool gone] ∧ Below base w wr ∧ Lib.OthersKept 77 none w wr
set_option maxHeartbeats 4000000 in
set_option maxRecDepth 100000 in
theorem l2WriteSome (g n c : Nat) (l : List Ver) (key : ByteArray) (v : Int) (gone : Bool) (now : Int) (base : Nat) (w : World) (ho : Own encVer 4 77 w base (.slice (some ⟨g, 0, none⟩) n c) l) (hk : VerSWf l) (hx : VerWf (key, v, now, 0)) (hy : ∀ x : Ver, VerWf x → VerWf (x.1, x.2.1, x.2.2.1, now)) (hn : n ≤ 1048576) (hb : base ≤ w.heap.size) :
    Calls Try.prog 152 #[.slice (some ⟨g, 0, none⟩) n c, .agg #[.string key, .int .i64 v, .bool gone], .int .i64 now] w (WrPost w base n) := by
  obtain ⟨i0, hi0, hz0, hz1, hz2⟩ := info_parts info77
  have HN := Lib.hid hn
  have HY := Lib.hid hy
  have HX := Lib.hid hx
  have HB := Lib.hid hb
  have HBG := Lib.hid (show base ≤ g from (ho.block rfl).1)
  have HG := Lib.hid (show g < w.heap.size from (ho.block rfl).2.1)
  have HC := Lib.hid (show n ≤ c by have := ho.form; obtain ⟨A', c', h1, h2, h3⟩ := this; injection h1 with _ h4 h5; omega)
  have O0 := Lib.hid (ho.alloc (.cells #[.string key, .int .i64 v, .bool gone] 73))
  have K0 := Lib.hid hk
  have X0 := Lib.hid (BoxC.new w 73 #[.string key, .int .i64 v, .bool gone])
  have B0 := Lib.hid ((Below.refl base w).alloc hb (.cells #[.string key, .int .i64 v, .bool gone] 73))
  have T0 := Lib.hid ((Lib.OthersKept.refl 77 none w).alloc (.cells #[.string key, .int .i64 v, .bool gone] 73))
  clear ho hk hx hy hn hb
  go_enter Try.func152, Try.ntmps152
  go_wp2_with fail
  go_loopw [7, 8] (fun v7 v8 wr => WrRel w base (some ⟨g, 0, none⟩) n c key v gone v7 v8 wr) (fun _ v8 _ => n - (intOf v8).toNat)
  case atStart => exact ⟨0, 0, l, Nat.le_refl _, Nat.zero_le _, rfl, rfl, O0.out, K0.out, X0.out, B0.out, T0.out⟩
  case round =>
    clear O0 K0 X0 B0 T0
    obtain ⟨a, i, l, hai, hin, rfl, rfl, ho, hk, xb, hb, ht⟩ := hrel
    have p0 := xb.c (k := 0) rfl
    have p1 := xb.c (k := 1) rfl
    have p2 := xb.c (k := 2) rfl
    by_cases h0 : i < n
    · have h0' : (i : Int) < (n : Int) := by omega
      have j0 : (0 : Int) ≤ (i : Int) := by omega
      have hn' : (n : Int) ≤ 1048576 := by have := HN.out; omega
      obtain ⟨g0, g1, g2, g3, hx, e0, e1, e2, e3⟩ := atVer ho.sl h0
      simp only [Nat.zero_add] at e0 e1 e2 e3
      have fr := ho.free (i * 4 + 3)
      have HXR := Lib.hid hx
      have hwx : VerWf (g0, g1, g2, g3) := hk.at_ hx
      have HW := Lib.hid hwx
      clear hx hwx
      cases hq : (g0.toList == key.toList)
      · go_wp2_with fail
        go_quiet (fail)
        go_wp2_with fail
        go_quiet (fail)
        go_wp2_with fail
        all_goals first
          | exact ⟨⟨a, i + 1, l, by omega, by omega, rfl, by simp, ho.drewN _, hk, xb, bel_drewNB hb _, keptO_drewN ht _⟩, by simp [intOf]; omega⟩
          | exact ⟨⟨i + 1, i + 1, l, by omega, by omega, by simp, by simp, ho.drewN _, hk, xb, bel_drewNB hb _, keptO_drewN ht _⟩, by simp [intOf]; omega⟩
      · cases hg : (g3 == 0)
        · go_wp2_with fail
          go_quiet (fail)
          go_wp2_with fail
          go_quiet (fail)
          go_wp2_with fail
          all_goals first
            | exact ⟨⟨a, i + 1, l, by omega, by omega, rfl, by simp, ho.drewN _, hk, xb, bel_drewNB hb _, keptO_drewN ht _⟩, by simp [intOf]; omega⟩
            | exact ⟨⟨i + 1, i + 1, l, by omega, by omega, by simp, by simp, ho.drewN _, hk, xb, bel_drewNB hb _, keptO_drewN ht _⟩, by simp [intOf]; omega⟩
        · go_wp2_with fail
          go_quiet (fail)
          go_wp2_with fail
          have o2 := (ho.drewN nq).set1 encVer_len i 3 (g0, g1, g2, g3) (g0, g1, g2, now) (.int .i64 now) HXR.out (by omega) rfl
          have x2 : BoxC ((wr.drewN nq).setCell ⟨g, i * 4 + 3, none⟩ (.int .i64 now)) w.heap.size 73 #[.string key, .int .i64 v, .bool gone] := (show BoxC (wr.drewN nq) w.heap.size 73 _ from xb).other (by have := HG.out; omega)
          have b2 : Below base w ((wr.drewN nq).setCell ⟨g, i * 4 + 3, none⟩ (.int .i64 now)) := (bel_drewNB hb nq).setCell (by exact HBG.out) _
          have t2 : Lib.OthersKept 77 none w ((wr.drewN nq).setCell ⟨g, i * 4 + 3, none⟩ (.int .i64 now)) := (keptO_drewN ht nq).trans (keptO_set (ho.drewN nq) _)
          have k2 : VerSWf (l.set i (g0, g1, g2, now)) := hk.set i (HY.out _ HW.out)
          generalize (wr.drewN nq).setCell ⟨g, i * 4 + 3, none⟩ (.int .i64 now) = wr2 at *
          obtain ⟨d0, d1, d2, d3, hx2, z0, z1, z2, z3⟩ := atVer o2.sl h0
          simp only [Nat.zero_add] at z0 z1 z2 z3
          have q0 := x2.c (k := 0) rfl
          clear hx2
          go_wp2_with fail
          go_quiet (fail)
          go_wp2_with fail
          all_goals first
            | exact ⟨⟨a, i + 1, _, by omega, by omega, rfl, by simp, o2.drewN _, k2, x2, bel_drewNB b2 _, keptO_drewN t2 _⟩, by simp [intOf]; omega⟩
            | exact ⟨⟨i + 1, i + 1, _, by omega, by omega, by simp, by simp, o2.drewN _, k2, x2, bel_drewNB b2 _, keptO_drewN t2 _⟩, by simp [intOf]; omega⟩
    · obtain rfl : i = n := by omega
      have h0' : ¬ ((i : Int) < (i : Int)) := by omega
      have hln := ho.len
      cases gone
      · have j0 : (0 : Int) ≤ (a : Int) := by omega
        have j1 : (a : Int) ≤ (i : Int) := by omega
        have j2 : (a : Int) ≤ (c : Int) := by have := HC.out; omega
        have j3 : (i : Int) ≤ (c : Int) := by have := HC.out; omega
        have om := Own.made0 (enc := encVer) (sz := 4) (e := 77) wr (Nat.le_refl wr.heap.size)
        have hb1 := hb.alloc (Nat.le_trans HB.out hb.size) (.cells #[] 77)
        have rs := ((ho.alloc (.cells #[] 77)).sl).rest encVer_len hai HC.out
        simp only [Nat.zero_add] at rs
        have HS1 := Lib.hid (show ([] : List Ver).length + (i - a) ≤ maxLen by have := HN.out; unfold maxLen; simp; omega)
        have HS2 := Lib.hid (show (([] : List Ver).length + (i - a)) * 40 ≤ 140737488355328 by have := HN.out; simp; omega)
        go_wp2_with (at_builtin; refine wpList_append_sl _ rfl _ _ 37 rfl wr.heap.size 77 i0 _ 4 40 Try.underlying37 hi0 hz0 hz1 hz2 rfl (by decide) encVer_len encVer_one _ [] rfl om _ (if c = a then some ⟨g, 0, none⟩ else some ⟨g, a * 4, none⟩) (i - a) (c - a) (l.drop a) rfl rs HS1.out HS2.out (by simp) ?_; intro v9 w9 o9 g9)
        all_goals
          simp only [List.nil_append] at o9
          obtain ⟨A9, c9, rfl, -, -⟩ := o9.form
          rw [show (l.drop a).length = i - a by rw [List.length_drop]; omega] at o9 ⊢
          have hgw : g < wr.heap.size := (ho.block rfl).2.1
          have oa := (ho.alloc (.cells #[] 77)).far (A := some ⟨wr.heap.size, 0, none⟩) (show Turn _ _ w9 from g9) (fun x y hx hy => by cases hx; cases hy; simp only; omega)
          have b9 := hb1.grown g9 (by simp; exact Nat.le_trans HB.out (Nat.le_trans hb.size (by omega))) (fun k hk => by have := (World.ownsRow.lt om k hk).1; exact Nat.le_trans HB.out (Nat.le_trans hb.size this))
          have t9 := (ht.alloc (.cells #[] 77)).trans (keptO_grown om g9)
          have x9 := (xb.alloc (.cells #[] 77)).appended (by decide) om g9
          have hbw9 : base ≤ w9.heap.size := Nat.le_trans HB.out b9.size
          have B9 := Lib.hid (b9.alloc hbw9 (.cells #[.string key, .int .i64 v, .int .i64 now, .int .i64 0] 77)).drew
          have T9 := Lib.hid (t9.alloc (.cells #[.string key, .int .i64 v, .int .i64 now, .int .i64 0] 77)).drew
          have oc := ((oa.alloc (.cells #[.string key, .int .i64 v, .int .i64 now, .int .i64 0] 77)).drew).shrink encVer_len hai
          first
            | (rename c = a => hca; rw [hca] at oc; clear hca)
            | (rename ¬ c = a => hca; clear hca)
            | skip
          have od := ((o9.alloc (.cells #[.string key, .int .i64 v, .int .i64 now, .int .i64 0] 77)).drew)
          have r0 := x9.c (k := 0) rfl
          have r1 := x9.c (k := 1) rfl
          have ls : Sl encVer (w9.alloc (.cells #[.string key, .int .i64 v, .int .i64 now, .int .i64 0] 77)).drew (w9.heap.size + 1) (some ⟨w9.heap.size, 0, none⟩) 1 [(key, v, now, 0)] := by
            have h : Sl encVer (w9.alloc (.cells #[.string key, .int .i64 v, .int .i64 now, .int .i64 0] 77)) (w9.heap.size + 1) (some ⟨w9.heap.size, 0, none⟩) 1 [(key, v, now, 0)] := by simpa using Sl.lit1 (enc := encVer) w9 #[.string key, .int .i64 v, .int .i64 now, .int .i64 0] 77 (key, v, now, 0) rfl
            exact h
          have hla : (l.take a).length = a := by rw [List.length_take]; omega
          have hld : (l.drop a).length = i - a := by rw [List.length_drop]; omega
          have HS3 := Lib.hid (show (l.take a).length + 1 ≤ maxLen by have := HN.out; rw [hla]; unfold maxLen; omega)
          have HS4 := Lib.hid (show ((l.take a).length + 1) * 40 ≤ 140737488355328 by have := HN.out; rw [hla]; omega)
          have HS5 := Lib.hid (show (l.take a ++ [(key, v, now, 0)]).length + (i - a) ≤ maxLen by have := HN.out; rw [List.length_append, hla]; unfold maxLen; simp; omega)
          have HS6 := Lib.hid (show ((l.take a ++ [(key, v, now, 0)]).length + (i - a)) * 40 ≤ 140737488355328 by have := HN.out; rw [List.length_append, hla]; simp; omega)
          have HS7 := Lib.hid (show base ≤ (w9.alloc (.cells #[.string key, .int .i64 v, .int .i64 now, .int .i64 0] 77)).drew.heap.size by simp; omega)
          clear p0 p1 p2 rs om g9 ho hb1
          go_region_law (first
            | (refine step_append_sl _ (by rfl) (.tmp 57) (.tmp 64) 37 (by rfl) base 77 i0 _ 4 40 Try.underlying37 hi0 hz0 hz1 hz2 rfl (by decide) encVer_len encVer_one _ (l.take a) (by rfl) oc _ (some ⟨w9.heap.size, 0, none⟩) 1 1 [(key, v, now, 0)] (by rfl) ls HS3.out HS4.out HS7.out ?_; intro v13 w13 o13 g13; have od2 := od.far (A := some ⟨g, 0, none⟩) (show Turn _ _ w13 from g13) (fun x y hx hy => by cases hx; have := (o9.block hy).1; simp only; omega); have hs13 : base ≤ w13.heap.size := Nat.le_trans HS7.out g13.size)
            | (refine step_append_sl _ (by rfl) (.tmp 65) (.tmp 66) 37 (by rfl) base 77 i0 _ 4 40 Try.underlying37 hi0 hz0 hz1 hz2 rfl (by decide) encVer_len encVer_one v13 _ (by rfl) o13 _ A9 (i - a) c9 (l.drop a) (by rfl) od2.sl HS5.out HS6.out hs13 ?_; intro v14 w14 o14 g14))
          all_goals
            obtain ⟨A13, c13, rfl, -, -⟩ := o13.form
            obtain ⟨A14, c14, rfl, -, -⟩ := o14.form
            have b13 := B9.out.grown g13 HS7.out (fun k hk => (World.ownsRow.lt oc k hk).1)
            have B14 := Lib.hid (b13.grown g14 hs13 (fun k hk => (World.ownsRow.lt o13 k hk).1))
            have T14 := Lib.hid ((T9.out.trans (keptO_grown oc g13)).trans (keptO_grown o13 g14))
            have O14 := Lib.hid o14
            have K14 := Lib.hid (((hk.take a).app (VerSWf.one HX.out)).app (hk.drop a))
            have L14 := Lib.hid (show (l.take a ++ [(key, v, now, 0)] ++ l.drop a).length ≤ i + 1 by rw [List.length_append, List.length_append, hla, hld]; simp; omega)
            clear g13 g14 o13 o14 oc od od2 b13 b9 t9 x9
            go_wp2_with fail
            go_ret
            exact ⟨_, _, _, rfl, O14.out, L14.out, K14.out, B14.out, T14.out⟩
      · go_wp2_with fail
        go_ret
        exact ⟨some ⟨g, 0, none⟩, c, l, by rw [hln]; rfl, by rw [hln]; exact ho, by omega, hk, hb, ht⟩
end Go.Proofs.Ytpofgidhhcolfaa
