/- Contract: one write into an empty history; l2Write of whatever history of one's own. -/
import Derived.Test.YtpofgidhhcolfaaX2
namespace Go.Proofs.Ytpofgidhhcolfaa
open Go.RowKit

theorem VerSWf.nil : VerSWf [] := fun _ h => by cases h
set_option maxHeartbeats 4000000 in
set_option maxRecDepth 100000 in
theorem l2WriteNil (key : ByteArray) (v : Int) (gone : Bool) (now : Int) (base : Nat) (w : World) (hx : VerWf (key, v, now, 0)) (hb : base ≤ w.heap.size) :
    Calls Try.prog 152 #[.slice none 0 0, .agg #[.string key, .int .i64 v, .bool gone], .int .i64 now] w (WrPost w base 0) := by
  obtain ⟨i0, hi0, hz0, hz1, hz2⟩ := info_parts info77
  have HX := Lib.hid hx
  have HB := Lib.hid hb
  have xb := BoxC.new w 73 #[.string key, .int .i64 v, .bool gone]
  have hb0 := (Below.refl base w).alloc hb (.cells #[.string key, .int .i64 v, .bool gone] 73)
  have ht := (Lib.OthersKept.refl 77 none w).alloc (.cells #[.string key, .int .i64 v, .bool gone] 73)
  have hsz0 : (w.alloc (.cells #[.string key, .int .i64 v, .bool gone] 73)).heap.size = w.heap.size + 1 := by simp
  have HSZ := Lib.hid hsz0
  clear hsz0
  have p0 := xb.c (k := 0) rfl
  have p1 := xb.c (k := 1) rfl
  have p2 := xb.c (k := 2) rfl
  clear hx hb
  go_enter Try.func152, Try.ntmps152
  go_wp2_with fail
  generalize w.alloc (.cells #[.string key, .int .i64 v, .bool gone] 73) = wr at *
  go_loopw [7, 8] (fun v7 v8 wq => v7 = .int .i64 0 ∧ v8 = .int .i64 0 ∧ wr = wq) (fun _ _ _ => 0)
  case atStart => exact ⟨rfl, rfl, rfl⟩
  case round =>
    obtain ⟨rfl, rfl, rfl⟩ := hrel
    cases gone
    · have om := Own.made0 (enc := encVer) (sz := 4) (e := 77) wr (Nat.le_refl wr.heap.size)
      have hbw : base ≤ wr.heap.size := by have := HB.out; have := HSZ.out; omega
      have hb1 := hb0.alloc hbw (.cells #[] 77)
      have x9 := (xb.alloc (.cells #[] 77))
      have t9 := (ht.alloc (.cells #[] 77))
      have HZ9 := Lib.hid (show (wr.alloc (.cells #[] 77)).heap.size = wr.heap.size + 1 by simp)
      go_wp2_with fail
      obtain ⟨w9, hw9⟩ : ∃ w9, wr.alloc (.cells #[] 77) = w9 := ⟨_, rfl⟩
      have b9 := hb1
      rw [hw9] at om b9 x9 t9 HZ9 ⊢
      clear hw9
      have hbw9 : base ≤ w9.heap.size := Nat.le_trans HB.out b9.size
      have B9 := Lib.hid (b9.alloc hbw9 (.cells #[.string key, .int .i64 v, .int .i64 now, .int .i64 0] 77)).drew
      have T9 := Lib.hid (t9.alloc (.cells #[.string key, .int .i64 v, .int .i64 now, .int .i64 0] 77)).drew
      have oc := Own.nil (enc := encVer) (sz := 4) (e := 77) (w9.alloc (.cells #[.string key, .int .i64 v, .int .i64 now, .int .i64 0] 77)).drew base
      have r0 := x9.c (k := 0) rfl
      have r1 := x9.c (k := 1) rfl
      have ls : Sl encVer (w9.alloc (.cells #[.string key, .int .i64 v, .int .i64 now, .int .i64 0] 77)).drew (w9.heap.size + 1) (some ⟨w9.heap.size, 0, none⟩) 1 [(key, v, now, 0)] := by
        have h : Sl encVer (w9.alloc (.cells #[.string key, .int .i64 v, .int .i64 now, .int .i64 0] 77)) (w9.heap.size + 1) (some ⟨w9.heap.size, 0, none⟩) 1 [(key, v, now, 0)] := by simpa using Sl.lit1 (enc := encVer) w9 #[.string key, .int .i64 v, .int .i64 now, .int .i64 0] 77 (key, v, now, 0) rfl
        exact h
      have HS7 := Lib.hid (show base ≤ (w9.alloc (.cells #[.string key, .int .i64 v, .int .i64 now, .int .i64 0] 77)).drew.heap.size by simp; omega)
      clear p0 p1 p2 om hb1
      go_region_law (first
        | (refine step_append_sl _ (by rfl) (.tmp 57) (.tmp 64) 37 (by rfl) base 77 i0 _ 4 40 Try.underlying37 hi0 hz0 hz1 hz2 rfl (by decide) encVer_len encVer_one _ [] (by rfl) oc _ (some ⟨w9.heap.size, 0, none⟩) 1 1 [(key, v, now, 0)] (by rfl) ls (by unfold maxLen; simp) (by simp) HS7.out ?_; intro v13 w13 o13 g13; have hs13 : base ≤ w13.heap.size := Nat.le_trans HS7.out g13.size)
        | (refine step_append_sl _ (by rfl) (.tmp 65) (.tmp 66) 37 (by rfl) base 77 i0 _ 4 40 Try.underlying37 hi0 hz0 hz1 hz2 rfl (by decide) encVer_len encVer_one v13 _ (by rfl) o13 w13.heap.size (some ⟨wr.heap.size, 0, none⟩) 0 0 [] (by rfl) (Sl.nil _ _ _ _) (by unfold maxLen; simp) (by simp) hs13 ?_; intro v14 w14 o14 g14))
      all_goals
        obtain ⟨A13, c13, rfl, -, -⟩ := o13.form
        obtain ⟨A14, c14, rfl, -, -⟩ := o14.form
        have b13 := B9.out.grown g13 HS7.out (fun k hk => (World.ownsRow.lt oc k hk).1)
        have B14 := Lib.hid (b13.grown g14 hs13 (fun k hk => (World.ownsRow.lt o13 k hk).1))
        have T14 := Lib.hid ((T9.out.trans (keptO_grown oc g13)).trans (keptO_grown o13 g14))
        have O14 := Lib.hid o14
        have K14 := Lib.hid (show VerSWf ([] ++ [(key, v, now, 0)] ++ []) from (VerSWf.nil.app (VerSWf.one HX.out)).app VerSWf.nil)
        clear g13 g14 o13 o14 oc b13 b9 t9 x9
        go_wp2_with fail
        go_ret
        exact ⟨_, _, _, rfl, O14.out, by simp, K14.out, B14.out, T14.out⟩
    · go_wp2_with fail
      go_ret
      exact ⟨none, 0, [], rfl, Own.nil _ _, by simp, VerSWf.nil, hb0, ht⟩
theorem l2Write (A : Option Addr) (n c : Nat) (l : List Ver) (key : ByteArray) (v : Int) (gone : Bool) (now : Int) (base : Nat) (w : World) (ho : Own encVer 4 77 w base (.slice A n c) l) (hk : VerSWf l) (hx : VerWf (key, v, now, 0)) (hy : ∀ x : Ver, VerWf x → VerWf (x.1, x.2.1, x.2.2.1, now)) (hn : n ≤ 1048576) (hb : base ≤ w.heap.size) :
    Calls Try.prog 152 #[.slice A n c, .agg #[.string key, .int .i64 v, .bool gone], .int .i64 now] w (WrPost w base n) := by
  rcases ho.2 with ⟨h1, h2⟩ | ⟨g, cap, cur, h1, _⟩
  · injection h1 with h3 h4 h5
    subst h3 h5
    have h4' : n = 0 := by omega
    subst h4'
    exact l2WriteNil key v gone now base w hx hb
  · injection h1 with h3 h4 h5
    subst h3
    exact l2WriteSome g n c l key v gone now base w ho hk hx hy hn hb
end Go.Proofs.Ytpofgidhhcolfaa
