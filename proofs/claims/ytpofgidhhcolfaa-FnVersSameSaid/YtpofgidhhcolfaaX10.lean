/- Contract: DrawVersOk. -/
import Derived.Test.YtpofgidhhcolfaaX9
namespace Go.Proofs.Ytpofgidhhcolfaa
open Go.RowKit

theorem Rd.bel {w0 w w' : World} {g : Nat} (hb : Below w0.heap.size w0 w) (ht : Turn (some ⟨g, 0, none⟩) w w') (hg : w0.heap.size ≤ g) : Below w0.heap.size w0 w' :=
  ht.bel hb (fun x hx => by cases hx; exact hg)
theorem VersP.small {now : Int} {l : List Ver} (h : VersP now l) : l.length ≤ 60 := h.1.2.2
def DrawVPost (w : World) (e : Ending) (w' : World) : Prop :=
  ∃ (now : Int) (B : Option Addr) (n cb : Nat) (lv : List Ver), e = .returned (.agg #[.int .i64 now, .slice B n cb]) ∧ Own encVer 4 77 w' w.heap.size (.slice B n cb) lv ∧ VerSWf lv ∧ n ≤ 100 ∧ -1000 ≤ now ∧ now ≤ 1000 ∧ Below w.heap.size w w'
set_option maxHeartbeats 2000000 in
set_option maxRecDepth 100000 in
theorem drawVersOk (A : Option Addr) (n c : Nat) (l : List UInt8) (w : World) (hr : Sl encB w w.heap.size A n l) (hn : n ≤ 1048576) (hc : n ≤ c) :
    Calls Try.prog 60 #[.slice A n c] w (DrawVPost w) := by
  have HN := Lib.hid hn
  have HC := Lib.hid hc
  clear hn hc
  have x0 := BoxC.new w 39 #[.int .i64 0, .slice none 0 0]
  have b0 := bel_alloc (Below.refl _ w) (.cells #[.int .i64 0, .slice none 0 0] 39)
  have hz0 : (w.alloc (.cells #[.int .i64 0, .slice none 0 0] 39)).heap.size = w.heap.size + 1 := by simp
  have hr0 := hr.on b0
  go_enter Try.func60, Try.ntmps60
  go_wp2_with fail
  generalize w.alloc (.cells #[.int .i64 0, .slice none 0 0] 39) = w0 at *
  refine (l11Open A n c l w0 hr0 HN.out HC.out).mono ?_
  rintro e w1 ⟨A1, m, c1, l1, rfl, r1, hb1⟩
  rw [hz0] at r1
  rw [hz0]
  have x1 := x0.on hb1
  have b1 := bel_trans b0 hb1
  have hg : w.heap.size ≠ w.heap.size + 1 := by omega
  clear x0 hr0 hr hb1 b0 hz0
  go_wp2_with fail
  refine (l2Some (w.heap.size + 1) 0 A1 m c1 l1 w1 r1 (by omega)).mono ?_
  rintro e w2 ⟨now, B, cb, lv, p2, rfl, o2, hP2, hp2, r2, t2⟩
  have x2 := x1.turn t2 (fun x hx => by cases hx; exact hg)
  have b2 := Rd.bel b1 t2 (by omega)
  have hlen := hP2.small
  have h40 := hP2.1.2.1
  have h00 := hP2.1.1
  have hsw := hP2.swf
  clear hP2 r1 x1 t2
  go_wp2_with fail
  refine (l2Bent (w.heap.size + 1) p2 40 A1 m c1 l1 now B lv.length cb lv w2 r2 (by omega) o2.sl hsw (by omega) (by omega) (by omega) (by omega) (by omega)).mono ?_
  rintro e w3 ⟨now3, B3, n3, c3, l3, p3, rfl, o3, hS3, hn3, hl3, hu3, hp3, r3, t3⟩
  have x3 := x2.turn t3 (fun x hx => by cases hx; exact hg)
  have b3 := Rd.bel b2 t3 (by omega)
  have f0 := x3.f 0
  have f1 := x3.f 1
  have q0 := x3.c (k := 0) rfl
  have q1 := x3.c (k := 1) rfl
  have z := (x3.set 0 (.int .i64 now3)).set 1 (.slice B3 n3 c3)
  have z0 := z.c (k := 0) rfl
  have z1 := z.c (k := 1) rfl
  have hz2 : w.heap.size ≤ w2.heap.size := b2.size
  clear o2 t3 r2 r3 x2
  go_wp2_with fail
  exact bodyPost_ret (v := .agg #[.int .i64 now3, .slice B3 n3 c3]) (by simp [results, Try.results60, go_sem, z0, z1]) rfl ⟨now3, B3, n3, c3, l3, rfl, ((o3.lower hz2).box x3 (by decide)).box (x3.set 0 _) (by decide), hS3, by omega, by omega, by omega, bel_set (bel_set b3 (Nat.le_refl _) _) (Nat.le_refl _) _⟩
end Go.Proofs.Ytpofgidhhcolfaa
