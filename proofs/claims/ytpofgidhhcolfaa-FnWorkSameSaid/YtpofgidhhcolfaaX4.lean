/- Contract: an act upon a right history (l2Do): a right history comes back. -/
import Derived.Test.YtpofgidhhcolfaaX3
import Derived.Test.YtpofgidhhcolfaaV5
import Derived.Test.YtpofgidhhcolfaaW1
import Derived.Test.YtpofgidhhcolfaaPV
import Derived.Test.YtpofgidhhcolfaaD3
namespace Go.Proofs.Ytpofgidhhcolfaa
open Go.RowKit

/-- a right history of one's own comes back -/
def VersGot (w : World) (v : Value) (w' : World) : Prop :=
  ∃ now' A' c' l', v = .agg #[.int .i64 now', .slice A' l'.length c'] ∧ VersP now' l' ∧ Own encVer 4 77 w' w.heap.size (.slice A' l'.length c') l' ∧ Below w.heap.size w w'
def DoPost (w : World) (e : Ending) (w' : World) : Prop := ∃ v ok, e = .returned (.tuple #[v, .bool ok]) ∧ VersGot w v w'
theorem VersP.swf {now : Int} {l : List Ver} (h : VersP now l) : VerSWf l := fun x hx => by
  have := (verOk_parts (h.2.1.mem hx)).1
  have h2 := keyOk_size this
  show x.1.size ≤ maxLen
  unfold maxLen; omega
def DoRel (w : World) (now : Int) (A : Option Addr) (n c B6 m base : Nat) (v7 : Value) (wr : World) : Prop :=
  ∃ (i : Nat) (l : List Ver) (A' : Option Addr) (c' : Nat), i ≤ m ∧ v7 = .int .i64 i ∧ Own encVer 4 77 wr base (.slice A' l.length c') l ∧ l.length ≤ n + i ∧ VerSWf l ∧
    BoxC wr w.heap.size 39 #[.int .i64 now, .slice A n c] ∧ BoxC wr (w.heap.size + 1) 39 #[.int .i64 0, .slice none 0 0] ∧ BoxC wr B6 39 #[.int .i64 (now + 1), .slice A' l.length c'] ∧ Below w.heap.size w wr
set_option maxHeartbeats 4000000 in
set_option maxRecDepth 100000 in
theorem l2Do (now : Int) (A : Option Addr) (n c : Nat) (l : List Ver) (B : Option Addr) (m d : Nat) (p : List Write) (w : World) (hr : Sl encVer w w.heap.size A n l) (hP : VersP now l) (hs : Sl encWrite w w.heap.size B m p) (hk : WriteSWf p) (hm : m ≤ 1000) :
    Calls Try.prog 137 #[.agg #[.int .i64 now, .slice A n c], .slice B m d] w (DoPost w) := by
  have hn60 : n ≤ 60 := by have := hP.1.2.2; rw [hr.len] at this; exact this
  have h0 : 0 ≤ now := hP.1.1
  have h1 : now ≤ 40 := hP.1.2.1
  have HR := Lib.hid hr
  have HP := Lib.hid hP
  have HS := Lib.hid hs
  have HK := Lib.hid hk
  have HM := Lib.hid hm
  have HN := Lib.hid hn60
  have b0 := bel_alloc (bel_alloc (Below.refl _ w) (.cells #[.int .i64 now, .slice A n c] 39)) (.cells #[.int .i64 0, .slice none 0 0] 39)
  have x1 := ((BoxC.new w 39 #[.int .i64 now, .slice A n c]).alloc (.cells #[.int .i64 0, .slice none 0 0] 39))
  have x2 := (BoxC.new (w.alloc (.cells #[.int .i64 now, .slice A n c] 39)) 39 #[.int .i64 0, .slice none 0 0])
  simp only [World.size_alloc] at x2
  have HZ := Lib.hid (show ((w.alloc (.cells #[.int .i64 now, .slice A n c] 39)).alloc (.cells #[.int .i64 0, .slice none 0 0] 39)).heap.size = w.heap.size + 2 by simp)
  have p0 := x1.c (k := 0) rfl
  have p1 := x1.c (k := 1) rfl
  clear hr hP hs hk hm hn60
  go_enter Try.func137, Try.ntmps137
  go_wp2_with fail
  generalize (w.alloc (.cells #[.int .i64 now, .slice A n c] 39)).alloc (.cells #[.int .i64 0, .slice none 0 0] 39) = w0 at *
  refine (l2Copy now A n c l w0 (HR.out.on b0) (by have := HN.out; omega)).mono ?_
  rintro e w1 ⟨A1, c1, rfl, o1, hb1⟩
  replace x1 := x1.on hb1
  replace x2 := x2.on hb1
  have b1 := bel_trans b0 hb1
  clear p0 p1
  have y1 := x1.alloc (.cells #[.int .i64 now, .slice A1 l.length c1] 39)
  have y6 := BoxC.new w1 39 #[.int .i64 now, .slice A1 l.length c1]
  have p0 := y1.c (k := 0) rfl
  have p1 := y1.c (k := 1) rfl
  have q0 := y6.c (k := 0) rfl
  have f0 := y6.f 0
  have X1 := Lib.hid (x1.alloc (.cells #[.int .i64 (now + 1), .slice A1 l.length c1] 39))
  have X2 := Lib.hid (x2.alloc (.cells #[.int .i64 (now + 1), .slice A1 l.length c1] 39))
  have X6 := Lib.hid (BoxC.new w1 39 #[.int .i64 (now + 1), .slice A1 l.length c1])
  have O1 := Lib.hid (o1.alloc (.cells #[.int .i64 (now + 1), .slice A1 l.length c1] 39))
  have B1 := Lib.hid (bel_alloc b1 (.cells #[.int .i64 (now + 1), .slice A1 l.length c1] 39))
  clear x1 x2 y1 y6 o1 b1
  go_wp2_with fail
  go_loopw [7] (fun v7 wr => DoRel w now A n c w1.heap.size m w0.heap.size v7 wr) (fun v7 _ => m - (intOf v7).toNat)
  case atStart => exact ⟨0, l, A1, c1, Nat.zero_le _, rfl, O1.out, by have := HR.out.len; omega, HP.out.swf, X1.out, X2.out, X6.out, B1.out⟩
  case round =>
    clear p0 p1 q0 f0 X1 X2 X6 O1 B1
    obtain ⟨i, l', A', c', him, rfl, ho, hl, hk, x1, x2, x6, hb⟩ := hrel
    have HL := Lib.hid hl
    clear hl
    have s0 := x6.c (k := 0) rfl
    have s1 := x6.c (k := 1) rfl
    by_cases hi : i < m
    · have h0' : (i : Int) < (m : Int) := by omega
      have j0 : (0 : Int) ≤ (i : Int) := by omega
      have hn' : (m : Int) ≤ 1000 := by have := HM.out; omega
      obtain ⟨b, off, rfl, hbb⟩ := HS.out.spot (by omega)
      obtain ⟨g0, g1, g2, hx, e0, e1, e2⟩ := atWrite (HS.out.keep hb) hi
      have HW := Lib.hid (HK.out.at_ hx)
      have X1 := Lib.hid x1
      have X2 := Lib.hid x2
      have X6 := Lib.hid x6
      have HO := Lib.hid ho
      have HKL := Lib.hid hk
      have HB := Lib.hid hb
      have HBW := Lib.hid (show w0.heap.size ≤ wr.heap.size by have := x6.lt; have := hb1.size; omega)
      clear hx x1 x2 x6 ho hk hb
      go_wp2_with fail
      go_region_law (go_simp; go_at_call 152; refine (l2Write A' l'.length c' l' g0 g1 g2 (now + 1) w0.heap.size _ (by exact HO.out) HKL.out (by exact HW.out) (fun _ h => h) (by have := HL.out; have := HN.out; have := HM.out; omega) (by exact HBW.out)).mono ?_; rintro e w6 ⟨A6, c6, l6, rfl, o6, hl6, hk6, b6, k6⟩; have z6 := BoxC.keptO (by exact X6.out) k6 (by decide); have z61 := z6.c (k := 1) rfl; have fz6 := z6.f 1)
      all_goals
        have hz1 := X1.out.lt
        have hz2 := X2.out.lt
        have hz6 := X6.out.lt
        have hw1 := hb1.size
        have Y1 := Lib.hid ((BoxC.keptO (by exact X1.out) k6 (by decide)).other (B' := w1.heap.size) (k := 1) (x := .slice A6 l6.length c6) (by have := HZ.out; omega))
        have Y2 := Lib.hid ((BoxC.keptO (by exact X2.out) k6 (by decide)).other (B' := w1.heap.size) (k := 1) (x := .slice A6 l6.length c6) (by have := HZ.out; omega))
        have Y6 := Lib.hid (z6.set 1 (.slice A6 l6.length c6))
        have Y7 := Lib.hid (o6.box z6 (by decide) (k := 1) (v := .slice A6 l6.length c6))
        have Y8 := Lib.hid (bel_set (show Below w.heap.size w w6 by first | exact HB.out.trans (b6.mono (B' := w.heap.size) (by have := HZ.out; omega)) | exact HB.out.drew.trans (b6.mono (B' := w.heap.size) (by have := HZ.out; omega))) (p := ⟨w1.heap.size, 1, none⟩) (by have := HZ.out; simp only; omega) (.slice A6 l6.length c6))
        have Y9 := Lib.hid (show l6.length ≤ n + (i + 1) by have := HL.out; omega)
        clear z6 o6 b6 k6 hl6
        go_wp2_with fail
        go_roundw
        case rel => exact ⟨i + 1, l6, A6, c6, by omega, by simp, Y7.out, Y9.out, hk6, Y1.out, Y2.out, Y6.out, Y8.out⟩
        case measure => simp [intOf]; omega
    · obtain rfl : i = m := by omega
      have h0' : ¬ ((i : Int) < (i : Int)) := by omega
      have hlm : l'.length ≤ 1048576 := by have := HL.out; have := HN.out; have := HM.out; omega
      have hsl := ho.sl
      have p0 := x1.c (k := 0) rfl
      have p1 := x1.c (k := 1) rfl
      go_wp2_with fail
      refine (specVersOk (now + 1) A' l'.length c' l' _ hsl hk hlm).mono ?_
      rintro e w2 ⟨rfl, hb2⟩
      replace x1 := x1.on hb2
      replace x2 := x2.on hb2
      replace x6 := x6.on hb2
      replace ho := ho.on hb2
      have b2 := bel_trans hb hb2
      clear p0 p1 s0 s1 hsl hb hb2 hlm
      have p0 := x1.c (k := 0) rfl
      have p1 := x1.c (k := 1) rfl
      have s0 := x6.c (k := 0) rfl
      have s1 := x6.c (k := 1) rfl
      have r0 := x2.c (k := 0) rfl
      have r1 := x2.c (k := 1) rfl
      have f0 := x2.f 0
      have f1 := x2.f 1
      have hz2 := x2.lt
      have hle : w.heap.size ≤ w0.heap.size := by have := HZ.out; omega
      cases hok : versOk (now + 1) l'
      · clear hok
        go_wp2_with fail
        refine (l2Copy now A n c l w2 (HR.out.on b2) (by have := HN.out; omega)).mono ?_
        rintro e w3 ⟨A3, c3, rfl, o3, b3⟩
        replace x2 := x2.on b3
        have b4 := bel_trans b2 b3
        clear p0 p1 s0 s1 r0 r1 f0 f1
        have r0 := x2.c (k := 0) rfl
        have r1 := x2.c (k := 1) rfl
        have f0 := x2.f 0
        have f1 := x2.f 1
        have O5 := Lib.hid (((o3.box x2 (by decide) (k := 0) (v := .int .i64 now)).box (x2.set 0 (.int .i64 now)) (by decide) (k := 1) (v := .slice A3 l.length c3)).lower (base' := w.heap.size) b2.size)
        have B5 := Lib.hid (bel_set (bel_set b4 (p := ⟨w.heap.size + 1, 0, none⟩) (by simp only; omega) (.int .i64 now)) (p := ⟨w.heap.size + 1, 1, none⟩) (by simp only; omega) (.slice A3 l.length c3))
        have z0 := Lib.hid ((((x2.set 0 (.int .i64 now)).set 1 (.slice A3 l.length c3))).c (k := 0) rfl)
        have z1 := Lib.hid ((((x2.set 0 (.int .i64 now)).set 1 (.slice A3 l.length c3))).c (k := 1) rfl)
        go_wp2_with fail
        exact bodyPost_ret (v := .tuple #[.agg #[.int .i64 now, .slice A3 l.length c3], .bool false]) (by simp [results, Try.results137, go_sem, z0.out, z1.out]) rfl ⟨_, _, rfl, now, A3, c3, l, rfl, HP.out, O5.out, B5.out⟩
      · have HQ := Lib.hid (versOk_iff.1 hok)
        clear hok
        have O5 := Lib.hid (((ho.box x2 (by decide) (k := 0) (v := .int .i64 (now + 1))).box (x2.set 0 (.int .i64 (now + 1))) (by decide) (k := 1) (v := .slice A' l'.length c')).lower (base' := w.heap.size) hle)
        have B5 := Lib.hid (bel_set (bel_set b2 (p := ⟨w.heap.size + 1, 0, none⟩) (by simp only; omega) (.int .i64 (now + 1))) (p := ⟨w.heap.size + 1, 1, none⟩) (by simp only; omega) (.slice A' l'.length c'))
        have z0 := Lib.hid ((((x2.set 0 (.int .i64 (now + 1))).set 1 (.slice A' l'.length c'))).c (k := 0) rfl)
        have z1 := Lib.hid ((((x2.set 0 (.int .i64 (now + 1))).set 1 (.slice A' l'.length c'))).c (k := 1) rfl)
        go_wp2_with fail
        exact bodyPost_ret (v := .tuple #[.agg #[.int .i64 (now + 1), .slice A' l'.length c'], .bool true]) (by simp [results, Try.results137, go_sem, z0.out, z1.out]) rfl ⟨_, _, rfl, now + 1, A', c', l', rfl, HQ.out, O5.out, B5.out⟩
end Go.Proofs.Ytpofgidhhcolfaa
