/- Contract: VersTrim of the reference. -/
import Derived.Test.YtpofgidhhcolfaaT4
import Derived.Deep.RegionLaw
namespace Go.Proofs.Ytpofgidhhcolfaa
open Go.RowKit
attribute [local go_sem ↓] Go.wp_at_zero Go.wp_at_succ

/-- a local of two cells, its whole block -/
def Box2 (W : World) (B : Nat) (t : TypeId) (u v : Value) : Prop := W.heap[B]? = some (.cells #[u, v] t (0, 0))
theorem Box2.lt {W : World} {B : Nat} {t : TypeId} {u v : Value} (h : Box2 W B t u v) : B < W.heap.size := (Array.getElem?_eq_some_iff.1 h).1
theorem Box2.c0 {W : World} {B : Nat} {t : TypeId} {u v : Value} (h : Box2 W B t u v) : W.cell? ⟨B, 0, none⟩ = some u := by simp [World.cell?, show W.heap[B]? = _ from h]
theorem Box2.c1 {W : World} {B : Nat} {t : TypeId} {u v : Value} (h : Box2 W B t u v) : W.cell? ⟨B, 1, none⟩ = some v := by simp [World.cell?, show W.heap[B]? = _ from h]
theorem Box2.f {W : World} {B : Nat} {t : TypeId} {u v : Value} (h : Box2 W B t u v) (k : Nat) : W.frozen? ⟨B, k, none⟩ = false := by simp [World.frozen?, show W.heap[B]? = _ from h]
theorem Box2.new (W : World) (t : TypeId) (u v : Value) : Box2 (W.alloc (.cells #[u, v] t)) W.heap.size t u v := World.alloc_heap_new W _
theorem Box2.on {W W' : World} {B : Nat} {t : TypeId} {u v : Value} (h : Box2 W B t u v) (hb : Below W.heap.size W W') : Box2 W' B t u v := (hb.block B h.lt).trans h
theorem Box2.turn {A : Option Addr} {W W' : World} {B : Nat} {t : TypeId} {u v : Value} (h : Box2 W B t u v) (ht : Turn A W W') (hne : ∀ x, A = some x → B ≠ x.block) : Box2 W' B t u v :=
  (ht.block B h.lt (by
    cases A with
    | none => simp
    | some x => simpa using hne x rfl)).trans h
theorem Box2.grown {W W' : World} {B : Nat} {t : TypeId} {u v : Value} {row : Option Nat} (h : Box2 W B t u v) (hg : W.grownBy W' row) (hne : some B ≠ row) : Box2 W' B t u v := (hg.block B h.lt hne).trans h
theorem Box2.alloc {W : World} {B : Nat} {t : TypeId} {u v : Value} (h : Box2 W B t u v) (o : Obj) : Box2 (W.alloc o) B t u v := h.on (bel_alloc (Below.refl _ _) o)
theorem Box2.drew {W : World} {B : Nat} {t : TypeId} {u v : Value} (h : Box2 W B t u v) : Box2 W.drew B t u v := h
theorem Box2.other {W : World} {B B' k : Nat} {t : TypeId} {u v x : Value} (h : Box2 W B t u v) (hne : B ≠ B') : Box2 (W.setCell ⟨B', k, none⟩ x) B t u v := (Below.heap_setCell _ _ _ _ (by simpa using hne)).trans h
theorem Box2.set1 {W : World} {B : Nat} {t : TypeId} {u v : Value} (h : Box2 W B t u v) (x : Value) : Box2 (W.setCell ⟨B, 1, none⟩ x) B t u x := by
  obtain ⟨hlt, hk⟩ := Array.getElem?_eq_some_iff.1 h
  show (W.heap.modify B _)[B]? = _
  rw [Array.getElem?_eq_getElem (by rw [Array.size_modify]; exact hlt), Array.getElem_modify_self, hk]
  rfl
theorem Box2.apart {α : Type} {enc : α → List Value} {sz : Nat} {e : TypeId} {W : World} {base n c B : Nat} {t : TypeId} {u v : Value} {A : Option Addr} {l : List α} (h : Box2 W B t u v) (hte : t ≠ e) (ho : Own enc sz e W base (.slice A n c) l) : ∀ x, A = some x → B ≠ x.block := by
  intro x hx hB
  rcases ho.2 with ⟨h1, _⟩ | ⟨g, cap, cur, h1, _, hh, _⟩
  · injection h1 with h1; rw [h1] at hx; cases hx
  · injection h1 with h1
    rw [h1] at hx
    cases hx
    simp only at hB
    subst hB
    rw [show W.heap[_]? = _ from h] at hh
    simp only [Option.some.injEq, Obj.cells.injEq] at hh
    exact hte hh.2.1
theorem Own.ownBlock {α : Type} {enc : α → List Value} {sz : Nat} {e : TypeId} {w : World} {base n c : Nat} {A : Option Addr} {l : List α} (h : Own enc sz e w base (.slice A n c) l) (k : Nat) (hk : (Value.slice A n c).ownBlock = some k) : ∃ x, A = some x ∧ x.block = k := by
  cases A with
  | none => simp [Value.ownBlock] at hk
  | some x => exact ⟨x, rfl, by simpa [Value.ownBlock] using hk⟩
theorem Box2.appended {α : Type} {enc : α → List Value} {sz : Nat} {e : TypeId} {W W' : World} {base n c B : Nat} {t : TypeId} {u v : Value} {A : Option Addr} {l : List α} (h : Box2 W B t u v) (hte : t ≠ e) (ho : Own enc sz e W base (.slice A n c) l) (hg : W.grownBy W' (Value.slice A n c).ownBlock) : Box2 W' B t u v :=
  h.grown hg (fun eq => by
    obtain ⟨x, hx, hb⟩ := ho.ownBlock B eq.symm
    exact h.apart hte ho x hx hb.symm)
def TrimRel (w : World) (now : Int) (A : Option Addr) (n c Bx base : Nat) (l : List Ver) (t : Int) (v6 : Value) (wr : World) : Prop :=
  ∃ (i : Nat) (Aq : Option Addr) (cq : Nat), i ≤ n ∧ v6 = .int .i64 i ∧ Box2 wr w.heap.size 39 (.int .i64 now) (.slice A n c) ∧ Box2 wr (w.heap.size + 1) 39 (.int .i64 0) (.slice none 0 0) ∧
    Box2 wr Bx 39 (.int .i64 now) (.slice Aq (trimL (l.take i) t).length cq) ∧ Own encVer 4 77 wr base (.slice Aq (trimL (l.take i) t).length cq) (trimL (l.take i) t) ∧ Below w.heap.size w wr
set_option maxHeartbeats 4000000 in
set_option maxRecDepth 100000 in
theorem specVersTrim (now : Int) (A : Option Addr) (n c : Nat) (l : List Ver) (t : Int) (w : World) (hr : Sl encVer w w.heap.size A n l) (hk : VerSWf l) (hn : n ≤ 1048576) :
    Calls Try.prog 51 #[.agg #[.int .i64 now, .slice A n c], .int .i64 t] w (VersPost w (trimNow now l) (trimRes now l t)) := by
  obtain ⟨i0, hi0, hz0, hz1, hz2⟩ := info_parts info77
  have HL := Lib.hid hr.len
  have HR := Lib.hid hr
  have HN := Lib.hid hn
  have HK := Lib.hid hk
  have xv := (Box2.new w 39 (.int .i64 now) (.slice A n c)).alloc (.cells #[.int .i64 0, .slice none 0 0] 39)
  have xr := Box2.new (w.alloc (.cells #[.int .i64 now, .slice A n c] 39)) 39 (.int .i64 0) (.slice none 0 0)
  simp only [World.size_alloc] at xr
  have b0 := bel_alloc (bel_alloc (Below.refl _ w) (.cells #[.int .i64 now, .slice A n c] 39)) (.cells #[.int .i64 0, .slice none 0 0] 39)
  have p0 := xv.c0
  have p1 := xv.c1
  clear hr hn hk
  go_enter Try.func51, Try.ntmps51
  go_wp2_with fail
  refine (specVersOk now A n c l _ (HR.out.on b0) HK.out HN.out).mono ?_
  rintro e w1 ⟨rfl, hb1⟩
  replace xv := xv.on hb1
  replace xr := xr.on hb1
  have b1 := bel_trans b0 hb1
  clear b0 hb1 p0 p1
  have p0 := xv.c0
  have p1 := xv.c1
  have r0 := xr.c0
  have r1 := xr.c1
  have f0 := xr.f 0
  have f1 := xr.f 1
  cases hok : versOk now l
  · have HA := Lib.hid (trim_bad (t := t) hok)
    have B2 := Lib.hid (bel_set (bel_set b1 (p := ⟨w.heap.size + 1, 0, none⟩) (by simp only; omega) (.int .i64 0)) (p := ⟨w.heap.size + 1, 1, none⟩) (by simp only; omega) (.slice none 0 0))
    clear hok
    go_wp2_with fail
    exact bodyPost_ret (v := .agg #[.int .i64 0, .slice none 0 0]) (by simp [results, Try.results51, go_sem, r0, r1]) rfl ⟨none, 0, by rw [HA.out.1, HA.out.2]; rfl, by rw [HA.out.2]; exact Own.nil _ _, B2.out⟩
  · have HA := Lib.hid (trim_ok (t := t) hok)
    have hzw := b1.size
    have hzr := xr.lt
    have o1 := Own.made0 (enc := encVer) (sz := 4) (e := 77) w1 (Nat.le_refl w1.heap.size)
    have o2 := o1.alloc (.cells #[.int .i64 now, .slice (some ⟨w1.heap.size, 0, none⟩) 0 0] 39)
    have xx := Box2.new (w1.alloc (.cells #[] 77)) 39 (.int .i64 now) (.slice (some ⟨w1.heap.size, 0, none⟩) 0 0)
    simp only [World.size_alloc] at xx
    have XV := Lib.hid ((xv.alloc (.cells #[] 77)).alloc (.cells #[.int .i64 now, .slice (some ⟨w1.heap.size, 0, none⟩) 0 0] 39))
    have XR := Lib.hid ((xr.alloc (.cells #[] 77)).alloc (.cells #[.int .i64 now, .slice (some ⟨w1.heap.size, 0, none⟩) 0 0] 39))
    have XX := Lib.hid xx
    have O2 := Lib.hid o2
    have B3 := Lib.hid (bel_alloc (bel_alloc b1 (.cells #[] 77)) (.cells #[.int .i64 now, .slice (some ⟨w1.heap.size, 0, none⟩) 0 0] 39))
    clear hok o1 o2 xx
    go_wp2_with fail
    go_loopw [6] (fun v6 wr => TrimRel w now A n c (w1.heap.size + 1) w1.heap.size l t v6 wr) (fun v6 _ => n - (intOf v6).toNat)
    case atStart => exact ⟨0, some ⟨w1.heap.size, 0, none⟩, 0, Nat.zero_le _, rfl, XV.out, XR.out, XX.out, O2.out, B3.out⟩
    case round =>
      clear xv xr b1 p0 p1 r0 r1 f0 f1
      obtain ⟨i, Aq, cq, hin, rfl, xv, xr, xx, ho, hb⟩ := hrel
      have p1 := xv.c1
      have r0 := xr.c0
      have r1 := xr.c1
      have f0 := xr.f 0
      have f1 := xr.f 1
      have s0 := xx.c0
      have s1 := xx.c1
      have fs := xx.f 1
      by_cases h0 : i < n
      · have h0' : (i : Int) < (n : Int) := by omega
        have j0 : (0 : Int) ≤ (i : Int) := by omega
        have hn' : (n : Int) ≤ 1048576 := by have := HN.out; omega
        obtain ⟨b, off, rfl, hbb⟩ := HR.out.spot (by omega)
        obtain ⟨g0, g1, g2, g3, hx, e0, e1, e2, e3⟩ := atVer (HR.out.keep hb) h0
        have HX := Lib.hid hx
        have hlen : (trimL (l.take i) t).length ≤ i := Nat.le_trans (trimL_len _ _) (by rw [List.length_take]; omega)
        clear hx
        have hdd : dropV t (g0, g1, g2, g3) = (decide (g3 ≠ 0) && decide (g3 ≤ t)) := rfl
        by_cases hd : g3 ≠ 0 ∧ g3 ≤ t
        · have HOUT := Lib.hid (kept_out HX.out (show dropV t (g0, g1, g2, g3) = true by rw [hdd]; simp [hd]))
          clear hdd
          obtain ⟨hd1, hd2⟩ := hd
          have h3 : (g3 == 0) = false := by simpa using hd1
          clear hd1
          rw [← HOUT.out] at xx ho s1
          have XR2 := Lib.hid xr
          go_wp2_with fail
          go_roundw
          case rel => exact ⟨i + 1, Aq, cq, by omega, by simp, xv, XR2.out, xx, ho, hb⟩
          case measure => simp [intOf]; omega
        · have HIN := Lib.hid (kept_in HX.out (show dropV t (g0, g1, g2, g3) = false by rw [hdd]; simp only [Bool.and_eq_false_iff, decide_eq_false_iff_not]; omega))
          have hcase : (g3 == 0) = true ∨ ((g3 == 0) = false ∧ t < g3) := by
            cases hq : (g3 == 0)
            · have : g3 ≠ 0 := by simpa using hq
              exact .inr ⟨rfl, by omega⟩
            · exact .inl rfl
          clear hdd hd
          generalize trimL (l.take i) t = q at *
          have hq1 : (q.length : Int) ≤ 1048576 := by omega
          have ho2 := (ho.alloc (.cells #[.string g0, .int .i64 g1, .int .i64 g2, .int .i64 g3] 77)).drew
          have hl2 : Sl encVer (wr.alloc (.cells #[.string g0, .int .i64 g1, .int .i64 g2, .int .i64 g3] 77)).drew (wr.heap.size + 1) (some ⟨wr.heap.size, 0, none⟩) 1 [(g0, g1, g2, g3)] := by
            have := Sl.lit1 (enc := encVer) wr #[.string g0, .int .i64 g1, .int .i64 g2, .int .i64 g3] 77 (g0, g1, g2, g3) rfl
            have h : Sl encVer (wr.alloc (.cells #[.string g0, .int .i64 g1, .int .i64 g2, .int .i64 g3] 77)) (wr.heap.size + 1) (some ⟨wr.heap.size, 0, none⟩) 1 [(g0, g1, g2, g3)] := by simpa using this
            exact h
          have s1a := (xx.alloc (.cells #[.string g0, .int .i64 g1, .int .i64 g2, .int .i64 g3] 77)).c1
          have HSa := Lib.hid (show q.length + 1 ≤ maxLen by unfold maxLen; omega)
          have HSb := Lib.hid (show (q.length + 1) * 40 ≤ 140737488355328 by omega)
          have HSc := Lib.hid (show w1.heap.size ≤ (wr.alloc (.cells #[.string g0, .int .i64 g1, .int .i64 g2, .int .i64 g3] 77)).drew.heap.size by have := xx.lt; simp; omega)
          have hb2 := (bel_alloc hb (.cells #[.string g0, .int .i64 g1, .int .i64 g2, .int .i64 g3] 77)).drew
          have xv2 := (xv.alloc (.cells #[.string g0, .int .i64 g1, .int .i64 g2, .int .i64 g3] 77)).drew
          have xr2 := (xr.alloc (.cells #[.string g0, .int .i64 g1, .int .i64 g2, .int .i64 g3] 77)).drew
          have xx2 := (xx.alloc (.cells #[.string g0, .int .i64 g1, .int .i64 g2, .int .i64 g3] 77)).drew
          rcases hcase with h3 | ⟨h3, h4⟩
          all_goals
            go_wp2_with fail
            go_region_law (refine step_append_sl _ (by rfl) (.tmp 40) (.tmp 46) 37 (by rfl) w1.heap.size 77 i0 _ 4 40 Try.underlying37 hi0 hz0 hz1 hz2 rfl (by decide) encVer_len encVer_one (.slice Aq q.length cq) q (by rfl) ho2 _ (some ⟨wr.heap.size, 0, none⟩) 1 1 [(g0, g1, g2, g3)] (by rfl) hl2 HSa.out HSb.out HSc.out ?_; intro v6 w6 o6 g6; obtain ⟨A6, c6, rfl, -, -⟩ := o6.form; have x6 := xx2.appended (by decide) ho2 g6; have fs6 := x6.f 1; have s6 := x6.c1)
          all_goals
            have hlq : (q ++ [(g0, g1, g2, g3)]).length = q.length + 1 := by simp
            rw [hlq] at o6
            have HLQ := Lib.hid hlq
            clear hlq
            have y1 := Lib.hid ((xv2.appended (by decide) ho2 g6).other (B' := w1.heap.size + 1) (k := 1) (x := .slice A6 (q.length + 1) c6) (by omega))
            have y2 := Lib.hid ((xr2.appended (by decide) ho2 g6).other (B' := w1.heap.size + 1) (k := 1) (x := .slice A6 (q.length + 1) c6) (by omega))
            have y3 := Lib.hid (x6.set1 (.slice A6 (q.length + 1) c6))
            have hap := x6.apart (by decide) o6
            have y4 := Lib.hid (o6.far ((Turn.refl (some ⟨w1.heap.size + 1, 0, none⟩) w6).set 1 (.slice A6 (q.length + 1) c6)) (fun x y hx hy => by cases hx; exact hap y hy))
            have y5 := Lib.hid (bel_set (bel_grown hb2 g6 (fun k hk => Nat.le_trans hzw (World.ownsRow.lt ho2 k hk).1)) (p := ⟨w1.heap.size + 1, 1, none⟩) (by simp only; omega) (.slice A6 (q.length + 1) c6))
            clear o6 g6 x6 hap
            go_wp2_with fail
            go_roundw
            case rel => exact ⟨i + 1, A6, c6, by omega, by simp, y1.out, y2.out, by rw [HIN.out, HLQ.out]; exact y3.out, by rw [HIN.out, HLQ.out]; exact y4.out, y5.out⟩
            case measure => simp [intOf]; omega
      · obtain rfl : i = n := by omega
        have h0' : ¬ ((i : Int) < (i : Int)) := by omega
        rw [List.take_of_length_le (Nat.le_of_eq HL.out)] at xx ho s1
        have hneA := xr.apart (by decide) ho
        generalize trimL l t = q at *
        have O5 := Lib.hid ((ho.far (((Turn.refl (some ⟨w.heap.size + 1, 0, none⟩) wr).set 0 (.int .i64 now)).set 1 (.slice Aq q.length cq)) (fun x y hx hy => by cases hx; exact hneA y hy)).lower hzw)
        have B5 := Lib.hid (bel_set (bel_set hb (p := ⟨w.heap.size + 1, 0, none⟩) (by simp only; omega) (.int .i64 now)) (p := ⟨w.heap.size + 1, 1, none⟩) (by simp only; omega) (.slice Aq q.length cq))
        go_wp2_with fail
        exact bodyPost_ret (v := .agg #[.int .i64 now, .slice Aq q.length cq]) (by simp [results, Try.results51, go_sem, r0, r1]) rfl ⟨Aq, cq, by rw [HA.out.1, HA.out.2], by rw [HA.out.2]; exact O5.out, B5.out⟩
end Go.Proofs.Ytpofgidhhcolfaa
