/- Contract: VersTrim of the program. -/
import Derived.Test.YtpofgidhhcolfaaT3
namespace Go.Proofs.Ytpofgidhhcolfaa
open Go.RowKit

theorem keepF {W W' : World} (hb : Below W.heap.size W W') {b k : Nat} {v : Value} (c : W.cell? ⟨b, k, none⟩ = some v) (f : W.frozen? ⟨b, k, none⟩ = false) : W'.frozen? ⟨b, k, none⟩ = false :=
  (hb.frozen (p := ⟨b, k, none⟩) (World.block_lt_of_cell? W _ c)).trans f
theorem keepTF {A : Option Addr} {W W' : World} (ht : Turn A W W') {b k : Nat} {v : Value} (c : W.cell? ⟨b, k, none⟩ = some v) (f : W.frozen? ⟨b, k, none⟩ = false) (hne : ∀ x, A = some x → b ≠ x.block) : W'.frozen? ⟨b, k, none⟩ = false := by
  have h := ht.block b (World.block_lt_of_cell? W _ c) (by
    cases A with
    | none => simp
    | some x => simpa using hne x rfl)
  simp only [World.frozen?] at f ⊢
  rw [h]; exact f
theorem frozen_new (w : World) (cs : Array Value) (t : TypeId) (k : Nat) : (w.alloc (.cells cs t)).frozen? ⟨w.heap.size, k, none⟩ = false := by
  have hh := World.alloc_heap_new w (.cells cs t)
  simp only [World.frozen?, hh]
  simp
noncomputable def trimNow (now : Int) (l : List Ver) : Int := if versOk now l = true then now else 0
noncomputable def trimRes (now : Int) (l : List Ver) (t : Int) : List Ver := if versOk now l = true then trimL l t else []
theorem trim_bad {now : Int} {l : List Ver} {t : Int} (h : versOk now l = false) : trimNow now l = 0 ∧ trimRes now l t = [] := by simp [trimNow, trimRes, h]
theorem trim_ok {now : Int} {l : List Ver} {t : Int} (h : versOk now l = true) : trimNow now l = now ∧ trimRes now l t = trimL l t := by simp [trimNow, trimRes, h]
theorem trimRes_len (now : Int) (l : List Ver) (t : Int) : (trimRes now l t).length ≤ l.length := by
  unfold trimRes
  split
  · exact trimL_len l t
  · simp
set_option maxHeartbeats 4000000 in
set_option maxRecDepth 100000 in
theorem implVersTrim (now : Int) (A : Option Addr) (n c : Nat) (l : List Ver) (t : Int) (w : World) (hr : Sl encVer w w.heap.size A n l) (hk : VerSWf l) (hn : n ≤ 1048576) :
    Calls Try.prog 52 #[.agg #[.int .i64 now, .slice A n c], .int .i64 t] w (VersPost w (trimNow now l) (trimRes now l t)) := by
  have HL := Lib.hid hr.len
  have HR := Lib.hid hr
  have HN := Lib.hid hn
  have HK := Lib.hid hk
  have ba := bel_alloc (Below.refl _ w) (.cells #[.int .i64 now, .slice A n c] 39)
  have bb := bel_alloc (Below.refl _ (w.alloc (.cells #[.int .i64 now, .slice A n c] 39))) (.cells #[.int .i64 t] 3)
  have bc := bel_alloc (Below.refl _ ((w.alloc (.cells #[.int .i64 now, .slice A n c] 39)).alloc (.cells #[.int .i64 t] 3))) (.cells #[.int .i64 0, .slice none 0 0] 39)
  obtain ⟨p0, p1⟩ := cell_new2Vers w (.int .i64 now) (.slice A n c) 39
  replace p0 := keepC bc (keepC bb p0)
  replace p1 := keepC bc (keepC bb p1)
  have pt := keepC bc (cell_newL (w.alloc (.cells #[.int .i64 now, .slice A n c] 39)) (.int .i64 t) 3 rfl)
  obtain ⟨r0, r1⟩ := cell_new2Vers ((w.alloc (.cells #[.int .i64 now, .slice A n c] 39)).alloc (.cells #[.int .i64 t] 3)) (.int .i64 0) (.slice none 0 0) 39
  have f0 := frozen_new ((w.alloc (.cells #[.int .i64 now, .slice A n c] 39)).alloc (.cells #[.int .i64 t] 3)) #[.int .i64 0, .slice none 0 0] 39 0
  have f1 := frozen_new ((w.alloc (.cells #[.int .i64 now, .slice A n c] 39)).alloc (.cells #[.int .i64 t] 3)) #[.int .i64 0, .slice none 0 0] 39 1
  simp only [World.size_alloc] at pt r0 r1 f0 f1
  have b0 := bel_trans (bel_trans ba bb) bc
  clear ba bb bc hr hn hk
  go_enter Try.func52, Try.ntmps52
  go_wp2_with fail
  refine (implVersOk now A n c l _ (HR.out.on b0) HK.out HN.out).mono ?_
  rintro e w1 ⟨rfl, hb1⟩
  replace f0 := keepF hb1 r0 f0
  replace f1 := keepF hb1 r1 f1
  replace p0 := keepC hb1 p0
  replace p1 := keepC hb1 p1
  replace pt := keepC hb1 pt
  replace r0 := keepC hb1 r0
  replace r1 := keepC hb1 r1
  have b1 := bel_trans b0 hb1
  clear b0 hb1
  cases hok : versOk now l
  · have HA := Lib.hid (trim_bad (t := t) hok)
    have B2 := Lib.hid (bel_set (bel_set b1 (p := ⟨w.heap.size + 1 + 1, 0, none⟩) (by simp only; omega) (.int .i64 0)) (p := ⟨w.heap.size + 1 + 1, 1, none⟩) (by simp only; omega) (.slice none 0 0))
    clear hok
    go_wp2_with fail
    exact bodyPost_ret (v := .agg #[.int .i64 0, .slice none 0 0]) (by simp [results, Try.results52, go_sem, r0, r1]) rfl ⟨none, 0, by rw [HA.out.1, HA.out.2]; rfl, by rw [HA.out.2]; exact Own.nil _ _, B2.out⟩
  · have HA := Lib.hid (trim_ok (t := t) hok)
    clear hok
    go_wp2_with fail
    refine (versClone now A n c l _ (HR.out.on b1) HN.out).mono ?_
    rintro e w2 ⟨Ac, cc, rfl, oc, hb2⟩
    rw [HL.out] at oc ⊢
    have dv := oc.after p0
    have hzw := b1.size
    have hzr := lt_of_cell r0
    have hz2 := hb2.size
    have dt := oc.after pt
    have dr := oc.after r0
    have zc := fun x hx => Nat.le_trans b1.size (oc.block (a := x) hx).1
    replace f0 := keepF hb2 r0 f0
    replace f1 := keepF hb2 r1 f1
    replace pt := keepC hb2 pt
    replace r0 := keepC hb2 r0
    replace r1 := keepC hb2 r1
    have b2 := bel_trans b1 hb2
    have db := oc.before
    have ha := bel_alloc (Below.refl _ w2) (.cells #[.int .i64 now, .slice Ac n cc] 39)
    obtain ⟨s0, s1⟩ := cell_new2Vers w2 (.int .i64 now) (.slice Ac n cc) 39
    have fs := frozen_new w2 #[.int .i64 now, .slice Ac n cc] 39 1
    replace f0 := keepF ha r0 f0
    replace f1 := keepF ha r1 f1
    replace pt := keepC ha pt
    replace r0 := keepC ha r0
    replace r1 := keepC ha r1
    have o3 := oc.on ha
    have b3 := bel_trans b2 ha
    clear p0 p1 hb2 b1 oc ha dv
    go_wp2_with fail
    refine (deleteFunc Ac n cc w1.heap.size l t (w.heap.size + 1) _ o3 pt dt HN.out).mono ?_
    rintro e w4 ⟨rfl, o4, ht⟩
    replace f0 := keepTF ht r0 f0 dr
    replace f1 := keepTF ht r1 f1 dr
    replace r0 := keepTA ht r0 dr
    replace r1 := keepTA ht r1 dr
    replace fs := keepTF ht s1 fs db
    replace s0 := keepTA ht s0 db
    replace s1 := keepTA ht s1 db
    have b4 := below_of_turnA b3 ht zc
    generalize trimL l t = q at *
    have O5 := Lib.hid (((o4.far ((Turn.refl (some ⟨w2.heap.size, 0, none⟩) w4).set 1 (.slice Ac q.length cc)) (fun x y hx hy => by cases hx; exact db y hy)).far
      (((Turn.refl (some ⟨w.heap.size + 1 + 1, 0, none⟩) _).set 0 (.int .i64 now)).set 1 (.slice Ac q.length cc)) (fun x y hx hy => by cases hx; exact dr y hy)).lower hzw)
    have B5 := Lib.hid (bel_set (bel_set (bel_set b4 (p := ⟨w2.heap.size, 1, none⟩) (by simp only; omega) (.slice Ac q.length cc)) (p := ⟨w.heap.size + 1 + 1, 0, none⟩) (by simp only; omega) (.int .i64 now)) (p := ⟨w.heap.size + 1 + 1, 1, none⟩) (by simp only; omega) (.slice Ac q.length cc))
    have hne : w2.heap.size ≠ w.heap.size + 1 + 1 := by omega
    have hne' : w.heap.size + 1 + 1 ≠ w2.heap.size := by omega
    clear o4 b4 b3 o3 dr dt db zc ht
    go_wp2_with fail
    exact bodyPost_ret (v := .agg #[.int .i64 now, .slice Ac q.length cc]) (by simp [results, Try.results52, go_sem, r0, r1]) rfl ⟨Ac, cc, by rw [HA.out.1, HA.out.2], by rw [HA.out.2]; exact O5.out, B5.out⟩
end Go.Proofs.Ytpofgidhhcolfaa
