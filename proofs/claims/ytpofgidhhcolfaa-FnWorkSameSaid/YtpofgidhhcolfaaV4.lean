/- Contracts: l2At, VersOk of the reference. -/
import Derived.Test.YtpofgidhhcolfaaV3
import Derived.Test.YtpofgidhhcolfaaB9
import Derived.Test.YtpofgidhhcolfaaV2
namespace Go.Proofs.Ytpofgidhhcolfaa
open Go.RowKit

theorem at_in {l : List Ver} {t : Int} {i : Nat} {x : Ver} (h : l[i]? = some x) (hp : vis t x = true) : atL (l.take (i + 1)) t = atL (l.take i) t ++ [(x.1, x.2.1)] := by
  obtain ⟨hk, rfl⟩ := List.getElem?_eq_some_iff.1 h
  unfold atL
  rw [List.take_succ_eq_append_getElem hk, List.filter_append, List.map_append]; simp [hp]
theorem at_out {l : List Ver} {t : Int} {i : Nat} {x : Ver} (h : l[i]? = some x) (hp : vis t x = false) : atL (l.take (i + 1)) t = atL (l.take i) t := by
  obtain ⟨hk, rfl⟩ := List.getElem?_eq_some_iff.1 h
  unfold atL
  rw [List.take_succ_eq_append_getElem hk, List.filter_append, List.map_append]; simp [hp]
theorem at_len (l : List Ver) (t : Int) : (atL l t).length ≤ l.length := by unfold atL; rw [List.length_map]; exact List.length_filter_le _ _
theorem at_seen (l : List Ver) (t : Int) : (atL l t).length = seen l t := by unfold atL seen; rw [List.length_map]
theorem at_all {l : List Ver} {n : Nat} (h : l.length = n) (t : Int) : atL (l.take n) t = atL l t := by rw [List.take_of_length_le (by omega)]
set_option maxHeartbeats 2000000 in
set_option maxRecDepth 100000 in
theorem specAt (now : Int) (A : Option Addr) (n c : Nat) (l : List Ver) (t : Int) (w : World) (hr : Sl encVer w w.heap.size A n l) (hn : n ≤ 1048576) :
    Calls Try.prog 90 #[.agg #[.int .i64 now, .slice A n c], .int .i64 t] w (OwnPost w (atL l t)) := by
  obtain ⟨i0, hi0, hz0, hz1, hz2⟩ := info_parts info46
  have HL := Lib.hid hr.len
  have HN := Lib.hid hn
  have HR := Lib.hid hr
  have b0 := bel_alloc (Below.refl _ w) (.cells #[.int .i64 now, .slice A n c] 39)
  obtain ⟨p0, p1⟩ := cell_new2Vers w (.int .i64 now) (.slice A n c) 39
  have b1 := bel_alloc b0 (.cells #[] 117)
  have p2 := ((bel_alloc (Below.refl _ (w.alloc (.cells #[.int .i64 now, .slice A n c] 39))) (.cells #[] 117)).cell (p := ⟨w.heap.size, 1, none⟩) (by simp)).trans p1
  have o1 := Own.made0 (enc := encRow) (sz := 2) (e := 117) (base := w.heap.size + 1) (w.alloc (.cells #[.int .i64 now, .slice A n c] 39)) (by simp)
  generalize hw1 : (w.alloc (.cells #[.int .i64 now, .slice A n c] 39)).alloc (.cells #[] 117) = w1 at *
  have hz1' : w.heap.size < w1.heap.size := by rw [← hw1]; simp; omega
  have HW := Lib.hid hw1
  clear hw1 hn hr p0 p1
  go_enter Try.func90, Try.ntmps90
  go_wp2_with fail
  rw [HW.out]
  go_loopw [5, 6] (fun v5 v6 wr => ∃ (i : Nat), i ≤ n ∧ v6 = .int .i64 i ∧ Own encRow 2 117 wr (w.heap.size + 1) v5 (atL (l.take i) t) ∧ Below w.heap.size w wr ∧ wr.cell? ⟨w.heap.size, 1, none⟩ = some (.slice A n c) ∧ w.heap.size < wr.heap.size) (fun _ v6 _ => n - (intOf v6).toNat)
  case atStart => exact ⟨0, Nat.zero_le _, rfl, by simpa [atL] using o1, b1, p2, hz1'⟩
  case round =>
    obtain ⟨i, hin, rfl, ho, hb, hc, hzr⟩ := hrel
    by_cases h0 : i < n
    · have h0' : (i : Int) < (n : Int) := by omega
      have j0 : (0 : Int) ≤ (i : Int) := by omega
      have j5 : IntKind.i64.wrap ((i : Int) + 1) = (i : Int) + 1 := IntWalk.i64_in _ (by have := HN.out; omega)
      have j6 : wrap64 ((i : Int) + 1) = (i : Int) + 1 := IntWalk.wrap64_in _ (by have := HN.out; omega)
      have hlen : (atL (l.take i) t).length ≤ i := by
        refine Nat.le_trans (at_len _ _) ?_; rw [List.length_take]; omega
      obtain ⟨b, off, rfl, hbb⟩ := HR.out.spot (by omega)
      obtain ⟨f0, f1, f2, f3, hx, e0, e1, e2, e3⟩ := atVer (HR.out.keep hb) h0
      have HX := Lib.hid hx
      clear hx
      have hba := bel_alloc (Below.refl _ wr) (.cells #[.string f0, .int .i64 f1, .int .i64 f2, .int .i64 f3] 77)
      have hcc := (hba.cell (p := ⟨w.heap.size, 1, none⟩) hzr).trans hc
      have hza : w.heap.size < (wr.alloc (.cells #[.string f0, .int .i64 f1, .int .i64 f2, .int .i64 f3] 77)).heap.size := by simp; omega
      cases hp : vis t (f0, f1, f2, f3)
      · have FO := Lib.hid (at_out HX.out hp)
        have hp' : ¬ (f2 ≤ t ∧ (f3 = 0 ∨ t < f3)) := by
          intro h
          have : vis t (f0, f1, f2, f3) = true := by simp only [vis, Bool.and_eq_true, Bool.or_eq_true, decide_eq_true_eq]; exact h
          rw [hp] at this; cases this
        have HP := Lib.hid hp'
        clear hp hp'
        go_wp2_with fail
        all_goals first
          | (exfalso; have := HP.out; grind)
          | (go_roundw
             case rel => exact ⟨i + 1, by omega, by simp, by rw [FO.out]; exact ho.alloc _, bel_alloc hb _, hcc, hza⟩
             case measure => simp [intOf]; omega)
      · have FI := Lib.hid (at_in HX.out hp)
        have hp' : f2 ≤ t ∧ (f3 = 0 ∨ t < f3) := by
          simpa only [vis, Bool.and_eq_true, Bool.or_eq_true, decide_eq_true_eq] using hp
        obtain ⟨hp1, hp2⟩ := hp'
        generalize atL (l.take i) t = o at *
        have hz := hb.size
        obtain ⟨av, cv, rfl⟩ : ∃ a c, u5 = .slice a o.length c := by
          obtain ⟨a, c, h, _⟩ := ho.form; exact ⟨a, c, h⟩
        have q1 := (ho.alloc (.cells #[.string f0, .int .i64 f1, .int .i64 f2, .int .i64 f3] 77)).alloc (.cells #[.string f0, .int .i64 f1] 117)
        have q2 : Sl encRow ((wr.alloc (.cells #[.string f0, .int .i64 f1, .int .i64 f2, .int .i64 f3] 77)).alloc (.cells #[.string f0, .int .i64 f1] 117)) (wr.heap.size + 1 + 1) (some ⟨wr.heap.size + 1, 0, none⟩) 1 [(f0, f1)] := by
          have := Sl.lit1 (enc := encRow) (wr.alloc (.cells #[.string f0, .int .i64 f1, .int .i64 f2, .int .i64 f3] 77)) #[.string f0, .int .i64 f1] 117 (f0, f1) rfl
          simpa using this
        have hcd := ((bel_alloc (Below.refl _ (wr.alloc (.cells #[.string f0, .int .i64 f1, .int .i64 f2, .int .i64 f3] 77))) (.cells #[.string f0, .int .i64 f1] 117)).cell (p := ⟨w.heap.size, 1, none⟩) hza).trans hcc
        have hzb : w.heap.size < ((wr.alloc (.cells #[.string f0, .int .i64 f1, .int .i64 f2, .int .i64 f3] 77)).alloc (.cells #[.string f0, .int .i64 f1] 117)).heap.size := by simp; omega
        have hcase : (f3 == 0) = true ∨ ((f3 == 0) = false ∧ t < f3) := by
          rcases hp2 with h | h
          · exact .inl (by simp [h])
          · cases hq : (f3 == 0)
            · exact .inr ⟨rfl, h⟩
            · exact .inl rfl
        clear hp hp2
        rcases hcase with h3 | ⟨h3, h4⟩
        all_goals
          go_wp2_with (at_builtin; refine wpList_append_sl _ rfl _ _ 59 rfl (w.heap.size + 1) 117 i0 _ 2 24 Try.underlying59 hi0 hz0 hz1 hz2 rfl (by decide) encRow_len encRow_one _ o rfl q1 _ (some ⟨wr.heap.size + 1, 0, none⟩) 1 1 [(f0, f1)] rfl q2 ?c3 ?c4 ?c5 ?_)
          case c3 => have := HN.out; unfold maxLen; omega
          case c4 => have := HN.out; omega
          case c5 => have := hb.size; first | omega | (simp; omega)
          intro v2 w3 ho3 hg3
          have hb3 : Below w.heap.size w w3 := bel_grown (bel_alloc (bel_alloc hb _) _) hg3 (fun k hk => Nat.le_trans (by omega) (World.ownsRow.lt q1 k hk).1)
          have hg4 : Below (w.heap.size + 1) ((wr.alloc (.cells #[.string f0, .int .i64 f1, .int .i64 f2, .int .i64 f3] 77)).alloc (.cells #[.string f0, .int .i64 f1] 117)) w3 := (Below.refl _ _).grown hg3 (by omega) (fun k hk => (World.ownsRow.lt q1 k hk).1)
          have hc3 := (hg4.cell (p := ⟨w.heap.size, 1, none⟩) (by simp)).trans hcd
          have hz3 := Nat.lt_of_lt_of_le hzb hg4.size
          rw [← FI.out] at ho3
          clear hg3 hg4 q1 q2 hcd hzb hcc hza hc
          go_wp2
          go_roundw
          case rel => exact ⟨i + 1, by omega, by simp, ho3, hb3, hc3, hz3⟩
          case measure => simp [intOf]; omega
    · obtain rfl : i = n := by omega
      have h0' : ¬ (i : Int) < (i : Int) := by omega
      go_wp2_with fail
      go_ret
      exact ⟨_, rfl, by rw [at_all HL.out] at ho; exact ho.lower (by omega), hb⟩
end Go.Proofs.Ytpofgidhhcolfaa
