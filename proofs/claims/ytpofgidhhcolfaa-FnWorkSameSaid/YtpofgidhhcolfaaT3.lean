/- Contracts: slices.DeleteFunc over Ver; VersTrim of the program. -/
import Derived.Test.YtpofgidhhcolfaaT2
import Derived.Test.YtpofgidhhcolfaaM0
namespace Go.Proofs.Ytpofgidhhcolfaa
open Go.RowKit

theorem clearTail (g i n c base : Nat) (q : List Ver) (wr : World) (ho : Own encVer 4 77 wr base (.slice (some ⟨g, 0, none⟩) n c) q) (hi : i < n) :
    ∃ Z, ∀ ty, (Builtin.clear_ #[37] ty #[.slice (some ⟨g, i * 4, none⟩) (n - i) (c - i)]).run Try.prog wr = .ok (.tuple #[]) (wr.setCells g (i * 4) Z) := by
  have hlen := ho.len
  have hz : (Builtin.zeroCells (Value.agg #[.string ByteArray.empty, .int .i64 0, .int .i64 0, .int .i64 0]).cells (n - i)).toList.length = (n - i) * 4 := by rw [Array.length_toList, zeroCells_size]
  have hst := run_storeCells_cells (P := Try.prog) g (i * 4) (Builtin.zeroCells (Value.agg #[.string ByteArray.empty, .int .i64 0, .int .i64 0, .int .i64 0]).cells (n - i)).toList 0 wr
    (by
      intro j hj
      rw [hz] at hj
      rw [World.ownsRow.cellAt ho.at_ (i * 4 + 0 + j) (by omega), List.getElem?_eq_getElem (by rw [cellsOf_length encVer_len]; omega)]
      rfl)
    (fun j _ => ho.free _)
    (by
      intro v hv
      simp only [Builtin.zeroCells, Array.toList_map, List.mem_map] at hv
      obtain ⟨k, _, rfl⟩ := hv
      have hk : ∀ m : Nat, m < 4 → ((Value.agg #[.string ByteArray.empty, .int .i64 0, .int .i64 0, .int .i64 0]).cells[m]!).oneCell' = true := by decide
      exact hk _ (Nat.mod_lt _ (by decide)))
  simp only [Nat.add_zero] at hst
  refine ⟨(Builtin.zeroCells (Value.agg #[.string ByteArray.empty, .int .i64 0, .int .i64 0, .int .i64 0]).cells (n - i)).toList, fun ty => ?_⟩
  obtain ⟨m, hm⟩ : ∃ m, n - i = m + 1 := ⟨n - i - 1, by omega⟩
  rw [hm] at hst ⊢
  simp [Builtin.clear_, run_underlying Try.underlying37]
  show ((storeCells ⟨g, i * 4, none⟩ (Builtin.zeroCells (Value.agg #[.string ByteArray.empty, .int .i64 0, .int .i64 0, .int .i64 0]).cells (m + 1)).toList).run Try.prog wr).andThen _ = _
  rw [hst]
  rfl
set_option maxHeartbeats 4000000 in
set_option maxRecDepth 100000 in
theorem deleteFunc (A : Option Addr) (n c base : Nat) (l : List Ver) (t : Int) (gt : Nat) (w : World) (ho : Own encVer 4 77 w base (.slice A n c) l) (hg : w.cell? ⟨gt, 0, none⟩ = some (.int .i64 t)) (hgA : ∀ x, A = some x → gt ≠ x.block) (hn : n ≤ 1048576) :
    Calls Try.prog 97 #[.slice A n c, .func (.func 98) #[] #[.pointer (some ⟨gt, 0, none⟩)]] w (DelPost w base A c (trimL l t)) := by
  have HL := Lib.hid ho.len
  have HG := Lib.hid hg
  have HO := Lib.hid ho
  have HN := Lib.hid hn
  have C := Lib.hid (indexFunc A n c l t gt w ho.sl hg hn)
  clear ho hg hn
  go_enter Try.func97, Try.ntmps97
  go_wp2_with fail
  refine C.out.mono ?_
  rintro e w1 ⟨hb1, (⟨i, x, rfl, hak, hx, hd⟩ | ⟨rfl, hak⟩)⟩
  · have hi := (List.getElem?_eq_some_iff.1 hx).1
    rw [HL.out] at hi
    have HD0 := Lib.hid (DelRow.start hak hx hd)
    clear hak hx hd
    obtain ⟨g, rfl, hgb, hgz⟩ := HO.out.spot (by omega)
    obtain ⟨_, _, hv, hnc, hcm⟩ := HO.out.form
    simp only [Value.slice.injEq] at hv
    obtain ⟨-, -, rfl⟩ := hv
    rw [HL.out] at hnc
    have hgg : gt ≠ g := hgA _ rfl
    have O1 := Lib.hid (HO.out.on hb1)
    have T1 := Lib.hid (show Turn (some ⟨g, 0, none⟩) w w1 from Turn.of_below hb1)
    have hie : ((i : Int) == -1) = false := by simp <;> omega
    have hn' : (n : Int) ≤ 1048576 := by have := HN.out; omega
    have hi' : (i : Int) < (n : Int) := by omega
    clear hb1 hgA hcm
    go_wp2_with fail
    go_loopw [5, 6] (fun v5 v6 wr => ∃ (i j : Nat) (q : List Ver), v5 = .int .i64 i ∧ v6 = .int .i64 j ∧ DelRow l t j i q ∧ Own encVer 4 77 wr base (.slice (some ⟨g, 0, none⟩) n c) q ∧ Turn (some ⟨g, 0, none⟩) w wr) (fun _ v6 _ => n - (intOf v6).toNat)
    case atStart => exact ⟨i, i + 1, l, rfl, by simp, HD0.out, O1.out, T1.out⟩
    case round =>
      obtain ⟨i, j, q, rfl, rfl, hdr, hown, ht⟩ := hrel
      clear hie hi' hi
      have hjn : j ≤ n := by rw [← HL.out]; exact hdr.2.2.1
      have hij : i < j := hdr.2.1
      by_cases hlt : j < n
      · have j0 : (0 : Int) ≤ (j : Int) := by omega
        have j1 : (j : Int) < (n : Int) := by omega
        have i0 : (0 : Int) ≤ (i : Int) := by omega
        have i1 : (i : Int) < (n : Int) := by omega
        obtain ⟨⟨f0, f1, f2, f3⟩, hx⟩ : ∃ x, l[j]? = some x := ⟨_, List.getElem?_eq_getElem (by rw [HL.out]; exact hlt)⟩
        have HX := Lib.hid hx
        have hqx : q[j]? = some (f0, f1, f2, f3) := hdr.at_.trans hx
        have HDR := Lib.hid hdr
        clear hx hdr
        obtain ⟨q0, q1, q2, q3, -, -, -, -⟩ := ownVer hown hqx
        have hba := bel_alloc (Below.refl _ wr) (.cells #[.string f0, .int .i64 f1, .int .i64 f2, .int .i64 f3] 77)
        obtain ⟨r0, r1, r2, r3⟩ := cell_new4Ver wr (f0, f1, f2, f3) 77
        simp only at r0 r1 r2 r3
        have hgt1 := keepC hba (keepTA ht HG.out (by rintro x hx; cases hx; exact hgg))
        clear hqx
        go_wp2_with fail
        refine (dropC f0 f1 f2 f3 t gt _ hgt1).mono ?_
        rintro e w2 ⟨rfl, hb2⟩
        replace r0 := keepC hb2 r0
        replace r1 := keepC hb2 r1
        replace r2 := keepC hb2 r2
        replace r3 := keepC hb2 r3
        have hb3 := bel_trans hba hb2
        have hown2 := hown.on hb3
        have ht2 := ht.below hb3
        clear hown ht q0 q1 q2 q3 hgt1 hba hb2 hb3
        cases hd : dropV t (f0, f1, f2, f3)
        · have HIN := Lib.hid (HDR.out.in_ HX.out hd)
          clear hd
          obtain ⟨⟨y0, y1, y2, y3⟩, hy⟩ : ∃ y, q[i]? = some y := ⟨_, List.getElem?_eq_getElem (by rw [HDR.out.1, HL.out]; omega)⟩
          obtain ⟨s0, s1, s2, s3, fz0, fz1, fz2, fz3⟩ := ownVer hown2 hy
          have O2 := Lib.hid (setVer hown2 i (f0 := f0) (f1 := f1) (f2 := f2) (f3 := f3) hy)
          have T2 := Lib.hid ((((ht2.set (i * 4) (.string f0)).set (i * 4 + 1) (.int .i64 f1)).set (i * 4 + 2) (.int .i64 f2)).set (i * 4 + 3) (.int .i64 f3))
          clear hy hown2 ht2
          go_wp2_with fail
          go_roundw
          case rel => exact ⟨i + 1, j + 1, _, by simp, by simp, HIN.out, O2.out, T2.out⟩
          case measure => simp [intOf]; omega
        · have HOUT := Lib.hid (HDR.out.out HX.out hd)
          clear hd
          go_wp2_with fail
          go_roundw
          case rel => exact ⟨i, j + 1, q, rfl, by simp, HOUT.out, hown2, ht2⟩
          case measure => simp [intOf]; omega
      · obtain rfl : j = n := by omega
        obtain ⟨Z, hcl⟩ := clearTail g i j c base q wr hown hij
        have hE : trimL l t = q.take i := by
          have h := hdr
          rw [← HL.out] at h
          exact h.end_.symm
        have HE := Lib.hid hE
        have HLN := Lib.hid (show (q.take i).length = i by rw [List.length_take, hdr.1, HL.out]; omega)
        have O3 := Lib.hid (Own.tail encVer_len Z (i * 4) wr (Nat.le_refl _) (hown.front encVer_len (Nat.le_of_lt hij)))
        have T3 := Lib.hid (Turn.setCells Z (i * 4) wr ht)
        have hci : c ≠ i := by omega
        have i0 : (0 : Int) ≤ (i : Int) := by omega
        have i1 : (i : Int) ≤ (j : Int) := by omega
        have i2 : (j : Int) ≤ (c : Int) := by omega
        have i3 : (i : Int) ≤ (c : Int) := by omega
        have hlt' : ¬ ((j : Int) < (j : Int)) := by omega
        clear hE hdr hown ht hlt
        go_wp2_with fail
        go_ret
        refine ⟨?_, ?_, T3.out⟩
        · rw [HE.out, HLN.out]; rfl
        · rw [HE.out, HLN.out]; exact O3.out
  · have hE := Lib.hid (hak.all (Nat.le_refl _))
    clear hak
    have O1 := Lib.hid (HO.out.on hb1)
    have T1 := Lib.hid (show Turn A w w1 from Turn.of_below hb1)
    go_wp2_with fail
    go_ret
    refine ⟨?_, ?_, T1.out⟩
    · rw [hE.out, HL.out]; rfl
    · rw [hE.out, HL.out]; exact O1.out
end Go.Proofs.Ytpofgidhhcolfaa
