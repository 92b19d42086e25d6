/- Contracts: slices.Grow of nil, slices.Concat of two, RowsCut of the program. -/
import Derived.Test.YtndeehlndbdonaaB10
import Derived.Lib.AppendZerosOnto
import Derived.Deep.RegionWith
namespace Go.Proofs.Ytndeehlndbdonaa
open Go.RowKit

set_option maxHeartbeats 1000000 in
set_option maxRecDepth 100000 in
theorem grow (n : Nat) (w : World) (hn : n ≤ 2097152) :
    Calls Try.prog 86 #[.slice none 0 0, .int .i64 n] w (OwnPost w []) := by
  obtain ⟨i0, hi, hz0, hz1, hz2⟩ := info_parts info46
  by_cases h0 : n = 0
  · subst h0
    go_enter Try.func86, Try.ntmps86
    go_wp2
    go_ret
    exact ⟨_, rfl, Own.nil _ _, Below.refl _ _⟩
  · have hrz : ∀ ty, (Builtin.append_ #[26, 3] ty #[.slice none 0 0, .int .i64 (n : Int)]).run Try.prog w =
        .ok (.slice (some ⟨w.heap.size, 0, none⟩) n (grownCap w n 0 46)) (w.drew.alloc (.cells ((#[] : Array Value) ++ Builtin.zeroCells (Value.agg #[.string ByteArray.empty, .int .i64 0]).cells n ++ Builtin.zeroCells (Value.agg #[.string ByteArray.empty, .int .i64 0]).cells (grownCap w n 0 46 - n)) 46)) := fun ty => by
      have h := Lib.run_append_grow_zeros (P := Try.prog) w 26 3 ty 46 i0 _ .i64 .i64 Try.underlying26 Try.underlying3 hi hz0 none 0 0 [] (run_firstCells_none w.drew i0.size 0 0 0) n (by omega) (by omega) (by omega) (by omega)
        (by rw [hz2]; omega) (by rw [Nat.zero_add, hz2]; exact growslice_fits (by omega) (by omega))
      simpa using h
    have hG1 := grownCap_ge w n 0 46
    have hG2 := grownCap_le_maxLen w n 0 46 (by unfold maxLen; omega)
    generalize grownCap w n 0 46 = G at *
    have hsz : ((#[] : Array Value) ++ Builtin.zeroCells (Value.agg #[.string ByteArray.empty, .int .i64 0]).cells n ++ Builtin.zeroCells (Value.agg #[.string ByteArray.empty, .int .i64 0]).cells (G - n)).size = G * 2 := by
      simp only [Array.size_append, size_zeroCells, Array.size_empty, Nat.zero_add]
      show n * 2 + (G - n) * 2 = G * 2
      omega
    generalize ((#[] : Array Value) ++ Builtin.zeroCells (Value.agg #[.string ByteArray.empty, .int .i64 0]).cells n ++ Builtin.zeroCells (Value.agg #[.string ByteArray.empty, .int .i64 0]).cells (G - n)) = Z at *
    have ho := Own.madeCap (enc := encRow) (sz := 2) (e := 46) (base := w.heap.size) w.drew Z G (Nat.le_refl _) hG2 hsz
    have HO := Lib.hid ho
    have HS := Lib.hid hsz
    clear ho hsz
    have hn1 : (0 : Int) < (n : Int) := by omega
    have hg : (n : Int) ≤ (G : Int) := by omega
    unfold maxLen at hG2
    go_enter Try.func86, Try.ntmps86
    go_wp2_with (at_builtin; refine Lib.wpList_append_run _ rfl _ _ _ _ rfl _ _ rfl rfl _ _ (hrz _) ?_)
    go_ret
    exact ⟨_, rfl, HO.out, bel_alloc (Below.refl _ w).drew _⟩

set_option maxHeartbeats 2000000 in
set_option maxRecDepth 100000 in
theorem concat (g : Nat) (A1 A2 : Option Addr) (n1 c1 n2 c2 : Nat) (l1 l2 : List Row) (w : World) (h1 : w.cell? ⟨g, 0, none⟩ = some (.slice A1 n1 c1)) (h2 : w.cell? ⟨g, 1, none⟩ = some (.slice A2 n2 c2))
    (hr1 : Sl encRow w w.heap.size A1 n1 l1) (hr2 : Sl encRow w w.heap.size A2 n2 l2) (hn1 : n1 ≤ 1048576) (hn2 : n2 ≤ 1048576) :
    Calls Try.prog 77 #[.slice (some ⟨g, 0, none⟩) 2 2] w (OwnPost w (l1 ++ l2)) := by
  obtain ⟨i0, hi, hz0, hz1, hz2⟩ := info_parts info46
  have hg := World.block_lt_of_cell? w _ h1
  simp only at hg
  have H1 := Lib.hid h1
  have H2 := Lib.hid h2
  have HL1 := Lib.hid hr1.len
  have HL2 := Lib.hid hr2.len
  have HS := Lib.hid (show n1 + n2 ≤ 2097152 by omega)
  have HS1 := Lib.hid (show ([] : List Row).length + n1 ≤ maxLen by simp [maxLen]; omega)
  have HS2 := Lib.hid (show (([] : List Row).length + n1) * 24 ≤ 140737488355328 by simp; omega)
  have HS3 := Lib.hid (show ([] ++ l1).length + n2 ≤ maxLen by simp [maxLen, hr1.len]; omega)
  have HS4 := Lib.hid (show (([] ++ l1).length + n2) * 24 ≤ 140737488355328 by simp [hr1.len]; omega)
  have m1 : (n1 : Int) ≤ 2000000 := by omega
  have m2 : (n2 : Int) ≤ 2000000 := by omega
  clear hn1 hn2
  go_enter Try.func77, Try.ntmps77
  go_wp2
  go_loopw [3, 11] (fun s i wr => Below w.heap.size w wr ∧ ((i = .int .i64 0 ∧ s = .int .i64 0) ∨ (i = .int .i64 1 ∧ s = .int .i64 n1) ∨ (i = .int .i64 2 ∧ s = .int .i64 ((n1 : Int) + n2)))) (fun _ i _ => 2 - (intOf i).toNat)
  case atStart => exact ⟨Below.refl _ _, .inl ⟨rfl, rfl⟩⟩
  case round =>
    obtain ⟨hbl, ⟨rfl, rfl⟩ | ⟨rfl, rfl⟩ | ⟨rfl, rfl⟩⟩ := hrel
    · have k1 := (hbl.cell (p := ⟨g, 0, none⟩) hg).trans H1.out
      go_wp2
      go_roundw
      case rel => exact ⟨hbl, .inr (.inl ⟨rfl, rfl⟩)⟩
      case measure => simp [intOf]
    · have k2 := (hbl.cell (p := ⟨g, 1, none⟩) hg).trans H2.out
      go_wp2
      go_roundw
      case rel => exact ⟨hbl, .inr (.inr ⟨rfl, rfl⟩)⟩
      case measure => simp [intOf]
    · go_wp2_with fail
      rw [show (n1 : Int) + (n2 : Int) = ((n1 + n2 : Nat) : Int) by omega]
      refine (grow (n1 + n2) _ HS.out).mono ?_
      rintro e w1 ⟨v0, rfl, o0', hb1'⟩
      have o0 := o0'.lower hbl.size
      have hb1 := bel_trans hbl hb1'
      clear o0' hb1' hbl
      go_wp2
      go_loopw [6, 27] (fun s i wr => ∃ lc, Own encRow 2 46 wr w.heap.size s lc ∧ Below w.heap.size w wr ∧ ((i = .int .i64 0 ∧ Hid (lc = [])) ∨ (i = .int .i64 1 ∧ Hid (lc = [] ++ l1)) ∨ (i = .int .i64 2 ∧ Hid (lc = [] ++ l1 ++ l2)))) (fun _ i _ => 2 - (intOf i).toNat)
      case atStart => exact ⟨[], o0, hb1, .inl ⟨rfl, rfl⟩⟩
      case round =>
        clear o0 hb1
        obtain ⟨lc, ho, hbel, ⟨rfl, hl⟩ | ⟨rfl, hl⟩ | ⟨rfl, hl⟩⟩ := hrel
        · have k1 := (hbel.cell (p := ⟨g, 0, none⟩) hg).trans H1.out
          have ho' := ho
          rw [hl.out] at ho'
          clear ho
          have hr := hr1.on hbel
          go_wp2_with (at_builtin; refine wpList_append_sl _ rfl _ _ 26 rfl w.heap.size 46 i0 _ 2 24 Try.underlying26 hi hz0 hz1 hz2 rfl (by decide) encRow_len encRow_one _ [] rfl ho' _ A1 n1 c1 l1 rfl hr HS1.out HS2.out hbel.size ?_)
          intro v2 w3 o3 g3
          have b3 := bel_grown hbel g3 (fun k hk => (World.ownsRow.lt ho' k hk).1)
          clear hr
          go_wp2
          go_roundw
          case rel => exact ⟨_, o3, b3, .inr (.inl ⟨rfl, rfl⟩)⟩
          case measure => simp [intOf]
        · have k2 := (hbel.cell (p := ⟨g, 1, none⟩) hg).trans H2.out
          have ho' := ho
          rw [hl.out] at ho'
          clear ho
          have hr := hr2.on hbel
          go_wp2_with (at_builtin; refine wpList_append_sl _ rfl _ _ 26 rfl w.heap.size 46 i0 _ 2 24 Try.underlying26 hi hz0 hz1 hz2 rfl (by decide) encRow_len encRow_one _ ([] ++ l1) rfl ho' _ A2 n2 c2 l2 rfl hr HS3.out HS4.out hbel.size ?_)
          intro v2 w3 o3 g3
          have b3 := bel_grown hbel g3 (fun k hk => (World.ownsRow.lt ho' k hk).1)
          clear hr
          go_wp2
          go_roundw
          case rel => exact ⟨_, o3, b3, .inr (.inr ⟨rfl, rfl⟩)⟩
          case measure => simp [intOf]
        · have ho' := ho
          rw [hl.out] at ho'
          clear ho
          go_wp2
          go_ret
          exact ⟨_, rfl, by simpa using ho', hbel⟩

noncomputable def cutRes (l : List Row) (key : ByteArray) : List Row × Bool :=
  if rowsOk l = true then (if hit l key = true then (l.take (fnd l key) ++ l.drop (fnd l key + 1), true) else (l, false)) else ([], false)
theorem cutRes_bad {l : List Row} {key : ByteArray} (h : rowsOk l = false) : cutRes l key = ([], false) := by simp [cutRes, h]
theorem cutRes_miss {l : List Row} {key : ByteArray} (h : rowsOk l = true) (k : hit l key = false) : cutRes l key = (l, false) := by simp [cutRes, h, k]
theorem cutRes_hit {l : List Row} {key : ByteArray} {f : Nat} (hf : fnd l key = f) (h : rowsOk l = true) (k : hit l key = true) : cutRes l key = (l.take f ++ l.drop (f + 1), true) := by simp [cutRes, h, k, hf]
theorem cell_pair (w : World) (u v : Value) (t : TypeId) : (w.alloc (.cells #[u, v] t)).cell? ⟨w.heap.size, 0, none⟩ = some u ∧ (w.alloc (.cells #[u, v] t)).cell? ⟨w.heap.size, 1, none⟩ = some v := cell_new2 w u v t
set_option maxHeartbeats 2000000 in
set_option maxRecDepth 100000 in
theorem implRowsCut (A : Option Addr) (n c : Nat) (l : List Row) (key : ByteArray) (w : World) (hr : Sl encRow w w.heap.size A n l) (hk : KeysWf l) (hn : n ≤ 1048576) (hA : Fine A n c) :
    Calls Try.prog 49 #[.slice A n c, .string key] w (PutPost w (cutRes l key)) := by
  have HL := Lib.hid hr.len
  have HN := Lib.hid hn
  clear hn
  cases hok : rowsOk l
  · rw [cutRes_bad hok]
    have HO := Lib.hid hok
    clear hok
    go_enter Try.func49, Try.ntmps49
    go_wp2_with fail
    refine (implRowsOk A n c l w hr hk HN.out).mono ?_
    rintro e w1 ⟨rfl, hb1⟩
    rw [HO.out]
    go_wp2
    go_ret2
    exact ⟨_, rfl, Own.nil _ _, hb1⟩
  · have hP := rowsOk_iff.1 hok
    have HP := Lib.hid hP
    cases hh : hit l key
    · rw [cutRes_miss hok hh]
      have HO := Lib.hid hok
      have HH := Lib.hid hh
      clear hP hok hh
      go_enter Try.func49, Try.ntmps49
      go_wp2_with fail
      refine (implRowsOk A n c l w hr hk HN.out).mono ?_
      rintro e w1 ⟨rfl, hb1⟩
      rw [HO.out]
      go_wp2_with fail
      refine (place A n c l key w1 (hr.on hb1) HP.out.2.2 HN.out).mono ?_
      rintro e w2 ⟨rfl, hb2⟩
      rw [HH.out]
      have b2 := bel_trans hb1 hb2
      go_wp2_with fail
      refine (clone A n c l w2 (hr.on b2) (Nat.le_trans HN.out (by omega))).mono ?_
      rintro e w4 ⟨v4, rfl, ho4, hb4⟩
      go_wp2
      go_ret2
      exact ⟨_, rfl, ho4.lower b2.size, bel_trans b2 hb4⟩
    · have hlt := hit_lt hh
      rw [HL.out] at hlt
      obtain ⟨f, hfd⟩ : ∃ f, fnd l key = f := ⟨_, rfl⟩
      rw [cutRes_hit hfd hok hh]
      rw [hfd] at hlt
      have HF := Lib.hid hfd
      have HO := Lib.hid hok
      have HH := Lib.hid hh
      clear hP hok hh hfd
      obtain ⟨b, off, rfl, hb⟩ := hr.spot (by omega)
      by_cases hcf : c = f + 1
      · subst hcf
        obtain rfl : n = f + 1 := by have := hA.1; omega
        have hz := Lib.hid (show l.drop (f + 1) = [] from List.drop_of_length_le (by rw [HL.out]; omega))
        have hnc : f + 1 ≤ f + 1 := hA.1
        have j0 : (0 : Int) ≤ (f : Int) := by omega
        have j1 : (f : Int) + 1 ≤ (f + 1 : Int) := by omega
        have j2 : (f : Int) ≤ (f + 1 : Int) := by omega
        have j3 : (f + 1 : Int) ≤ (f + 1 : Int) := by omega
        have j4 : (0 : Int) ≤ (f : Int) + 1 := by omega
        have j5 : IntKind.i64.wrap ((f : Int) + 1) = (f : Int) + 1 := IntWalk.i64_in _ (by have := HN.out; omega)
        have j6 : ((f : Int) + 1).toNat = f + 1 := by omega
        go_enter Try.func49, Try.ntmps49
        go_wp2_with fail
        refine (implRowsOk _ (f + 1) (f + 1) l w hr hk HN.out).mono ?_
        rintro e w1 ⟨rfl, hb1⟩
        rw [HO.out]
        go_wp2_with fail
        refine (place _ (f + 1) (f + 1) l key w1 (hr.on hb1) HP.out.2.2 HN.out).mono ?_
        rintro e w2 ⟨rfl, hb2⟩
        rw [HH.out, HF.out]
        have b2 := bel_trans hb1 hb2
        have Q := Lib.hid (cell_pair w2 (.slice (some ⟨b, off, none⟩) f (f + 1)) (.slice (some ⟨b, off, none⟩) (f + 1 - (f + 1)) (f + 1 - (f + 1))) 26)
        have R3 := Lib.hid (hr.on (bel_alloc b2 (.cells #[.slice (some ⟨b, off, none⟩) f (f + 1), .slice (some ⟨b, off, none⟩) (f + 1 - (f + 1)) (f + 1 - (f + 1))] 26)).drew)
        have B3 := Lib.hid (bel_alloc b2 (.cells #[.slice (some ⟨b, off, none⟩) f (f + 1), .slice (some ⟨b, off, none⟩) (f + 1 - (f + 1)) (f + 1 - (f + 1))] 26)).drew
        have S3 := Lib.hid (show Sl encRow (w2.alloc (.cells #[.slice (some ⟨b, off, none⟩) f (f + 1), .slice (some ⟨b, off, none⟩) (f + 1 - (f + 1)) (f + 1 - (f + 1))] 26)).drew (w2.alloc (.cells #[.slice (some ⟨b, off, none⟩) f (f + 1), .slice (some ⟨b, off, none⟩) (f + 1 - (f + 1)) (f + 1 - (f + 1))] 26)).drew.heap.size (some ⟨b, off, none⟩) (f + 1 - (f + 1)) (l.drop (f + 1)) by rw [hz.out, Nat.sub_self]; exact Sl.nil _ _ _ _)
        simp only [Nat.sub_self] at Q R3 B3 S3
        have HF1 := Lib.hid (show f ≤ 1048576 by have := HN.out; omega)
        have HF2 := Lib.hid (show f + 1 - (f + 1) ≤ 1048576 by have := HN.out; omega)
        simp only [Nat.sub_self] at HF2
        go_wp2_with fail
        go_region_with (go_at_call 77; refine (concat w2.heap.size (some ⟨b, off, none⟩) (some ⟨b, off, none⟩) f (f + 1) _ _ (l.take f) (l.drop (f + 1)) _ (by exact Q.out.1) (by exact Q.out.2) (R3.out.head encRow_len (by omega)) S3.out HF1.out HF2.out).mono ?_; rintro e w4 ⟨v4, rfl, ho4, hb4⟩)
        all_goals
          go_wp2
          go_ret2
          exact ⟨v4, rfl, ho4.lower B3.out.size, bel_trans B3.out hb4⟩
      · have hcf2 : (if c = f + 1 then some (⟨b, off, none⟩ : Addr) else some ⟨b, off + (f + 1) * 2, none⟩) = some ⟨b, off + (f + 1) * 2, none⟩ := if_neg hcf
        have hnc : n ≤ c := hA.1
        have j0 : (0 : Int) ≤ (f : Int) := by omega
        have j1 : (f : Int) + 1 ≤ (n : Int) := by omega
        have j2 : (f : Int) ≤ (c : Int) := by omega
        have j3 : (n : Int) ≤ (c : Int) := by omega
        have j4 : (0 : Int) ≤ (f : Int) + 1 := by omega
        have j5 : IntKind.i64.wrap ((f : Int) + 1) = (f : Int) + 1 := IntWalk.i64_in _ (by have := HN.out; omega)
        have j6 : ((f : Int) + 1).toNat = f + 1 := by omega
        go_enter Try.func49, Try.ntmps49
        go_wp2_with fail
        refine (implRowsOk _ (n) (c) l w hr hk HN.out).mono ?_
        rintro e w1 ⟨rfl, hb1⟩
        rw [HO.out]
        go_wp2_with fail
        refine (place _ (n) (c) l key w1 (hr.on hb1) HP.out.2.2 HN.out).mono ?_
        rintro e w2 ⟨rfl, hb2⟩
        rw [HH.out, HF.out]
        have b2 := bel_trans hb1 hb2
        have Q := Lib.hid (cell_pair w2 (.slice (some ⟨b, off, none⟩) f (c)) (.slice (some ⟨b, off + (f + 1) * 2, none⟩) (n - (f + 1)) (c - (f + 1))) 26)
        have R3 := Lib.hid (hr.on (bel_alloc b2 (.cells #[.slice (some ⟨b, off, none⟩) f (c), .slice (some ⟨b, off + (f + 1) * 2, none⟩) (n - (f + 1)) (c - (f + 1))] 26)).drew)
        have B3 := Lib.hid (bel_alloc b2 (.cells #[.slice (some ⟨b, off, none⟩) f (c), .slice (some ⟨b, off + (f + 1) * 2, none⟩) (n - (f + 1)) (c - (f + 1))] 26)).drew
        have S3 := Lib.hid (show Sl encRow _ _ (some ⟨b, off + (f + 1) * 2, none⟩) (n - (f + 1)) (l.drop (f + 1)) by rw [← hcf2]; exact R3.out.rest encRow_len (by omega) hnc)
        clear hcf2
        have HF1 := Lib.hid (show f ≤ 1048576 by have := HN.out; omega)
        have HF2 := Lib.hid (show n - (f + 1) ≤ 1048576 by have := HN.out; omega)
        go_wp2_with fail
        go_region_with (go_at_call 77; refine (concat w2.heap.size (some ⟨b, off, none⟩) (some ⟨b, off + (f + 1) * 2, none⟩) f (c) _ _ (l.take f) (l.drop (f + 1)) _ (by exact Q.out.1) (by exact Q.out.2) (R3.out.head encRow_len (by omega)) S3.out HF1.out HF2.out).mono ?_; rintro e w4 ⟨v4, rfl, ho4, hb4⟩)
        all_goals
          go_wp2
          go_ret2
          exact ⟨v4, rfl, ho4.lower B3.out.size, bel_trans B3.out hb4⟩
end Go.Proofs.Ytndeehlndbdonaa
