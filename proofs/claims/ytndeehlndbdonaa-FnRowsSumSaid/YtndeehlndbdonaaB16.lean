/- Contract: RowsIn of the reference. -/
import Derived.Test.YtndeehlndbdonaaB15
import Derived.Test.YtndeehlndbdonaaB12
import Derived.Test.YtndeehlndbdonaaB7
namespace Go.Proofs.Ytndeehlndbdonaa
open Go.RowKit

theorem le_facts {x hi : ByteArray} (h : klt hi x = false) : klt x hi = true ∨ (klt x hi = false ∧ (x.toList == hi.toList) = true) := by
  cases hq : klt x hi with
  | true => exact .inl rfl
  | false => exact .inr ⟨rfl, by rw [klt_total hq h]; simp⟩
theorem gt_facts {x hi : ByteArray} (h : klt hi x = true) : klt x hi = false ∧ (x.toList == hi.toList) = false := by
  refine ⟨klt_asymm h, ?_⟩
  cases hq : (x.toList == hi.toList) with
  | false => rfl
  | true => rw [klt, eq_of_beq hq] at h; rw [show Op.bytesLess hi.toList hi.toList = false from klt_irrefl hi] at h; cases h
theorem take_one {l : List Row} {i : Nat} {x : Row} (h : l[i]? = some x) : l.take (i + 1) = l.take i ++ [x] := by
  rw [List.take_add_one, h]; rfl
theorem inP_in {l : List Row} {i : Nat} {x : Row} {lo hi : ByteArray} (h : l[i]? = some x) (hp : inP lo hi x = true) : (l.take (i + 1)).filter (inP lo hi) = (l.take i).filter (inP lo hi) ++ [x] := by
  rw [take_one h, List.filter_append]; simp [hp]
theorem inP_out {l : List Row} {i : Nat} {x : Row} {lo hi : ByteArray} (h : l[i]? = some x) (hp : inP lo hi x = false) : (l.take (i + 1)).filter (inP lo hi) = (l.take i).filter (inP lo hi) := by
  rw [take_one h, List.filter_append]; simp [hp]

set_option maxHeartbeats 2000000 in
set_option maxRecDepth 100000 in
theorem specRowsIn (A : Option Addr) (n c : Nat) (l : List Row) (lo hi : ByteArray) (w : World) (hr : Sl encRow w w.heap.size A n l) (hk : KeysWf l) (hn : n ≤ 1048576) :
    Calls Try.prog 39 #[.slice A n c, .string lo, .string hi] w (OwnPost w (inRes l lo hi)) := by
  obtain ⟨i0, hi0, hz0, hz1, hz2⟩ := info_parts info46
  have HL := Lib.hid hr.len
  have HN := Lib.hid hn
  have HR := Lib.hid hr
  clear hn hr
  cases hok : rowsOk l
  · rw [inRes_bad hok]
    have HO := Lib.hid hok
    clear hok
    go_enter Try.func39, Try.ntmps39
    go_wp2_with fail
    go_loopw [7, 8] (fun v7 v8 wr => v7 = .slice (some ⟨w.heap.size, 0, none⟩) 0 0 ∧ v8 = .int .i64 0 ∧ wr = w.alloc (.cells #[] 46)) (fun _ _ _ => 0)
    case atStart => exact ⟨rfl, rfl, rfl⟩
    case round =>
      obtain ⟨rfl, rfl, rfl⟩ := hrel
      have ho := (Own.made0 (enc := encRow) (sz := 2) (e := 46) w (Nat.le_refl _))
      have hb0 := bel_alloc (Below.refl w.heap.size w) (.cells #[] 46)
      by_cases h0 : 0 < n
      · have h0' : (0 : Int) < (n : Int) := by omega
        go_wp2_with fail
        refine (specRowsOk A n c l _ (HR.out.on hb0) hk HN.out).mono ?_
        rintro e w1 ⟨rfl, hb1⟩
        rw [HO.out]
        go_wp2
        go_ret
        exact ⟨_, rfl, ho.on hb1, bel_trans hb0 hb1⟩
      · have h0' : ¬ (0 : Int) < (n : Int) := by omega
        go_wp2_with fail
        go_ret
        exact ⟨_, rfl, ho, hb0⟩
  · have hD : inRes l lo hi = l.filter (inP lo hi) := by simp [inRes, hok]
    rw [hD]
    have HO := Lib.hid hok
    clear hok hD
    go_enter Try.func39, Try.ntmps39
    go_wp2_with fail
    go_loopw [7, 8] (fun v7 v8 wr => ∃ (i : Nat), i ≤ n ∧ v8 = .int .i64 i ∧ Own encRow 2 46 wr w.heap.size v7 ((l.take i).filter (inP lo hi)) ∧ Below w.heap.size w wr) (fun _ v8 _ => n - (intOf v8).toNat)
    case atStart => exact ⟨0, Nat.zero_le _, rfl, Own.made0 w (Nat.le_refl _), bel_alloc (Below.refl _ _) _⟩
    case round =>
      obtain ⟨i, hin, rfl, ho, hb⟩ := hrel
      by_cases h0 : i < n
      · have h0' : (i : Int) < (n : Int) := by omega
        have j0 : (0 : Int) ≤ (i : Int) := by omega
        have j5 : IntKind.i64.wrap ((i : Int) + 1) = (i : Int) + 1 := IntWalk.i64_in _ (by have := HN.out; omega)
        have j6 : wrap64 ((i : Int) + 1) = (i : Int) + 1 := IntWalk.wrap64_in _ (by have := HN.out; omega)
        have hlen : ((l.take i).filter (inP lo hi)).length ≤ i := by
          refine Nat.le_trans (List.length_filter_le _ _) ?_; rw [List.length_take]; omega
        go_wp2_with fail
        refine (specRowsOk A n c l _ (HR.out.on hb) hk HN.out).mono ?_
        rintro e w1 ⟨rfl, hb1⟩
        rw [HO.out]
        have hb2 := bel_trans hb hb1
        have ho2 := ho.on hb1
        obtain ⟨b, off, rfl, hbb⟩ := HR.out.spot (by omega)
        obtain ⟨x, hx, hcell⟩ := Sl.at_ (sz := 2) (enc := encRow) (fun _ => rfl) (n := n) (HR.out.keep hb2) (k := i) (by omega)
        have e0 : w1.cell? ⟨b, off + i * 2, none⟩ = some (.string x.1) := by have := hcell 0 _ rfl; simpa using this
        have e1 : w1.cell? ⟨b, off + i * 2 + 1, none⟩ = some (.int .i64 x.2) := by have := hcell 1 _ rfl; rw [show off + i * 2 + 1 = off + (i * 2 + 1) by omega]; exact this
        clear hcell ho hb hb1
        have HX := Lib.hid hx
        clear hx
        have fin_out : inP lo hi x = false → Own encRow 2 46 w1 w.heap.size u7 ((l.take (i + 1)).filter (inP lo hi)) := fun hp => by rw [inP_out HX.out hp]; exact ho2
        have FO := Lib.hid fin_out
        clear fin_out
        cases hlo : klt x.1 lo
        · have l1 : Op.bytesLess x.1.toList lo.toList = false := hlo
          cases hhi : klt hi x.1
          · have hp : inP lo hi x = true := by simp [inP, hlo, hhi]
            obtain ⟨av, cv, rfl⟩ : ∃ a c, u7 = .slice a ((l.take i).filter (inP lo hi)).length c := by
              obtain ⟨a, c, h, _⟩ := ho2.form; exact ⟨a, c, h⟩
            have HPX := Lib.hid (inP_in HX.out hp)
            generalize (l.take i).filter (inP lo hi) = o at *
            rcases le_facts hhi with l2 | ⟨l2, l3⟩
            all_goals
              have l2' := l2
              unfold klt at l2'
              go_wp2_with (at_builtin; refine wpList_append_own _ rfl _ _ 26 rfl w.heap.size 46 i0 (.agg #[.string ByteArray.empty, .int .i64 0]) 2 24 Try.underlying26 hi0 hz0 hz1 hz2 rfl (by decide) _ o.length (cellsOf encRow o) rfl (World.ownsRow.alloc ho2 _) ⟨w1.heap.size, 0, none⟩ 1 1 [.string x.1, .int .i64 x.2] rfl rfl (cell_two_new _ _ _ _) ?c2 ?c3 ?c4 ?c5 ?_)
              case c2 => intro u hu; simp at hu; rcases hu with rfl | rfl <;> rfl
              case c3 => have := HN.out; unfold maxLen; omega
              case c4 => have := HN.out; omega
              case c5 => have := hb2.size; simp; omega
              intro v2 w3 hown3 hg3 _
              have ho3 : Own encRow 2 46 w3 w.heap.size v2 (o ++ [x]) := own_snoc hown3
              have hb3 : Below w.heap.size w w3 := bel_grown (bel_alloc hb2 _) hg3 (fun k hk => (World.ownsRow.lt ho2 k hk).1)
              rw [← HPX.out] at ho3
              clear hown3 hg3
              go_wp2
              go_roundw
              case rel => exact ⟨i + 1, by omega, by simp, ho3, hb3⟩
              case measure => simp [intOf]; omega
          · have hp : inP lo hi x = false := by simp [inP, hlo, hhi]
            obtain ⟨l2, l3⟩ := gt_facts hhi
            unfold klt at l2
            go_wp2_with fail
            go_roundw
            case rel => exact ⟨i + 1, by omega, by simp, FO.out hp, hb2⟩
            case measure => simp [intOf]; omega
        · have l1 : Op.bytesLess x.1.toList lo.toList = true := hlo
          have hp : inP lo hi x = false := by simp [inP, hlo]
          go_wp2_with fail
          go_roundw
          case rel => exact ⟨i + 1, by omega, by simp, FO.out hp, hb2⟩
          case measure => simp [intOf]; omega
      · obtain rfl : i = n := by omega
        have h0' : ¬ (i : Int) < (i : Int) := by omega
        go_wp2_with fail
        go_ret
        exact ⟨_, rfl, by rw [List.take_of_length_le (Nat.le_of_eq HL.out)] at ho; exact ho, hb⟩
end Go.Proofs.Ytndeehlndbdonaa
