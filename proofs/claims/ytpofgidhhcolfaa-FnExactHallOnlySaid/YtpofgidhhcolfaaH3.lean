/- Contracts: HallOnly of the program and of the reference. -/
import Derived.Test.YtpofgidhhcolfaaH1
namespace Go.Proofs.Ytpofgidhhcolfaa
open Go.RowKit

theorem encEv_one (r : Ev) : ∀ u ∈ encEv r, u.oneCell' = true := by
  intro u hu
  simp only [encEv, List.mem_cons, List.not_mem_nil, or_false] at hu
  rcases hu with rfl | rfl | rfl <;> rfl
def whoP (who : Int) (x : Ev) : Bool := x.2.1 == who
def onlyL (l : List Ev) (who : Int) : List Ev := l.filter (whoP who)
theorem only_in {l : List Ev} {who : Int} {i : Nat} {x : Ev} (h : l[i]? = some x) (hp : whoP who x = true) : (l.take (i + 1)).filter (whoP who) = (l.take i).filter (whoP who) ++ [x] := by
  obtain ⟨hk, rfl⟩ := List.getElem?_eq_some_iff.1 h
  rw [List.take_succ_eq_append_getElem hk, List.filter_append]; simp [hp]
theorem only_out {l : List Ev} {who : Int} {i : Nat} {x : Ev} (h : l[i]? = some x) (hp : whoP who x = false) : (l.take (i + 1)).filter (whoP who) = (l.take i).filter (whoP who) := by
  obtain ⟨hk, rfl⟩ := List.getElem?_eq_some_iff.1 h
  rw [List.take_succ_eq_append_getElem hk, List.filter_append]; simp [hp]
theorem only_len (l : List Ev) (who : Int) : (onlyL l who).length ≤ l.length := List.length_filter_le _ _
def EvsPost (w : World) (l : List Ev) (e : Ending) (w' : World) : Prop :=
  ∃ v, e = .returned v ∧ Own encEv 3 100 w' w.heap.size v l ∧ Below w.heap.size w w'
set_option maxHeartbeats 2000000 in
set_option maxRecDepth 100000 in
theorem specHallOnly (A : Option Addr) (n c : Nat) (l : List Ev) (who : Int) (w : World) (hr : Sl encEv w w.heap.size A n l) (hn : n ≤ 1048576) :
    Calls Try.prog 30 #[.slice A n c, .int .i64 who] w (EvsPost w (onlyL l who)) := by
  obtain ⟨i0, hi0, hz0, hz1, hz2⟩ := info_parts info100
  have HL := Lib.hid hr.len
  have HN := Lib.hid hn
  have HR := Lib.hid hr
  clear hn hr
  go_enter Try.func30, Try.ntmps30
  go_wp2_with fail
  go_loopw [5, 6] (fun v5 v6 wr => ∃ (i : Nat), i ≤ n ∧ v6 = .int .i64 i ∧ Own encEv 3 100 wr w.heap.size v5 ((l.take i).filter (whoP who)) ∧ Below w.heap.size w wr) (fun _ v6 _ => n - (intOf v6).toNat)
  case atStart => exact ⟨0, Nat.zero_le _, rfl, Own.made0 w (Nat.le_refl _), bel_alloc (Below.refl _ _) _⟩
  case round =>
    obtain ⟨i, hin, rfl, ho, hb⟩ := hrel
    by_cases h0 : i < n
    · have h0' : (i : Int) < (n : Int) := by omega
      have j0 : (0 : Int) ≤ (i : Int) := by omega
      have j5 : IntKind.i64.wrap ((i : Int) + 1) = (i : Int) + 1 := IntWalk.i64_in _ (by have := HN.out; omega)
      have j6 : wrap64 ((i : Int) + 1) = (i : Int) + 1 := IntWalk.wrap64_in _ (by have := HN.out; omega)
      have hlen : ((l.take i).filter (whoP who)).length ≤ i := by
        refine Nat.le_trans (List.length_filter_le _ _) ?_; rw [List.length_take]; omega
      obtain ⟨b, off, rfl, hbb⟩ := HR.out.spot (by omega)
      obtain ⟨f0, f1, f2, hx, e0, e1, e2⟩ := atEv (HR.out.keep hb) h0
      have HX := Lib.hid hx
      clear hx
      cases hp : (f1 == who)
      · have FO := Lib.hid (only_out HX.out (show whoP who (f0, f1, f2) = false from hp))
        go_wp2_with fail
        go_roundw
        case rel => exact ⟨i + 1, by omega, by simp, by rw [FO.out]; exact ho, hb⟩
        case measure => simp [intOf]; omega
      · have FI := Lib.hid (only_in HX.out (show whoP who (f0, f1, f2) = true from hp))
        generalize (l.take i).filter (whoP who) = o at *
        have hz := hb.size
        obtain ⟨av, cv, rfl⟩ : ∃ a c, u5 = .slice a o.length c := by
          obtain ⟨a, c, h, _⟩ := ho.form; exact ⟨a, c, h⟩
        have q1 := ho.alloc (.cells #[.int .i64 f0, .int .i64 f1, .string f2] 100)
        have q2 : Sl encEv ((wr).alloc (.cells #[.int .i64 f0, .int .i64 f1, .string f2] 100)) (wr.heap.size + 1) (some ⟨wr.heap.size, 0, none⟩) 1 [(f0, f1, f2)] := by
          have := Sl.lit1 (enc := encEv) (wr) #[.int .i64 f0, .int .i64 f1, .string f2] 100 (f0, f1, f2) rfl
          simpa using this
        go_wp2_with (at_builtin; refine wpList_append_sl _ rfl _ _ 44 rfl w.heap.size 100 i0 _ 3 32 Try.underlying44 hi0 hz0 hz1 hz2 rfl (by decide) encEv_len encEv_one _ o rfl q1 _ (some ⟨wr.heap.size, 0, none⟩) 1 1 [(f0, f1, f2)] rfl q2 ?c3 ?c4 ?c5 ?_)
        case c3 => have := HN.out; unfold maxLen; omega
        case c4 => have := HN.out; omega
        case c5 => simp; omega
        intro v2 w3 ho3 hg3
        have hb3 : Below w.heap.size w w3 := bel_grown (bel_alloc (hb) _) hg3 (fun k hk => (World.ownsRow.lt q1 k hk).1)
        rw [← FI.out] at ho3
        clear hg3 q1 q2
        go_wp2
        go_roundw
        case rel => exact ⟨i + 1, by omega, by simp, ho3, hb3⟩
        case measure => simp [intOf]; omega
    · obtain rfl : i = n := by omega
      have h0' : ¬ (i : Int) < (i : Int) := by omega
      go_wp2_with fail
      go_ret
      exact ⟨_, rfl, by rw [List.take_of_length_le (Nat.le_of_eq HL.out)] at ho; exact ho, hb⟩
set_option maxHeartbeats 2000000 in
set_option maxRecDepth 100000 in
theorem implHallOnly (A : Option Addr) (n c : Nat) (l : List Ev) (who : Int) (w : World) (hr : Sl encEv w w.heap.size A n l) (hn : n ≤ 1048576) :
    Calls Try.prog 32 #[.slice A n c, .int .i64 who] w (EvsPost w (onlyL l who)) := by
  obtain ⟨i0, hi0, hz0, hz1, hz2⟩ := info_parts info100
  have HL := Lib.hid hr.len
  have HN := Lib.hid hn
  have HR := Lib.hid hr
  clear hn hr
  go_enter Try.func32, Try.ntmps32
  go_wp2_with fail
  go_loopw [5, 7, 10] (fun v5 v7 v6 wr => ∃ (i : Nat), i ≤ n ∧ v6 = .int .i64 i ∧ Own encEv 3 100 wr w.heap.size v5 ((l.take i).filter (whoP who)) ∧ Below w.heap.size w wr) (fun _ _ v6 _ => n - (intOf v6).toNat)
  case atStart => exact ⟨0, Nat.zero_le _, rfl, Own.nil _ _, Below.refl _ _⟩
  case round =>
    obtain ⟨i, hin, rfl, ho, hb⟩ := hrel
    by_cases h0 : i < n
    · have h0' : (i : Int) < (n : Int) := by omega
      have j0 : (0 : Int) ≤ (i : Int) := by omega
      have j5 : IntKind.i64.wrap ((i : Int) + 1) = (i : Int) + 1 := IntWalk.i64_in _ (by have := HN.out; omega)
      have j6 : wrap64 ((i : Int) + 1) = (i : Int) + 1 := IntWalk.wrap64_in _ (by have := HN.out; omega)
      have hlen : ((l.take i).filter (whoP who)).length ≤ i := by
        refine Nat.le_trans (List.length_filter_le _ _) ?_; rw [List.length_take]; omega
      obtain ⟨b, off, rfl, hbb⟩ := HR.out.spot (by omega)
      obtain ⟨f0, f1, f2, hx, e0, e1, e2⟩ := atEv (HR.out.keep hb) h0
      have HX := Lib.hid hx
      clear hx
      cases hp : (f1 == who)
      · have FO := Lib.hid (only_out HX.out (show whoP who (f0, f1, f2) = false from hp))
        go_wp2_with fail
        go_roundw
        case rel => exact ⟨i + 1, by omega, by simp, by rw [FO.out]; exact ho.alloc _, bel_alloc hb _⟩
        case measure => simp [intOf]; omega
      · have FI := Lib.hid (only_in HX.out (show whoP who (f0, f1, f2) = true from hp))
        generalize (l.take i).filter (whoP who) = o at *
        have hz := hb.size
        obtain ⟨av, cv, rfl⟩ : ∃ a c, u5 = .slice a o.length c := by
          obtain ⟨a, c, h, _⟩ := ho.form; exact ⟨a, c, h⟩
        have q1 := (ho.alloc (.cells #[.int .i64 f0, .int .i64 f1, .string f2] 100)).alloc (.cells #[.int .i64 f0, .int .i64 f1, .string f2] 100)
        have q2 : Sl encEv ((wr.alloc (.cells #[.int .i64 f0, .int .i64 f1, .string f2] 100)).alloc (.cells #[.int .i64 f0, .int .i64 f1, .string f2] 100)) (wr.heap.size + 1 + 1) (some ⟨wr.heap.size + 1, 0, none⟩) 1 [(f0, f1, f2)] := by
          have := Sl.lit1 (enc := encEv) (wr.alloc (.cells #[.int .i64 f0, .int .i64 f1, .string f2] 100)) #[.int .i64 f0, .int .i64 f1, .string f2] 100 (f0, f1, f2) rfl
          simpa using this
        go_wp2_with (at_builtin; refine wpList_append_sl _ rfl _ _ 44 rfl w.heap.size 100 i0 _ 3 32 Try.underlying44 hi0 hz0 hz1 hz2 rfl (by decide) encEv_len encEv_one _ o rfl q1 _ (some ⟨wr.heap.size + 1, 0, none⟩) 1 1 [(f0, f1, f2)] rfl q2 ?c3 ?c4 ?c5 ?_)
        case c3 => have := HN.out; unfold maxLen; omega
        case c4 => have := HN.out; omega
        case c5 => simp; omega
        intro v2 w3 ho3 hg3
        have hb3 : Below w.heap.size w w3 := bel_grown (bel_alloc (bel_alloc hb _) _) hg3 (fun k hk => (World.ownsRow.lt q1 k hk).1)
        rw [← FI.out] at ho3
        clear hg3 q1 q2
        go_wp2
        go_roundw
        case rel => exact ⟨i + 1, by omega, by simp, ho3, hb3⟩
        case measure => simp [intOf]; omega
    · obtain rfl : i = n := by omega
      have h0' : ¬ (i : Int) < (i : Int) := by omega
      go_wp2_with fail
      go_ret
      exact ⟨_, rfl, by rw [List.take_of_length_le (Nat.le_of_eq HL.out)] at ho; exact ho, hb⟩
end Go.Proofs.Ytpofgidhhcolfaa
