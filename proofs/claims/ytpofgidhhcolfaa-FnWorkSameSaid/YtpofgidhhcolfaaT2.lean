/- Contracts: VersTrim of the program, and what it calls. -/
import Derived.Test.YtpofgidhhcolfaaT1
namespace Go.Proofs.Ytpofgidhhcolfaa
open Go.RowKit

theorem setOther {W : World} {b b' o k : Nat} {u v : Value} (c : W.cell? ⟨b, k, none⟩ = some v) (h : b ≠ b') : (W.setCell ⟨b', o, none⟩ u).cell? ⟨b, k, none⟩ = some v :=
  (World.cell?_setCell_other _ _ _ _ (by intro e; injection e with e1; exact h (by first | exact e1 | exact e1.symm))).trans c
def VerSPost (w : World) (l : List Ver) (e : Ending) (w' : World) : Prop := ∃ v, e = .returned v ∧ Own encVer 4 77 w' w.heap.size v l ∧ Below w.heap.size w w'
theorem cloneVer (A : Option Addr) (n c : Nat) (l : List Ver) (w : World) (hr : Sl encVer w w.heap.size A n l) (hn : n ≤ 1048576) :
    Calls Try.prog 135 #[.slice A n c] w (VerSPost w l) := by
  rcases A with _ | ad
  · have hl : l = [] := by
      rcases Nat.eq_zero_or_pos n with h | h
      · subst h; exact hr.nil_of
      · obtain ⟨b, off, h1, _⟩ := hr.spot h; cases h1
    subst hl
    clear hr hn
    have hq : ∀ W : World, (binOp .eql 37 (.slice none n c) (.slice none 0 0)).run Try.prog W = .ok (.bool true) W := fun W => Lib.run_eql_slice_nil W 37 77 none n c 0 0 Try.underlying37
    go_enter Try.func135, Try.ntmps135
    go_wp2
    go_ret
    exact ⟨_, rfl, Own.nil _ _, Below.refl _ _⟩
  · have hq : ∀ W : World, (binOp .eql 37 (.slice (some ad) n c) (.slice none 0 0)).run Try.prog W = .ok (.bool false) W := fun W => Lib.run_eql_slice_nil W 37 77 (some ad) n c 0 0 Try.underlying37
    obtain ⟨i0, hi, hz0, hz1, hz2⟩ := info_parts info77
    have hm := Own.made0 (enc := encVer) (sz := 4) (e := 77) w (Nat.le_refl w.heap.size)
    have hr2 := (hr.on (bel_alloc (Below.refl _ w) (.cells #[] 77)))
    have HB := Lib.hid (show (0 + n) * 40 ≤ 140737488355328 by omega)
    have HM := Lib.hid (show 0 + n ≤ maxLen by unfold maxLen; omega)
    clear hn
    go_enter Try.func135, Try.ntmps135
    go_wp2_with (at_builtin; refine wpList_append_sl _ rfl _ _ 37 rfl w.heap.size 77 i0 _ 4 40 Try.underlying37 hi hz0 hz1 hz2 rfl (by decide) encVer_len encVer_one _ [] rfl hm _ (some ad) n c l rfl hr2 HM.out HB.out (by simp) ?_)
    intro v2 w3 hown3 hg3
    go_wp2
    go_ret
    exact ⟨_, rfl, by simpa using hown3, bel_grown (bel_alloc (Below.refl _ w) _) hg3 (fun k hk => (World.ownsRow.lt hm k hk).1)⟩
/-- a history in new memory -/
def VersPost (w : World) (now : Int) (l : List Ver) (e : Ending) (w' : World) : Prop := ∃ A c, e = .returned (.agg #[.int .i64 now, .slice A l.length c]) ∧ Own encVer 4 77 w' w.heap.size (.slice A l.length c) l ∧ Below w.heap.size w w'
set_option maxHeartbeats 2000000 in
set_option maxRecDepth 100000 in
theorem versClone (now : Int) (A : Option Addr) (n c : Nat) (l : List Ver) (w : World) (hr : Sl encVer w w.heap.size A n l) (hn : n ≤ 1048576) :
    Calls Try.prog 96 #[.agg #[.int .i64 now, .slice A n c]] w (VersPost w now l) := by
  have b0 := bel_alloc (bel_alloc (Below.refl _ w) (.cells #[.int .i64 now, .slice A n c] 39)) (.cells #[.int .i64 0, .slice none 0 0] 39)
  obtain ⟨p0, p1⟩ := cell_new2Vers w (.int .i64 now) (.slice A n c) 39
  replace p0 := keepC (bel_alloc (Below.refl _ _) (.cells #[.int .i64 0, .slice none 0 0] 39)) p0
  replace p1 := keepC (bel_alloc (Below.refl _ _) (.cells #[.int .i64 0, .slice none 0 0] 39)) p1
  go_enter Try.func96, Try.ntmps96
  go_wp2_with fail
  refine wp_region_held_drew (S := (fun W' => W'.cell? ⟨w.heap.size, 0, none⟩ = some (.int .i64 now) ∧ W'.cell? ⟨w.heap.size, 1, none⟩ = some (.slice A n c))) (by kernel_rfl) ⟨keepC (Below.refl _ _).drew p0, keepC (Below.refl _ _).drew p1⟩ (fun hHeld => ?_)
  refine wpAnyH_take (i := 0) (oi := { dst := some 3, op := Go.Op.fieldAddr 39 (Go.Operand.tmp 1) 0, type := 0, pos := "l2_snap.go:62", after := #[], guard := none }) (v := ?_) rfl (by kernel_rfl) (by kernel_rfl) (by kernel_rfl) (fun _ _ _ h => h) (Or.inl ⟨by rfl, ?hy0⟩) (by assumption) ?_
  case hy0 => ((intro w hSw; (try dsimp only at hSw); go_simp); try with_reducible rfl)
  try simp only [Act.put, List.setIfInBounds_toArray, List.set_cons_zero, List.set_cons_succ]
  refine wpAnyH_take (i := 1) (oi := { dst := some 4, op := Go.Op.load 3 (Go.Operand.tmp 3), type := 3, pos := "l2_snap.go:62", after := #[{ on := 0, ground := Go.Ground.data }], guard := none }) (v := ?_) rfl (by kernel_rfl) (by kernel_rfl) (by kernel_rfl) (fun _ _ _ h => h) (Or.inl ⟨by rfl, ?hy1⟩) (by assumption) ?_
  case hy1 => ((intro w hSw; (try dsimp only at hSw); go_simp); try with_reducible rfl)
  try simp only [Act.put, List.setIfInBounds_toArray, List.set_cons_zero, List.set_cons_succ]
  refine wpAnyH_take (i := 2) (oi := { dst := some 5, op := Go.Op.fieldAddr 39 (Go.Operand.tmp 1) 1, type := 0, pos := "l2_snap.go:62", after := #[], guard := none }) (v := ?_) rfl (by kernel_rfl) (by kernel_rfl) (by kernel_rfl) (fun _ _ _ h => h) (Or.inl ⟨by rfl, ?hy2⟩) (by assumption) ?_
  case hy2 => ((intro w hSw; (try dsimp only at hSw); go_simp); try with_reducible rfl)
  try simp only [Act.put, List.setIfInBounds_toArray, List.set_cons_zero, List.set_cons_succ]
  refine wpAnyH_take (i := 3) (oi := { dst := some 6, op := Go.Op.load 37 (Go.Operand.tmp 5), type := 37, pos := "l2_snap.go:62", after := #[{ on := 2, ground := Go.Ground.data }], guard := none }) (v := ?_) rfl (by kernel_rfl) (by kernel_rfl) (by kernel_rfl) (fun _ _ _ h => h) (Or.inl ⟨by rfl, ?hy3⟩) (by assumption) ?_
  case hy3 => ((intro w hSw; (try dsimp only at hSw); go_simp); try with_reducible rfl)
  try simp only [Act.put, List.setIfInBounds_toArray, List.set_cons_zero, List.set_cons_succ]
  refine wpAnyH_ready (rs := [4]) (by kernel_rfl) (by simp) ?_
  refine AllReadyH.cons (o := { dst := some 7, op := Go.Op.call { callee := Go.Callee.value (Go.Operand.func 135), args := #[Go.Operand.tmp 6], argTypes := #[37] }, type := 37, pos := "l2_snap.go:62", after := #[{ on := 3, ground := Go.Ground.data }], guard := none }) rfl (fun K hK => ?_) AllReadyH.nil
  go_simp
  refine (cloneVer A n c l _ (hr.on (b0.drew)) hn).mono ?_
  rintro e w1 ⟨v, rfl, ho, hb1⟩
  replace p0 := keepC hb1 (keepC (Below.refl _ _).drew p0)
  replace p1 := keepC hb1 (keepC (Below.refl _ _).drew p1)
  obtain ⟨av, cv, rfl⟩ : ∃ a c, v = .slice a l.length c := by
      obtain ⟨a, c, h, _⟩ := ho.form; exact ⟨a, c, h⟩
  obtain ⟨hc, hf⟩ := bcellVers hb1
  have hz : w.heap.size + 1 < w1.heap.size := by have := hb1.size; simp at this; omega
  have b1 := bel_trans b0.drew hb1
  have o1 := ((ho.setOffVers (b := w.heap.size + 1) (o := 0) (by simp) (.int .i64 now)).setOffVers (b := w.heap.size + 1) (o := 1) (by simp) (.slice av l.length cv)).lower (base' := w.heap.size) (by simp; omega)
  have b2 := bel_set (bel_set b1 (p := ⟨w.heap.size + 1, 0, none⟩) (by simp) (.int .i64 now)) (p := ⟨w.heap.size + 1, 1, none⟩) (by simp) (.slice av l.length cv)
  have O1 := Lib.hid o1
  have B2 := Lib.hid b2
  clear o1 b2 ho
  go_wp2_with fail
  refine hK.out _ _ ⟨p0, p1⟩ (fun hHeld => ?_)
  clear hK K
  try simp only [Act.put, List.setIfInBounds_toArray, List.set_cons_zero, List.set_cons_succ]
  refine wpAnyH_take (i := 5) (oi := { dst := some 8, op := Go.Op.build 39 #[(0, Go.Operand.tmp 4), (1, Go.Operand.tmp 7)], type := 39, pos := "l2_snap.go:62", after := #[{ on := 1, ground := Go.Ground.data }, { on := 4, ground := Go.Ground.data }], guard := none }) (v := ?_) rfl (by kernel_rfl) (by kernel_rfl) (by kernel_rfl) (fun _ _ _ h => h) (Or.inl ⟨by rfl, ?hy5⟩) (by assumption) ?_
  case hy5 => ((intro w hSw; (try dsimp only at hSw); go_simp); try with_reducible rfl)
  try simp only [Act.put, List.setIfInBounds_toArray, List.set_cons_zero, List.set_cons_succ]
  refine wpAnyH_ready (rs := [6]) (by kernel_rfl) (by simp) ?_
  refine AllReadyH.cons (o := { dst := none, op := Go.Op.store 39 (Go.Operand.tmp 2) (Go.Operand.tmp 8), type := 0, pos := "l2_snap.go:62", after := #[{ on := 5, ground := Go.Ground.data }, { on := 4, ground := Go.Ground.chain }, { on := 0, ground := Go.Ground.phase }, { on := 1, ground := Go.Ground.phase }, { on := 2, ground := Go.Ground.phase }, { on := 3, ground := Go.Ground.phase }, { on := 4, ground := Go.Ground.phase }, { on := 5, ground := Go.Ground.phase }], guard := none }) rfl (fun K hK => ?_) AllReadyH.nil
  go_simp
  go_wp2_with fail
  refine hK.out _ _ ?hS (fun hHeld => ?_)
  case hS => exact ⟨setOther (setOther p0 (by omega)) (by omega), setOther (setOther p1 (by omega)) (by omega)⟩
  clear hK K
  try simp only [Act.put, List.setIfInBounds_toArray, List.set_cons_zero, List.set_cons_succ]
  refine wpAnyH_done (by kernel_rfl) ?_ _
  go_wp2_with fail
  exact bodyPost_ret (v := .agg #[.int .i64 now, .slice av l.length cv]) (by simp [results, Try.results96, go_sem, hc]) rfl ⟨av, cv, rfl, O1.out, B2.out⟩
theorem dropC (f0 : ByteArray) (f1 f2 f3 t : Int) (gt : Nat) (w : World) (hg : w.cell? ⟨gt, 0, none⟩ = some (.int .i64 t)) :
    Calls Try.prog 98 #[.agg #[.string f0, .int .i64 f1, .int .i64 f2, .int .i64 f3], .pointer (some ⟨gt, 0, none⟩)] w fun e w' => e = .returned (.bool (dropV t (f0, f1, f2, f3))) ∧ Below w.heap.size w w' := by
  have b0 := bel_alloc (Below.refl _ w) (.cells #[.string f0, .int .i64 f1, .int .i64 f2, .int .i64 f3] 77)
  have q0 := keepC b0 hg
  have HV := Lib.hid (show dropV t (f0, f1, f2, f3) = (decide (f3 ≠ 0) && decide (f3 ≤ t)) from rfl)
  clear hg
  cases h3 : (f3 == 0)
  all_goals
    have hn3 : (f3 != 0) = !(f3 == 0) := rfl
    rw [h3] at hn3
    simp only [Bool.not_true, Bool.not_false] at hn3
    go_enter Try.func98, Try.ntmps98
    go_wp2
  all_goals
    go_ret
    refine ⟨retBool ?_, b0⟩
    rw [HV.out]
    simp at h3
    grind
/-- where the first one to be forgotten is -/
def IdxPost (w : World) (l : List Ver) (t : Int) (e : Ending) (w' : World) : Prop :=
  Below w.heap.size w w' ∧ ((∃ (i : Nat) (x : Ver), e = .returned (.int .i64 i) ∧ AllKept l t i ∧ l[i]? = some x ∧ dropV t x = true) ∨ (e = .returned (.int .i64 (-1)) ∧ AllKept l t l.length))
set_option maxHeartbeats 2000000 in
theorem indexFunc (A : Option Addr) (n c : Nat) (l : List Ver) (t : Int) (gt : Nat) (w : World) (hr : Sl encVer w w.heap.size A n l) (hg : w.cell? ⟨gt, 0, none⟩ = some (.int .i64 t)) (hn : n ≤ 1048576) :
    Calls Try.prog 136 #[.slice A n c, .func (.func 98) #[] #[.pointer (some ⟨gt, 0, none⟩)]] w (IdxPost w l t) := by
  have HL := Lib.hid hr.len
  have HR := Lib.hid hr
  have HN := Lib.hid hn
  have HG := Lib.hid hg
  clear hr hn hg
  go_enter Try.func136, Try.ntmps136
  go_wp2_with fail
  go_loopw [8] (fun v8 wr => ∃ (i : Nat), i ≤ n ∧ v8 = .int .i64 i ∧ AllKept l t i ∧ Below w.heap.size w wr) (fun v8 _ => n - (intOf v8).toNat)
  case atStart => exact ⟨0, Nat.zero_le _, rfl, AllKept.zero _ _, Below.refl _ _⟩
  case round =>
    obtain ⟨i, hin, rfl, hak, hb⟩ := hrel
    by_cases h0 : i < n
    · have h0' : (i : Int) < (n : Int) := by omega
      have j0 : (0 : Int) ≤ (i : Int) := by omega
      have hn' : (n : Int) ≤ 1048576 := by have := HN.out; omega
      obtain ⟨b, off, rfl, hbb⟩ := HR.out.spot (by omega)
      obtain ⟨f0, f1, f2, f3, hx, e0, e1, e2, e3⟩ := atVer (HR.out.keep hb) h0
      have HX := Lib.hid hx
      clear hx
      go_wp2_with fail
      refine (dropC f0 f1 f2 f3 t gt _ (keepC hb HG.out)).mono ?_
      rintro e w1 ⟨rfl, hb1⟩
      have hb2 := bel_trans hb hb1
      cases hd : dropV t (f0, f1, f2, f3)
      · have HS := Lib.hid (hak.step HX.out hd)
        clear hd
        go_wp2_with fail
        go_roundw
        case rel => exact ⟨i + 1, by omega, by simp, HS.out, hb2⟩
        case measure => simp [intOf]; omega
      · have HD := Lib.hid hd
        clear hd
        go_wp2_with fail
        go_ret
        exact ⟨hb2, .inl ⟨i, _, rfl, hak, HX.out, HD.out⟩⟩
    · obtain rfl : i = n := by omega
      have h0' : ¬ ((i : Int) < (i : Int)) := by omega
      go_wp2_with fail
      go_ret
      exact ⟨hb, .inr ⟨rfl, by rw [HL.out]; exact hak⟩⟩
/-- what is left of a row of one's own -/
def DelPost (w : World) (base : Nat) (A : Option Addr) (c : Nat) (l : List Ver) (e : Ending) (w' : World) : Prop :=
  e = .returned (.slice A l.length c) ∧ Own encVer 4 77 w' base (.slice A l.length c) l ∧ Turn A w w'
theorem zero77 (w : World) : (zeroValue 77).run Try.prog w = .ok (.agg #[.string ByteArray.empty, .int .i64 0, .int .i64 0, .int .i64 0]) w := by kernel_rfl
theorem zeroCells_size (k : Nat) : (Builtin.zeroCells (Value.agg #[.string ByteArray.empty, .int .i64 0, .int .i64 0, .int .i64 0]).cells k).size = k * 4 := size_zeroCells _ _
end Go.Proofs.Ytpofgidhhcolfaa
