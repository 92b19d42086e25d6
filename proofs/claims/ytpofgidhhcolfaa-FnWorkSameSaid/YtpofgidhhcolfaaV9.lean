/- Contracts: VersLast of the reference and of the program. -/
import Derived.Test.YtpofgidhhcolfaaV7
import Derived.Test.YtpofgidhhcolfaaV8
namespace Go.Proofs.Ytpofgidhhcolfaa
open Go.RowKit

/-- the time of the last change of a key among some versions -/
def lastStep (key : ByteArray) (m : Int) (x : Ver) : Int := if keq x.1 key = true then max m (max x.2.2.1 x.2.2.2) else m
def lastL (l : List Ver) (key : ByteArray) : Int := l.foldl (lastStep key) 0
noncomputable def lastRes (now : Int) (l : List Ver) (key : ByteArray) : Int := if versOk now l = true then lastL l key else 0
theorem lastRes_bad {now : Int} {l : List Ver} {key : ByteArray} (h : versOk now l = false) : lastRes now l key = 0 := by simp [lastRes, h]
theorem lastRes_ok {now : Int} {l : List Ver} {key : ByteArray} (h : versOk now l = true) : lastRes now l key = lastL l key := by simp [lastRes, h]
theorem last_step {l : List Ver} {key : ByteArray} {i : Nat} {x : Ver} (h : l[i]? = some x) : lastL (l.take (i + 1)) key = lastStep key (lastL (l.take i) key) x := by
  obtain ⟨hk, rfl⟩ := List.getElem?_eq_some_iff.1 h
  unfold lastL
  rw [List.take_succ_eq_append_getElem hk, List.foldl_append]; rfl
theorem l1MaxC (a b : Int) (w : World) : Calls Try.prog 117 #[.int .i64 a, .int .i64 b] w fun e w' => e = .returned (.int .i64 (max a b)) ∧ w = w' := by
  by_cases h : b < a
  · have HM := Lib.hid (show max a b = a by omega)
    go_enter Try.func117, Try.ntmps117
    go_wp2
    go_ret
    exact ⟨retInt HM.out.symm, rfl⟩
  · have HM := Lib.hid (show max a b = b by omega)
    have h' : a ≤ b := by omega
    go_enter Try.func117, Try.ntmps117
    go_wp2
    go_ret
    exact ⟨retInt HM.out.symm, rfl⟩
set_option maxHeartbeats 2000000 in
set_option maxRecDepth 100000 in
theorem l2Last (now : Int) (A : Option Addr) (n c : Nat) (l : List Ver) (key : ByteArray) (w : World) (hr : Sl encVer w w.heap.size A n l) (hn : n ≤ 1048576) :
    Calls Try.prog 93 #[.agg #[.int .i64 now, .slice A n c], .string key] w fun e w' => e = .returned (.int .i64 (lastL l key)) ∧ Below w.heap.size w w' := by
  have HL := Lib.hid hr.len
  have HR := Lib.hid hr
  have HN := Lib.hid hn
  have b0 := bel_alloc (Below.refl _ w) (.cells #[.int .i64 now, .slice A n c] 39)
  obtain ⟨-, p1⟩ := cell_new2Vers w (.int .i64 now) (.slice A n c) 39
  clear hr hn
  go_enter Try.func93, Try.ntmps93
  go_wp2_with fail
  generalize w.alloc (.cells #[.int .i64 now, .slice A n c] 39) = w1 at *
  go_loopw [5, 6] (fun v5 v6 wr => ∃ (i : Nat), i ≤ n ∧ v6 = .int .i64 i ∧ v5 = .int .i64 (lastL (l.take i) key) ∧ Below w1.heap.size w1 wr) (fun _ v6 _ => n - (intOf v6).toNat)
  case atStart => exact ⟨0, Nat.zero_le _, rfl, rfl, Below.refl _ _⟩
  case round =>
    obtain ⟨i, hin, rfl, rfl, hb⟩ := hrel
    have HP1 := Lib.hid p1
    replace p1 := keepC hb p1
    have hbw := bel_trans b0 hb
    by_cases h0 : i < n
    · have h0' : (i : Int) < (n : Int) := by omega
      have j0 : (0 : Int) ≤ (i : Int) := by omega
      have hn' : (n : Int) ≤ 1048576 := by have := HN.out; omega
      obtain ⟨b, off, rfl, hbb⟩ := HR.out.spot (by omega)
      obtain ⟨f0, f1, f2, f3, hx, e0, e1, e2, e3⟩ := atVer (HR.out.keep hbw) h0
      have HS := Lib.hid (last_step (key := key) hx)
      clear hx
      cases hk : (f0.toList == key.toList)
      · have HE := Lib.hid (show lastL (l.take (i + 1)) key = lastL (l.take i) key by rw [HS.out]; exact if_neg (by show ¬ (f0.toList == key.toList) = true; rw [hk]; simp))
        generalize lastL (l.take i) key = m at *
        go_wp2_with fail
        go_roundw
        case rel => exact ⟨i + 1, by omega, by simp, by rw [HE.out], hb⟩
        case measure => simp [intOf]; omega
      · have HE := Lib.hid (show lastL (l.take (i + 1)) key = max (lastL (l.take i) key) (max f2 f3) by rw [HS.out]; exact if_pos hk)
        generalize lastL (l.take i) key = m at *
        go_wp2_with fail
        refine wp_region_held_drew (S := (fun W' => (W'.cell? ⟨w.heap.size, 1, none⟩ = some (.slice (some ⟨b, off, none⟩) n c)) ∧ (W'.cell? ⟨b, off + i * 4, none⟩ = some (.string f0) ∧ W'.cell? ⟨b, off + i * 4 + 1, none⟩ = some (.int .i64 f1) ∧ W'.cell? ⟨b, off + i * 4 + 2, none⟩ = some (.int .i64 f2) ∧ W'.cell? ⟨b, off + i * 4 + 3, none⟩ = some (.int .i64 f3)))) (by kernel_rfl) ⟨keepC (Below.refl _ _).drew p1, keepC (Below.refl _ _).drew e0, keepC (Below.refl _ _).drew e1, keepC (Below.refl _ _).drew e2, keepC (Below.refl _ _).drew e3⟩ (fun hHeld => ?_)
        refine wpAnyH_take (i := 0) (oi := { dst := some 22, op := Go.Op.move (Go.Operand.tmp 5), type := 3, pos := "l2_snap.go:61", after := #[], guard := none }) (v := ?_) rfl (by kernel_rfl) (by kernel_rfl) (by kernel_rfl) (fun _ _ _ h => h) (Or.inl ⟨by rfl, ?hy0⟩) (by assumption) ?_
        case hy0 => ((intro w hSw; (try dsimp only at hSw); go_simp); try with_reducible rfl)
        try simp only [Act.put, List.setIfInBounds_toArray, List.set_cons_zero, List.set_cons_succ]
        refine wpAnyH_take (i := 1) (oi := { dst := some 23, op := Go.Op.fieldAddr 39 (Go.Operand.tmp 2) 1, type := 0, pos := "l2_snap.go:61", after := #[], guard := none }) (v := ?_) rfl (by kernel_rfl) (by kernel_rfl) (by kernel_rfl) (fun _ _ _ h => h) (Or.inl ⟨by rfl, ?hy1⟩) (by assumption) ?_
        case hy1 => ((intro w hSw; (try dsimp only at hSw); go_simp); try with_reducible rfl)
        try simp only [Act.put, List.setIfInBounds_toArray, List.set_cons_zero, List.set_cons_succ]
        refine wpAnyH_take (i := 2) (oi := { dst := some 24, op := Go.Op.load 37 (Go.Operand.tmp 23), type := 37, pos := "l2_snap.go:61", after := #[{ on := 1, ground := Go.Ground.data }], guard := none }) (v := ?_) rfl (by kernel_rfl) (by kernel_rfl) (by kernel_rfl) (fun _ _ _ h => h) (Or.inl ⟨by rfl, ?hy2⟩) (by assumption) ?_
        case hy2 => ((intro w hSw; (try dsimp only at hSw); go_simp); try with_reducible rfl)
        try simp only [Act.put, List.setIfInBounds_toArray, List.set_cons_zero, List.set_cons_succ]
        refine wpAnyH_take (i := 3) (oi := { dst := some 25, op := Go.Op.move (Go.Operand.tmp 6), type := 3, pos := "l2_snap.go:61", after := #[], guard := none }) (v := ?_) rfl (by kernel_rfl) (by kernel_rfl) (by kernel_rfl) (fun _ _ _ h => h) (Or.inl ⟨by rfl, ?hy3⟩) (by assumption) ?_
        case hy3 => ((intro w hSw; (try dsimp only at hSw); go_simp); try with_reducible rfl)
        try simp only [Act.put, List.setIfInBounds_toArray, List.set_cons_zero, List.set_cons_succ]
        refine wpAnyH_take (i := 4) (oi := { dst := some 26, op := Go.Op.indexAddr 37 (Go.Operand.tmp 24) (Go.Operand.tmp 25), type := 0, pos := "l2_snap.go:61", after := #[{ on := 2, ground := Go.Ground.data }, { on := 3, ground := Go.Ground.data }], guard := none }) (v := ?_) rfl (by kernel_rfl) (by kernel_rfl) (by kernel_rfl) (fun _ _ _ h => h) (Or.inl ⟨by rfl, ?hy4⟩) (by assumption) ?_
        case hy4 => ((intro w hSw; (try dsimp only at hSw); go_simp); try with_reducible rfl)
        try simp only [Act.put, List.setIfInBounds_toArray, List.set_cons_zero, List.set_cons_succ]
        refine wpAnyH_take (i := 5) (oi := { dst := some 27, op := Go.Op.fieldAddr 77 (Go.Operand.tmp 26) 2, type := 0, pos := "l2_snap.go:61", after := #[{ on := 4, ground := Go.Ground.data }], guard := none }) (v := ?_) rfl (by kernel_rfl) (by kernel_rfl) (by kernel_rfl) (fun _ _ _ h => h) (Or.inl ⟨by rfl, ?hy5⟩) (by assumption) ?_
        case hy5 => ((intro w hSw; (try dsimp only at hSw); go_simp); try with_reducible rfl)
        try simp only [Act.put, List.setIfInBounds_toArray, List.set_cons_zero, List.set_cons_succ]
        refine wpAnyH_take (i := 6) (oi := { dst := some 28, op := Go.Op.load 3 (Go.Operand.tmp 27), type := 3, pos := "l2_snap.go:61", after := #[{ on := 5, ground := Go.Ground.data }], guard := none }) (v := ?_) rfl (by kernel_rfl) (by kernel_rfl) (by kernel_rfl) (fun _ _ _ h => h) (Or.inl ⟨by rfl, ?hy6⟩) (by assumption) ?_
        case hy6 => ((intro w hSw; (try dsimp only at hSw); go_simp); try with_reducible rfl)
        try simp only [Act.put, List.setIfInBounds_toArray, List.set_cons_zero, List.set_cons_succ]
        refine wpAnyH_take (i := 7) (oi := { dst := some 29, op := Go.Op.fieldAddr 39 (Go.Operand.tmp 2) 1, type := 0, pos := "l2_snap.go:61", after := #[], guard := none }) (v := ?_) rfl (by kernel_rfl) (by kernel_rfl) (by kernel_rfl) (fun _ _ _ h => h) (Or.inl ⟨by rfl, ?hy7⟩) (by assumption) ?_
        case hy7 => ((intro w hSw; (try dsimp only at hSw); go_simp); try with_reducible rfl)
        try simp only [Act.put, List.setIfInBounds_toArray, List.set_cons_zero, List.set_cons_succ]
        refine wpAnyH_take (i := 8) (oi := { dst := some 30, op := Go.Op.load 37 (Go.Operand.tmp 29), type := 37, pos := "l2_snap.go:61", after := #[{ on := 7, ground := Go.Ground.data }], guard := none }) (v := ?_) rfl (by kernel_rfl) (by kernel_rfl) (by kernel_rfl) (fun _ _ _ h => h) (Or.inl ⟨by rfl, ?hy8⟩) (by assumption) ?_
        case hy8 => ((intro w hSw; (try dsimp only at hSw); go_simp); try with_reducible rfl)
        try simp only [Act.put, List.setIfInBounds_toArray, List.set_cons_zero, List.set_cons_succ]
        refine wpAnyH_take (i := 9) (oi := { dst := some 31, op := Go.Op.move (Go.Operand.tmp 6), type := 3, pos := "l2_snap.go:61", after := #[], guard := none }) (v := ?_) rfl (by kernel_rfl) (by kernel_rfl) (by kernel_rfl) (fun _ _ _ h => h) (Or.inl ⟨by rfl, ?hy9⟩) (by assumption) ?_
        case hy9 => ((intro w hSw; (try dsimp only at hSw); go_simp); try with_reducible rfl)
        try simp only [Act.put, List.setIfInBounds_toArray, List.set_cons_zero, List.set_cons_succ]
        refine wpAnyH_take (i := 10) (oi := { dst := some 32, op := Go.Op.indexAddr 37 (Go.Operand.tmp 30) (Go.Operand.tmp 31), type := 0, pos := "l2_snap.go:61", after := #[{ on := 8, ground := Go.Ground.data }, { on := 9, ground := Go.Ground.data }], guard := none }) (v := ?_) rfl (by kernel_rfl) (by kernel_rfl) (by kernel_rfl) (fun _ _ _ h => h) (Or.inl ⟨by rfl, ?hy10⟩) (by assumption) ?_
        case hy10 => ((intro w hSw; (try dsimp only at hSw); go_simp); try with_reducible rfl)
        try simp only [Act.put, List.setIfInBounds_toArray, List.set_cons_zero, List.set_cons_succ]
        refine wpAnyH_take (i := 11) (oi := { dst := some 33, op := Go.Op.fieldAddr 77 (Go.Operand.tmp 32) 3, type := 0, pos := "l2_snap.go:61", after := #[{ on := 10, ground := Go.Ground.data }], guard := none }) (v := ?_) rfl (by kernel_rfl) (by kernel_rfl) (by kernel_rfl) (fun _ _ _ h => h) (Or.inl ⟨by rfl, ?hy11⟩) (by assumption) ?_
        case hy11 => ((intro w hSw; (try dsimp only at hSw); go_simp); try with_reducible rfl)
        try simp only [Act.put, List.setIfInBounds_toArray, List.set_cons_zero, List.set_cons_succ]
        refine wpAnyH_take (i := 12) (oi := { dst := some 34, op := Go.Op.load 3 (Go.Operand.tmp 33), type := 3, pos := "l2_snap.go:61", after := #[{ on := 11, ground := Go.Ground.data }], guard := none }) (v := ?_) rfl (by kernel_rfl) (by kernel_rfl) (by kernel_rfl) (fun _ _ _ h => h) (Or.inl ⟨by rfl, ?hy12⟩) (by assumption) ?_
        case hy12 => ((intro w hSw; (try dsimp only at hSw); go_simp); try with_reducible rfl)
        try simp only [Act.put, List.setIfInBounds_toArray, List.set_cons_zero, List.set_cons_succ]
        refine wpAnyH_ready (rs := [13]) (by kernel_rfl) (by simp) ?_
        refine AllReadyH.cons (o := { dst := some 35, op := Go.Op.call { callee := Go.Callee.value (Go.Operand.func 117), args := #[Go.Operand.tmp 28, Go.Operand.tmp 34], argTypes := #[3, 3] }, type := 3, pos := "l2_snap.go:61", after := #[{ on := 6, ground := Go.Ground.data }, { on := 12, ground := Go.Ground.data }], guard := none }) rfl (fun K hK => ?_) AllReadyH.nil
        go_simp
        refine (l1MaxC _ _ _).mono ?_
        rintro e W ⟨rfl, rfl⟩
        go_wp2_with fail
        refine hK.out _ _ hHeld (fun hHeld => ?_)
        clear hK K
        try simp only [Act.put, List.setIfInBounds_toArray, List.set_cons_zero, List.set_cons_succ]
        refine wpAnyH_ready (rs := [14]) (by kernel_rfl) (by simp) ?_
        refine AllReadyH.cons (o := { dst := some 36, op := Go.Op.call { callee := Go.Callee.value (Go.Operand.func 117), args := #[Go.Operand.tmp 22, Go.Operand.tmp 35], argTypes := #[3, 3] }, type := 3, pos := "l2_snap.go:61", after := #[{ on := 0, ground := Go.Ground.data }, { on := 13, ground := Go.Ground.data }, { on := 13, ground := Go.Ground.chain }], guard := none }) rfl (fun K hK => ?_) AllReadyH.nil
        go_simp
        refine (l1MaxC _ _ _).mono ?_
        rintro e W ⟨rfl, rfl⟩
        go_wp2_with fail
        refine hK.out _ _ hHeld (fun hHeld => ?_)
        clear hK K
        try simp only [Act.put, List.setIfInBounds_toArray, List.set_cons_zero, List.set_cons_succ]
        refine wpAnyH_take (i := 15) (oi := { dst := some 5, op := Go.Op.assign (Go.Operand.tmp 36), type := 3, pos := "l2_snap.go:61", after := #[{ on := 14, ground := Go.Ground.data }, { on := 14, ground := Go.Ground.chain }, { on := 0, ground := Go.Ground.phase }, { on := 1, ground := Go.Ground.phase }, { on := 2, ground := Go.Ground.phase }, { on := 3, ground := Go.Ground.phase }, { on := 4, ground := Go.Ground.phase }, { on := 5, ground := Go.Ground.phase }, { on := 6, ground := Go.Ground.phase }, { on := 7, ground := Go.Ground.phase }, { on := 8, ground := Go.Ground.phase }, { on := 9, ground := Go.Ground.phase }, { on := 10, ground := Go.Ground.phase }, { on := 11, ground := Go.Ground.phase }, { on := 12, ground := Go.Ground.phase }, { on := 13, ground := Go.Ground.phase }, { on := 14, ground := Go.Ground.phase }], guard := none }) (v := ?_) rfl (by kernel_rfl) (by kernel_rfl) (by kernel_rfl) (fun _ _ _ h => h) (Or.inl ⟨by rfl, ?hy15⟩) (by assumption) ?_
        case hy15 => ((intro w hSw; (try dsimp only at hSw); go_simp); try with_reducible rfl)
        try simp only [Act.put, List.setIfInBounds_toArray, List.set_cons_zero, List.set_cons_succ]
        refine wpAnyH_done (by kernel_rfl) ?_ _
        go_wp2_with fail
        go_roundw
        case rel => exact ⟨i + 1, by omega, by simp, by rw [HE.out], hb.drew⟩
        case measure => simp [intOf]; omega
    · obtain rfl : i = n := by omega
      have h0' : ¬ ((i : Int) < (i : Int)) := by omega
      have HE := Lib.hid (show l.take i = l from List.take_of_length_le (Nat.le_of_eq HL.out))
      generalize hq : lastL (l.take i) key = m at *
      rw [HE.out] at hq
      have HQ := Lib.hid hq
      clear hq
      go_wp2_with fail
      go_ret
      exact ⟨retInt HQ.out.symm, hbw⟩
set_option maxHeartbeats 1000000 in
theorem specVersLast (now : Int) (A : Option Addr) (n c : Nat) (l : List Ver) (key : ByteArray) (w : World) (hr : Sl encVer w w.heap.size A n l) (hk : VerSWf l) (hn : n ≤ 1048576) :
    Calls Try.prog 43 #[.agg #[.int .i64 now, .slice A n c], .string key] w fun e w' => e = .returned (.int .i64 (lastRes now l key)) ∧ Below w.heap.size w w' := by
  have HR := Lib.hid hr
  have HN := Lib.hid hn
  have HK := Lib.hid hk
  have b0 := bel_alloc (Below.refl _ w) (.cells #[.int .i64 now, .slice A n c] 39)
  obtain ⟨p0, p1⟩ := cell_new2Vers w (.int .i64 now) (.slice A n c) 39
  clear hr hn hk
  go_enter Try.func43, Try.ntmps43
  go_wp2_with fail
  refine (specVersOk now A n c l _ (HR.out.on b0) HK.out HN.out).mono ?_
  rintro e w1 ⟨rfl, hb1⟩
  replace p0 := keepC hb1 p0
  replace p1 := keepC hb1 p1
  have b1 := bel_trans b0 hb1
  cases hok : versOk now l
  · have HE := Lib.hid (lastRes_bad (key := key) hok)
    clear hok
    go_wp2_with fail
    go_ret
    exact ⟨retInt HE.out.symm, b1⟩
  · have HE := Lib.hid (lastRes_ok (key := key) hok)
    clear hok
    go_wp2_with fail
    refine (l2Last now A n c l key _ (HR.out.on b1) HN.out).mono ?_
    rintro e w2 ⟨rfl, hb2⟩
    rw [← HE.out]
    go_wp2_with fail
    go_ret
    exact ⟨rfl, bel_trans b1 hb2⟩
set_option maxHeartbeats 2000000 in
set_option maxRecDepth 100000 in
theorem implVersLast (now : Int) (A : Option Addr) (n c : Nat) (l : List Ver) (key : ByteArray) (w : World) (hr : Sl encVer w w.heap.size A n l) (hk : VerSWf l) (hn : n ≤ 1048576) :
    Calls Try.prog 44 #[.agg #[.int .i64 now, .slice A n c], .string key] w fun e w' => e = .returned (.int .i64 (lastRes now l key)) ∧ Below w.heap.size w w' := by
  have HL := Lib.hid hr.len
  have HR := Lib.hid hr
  have HN := Lib.hid hn
  have HK := Lib.hid hk
  have b0 := bel_alloc (Below.refl _ w) (.cells #[.int .i64 now, .slice A n c] 39)
  obtain ⟨p0, p1⟩ := cell_new2Vers w (.int .i64 now) (.slice A n c) 39
  clear hr hn hk
  go_enter Try.func44, Try.ntmps44
  go_wp2_with fail
  refine (implVersOk now A n c l _ (HR.out.on b0) HK.out HN.out).mono ?_
  rintro e w1 ⟨rfl, hb1⟩
  replace p0 := keepC hb1 p0
  replace p1 := keepC hb1 p1
  have b1 := bel_trans b0 hb1
  clear b0 hb1
  cases hok : versOk now l
  · have HE := Lib.hid (lastRes_bad (key := key) hok)
    clear hok
    go_wp2_with fail
    go_ret
    exact ⟨retInt HE.out.symm, b1⟩
  · have HE := Lib.hid (lastRes_ok (key := key) hok)
    clear hok
    go_wp2_with fail
    go_loopw [5, 14] (fun v5 v14 wr => ∃ (i : Nat), i ≤ n ∧ v14 = .int .i64 i ∧ v5 = .int .i64 (lastL (l.take i) key) ∧ Below w1.heap.size w1 wr) (fun _ v14 _ => n - (intOf v14).toNat)
    case atStart => exact ⟨0, Nat.zero_le _, rfl, rfl, Below.refl _ _⟩
    case round =>
      obtain ⟨i, hin, rfl, rfl, hb⟩ := hrel
      replace p1 := keepC hb p1
      have hbw := bel_trans b1 hb
      by_cases h0 : i < n
      · have h0' : (i : Int) < (n : Int) := by omega
        have j0 : (0 : Int) ≤ (i : Int) := by omega
        have hn' : (n : Int) ≤ 1048576 := by have := HN.out; omega
        obtain ⟨b, off, rfl, hbb⟩ := HR.out.spot (by omega)
        obtain ⟨f0, f1, f2, f3, hx, e0, e1, e2, e3⟩ := atVer (HR.out.keep hbw) h0
        have HS := Lib.hid (last_step (key := key) hx)
        clear hx
        cases hk : (f0.toList == key.toList)
        · have HE2 := Lib.hid (show lastL (l.take (i + 1)) key = lastL (l.take i) key by rw [HS.out]; exact if_neg (by show ¬ (f0.toList == key.toList) = true; rw [hk]; simp))
          generalize lastL (l.take i) key = m at *
          go_wp2_with fail
          go_roundw
          case rel => exact ⟨i + 1, by omega, by simp, by rw [HE2.out], bel_alloc hb _⟩
          case measure => simp [intOf]; omega
        · have HE2 := Lib.hid (show lastL (l.take (i + 1)) key = max (lastL (l.take i) key) (max f2 f3) by rw [HS.out]; exact if_pos hk)
          generalize lastL (l.take i) key = m at *
          go_wp2_with fail
          go_roundw
          case rel => exact ⟨i + 1, by omega, by simp, by rw [HE2.out]; simp; (repeat' split) <;> omega, bel_alloc hb _⟩
          case measure => simp [intOf]; omega
      · obtain rfl : i = n := by omega
        have h0' : ¬ ((i : Int) < (i : Int)) := by omega
        have HT := Lib.hid (show l.take i = l from List.take_of_length_le (Nat.le_of_eq HL.out))
        generalize hq : lastL (l.take i) key = m at *
        rw [HT.out, ← HE.out] at hq
        have HQ := Lib.hid hq
        clear hq
        go_wp2_with fail
        go_ret
        exact ⟨retInt HQ.out.symm, hbw⟩
end Go.Proofs.Ytpofgidhhcolfaa
