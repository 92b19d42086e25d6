/- The law FnAskText, walked. -/
import Derived.Test.YtpmeaikiaoojkaaDoorAN
import Derived.Test.YtpmeaikiaoojkaaDoorD6
import Derived.Deep.RegionHeld3
namespace Go.Proofs.YtpmeaikiaoojkaaDoor
open Go.RowKit

set_option maxHeartbeats 8000000 in
set_option maxRecDepth 100000 in
theorem lawFnAskText (A : Option Addr) (n c : Nat) (l : List UInt8) (B : Option Addr) (m d : Nat) (l2 : List UInt8) (w : World) (hE : Env w) (hr : Sl encB w w.heap.size A n l) (hn : n ≤ maxLen) (hc : n ≤ c) (hs : Sl encB w w.heap.size B m l2) (hm : m ≤ maxLen) (hd : m ≤ d) :
    Calls Tryd.prog 5 #[.slice A n c, .slice B m d] w fun e w' => e = .returned (.bool true) ∧ Below w.heap.size w w' := by
  unfold maxLen at hn hm
  by_cases hbig : 1048576 < n
  · have h1 : (1048576 : Int) < (n : Int) := by omega
    go_enter Tryd.func5, Tryd.ntmps5
    go_wp2
    all_goals
      go_ret
      exact ⟨rfl, Below.refl _ _⟩
  have h1 : ¬ (1048576 : Int) < (n : Int) := by omega
  by_cases hbig2 : 1048576 < m
  · have h2 : (1048576 : Int) < (m : Int) := by omega
    go_enter Tryd.func5, Tryd.ntmps5
    go_wp2
    all_goals
      go_ret
      exact ⟨rfl, Below.refl _ _⟩
  have h2 : ¬ (1048576 : Int) < (m : Int) := by omega
  have HE := Lib.hid hE
  have CA := Lib.hid (drawAskText A n c l w hr (by omega) hc)
  have CD := Lib.hid (fun W (hW : Below w.heap.size w W) => drawAskRead B m d l2 W (hs.on hW) (by omega) hd)
  clear hE hr hn hc hs hm hd hbig hbig2
  go_enter Tryd.func5, Tryd.ntmps5
  go_wp2_with fail
  clear h1 h2
  refine CA.out.mono ?_
  clear CA
  rintro e w1 ⟨k, key, hi, num, rfl, hk, hh, b1⟩
  have KH := Lib.hid (show key.size ≤ maxLen ∧ hi.size ≤ maxLen by unfold maxLen; omega)
  clear hk hh
  have xa := BoxC.new w1 26 #[.int .i64 k, .string key, .string hi, .int .i64 num]
  have b2 := bel_alloc b1 (.cells #[.int .i64 k, .string key, .string hi, .int .i64 num] 26)
  obtain ⟨P, hP⟩ : ∃ P, w1.heap.size = P := ⟨_, rfl⟩
  obtain ⟨tx, htx⟩ : ∃ tx, askText k key hi num = tx := ⟨_, rfl⟩
  obtain ⟨ok, hok⟩ : ∃ ok, askOk k key hi num = ok := ⟨_, rfl⟩
  have HTX := Lib.hid htx
  have HOK := Lib.hid hok
  have HSZ := Lib.hid (show tx.size ≤ 16 by rw [← htx]; exact askText_size k key hi num)
  have C12 := Lib.hid (fun W (hW : Below w.heap.size w W) => implAskText k key hi num W (HE.out.on hW).1.1 (HE.out.on hW).1.2 KH.out.1 KH.out.2)
  have C11 := Lib.hid (fun W => specAskText k key hi num W KH.out.1 KH.out.2)
  have C10 := Lib.hid (fun W (hW : Below w.heap.size w W) => implAskOk k key hi num W (HE.out.on hW).1.1 KH.out.1 KH.out.2)
  have C8 := Lib.hid (fun W => specAskOk k key hi num W KH.out.1 KH.out.2)
  clear htx hok b1
  have a0 := xa.c (k := 0) rfl
  have a1 := xa.c (k := 1) rfl
  have a2 := xa.c (k := 2) rfl
  have a3 := xa.c (k := 3) rfl
  go_wp2_with fail
  refine (C12.out _ b2).mono ?_
  clear C12
  rintro e w1' ⟨rfl, hb1⟩
  rw [HTX.out]
  replace xa := xa.on hb1
  replace b2 := bel_trans b2 hb1
  clear hb1 a0 a1 a2 a3
  rw [hP] at xa
  clear hP
  go_wp2_with fail
  refine (implAskRead tx _ (HE.out.on b2) (by have := HSZ.out; omega)).mono ?_
  intro e w2 hrd
  obtain ⟨⟨k1, key1, hi1, num1, ok1, hR, rfl⟩, hb2⟩ := hrd.open_
  clear hrd
  cases ok
  · obtain ⟨rfl, rfl, rfl, rfl, rfl⟩ : ok1 = false ∧ k1 = 0 ∧ key1 = ByteArray.empty ∧ hi1 = ByteArray.empty ∧ num1 = 0 := by
      rcases hR with ⟨-, q1, q2⟩ | ⟨q0, q1, q2, q3, q4, -⟩
      · rw [← HTX.out, askText_bad HOK.out] at q2
        exact absurd q2 (askText_ne q1)
      · exact ⟨q0, q1, q2, q3, q4⟩
    clear hR
    have xb := xa.on hb2
    have b2' := bel_trans b2 hb2
    have yb := BoxC.new w2 26 #[.int .i64 0, .string ByteArray.empty, .string ByteArray.empty, .int .i64 0]
    have xc := xb.alloc (.cells #[.int .i64 0, .string ByteArray.empty, .string ByteArray.empty, .int .i64 0] 26)
    have b3 := bel_alloc b2' (.cells #[.int .i64 0, .string ByteArray.empty, .string ByteArray.empty, .int .i64 0] 26)
    clear xa b2 b2' hb2 xb
    obtain ⟨Q, hQ⟩ : ∃ Q, w2.heap.size = Q := ⟨_, rfl⟩
    go_wp2_with fail
    rw [hQ] at yb
    clear hQ
    generalize w2.alloc (.cells #[.int .i64 0, .string ByteArray.empty, .string ByteArray.empty, .int .i64 0] 26) = w3 at *
    have HX := Lib.hid (show ∀ W', Below w3.heap.size w3 W' → ((W'.cell? ⟨P, 0, none⟩ = some (.int .i64 k) ∧ W'.cell? ⟨P, 1, none⟩ = some (.string key) ∧ W'.cell? ⟨P, 2, none⟩ = some (.string hi) ∧ W'.cell? ⟨P, 3, none⟩ = some (.int .i64 num)) ∧ W'.cell? ⟨Q, 0, none⟩ = some (.int .i64 0) ∧ W'.cell? ⟨Q, 1, none⟩ = some (.string ByteArray.empty) ∧ W'.cell? ⟨Q, 2, none⟩ = some (.string ByteArray.empty) ∧ W'.cell? ⟨Q, 3, none⟩ = some (.int .i64 0)) from fun W' hW => ⟨⟨(xc.on hW).c (k := 0) rfl, (xc.on hW).c (k := 1) rfl, (xc.on hW).c (k := 2) rfl, (xc.on hW).c (k := 3) rfl⟩, (yb.on hW).c (k := 0) rfl, (yb.on hW).c (k := 1) rfl, (yb.on hW).c (k := 2) rfl, (yb.on hW).c (k := 3) rfl⟩)
    clear xc yb
    have hq0 := (Below.refl w3.heap.size w3).drew
    have qn := neqAsk k key hi num k key hi num
    rw [eqAskB_self] at qn
    refine wp_region_held_drew (S := (fun W' => ((W'.cell? ⟨P, 0, none⟩ = some (.int .i64 k) ∧ W'.cell? ⟨P, 1, none⟩ = some (.string key) ∧ W'.cell? ⟨P, 2, none⟩ = some (.string hi) ∧ W'.cell? ⟨P, 3, none⟩ = some (.int .i64 num)) ∧ W'.cell? ⟨Q, 0, none⟩ = some (.int .i64 0) ∧ W'.cell? ⟨Q, 1, none⟩ = some (.string ByteArray.empty) ∧ W'.cell? ⟨Q, 2, none⟩ = some (.string ByteArray.empty) ∧ W'.cell? ⟨Q, 3, none⟩ = some (.int .i64 0)) ∧ Below w3.heap.size w3 W')) (by kernel_rfl) ⟨HX.out _ hq0, hq0⟩ (fun hHeld => ?_)
    refine wpAnyH_take (i := 0) (oi := { dst := some 31, op := Go.Op.move (Go.Operand.tmp 6), type := 9, pos := "laws.go:673", after := #[], guard := none }) (v := ?_) rfl (by kernel_rfl) (by kernel_rfl) (by kernel_rfl) (fun _ _ _ h => h) (Or.inl ⟨by rfl, ?hy0⟩) (by assumption) ?_
    case hy0 => ((intro w hSw; (try dsimp only at hSw); go_simp); try with_reducible rfl)
    try simp only [Act.put, List.setIfInBounds_toArray, List.set_cons_zero, List.set_cons_succ]
    refine wpAnyH_take (i := 1) (oi := { dst := some 32, op := Go.Op.load 26 (Go.Operand.tmp 5), type := 26, pos := "laws.go:673", after := #[], guard := none }) (v := ?_) rfl (by kernel_rfl) (by kernel_rfl) (by kernel_rfl) (fun _ _ _ h => h) (Or.inl ⟨by rfl, ?hy1⟩) (by assumption) ?_
    case hy1 => ((intro w hSw; (try dsimp only at hSw); go_simp); try with_reducible rfl)
    try simp only [Act.put, List.setIfInBounds_toArray, List.set_cons_zero, List.set_cons_succ]
    refine wpAnyH_ready (rs := [2]) (by kernel_rfl) (by simp) ?_
    refine AllReadyH.cons (o := { dst := some 33, op := Go.Op.call { callee := Go.Callee.value (Go.Operand.func 11), args := #[Go.Operand.tmp 32], argTypes := #[26] }, type := 9, pos := "laws.go:673", after := #[{ on := 1, ground := Go.Ground.data }], guard := none }) rfl (fun K hK => ?_) AllReadyH.nil
    go_simp
    refine (C11.out _).mono ?_
    rintro e wr1 ⟨rfl, hb1⟩
    have hq1 := bel_trans hq0 hb1
    rw [HTX.out]
    go_wp2_with fail
    refine hK.out _ _ ⟨HX.out _ hq1, hq1⟩ (fun hHeld => ?_)
    clear hK K
    try simp only [Act.put, List.setIfInBounds_toArray, List.set_cons_zero, List.set_cons_succ]
    refine wpAnyH_take (i := 3) (oi := { dst := some 34, op := Go.Op.binOp Go.BinOp.neq 9 (Go.Operand.tmp 31) (Go.Operand.tmp 33) 9, type := 4, pos := "laws.go:673", after := #[{ on := 0, ground := Go.Ground.data }, { on := 2, ground := Go.Ground.data }], guard := none }) (v := ?_) rfl (by kernel_rfl) (by kernel_rfl) (by kernel_rfl) (fun _ _ _ h => h) (Or.inl ⟨by rfl, ?hy3⟩) (by assumption) ?_
    case hy3 => ((intro w hSw; (try dsimp only at hSw); go_simp); try with_reducible rfl)
    try simp only [Act.put, List.setIfInBounds_toArray, List.set_cons_zero, List.set_cons_succ]
    refine wpAnyH_take (i := 4) (oi := { dst := some 35, op := Go.Op.move (Go.Operand.tmp 34), type := 4, pos := "laws.go:673", after := #[{ on := 3, ground := Go.Ground.data }, { on := 2, ground := Go.Ground.chain }], guard := none }) (v := ?_) rfl (by kernel_rfl) (by kernel_rfl) (by kernel_rfl) (fun _ _ _ h => h) (Or.inl ⟨by rfl, ?hy4⟩) (by assumption) ?_
    case hy4 => ((intro w hSw; (try dsimp only at hSw); go_simp); try with_reducible rfl)
    try simp only [Act.put, List.setIfInBounds_toArray, List.set_cons_zero, List.set_cons_succ]
    refine wpAnyH_take (i := 5) (oi := { dst := some 36, op := Go.Op.load 26 (Go.Operand.tmp 5), type := 26, pos := "laws.go:673", after := #[{ on := 4, ground := Go.Ground.guard }], guard := some (4, false) }) (v := ?_) rfl (by kernel_rfl) (by kernel_rfl) (by kernel_rfl) (fun _ _ _ h => h) (Or.inl ⟨by rfl, ?hy5⟩) (by assumption) ?_
    case hy5 => ((intro w hSw; (try dsimp only at hSw); go_simp); try with_reducible rfl)
    try simp only [Act.put, List.setIfInBounds_toArray, List.set_cons_zero, List.set_cons_succ]
    refine wpAnyH_take (i := 7) (oi := { dst := some 38, op := Go.Op.load 26 (Go.Operand.tmp 5), type := 26, pos := "laws.go:673", after := #[{ on := 4, ground := Go.Ground.guard }], guard := some (4, false) }) (v := ?_) rfl (by kernel_rfl) (by kernel_rfl) (by kernel_rfl) (fun _ _ _ h => h) (Or.inl ⟨by rfl, ?hy7⟩) (by assumption) ?_
    case hy7 => ((intro w hSw; (try dsimp only at hSw); go_simp); try with_reducible rfl)
    try simp only [Act.put, List.setIfInBounds_toArray, List.set_cons_zero, List.set_cons_succ]
    refine wpAnyH_ready (rs := [6]) (by kernel_rfl) (by simp) ?_
    refine AllReadyH.cons (o := { dst := some 37, op := Go.Op.call { callee := Go.Callee.value (Go.Operand.func 10), args := #[Go.Operand.tmp 36], argTypes := #[26] }, type := 4, pos := "laws.go:673", after := #[{ on := 5, ground := Go.Ground.data }, { on := 4, ground := Go.Ground.chain }, { on := 4, ground := Go.Ground.guard }], guard := some (4, false) }) rfl (fun K hK => ?_) AllReadyH.nil
    go_simp
    refine (C10.out _ (bel_trans b3 hq1)).mono ?_
    rintro e wr2 ⟨rfl, hb2⟩
    have hq2 := bel_trans hq1 hb2
    rw [HOK.out]
    go_wp2_with fail
    refine hK.out _ _ ⟨HX.out _ hq2, hq2⟩ (fun hHeld => ?_)
    clear hK K
    try simp only [Act.put, List.setIfInBounds_toArray, List.set_cons_zero, List.set_cons_succ]
    refine wpAnyH_ready (rs := [8]) (by kernel_rfl) (by simp) ?_
    refine AllReadyH.cons (o := { dst := some 39, op := Go.Op.call { callee := Go.Callee.value (Go.Operand.func 8), args := #[Go.Operand.tmp 38], argTypes := #[26] }, type := 4, pos := "laws.go:673", after := #[{ on := 7, ground := Go.Ground.data }, { on := 6, ground := Go.Ground.chain }, { on := 4, ground := Go.Ground.guard }], guard := some (4, false) }) rfl (fun K hK => ?_) AllReadyH.nil
    go_simp
    refine (C8.out _).mono ?_
    rintro e wr3 ⟨rfl, hb3⟩
    have hq3 := bel_trans hq2 hb3
    rw [HOK.out]
    go_wp2_with fail
    refine hK.out _ _ ⟨HX.out _ hq3, hq3⟩ (fun hHeld => ?_)
    clear hK K
    try simp only [Act.put, List.setIfInBounds_toArray, List.set_cons_zero, List.set_cons_succ]
    refine wpAnyH_take (i := 9) (oi := { dst := some 40, op := Go.Op.binOp Go.BinOp.neq 4 (Go.Operand.tmp 37) (Go.Operand.tmp 39) 4, type := 4, pos := "laws.go:673", after := #[{ on := 6, ground := Go.Ground.data }, { on := 8, ground := Go.Ground.data }, { on := 4, ground := Go.Ground.guard }], guard := some (4, false) }) (v := ?_) rfl (by kernel_rfl) (by kernel_rfl) (by kernel_rfl) (fun _ _ _ h => h) (Or.inl ⟨by rfl, ?hy9⟩) (by assumption) ?_
    case hy9 => ((intro w hSw; (try dsimp only at hSw); go_simp); try with_reducible rfl)
    try simp only [Act.put, List.setIfInBounds_toArray, List.set_cons_zero, List.set_cons_succ]
    refine wpAnyH_take (i := 10) (oi := { dst := some 41, op := Go.Op.pick (Go.Operand.tmp 35) (Go.Operand.const (Go.Value.bool true)) (Go.Operand.tmp 40), type := 4, pos := "laws.go:673", after := #[{ on := 4, ground := Go.Ground.data }, { on := 9, ground := Go.Ground.data }], guard := none }) (v := ?_) rfl (by kernel_rfl) (by kernel_rfl) (by kernel_rfl) (fun _ _ _ h => h) (Or.inl ⟨by rfl, ?hy10⟩) (by assumption) ?_
    case hy10 => ((intro w hSw; (try dsimp only at hSw); go_simp); try with_reducible rfl)
    try simp only [Act.put, List.setIfInBounds_toArray, List.set_cons_zero, List.set_cons_succ]
    refine wpAnyH_take (i := 11) (oi := { dst := some 42, op := Go.Op.move (Go.Operand.tmp 41), type := 4, pos := "laws.go:673", after := #[{ on := 10, ground := Go.Ground.data }, { on := 8, ground := Go.Ground.chain }], guard := none }) (v := ?_) rfl (by kernel_rfl) (by kernel_rfl) (by kernel_rfl) (fun _ _ _ h => h) (Or.inl ⟨by rfl, ?hy11⟩) (by assumption) ?_
    case hy11 => ((intro w hSw; (try dsimp only at hSw); go_simp); try with_reducible rfl)
    try simp only [Act.put, List.setIfInBounds_toArray, List.set_cons_zero, List.set_cons_succ]
    refine wpAnyH_take (i := 12) (oi := { dst := some 43, op := Go.Op.move (Go.Operand.tmp 8), type := 4, pos := "laws.go:673", after := #[{ on := 11, ground := Go.Ground.guard }], guard := some (11, false) }) (v := ?_) rfl (by kernel_rfl) (by kernel_rfl) (by kernel_rfl) (fun _ _ _ h => h) (Or.inl ⟨by rfl, ?hy12⟩) (by assumption) ?_
    case hy12 => ((intro w hSw; (try dsimp only at hSw); go_simp); try with_reducible rfl)
    try simp only [Act.put, List.setIfInBounds_toArray, List.set_cons_zero, List.set_cons_succ]
    refine wpAnyH_take (i := 13) (oi := { dst := some 44, op := Go.Op.load 26 (Go.Operand.tmp 5), type := 26, pos := "laws.go:673", after := #[{ on := 11, ground := Go.Ground.guard }], guard := some (11, false) }) (v := ?_) rfl (by kernel_rfl) (by kernel_rfl) (by kernel_rfl) (fun _ _ _ h => h) (Or.inl ⟨by rfl, ?hy13⟩) (by assumption) ?_
    case hy13 => ((intro w hSw; (try dsimp only at hSw); go_simp); try with_reducible rfl)
    try simp only [Act.put, List.setIfInBounds_toArray, List.set_cons_zero, List.set_cons_succ]
    refine wpAnyH_ready (rs := [14]) (by kernel_rfl) (by simp) ?_
    refine AllReadyH.cons (o := { dst := some 45, op := Go.Op.call { callee := Go.Callee.value (Go.Operand.func 8), args := #[Go.Operand.tmp 44], argTypes := #[26] }, type := 4, pos := "laws.go:673", after := #[{ on := 13, ground := Go.Ground.data }, { on := 11, ground := Go.Ground.chain }, { on := 11, ground := Go.Ground.guard }], guard := some (11, false) }) rfl (fun K hK => ?_) AllReadyH.nil
    go_simp
    refine (C8.out _).mono ?_
    rintro e wr4 ⟨rfl, hb4⟩
    have hq4 := bel_trans hq3 hb4
    rw [HOK.out]
    go_wp2_with fail
    refine hK.out _ _ ⟨HX.out _ hq4, hq4⟩ (fun hHeld => ?_)
    clear hK K
    try simp only [Act.put, List.setIfInBounds_toArray, List.set_cons_zero, List.set_cons_succ]
    refine wpAnyH_take (i := 15) (oi := { dst := some 46, op := Go.Op.binOp Go.BinOp.neq 4 (Go.Operand.tmp 43) (Go.Operand.tmp 45) 4, type := 4, pos := "laws.go:673", after := #[{ on := 12, ground := Go.Ground.data }, { on := 14, ground := Go.Ground.data }, { on := 11, ground := Go.Ground.guard }], guard := some (11, false) }) (v := ?_) rfl (by kernel_rfl) (by kernel_rfl) (by kernel_rfl) (fun _ _ _ h => h) (Or.inl ⟨by rfl, ?hy15⟩) (by assumption) ?_
    case hy15 => ((intro w hSw; (try dsimp only at hSw); go_simp); try with_reducible rfl)
    try simp only [Act.put, List.setIfInBounds_toArray, List.set_cons_zero, List.set_cons_succ]
    refine wpAnyH_take (i := 16) (oi := { dst := some 47, op := Go.Op.pick (Go.Operand.tmp 42) (Go.Operand.const (Go.Value.bool true)) (Go.Operand.tmp 46), type := 4, pos := "laws.go:673", after := #[{ on := 11, ground := Go.Ground.data }, { on := 15, ground := Go.Ground.data }], guard := none }) (v := ?_) rfl (by kernel_rfl) (by kernel_rfl) (by kernel_rfl) (fun _ _ _ h => h) (Or.inl ⟨by rfl, ?hy16⟩) (by assumption) ?_
    case hy16 => ((intro w hSw; (try dsimp only at hSw); go_simp); try with_reducible rfl)
    try simp only [Act.put, List.setIfInBounds_toArray, List.set_cons_zero, List.set_cons_succ]
    refine wpAnyH_take (i := 17) (oi := { dst := some 48, op := Go.Op.move (Go.Operand.tmp 47), type := 4, pos := "laws.go:673", after := #[{ on := 16, ground := Go.Ground.data }, { on := 14, ground := Go.Ground.chain }], guard := none }) (v := ?_) rfl (by kernel_rfl) (by kernel_rfl) (by kernel_rfl) (fun _ _ _ h => h) (Or.inl ⟨by rfl, ?hy17⟩) (by assumption) ?_
    case hy17 => ((intro w hSw; (try dsimp only at hSw); go_simp); try with_reducible rfl)
    try simp only [Act.put, List.setIfInBounds_toArray, List.set_cons_zero, List.set_cons_succ]
    refine wpAnyH_take (i := 18) (oi := { dst := some 49, op := Go.Op.move (Go.Operand.tmp 8), type := 4, pos := "laws.go:673", after := #[{ on := 17, ground := Go.Ground.guard }], guard := some (17, false) }) (v := ?_) rfl (by kernel_rfl) (by kernel_rfl) (by kernel_rfl) (fun _ _ _ h => h) (Or.inl ⟨by rfl, ?hy18⟩) (by assumption) ?_
    case hy18 => ((intro w hSw; (try dsimp only at hSw); go_simp); try with_reducible rfl)
    try simp only [Act.put, List.setIfInBounds_toArray, List.set_cons_zero, List.set_cons_succ]
    refine wpAnyH_take (i := 19) (oi := { dst := some 50, op := Go.Op.move (Go.Operand.tmp 49), type := 4, pos := "laws.go:673", after := #[{ on := 18, ground := Go.Ground.data }, { on := 17, ground := Go.Ground.chain }, { on := 17, ground := Go.Ground.guard }], guard := some (17, false) }) (v := ?_) rfl (by kernel_rfl) (by kernel_rfl) (by kernel_rfl) (fun _ _ _ h => h) (Or.inl ⟨by rfl, ?hy19⟩) (by assumption) ?_
    case hy19 => ((intro w hSw; (try dsimp only at hSw); go_simp); try with_reducible rfl)
    try simp only [Act.put, List.setIfInBounds_toArray, List.set_cons_zero, List.set_cons_succ]
    refine wpAnyH_take (i := 20) (oi := { dst := some 51, op := Go.Op.load 26 (Go.Operand.tmp 7), type := 26, pos := "laws.go:673", after := #[{ on := 19, ground := Go.Ground.guard }], guard := some (19, true) }) (v := undef) rfl (by kernel_rfl) (by kernel_rfl) (by kernel_rfl) (fun _ _ _ h => h) (Or.inr ⟨by rfl, rfl⟩) (by assumption) ?_
    try simp only [Act.put, List.setIfInBounds_toArray, List.set_cons_zero, List.set_cons_succ]
    refine wpAnyH_take (i := 21) (oi := { dst := some 52, op := Go.Op.load 26 (Go.Operand.tmp 5), type := 26, pos := "laws.go:673", after := #[{ on := 19, ground := Go.Ground.guard }], guard := some (19, true) }) (v := undef) rfl (by kernel_rfl) (by kernel_rfl) (by kernel_rfl) (fun _ _ _ h => h) (Or.inr ⟨by rfl, rfl⟩) (by assumption) ?_
    try simp only [Act.put, List.setIfInBounds_toArray, List.set_cons_zero, List.set_cons_succ]
    refine wpAnyH_take (i := 22) (oi := { dst := some 53, op := Go.Op.binOp Go.BinOp.neq 26 (Go.Operand.tmp 51) (Go.Operand.tmp 52) 26, type := 4, pos := "laws.go:673", after := #[{ on := 20, ground := Go.Ground.data }, { on := 21, ground := Go.Ground.data }, { on := 19, ground := Go.Ground.guard }], guard := some (19, true) }) (v := undef) rfl (by kernel_rfl) (by kernel_rfl) (by kernel_rfl) (fun _ _ _ h => h) (Or.inr ⟨by rfl, rfl⟩) (by assumption) ?_
    try simp only [Act.put, List.setIfInBounds_toArray, List.set_cons_zero, List.set_cons_succ]
    refine wpAnyH_take (i := 23) (oi := { dst := some 54, op := Go.Op.pick (Go.Operand.tmp 50) (Go.Operand.tmp 53) (Go.Operand.const (Go.Value.bool false)), type := 4, pos := "laws.go:673", after := #[{ on := 19, ground := Go.Ground.data }, { on := 22, ground := Go.Ground.data }, { on := 17, ground := Go.Ground.guard }], guard := some (17, false) }) (v := ?_) rfl (by kernel_rfl) (by kernel_rfl) (by kernel_rfl) (fun _ _ _ h => h) (Or.inl ⟨by rfl, ?hy23⟩) (by assumption) ?_
    case hy23 => ((intro w hSw; (try dsimp only at hSw); go_simp); try with_reducible rfl)
    try simp only [Act.put, List.setIfInBounds_toArray, List.set_cons_zero, List.set_cons_succ]
    refine wpAnyH_take (i := 24) (oi := { dst := some 55, op := Go.Op.pick (Go.Operand.tmp 48) (Go.Operand.const (Go.Value.bool true)) (Go.Operand.tmp 54), type := 4, pos := "laws.go:673", after := #[{ on := 17, ground := Go.Ground.data }, { on := 23, ground := Go.Ground.data }], guard := none }) (v := ?_) rfl (by kernel_rfl) (by kernel_rfl) (by kernel_rfl) (fun _ _ _ h => h) (Or.inl ⟨by rfl, ?hy24⟩) (by assumption) ?_
    case hy24 => ((intro w hSw; (try dsimp only at hSw); go_simp); try with_reducible rfl)
    try simp only [Act.put, List.setIfInBounds_toArray, List.set_cons_zero, List.set_cons_succ]
    refine wpAnyH_done (by kernel_rfl) ?_ _
    have b4 := bel_trans b3 hq4
    clear HX hq0 hq1 hq2 hq3 hq4 hb1 hb2 hb3 hb4 b3
    go_wp2_with fail
    refine (CD.out _ b4).mono ?_
    rintro e w5 ⟨tt, rfl, htt, hb5⟩
    have b5 := bel_trans b4 hb5
    clear b4 hb5
    go_wp2_with fail
    refine (implAskRead tt _ (HE.out.on b5) (by omega)).mono ?_
    intro e w6 hr
    obtain ⟨⟨k2, key2, hi2, num2, ok2, hR, rfl⟩, hb6⟩ := hr.open_
    clear hr
    have b6 := bel_trans b5 hb6
    have z1 := BoxC.new w6 26 #[.int .i64 k2, .string key2, .string hi2, .int .i64 num2]
    have b7 := bel_alloc b6 (.cells #[.int .i64 k2, .string key2, .string hi2, .int .i64 num2] 26)
    clear b5 hb6 b6
    go_wp2_with fail
    refine (specAskRead tt _ (by omega)).mono ?_
    intro e w8 hr
    obtain ⟨⟨k3, key3, hi3, num3, ok3, hR3, rfl⟩, hb8⟩ := hr.open_
    clear hr
    obtain ⟨rfl, rfl, rfl, rfl, rfl⟩ := hR.same hR3
    clear hR3
    have z2 := z1.on hb8
    have b8 := bel_trans b7 hb8
    have z3 := BoxC.new w8 26 #[.int .i64 k2, .string key2, .string hi2, .int .i64 num2]
    have z4 := z2.alloc (.cells #[.int .i64 k2, .string key2, .string hi2, .int .i64 num2] 26)
    have b9 := bel_alloc b8 (.cells #[.int .i64 k2, .string key2, .string hi2, .int .i64 num2] 26)
    have m0 := z4.c (k := 0) rfl
    have m1 := z4.c (k := 1) rfl
    have m2 := z4.c (k := 2) rfl
    have m3 := z4.c (k := 3) rfl
    have o0 := z3.c (k := 0) rfl
    have o1 := z3.c (k := 1) rfl
    have o2 := z3.c (k := 2) rfl
    have o3 := z3.c (k := 3) rfl
    have qe := eqlAsk k2 key2 hi2 num2 k2 key2 hi2 num2
    rw [eqAskB_self] at qe
    have qo : (ok2 == ok2) = true := by simp
    clear z1 b7 hb8 z2 b8
    rcases hR with ⟨rfl, hok2, htx2⟩ | ⟨rfl, -⟩
    · have hk2 : key2.size ≤ maxLen ∧ hi2.size ≤ maxLen := by
        obtain ⟨j, a, b, c, -, -, -, q1, q2, -⟩ := askOk_facts hok2
        unfold maxLen
        omega
      have HOK2 := Lib.hid hok2
      have HT2 := Lib.hid htx2
      have HK2 := Lib.hid hk2
      clear hok2 htx2 hk2
      go_wp2_with fail
      refine (implAskText k2 key2 hi2 num2 _ (HE.out.on b9).1.1 (HE.out.on b9).1.2 HK2.out.1 HK2.out.2).mono ?_
      rintro e w10 ⟨rfl, hb10⟩
      rw [HT2.out]
      have z5 := z4.on hb10
      have b10 := bel_trans b9 hb10
      replace m0 := z5.c (k := 0) rfl
      replace m1 := z5.c (k := 1) rfl
      replace m2 := z5.c (k := 2) rfl
      replace m3 := z5.c (k := 3) rfl
      clear z3 z4 b9 hb10 o0 o1 o2 o3
      have ht0 : (tt.toList == tt.toList) = true := by simp
      go_wp2_with fail
      refine (implAskOk k2 key2 hi2 num2 _ (HE.out.on b10).1.1 HK2.out.1 HK2.out.2).mono ?_
      rintro e w11 ⟨rfl, hb11⟩
      rw [HOK2.out]
      have b11 := bel_trans b10 hb11
      clear z5 b10 hb11 m0 m1 m2 m3
      go_wp2
      go_ret
      exact ⟨rfl, b11⟩
    · clear z3 z4
      go_wp2
      go_ret
      exact ⟨rfl, b9⟩
  · obtain ⟨rfl, rfl, rfl, rfl, rfl⟩ : ok1 = true ∧ k = k1 ∧ key = key1 ∧ hi = hi1 ∧ num = num1 := by
      rcases hR with ⟨q0, q1, q2⟩ | ⟨-, -, -, -, -, q⟩
      · obtain ⟨e1, e2, e3, e4⟩ := askText_inj q1 HOK.out (q2.trans HTX.out.symm)
        exact ⟨q0, e1.symm, e2.symm, e3.symm, e4.symm⟩
      · exact absurd HTX.out (q _ _ _ _ HOK.out)
    clear hR
    have xb := xa.on hb2
    have b2' := bel_trans b2 hb2
    have yb := BoxC.new w2 26 #[.int .i64 k, .string key, .string hi, .int .i64 num]
    have xc := xb.alloc (.cells #[.int .i64 k, .string key, .string hi, .int .i64 num] 26)
    have b3 := bel_alloc b2' (.cells #[.int .i64 k, .string key, .string hi, .int .i64 num] 26)
    clear xa b2 b2' hb2 xb
    obtain ⟨Q, hQ⟩ : ∃ Q, w2.heap.size = Q := ⟨_, rfl⟩
    go_wp2_with fail
    rw [hQ] at yb
    clear hQ
    generalize w2.alloc (.cells #[.int .i64 k, .string key, .string hi, .int .i64 num] 26) = w3 at *
    have HX := Lib.hid (show ∀ W', Below w3.heap.size w3 W' → ((W'.cell? ⟨P, 0, none⟩ = some (.int .i64 k) ∧ W'.cell? ⟨P, 1, none⟩ = some (.string key) ∧ W'.cell? ⟨P, 2, none⟩ = some (.string hi) ∧ W'.cell? ⟨P, 3, none⟩ = some (.int .i64 num)) ∧ W'.cell? ⟨Q, 0, none⟩ = some (.int .i64 k) ∧ W'.cell? ⟨Q, 1, none⟩ = some (.string key) ∧ W'.cell? ⟨Q, 2, none⟩ = some (.string hi) ∧ W'.cell? ⟨Q, 3, none⟩ = some (.int .i64 num)) from fun W' hW => ⟨⟨(xc.on hW).c (k := 0) rfl, (xc.on hW).c (k := 1) rfl, (xc.on hW).c (k := 2) rfl, (xc.on hW).c (k := 3) rfl⟩, (yb.on hW).c (k := 0) rfl, (yb.on hW).c (k := 1) rfl, (yb.on hW).c (k := 2) rfl, (yb.on hW).c (k := 3) rfl⟩)
    clear xc yb
    have hq0 := (Below.refl w3.heap.size w3).drew
    have qn := neqAsk k key hi num k key hi num
    rw [eqAskB_self] at qn
    refine wp_region_held_drew (S := (fun W' => ((W'.cell? ⟨P, 0, none⟩ = some (.int .i64 k) ∧ W'.cell? ⟨P, 1, none⟩ = some (.string key) ∧ W'.cell? ⟨P, 2, none⟩ = some (.string hi) ∧ W'.cell? ⟨P, 3, none⟩ = some (.int .i64 num)) ∧ W'.cell? ⟨Q, 0, none⟩ = some (.int .i64 k) ∧ W'.cell? ⟨Q, 1, none⟩ = some (.string key) ∧ W'.cell? ⟨Q, 2, none⟩ = some (.string hi) ∧ W'.cell? ⟨Q, 3, none⟩ = some (.int .i64 num)) ∧ Below w3.heap.size w3 W')) (by kernel_rfl) ⟨HX.out _ hq0, hq0⟩ (fun hHeld => ?_)
    refine wpAnyH_take (i := 0) (oi := { dst := some 31, op := Go.Op.move (Go.Operand.tmp 6), type := 9, pos := "laws.go:673", after := #[], guard := none }) (v := ?_) rfl (by kernel_rfl) (by kernel_rfl) (by kernel_rfl) (fun _ _ _ h => h) (Or.inl ⟨by rfl, ?hy0⟩) (by assumption) ?_
    case hy0 => ((intro w hSw; (try dsimp only at hSw); go_simp); try with_reducible rfl)
    try simp only [Act.put, List.setIfInBounds_toArray, List.set_cons_zero, List.set_cons_succ]
    refine wpAnyH_take (i := 1) (oi := { dst := some 32, op := Go.Op.load 26 (Go.Operand.tmp 5), type := 26, pos := "laws.go:673", after := #[], guard := none }) (v := ?_) rfl (by kernel_rfl) (by kernel_rfl) (by kernel_rfl) (fun _ _ _ h => h) (Or.inl ⟨by rfl, ?hy1⟩) (by assumption) ?_
    case hy1 => ((intro w hSw; (try dsimp only at hSw); go_simp); try with_reducible rfl)
    try simp only [Act.put, List.setIfInBounds_toArray, List.set_cons_zero, List.set_cons_succ]
    refine wpAnyH_ready (rs := [2]) (by kernel_rfl) (by simp) ?_
    refine AllReadyH.cons (o := { dst := some 33, op := Go.Op.call { callee := Go.Callee.value (Go.Operand.func 11), args := #[Go.Operand.tmp 32], argTypes := #[26] }, type := 9, pos := "laws.go:673", after := #[{ on := 1, ground := Go.Ground.data }], guard := none }) rfl (fun K hK => ?_) AllReadyH.nil
    go_simp
    refine (C11.out _).mono ?_
    rintro e wr1 ⟨rfl, hb1⟩
    have hq1 := bel_trans hq0 hb1
    rw [HTX.out]
    go_wp2_with fail
    refine hK.out _ _ ⟨HX.out _ hq1, hq1⟩ (fun hHeld => ?_)
    clear hK K
    try simp only [Act.put, List.setIfInBounds_toArray, List.set_cons_zero, List.set_cons_succ]
    refine wpAnyH_take (i := 3) (oi := { dst := some 34, op := Go.Op.binOp Go.BinOp.neq 9 (Go.Operand.tmp 31) (Go.Operand.tmp 33) 9, type := 4, pos := "laws.go:673", after := #[{ on := 0, ground := Go.Ground.data }, { on := 2, ground := Go.Ground.data }], guard := none }) (v := ?_) rfl (by kernel_rfl) (by kernel_rfl) (by kernel_rfl) (fun _ _ _ h => h) (Or.inl ⟨by rfl, ?hy3⟩) (by assumption) ?_
    case hy3 => ((intro w hSw; (try dsimp only at hSw); go_simp); try with_reducible rfl)
    try simp only [Act.put, List.setIfInBounds_toArray, List.set_cons_zero, List.set_cons_succ]
    refine wpAnyH_take (i := 4) (oi := { dst := some 35, op := Go.Op.move (Go.Operand.tmp 34), type := 4, pos := "laws.go:673", after := #[{ on := 3, ground := Go.Ground.data }, { on := 2, ground := Go.Ground.chain }], guard := none }) (v := ?_) rfl (by kernel_rfl) (by kernel_rfl) (by kernel_rfl) (fun _ _ _ h => h) (Or.inl ⟨by rfl, ?hy4⟩) (by assumption) ?_
    case hy4 => ((intro w hSw; (try dsimp only at hSw); go_simp); try with_reducible rfl)
    try simp only [Act.put, List.setIfInBounds_toArray, List.set_cons_zero, List.set_cons_succ]
    refine wpAnyH_take (i := 5) (oi := { dst := some 36, op := Go.Op.load 26 (Go.Operand.tmp 5), type := 26, pos := "laws.go:673", after := #[{ on := 4, ground := Go.Ground.guard }], guard := some (4, false) }) (v := ?_) rfl (by kernel_rfl) (by kernel_rfl) (by kernel_rfl) (fun _ _ _ h => h) (Or.inl ⟨by rfl, ?hy5⟩) (by assumption) ?_
    case hy5 => ((intro w hSw; (try dsimp only at hSw); go_simp); try with_reducible rfl)
    try simp only [Act.put, List.setIfInBounds_toArray, List.set_cons_zero, List.set_cons_succ]
    refine wpAnyH_take (i := 7) (oi := { dst := some 38, op := Go.Op.load 26 (Go.Operand.tmp 5), type := 26, pos := "laws.go:673", after := #[{ on := 4, ground := Go.Ground.guard }], guard := some (4, false) }) (v := ?_) rfl (by kernel_rfl) (by kernel_rfl) (by kernel_rfl) (fun _ _ _ h => h) (Or.inl ⟨by rfl, ?hy7⟩) (by assumption) ?_
    case hy7 => ((intro w hSw; (try dsimp only at hSw); go_simp); try with_reducible rfl)
    try simp only [Act.put, List.setIfInBounds_toArray, List.set_cons_zero, List.set_cons_succ]
    refine wpAnyH_ready (rs := [6]) (by kernel_rfl) (by simp) ?_
    refine AllReadyH.cons (o := { dst := some 37, op := Go.Op.call { callee := Go.Callee.value (Go.Operand.func 10), args := #[Go.Operand.tmp 36], argTypes := #[26] }, type := 4, pos := "laws.go:673", after := #[{ on := 5, ground := Go.Ground.data }, { on := 4, ground := Go.Ground.chain }, { on := 4, ground := Go.Ground.guard }], guard := some (4, false) }) rfl (fun K hK => ?_) AllReadyH.nil
    go_simp
    refine (C10.out _ (bel_trans b3 hq1)).mono ?_
    rintro e wr2 ⟨rfl, hb2⟩
    have hq2 := bel_trans hq1 hb2
    rw [HOK.out]
    go_wp2_with fail
    refine hK.out _ _ ⟨HX.out _ hq2, hq2⟩ (fun hHeld => ?_)
    clear hK K
    try simp only [Act.put, List.setIfInBounds_toArray, List.set_cons_zero, List.set_cons_succ]
    refine wpAnyH_ready (rs := [8]) (by kernel_rfl) (by simp) ?_
    refine AllReadyH.cons (o := { dst := some 39, op := Go.Op.call { callee := Go.Callee.value (Go.Operand.func 8), args := #[Go.Operand.tmp 38], argTypes := #[26] }, type := 4, pos := "laws.go:673", after := #[{ on := 7, ground := Go.Ground.data }, { on := 6, ground := Go.Ground.chain }, { on := 4, ground := Go.Ground.guard }], guard := some (4, false) }) rfl (fun K hK => ?_) AllReadyH.nil
    go_simp
    refine (C8.out _).mono ?_
    rintro e wr3 ⟨rfl, hb3⟩
    have hq3 := bel_trans hq2 hb3
    rw [HOK.out]
    go_wp2_with fail
    refine hK.out _ _ ⟨HX.out _ hq3, hq3⟩ (fun hHeld => ?_)
    clear hK K
    try simp only [Act.put, List.setIfInBounds_toArray, List.set_cons_zero, List.set_cons_succ]
    refine wpAnyH_take (i := 9) (oi := { dst := some 40, op := Go.Op.binOp Go.BinOp.neq 4 (Go.Operand.tmp 37) (Go.Operand.tmp 39) 4, type := 4, pos := "laws.go:673", after := #[{ on := 6, ground := Go.Ground.data }, { on := 8, ground := Go.Ground.data }, { on := 4, ground := Go.Ground.guard }], guard := some (4, false) }) (v := ?_) rfl (by kernel_rfl) (by kernel_rfl) (by kernel_rfl) (fun _ _ _ h => h) (Or.inl ⟨by rfl, ?hy9⟩) (by assumption) ?_
    case hy9 => ((intro w hSw; (try dsimp only at hSw); go_simp); try with_reducible rfl)
    try simp only [Act.put, List.setIfInBounds_toArray, List.set_cons_zero, List.set_cons_succ]
    refine wpAnyH_take (i := 10) (oi := { dst := some 41, op := Go.Op.pick (Go.Operand.tmp 35) (Go.Operand.const (Go.Value.bool true)) (Go.Operand.tmp 40), type := 4, pos := "laws.go:673", after := #[{ on := 4, ground := Go.Ground.data }, { on := 9, ground := Go.Ground.data }], guard := none }) (v := ?_) rfl (by kernel_rfl) (by kernel_rfl) (by kernel_rfl) (fun _ _ _ h => h) (Or.inl ⟨by rfl, ?hy10⟩) (by assumption) ?_
    case hy10 => ((intro w hSw; (try dsimp only at hSw); go_simp); try with_reducible rfl)
    try simp only [Act.put, List.setIfInBounds_toArray, List.set_cons_zero, List.set_cons_succ]
    refine wpAnyH_take (i := 11) (oi := { dst := some 42, op := Go.Op.move (Go.Operand.tmp 41), type := 4, pos := "laws.go:673", after := #[{ on := 10, ground := Go.Ground.data }, { on := 8, ground := Go.Ground.chain }], guard := none }) (v := ?_) rfl (by kernel_rfl) (by kernel_rfl) (by kernel_rfl) (fun _ _ _ h => h) (Or.inl ⟨by rfl, ?hy11⟩) (by assumption) ?_
    case hy11 => ((intro w hSw; (try dsimp only at hSw); go_simp); try with_reducible rfl)
    try simp only [Act.put, List.setIfInBounds_toArray, List.set_cons_zero, List.set_cons_succ]
    refine wpAnyH_take (i := 12) (oi := { dst := some 43, op := Go.Op.move (Go.Operand.tmp 8), type := 4, pos := "laws.go:673", after := #[{ on := 11, ground := Go.Ground.guard }], guard := some (11, false) }) (v := ?_) rfl (by kernel_rfl) (by kernel_rfl) (by kernel_rfl) (fun _ _ _ h => h) (Or.inl ⟨by rfl, ?hy12⟩) (by assumption) ?_
    case hy12 => ((intro w hSw; (try dsimp only at hSw); go_simp); try with_reducible rfl)
    try simp only [Act.put, List.setIfInBounds_toArray, List.set_cons_zero, List.set_cons_succ]
    refine wpAnyH_take (i := 13) (oi := { dst := some 44, op := Go.Op.load 26 (Go.Operand.tmp 5), type := 26, pos := "laws.go:673", after := #[{ on := 11, ground := Go.Ground.guard }], guard := some (11, false) }) (v := ?_) rfl (by kernel_rfl) (by kernel_rfl) (by kernel_rfl) (fun _ _ _ h => h) (Or.inl ⟨by rfl, ?hy13⟩) (by assumption) ?_
    case hy13 => ((intro w hSw; (try dsimp only at hSw); go_simp); try with_reducible rfl)
    try simp only [Act.put, List.setIfInBounds_toArray, List.set_cons_zero, List.set_cons_succ]
    refine wpAnyH_ready (rs := [14]) (by kernel_rfl) (by simp) ?_
    refine AllReadyH.cons (o := { dst := some 45, op := Go.Op.call { callee := Go.Callee.value (Go.Operand.func 8), args := #[Go.Operand.tmp 44], argTypes := #[26] }, type := 4, pos := "laws.go:673", after := #[{ on := 13, ground := Go.Ground.data }, { on := 11, ground := Go.Ground.chain }, { on := 11, ground := Go.Ground.guard }], guard := some (11, false) }) rfl (fun K hK => ?_) AllReadyH.nil
    go_simp
    refine (C8.out _).mono ?_
    rintro e wr4 ⟨rfl, hb4⟩
    have hq4 := bel_trans hq3 hb4
    rw [HOK.out]
    go_wp2_with fail
    refine hK.out _ _ ⟨HX.out _ hq4, hq4⟩ (fun hHeld => ?_)
    clear hK K
    try simp only [Act.put, List.setIfInBounds_toArray, List.set_cons_zero, List.set_cons_succ]
    refine wpAnyH_take (i := 15) (oi := { dst := some 46, op := Go.Op.binOp Go.BinOp.neq 4 (Go.Operand.tmp 43) (Go.Operand.tmp 45) 4, type := 4, pos := "laws.go:673", after := #[{ on := 12, ground := Go.Ground.data }, { on := 14, ground := Go.Ground.data }, { on := 11, ground := Go.Ground.guard }], guard := some (11, false) }) (v := ?_) rfl (by kernel_rfl) (by kernel_rfl) (by kernel_rfl) (fun _ _ _ h => h) (Or.inl ⟨by rfl, ?hy15⟩) (by assumption) ?_
    case hy15 => ((intro w hSw; (try dsimp only at hSw); go_simp); try with_reducible rfl)
    try simp only [Act.put, List.setIfInBounds_toArray, List.set_cons_zero, List.set_cons_succ]
    refine wpAnyH_take (i := 16) (oi := { dst := some 47, op := Go.Op.pick (Go.Operand.tmp 42) (Go.Operand.const (Go.Value.bool true)) (Go.Operand.tmp 46), type := 4, pos := "laws.go:673", after := #[{ on := 11, ground := Go.Ground.data }, { on := 15, ground := Go.Ground.data }], guard := none }) (v := ?_) rfl (by kernel_rfl) (by kernel_rfl) (by kernel_rfl) (fun _ _ _ h => h) (Or.inl ⟨by rfl, ?hy16⟩) (by assumption) ?_
    case hy16 => ((intro w hSw; (try dsimp only at hSw); go_simp); try with_reducible rfl)
    try simp only [Act.put, List.setIfInBounds_toArray, List.set_cons_zero, List.set_cons_succ]
    refine wpAnyH_take (i := 17) (oi := { dst := some 48, op := Go.Op.move (Go.Operand.tmp 47), type := 4, pos := "laws.go:673", after := #[{ on := 16, ground := Go.Ground.data }, { on := 14, ground := Go.Ground.chain }], guard := none }) (v := ?_) rfl (by kernel_rfl) (by kernel_rfl) (by kernel_rfl) (fun _ _ _ h => h) (Or.inl ⟨by rfl, ?hy17⟩) (by assumption) ?_
    case hy17 => ((intro w hSw; (try dsimp only at hSw); go_simp); try with_reducible rfl)
    try simp only [Act.put, List.setIfInBounds_toArray, List.set_cons_zero, List.set_cons_succ]
    refine wpAnyH_take (i := 18) (oi := { dst := some 49, op := Go.Op.move (Go.Operand.tmp 8), type := 4, pos := "laws.go:673", after := #[{ on := 17, ground := Go.Ground.guard }], guard := some (17, false) }) (v := ?_) rfl (by kernel_rfl) (by kernel_rfl) (by kernel_rfl) (fun _ _ _ h => h) (Or.inl ⟨by rfl, ?hy18⟩) (by assumption) ?_
    case hy18 => ((intro w hSw; (try dsimp only at hSw); go_simp); try with_reducible rfl)
    try simp only [Act.put, List.setIfInBounds_toArray, List.set_cons_zero, List.set_cons_succ]
    refine wpAnyH_take (i := 19) (oi := { dst := some 50, op := Go.Op.move (Go.Operand.tmp 49), type := 4, pos := "laws.go:673", after := #[{ on := 18, ground := Go.Ground.data }, { on := 17, ground := Go.Ground.chain }, { on := 17, ground := Go.Ground.guard }], guard := some (17, false) }) (v := ?_) rfl (by kernel_rfl) (by kernel_rfl) (by kernel_rfl) (fun _ _ _ h => h) (Or.inl ⟨by rfl, ?hy19⟩) (by assumption) ?_
    case hy19 => ((intro w hSw; (try dsimp only at hSw); go_simp); try with_reducible rfl)
    try simp only [Act.put, List.setIfInBounds_toArray, List.set_cons_zero, List.set_cons_succ]
    refine wpAnyH_take (i := 20) (oi := { dst := some 51, op := Go.Op.load 26 (Go.Operand.tmp 7), type := 26, pos := "laws.go:673", after := #[{ on := 19, ground := Go.Ground.guard }], guard := some (19, true) }) (v := ?_) rfl (by kernel_rfl) (by kernel_rfl) (by kernel_rfl) (fun _ _ _ h => h) (Or.inl ⟨by rfl, ?hy20⟩) (by assumption) ?_
    case hy20 => ((intro w hSw; (try dsimp only at hSw); go_simp); try with_reducible rfl)
    try simp only [Act.put, List.setIfInBounds_toArray, List.set_cons_zero, List.set_cons_succ]
    refine wpAnyH_take (i := 21) (oi := { dst := some 52, op := Go.Op.load 26 (Go.Operand.tmp 5), type := 26, pos := "laws.go:673", after := #[{ on := 19, ground := Go.Ground.guard }], guard := some (19, true) }) (v := ?_) rfl (by kernel_rfl) (by kernel_rfl) (by kernel_rfl) (fun _ _ _ h => h) (Or.inl ⟨by rfl, ?hy21⟩) (by assumption) ?_
    case hy21 => ((intro w hSw; (try dsimp only at hSw); go_simp); try with_reducible rfl)
    try simp only [Act.put, List.setIfInBounds_toArray, List.set_cons_zero, List.set_cons_succ]
    refine wpAnyH_take (i := 22) (oi := { dst := some 53, op := Go.Op.binOp Go.BinOp.neq 26 (Go.Operand.tmp 51) (Go.Operand.tmp 52) 26, type := 4, pos := "laws.go:673", after := #[{ on := 20, ground := Go.Ground.data }, { on := 21, ground := Go.Ground.data }, { on := 19, ground := Go.Ground.guard }], guard := some (19, true) }) (v := ?_) rfl (by kernel_rfl) (by kernel_rfl) (by kernel_rfl) (fun _ _ _ h => h) (Or.inl ⟨by rfl, ?hy22⟩) (by assumption) ?_
    case hy22 => ((intro w hSw; (try dsimp only at hSw); go_simp); try with_reducible rfl)
    try simp only [Act.put, List.setIfInBounds_toArray, List.set_cons_zero, List.set_cons_succ]
    refine wpAnyH_take (i := 23) (oi := { dst := some 54, op := Go.Op.pick (Go.Operand.tmp 50) (Go.Operand.tmp 53) (Go.Operand.const (Go.Value.bool false)), type := 4, pos := "laws.go:673", after := #[{ on := 19, ground := Go.Ground.data }, { on := 22, ground := Go.Ground.data }, { on := 17, ground := Go.Ground.guard }], guard := some (17, false) }) (v := ?_) rfl (by kernel_rfl) (by kernel_rfl) (by kernel_rfl) (fun _ _ _ h => h) (Or.inl ⟨by rfl, ?hy23⟩) (by assumption) ?_
    case hy23 => ((intro w hSw; (try dsimp only at hSw); go_simp); try with_reducible rfl)
    try simp only [Act.put, List.setIfInBounds_toArray, List.set_cons_zero, List.set_cons_succ]
    refine wpAnyH_take (i := 24) (oi := { dst := some 55, op := Go.Op.pick (Go.Operand.tmp 48) (Go.Operand.const (Go.Value.bool true)) (Go.Operand.tmp 54), type := 4, pos := "laws.go:673", after := #[{ on := 17, ground := Go.Ground.data }, { on := 23, ground := Go.Ground.data }], guard := none }) (v := ?_) rfl (by kernel_rfl) (by kernel_rfl) (by kernel_rfl) (fun _ _ _ h => h) (Or.inl ⟨by rfl, ?hy24⟩) (by assumption) ?_
    case hy24 => ((intro w hSw; (try dsimp only at hSw); go_simp); try with_reducible rfl)
    try simp only [Act.put, List.setIfInBounds_toArray, List.set_cons_zero, List.set_cons_succ]
    refine wpAnyH_done (by kernel_rfl) ?_ _
    have b4 := bel_trans b3 hq4
    clear HX hq0 hq1 hq2 hq3 hq4 hb1 hb2 hb3 hb4 b3
    go_wp2_with fail
    refine (CD.out _ b4).mono ?_
    rintro e w5 ⟨tt, rfl, htt, hb5⟩
    have b5 := bel_trans b4 hb5
    clear b4 hb5
    go_wp2_with fail
    refine (implAskRead tt _ (HE.out.on b5) (by omega)).mono ?_
    intro e w6 hr
    obtain ⟨⟨k2, key2, hi2, num2, ok2, hR, rfl⟩, hb6⟩ := hr.open_
    clear hr
    have b6 := bel_trans b5 hb6
    have z1 := BoxC.new w6 26 #[.int .i64 k2, .string key2, .string hi2, .int .i64 num2]
    have b7 := bel_alloc b6 (.cells #[.int .i64 k2, .string key2, .string hi2, .int .i64 num2] 26)
    clear b5 hb6 b6
    go_wp2_with fail
    refine (specAskRead tt _ (by omega)).mono ?_
    intro e w8 hr
    obtain ⟨⟨k3, key3, hi3, num3, ok3, hR3, rfl⟩, hb8⟩ := hr.open_
    clear hr
    obtain ⟨rfl, rfl, rfl, rfl, rfl⟩ := hR.same hR3
    clear hR3
    have z2 := z1.on hb8
    have b8 := bel_trans b7 hb8
    have z3 := BoxC.new w8 26 #[.int .i64 k2, .string key2, .string hi2, .int .i64 num2]
    have z4 := z2.alloc (.cells #[.int .i64 k2, .string key2, .string hi2, .int .i64 num2] 26)
    have b9 := bel_alloc b8 (.cells #[.int .i64 k2, .string key2, .string hi2, .int .i64 num2] 26)
    have m0 := z4.c (k := 0) rfl
    have m1 := z4.c (k := 1) rfl
    have m2 := z4.c (k := 2) rfl
    have m3 := z4.c (k := 3) rfl
    have o0 := z3.c (k := 0) rfl
    have o1 := z3.c (k := 1) rfl
    have o2 := z3.c (k := 2) rfl
    have o3 := z3.c (k := 3) rfl
    have qe := eqlAsk k2 key2 hi2 num2 k2 key2 hi2 num2
    rw [eqAskB_self] at qe
    have qo : (ok2 == ok2) = true := by simp
    clear z1 b7 hb8 z2 b8
    rcases hR with ⟨rfl, hok2, htx2⟩ | ⟨rfl, -⟩
    · have hk2 : key2.size ≤ maxLen ∧ hi2.size ≤ maxLen := by
        obtain ⟨j, a, b, c, -, -, -, q1, q2, -⟩ := askOk_facts hok2
        unfold maxLen
        omega
      have HOK2 := Lib.hid hok2
      have HT2 := Lib.hid htx2
      have HK2 := Lib.hid hk2
      clear hok2 htx2 hk2
      go_wp2_with fail
      refine (implAskText k2 key2 hi2 num2 _ (HE.out.on b9).1.1 (HE.out.on b9).1.2 HK2.out.1 HK2.out.2).mono ?_
      rintro e w10 ⟨rfl, hb10⟩
      rw [HT2.out]
      have z5 := z4.on hb10
      have b10 := bel_trans b9 hb10
      replace m0 := z5.c (k := 0) rfl
      replace m1 := z5.c (k := 1) rfl
      replace m2 := z5.c (k := 2) rfl
      replace m3 := z5.c (k := 3) rfl
      clear z3 z4 b9 hb10 o0 o1 o2 o3
      have ht0 : (tt.toList == tt.toList) = true := by simp
      go_wp2_with fail
      refine (implAskOk k2 key2 hi2 num2 _ (HE.out.on b10).1.1 HK2.out.1 HK2.out.2).mono ?_
      rintro e w11 ⟨rfl, hb11⟩
      rw [HOK2.out]
      have b11 := bel_trans b10 hb11
      clear z5 b10 hb11 m0 m1 m2 m3
      go_wp2
      go_ret
      exact ⟨rfl, b11⟩
    · clear z3 z4
      go_wp2
      go_ret
      exact ⟨rfl, b9⟩
end Go.Proofs.YtpmeaikiaoojkaaDoor
