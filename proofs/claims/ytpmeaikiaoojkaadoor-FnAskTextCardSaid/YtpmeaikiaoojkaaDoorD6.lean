/- What one asks, and a text, drawn. -/
import Derived.Test.YtpmeaikiaoojkaaDoorD5
import Derived.Deep.RegionHeld3
namespace Go.Proofs.YtpmeaikiaoojkaaDoor
open Go.RowKit

theorem askText_size (k : Int) (key hi : ByteArray) (num : Int) : (askText k key hi num).size ≤ 16 := by
  cases h : askOk k key hi num
  · rw [askText_bad h]; decide
  · obtain ⟨j, a, b, c, rfl, hj, hs, z1, z2, n0, n1⟩ := askOk_facts h
    rw [askText_ok h hs]
    have h1 := word_size hj
    have h2 := dec_size n0 n1
    have h3 : sp.size = 1 := rfl
    unfold catT addS
    cases a <;> cases b <;> cases c <;> simp only [if_true, if_false, Bool.false_eq_true, ByteArray.size_append] <;> omega
def rds : List ByteArray := [⟨#[]⟩, ⟨#[32]⟩, ⟨#[48]⟩, ⟨#[45]⟩, ⟨#[49]⟩, ⟨#[97]⟩, ⟨#[65]⟩, ⟨#[98]⟩]
theorem rds_small : ∀ s ∈ rds, s.size ≤ 1 := by decide
def DrawnAsk (w : World) (e : Ending) (w' : World) : Prop :=
  ∃ (k : Int) (key hi : ByteArray) (num : Int), e = .returned (.agg #[.int .i64 k, .string key, .string hi, .int .i64 num]) ∧ key.size ≤ 3 ∧ hi.size ≤ 3 ∧ Below w.heap.size w w'
/-- the reader opened, rows drawn, what one asks drawn -/
theorem turn_below {w w1 w2 : World} {g : Nat} (hb : Below w.heap.size w w1) (ht : Turn (some ⟨g, 0, none⟩) w1 w2) (hg : w.heap.size ≤ g) : Below w.heap.size w w2 := Turn.bel hb ht (fun a ha => by cases ha; exact hg)
set_option maxHeartbeats 4000000 in
set_option maxRecDepth 100000 in
theorem drawAskOk (A : Option Addr) (n c : Nat) (l : List UInt8) (w : World) (hr : Sl encB w w.heap.size A n l) (hn : n ≤ 1048576) (hc : n ≤ c) :
    Calls Tryd.prog 26 #[.slice A n c] w (DrawnAsk w) := by
  have x0 := BoxC.new w 26 #[.int .i64 0, .string ⟨#[]⟩, .string ⟨#[]⟩, .int .i64 0]
  have b0 := bel_alloc (Below.refl _ w) (.cells #[.int .i64 0, .string ⟨#[]⟩, .string ⟨#[]⟩, .int .i64 0] 26)
  have C0 := Lib.hid (l11Open A n c l _ (hr.on b0) hn hc)
  clear hr hn hc
  go_enter Tryd.func26, Tryd.ntmps26
  go_wp2_with fail
  refine C0.out.mono ?_
  clear C0
  rintro e w1 ⟨A1, m1, c1, l1, rfl, r1, b1⟩
  have x1 := x0.on b1
  replace b1 := bel_trans b0 b1
  have hgz : w.heap.size ≤ (w.alloc (.cells #[.int .i64 0, .string ⟨#[]⟩, .string ⟨#[]⟩, .int .i64 0] 26)).heap.size := by simp
  have hgl : w.heap.size < (w.alloc (.cells #[.int .i64 0, .string ⟨#[]⟩, .string ⟨#[]⟩, .int .i64 0] 26)).heap.size := by simp
  clear x0 b0
  generalize (w.alloc (.cells #[.int .i64 0, .string ⟨#[]⟩, .string ⟨#[]⟩, .int .i64 0] 26)).heap.size = g at *
  go_wp2_with fail
  refine (l1Rows g 0 A1 m1 c1 l1 w1 r1 (by omega)).mono ?_
  rintro e w2 ⟨v, lr, p2, rfl, o2, hR, hp2, r2, t2⟩
  obtain ⟨A2, c2, rfl, -, -⟩ := o2.form
  have hg1 := r1.lt
  have x2 := x1.turn t2 (fun a ha => by cases ha; simp only; omega)
  have b2 := turn_below b1 t2 hgz
  clear x1 b1 r1 t2
  have hlr : lr.length ≤ 1000 := Nat.le_trans hR.1 (by omega)
  have C4 := Lib.hid (l4Ask g p2 A1 m1 c1 l1 A2 lr.length c2 lr w2 r2 (by omega) o2.sl hlr (fun x hx => by have := (o2.block hx).1; omega) (fun r hr => Nat.le_trans (hR.small r hr) (by omega)))
  clear r2 o2 hR hlr
  go_wp2_with fail
  refine C4.out.mono ?_
  clear C4
  rintro e w3 ⟨k, key, hi, num, p3, rfl, ⟨hk, hh⟩, hp3, r3, t3⟩
  have x3 := x2.turn t3 (fun a ha => by cases ha; simp only; omega)
  have b3 := turn_below b2 t3 hgz
  have c0 := x3.c (k := 0) rfl
  have c1' := x3.c (k := 1) rfl
  have c2' := x3.c (k := 2) rfl
  have c3 := x3.c (k := 3) rfl
  have h0 := x3.f 0
  have h1 := x3.f 1
  have h2 := x3.f 2
  have h3 := x3.f 3
  have HB := Lib.hid (bel_set4 b3 (Nat.le_refl _) (.int .i64 k) (.string key) (.string hi) (.int .i64 num))
  have HK := Lib.hid hk
  have HH := Lib.hid hh
  clear x2 b2 x3 b3 r3 t3 hk hh
  go_wp2_with fail
  exact bodyPost_ret (v := .agg #[.int .i64 k, .string key, .string hi, .int .i64 num]) (by simp [results, Tryd.results26, go_sem, c0, c1', c2', c3]) rfl ⟨k, key, hi, num, rfl, HK.out, HH.out, HB.out⟩
set_option maxHeartbeats 2000000 in
theorem drawAskText (A : Option Addr) (n c : Nat) (l : List UInt8) (w : World) (hr : Sl encB w w.heap.size A n l) (hn : n ≤ 1048576) (hc : n ≤ c) :
    Calls Tryd.prog 13 #[.slice A n c] w (DrawnAsk w) := by
  have x0 := BoxC.new w 26 #[.int .i64 0, .string ⟨#[]⟩, .string ⟨#[]⟩, .int .i64 0]
  have b0 := bel_alloc (Below.refl _ w) (.cells #[.int .i64 0, .string ⟨#[]⟩, .string ⟨#[]⟩, .int .i64 0] 26)
  have C0 := Lib.hid (drawAskOk A n c l _ (hr.on b0) hn hc)
  clear hr hn hc
  go_enter Tryd.func13, Tryd.ntmps13
  go_wp2_with fail
  refine C0.out.mono ?_
  clear C0
  rintro e w1 ⟨k, key, hi, num, rfl, hk, hh, b1⟩
  have x3 := x0.on b1
  have b3 := bel_trans b0 b1
  have c0 := x3.c (k := 0) rfl
  have c1' := x3.c (k := 1) rfl
  have c2' := x3.c (k := 2) rfl
  have c3 := x3.c (k := 3) rfl
  have h0 := x3.f 0
  have h1 := x3.f 1
  have h2 := x3.f 2
  have h3 := x3.f 3
  have HB := Lib.hid (bel_set4 b3 (Nat.le_refl _) (.int .i64 k) (.string key) (.string hi) (.int .i64 num))
  have HK := Lib.hid hk
  have HH := Lib.hid hh
  clear x0 b0 x3 b3 b1 hk hh
  go_wp2_with fail
  exact bodyPost_ret (v := .agg #[.int .i64 k, .string key, .string hi, .int .i64 num]) (by simp [results, Tryd.results13, go_sem, c0, c1', c2', c3]) rfl ⟨k, key, hi, num, rfl, HK.out, HH.out, HB.out⟩
def DrawnText (w : World) (e : Ending) (w' : World) : Prop := ∃ s : ByteArray, e = .returned (.string s) ∧ s.size ≤ 1000 ∧ Below w.heap.size w w'
set_option maxHeartbeats 2000000 in
set_option maxRecDepth 100000 in
theorem drawAskRead (A : Option Addr) (n c : Nat) (l : List UInt8) (w : World) (hr : Sl encB w w.heap.size A n l) (hn : n ≤ 1048576) (hc : n ≤ c) :
    Calls Tryd.prog 15 #[.slice A n c] w (DrawnText w) := by
  have C0 := Lib.hid (l11Open A n c l w hr hn hc)
  clear hr hn hc
  go_enter Tryd.func15, Tryd.ntmps15
  go_wp2_with fail
  refine C0.out.mono ?_
  clear C0
  rintro e w1 ⟨A1, m1, c1, l1, rfl, r1, b1⟩
  have hgz : w.heap.size ≤ w.heap.size := Nat.le_refl _
  obtain ⟨g, hg⟩ : ∃ g, w.heap.size = g := ⟨_, rfl⟩
  rw [hg] at r1 hgz
  have HG := Lib.hid hg
  have B1 := Lib.hid b1
  clear b1
  go_wp2_with fail
  clear hg
  refine (l1Rows g 0 A1 m1 c1 l1 w1 r1 (by omega)).mono ?_
  rintro e w2 ⟨v, lr, p2, rfl, o2, hR, hp2, r2, t2⟩
  obtain ⟨A2, c2, rfl, -, -⟩ := o2.form
  have hg1 := r1.lt
  clear r1
  have hlr : lr.length ≤ 1000 := Nat.le_trans hR.1 (by omega)
  have C4 := Lib.hid (l4Ask g p2 A1 m1 c1 l1 A2 lr.length c2 lr w2 r2 (by omega) o2.sl hlr (fun x hx => by have := (o2.block hx).1; omega) (fun r hr => Nat.le_trans (hR.small r hr) (by omega)))
  clear r2 o2 hR hlr
  go_wp2_with fail
  refine C4.out.mono ?_
  clear C4
  rintro e w3 ⟨k0, key, hi, num, p3, rfl, ⟨hk, hh⟩, hp3, r3, t3⟩
  replace t3 := t2.trans t3
  clear t2
  have C5 := Lib.hid (specAskText k0 key hi num w3 (by unfold maxLen; omega) (by unfold maxLen; omega))
  have HSZ := Lib.hid (askText_size k0 key hi num)
  clear hk hh
  go_wp2_with fail
  refine C5.out.mono ?_
  clear C5
  rintro e w4 ⟨rfl, hb4⟩
  replace r3 := r3.on hb4
  replace t3 := t3.below hb4
  clear hb4
  generalize askText k0 key hi num = tx at *
  have rest : ∀ s : ByteArray, s.size ≤ 16 → 0 < s.size → True := fun _ _ _ => trivial
  clear rest
  cases he : (tx.toList == ([] : List UInt8))
  all_goals
    obtain ⟨s, hs⟩ : ∃ s : ByteArray, (if (tx.toList == ([] : List UInt8)) = true then (⟨#[112, 117, 116, 32, 97, 98, 32, 45, 55]⟩ : ByteArray) else tx) = s := ⟨_, rfl⟩
    rw [he] at hs
    simp only [if_true, Bool.false_eq_true, if_false] at hs
    have hs16 : s.size ≤ 16 := by
      rw [← hs]
      first | exact HSZ.out | decide
    have hs0 : 0 < s.size := by
      rw [← hs]
      first
        | decide
        | (rcases Nat.eq_zero_or_pos tx.size with h | h
           · rw [size_list] at h
             rw [ByteArray.toList_eq, List.length_eq_zero_iff.1 h] at he
             simp at he
           · exact h)
    have HSQ := Lib.hid hs
    clear hs
    go_wp2_with fail
    rw [HSQ.out]
    clear he
    refine (pick g p3 2 A1 m1 c1 l1 w4 r3 (by omega) (by omega) (by omega)).mono ?_
    rintro e wp ⟨v1, rfl, hv1, r4, t4⟩
    replace t4 := t3.trans t4
    by_cases hv0 : v1 = 0
    · subst hv0
      go_wp2_with fail
      go_ret
      refine ⟨_, rfl, ?_, turn_below B1.out t4 (by have := HG.out; omega)⟩
      omega
    have g0 : ((v1 : Int) == 0) = false := by simp; omega
    clear hv0 hv1 t3 r3
    have hs1 : (1 : Int) ≤ (s.size : Int) := by omega
    go_wp2_with fail
    refine (pick g (p3 + 1) s.size A1 m1 c1 l1 wp r4 (by omega) (by omega) (by omega)).mono ?_
    rintro e w5 ⟨k, rfl, hk, r5, t5⟩
    replace t5 := t4.trans t5
    have i0 : (0 : Int) ≤ (k : Int) := by omega
    have i1 : (k : Int) ≤ (s.size : Int) := by omega
    clear t4 r4 g0
    go_wp2_with fail
    refine wp_region_held_drew (S := (fun _ => True)) (by kernel_rfl) trivial (fun hHeld => ?_)
    refine wpAnyH_take (i := 0) (oi := { dst := some 23, op := Go.Op.move (Go.Operand.tmp 4), type := 9, pos := "l4_ask.go:268", after := #[], guard := none }) (v := ?_) rfl (by kernel_rfl) (by kernel_rfl) (by kernel_rfl) (fun _ _ _ h => h) (Or.inl ⟨by rfl, ?hy0⟩) (by assumption) ?_
    case hy0 => ((intro w hSw; (try dsimp only at hSw); go_simp); try with_reducible rfl)
    try simp only [Act.put, List.setIfInBounds_toArray, List.set_cons_zero, List.set_cons_succ]
    refine wpAnyH_take (i := 1) (oi := { dst := some 24, op := Go.Op.move (Go.Operand.tmp 5), type := 3, pos := "l4_ask.go:268", after := #[], guard := none }) (v := ?_) rfl (by kernel_rfl) (by kernel_rfl) (by kernel_rfl) (fun _ _ _ h => h) (Or.inl ⟨by rfl, ?hy1⟩) (by assumption) ?_
    case hy1 => ((intro w hSw; (try dsimp only at hSw); go_simp); try with_reducible rfl)
    try simp only [Act.put, List.setIfInBounds_toArray, List.set_cons_zero, List.set_cons_succ]
    refine wpAnyH_take (i := 2) (oi := { dst := some 25, op := Go.Op.slice 9 (Go.Operand.tmp 23) none (some (Go.Operand.tmp 24)) none, type := 9, pos := "l4_ask.go:268", after := #[{ on := 0, ground := Go.Ground.data }, { on := 1, ground := Go.Ground.data }], guard := none }) (v := ?_) rfl (by kernel_rfl) (by kernel_rfl) (by kernel_rfl) (fun _ _ _ h => h) (Or.inl ⟨by rfl, ?hy2⟩) (by assumption) ?_
    case hy2 => ((intro w hSw; (try dsimp only at hSw); go_simp); try with_reducible rfl)
    try simp only [Act.put, List.setIfInBounds_toArray, List.set_cons_zero, List.set_cons_succ]
    refine wpAnyH_take (i := 3) (oi := { dst := some 26, op := Go.Op.move (Go.Operand.tmp 3), type := 50, pos := "l4_ask.go:268", after := #[], guard := none }) (v := ?_) rfl (by kernel_rfl) (by kernel_rfl) (by kernel_rfl) (fun _ _ _ h => h) (Or.inl ⟨by rfl, ?hy3⟩) (by assumption) ?_
    case hy3 => ((intro w hSw; (try dsimp only at hSw); go_simp); try with_reducible rfl)
    try simp only [Act.put, List.setIfInBounds_toArray, List.set_cons_zero, List.set_cons_succ]
    refine wpAnyH_take (i := 7) (oi := { dst := some 30, op := Go.Op.move (Go.Operand.tmp 4), type := 9, pos := "l4_ask.go:268", after := #[], guard := none }) (v := ?_) rfl (by kernel_rfl) (by kernel_rfl) (by kernel_rfl) (fun _ _ _ h => h) (Or.inl ⟨by rfl, ?hy7⟩) (by assumption) ?_
    case hy7 => ((intro w hSw; (try dsimp only at hSw); go_simp); try with_reducible rfl)
    try simp only [Act.put, List.setIfInBounds_toArray, List.set_cons_zero, List.set_cons_succ]
    refine wpAnyH_take (i := 8) (oi := { dst := some 31, op := Go.Op.move (Go.Operand.tmp 5), type := 3, pos := "l4_ask.go:268", after := #[], guard := none }) (v := ?_) rfl (by kernel_rfl) (by kernel_rfl) (by kernel_rfl) (fun _ _ _ h => h) (Or.inl ⟨by rfl, ?hy8⟩) (by assumption) ?_
    case hy8 => ((intro w hSw; (try dsimp only at hSw); go_simp); try with_reducible rfl)
    try simp only [Act.put, List.setIfInBounds_toArray, List.set_cons_zero, List.set_cons_succ]
    refine wpAnyH_take (i := 9) (oi := { dst := some 32, op := Go.Op.move (Go.Operand.tmp 3), type := 50, pos := "l4_ask.go:268", after := #[], guard := none }) (v := ?_) rfl (by kernel_rfl) (by kernel_rfl) (by kernel_rfl) (fun _ _ _ h => h) (Or.inl ⟨by rfl, ?hy9⟩) (by assumption) ?_
    case hy9 => ((intro w hSw; (try dsimp only at hSw); go_simp); try with_reducible rfl)
    try simp only [Act.put, List.setIfInBounds_toArray, List.set_cons_zero, List.set_cons_succ]
    refine wpAnyH_ready (rs := [4]) (by kernel_rfl) (by simp) ?_
    refine AllReadyH.cons (o := { dst := some 27, op := Go.Op.buildSlice 57 8 #[(0, Go.Operand.const (Go.Value.string { data := #[] })), (1, Go.Operand.const (Go.Value.string { data := #[32] })), (2, Go.Operand.const (Go.Value.string { data := #[48] })), (3, Go.Operand.const (Go.Value.string { data := #[45] })), (4, Go.Operand.const (Go.Value.string { data := #[49] })), (5, Go.Operand.const (Go.Value.string { data := #[97] })), (6, Go.Operand.const (Go.Value.string { data := #[65] })), (7, Go.Operand.const (Go.Value.string { data := #[98] }))], type := 57, pos := "l4_ask.go:268", after := #[], guard := none }) rfl (fun K hK => ?_) AllReadyH.nil
    have hlt5 := r5.lt
    have hsl := Sl.lit (enc := encT) w5.drew #[.string ⟨#[]⟩, .string ⟨#[32]⟩, .string ⟨#[48]⟩, .string ⟨#[45]⟩, .string ⟨#[49]⟩, .string ⟨#[97]⟩, .string ⟨#[65]⟩, .string ⟨#[98]⟩] 9 rds rfl 8 rfl
    have rA := (show Rd w5.drew g (p3 + 1 + 1) A1 m1 c1 l1 from r5).on (bel_alloc (Below.refl _ w5.drew) (.cells #[.string ⟨#[]⟩, .string ⟨#[32]⟩, .string ⟨#[48]⟩, .string ⟨#[45]⟩, .string ⟨#[49]⟩, .string ⟨#[97]⟩, .string ⟨#[65]⟩, .string ⟨#[98]⟩] 9))
    have tA := (t5.below (Below.refl _ _).drew).alloc (.cells #[.string ⟨#[]⟩, .string ⟨#[32]⟩, .string ⟨#[48]⟩, .string ⟨#[45]⟩, .string ⟨#[49]⟩, .string ⟨#[97]⟩, .string ⟨#[65]⟩, .string ⟨#[98]⟩] 9)
    go_simp
    try go_wp2_with fail
    refine hK.out _ _ trivial (fun hHeld => ?_)
    clear hK K
    try simp only [Act.put, List.setIfInBounds_toArray, List.set_cons_zero, List.set_cons_succ]
    refine wpAnyH_ready (rs := [5]) (by kernel_rfl) (by simp) ?_
    refine AllReadyH.cons (o := { dst := some 28, op := Go.Op.call { callee := Go.Callee.value (Go.Operand.func 33), args := #[Go.Operand.tmp 26, Go.Operand.tmp 27], argTypes := #[50, 57] }, type := 9, pos := "l4_ask.go:268", after := #[{ on := 3, ground := Go.Ground.data }, { on := 4, ground := Go.Ground.data }], guard := none }) rfl (fun K hK => ?_) AllReadyH.nil
    go_simp
    refine (ofC g (p3 + 1 + 1) 8 8 w5.drew.heap.size 0 A1 m1 c1 l1 rds _ rA (by omega) hsl (by show g ≠ w5.heap.size; omega) (by omega) (by omega)).mono ?_
    rintro e w6 ⟨z, rfl, hz, r6, t6⟩
    have hzs := rds_small z hz
    have hadd1 : ∀ W : World, (Op.stringOp .add (s.extract 0 k) z).run Tryd.prog W = .ok (.string (s.extract 0 k ++ z)) W := fun W => run_string_add (w := W) (P := Tryd.prog) _ _ (by rw [ByteArray.size_extract]; omega) (by omega)
    go_wp2_with fail
    refine hK.out _ _ trivial (fun hHeld => ?_)
    clear hK K
    try simp only [Act.put, List.setIfInBounds_toArray, List.set_cons_zero, List.set_cons_succ]
    refine wpAnyH_take (i := 6) (oi := { dst := some 29, op := Go.Op.binOp Go.BinOp.add 9 (Go.Operand.tmp 25) (Go.Operand.tmp 28) 9, type := 9, pos := "l4_ask.go:268", after := #[{ on := 2, ground := Go.Ground.data }, { on := 5, ground := Go.Ground.data }], guard := none }) (v := ?_) rfl (by kernel_rfl) (by kernel_rfl) (by kernel_rfl) (fun _ _ _ h => h) (Or.inl ⟨by rfl, ?hy6⟩) (by assumption) ?_
    case hy6 => ((intro w hSw; (try dsimp only at hSw); go_simp); try with_reducible rfl)
    try simp only [Act.put, List.setIfInBounds_toArray, List.set_cons_zero, List.set_cons_succ]
    refine wpAnyH_ready (rs := [10]) (by kernel_rfl) (by simp) ?_
    refine AllReadyH.cons (o := { dst := some 33, op := Go.Op.call { callee := Go.Callee.value (Go.Operand.func 32), args := #[Go.Operand.tmp 32, Go.Operand.const (Go.Value.int Go.IntKind.i64 2)], argTypes := #[50, 3] }, type := 3, pos := "l4_ask.go:268", after := #[{ on := 9, ground := Go.Ground.data }, { on := 5, ground := Go.Ground.chain }], guard := none }) rfl (fun K hK => ?_) AllReadyH.nil
    go_simp
    refine (pick g (p3 + 1 + 1 + 1) 2 A1 m1 c1 l1 _ r6 (by omega) (by omega) (by omega)).mono ?_
    rintro e w7 ⟨v2, rfl, hv2, r7, t7⟩
    obtain ⟨q, hq⟩ : ∃ q : Nat, k + v2 = q := ⟨_, rfl⟩
    have hwr : IntKind.i64.wrap ((k : Int) + (v2 : Int)) = (q : Int) := (IntWalk.i64_in _ (by omega)).trans (by omega)
    have hq0 : (0 : Int) ≤ (q : Int) := by omega
    have hq1 : (q : Int) ≤ (s.size : Int) := by omega
    have hadd2 : ∀ W : World, (Op.stringOp .add (s.extract 0 k ++ z) (s.extract q s.size)).run Tryd.prog W = .ok (.string (s.extract 0 k ++ z ++ s.extract q s.size)) W := fun W => run_string_add (w := W) (P := Tryd.prog) _ _ (by rw [ByteArray.size_append, ByteArray.size_extract]; omega) (by rw [ByteArray.size_extract]; omega)
    go_wp2_with fail
    refine hK.out _ _ trivial (fun hHeld => ?_)
    clear hK K
    try simp only [Act.put, List.setIfInBounds_toArray, List.set_cons_zero, List.set_cons_succ]
    refine wpAnyH_take (i := 11) (oi := { dst := some 34, op := Go.Op.binOp Go.BinOp.add 3 (Go.Operand.tmp 31) (Go.Operand.tmp 33) 3, type := 3, pos := "l4_ask.go:268", after := #[{ on := 8, ground := Go.Ground.data }, { on := 10, ground := Go.Ground.data }], guard := none }) (v := ?_) rfl (by kernel_rfl) (by kernel_rfl) (by kernel_rfl) (fun _ _ _ h => h) (Or.inl ⟨by rfl, ?hy11⟩) (by assumption) ?_
    case hy11 => ((intro w hSw; (try dsimp only at hSw); go_simp); try with_reducible rfl)
    try simp only [Act.put, List.setIfInBounds_toArray, List.set_cons_zero, List.set_cons_succ]
    refine wpAnyH_take (i := 12) (oi := { dst := some 35, op := Go.Op.slice 9 (Go.Operand.tmp 30) (some (Go.Operand.tmp 34)) none none, type := 9, pos := "l4_ask.go:268", after := #[{ on := 7, ground := Go.Ground.data }, { on := 11, ground := Go.Ground.data }], guard := none }) (v := ?_) rfl (by kernel_rfl) (by kernel_rfl) (by kernel_rfl) (fun _ _ _ h => h) (Or.inl ⟨by rfl, ?hy12⟩) (by assumption) ?_
    case hy12 => ((intro w hSw; (try dsimp only at hSw); go_simp); try with_reducible rfl)
    try simp only [Act.put, List.setIfInBounds_toArray, List.set_cons_zero, List.set_cons_succ]
    refine wpAnyH_take (i := 13) (oi := { dst := some 36, op := Go.Op.binOp Go.BinOp.add 9 (Go.Operand.tmp 29) (Go.Operand.tmp 35) 9, type := 9, pos := "l4_ask.go:268", after := #[{ on := 6, ground := Go.Ground.data }, { on := 12, ground := Go.Ground.data }], guard := none }) (v := ?_) rfl (by kernel_rfl) (by kernel_rfl) (by kernel_rfl) (fun _ _ _ h => h) (Or.inl ⟨by rfl, ?hy13⟩) (by assumption) ?_
    case hy13 => ((intro w hSw; (try dsimp only at hSw); go_simp); try with_reducible rfl)
    try simp only [Act.put, List.setIfInBounds_toArray, List.set_cons_zero, List.set_cons_succ]
    refine wpAnyH_take (i := 14) (oi := { dst := some 2, op := Go.Op.assign (Go.Operand.tmp 36), type := 9, pos := "l4_ask.go:268", after := #[{ on := 13, ground := Go.Ground.data }, { on := 10, ground := Go.Ground.chain }, { on := 0, ground := Go.Ground.phase }, { on := 1, ground := Go.Ground.phase }, { on := 2, ground := Go.Ground.phase }, { on := 3, ground := Go.Ground.phase }, { on := 4, ground := Go.Ground.phase }, { on := 5, ground := Go.Ground.phase }, { on := 6, ground := Go.Ground.phase }, { on := 7, ground := Go.Ground.phase }, { on := 8, ground := Go.Ground.phase }, { on := 9, ground := Go.Ground.phase }, { on := 10, ground := Go.Ground.phase }, { on := 11, ground := Go.Ground.phase }, { on := 12, ground := Go.Ground.phase }, { on := 13, ground := Go.Ground.phase }], guard := none }) (v := ?_) rfl (by kernel_rfl) (by kernel_rfl) (by kernel_rfl) (fun _ _ _ h => h) (Or.inl ⟨by rfl, ?hy14⟩) (by assumption) ?_
    case hy14 => ((intro w hSw; (try dsimp only at hSw); go_simp); try with_reducible rfl)
    try simp only [Act.put, List.setIfInBounds_toArray, List.set_cons_zero, List.set_cons_succ]
    refine wpAnyH_done (by kernel_rfl) ?_ _
    go_wp2_with fail
    go_ret
    refine ⟨_, rfl, ?_, turn_below B1.out (((tA.trans t6).trans t7)) (by have := HG.out; omega)⟩
    rw [ByteArray.size_append, ByteArray.size_append, ByteArray.size_extract, ByteArray.size_extract]
    omega
end Go.Proofs.YtpmeaikiaoojkaaDoor
