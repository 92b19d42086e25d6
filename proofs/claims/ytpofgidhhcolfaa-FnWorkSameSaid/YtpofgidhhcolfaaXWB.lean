/- Contracts: what a transaction draws and does (DrawVersOk, l3Rows, WorkOk, l3Copy, l3Put, l3Write, WorkPut, l3Some). -/
import Derived.Test.YtpofgidhhcolfaaX9
import Derived.Test.YtpofgidhhcolfaaB11
import Derived.Deep.RegionLaw
import Derived.Test.YtpofgidhhcolfaaV2
namespace Go.Proofs.Ytpofgidhhcolfaa
open Go.RowKit

theorem Rd.drew {w : World} {g p : Nat} {A : Option Addr} {m c : Nat} {l : List UInt8} (h : Rd w g p A m c l) : Rd w.drew g p A m c l := h
theorem Rd.bel {w0 w w' : World} {g : Nat} (hb : Below w0.heap.size w0 w) (ht : Turn (some ⟨g, 0, none⟩) w w') (hg : w0.heap.size ≤ g) : Below w0.heap.size w0 w' :=
  ht.bel hb (fun x hx => by cases hx; exact hg)
theorem VersP.small {now : Int} {l : List Ver} (h : VersP now l) : l.length ≤ 60 := h.1.2.2
def DrawVPost (w : World) (e : Ending) (w' : World) : Prop :=
  ∃ (now : Int) (B : Option Addr) (n cb : Nat) (lv : List Ver), e = .returned (.agg #[.int .i64 now, .slice B n cb]) ∧ Own encVer 4 77 w' w.heap.size (.slice B n cb) lv ∧ VerSWf lv ∧ n ≤ 100 ∧ -1000 ≤ now ∧ now ≤ 1000 ∧ Below w.heap.size w w'
set_option maxHeartbeats 2000000 in
set_option maxRecDepth 100000 in
theorem drawVersOk (A : Option Addr) (n c : Nat) (l : List UInt8) (w : World) (hr : Sl encB w w.heap.size A n l) (hn : n ≤ 1048576) (hc : n ≤ c) :
    Calls Try.prog 60 #[.slice A n c] w (DrawVPost w) := by
  have HN := Lib.hid hn
  have HC := Lib.hid hc
  clear hn hc
  have x0 := BoxC.new w 39 #[.int .i64 0, .slice none 0 0]
  have b0 := bel_alloc (Below.refl _ w) (.cells #[.int .i64 0, .slice none 0 0] 39)
  have hz0 : (w.alloc (.cells #[.int .i64 0, .slice none 0 0] 39)).heap.size = w.heap.size + 1 := by simp
  have hr0 := hr.on b0
  go_enter Try.func60, Try.ntmps60
  go_wp2_with fail
  generalize w.alloc (.cells #[.int .i64 0, .slice none 0 0] 39) = w0 at *
  refine (l11Open A n c l w0 hr0 HN.out HC.out).mono ?_
  rintro e w1 ⟨A1, m, c1, l1, rfl, r1, hb1⟩
  rw [hz0] at r1
  rw [hz0]
  have x1 := x0.on hb1
  have b1 := bel_trans b0 hb1
  have hg : w.heap.size ≠ w.heap.size + 1 := by omega
  clear x0 hr0 hr hb1 b0 hz0
  go_wp2_with fail
  refine (l2Some (w.heap.size + 1) 0 A1 m c1 l1 w1 r1 (by omega)).mono ?_
  rintro e w2 ⟨now, B, cb, lv, p2, rfl, o2, hP2, hp2, r2, t2⟩
  have x2 := x1.turn t2 (fun x hx => by cases hx; exact hg)
  have b2 := Rd.bel b1 t2 (by omega)
  have hlen := hP2.small
  have h40 := hP2.1.2.1
  have h00 := hP2.1.1
  have hsw := hP2.swf
  clear hP2 r1 x1 t2
  go_wp2_with fail
  refine (l2Bent (w.heap.size + 1) p2 40 A1 m c1 l1 now B lv.length cb lv w2 r2 (by omega) o2.sl hsw (by omega) (by omega) (by omega) (by omega) (by omega)).mono ?_
  rintro e w3 ⟨now3, B3, n3, c3, l3, p3, rfl, o3, hS3, hn3, hl3, hu3, hp3, r3, t3⟩
  have x3 := x2.turn t3 (fun x hx => by cases hx; exact hg)
  have b3 := Rd.bel b2 t3 (by omega)
  have f0 := x3.f 0
  have f1 := x3.f 1
  have q0 := x3.c (k := 0) rfl
  have q1 := x3.c (k := 1) rfl
  have z := (x3.set 0 (.int .i64 now3)).set 1 (.slice B3 n3 c3)
  have z0 := z.c (k := 0) rfl
  have z1 := z.c (k := 1) rfl
  have hz2 : w.heap.size ≤ w2.heap.size := b2.size
  clear o2 t3 r2 r3 x2
  go_wp2_with fail
  exact bodyPost_ret (v := .agg #[.int .i64 now3, .slice B3 n3 c3]) (by simp [results, Try.results60, go_sem, z0, z1]) rfl ⟨now3, B3, n3, c3, l3, rfl, ((o3.lower hz2).box x3 (by decide)).box (x3.set 0 _) (by decide), hS3, by omega, by omega, by omega, bel_set (bel_set b3 (Nat.le_refl _) _) (Nat.le_refl _) _⟩

def cutL (l : List Row) (key : ByteArray) : List Row := if hit l key = true then l.take (fnd l key) ++ l.drop (fnd l key + 1) else l
theorem cutL_hit {l : List Row} {key : ByteArray} {f : Nat} (hf : fnd l key = f) (k : hit l key = true) : cutL l key = l.take f ++ l.drop (f + 1) := by simp [cutL, k, hf]
theorem cutL_miss {l : List Row} {key : ByteArray} (k : hit l key = false) : cutL l key = l := by simp [cutL, k]
set_option maxHeartbeats 2000000 in
set_option maxRecDepth 100000 in
theorem l1Cut (A : Option Addr) (n c : Nat) (l : List Row) (key : ByteArray) (w : World) (hr : Sl encRow w w.heap.size A n l) (hn : n ≤ 1048576) (hA : Fine A n c) :
    Calls Try.prog 160 #[.slice A n c, .string key] w (OwnPost w (cutL l key)) := by
  obtain ⟨i0, hi, hz0, hz1, hz2⟩ := info_parts info46
  have HL := Lib.hid hr.len
  have HN := Lib.hid hn
  clear hn
  cases hh : hit l key
  · rw [cutL_miss hh]
    have HH := Lib.hid hh
    clear hh
    go_enter Try.func160, Try.ntmps160
    go_wp2_with fail
    refine (l1Find A n c l key w hr HN.out).mono ?_
    rintro e w1 ⟨rfl, hb1⟩
    rw [HH.out]
    go_wp2_with fail
    refine (l1Copy A n c l w1 (hr.on hb1) (Nat.le_trans HN.out (by omega))).mono ?_
    rintro e w2 ⟨v, rfl, ho2, hb2⟩
    go_wp2
    go_ret
    exact ⟨v, rfl, ho2.lower hb1.size, bel_trans hb1 hb2⟩
  · have hlt := hit_lt hh
    rw [HL.out] at hlt
    obtain ⟨f, hfd⟩ : ∃ f, fnd l key = f := ⟨_, rfl⟩
    rw [cutL_hit hfd hh]
    rw [hfd] at hlt
    have HF := Lib.hid hfd
    have HH := Lib.hid hh
    clear hh hfd
    obtain ⟨b, off, rfl, hb⟩ := hr.spot (by omega)
    have hnc := hA.1
    have j0 : (0 : Int) ≤ (f : Int) := by omega
    have j1 : (f : Int) + 1 ≤ (n : Int) := by omega
    have j2 : (f : Int) ≤ (c : Int) := by omega
    have j3 : (n : Int) ≤ (c : Int) := by omega
    have j4 : (0 : Int) ≤ (f : Int) + 1 := by omega
    have j5 : IntKind.i64.wrap ((f : Int) + 1) = (f : Int) + 1 := IntWalk.i64_in _ (by have := HN.out; omega)
    have j6 : ((f : Int) + 1).toNat = f + 1 := by omega
    have HF3 := Lib.hid (show f ≤ 2097152 by have := HN.out; omega)
    have HS3 := Lib.hid (show (l.take f).length + (n - (f + 1)) ≤ maxLen by rw [List.length_take, HL.out]; have := HN.out; unfold maxLen; omega)
    have HS4 := Lib.hid (show ((l.take f).length + (n - (f + 1))) * 24 ≤ 140737488355328 by rw [List.length_take, HL.out]; have := HN.out; omega)
    go_enter Try.func160, Try.ntmps160
    go_wp2_with fail
    refine (l1Find _ n c l key w hr HN.out).mono ?_
    rintro e w1 ⟨rfl, hb1⟩
    rw [HF.out, HH.out]
    go_wp2_with fail
    go_region_law (first
      | (go_simp; go_at_call 154; refine (l1Copy _ f c (l.take f) _ ((hr.on (by exact hb1.drew)).head encRow_len (by omega)) HF3.out).mono ?_; rintro e w3 ⟨v3, rfl, o3, hb3⟩; have c3 := bel_trans hb1.drew hb3; have hr5 : Sl encRow w3 w.heap.size (if c = f + 1 then some ⟨b, off, none⟩ else some ⟨b, off + (f + 1) * 2, none⟩) (n - (f + 1)) (l.drop (f + 1)) := (hr.keep (by exact c3)).rest encRow_len hlt hnc)
      | (refine step_append_sl _ (by rfl) (.tmp 20) (.tmp 24) 59 (by rfl) w1.heap.size 117 i0 _ 2 24 Try.underlying59 hi hz0 hz1 hz2 rfl (by decide) encRow_len encRow_one v3 (l.take f) (by rfl) o3 _ (if c = f + 1 then some ⟨b, off, none⟩ else some ⟨b, off + (f + 1) * 2, none⟩) (n - (f + 1)) (c - (f + 1)) (l.drop (f + 1)) (by rfl) hr5 HS3.out HS4.out (by have := hb3.size; simp at *; omega) ?_; intro v6 w6 o6 g6))
    all_goals
      have hz := hb1.size
      have o7 := o6.lower (base' := w.heap.size) (by omega)
      have b6 : Below w.heap.size w w6 := bel_grown c3 g6 (fun k hk => Nat.le_trans hz (World.ownsRow.lt o3 k hk).1)
      go_wp2
      all_goals
        go_ret
        exact ⟨v6, rfl, o7, b6⟩


theorem putL_small {l : List Row} {key : ByteArray} {num : Int} {k : Nat} (h : ∀ r ∈ l, r.1.size ≤ k) (hk : key.size ≤ k) : ∀ r ∈ putL l key num, r.1.size ≤ k := by
  intro r hr
  unfold putL at hr
  simp only [List.mem_append, List.mem_cons, List.not_mem_nil, or_false] at hr
  rcases hr with (hr | hr) | hr
  · exact h r (List.mem_of_mem_take hr)
  · rw [hr]; exact hk
  · exact h r (List.mem_of_mem_drop hr)
theorem cutL_small {l : List Row} {key : ByteArray} {k : Nat} (h : ∀ r ∈ l, r.1.size ≤ k) : ∀ r ∈ cutL l key, r.1.size ≤ k := by
  intro r hr
  unfold cutL at hr
  split at hr
  · rcases List.mem_append.1 hr with h1 | h1
    · exact h r (List.mem_of_mem_take h1)
    · exact h r (List.mem_of_mem_drop h1)
  · exact h r hr
theorem cutL_len (l : List Row) (key : ByteArray) : (cutL l key).length ≤ l.length := by
  unfold cutL
  split
  · rw [List.length_append, List.length_take, List.length_drop]; omega
  · exact Nat.le_refl _

/-- rows with what one did -/
def RowsPost (w : World) (base : Nat) (k : Nat) (e : Ending) (w' : World) : Prop :=
  ∃ (A : Option Addr) (c : Nat) (l : List Row), e = .returned (.slice A l.length c) ∧ Own encRow 2 117 w' base (.slice A l.length c) l ∧ (∀ r ∈ l, r.1.size ≤ 3) ∧ l.length ≤ k ∧ Below w.heap.size w w'
set_option maxHeartbeats 4000000 in
set_option maxRecDepth 100000 in
theorem l3Rows (A : Option Addr) (n c : Nat) (l : List Row) (B : Option Addr) (m d : Nat) (lw : List Write) (base : Nat) (w : World) (ho : Own encRow 2 117 w base (.slice A n c) l) (hbase : base ≤ w.heap.size) (hsm : ∀ r ∈ l, r.1.size ≤ 3) (hn : n ≤ 1000) (hs : Sl encWrite w w.heap.size B m lw) (hk : SmallW lw) (hm : m ≤ 1000) :
    Calls Try.prog 156 #[.slice A n c, .slice B m d] w (RowsPost w base (n + m)) := by
  have HL := Lib.hid ho.len
  have HN := Lib.hid hn
  have HM : Hid (n ≤ 1000 ∧ m ≤ 1000) := Lib.hid ⟨hn, hm⟩
  have HS := Lib.hid hs
  have HK := Lib.hid hk
  have HO := Lib.hid ho
  have HSM := Lib.hid hsm
  clear hn hs hk ho hsm
  go_enter Try.func156, Try.ntmps156
  go_wp2_with fail
  go_loopw [0, 5] (fun v0 v5 wr => ∃ (i : Nat) (A2 : Option Addr) (c2 : Nat) (l2 : List Row), i ≤ m ∧ v5 = .int .i64 (i : Int) ∧ v0 = .slice A2 l2.length c2 ∧ Own encRow 2 117 wr base (.slice A2 l2.length c2) l2 ∧ (∀ r ∈ l2, r.1.size ≤ 3) ∧ l2.length ≤ n + i ∧ Below w.heap.size w wr) (fun _ v5 _ => m - (intOf v5).toNat)
  case atStart => exact ⟨0, A, c, l, by omega, rfl, by rw [HL.out], by rw [HL.out]; exact HO.out, HSM.out, by rw [HL.out]; omega, Below.refl _ _⟩
  case round =>
    obtain ⟨i, A2, c2, l2, him, rfl, rfl, o2, hs2, hl2, hbw⟩ := hrel
    have hmB : (m : Int) ≤ 1000 := by omega
    by_cases hlt : i < m
    · have hlt' : (i : Int) < (m : Int) := by omega
      have i0 : (0 : Int) ≤ (i : Int) := by omega
      obtain ⟨d, off, rfl, hbb⟩ := HS.out.spot (by omega)
      obtain ⟨f0, f1, f2, hx, e0, e1, e2⟩ := atWrite (HS.out.keep hbw) hlt
      have hf3 : f0.size ≤ 3 := HK.out.mem hx
      have hz := hbw.size
      clear hx
      cases f2
      · go_wp2_with fail
        refine wp_region_held_drew (S := (fun W' => (W'.cell? ⟨d, off + i * 3, none⟩ = some (.string f0) ∧ W'.cell? ⟨d, off + i * 3 + 1, none⟩ = some (.int .i64 f1)) ∧ Below w.heap.size w W')) (by kernel_rfl) ⟨⟨e0, e1⟩, bel_drewN hbw 1⟩ (fun hHeld => ?_)
        replace o2 := o2.drew
        replace e0 := keepC (Below.refl _ _).drew e0
        replace e1 := keepC (Below.refl _ _).drew e1
        replace hbw := bel_drewN hbw 1
        refine wpAnyH_take (i := 0) (oi := { dst := some 24, op := Go.Op.move (Go.Operand.tmp 0), type := 59, pos := "l3_work.go:19", after := #[], guard := none }) (v := ?_) rfl (by kernel_rfl) (by kernel_rfl) (by kernel_rfl) (fun _ _ _ h => h) (Or.inl ⟨by rfl, ?hy0⟩) (by assumption) ?_
        case hy0 => ((intro w hSw; (try dsimp only at hSw); go_simp); try with_reducible rfl)
        try simp only [Act.put, List.setIfInBounds_toArray, List.set_cons_zero, List.set_cons_succ]
        refine wpAnyH_take (i := 1) (oi := { dst := some 25, op := Go.Op.move (Go.Operand.tmp 1), type := 27, pos := "l3_work.go:19", after := #[], guard := none }) (v := ?_) rfl (by kernel_rfl) (by kernel_rfl) (by kernel_rfl) (fun _ _ _ h => h) (Or.inl ⟨by rfl, ?hy1⟩) (by assumption) ?_
        case hy1 => ((intro w hSw; (try dsimp only at hSw); go_simp); try with_reducible rfl)
        try simp only [Act.put, List.setIfInBounds_toArray, List.set_cons_zero, List.set_cons_succ]
        refine wpAnyH_take (i := 2) (oi := { dst := some 26, op := Go.Op.move (Go.Operand.tmp 5), type := 3, pos := "l3_work.go:19", after := #[], guard := none }) (v := ?_) rfl (by kernel_rfl) (by kernel_rfl) (by kernel_rfl) (fun _ _ _ h => h) (Or.inl ⟨by rfl, ?hy2⟩) (by assumption) ?_
        case hy2 => ((intro w hSw; (try dsimp only at hSw); go_simp); try with_reducible rfl)
        try simp only [Act.put, List.setIfInBounds_toArray, List.set_cons_zero, List.set_cons_succ]
        refine wpAnyH_take (i := 3) (oi := { dst := some 27, op := Go.Op.indexAddr 27 (Go.Operand.tmp 25) (Go.Operand.tmp 26), type := 0, pos := "l3_work.go:19", after := #[{ on := 1, ground := Go.Ground.data }, { on := 2, ground := Go.Ground.data }], guard := none }) (v := ?_) rfl (by kernel_rfl) (by kernel_rfl) (by kernel_rfl) (fun _ _ _ h => h) (Or.inl ⟨by rfl, ?hy3⟩) (by assumption) ?_
        case hy3 => ((intro w hSw; (try dsimp only at hSw); go_simp); try with_reducible rfl)
        try simp only [Act.put, List.setIfInBounds_toArray, List.set_cons_zero, List.set_cons_succ]
        refine wpAnyH_take (i := 4) (oi := { dst := some 28, op := Go.Op.fieldAddr 73 (Go.Operand.tmp 27) 0, type := 0, pos := "l3_work.go:19", after := #[{ on := 3, ground := Go.Ground.data }], guard := none }) (v := ?_) rfl (by kernel_rfl) (by kernel_rfl) (by kernel_rfl) (fun _ _ _ h => h) (Or.inl ⟨by rfl, ?hy4⟩) (by assumption) ?_
        case hy4 => ((intro w hSw; (try dsimp only at hSw); go_simp); try with_reducible rfl)
        try simp only [Act.put, List.setIfInBounds_toArray, List.set_cons_zero, List.set_cons_succ]
        refine wpAnyH_take (i := 5) (oi := { dst := some 29, op := Go.Op.load 9 (Go.Operand.tmp 28), type := 9, pos := "l3_work.go:19", after := #[{ on := 4, ground := Go.Ground.data }], guard := none }) (v := ?_) rfl (by kernel_rfl) (by kernel_rfl) (by kernel_rfl) (fun _ _ _ h => h) (Or.inl ⟨by rfl, ?hy5⟩) (by assumption) ?_
        case hy5 => ((intro w hSw; (try dsimp only at hSw); go_simp); try with_reducible rfl)
        try simp only [Act.put, List.setIfInBounds_toArray, List.set_cons_zero, List.set_cons_succ]
        refine wpAnyH_take (i := 6) (oi := { dst := some 30, op := Go.Op.move (Go.Operand.tmp 1), type := 27, pos := "l3_work.go:19", after := #[], guard := none }) (v := ?_) rfl (by kernel_rfl) (by kernel_rfl) (by kernel_rfl) (fun _ _ _ h => h) (Or.inl ⟨by rfl, ?hy6⟩) (by assumption) ?_
        case hy6 => ((intro w hSw; (try dsimp only at hSw); go_simp); try with_reducible rfl)
        try simp only [Act.put, List.setIfInBounds_toArray, List.set_cons_zero, List.set_cons_succ]
        refine wpAnyH_take (i := 7) (oi := { dst := some 31, op := Go.Op.move (Go.Operand.tmp 5), type := 3, pos := "l3_work.go:19", after := #[], guard := none }) (v := ?_) rfl (by kernel_rfl) (by kernel_rfl) (by kernel_rfl) (fun _ _ _ h => h) (Or.inl ⟨by rfl, ?hy7⟩) (by assumption) ?_
        case hy7 => ((intro w hSw; (try dsimp only at hSw); go_simp); try with_reducible rfl)
        try simp only [Act.put, List.setIfInBounds_toArray, List.set_cons_zero, List.set_cons_succ]
        refine wpAnyH_take (i := 8) (oi := { dst := some 32, op := Go.Op.indexAddr 27 (Go.Operand.tmp 30) (Go.Operand.tmp 31), type := 0, pos := "l3_work.go:19", after := #[{ on := 6, ground := Go.Ground.data }, { on := 7, ground := Go.Ground.data }], guard := none }) (v := ?_) rfl (by kernel_rfl) (by kernel_rfl) (by kernel_rfl) (fun _ _ _ h => h) (Or.inl ⟨by rfl, ?hy8⟩) (by assumption) ?_
        case hy8 => ((intro w hSw; (try dsimp only at hSw); go_simp); try with_reducible rfl)
        try simp only [Act.put, List.setIfInBounds_toArray, List.set_cons_zero, List.set_cons_succ]
        refine wpAnyH_take (i := 9) (oi := { dst := some 33, op := Go.Op.fieldAddr 73 (Go.Operand.tmp 32) 1, type := 0, pos := "l3_work.go:19", after := #[{ on := 8, ground := Go.Ground.data }], guard := none }) (v := ?_) rfl (by kernel_rfl) (by kernel_rfl) (by kernel_rfl) (fun _ _ _ h => h) (Or.inl ⟨by rfl, ?hy9⟩) (by assumption) ?_
        case hy9 => ((intro w hSw; (try dsimp only at hSw); go_simp); try with_reducible rfl)
        try simp only [Act.put, List.setIfInBounds_toArray, List.set_cons_zero, List.set_cons_succ]
        refine wpAnyH_take (i := 10) (oi := { dst := some 34, op := Go.Op.load 3 (Go.Operand.tmp 33), type := 3, pos := "l3_work.go:19", after := #[{ on := 9, ground := Go.Ground.data }], guard := none }) (v := ?_) rfl (by kernel_rfl) (by kernel_rfl) (by kernel_rfl) (fun _ _ _ h => h) (Or.inl ⟨by rfl, ?hy10⟩) (by assumption) ?_
        case hy10 => ((intro w hSw; (try dsimp only at hSw); go_simp); try with_reducible rfl)
        try simp only [Act.put, List.setIfInBounds_toArray, List.set_cons_zero, List.set_cons_succ]
        refine wpAnyH_ready (rs := [11]) (by kernel_rfl) (by simp) ?_
        refine AllReadyH.cons (o := { dst := some 35, op := Go.Op.call { callee := Go.Callee.value (Go.Operand.func 141), args := #[Go.Operand.tmp 24, Go.Operand.tmp 29, Go.Operand.tmp 34], argTypes := #[59, 9, 3] }, type := 59, pos := "l3_work.go:19", after := #[{ on := 0, ground := Go.Ground.data }, { on := 5, ground := Go.Ground.data }, { on := 10, ground := Go.Ground.data }], guard := none }) rfl (fun K hK => ?_) AllReadyH.nil
        go_simp
        refine (l1Put A2 l2.length c2 l2 f0 f1 _ o2.sl (by have := HM.out; omega) o2.fine).mono ?_
        rintro e w6 ⟨v6, rfl, o6, hb6⟩
        obtain ⟨A6, c6, rfl, -, -⟩ := o6.form
        have e0a := keepC hb6 e0
        have e1a := keepC hb6 e1
        have hb7 := bel_trans hbw hb6
        go_wp2_with fail
        refine hK.out _ _ ⟨⟨e0a, e1a⟩, hb7⟩ (fun hHeld => ?_)
        clear hK K
        try simp only [Act.put, List.setIfInBounds_toArray, List.set_cons_zero, List.set_cons_succ]
        refine wpAnyH_take (i := 12) (oi := { dst := some 0, op := Go.Op.assign (Go.Operand.tmp 35), type := 59, pos := "l3_work.go:19", after := #[{ on := 11, ground := Go.Ground.data }, { on := 11, ground := Go.Ground.chain }, { on := 0, ground := Go.Ground.phase }, { on := 1, ground := Go.Ground.phase }, { on := 2, ground := Go.Ground.phase }, { on := 3, ground := Go.Ground.phase }, { on := 4, ground := Go.Ground.phase }, { on := 5, ground := Go.Ground.phase }, { on := 6, ground := Go.Ground.phase }, { on := 7, ground := Go.Ground.phase }, { on := 8, ground := Go.Ground.phase }, { on := 9, ground := Go.Ground.phase }, { on := 10, ground := Go.Ground.phase }, { on := 11, ground := Go.Ground.phase }], guard := none }) (v := ?_) rfl (by kernel_rfl) (by kernel_rfl) (by kernel_rfl) (fun _ _ _ h => h) (Or.inl ⟨by rfl, ?hy12⟩) (by assumption) ?_
        case hy12 => ((intro w hSw; (try dsimp only at hSw); go_simp); try with_reducible rfl)
        try simp only [Act.put, List.setIfInBounds_toArray, List.set_cons_zero]
        refine wpAnyH_done (by kernel_rfl) ?_ _
        go_wp2_with fail
        go_roundw
        case rel => exact ⟨i + 1, A6, c6, _, by omega, by go_num, rfl, o6.lower (Nat.le_trans hbase hz), putL_small hs2 hf3, by have := putL_len l2 f0 f1; omega, hb7⟩
        case measure => simp [intOf]; omega
      · go_wp2_with fail
        refine (l1Cut A2 l2.length c2 l2 f0 wr o2.sl (by have := HM.out; omega) o2.fine).mono ?_
        rintro e w6 ⟨v6, rfl, o6, hb6⟩
        obtain ⟨A6, c6, rfl, -, -⟩ := o6.form
        have hb7 := bel_trans hbw hb6
        clear hbw hb6 e0 e1 e2
        go_wp2_with fail
        go_roundw
        case rel => exact ⟨i + 1, A6, c6, _, by omega, by go_num, rfl, o6.lower (Nat.le_trans hbase hz), cutL_small hs2, by have := cutL_len l2 f0; omega, hb7⟩
        case measure => simp [intOf]; omega
    · obtain rfl : i = m := by omega
      have hlt' : ¬ (i : Int) < (i : Int) := by omega
      go_wp2
      go_ret
      exact ⟨A2, c2, l2, rfl, o2, hs2, by omega, hbw⟩
/-- some answer -/
def SomeBool (w : World) (e : Ending) (w' : World) : Prop := ∃ b, e = .returned (.bool b) ∧ Below w.heap.size w w'
set_option maxHeartbeats 8000000 in
set_option maxRecDepth 100000 in
theorem workOk (now : Int) (A : Option Addr) (n c : Nat) (lv : List Ver) (at_ : Int) (B : Option Addr) (m d : Nat) (lw : List Write) (w : World) (hr : Sl encVer w w.heap.size A n lv) (hP : VersP now lv) (h0 : 0 ≤ at_) (h1 : at_ ≤ now) (hs : Sl encWrite w w.heap.size B m lw) (hk : SmallW lw) (hm : m ≤ 100) :
    Calls Try.prog 146 #[.agg #[.int .i64 now, .slice A n c], .agg #[.int .i64 at_, .slice B m d]] w (SomeBool w) := by
  have HR := Lib.hid hr
  have HP := Lib.hid hP
  have HS := Lib.hid hs
  have HK := Lib.hid hk
  have HM := Lib.hid hm
  have HN : Hid (n ≤ 60) := Lib.hid (by have := hP.1.2.2; rw [hr.len] at this; exact this)
  have hRP := at_rowsP hP h0 h1
  have HA : Hid ((atL lv at_).length ≤ 100 ∧ ∀ r ∈ atL lv at_, r.1.size ≤ 3) := Lib.hid ⟨by have := hRP.1; omega, fun r hr => by have := hRP.small r hr; omega⟩
  clear hr hP hs hk hm hRP
  have xa := (BoxC.new w 39 #[.int .i64 now, .slice A n c]).alloc (.cells #[.int .i64 at_, .slice B m d] 29)
  have xb := BoxC.new (w.alloc (.cells #[.int .i64 now, .slice A n c] 39)) 29 #[.int .i64 at_, .slice B m d]
  simp only [World.size_alloc] at xb
  have b0 := bel_alloc (bel_alloc (Below.refl _ w) (.cells #[.int .i64 now, .slice A n c] 39)) (.cells #[.int .i64 at_, .slice B m d] 29)
  go_enter Try.func146, Try.ntmps146
  go_wp2_with fail
  generalize (w.alloc (.cells #[.int .i64 now, .slice A n c] 39)).alloc (.cells #[.int .i64 at_, .slice B m d] 29) = w0 at *
  have HC : Hid (∀ W, Below w0.heap.size w0 W → W.cell? ⟨w.heap.size, 0, none⟩ = some (.int .i64 now) ∧ W.cell? ⟨w.heap.size, 1, none⟩ = some (.slice A n c) ∧ W.cell? ⟨w.heap.size + 1, 0, none⟩ = some (.int .i64 at_) ∧ W.cell? ⟨w.heap.size + 1, 1, none⟩ = some (.slice B m d)) :=
    Lib.hid fun W hW => ⟨(xa.on hW).c (k := 0) rfl, (xa.on hW).c (k := 1) rfl, (xb.on hW).c (k := 0) rfl, (xb.on hW).c (k := 1) rfl⟩
  clear xa xb
  have kb := Below.refl w0.heap.size w0
  cases hok : Wx.writesOk 6 lw
  · have HOK := Lib.hid hok
    clear hok
    refine wp_region_held_drew (S := (fun W' => (W'.cell? ⟨w.heap.size, 0, none⟩ = some (.int .i64 now) ∧ W'.cell? ⟨w.heap.size, 1, none⟩ = some (.slice A n c) ∧ W'.cell? ⟨w.heap.size + 1, 0, none⟩ = some (.int .i64 at_) ∧ W'.cell? ⟨w.heap.size + 1, 1, none⟩ = some (.slice B m d)) ∧ Below w0.heap.size w0 W')) (by kernel_rfl) ⟨HC.out _ kb.drew, kb.drew⟩ (fun hHeld => ?_)
    refine wpAnyH_take (i := 0) (oi := { dst := some 5, op := Go.Op.load 39 (Go.Operand.tmp 2), type := 39, pos := "l3_work.go:27", after := #[], guard := none }) (v := ?_) rfl (by kernel_rfl) (by kernel_rfl) (by kernel_rfl) (fun _ _ _ h => h) (Or.inl ⟨by rfl, ?hyf0⟩) (by assumption) ?_
    case hyf0 => ((intro w hSw; (try dsimp only at hSw); go_simp); try with_reducible rfl)
    try simp only [Act.put, List.setIfInBounds_toArray, List.set_cons_zero, List.set_cons_succ]
    refine wpAnyH_ready (rs := [1]) (by kernel_rfl) (by simp) ?_
    refine AllReadyH.cons (o := { dst := some 6, op := Go.Op.call { callee := Go.Callee.value (Go.Operand.func 41), args := #[Go.Operand.tmp 5], argTypes := #[39] }, type := 4, pos := "l3_work.go:27", after := #[{ on := 0, ground := Go.Ground.data }], guard := none }) rfl (fun K hK => ?_) AllReadyH.nil
    go_simp
    refine (specVersOk now A n c lv _ (HR.out.on (bel_trans b0 hHeld.2)) HP.out.swf (by have := HN.out; omega)).mono ?_
    rintro e wa ⟨rfl, hra⟩
    rw [versOk_true HP.out]
    replace kb := bel_trans hHeld.2 hra
    go_wp2_with fail
    refine hK.out _ _ ⟨HC.out _ kb, kb⟩ (fun hHeld => ?_)
    clear hK K
    try simp only [Act.put, List.setIfInBounds_toArray, List.set_cons_zero, List.set_cons_succ]
    refine wpAnyH_take (i := 2) (oi := { dst := some 7, op := Go.Op.move (Go.Operand.tmp 6), type := 4, pos := "l3_work.go:27", after := #[{ on := 1, ground := Go.Ground.data }, { on := 1, ground := Go.Ground.chain }], guard := none }) (v := ?_) rfl (by kernel_rfl) (by kernel_rfl) (by kernel_rfl) (fun _ _ _ h => h) (Or.inl ⟨by rfl, ?hyf2⟩) (by assumption) ?_
    case hyf2 => ((intro w hSw; (try dsimp only at hSw); go_simp); try with_reducible rfl)
    try simp only [Act.put, List.setIfInBounds_toArray, List.set_cons_zero, List.set_cons_succ]
    refine wpAnyH_take (i := 3) (oi := { dst := some 8, op := Go.Op.fieldAddr 29 (Go.Operand.tmp 3) 0, type := 0, pos := "l3_work.go:27", after := #[{ on := 2, ground := Go.Ground.guard }], guard := some (2, true) }) (v := ?_) rfl (by kernel_rfl) (by kernel_rfl) (by kernel_rfl) (fun _ _ _ h => h) (Or.inl ⟨by rfl, ?hyf3⟩) (by assumption) ?_
    case hyf3 => ((intro w hSw; (try dsimp only at hSw); go_simp); try with_reducible rfl)
    try simp only [Act.put, List.setIfInBounds_toArray, List.set_cons_zero, List.set_cons_succ]
    refine wpAnyH_take (i := 4) (oi := { dst := some 9, op := Go.Op.load 3 (Go.Operand.tmp 8), type := 3, pos := "l3_work.go:27", after := #[{ on := 3, ground := Go.Ground.data }, { on := 2, ground := Go.Ground.guard }], guard := some (2, true) }) (v := ?_) rfl (by kernel_rfl) (by kernel_rfl) (by kernel_rfl) (fun _ _ _ h => h) (Or.inl ⟨by rfl, ?hyf4⟩) (by assumption) ?_
    case hyf4 => ((intro w hSw; (try dsimp only at hSw); go_simp); try with_reducible rfl)
    try simp only [Act.put, List.setIfInBounds_toArray, List.set_cons_zero, List.set_cons_succ]
    refine wpAnyH_take (i := 5) (oi := { dst := some 10, op := Go.Op.binOp Go.BinOp.geq 3 (Go.Operand.tmp 9) (Go.Operand.const (Go.Value.int Go.IntKind.i64 0)) 3, type := 4, pos := "l3_work.go:27", after := #[{ on := 4, ground := Go.Ground.data }, { on := 2, ground := Go.Ground.guard }], guard := some (2, true) }) (v := ?_) rfl (by kernel_rfl) (by kernel_rfl) (by kernel_rfl) (fun _ _ _ h => h) (Or.inl ⟨by rfl, ?hyf5⟩) (by assumption) ?_
    case hyf5 => ((intro w hSw; (try dsimp only at hSw); go_simp); try with_reducible rfl)
    try simp only [Act.put, List.setIfInBounds_toArray, List.set_cons_zero, List.set_cons_succ]
    refine wpAnyH_take (i := 6) (oi := { dst := some 11, op := Go.Op.pick (Go.Operand.tmp 7) (Go.Operand.tmp 10) (Go.Operand.const (Go.Value.bool false)), type := 4, pos := "l3_work.go:27", after := #[{ on := 2, ground := Go.Ground.data }, { on := 5, ground := Go.Ground.data }], guard := none }) (v := ?_) rfl (by kernel_rfl) (by kernel_rfl) (by kernel_rfl) (fun _ _ _ h => h) (Or.inl ⟨by rfl, ?hyf6⟩) (by assumption) ?_
    case hyf6 => ((intro w hSw; (try dsimp only at hSw); go_simp); try with_reducible rfl)
    try simp only [Act.put, List.setIfInBounds_toArray, List.set_cons_zero, List.set_cons_succ]
    refine wpAnyH_take (i := 7) (oi := { dst := some 12, op := Go.Op.move (Go.Operand.tmp 11), type := 4, pos := "l3_work.go:27", after := #[{ on := 6, ground := Go.Ground.data }, { on := 2, ground := Go.Ground.chain }], guard := none }) (v := ?_) rfl (by kernel_rfl) (by kernel_rfl) (by kernel_rfl) (fun _ _ _ h => h) (Or.inl ⟨by rfl, ?hyf7⟩) (by assumption) ?_
    case hyf7 => ((intro w hSw; (try dsimp only at hSw); go_simp); try with_reducible rfl)
    try simp only [Act.put, List.setIfInBounds_toArray, List.set_cons_zero, List.set_cons_succ]
    refine wpAnyH_take (i := 8) (oi := { dst := some 13, op := Go.Op.fieldAddr 29 (Go.Operand.tmp 3) 0, type := 0, pos := "l3_work.go:27", after := #[{ on := 7, ground := Go.Ground.guard }], guard := some (7, true) }) (v := ?_) rfl (by kernel_rfl) (by kernel_rfl) (by kernel_rfl) (fun _ _ _ h => h) (Or.inl ⟨by rfl, ?hyf8⟩) (by assumption) ?_
    case hyf8 => ((intro w hSw; (try dsimp only at hSw); go_simp); try with_reducible rfl)
    try simp only [Act.put, List.setIfInBounds_toArray, List.set_cons_zero, List.set_cons_succ]
    refine wpAnyH_take (i := 9) (oi := { dst := some 14, op := Go.Op.load 3 (Go.Operand.tmp 13), type := 3, pos := "l3_work.go:27", after := #[{ on := 8, ground := Go.Ground.data }, { on := 7, ground := Go.Ground.guard }], guard := some (7, true) }) (v := ?_) rfl (by kernel_rfl) (by kernel_rfl) (by kernel_rfl) (fun _ _ _ h => h) (Or.inl ⟨by rfl, ?hyf9⟩) (by assumption) ?_
    case hyf9 => ((intro w hSw; (try dsimp only at hSw); go_simp); try with_reducible rfl)
    try simp only [Act.put, List.setIfInBounds_toArray, List.set_cons_zero, List.set_cons_succ]
    refine wpAnyH_take (i := 10) (oi := { dst := some 15, op := Go.Op.fieldAddr 39 (Go.Operand.tmp 2) 0, type := 0, pos := "l3_work.go:27", after := #[{ on := 7, ground := Go.Ground.guard }], guard := some (7, true) }) (v := ?_) rfl (by kernel_rfl) (by kernel_rfl) (by kernel_rfl) (fun _ _ _ h => h) (Or.inl ⟨by rfl, ?hyf10⟩) (by assumption) ?_
    case hyf10 => ((intro w hSw; (try dsimp only at hSw); go_simp); try with_reducible rfl)
    try simp only [Act.put, List.setIfInBounds_toArray, List.set_cons_zero, List.set_cons_succ]
    refine wpAnyH_take (i := 11) (oi := { dst := some 16, op := Go.Op.load 3 (Go.Operand.tmp 15), type := 3, pos := "l3_work.go:27", after := #[{ on := 10, ground := Go.Ground.data }, { on := 7, ground := Go.Ground.guard }], guard := some (7, true) }) (v := ?_) rfl (by kernel_rfl) (by kernel_rfl) (by kernel_rfl) (fun _ _ _ h => h) (Or.inl ⟨by rfl, ?hyf11⟩) (by assumption) ?_
    case hyf11 => ((intro w hSw; (try dsimp only at hSw); go_simp); try with_reducible rfl)
    try simp only [Act.put, List.setIfInBounds_toArray, List.set_cons_zero, List.set_cons_succ]
    refine wpAnyH_take (i := 12) (oi := { dst := some 17, op := Go.Op.binOp Go.BinOp.leq 3 (Go.Operand.tmp 14) (Go.Operand.tmp 16) 3, type := 4, pos := "l3_work.go:27", after := #[{ on := 9, ground := Go.Ground.data }, { on := 11, ground := Go.Ground.data }, { on := 7, ground := Go.Ground.guard }], guard := some (7, true) }) (v := ?_) rfl (by kernel_rfl) (by kernel_rfl) (by kernel_rfl) (fun _ _ _ h => h) (Or.inl ⟨by rfl, ?hyf12⟩) (by assumption) ?_
    case hyf12 => ((intro w hSw; (try dsimp only at hSw); go_simp); try with_reducible rfl)
    try simp only [Act.put, List.setIfInBounds_toArray, List.set_cons_zero, List.set_cons_succ]
    refine wpAnyH_take (i := 13) (oi := { dst := some 18, op := Go.Op.pick (Go.Operand.tmp 12) (Go.Operand.tmp 17) (Go.Operand.const (Go.Value.bool false)), type := 4, pos := "l3_work.go:27", after := #[{ on := 7, ground := Go.Ground.data }, { on := 12, ground := Go.Ground.data }], guard := none }) (v := ?_) rfl (by kernel_rfl) (by kernel_rfl) (by kernel_rfl) (fun _ _ _ h => h) (Or.inl ⟨by rfl, ?hyf13⟩) (by assumption) ?_
    case hyf13 => ((intro w hSw; (try dsimp only at hSw); go_simp); try with_reducible rfl)
    try simp only [Act.put, List.setIfInBounds_toArray, List.set_cons_zero, List.set_cons_succ]
    refine wpAnyH_take (i := 14) (oi := { dst := some 19, op := Go.Op.move (Go.Operand.tmp 18), type := 4, pos := "l3_work.go:27", after := #[{ on := 13, ground := Go.Ground.data }, { on := 7, ground := Go.Ground.chain }], guard := none }) (v := ?_) rfl (by kernel_rfl) (by kernel_rfl) (by kernel_rfl) (fun _ _ _ h => h) (Or.inl ⟨by rfl, ?hyf14⟩) (by assumption) ?_
    case hyf14 => ((intro w hSw; (try dsimp only at hSw); go_simp); try with_reducible rfl)
    try simp only [Act.put, List.setIfInBounds_toArray, List.set_cons_zero, List.set_cons_succ]
    refine wpAnyH_take (i := 15) (oi := { dst := some 20, op := Go.Op.fieldAddr 29 (Go.Operand.tmp 3) 1, type := 0, pos := "l3_work.go:27", after := #[{ on := 14, ground := Go.Ground.guard }], guard := some (14, true) }) (v := ?_) rfl (by kernel_rfl) (by kernel_rfl) (by kernel_rfl) (fun _ _ _ h => h) (Or.inl ⟨by rfl, ?hyf15⟩) (by assumption) ?_
    case hyf15 => ((intro w hSw; (try dsimp only at hSw); go_simp); try with_reducible rfl)
    try simp only [Act.put, List.setIfInBounds_toArray, List.set_cons_zero, List.set_cons_succ]
    refine wpAnyH_take (i := 16) (oi := { dst := some 21, op := Go.Op.load 27 (Go.Operand.tmp 20), type := 27, pos := "l3_work.go:27", after := #[{ on := 15, ground := Go.Ground.data }, { on := 14, ground := Go.Ground.guard }], guard := some (14, true) }) (v := ?_) rfl (by kernel_rfl) (by kernel_rfl) (by kernel_rfl) (fun _ _ _ h => h) (Or.inl ⟨by rfl, ?hyf16⟩) (by assumption) ?_
    case hyf16 => ((intro w hSw; (try dsimp only at hSw); go_simp); try with_reducible rfl)
    try simp only [Act.put, List.setIfInBounds_toArray, List.set_cons_zero, List.set_cons_succ]
    refine wpAnyH_ready (rs := [17]) (by kernel_rfl) (by simp) ?_
    refine AllReadyH.cons (o := { dst := some 22, op := Go.Op.call { callee := Go.Callee.value (Go.Operand.func 37), args := #[Go.Operand.tmp 21], argTypes := #[27] }, type := 4, pos := "l3_work.go:27", after := #[{ on := 16, ground := Go.Ground.data }, { on := 14, ground := Go.Ground.chain }, { on := 14, ground := Go.Ground.guard }], guard := some (14, true) }) rfl (fun K hK => ?_) AllReadyH.nil
    go_simp
    refine (Wx.specWritesOk B m d lw _ (HS.out.on (bel_trans b0 hHeld.2)) HK.out.wf (by have := HM.out; omega)).mono ?_
    rintro e wb ⟨rfl, hrb⟩
    rw [HOK.out]
    replace kb := bel_trans hHeld.2 hrb
    go_wp2_with fail
    refine hK.out _ _ ⟨HC.out _ kb, kb⟩ (fun hHeld => ?_)
    clear hK K
    try simp only [Act.put, List.setIfInBounds_toArray, List.set_cons_zero, List.set_cons_succ]
    refine wpAnyH_take (i := 18) (oi := { dst := some 23, op := Go.Op.pick (Go.Operand.tmp 19) (Go.Operand.tmp 22) (Go.Operand.const (Go.Value.bool false)), type := 4, pos := "l3_work.go:27", after := #[{ on := 14, ground := Go.Ground.data }, { on := 17, ground := Go.Ground.data }], guard := none }) (v := ?_) rfl (by kernel_rfl) (by kernel_rfl) (by kernel_rfl) (fun _ _ _ h => h) (Or.inl ⟨by rfl, ?hyf18⟩) (by assumption) ?_
    case hyf18 => ((intro w hSw; (try dsimp only at hSw); go_simp); try with_reducible rfl)
    try simp only [Act.put, List.setIfInBounds_toArray, List.set_cons_zero, List.set_cons_succ]
    refine wpAnyH_take (i := 19) (oi := { dst := some 24, op := Go.Op.move (Go.Operand.tmp 23), type := 4, pos := "l3_work.go:27", after := #[{ on := 18, ground := Go.Ground.data }, { on := 17, ground := Go.Ground.chain }], guard := none }) (v := ?_) rfl (by kernel_rfl) (by kernel_rfl) (by kernel_rfl) (fun _ _ _ h => h) (Or.inl ⟨by rfl, ?hyf19⟩) (by assumption) ?_
    case hyf19 => ((intro w hSw; (try dsimp only at hSw); go_simp); try with_reducible rfl)
    try simp only [Act.put, List.setIfInBounds_toArray, List.set_cons_zero, List.set_cons_succ]
    refine wpAnyH_take (i := 20) (oi := { dst := some 25, op := Go.Op.load 39 (Go.Operand.tmp 2), type := 39, pos := "l3_work.go:27", after := #[{ on := 19, ground := Go.Ground.guard }], guard := some (19, true) }) (v := undef) rfl (by kernel_rfl) (by kernel_rfl) (by kernel_rfl) (fun _ _ _ h => h) (Or.inr ⟨by rfl, rfl⟩) (by assumption) ?_
    try simp only [Act.put, List.setIfInBounds_toArray, List.set_cons_zero, List.set_cons_succ]
    refine wpAnyH_take (i := 21) (oi := { dst := some 26, op := Go.Op.fieldAddr 29 (Go.Operand.tmp 3) 0, type := 0, pos := "l3_work.go:27", after := #[{ on := 19, ground := Go.Ground.guard }], guard := some (19, true) }) (v := undef) rfl (by kernel_rfl) (by kernel_rfl) (by kernel_rfl) (fun _ _ _ h => h) (Or.inr ⟨by rfl, rfl⟩) (by assumption) ?_
    try simp only [Act.put, List.setIfInBounds_toArray, List.set_cons_zero, List.set_cons_succ]
    refine wpAnyH_take (i := 22) (oi := { dst := some 27, op := Go.Op.load 3 (Go.Operand.tmp 26), type := 3, pos := "l3_work.go:27", after := #[{ on := 21, ground := Go.Ground.data }, { on := 19, ground := Go.Ground.guard }], guard := some (19, true) }) (v := undef) rfl (by kernel_rfl) (by kernel_rfl) (by kernel_rfl) (fun _ _ _ h => h) (Or.inr ⟨by rfl, rfl⟩) (by assumption) ?_
    try simp only [Act.put, List.setIfInBounds_toArray, List.set_cons_zero, List.set_cons_succ]
    refine wpAnyH_take (i := 23) (oi := { dst := some 28, op := Go.Op.call { callee := Go.Callee.value (Go.Operand.func 90), args := #[Go.Operand.tmp 25, Go.Operand.tmp 27], argTypes := #[39, 3] }, type := 59, pos := "l3_work.go:27", after := #[{ on := 20, ground := Go.Ground.data }, { on := 22, ground := Go.Ground.data }, { on := 19, ground := Go.Ground.chain }, { on := 19, ground := Go.Ground.guard }], guard := some (19, true) }) (v := undef) rfl (by kernel_rfl) (by kernel_rfl) (by kernel_rfl) (fun _ _ _ h => h) (Or.inr ⟨by rfl, rfl⟩) (by assumption) ?_
    try simp only [Act.put, List.setIfInBounds_toArray, List.set_cons_zero, List.set_cons_succ]
    refine wpAnyH_take (i := 24) (oi := { dst := some 29, op := Go.Op.fieldAddr 29 (Go.Operand.tmp 3) 1, type := 0, pos := "l3_work.go:27", after := #[{ on := 19, ground := Go.Ground.guard }], guard := some (19, true) }) (v := undef) rfl (by kernel_rfl) (by kernel_rfl) (by kernel_rfl) (fun _ _ _ h => h) (Or.inr ⟨by rfl, rfl⟩) (by assumption) ?_
    try simp only [Act.put, List.setIfInBounds_toArray, List.set_cons_zero, List.set_cons_succ]
    refine wpAnyH_take (i := 25) (oi := { dst := some 30, op := Go.Op.load 27 (Go.Operand.tmp 29), type := 27, pos := "l3_work.go:27", after := #[{ on := 24, ground := Go.Ground.data }, { on := 19, ground := Go.Ground.guard }], guard := some (19, true) }) (v := undef) rfl (by kernel_rfl) (by kernel_rfl) (by kernel_rfl) (fun _ _ _ h => h) (Or.inr ⟨by rfl, rfl⟩) (by assumption) ?_
    try simp only [Act.put, List.setIfInBounds_toArray, List.set_cons_zero, List.set_cons_succ]
    refine wpAnyH_take (i := 26) (oi := { dst := some 31, op := Go.Op.call { callee := Go.Callee.value (Go.Operand.func 156), args := #[Go.Operand.tmp 28, Go.Operand.tmp 30], argTypes := #[59, 27] }, type := 59, pos := "l3_work.go:27", after := #[{ on := 23, ground := Go.Ground.data }, { on := 25, ground := Go.Ground.data }, { on := 23, ground := Go.Ground.chain }, { on := 19, ground := Go.Ground.guard }], guard := some (19, true) }) (v := undef) rfl (by kernel_rfl) (by kernel_rfl) (by kernel_rfl) (fun _ _ _ h => h) (Or.inr ⟨by rfl, rfl⟩) (by assumption) ?_
    try simp only [Act.put, List.setIfInBounds_toArray, List.set_cons_zero, List.set_cons_succ]
    refine wpAnyH_take (i := 27) (oi := { dst := some 32, op := Go.Op.call { callee := Go.Callee.value (Go.Operand.func 142), args := #[Go.Operand.tmp 31], argTypes := #[59] }, type := 4, pos := "l3_work.go:27", after := #[{ on := 26, ground := Go.Ground.data }, { on := 26, ground := Go.Ground.chain }, { on := 19, ground := Go.Ground.guard }], guard := some (19, true) }) (v := undef) rfl (by kernel_rfl) (by kernel_rfl) (by kernel_rfl) (fun _ _ _ h => h) (Or.inr ⟨by rfl, rfl⟩) (by assumption) ?_
    try simp only [Act.put, List.setIfInBounds_toArray, List.set_cons_zero, List.set_cons_succ]
    refine wpAnyH_take (i := 28) (oi := { dst := some 33, op := Go.Op.pick (Go.Operand.tmp 24) (Go.Operand.tmp 32) (Go.Operand.const (Go.Value.bool false)), type := 4, pos := "l3_work.go:27", after := #[{ on := 19, ground := Go.Ground.data }, { on := 27, ground := Go.Ground.data }], guard := none }) (v := ?_) rfl (by kernel_rfl) (by kernel_rfl) (by kernel_rfl) (fun _ _ _ h => h) (Or.inl ⟨by rfl, ?hyf28⟩) (by assumption) ?_
    case hyf28 => ((intro w hSw; (try dsimp only at hSw); go_simp); try with_reducible rfl)
    try simp only [Act.put, List.setIfInBounds_toArray, List.set_cons_zero, List.set_cons_succ]
    refine wpAnyH_take (i := 29) (oi := { dst := some 4, op := Go.Op.assign (Go.Operand.tmp 33), type := 4, pos := "l3_work.go:27", after := #[{ on := 28, ground := Go.Ground.data }, { on := 27, ground := Go.Ground.chain }, { on := 0, ground := Go.Ground.phase }, { on := 1, ground := Go.Ground.phase }, { on := 2, ground := Go.Ground.phase }, { on := 3, ground := Go.Ground.phase }, { on := 4, ground := Go.Ground.phase }, { on := 5, ground := Go.Ground.phase }, { on := 6, ground := Go.Ground.phase }, { on := 7, ground := Go.Ground.phase }, { on := 8, ground := Go.Ground.phase }, { on := 9, ground := Go.Ground.phase }, { on := 10, ground := Go.Ground.phase }, { on := 11, ground := Go.Ground.phase }, { on := 12, ground := Go.Ground.phase }, { on := 13, ground := Go.Ground.phase }, { on := 14, ground := Go.Ground.phase }, { on := 15, ground := Go.Ground.phase }, { on := 16, ground := Go.Ground.phase }, { on := 17, ground := Go.Ground.phase }, { on := 18, ground := Go.Ground.phase }, { on := 19, ground := Go.Ground.phase }, { on := 20, ground := Go.Ground.phase }, { on := 21, ground := Go.Ground.phase }, { on := 22, ground := Go.Ground.phase }, { on := 23, ground := Go.Ground.phase }, { on := 24, ground := Go.Ground.phase }, { on := 25, ground := Go.Ground.phase }, { on := 26, ground := Go.Ground.phase }, { on := 27, ground := Go.Ground.phase }, { on := 28, ground := Go.Ground.phase }], guard := none }) (v := ?_) rfl (by kernel_rfl) (by kernel_rfl) (by kernel_rfl) (fun _ _ _ h => h) (Or.inl ⟨by rfl, ?hyf29⟩) (by assumption) ?_
    case hyf29 => ((intro w hSw; (try dsimp only at hSw); go_simp); try with_reducible rfl)
    try simp only [Act.put, List.setIfInBounds_toArray, List.set_cons_zero, List.set_cons_succ]
    refine wpAnyH_done (by kernel_rfl) ?_ _
    go_wp2
    go_ret
    exact ⟨_, rfl, bel_trans b0 kb⟩
  · have HOK := Lib.hid hok
    clear hok
    refine wp_region_held_drew (S := (fun W' => (W'.cell? ⟨w.heap.size, 0, none⟩ = some (.int .i64 now) ∧ W'.cell? ⟨w.heap.size, 1, none⟩ = some (.slice A n c) ∧ W'.cell? ⟨w.heap.size + 1, 0, none⟩ = some (.int .i64 at_) ∧ W'.cell? ⟨w.heap.size + 1, 1, none⟩ = some (.slice B m d)) ∧ Below w0.heap.size w0 W')) (by kernel_rfl) ⟨HC.out _ kb.drew, kb.drew⟩ (fun hHeld => ?_)
    refine wpAnyH_take (i := 0) (oi := { dst := some 5, op := Go.Op.load 39 (Go.Operand.tmp 2), type := 39, pos := "l3_work.go:27", after := #[], guard := none }) (v := ?_) rfl (by kernel_rfl) (by kernel_rfl) (by kernel_rfl) (fun _ _ _ h => h) (Or.inl ⟨by rfl, ?hy0⟩) (by assumption) ?_
    case hy0 => ((intro w hSw; (try dsimp only at hSw); go_simp); try with_reducible rfl)
    try simp only [Act.put, List.setIfInBounds_toArray, List.set_cons_zero, List.set_cons_succ]
    refine wpAnyH_ready (rs := [1]) (by kernel_rfl) (by simp) ?_
    refine AllReadyH.cons (o := { dst := some 6, op := Go.Op.call { callee := Go.Callee.value (Go.Operand.func 41), args := #[Go.Operand.tmp 5], argTypes := #[39] }, type := 4, pos := "l3_work.go:27", after := #[{ on := 0, ground := Go.Ground.data }], guard := none }) rfl (fun K hK => ?_) AllReadyH.nil
    go_simp
    refine (specVersOk now A n c lv _ (HR.out.on (bel_trans b0 hHeld.2)) HP.out.swf (by have := HN.out; omega)).mono ?_
    rintro e wa ⟨rfl, hra⟩
    rw [versOk_true HP.out]
    replace kb := bel_trans hHeld.2 hra
    go_wp2_with fail
    refine hK.out _ _ ⟨HC.out _ kb, kb⟩ (fun hHeld => ?_)
    clear hK K
    try simp only [Act.put, List.setIfInBounds_toArray, List.set_cons_zero, List.set_cons_succ]
    refine wpAnyH_take (i := 2) (oi := { dst := some 7, op := Go.Op.move (Go.Operand.tmp 6), type := 4, pos := "l3_work.go:27", after := #[{ on := 1, ground := Go.Ground.data }, { on := 1, ground := Go.Ground.chain }], guard := none }) (v := ?_) rfl (by kernel_rfl) (by kernel_rfl) (by kernel_rfl) (fun _ _ _ h => h) (Or.inl ⟨by rfl, ?hy2⟩) (by assumption) ?_
    case hy2 => ((intro w hSw; (try dsimp only at hSw); go_simp); try with_reducible rfl)
    try simp only [Act.put, List.setIfInBounds_toArray, List.set_cons_zero, List.set_cons_succ]
    refine wpAnyH_take (i := 3) (oi := { dst := some 8, op := Go.Op.fieldAddr 29 (Go.Operand.tmp 3) 0, type := 0, pos := "l3_work.go:27", after := #[{ on := 2, ground := Go.Ground.guard }], guard := some (2, true) }) (v := ?_) rfl (by kernel_rfl) (by kernel_rfl) (by kernel_rfl) (fun _ _ _ h => h) (Or.inl ⟨by rfl, ?hy3⟩) (by assumption) ?_
    case hy3 => ((intro w hSw; (try dsimp only at hSw); go_simp); try with_reducible rfl)
    try simp only [Act.put, List.setIfInBounds_toArray, List.set_cons_zero, List.set_cons_succ]
    refine wpAnyH_take (i := 4) (oi := { dst := some 9, op := Go.Op.load 3 (Go.Operand.tmp 8), type := 3, pos := "l3_work.go:27", after := #[{ on := 3, ground := Go.Ground.data }, { on := 2, ground := Go.Ground.guard }], guard := some (2, true) }) (v := ?_) rfl (by kernel_rfl) (by kernel_rfl) (by kernel_rfl) (fun _ _ _ h => h) (Or.inl ⟨by rfl, ?hy4⟩) (by assumption) ?_
    case hy4 => ((intro w hSw; (try dsimp only at hSw); go_simp); try with_reducible rfl)
    try simp only [Act.put, List.setIfInBounds_toArray, List.set_cons_zero, List.set_cons_succ]
    refine wpAnyH_take (i := 5) (oi := { dst := some 10, op := Go.Op.binOp Go.BinOp.geq 3 (Go.Operand.tmp 9) (Go.Operand.const (Go.Value.int Go.IntKind.i64 0)) 3, type := 4, pos := "l3_work.go:27", after := #[{ on := 4, ground := Go.Ground.data }, { on := 2, ground := Go.Ground.guard }], guard := some (2, true) }) (v := ?_) rfl (by kernel_rfl) (by kernel_rfl) (by kernel_rfl) (fun _ _ _ h => h) (Or.inl ⟨by rfl, ?hy5⟩) (by assumption) ?_
    case hy5 => ((intro w hSw; (try dsimp only at hSw); go_simp); try with_reducible rfl)
    try simp only [Act.put, List.setIfInBounds_toArray, List.set_cons_zero, List.set_cons_succ]
    refine wpAnyH_take (i := 6) (oi := { dst := some 11, op := Go.Op.pick (Go.Operand.tmp 7) (Go.Operand.tmp 10) (Go.Operand.const (Go.Value.bool false)), type := 4, pos := "l3_work.go:27", after := #[{ on := 2, ground := Go.Ground.data }, { on := 5, ground := Go.Ground.data }], guard := none }) (v := ?_) rfl (by kernel_rfl) (by kernel_rfl) (by kernel_rfl) (fun _ _ _ h => h) (Or.inl ⟨by rfl, ?hy6⟩) (by assumption) ?_
    case hy6 => ((intro w hSw; (try dsimp only at hSw); go_simp); try with_reducible rfl)
    try simp only [Act.put, List.setIfInBounds_toArray, List.set_cons_zero, List.set_cons_succ]
    refine wpAnyH_take (i := 7) (oi := { dst := some 12, op := Go.Op.move (Go.Operand.tmp 11), type := 4, pos := "l3_work.go:27", after := #[{ on := 6, ground := Go.Ground.data }, { on := 2, ground := Go.Ground.chain }], guard := none }) (v := ?_) rfl (by kernel_rfl) (by kernel_rfl) (by kernel_rfl) (fun _ _ _ h => h) (Or.inl ⟨by rfl, ?hy7⟩) (by assumption) ?_
    case hy7 => ((intro w hSw; (try dsimp only at hSw); go_simp); try with_reducible rfl)
    try simp only [Act.put, List.setIfInBounds_toArray, List.set_cons_zero, List.set_cons_succ]
    refine wpAnyH_take (i := 8) (oi := { dst := some 13, op := Go.Op.fieldAddr 29 (Go.Operand.tmp 3) 0, type := 0, pos := "l3_work.go:27", after := #[{ on := 7, ground := Go.Ground.guard }], guard := some (7, true) }) (v := ?_) rfl (by kernel_rfl) (by kernel_rfl) (by kernel_rfl) (fun _ _ _ h => h) (Or.inl ⟨by rfl, ?hy8⟩) (by assumption) ?_
    case hy8 => ((intro w hSw; (try dsimp only at hSw); go_simp); try with_reducible rfl)
    try simp only [Act.put, List.setIfInBounds_toArray, List.set_cons_zero, List.set_cons_succ]
    refine wpAnyH_take (i := 9) (oi := { dst := some 14, op := Go.Op.load 3 (Go.Operand.tmp 13), type := 3, pos := "l3_work.go:27", after := #[{ on := 8, ground := Go.Ground.data }, { on := 7, ground := Go.Ground.guard }], guard := some (7, true) }) (v := ?_) rfl (by kernel_rfl) (by kernel_rfl) (by kernel_rfl) (fun _ _ _ h => h) (Or.inl ⟨by rfl, ?hy9⟩) (by assumption) ?_
    case hy9 => ((intro w hSw; (try dsimp only at hSw); go_simp); try with_reducible rfl)
    try simp only [Act.put, List.setIfInBounds_toArray, List.set_cons_zero, List.set_cons_succ]
    refine wpAnyH_take (i := 10) (oi := { dst := some 15, op := Go.Op.fieldAddr 39 (Go.Operand.tmp 2) 0, type := 0, pos := "l3_work.go:27", after := #[{ on := 7, ground := Go.Ground.guard }], guard := some (7, true) }) (v := ?_) rfl (by kernel_rfl) (by kernel_rfl) (by kernel_rfl) (fun _ _ _ h => h) (Or.inl ⟨by rfl, ?hy10⟩) (by assumption) ?_
    case hy10 => ((intro w hSw; (try dsimp only at hSw); go_simp); try with_reducible rfl)
    try simp only [Act.put, List.setIfInBounds_toArray, List.set_cons_zero, List.set_cons_succ]
    refine wpAnyH_take (i := 11) (oi := { dst := some 16, op := Go.Op.load 3 (Go.Operand.tmp 15), type := 3, pos := "l3_work.go:27", after := #[{ on := 10, ground := Go.Ground.data }, { on := 7, ground := Go.Ground.guard }], guard := some (7, true) }) (v := ?_) rfl (by kernel_rfl) (by kernel_rfl) (by kernel_rfl) (fun _ _ _ h => h) (Or.inl ⟨by rfl, ?hy11⟩) (by assumption) ?_
    case hy11 => ((intro w hSw; (try dsimp only at hSw); go_simp); try with_reducible rfl)
    try simp only [Act.put, List.setIfInBounds_toArray, List.set_cons_zero, List.set_cons_succ]
    refine wpAnyH_take (i := 12) (oi := { dst := some 17, op := Go.Op.binOp Go.BinOp.leq 3 (Go.Operand.tmp 14) (Go.Operand.tmp 16) 3, type := 4, pos := "l3_work.go:27", after := #[{ on := 9, ground := Go.Ground.data }, { on := 11, ground := Go.Ground.data }, { on := 7, ground := Go.Ground.guard }], guard := some (7, true) }) (v := ?_) rfl (by kernel_rfl) (by kernel_rfl) (by kernel_rfl) (fun _ _ _ h => h) (Or.inl ⟨by rfl, ?hy12⟩) (by assumption) ?_
    case hy12 => ((intro w hSw; (try dsimp only at hSw); go_simp); try with_reducible rfl)
    try simp only [Act.put, List.setIfInBounds_toArray, List.set_cons_zero, List.set_cons_succ]
    refine wpAnyH_take (i := 13) (oi := { dst := some 18, op := Go.Op.pick (Go.Operand.tmp 12) (Go.Operand.tmp 17) (Go.Operand.const (Go.Value.bool false)), type := 4, pos := "l3_work.go:27", after := #[{ on := 7, ground := Go.Ground.data }, { on := 12, ground := Go.Ground.data }], guard := none }) (v := ?_) rfl (by kernel_rfl) (by kernel_rfl) (by kernel_rfl) (fun _ _ _ h => h) (Or.inl ⟨by rfl, ?hy13⟩) (by assumption) ?_
    case hy13 => ((intro w hSw; (try dsimp only at hSw); go_simp); try with_reducible rfl)
    try simp only [Act.put, List.setIfInBounds_toArray, List.set_cons_zero, List.set_cons_succ]
    refine wpAnyH_take (i := 14) (oi := { dst := some 19, op := Go.Op.move (Go.Operand.tmp 18), type := 4, pos := "l3_work.go:27", after := #[{ on := 13, ground := Go.Ground.data }, { on := 7, ground := Go.Ground.chain }], guard := none }) (v := ?_) rfl (by kernel_rfl) (by kernel_rfl) (by kernel_rfl) (fun _ _ _ h => h) (Or.inl ⟨by rfl, ?hy14⟩) (by assumption) ?_
    case hy14 => ((intro w hSw; (try dsimp only at hSw); go_simp); try with_reducible rfl)
    try simp only [Act.put, List.setIfInBounds_toArray, List.set_cons_zero, List.set_cons_succ]
    refine wpAnyH_take (i := 15) (oi := { dst := some 20, op := Go.Op.fieldAddr 29 (Go.Operand.tmp 3) 1, type := 0, pos := "l3_work.go:27", after := #[{ on := 14, ground := Go.Ground.guard }], guard := some (14, true) }) (v := ?_) rfl (by kernel_rfl) (by kernel_rfl) (by kernel_rfl) (fun _ _ _ h => h) (Or.inl ⟨by rfl, ?hy15⟩) (by assumption) ?_
    case hy15 => ((intro w hSw; (try dsimp only at hSw); go_simp); try with_reducible rfl)
    try simp only [Act.put, List.setIfInBounds_toArray, List.set_cons_zero, List.set_cons_succ]
    refine wpAnyH_take (i := 16) (oi := { dst := some 21, op := Go.Op.load 27 (Go.Operand.tmp 20), type := 27, pos := "l3_work.go:27", after := #[{ on := 15, ground := Go.Ground.data }, { on := 14, ground := Go.Ground.guard }], guard := some (14, true) }) (v := ?_) rfl (by kernel_rfl) (by kernel_rfl) (by kernel_rfl) (fun _ _ _ h => h) (Or.inl ⟨by rfl, ?hy16⟩) (by assumption) ?_
    case hy16 => ((intro w hSw; (try dsimp only at hSw); go_simp); try with_reducible rfl)
    try simp only [Act.put, List.setIfInBounds_toArray, List.set_cons_zero, List.set_cons_succ]
    refine wpAnyH_ready (rs := [17]) (by kernel_rfl) (by simp) ?_
    refine AllReadyH.cons (o := { dst := some 22, op := Go.Op.call { callee := Go.Callee.value (Go.Operand.func 37), args := #[Go.Operand.tmp 21], argTypes := #[27] }, type := 4, pos := "l3_work.go:27", after := #[{ on := 16, ground := Go.Ground.data }, { on := 14, ground := Go.Ground.chain }, { on := 14, ground := Go.Ground.guard }], guard := some (14, true) }) rfl (fun K hK => ?_) AllReadyH.nil
    go_simp
    refine (Wx.specWritesOk B m d lw _ (HS.out.on (bel_trans b0 hHeld.2)) HK.out.wf (by have := HM.out; omega)).mono ?_
    rintro e wb ⟨rfl, hrb⟩
    rw [HOK.out]
    replace kb := bel_trans hHeld.2 hrb
    go_wp2_with fail
    refine hK.out _ _ ⟨HC.out _ kb, kb⟩ (fun hHeld => ?_)
    clear hK K
    try simp only [Act.put, List.setIfInBounds_toArray, List.set_cons_zero, List.set_cons_succ]
    refine wpAnyH_take (i := 18) (oi := { dst := some 23, op := Go.Op.pick (Go.Operand.tmp 19) (Go.Operand.tmp 22) (Go.Operand.const (Go.Value.bool false)), type := 4, pos := "l3_work.go:27", after := #[{ on := 14, ground := Go.Ground.data }, { on := 17, ground := Go.Ground.data }], guard := none }) (v := ?_) rfl (by kernel_rfl) (by kernel_rfl) (by kernel_rfl) (fun _ _ _ h => h) (Or.inl ⟨by rfl, ?hy18⟩) (by assumption) ?_
    case hy18 => ((intro w hSw; (try dsimp only at hSw); go_simp); try with_reducible rfl)
    try simp only [Act.put, List.setIfInBounds_toArray, List.set_cons_zero, List.set_cons_succ]
    refine wpAnyH_take (i := 19) (oi := { dst := some 24, op := Go.Op.move (Go.Operand.tmp 23), type := 4, pos := "l3_work.go:27", after := #[{ on := 18, ground := Go.Ground.data }, { on := 17, ground := Go.Ground.chain }], guard := none }) (v := ?_) rfl (by kernel_rfl) (by kernel_rfl) (by kernel_rfl) (fun _ _ _ h => h) (Or.inl ⟨by rfl, ?hy19⟩) (by assumption) ?_
    case hy19 => ((intro w hSw; (try dsimp only at hSw); go_simp); try with_reducible rfl)
    try simp only [Act.put, List.setIfInBounds_toArray, List.set_cons_zero, List.set_cons_succ]
    refine wpAnyH_take (i := 20) (oi := { dst := some 25, op := Go.Op.load 39 (Go.Operand.tmp 2), type := 39, pos := "l3_work.go:27", after := #[{ on := 19, ground := Go.Ground.guard }], guard := some (19, true) }) (v := ?_) rfl (by kernel_rfl) (by kernel_rfl) (by kernel_rfl) (fun _ _ _ h => h) (Or.inl ⟨by rfl, ?hy20⟩) (by assumption) ?_
    case hy20 => ((intro w hSw; (try dsimp only at hSw); go_simp); try with_reducible rfl)
    try simp only [Act.put, List.setIfInBounds_toArray, List.set_cons_zero, List.set_cons_succ]
    refine wpAnyH_take (i := 21) (oi := { dst := some 26, op := Go.Op.fieldAddr 29 (Go.Operand.tmp 3) 0, type := 0, pos := "l3_work.go:27", after := #[{ on := 19, ground := Go.Ground.guard }], guard := some (19, true) }) (v := ?_) rfl (by kernel_rfl) (by kernel_rfl) (by kernel_rfl) (fun _ _ _ h => h) (Or.inl ⟨by rfl, ?hy21⟩) (by assumption) ?_
    case hy21 => ((intro w hSw; (try dsimp only at hSw); go_simp); try with_reducible rfl)
    try simp only [Act.put, List.setIfInBounds_toArray, List.set_cons_zero, List.set_cons_succ]
    refine wpAnyH_take (i := 22) (oi := { dst := some 27, op := Go.Op.load 3 (Go.Operand.tmp 26), type := 3, pos := "l3_work.go:27", after := #[{ on := 21, ground := Go.Ground.data }, { on := 19, ground := Go.Ground.guard }], guard := some (19, true) }) (v := ?_) rfl (by kernel_rfl) (by kernel_rfl) (by kernel_rfl) (fun _ _ _ h => h) (Or.inl ⟨by rfl, ?hy22⟩) (by assumption) ?_
    case hy22 => ((intro w hSw; (try dsimp only at hSw); go_simp); try with_reducible rfl)
    try simp only [Act.put, List.setIfInBounds_toArray, List.set_cons_zero, List.set_cons_succ]
    refine wpAnyH_take (i := 24) (oi := { dst := some 29, op := Go.Op.fieldAddr 29 (Go.Operand.tmp 3) 1, type := 0, pos := "l3_work.go:27", after := #[{ on := 19, ground := Go.Ground.guard }], guard := some (19, true) }) (v := ?_) rfl (by kernel_rfl) (by kernel_rfl) (by kernel_rfl) (fun _ _ _ h => h) (Or.inl ⟨by rfl, ?hy24⟩) (by assumption) ?_
    case hy24 => ((intro w hSw; (try dsimp only at hSw); go_simp); try with_reducible rfl)
    try simp only [Act.put, List.setIfInBounds_toArray, List.set_cons_zero, List.set_cons_succ]
    refine wpAnyH_take (i := 25) (oi := { dst := some 30, op := Go.Op.load 27 (Go.Operand.tmp 29), type := 27, pos := "l3_work.go:27", after := #[{ on := 24, ground := Go.Ground.data }, { on := 19, ground := Go.Ground.guard }], guard := some (19, true) }) (v := ?_) rfl (by kernel_rfl) (by kernel_rfl) (by kernel_rfl) (fun _ _ _ h => h) (Or.inl ⟨by rfl, ?hy25⟩) (by assumption) ?_
    case hy25 => ((intro w hSw; (try dsimp only at hSw); go_simp); try with_reducible rfl)
    try simp only [Act.put, List.setIfInBounds_toArray, List.set_cons_zero, List.set_cons_succ]
    refine wpAnyH_ready (rs := [23]) (by kernel_rfl) (by simp) ?_
    refine AllReadyH.cons (o := { dst := some 28, op := Go.Op.call { callee := Go.Callee.value (Go.Operand.func 90), args := #[Go.Operand.tmp 25, Go.Operand.tmp 27], argTypes := #[39, 3] }, type := 59, pos := "l3_work.go:27", after := #[{ on := 20, ground := Go.Ground.data }, { on := 22, ground := Go.Ground.data }, { on := 19, ground := Go.Ground.chain }, { on := 19, ground := Go.Ground.guard }], guard := some (19, true) }) rfl (fun K hK => ?_) AllReadyH.nil
    go_simp
    refine (specAt now A n c lv at_ _ (HR.out.on (bel_trans b0 hHeld.2)) (by have := HN.out; omega)).mono ?_
    rintro e wc ⟨vc, rfl, oc, hrc⟩
    obtain ⟨C1, cC, rfl, -, -⟩ := oc.form
    have hcz := hrc.size
    replace kb := bel_trans hHeld.2 hrc
    go_wp2_with fail
    refine hK.out _ _ ⟨HC.out _ kb, kb⟩ (fun hHeld => ?_)
    clear hK K
    try simp only [Act.put, List.setIfInBounds_toArray, List.set_cons_zero, List.set_cons_succ]
    refine wpAnyH_ready (rs := [26]) (by kernel_rfl) (by simp) ?_
    refine AllReadyH.cons (o := { dst := some 31, op := Go.Op.call { callee := Go.Callee.value (Go.Operand.func 156), args := #[Go.Operand.tmp 28, Go.Operand.tmp 30], argTypes := #[59, 27] }, type := 59, pos := "l3_work.go:27", after := #[{ on := 23, ground := Go.Ground.data }, { on := 25, ground := Go.Ground.data }, { on := 23, ground := Go.Ground.chain }, { on := 19, ground := Go.Ground.guard }], guard := some (19, true) }) rfl (fun K hK => ?_) AllReadyH.nil
    go_simp
    refine (l3Rows C1 (atL lv at_).length cC (atL lv at_) B m d lw _ _ oc (Nat.le_trans (Nat.le_refl _) hcz) HA.out.2 (by have := HA.out.1; omega) (HS.out.on (bel_trans b0 hHeld.2)) HK.out (by have := HM.out; omega)).mono ?_
    rintro e wd ⟨C2, cD, l2, rfl, od, hds, hdl, hrd⟩
    replace kb := bel_trans hHeld.2 hrd
    go_wp2_with fail
    refine hK.out _ _ ⟨HC.out _ kb, kb⟩ (fun hHeld => ?_)
    clear hK K
    try simp only [Act.put, List.setIfInBounds_toArray, List.set_cons_zero, List.set_cons_succ]
    refine wpAnyH_ready (rs := [27]) (by kernel_rfl) (by simp) ?_
    refine AllReadyH.cons (o := { dst := some 32, op := Go.Op.call { callee := Go.Callee.value (Go.Operand.func 142), args := #[Go.Operand.tmp 31], argTypes := #[59] }, type := 4, pos := "l3_work.go:27", after := #[{ on := 26, ground := Go.Ground.data }, { on := 26, ground := Go.Ground.chain }, { on := 19, ground := Go.Ground.guard }], guard := some (19, true) }) rfl (fun K hK => ?_) AllReadyH.nil
    go_simp
    refine (specRowsOk C2 l2.length cD l2 _ od.sl (wf_of_small hds (by omega)) (by have := HA.out.1; have := HM.out; omega)).mono ?_
    rintro e we ⟨rfl, hre⟩
    replace kb := bel_trans hHeld.2 hre
    go_wp2_with fail
    refine hK.out _ _ ⟨HC.out _ kb, kb⟩ (fun hHeld => ?_)
    clear hK K
    try simp only [Act.put, List.setIfInBounds_toArray, List.set_cons_zero, List.set_cons_succ]
    refine wpAnyH_take (i := 28) (oi := { dst := some 33, op := Go.Op.pick (Go.Operand.tmp 24) (Go.Operand.tmp 32) (Go.Operand.const (Go.Value.bool false)), type := 4, pos := "l3_work.go:27", after := #[{ on := 19, ground := Go.Ground.data }, { on := 27, ground := Go.Ground.data }], guard := none }) (v := ?_) rfl (by kernel_rfl) (by kernel_rfl) (by kernel_rfl) (fun _ _ _ h => h) (Or.inl ⟨by rfl, ?hy28⟩) (by assumption) ?_
    case hy28 => ((intro w hSw; (try dsimp only at hSw); go_simp); try with_reducible rfl)
    try simp only [Act.put, List.setIfInBounds_toArray, List.set_cons_zero, List.set_cons_succ]
    refine wpAnyH_take (i := 29) (oi := { dst := some 4, op := Go.Op.assign (Go.Operand.tmp 33), type := 4, pos := "l3_work.go:27", after := #[{ on := 28, ground := Go.Ground.data }, { on := 27, ground := Go.Ground.chain }, { on := 0, ground := Go.Ground.phase }, { on := 1, ground := Go.Ground.phase }, { on := 2, ground := Go.Ground.phase }, { on := 3, ground := Go.Ground.phase }, { on := 4, ground := Go.Ground.phase }, { on := 5, ground := Go.Ground.phase }, { on := 6, ground := Go.Ground.phase }, { on := 7, ground := Go.Ground.phase }, { on := 8, ground := Go.Ground.phase }, { on := 9, ground := Go.Ground.phase }, { on := 10, ground := Go.Ground.phase }, { on := 11, ground := Go.Ground.phase }, { on := 12, ground := Go.Ground.phase }, { on := 13, ground := Go.Ground.phase }, { on := 14, ground := Go.Ground.phase }, { on := 15, ground := Go.Ground.phase }, { on := 16, ground := Go.Ground.phase }, { on := 17, ground := Go.Ground.phase }, { on := 18, ground := Go.Ground.phase }, { on := 19, ground := Go.Ground.phase }, { on := 20, ground := Go.Ground.phase }, { on := 21, ground := Go.Ground.phase }, { on := 22, ground := Go.Ground.phase }, { on := 23, ground := Go.Ground.phase }, { on := 24, ground := Go.Ground.phase }, { on := 25, ground := Go.Ground.phase }, { on := 26, ground := Go.Ground.phase }, { on := 27, ground := Go.Ground.phase }, { on := 28, ground := Go.Ground.phase }], guard := none }) (v := ?_) rfl (by kernel_rfl) (by kernel_rfl) (by kernel_rfl) (fun _ _ _ h => h) (Or.inl ⟨by rfl, ?hy29⟩) (by assumption) ?_
    case hy29 => ((intro w hSw; (try dsimp only at hSw); go_simp); try with_reducible rfl)
    try simp only [Act.put, List.setIfInBounds_toArray, List.set_cons_zero, List.set_cons_succ]
    refine wpAnyH_done (by kernel_rfl) ?_ _
    go_wp2
    go_ret
    exact ⟨_, rfl, bel_trans b0 kb⟩
def WrkPost (w : World) (now : Int) (l : List Write) (e : Ending) (w' : World) : Prop := ∃ A c, e = .returned (.agg #[.int .i64 now, .slice A l.length c]) ∧ Own encWrite 3 73 w' w.heap.size (.slice A l.length c) l ∧ Below w.heap.size w w'
set_option maxHeartbeats 2000000 in
set_option maxRecDepth 100000 in
theorem l3Copy (now : Int) (A : Option Addr) (n c : Nat) (l : List Write) (w : World) (hr : Sl encWrite w w.heap.size A n l) (hn : n ≤ 1048576) :
    Calls Try.prog 147 #[.agg #[.int .i64 now, .slice A n c]] w (WrkPost w now l) := by
  obtain ⟨i0, hi0, hz0, hz1, hz2⟩ := info_parts info73
  have HL := Lib.hid hr.len
  have b0 := bel_alloc (bel_alloc (Below.refl _ w) (.cells #[.int .i64 now, .slice A n c] 29)) (.cells #[.int .i64 0, .slice none 0 0] 29)
  have x1 := ((BoxC.new w 29 #[.int .i64 now, .slice A n c]).alloc (.cells #[.int .i64 0, .slice none 0 0] 29)).alloc (.cells #[] 73)
  have x2 := (BoxC.new (w.alloc (.cells #[.int .i64 now, .slice A n c] 29)) 29 #[.int .i64 0, .slice none 0 0]).alloc (.cells #[] 73)
  have ho := Own.drew (Own.made0 (enc := encWrite) (sz := 3) (e := 73) ((w.alloc (.cells #[.int .i64 now, .slice A n c] 29)).alloc (.cells #[.int .i64 0, .slice none 0 0] 29)) (Nat.le_refl _))
  simp only [World.size_alloc] at x2 ho
  have b1 := (bel_alloc b0 (.cells #[] 73)).drew
  have hl2 : Sl encWrite (((w.alloc (.cells #[.int .i64 now, .slice A n c] 29)).alloc (.cells #[.int .i64 0, .slice none 0 0] 29)).alloc (.cells #[] 73)).drew w.heap.size A n l := hr.keep b1
  have HSa := Lib.hid (show ([] : List Write).length + n ≤ maxLen by unfold maxLen; simp; omega)
  have HSb := Lib.hid (show (([] : List Write).length + n) * 32 ≤ 140737488355328 by simp; omega)
  have X1 := Lib.hid x1.drew
  have X2 := Lib.hid x2.drew
  have p0 := x1.c (k := 0) rfl
  have p1 := x1.c (k := 1) rfl
  have s0 := x2.c (k := 0) rfl
  have s1 := x2.c (k := 1) rfl
  clear hr hn
  go_enter Try.func147, Try.ntmps147
  go_wp2_with fail
  go_region_law (refine step_append_sl _ (by rfl) (.tmp 5) (.tmp 7) 27 (by rfl) (w.heap.size + 1 + 1) 73 i0 _ 3 32 Try.underlying27 hi0 hz0 hz1 hz2 rfl (by decide) encWrite_len encWrite_one (.slice (some ⟨w.heap.size + 1 + 1, 0, none⟩) 0 0) [] (by rfl) ho _ A n c l (by rfl) hl2 HSa.out HSb.out (by simp) ?_; intro v6 w6 o6 g6; obtain ⟨A6, c6, rfl, -, -⟩ := o6.form; have x6 := X2.out.appended (by decide) ho g6; have f60 := x6.f 0; have f61 := x6.f 1; have s60 := x6.c (k := 0) rfl; have s61 := x6.c (k := 1) rfl; have y6 := X1.out.appended (by decide) ho g6; have q60 := y6.c (k := 0) rfl; have q61 := y6.c (k := 1) rfl)
  all_goals
    simp only [List.nil_append] at o6
    have O5 := Lib.hid (((o6.box x6 (by decide) (k := 0) (v := .int .i64 now)).box (x6.set 0 (.int .i64 now)) (by decide) (k := 1) (v := .slice A6 l.length c6)).lower (base' := w.heap.size) (by omega))
    have B5 := Lib.hid (bel_set (bel_set (bel_grown b1 g6 (fun k hk => by have := (World.ownsRow.lt ho k hk).1; omega)) (p := ⟨w.heap.size + 1, 0, none⟩) (by simp only; omega) (.int .i64 now)) (p := ⟨w.heap.size + 1, 1, none⟩) (by simp only; omega) (.slice A6 l.length c6))
    have z0 := Lib.hid ((((x6.set 0 (.int .i64 now)).set 1 (.slice A6 l.length c6))).c (k := 0) rfl)
    have z1 := Lib.hid ((((x6.set 0 (.int .i64 now)).set 1 (.slice A6 l.length c6))).c (k := 1) rfl)
    clear x6 y6 o6 g6
    go_wp2_with fail
    exact bodyPost_ret (v := .agg #[.int .i64 now, .slice A6 l.length c6]) (by simp [results, Try.results147, go_sem, z0.out, z1.out]) rfl ⟨A6, c6, rfl, O5.out, B5.out⟩

def PutWPost (w : World) (k : Nat) (e : Ending) (w' : World) : Prop :=
  ∃ (A : Option Addr) (c : Nat) (l : List Write), e = .returned (.slice A l.length c) ∧ Own encWrite 3 73 w' w.heap.size (.slice A l.length c) l ∧ SmallW l ∧ l.length ≤ k ∧ Below w.heap.size w w'
def PutRel (w : World) (n : Nat) (key : ByteArray) (num : Int) (gone : Bool) (v5 v6 v7 : Value) (wr : World) : Prop :=
  ∃ (i : Nat) (B : Option Addr) (cb : Nat) (lo : List Write) (done : Bool), i ≤ n ∧ v7 = .int .i64 (i : Int) ∧ v6 = .bool done ∧ v5 = .slice B lo.length cb ∧ Own encWrite 3 73 wr (w.heap.size + 1) (.slice B lo.length cb) lo ∧ SmallW lo ∧ (done = true → lo.length ≤ i + 1) ∧ (done = false → lo.length ≤ i) ∧ BoxC wr w.heap.size 73 #[.string key, .int .i64 num, .bool gone] ∧ Below w.heap.size w wr
set_option maxHeartbeats 8000000 in
set_option maxRecDepth 100000 in
theorem l3Put (A : Option Addr) (n c : Nat) (l : List Write) (key : ByteArray) (num : Int) (gone : Bool) (w : World) (hs : Sl encWrite w w.heap.size A n l) (hk : SmallW l) (hn : n ≤ 100) (hkey : key.size ≤ 3) :
    Calls Try.prog 148 #[.slice A n c, .agg #[.string key, .int .i64 num, .bool gone]] w (PutWPost w (n + 1)) := by
  obtain ⟨i0, hi0, hz0, hz1, hz2⟩ := info_parts info73
  have HS := Lib.hid hs
  have HK := Lib.hid hk
  have HN := Lib.hid hn
  have HKEY := Lib.hid hkey
  clear hs hk hn hkey
  have x0 := (BoxC.new w 73 #[.string key, .int .i64 num, .bool gone]).alloc (.cells #[] 73)
  have b0 := bel_alloc (bel_alloc (Below.refl _ w) (.cells #[.string key, .int .i64 num, .bool gone] 73)) (.cells #[] 73)
  have o0 := Own.made0 (enc := encWrite) (sz := 3) (e := 73) (base := w.heap.size + 1) (w.alloc (.cells #[.string key, .int .i64 num, .bool gone] 73)) (by simp)
  simp only [World.size_alloc] at o0
  go_enter Try.func148, Try.ntmps148
  go_wp2_with fail
  generalize (w.alloc (.cells #[.string key, .int .i64 num, .bool gone] 73)).alloc (.cells #[] 73) = w0 at *
  go_loopw [5, 6, 7] (PutRel w n key num gone) (fun _ _ v7 _ => n - (intOf v7).toNat)
  case atStart => exact ⟨0, _, _, [], false, by omega, rfl, rfl, rfl, o0, SmallW.nil, by simp, by simp, x0, b0⟩
  case round =>
    clear x0 b0 o0
    obtain ⟨i, B, cb, lo, done, hin, rfl, rfl, rfl, o, hSm, hd1, hd2, x, hb⟩ := hrel
    have hnB : (n : Int) ≤ 100 := by have := HN.out; omega
    have q0 := x.c (k := 0) rfl
    have q1 := x.c (k := 1) rfl
    have q2 := x.c (k := 2) rfl
    by_cases hlt : i < n
    · have hlt' : (i : Int) < (n : Int) := by omega
      have j0 : (0 : Int) ≤ (i : Int) := by omega
      obtain ⟨d, off, rfl, hbb⟩ := HS.out.spot (by omega)
      obtain ⟨f0, f1, f2, hx, e0, e1, e2⟩ := atWrite (HS.out.keep hb) hlt
      have HXX := Lib.hid hx
      have hf3 : f0.size ≤ 3 := HK.out.mem hx
      clear hx
      cases done
      · have hlo1 := hd2 rfl
        clear hd1 hd2
        obtain ⟨lt, hltb⟩ : ∃ lt, Op.bytesLess f0.toList key.toList = lt := ⟨_, rfl⟩
        cases lt
        · go_wp2_with fail
          refine wp_region_held_drew (S := (fun W' => W'.cell? ⟨d, off + i * 3, none⟩ = some (.string f0) ∧ W'.cell? ⟨d, off + i * 3 + 1, none⟩ = some (.int .i64 f1) ∧ W'.cell? ⟨d, off + i * 3 + 2, none⟩ = some (.bool f2) ∧ W'.cell? ⟨w.heap.size, 0, none⟩ = some (.string key))) (by kernel_rfl) ⟨e0, e1, e2, q0⟩ (fun hHeld => ?_)
          replace o := o.drew
          replace x := x.drew
          replace hb := hb.drew
          replace e0 := keepC (Below.refl _ _).drew e0
          replace e1 := keepC (Below.refl _ _).drew e1
          replace e2 := keepC (Below.refl _ _).drew e2
          replace q0 := x.c (k := 0) rfl
          replace q1 := x.c (k := 1) rfl
          replace q2 := x.c (k := 2) rfl
          generalize wr.drew = wd at *
          refine wpAnyH_take (i := 0) (oi := { dst := some 15, op := Go.Op.move (Go.Operand.tmp 6), type := 4, pos := "l3_work.go:48", after := #[], guard := none }) (v := ?_) rfl (by kernel_rfl) (by kernel_rfl) (by kernel_rfl) (fun _ _ _ h => h) (Or.inl ⟨by rfl, ?hy1_0⟩) (by assumption) ?_
          case hy1_0 => ((intro w hSw; (try dsimp only at hSw); go_simp); try with_reducible rfl)
          try simp only [Act.put, List.setIfInBounds_toArray, List.set_cons_zero, List.set_cons_succ]
          refine wpAnyH_take (i := 1) (oi := { dst := some 16, op := Go.Op.unOp Go.UnOp.not 4 (Go.Operand.tmp 15), type := 4, pos := "l3_work.go:48", after := #[{ on := 0, ground := Go.Ground.data }], guard := none }) (v := ?_) rfl (by kernel_rfl) (by kernel_rfl) (by kernel_rfl) (fun _ _ _ h => h) (Or.inl ⟨by rfl, ?hy1_1⟩) (by assumption) ?_
          case hy1_1 => ((intro w hSw; (try dsimp only at hSw); go_simp); try with_reducible rfl)
          try simp only [Act.put, List.setIfInBounds_toArray, List.set_cons_zero, List.set_cons_succ]
          refine wpAnyH_take (i := 2) (oi := { dst := some 17, op := Go.Op.move (Go.Operand.tmp 16), type := 4, pos := "l3_work.go:48", after := #[{ on := 1, ground := Go.Ground.data }], guard := none }) (v := ?_) rfl (by kernel_rfl) (by kernel_rfl) (by kernel_rfl) (fun _ _ _ h => h) (Or.inl ⟨by rfl, ?hy1_2⟩) (by assumption) ?_
          case hy1_2 => ((intro w hSw; (try dsimp only at hSw); go_simp); try with_reducible rfl)
          try simp only [Act.put, List.setIfInBounds_toArray, List.set_cons_zero, List.set_cons_succ]
          refine wpAnyH_take (i := 3) (oi := { dst := some 18, op := Go.Op.move (Go.Operand.tmp 0), type := 27, pos := "l3_work.go:48", after := #[{ on := 2, ground := Go.Ground.guard }], guard := some (2, true) }) (v := ?_) rfl (by kernel_rfl) (by kernel_rfl) (by kernel_rfl) (fun _ _ _ h => h) (Or.inl ⟨by rfl, ?hy1_3⟩) (by assumption) ?_
          case hy1_3 => ((intro w hSw; (try dsimp only at hSw); go_simp); try with_reducible rfl)
          try simp only [Act.put, List.setIfInBounds_toArray, List.set_cons_zero, List.set_cons_succ]
          refine wpAnyH_take (i := 4) (oi := { dst := some 19, op := Go.Op.move (Go.Operand.tmp 7), type := 3, pos := "l3_work.go:48", after := #[{ on := 2, ground := Go.Ground.guard }], guard := some (2, true) }) (v := ?_) rfl (by kernel_rfl) (by kernel_rfl) (by kernel_rfl) (fun _ _ _ h => h) (Or.inl ⟨by rfl, ?hy1_4⟩) (by assumption) ?_
          case hy1_4 => ((intro w hSw; (try dsimp only at hSw); go_simp); try with_reducible rfl)
          try simp only [Act.put, List.setIfInBounds_toArray, List.set_cons_zero, List.set_cons_succ]
          refine wpAnyH_take (i := 5) (oi := { dst := some 20, op := Go.Op.indexAddr 27 (Go.Operand.tmp 18) (Go.Operand.tmp 19), type := 0, pos := "l3_work.go:48", after := #[{ on := 3, ground := Go.Ground.data }, { on := 4, ground := Go.Ground.data }, { on := 2, ground := Go.Ground.guard }], guard := some (2, true) }) (v := ?_) rfl (by kernel_rfl) (by kernel_rfl) (by kernel_rfl) (fun _ _ _ h => h) (Or.inl ⟨by rfl, ?hy1_5⟩) (by assumption) ?_
          case hy1_5 => ((intro w hSw; (try dsimp only at hSw); go_simp); try with_reducible rfl)
          try simp only [Act.put, List.setIfInBounds_toArray, List.set_cons_zero, List.set_cons_succ]
          refine wpAnyH_take (i := 6) (oi := { dst := some 21, op := Go.Op.fieldAddr 73 (Go.Operand.tmp 20) 0, type := 0, pos := "l3_work.go:48", after := #[{ on := 5, ground := Go.Ground.data }, { on := 2, ground := Go.Ground.guard }], guard := some (2, true) }) (v := ?_) rfl (by kernel_rfl) (by kernel_rfl) (by kernel_rfl) (fun _ _ _ h => h) (Or.inl ⟨by rfl, ?hy1_6⟩) (by assumption) ?_
          case hy1_6 => ((intro w hSw; (try dsimp only at hSw); go_simp); try with_reducible rfl)
          try simp only [Act.put, List.setIfInBounds_toArray, List.set_cons_zero, List.set_cons_succ]
          refine wpAnyH_take (i := 7) (oi := { dst := some 22, op := Go.Op.load 9 (Go.Operand.tmp 21), type := 9, pos := "l3_work.go:48", after := #[{ on := 6, ground := Go.Ground.data }, { on := 2, ground := Go.Ground.guard }], guard := some (2, true) }) (v := ?_) rfl (by kernel_rfl) (by kernel_rfl) (by kernel_rfl) (fun _ _ _ h => h) (Or.inl ⟨by rfl, ?hy1_7⟩) (by assumption) ?_
          case hy1_7 => ((intro w hSw; (try dsimp only at hSw); go_simp); try with_reducible rfl)
          try simp only [Act.put, List.setIfInBounds_toArray, List.set_cons_zero, List.set_cons_succ]
          refine wpAnyH_take (i := 8) (oi := { dst := some 23, op := Go.Op.fieldAddr 73 (Go.Operand.tmp 3) 0, type := 0, pos := "l3_work.go:48", after := #[{ on := 2, ground := Go.Ground.guard }], guard := some (2, true) }) (v := ?_) rfl (by kernel_rfl) (by kernel_rfl) (by kernel_rfl) (fun _ _ _ h => h) (Or.inl ⟨by rfl, ?hy1_8⟩) (by assumption) ?_
          case hy1_8 => ((intro w hSw; (try dsimp only at hSw); go_simp); try with_reducible rfl)
          try simp only [Act.put, List.setIfInBounds_toArray, List.set_cons_zero, List.set_cons_succ]
          refine wpAnyH_take (i := 9) (oi := { dst := some 24, op := Go.Op.load 9 (Go.Operand.tmp 23), type := 9, pos := "l3_work.go:48", after := #[{ on := 8, ground := Go.Ground.data }, { on := 2, ground := Go.Ground.guard }], guard := some (2, true) }) (v := ?_) rfl (by kernel_rfl) (by kernel_rfl) (by kernel_rfl) (fun _ _ _ h => h) (Or.inl ⟨by rfl, ?hy1_9⟩) (by assumption) ?_
          case hy1_9 => ((intro w hSw; (try dsimp only at hSw); go_simp); try with_reducible rfl)
          try simp only [Act.put, List.setIfInBounds_toArray, List.set_cons_zero, List.set_cons_succ]
          refine wpAnyH_take (i := 10) (oi := { dst := some 25, op := Go.Op.binOp Go.BinOp.geq 9 (Go.Operand.tmp 22) (Go.Operand.tmp 24) 9, type := 4, pos := "l3_work.go:48", after := #[{ on := 7, ground := Go.Ground.data }, { on := 9, ground := Go.Ground.data }, { on := 2, ground := Go.Ground.guard }], guard := some (2, true) }) (v := ?_) rfl (by kernel_rfl) (by kernel_rfl) (by kernel_rfl) (fun _ _ _ h => h) (Or.inl ⟨by rfl, ?hy1_10⟩) (by assumption) ?_
          case hy1_10 => ((intro w hSw; (try dsimp only at hSw); go_simp); try with_reducible rfl)
          try simp only [Act.put, List.setIfInBounds_toArray, List.set_cons_zero, List.set_cons_succ]
          refine wpAnyH_take (i := 11) (oi := { dst := some 26, op := Go.Op.pick (Go.Operand.tmp 17) (Go.Operand.tmp 25) (Go.Operand.const (Go.Value.bool false)), type := 4, pos := "l3_work.go:48", after := #[{ on := 2, ground := Go.Ground.data }, { on := 10, ground := Go.Ground.data }], guard := none }) (v := ?_) rfl (by kernel_rfl) (by kernel_rfl) (by kernel_rfl) (fun _ _ _ h => h) (Or.inl ⟨by rfl, ?hy1_11⟩) (by assumption) ?_
          case hy1_11 => ((intro w hSw; (try dsimp only at hSw); go_simp); try with_reducible rfl)
          try simp only [Act.put, List.setIfInBounds_toArray, List.set_cons_zero, List.set_cons_succ]
          refine wpAnyH_done (by kernel_rfl) ?_ _
          have hlo := o.len
          have ls := Sl.lit1 (enc := encWrite) wd #[.string key, .int .i64 num, .bool gone] 73 (key, num, gone) rfl
          have oa := o.alloc (.cells #[.string key, .int .i64 num, .bool gone] 73)
          have xa := x.alloc (.cells #[.string key, .int .i64 num, .bool gone] 73)
          have ba := bel_alloc hb (.cells #[.string key, .int .i64 num, .bool gone] 73)
          have hzz := hb.size
          have hzx := x.lt
          clear o x hb
          go_wp2_with (at_builtin; refine wpList_append_sl _ rfl _ _ 27 rfl (w.heap.size + 1) 73 i0 _ 3 32 Try.underlying27 hi0 hz0 hz1 hz2 rfl (by decide) encWrite_len encWrite_one _ lo rfl oa _ (some ⟨wd.heap.size, 0, none⟩) 1 1 [(key, num, gone)] rfl ls (by have := HN.out; unfold maxLen; omega) (by have := HN.out; omega) (by rw [World.size_alloc]; omega) ?_; intro v10 w10 o10 g10)
          obtain ⟨A10, c10, rfl, -, -⟩ := o10.form
          have x := xa.grown g10 (fun h => by have := (World.ownsRow.lt oa _ h.symm).1; omega)
          have hb := bel_grown ba g10 (fun k hk => by have := (World.ownsRow.lt oa k hk).1; omega)
          have hSm := hSm.app (SmallW.one (x := (key, num, gone)) HKEY.out)
          have hlen : (lo ++ [(key, num, gone)]).length = lo.length + 1 := by simp
          have q0 := x.c (k := 0) rfl
          have q1 := x.c (k := 1) rfl
          have q2 := x.c (k := 2) rfl
          have o := o10
          have b3 := hb
          clear oa xa ba o10 g10 ls hzz hzx hlo
          obtain ⟨lo2, hlo2⟩ : ∃ lo2, lo ++ [(key, num, gone)] = lo2 := ⟨_, rfl⟩
          rw [hlo2] at o hSm hlen ⊢
          clear hlo2 b3
          obtain ⟨f0', f1', f2', hx', e0, e1, e2⟩ := atWrite (HS.out.keep hb) hlt
          rw [HXX.out] at hx'
          cases hx'
          cases heq : (f0.toList == key.toList)
          · go_wp2_with fail
            refine wp_region_held_drew (S := (fun W' => W'.cell? ⟨d, off + i * 3, none⟩ = some (.string f0) ∧ W'.cell? ⟨d, off + i * 3 + 1, none⟩ = some (.int .i64 f1) ∧ W'.cell? ⟨d, off + i * 3 + 2, none⟩ = some (.bool f2) ∧ W'.cell? ⟨w.heap.size, 0, none⟩ = some (.string key))) (by kernel_rfl) ⟨e0, e1, e2, q0⟩ (fun hHeld => ?_)
            replace o := o.drew
            replace x := x.drew
            replace hb := hb.drew
            replace e0 := keepC (Below.refl _ _).drew e0
            replace e1 := keepC (Below.refl _ _).drew e1
            replace e2 := keepC (Below.refl _ _).drew e2
            replace q0 := x.c (k := 0) rfl
            replace q1 := x.c (k := 1) rfl
            replace q2 := x.c (k := 2) rfl
            generalize w10.drew = we at *
            refine wpAnyH_take (i := 0) (oi := { dst := some 31, op := Go.Op.move (Go.Operand.tmp 0), type := 27, pos := "l3_work.go:52", after := #[], guard := none }) (v := ?_) rfl (by kernel_rfl) (by kernel_rfl) (by kernel_rfl) (fun _ _ _ h => h) (Or.inl ⟨by rfl, ?hy4_0⟩) (by assumption) ?_
            case hy4_0 => ((intro w hSw; (try dsimp only at hSw); go_simp); try with_reducible rfl)
            try simp only [Act.put, List.setIfInBounds_toArray, List.set_cons_zero, List.set_cons_succ]
            refine wpAnyH_take (i := 1) (oi := { dst := some 32, op := Go.Op.move (Go.Operand.tmp 7), type := 3, pos := "l3_work.go:52", after := #[], guard := none }) (v := ?_) rfl (by kernel_rfl) (by kernel_rfl) (by kernel_rfl) (fun _ _ _ h => h) (Or.inl ⟨by rfl, ?hy4_1⟩) (by assumption) ?_
            case hy4_1 => ((intro w hSw; (try dsimp only at hSw); go_simp); try with_reducible rfl)
            try simp only [Act.put, List.setIfInBounds_toArray, List.set_cons_zero, List.set_cons_succ]
            refine wpAnyH_take (i := 2) (oi := { dst := some 33, op := Go.Op.indexAddr 27 (Go.Operand.tmp 31) (Go.Operand.tmp 32), type := 0, pos := "l3_work.go:52", after := #[{ on := 0, ground := Go.Ground.data }, { on := 1, ground := Go.Ground.data }], guard := none }) (v := ?_) rfl (by kernel_rfl) (by kernel_rfl) (by kernel_rfl) (fun _ _ _ h => h) (Or.inl ⟨by rfl, ?hy4_2⟩) (by assumption) ?_
            case hy4_2 => ((intro w hSw; (try dsimp only at hSw); go_simp); try with_reducible rfl)
            try simp only [Act.put, List.setIfInBounds_toArray, List.set_cons_zero, List.set_cons_succ]
            refine wpAnyH_take (i := 3) (oi := { dst := some 34, op := Go.Op.fieldAddr 73 (Go.Operand.tmp 33) 0, type := 0, pos := "l3_work.go:52", after := #[{ on := 2, ground := Go.Ground.data }], guard := none }) (v := ?_) rfl (by kernel_rfl) (by kernel_rfl) (by kernel_rfl) (fun _ _ _ h => h) (Or.inl ⟨by rfl, ?hy4_3⟩) (by assumption) ?_
            case hy4_3 => ((intro w hSw; (try dsimp only at hSw); go_simp); try with_reducible rfl)
            try simp only [Act.put, List.setIfInBounds_toArray, List.set_cons_zero, List.set_cons_succ]
            refine wpAnyH_take (i := 4) (oi := { dst := some 35, op := Go.Op.load 9 (Go.Operand.tmp 34), type := 9, pos := "l3_work.go:52", after := #[{ on := 3, ground := Go.Ground.data }], guard := none }) (v := ?_) rfl (by kernel_rfl) (by kernel_rfl) (by kernel_rfl) (fun _ _ _ h => h) (Or.inl ⟨by rfl, ?hy4_4⟩) (by assumption) ?_
            case hy4_4 => ((intro w hSw; (try dsimp only at hSw); go_simp); try with_reducible rfl)
            try simp only [Act.put, List.setIfInBounds_toArray, List.set_cons_zero, List.set_cons_succ]
            refine wpAnyH_take (i := 5) (oi := { dst := some 36, op := Go.Op.fieldAddr 73 (Go.Operand.tmp 3) 0, type := 0, pos := "l3_work.go:52", after := #[], guard := none }) (v := ?_) rfl (by kernel_rfl) (by kernel_rfl) (by kernel_rfl) (fun _ _ _ h => h) (Or.inl ⟨by rfl, ?hy4_5⟩) (by assumption) ?_
            case hy4_5 => ((intro w hSw; (try dsimp only at hSw); go_simp); try with_reducible rfl)
            try simp only [Act.put, List.setIfInBounds_toArray, List.set_cons_zero, List.set_cons_succ]
            refine wpAnyH_take (i := 6) (oi := { dst := some 37, op := Go.Op.load 9 (Go.Operand.tmp 36), type := 9, pos := "l3_work.go:52", after := #[{ on := 5, ground := Go.Ground.data }], guard := none }) (v := ?_) rfl (by kernel_rfl) (by kernel_rfl) (by kernel_rfl) (fun _ _ _ h => h) (Or.inl ⟨by rfl, ?hy4_6⟩) (by assumption) ?_
            case hy4_6 => ((intro w hSw; (try dsimp only at hSw); go_simp); try with_reducible rfl)
            try simp only [Act.put, List.setIfInBounds_toArray, List.set_cons_zero, List.set_cons_succ]
            refine wpAnyH_take (i := 7) (oi := { dst := some 38, op := Go.Op.binOp Go.BinOp.neq 9 (Go.Operand.tmp 35) (Go.Operand.tmp 37) 9, type := 4, pos := "l3_work.go:52", after := #[{ on := 4, ground := Go.Ground.data }, { on := 6, ground := Go.Ground.data }], guard := none }) (v := ?_) rfl (by kernel_rfl) (by kernel_rfl) (by kernel_rfl) (fun _ _ _ h => h) (Or.inl ⟨by rfl, ?hy4_7⟩) (by assumption) ?_
            case hy4_7 => ((intro w hSw; (try dsimp only at hSw); go_simp); try with_reducible rfl)
            try simp only [Act.put, List.setIfInBounds_toArray, List.set_cons_zero, List.set_cons_succ]
            refine wpAnyH_done (by kernel_rfl) ?_ _
            have hlo := o.len
            have ls := Sl.lit1 (enc := encWrite) we #[.string f0, .int .i64 f1, .bool f2] 73 (f0, f1, f2) rfl
            have oa := o.alloc (.cells #[.string f0, .int .i64 f1, .bool f2] 73)
            have xa := x.alloc (.cells #[.string f0, .int .i64 f1, .bool f2] 73)
            have ba := bel_alloc hb (.cells #[.string f0, .int .i64 f1, .bool f2] 73)
            have hzz := hb.size
            have hzx := x.lt
            clear o x hb
            go_wp2_with (at_builtin; refine wpList_append_sl _ rfl _ _ 27 rfl (w.heap.size + 1) 73 i0 _ 3 32 Try.underlying27 hi0 hz0 hz1 hz2 rfl (by decide) encWrite_len encWrite_one _ lo2 rfl oa _ (some ⟨we.heap.size, 0, none⟩) 1 1 [(f0, f1, f2)] rfl ls (by have := HN.out; unfold maxLen; omega) (by have := HN.out; omega) (by rw [World.size_alloc]; omega) ?_; intro v10 w10 o10 g10)
            obtain ⟨A10, c10, rfl, -, -⟩ := o10.form
            have x := xa.grown g10 (fun h => by have := (World.ownsRow.lt oa _ h.symm).1; omega)
            have hb := bel_grown ba g10 (fun k hk => by have := (World.ownsRow.lt oa k hk).1; omega)
            have hSm := hSm.app (SmallW.one (x := (f0, f1, f2)) hf3)
            have hlen2 : (lo2 ++ [(f0, f1, f2)]).length = lo2.length + 1 := by simp
            have q0 := x.c (k := 0) rfl
            have q1 := x.c (k := 1) rfl
            have q2 := x.c (k := 2) rfl
            have o := o10
            have b3 := hb
            clear oa xa ba o10 g10 ls hzz hzx hlo
            go_roundw
            case rel => exact ⟨i + 1, _, _, _, true, by omega, by go_num, rfl, by first | rfl | simp, o, hSm, fun h => by first | (cases h; done) | omega, fun h => by first | (cases h; done) | omega, x, b3⟩
            case measure => simp [intOf]; omega
          · go_wp2_with fail
            refine wp_region_held_drew (S := (fun W' => W'.cell? ⟨d, off + i * 3, none⟩ = some (.string f0) ∧ W'.cell? ⟨d, off + i * 3 + 1, none⟩ = some (.int .i64 f1) ∧ W'.cell? ⟨d, off + i * 3 + 2, none⟩ = some (.bool f2) ∧ W'.cell? ⟨w.heap.size, 0, none⟩ = some (.string key))) (by kernel_rfl) ⟨e0, e1, e2, q0⟩ (fun hHeld => ?_)
            replace o := o.drew
            replace x := x.drew
            replace hb := hb.drew
            replace e0 := keepC (Below.refl _ _).drew e0
            replace e1 := keepC (Below.refl _ _).drew e1
            replace e2 := keepC (Below.refl _ _).drew e2
            replace q0 := x.c (k := 0) rfl
            replace q1 := x.c (k := 1) rfl
            replace q2 := x.c (k := 2) rfl
            generalize w10.drew = we at *
            refine wpAnyH_take (i := 0) (oi := { dst := some 31, op := Go.Op.move (Go.Operand.tmp 0), type := 27, pos := "l3_work.go:52", after := #[], guard := none }) (v := ?_) rfl (by kernel_rfl) (by kernel_rfl) (by kernel_rfl) (fun _ _ _ h => h) (Or.inl ⟨by rfl, ?hy5_0⟩) (by assumption) ?_
            case hy5_0 => ((intro w hSw; (try dsimp only at hSw); go_simp); try with_reducible rfl)
            try simp only [Act.put, List.setIfInBounds_toArray, List.set_cons_zero, List.set_cons_succ]
            refine wpAnyH_take (i := 1) (oi := { dst := some 32, op := Go.Op.move (Go.Operand.tmp 7), type := 3, pos := "l3_work.go:52", after := #[], guard := none }) (v := ?_) rfl (by kernel_rfl) (by kernel_rfl) (by kernel_rfl) (fun _ _ _ h => h) (Or.inl ⟨by rfl, ?hy5_1⟩) (by assumption) ?_
            case hy5_1 => ((intro w hSw; (try dsimp only at hSw); go_simp); try with_reducible rfl)
            try simp only [Act.put, List.setIfInBounds_toArray, List.set_cons_zero, List.set_cons_succ]
            refine wpAnyH_take (i := 2) (oi := { dst := some 33, op := Go.Op.indexAddr 27 (Go.Operand.tmp 31) (Go.Operand.tmp 32), type := 0, pos := "l3_work.go:52", after := #[{ on := 0, ground := Go.Ground.data }, { on := 1, ground := Go.Ground.data }], guard := none }) (v := ?_) rfl (by kernel_rfl) (by kernel_rfl) (by kernel_rfl) (fun _ _ _ h => h) (Or.inl ⟨by rfl, ?hy5_2⟩) (by assumption) ?_
            case hy5_2 => ((intro w hSw; (try dsimp only at hSw); go_simp); try with_reducible rfl)
            try simp only [Act.put, List.setIfInBounds_toArray, List.set_cons_zero, List.set_cons_succ]
            refine wpAnyH_take (i := 3) (oi := { dst := some 34, op := Go.Op.fieldAddr 73 (Go.Operand.tmp 33) 0, type := 0, pos := "l3_work.go:52", after := #[{ on := 2, ground := Go.Ground.data }], guard := none }) (v := ?_) rfl (by kernel_rfl) (by kernel_rfl) (by kernel_rfl) (fun _ _ _ h => h) (Or.inl ⟨by rfl, ?hy5_3⟩) (by assumption) ?_
            case hy5_3 => ((intro w hSw; (try dsimp only at hSw); go_simp); try with_reducible rfl)
            try simp only [Act.put, List.setIfInBounds_toArray, List.set_cons_zero, List.set_cons_succ]
            refine wpAnyH_take (i := 4) (oi := { dst := some 35, op := Go.Op.load 9 (Go.Operand.tmp 34), type := 9, pos := "l3_work.go:52", after := #[{ on := 3, ground := Go.Ground.data }], guard := none }) (v := ?_) rfl (by kernel_rfl) (by kernel_rfl) (by kernel_rfl) (fun _ _ _ h => h) (Or.inl ⟨by rfl, ?hy5_4⟩) (by assumption) ?_
            case hy5_4 => ((intro w hSw; (try dsimp only at hSw); go_simp); try with_reducible rfl)
            try simp only [Act.put, List.setIfInBounds_toArray, List.set_cons_zero, List.set_cons_succ]
            refine wpAnyH_take (i := 5) (oi := { dst := some 36, op := Go.Op.fieldAddr 73 (Go.Operand.tmp 3) 0, type := 0, pos := "l3_work.go:52", after := #[], guard := none }) (v := ?_) rfl (by kernel_rfl) (by kernel_rfl) (by kernel_rfl) (fun _ _ _ h => h) (Or.inl ⟨by rfl, ?hy5_5⟩) (by assumption) ?_
            case hy5_5 => ((intro w hSw; (try dsimp only at hSw); go_simp); try with_reducible rfl)
            try simp only [Act.put, List.setIfInBounds_toArray, List.set_cons_zero, List.set_cons_succ]
            refine wpAnyH_take (i := 6) (oi := { dst := some 37, op := Go.Op.load 9 (Go.Operand.tmp 36), type := 9, pos := "l3_work.go:52", after := #[{ on := 5, ground := Go.Ground.data }], guard := none }) (v := ?_) rfl (by kernel_rfl) (by kernel_rfl) (by kernel_rfl) (fun _ _ _ h => h) (Or.inl ⟨by rfl, ?hy5_6⟩) (by assumption) ?_
            case hy5_6 => ((intro w hSw; (try dsimp only at hSw); go_simp); try with_reducible rfl)
            try simp only [Act.put, List.setIfInBounds_toArray, List.set_cons_zero, List.set_cons_succ]
            refine wpAnyH_take (i := 7) (oi := { dst := some 38, op := Go.Op.binOp Go.BinOp.neq 9 (Go.Operand.tmp 35) (Go.Operand.tmp 37) 9, type := 4, pos := "l3_work.go:52", after := #[{ on := 4, ground := Go.Ground.data }, { on := 6, ground := Go.Ground.data }], guard := none }) (v := ?_) rfl (by kernel_rfl) (by kernel_rfl) (by kernel_rfl) (fun _ _ _ h => h) (Or.inl ⟨by rfl, ?hy5_7⟩) (by assumption) ?_
            case hy5_7 => ((intro w hSw; (try dsimp only at hSw); go_simp); try with_reducible rfl)
            try simp only [Act.put, List.setIfInBounds_toArray, List.set_cons_zero, List.set_cons_succ]
            refine wpAnyH_done (by kernel_rfl) ?_ _
            go_wp2_with fail
            go_roundw
            case rel => exact ⟨i + 1, _, _, _, true, by omega, by go_num, rfl, by first | rfl | simp, o, hSm, fun h => by first | (cases h; done) | omega, fun h => by first | (cases h; done) | omega, x, hb⟩
            case measure => simp [intOf]; omega
        · go_wp2_with fail
          refine wp_region_held_drew (S := (fun W' => W'.cell? ⟨d, off + i * 3, none⟩ = some (.string f0) ∧ W'.cell? ⟨d, off + i * 3 + 1, none⟩ = some (.int .i64 f1) ∧ W'.cell? ⟨d, off + i * 3 + 2, none⟩ = some (.bool f2) ∧ W'.cell? ⟨w.heap.size, 0, none⟩ = some (.string key))) (by kernel_rfl) ⟨e0, e1, e2, q0⟩ (fun hHeld => ?_)
          replace o := o.drew
          replace x := x.drew
          replace hb := hb.drew
          replace e0 := keepC (Below.refl _ _).drew e0
          replace e1 := keepC (Below.refl _ _).drew e1
          replace e2 := keepC (Below.refl _ _).drew e2
          replace q0 := x.c (k := 0) rfl
          replace q1 := x.c (k := 1) rfl
          replace q2 := x.c (k := 2) rfl
          generalize wr.drew = wd at *
          refine wpAnyH_take (i := 0) (oi := { dst := some 15, op := Go.Op.move (Go.Operand.tmp 6), type := 4, pos := "l3_work.go:48", after := #[], guard := none }) (v := ?_) rfl (by kernel_rfl) (by kernel_rfl) (by kernel_rfl) (fun _ _ _ h => h) (Or.inl ⟨by rfl, ?hy2_0⟩) (by assumption) ?_
          case hy2_0 => ((intro w hSw; (try dsimp only at hSw); go_simp); try with_reducible rfl)
          try simp only [Act.put, List.setIfInBounds_toArray, List.set_cons_zero, List.set_cons_succ]
          refine wpAnyH_take (i := 1) (oi := { dst := some 16, op := Go.Op.unOp Go.UnOp.not 4 (Go.Operand.tmp 15), type := 4, pos := "l3_work.go:48", after := #[{ on := 0, ground := Go.Ground.data }], guard := none }) (v := ?_) rfl (by kernel_rfl) (by kernel_rfl) (by kernel_rfl) (fun _ _ _ h => h) (Or.inl ⟨by rfl, ?hy2_1⟩) (by assumption) ?_
          case hy2_1 => ((intro w hSw; (try dsimp only at hSw); go_simp); try with_reducible rfl)
          try simp only [Act.put, List.setIfInBounds_toArray, List.set_cons_zero, List.set_cons_succ]
          refine wpAnyH_take (i := 2) (oi := { dst := some 17, op := Go.Op.move (Go.Operand.tmp 16), type := 4, pos := "l3_work.go:48", after := #[{ on := 1, ground := Go.Ground.data }], guard := none }) (v := ?_) rfl (by kernel_rfl) (by kernel_rfl) (by kernel_rfl) (fun _ _ _ h => h) (Or.inl ⟨by rfl, ?hy2_2⟩) (by assumption) ?_
          case hy2_2 => ((intro w hSw; (try dsimp only at hSw); go_simp); try with_reducible rfl)
          try simp only [Act.put, List.setIfInBounds_toArray, List.set_cons_zero, List.set_cons_succ]
          refine wpAnyH_take (i := 3) (oi := { dst := some 18, op := Go.Op.move (Go.Operand.tmp 0), type := 27, pos := "l3_work.go:48", after := #[{ on := 2, ground := Go.Ground.guard }], guard := some (2, true) }) (v := ?_) rfl (by kernel_rfl) (by kernel_rfl) (by kernel_rfl) (fun _ _ _ h => h) (Or.inl ⟨by rfl, ?hy2_3⟩) (by assumption) ?_
          case hy2_3 => ((intro w hSw; (try dsimp only at hSw); go_simp); try with_reducible rfl)
          try simp only [Act.put, List.setIfInBounds_toArray, List.set_cons_zero, List.set_cons_succ]
          refine wpAnyH_take (i := 4) (oi := { dst := some 19, op := Go.Op.move (Go.Operand.tmp 7), type := 3, pos := "l3_work.go:48", after := #[{ on := 2, ground := Go.Ground.guard }], guard := some (2, true) }) (v := ?_) rfl (by kernel_rfl) (by kernel_rfl) (by kernel_rfl) (fun _ _ _ h => h) (Or.inl ⟨by rfl, ?hy2_4⟩) (by assumption) ?_
          case hy2_4 => ((intro w hSw; (try dsimp only at hSw); go_simp); try with_reducible rfl)
          try simp only [Act.put, List.setIfInBounds_toArray, List.set_cons_zero, List.set_cons_succ]
          refine wpAnyH_take (i := 5) (oi := { dst := some 20, op := Go.Op.indexAddr 27 (Go.Operand.tmp 18) (Go.Operand.tmp 19), type := 0, pos := "l3_work.go:48", after := #[{ on := 3, ground := Go.Ground.data }, { on := 4, ground := Go.Ground.data }, { on := 2, ground := Go.Ground.guard }], guard := some (2, true) }) (v := ?_) rfl (by kernel_rfl) (by kernel_rfl) (by kernel_rfl) (fun _ _ _ h => h) (Or.inl ⟨by rfl, ?hy2_5⟩) (by assumption) ?_
          case hy2_5 => ((intro w hSw; (try dsimp only at hSw); go_simp); try with_reducible rfl)
          try simp only [Act.put, List.setIfInBounds_toArray, List.set_cons_zero, List.set_cons_succ]
          refine wpAnyH_take (i := 6) (oi := { dst := some 21, op := Go.Op.fieldAddr 73 (Go.Operand.tmp 20) 0, type := 0, pos := "l3_work.go:48", after := #[{ on := 5, ground := Go.Ground.data }, { on := 2, ground := Go.Ground.guard }], guard := some (2, true) }) (v := ?_) rfl (by kernel_rfl) (by kernel_rfl) (by kernel_rfl) (fun _ _ _ h => h) (Or.inl ⟨by rfl, ?hy2_6⟩) (by assumption) ?_
          case hy2_6 => ((intro w hSw; (try dsimp only at hSw); go_simp); try with_reducible rfl)
          try simp only [Act.put, List.setIfInBounds_toArray, List.set_cons_zero, List.set_cons_succ]
          refine wpAnyH_take (i := 7) (oi := { dst := some 22, op := Go.Op.load 9 (Go.Operand.tmp 21), type := 9, pos := "l3_work.go:48", after := #[{ on := 6, ground := Go.Ground.data }, { on := 2, ground := Go.Ground.guard }], guard := some (2, true) }) (v := ?_) rfl (by kernel_rfl) (by kernel_rfl) (by kernel_rfl) (fun _ _ _ h => h) (Or.inl ⟨by rfl, ?hy2_7⟩) (by assumption) ?_
          case hy2_7 => ((intro w hSw; (try dsimp only at hSw); go_simp); try with_reducible rfl)
          try simp only [Act.put, List.setIfInBounds_toArray, List.set_cons_zero, List.set_cons_succ]
          refine wpAnyH_take (i := 8) (oi := { dst := some 23, op := Go.Op.fieldAddr 73 (Go.Operand.tmp 3) 0, type := 0, pos := "l3_work.go:48", after := #[{ on := 2, ground := Go.Ground.guard }], guard := some (2, true) }) (v := ?_) rfl (by kernel_rfl) (by kernel_rfl) (by kernel_rfl) (fun _ _ _ h => h) (Or.inl ⟨by rfl, ?hy2_8⟩) (by assumption) ?_
          case hy2_8 => ((intro w hSw; (try dsimp only at hSw); go_simp); try with_reducible rfl)
          try simp only [Act.put, List.setIfInBounds_toArray, List.set_cons_zero, List.set_cons_succ]
          refine wpAnyH_take (i := 9) (oi := { dst := some 24, op := Go.Op.load 9 (Go.Operand.tmp 23), type := 9, pos := "l3_work.go:48", after := #[{ on := 8, ground := Go.Ground.data }, { on := 2, ground := Go.Ground.guard }], guard := some (2, true) }) (v := ?_) rfl (by kernel_rfl) (by kernel_rfl) (by kernel_rfl) (fun _ _ _ h => h) (Or.inl ⟨by rfl, ?hy2_9⟩) (by assumption) ?_
          case hy2_9 => ((intro w hSw; (try dsimp only at hSw); go_simp); try with_reducible rfl)
          try simp only [Act.put, List.setIfInBounds_toArray, List.set_cons_zero, List.set_cons_succ]
          refine wpAnyH_take (i := 10) (oi := { dst := some 25, op := Go.Op.binOp Go.BinOp.geq 9 (Go.Operand.tmp 22) (Go.Operand.tmp 24) 9, type := 4, pos := "l3_work.go:48", after := #[{ on := 7, ground := Go.Ground.data }, { on := 9, ground := Go.Ground.data }, { on := 2, ground := Go.Ground.guard }], guard := some (2, true) }) (v := ?_) rfl (by kernel_rfl) (by kernel_rfl) (by kernel_rfl) (fun _ _ _ h => h) (Or.inl ⟨by rfl, ?hy2_10⟩) (by assumption) ?_
          case hy2_10 => ((intro w hSw; (try dsimp only at hSw); go_simp); try with_reducible rfl)
          try simp only [Act.put, List.setIfInBounds_toArray, List.set_cons_zero, List.set_cons_succ]
          refine wpAnyH_take (i := 11) (oi := { dst := some 26, op := Go.Op.pick (Go.Operand.tmp 17) (Go.Operand.tmp 25) (Go.Operand.const (Go.Value.bool false)), type := 4, pos := "l3_work.go:48", after := #[{ on := 2, ground := Go.Ground.data }, { on := 10, ground := Go.Ground.data }], guard := none }) (v := ?_) rfl (by kernel_rfl) (by kernel_rfl) (by kernel_rfl) (fun _ _ _ h => h) (Or.inl ⟨by rfl, ?hy2_11⟩) (by assumption) ?_
          case hy2_11 => ((intro w hSw; (try dsimp only at hSw); go_simp); try with_reducible rfl)
          try simp only [Act.put, List.setIfInBounds_toArray, List.set_cons_zero, List.set_cons_succ]
          refine wpAnyH_done (by kernel_rfl) ?_ _
          cases heq : (f0.toList == key.toList)
          · go_wp2_with fail
            refine wp_region_held_drew (S := (fun W' => W'.cell? ⟨d, off + i * 3, none⟩ = some (.string f0) ∧ W'.cell? ⟨d, off + i * 3 + 1, none⟩ = some (.int .i64 f1) ∧ W'.cell? ⟨d, off + i * 3 + 2, none⟩ = some (.bool f2) ∧ W'.cell? ⟨w.heap.size, 0, none⟩ = some (.string key))) (by kernel_rfl) ⟨e0, e1, e2, q0⟩ (fun hHeld => ?_)
            replace o := o.drew
            replace x := x.drew
            replace hb := hb.drew
            replace e0 := keepC (Below.refl _ _).drew e0
            replace e1 := keepC (Below.refl _ _).drew e1
            replace e2 := keepC (Below.refl _ _).drew e2
            replace q0 := x.c (k := 0) rfl
            replace q1 := x.c (k := 1) rfl
            replace q2 := x.c (k := 2) rfl
            generalize wd.drew = we at *
            refine wpAnyH_take (i := 0) (oi := { dst := some 31, op := Go.Op.move (Go.Operand.tmp 0), type := 27, pos := "l3_work.go:52", after := #[], guard := none }) (v := ?_) rfl (by kernel_rfl) (by kernel_rfl) (by kernel_rfl) (fun _ _ _ h => h) (Or.inl ⟨by rfl, ?hy6_0⟩) (by assumption) ?_
            case hy6_0 => ((intro w hSw; (try dsimp only at hSw); go_simp); try with_reducible rfl)
            try simp only [Act.put, List.setIfInBounds_toArray, List.set_cons_zero, List.set_cons_succ]
            refine wpAnyH_take (i := 1) (oi := { dst := some 32, op := Go.Op.move (Go.Operand.tmp 7), type := 3, pos := "l3_work.go:52", after := #[], guard := none }) (v := ?_) rfl (by kernel_rfl) (by kernel_rfl) (by kernel_rfl) (fun _ _ _ h => h) (Or.inl ⟨by rfl, ?hy6_1⟩) (by assumption) ?_
            case hy6_1 => ((intro w hSw; (try dsimp only at hSw); go_simp); try with_reducible rfl)
            try simp only [Act.put, List.setIfInBounds_toArray, List.set_cons_zero, List.set_cons_succ]
            refine wpAnyH_take (i := 2) (oi := { dst := some 33, op := Go.Op.indexAddr 27 (Go.Operand.tmp 31) (Go.Operand.tmp 32), type := 0, pos := "l3_work.go:52", after := #[{ on := 0, ground := Go.Ground.data }, { on := 1, ground := Go.Ground.data }], guard := none }) (v := ?_) rfl (by kernel_rfl) (by kernel_rfl) (by kernel_rfl) (fun _ _ _ h => h) (Or.inl ⟨by rfl, ?hy6_2⟩) (by assumption) ?_
            case hy6_2 => ((intro w hSw; (try dsimp only at hSw); go_simp); try with_reducible rfl)
            try simp only [Act.put, List.setIfInBounds_toArray, List.set_cons_zero, List.set_cons_succ]
            refine wpAnyH_take (i := 3) (oi := { dst := some 34, op := Go.Op.fieldAddr 73 (Go.Operand.tmp 33) 0, type := 0, pos := "l3_work.go:52", after := #[{ on := 2, ground := Go.Ground.data }], guard := none }) (v := ?_) rfl (by kernel_rfl) (by kernel_rfl) (by kernel_rfl) (fun _ _ _ h => h) (Or.inl ⟨by rfl, ?hy6_3⟩) (by assumption) ?_
            case hy6_3 => ((intro w hSw; (try dsimp only at hSw); go_simp); try with_reducible rfl)
            try simp only [Act.put, List.setIfInBounds_toArray, List.set_cons_zero, List.set_cons_succ]
            refine wpAnyH_take (i := 4) (oi := { dst := some 35, op := Go.Op.load 9 (Go.Operand.tmp 34), type := 9, pos := "l3_work.go:52", after := #[{ on := 3, ground := Go.Ground.data }], guard := none }) (v := ?_) rfl (by kernel_rfl) (by kernel_rfl) (by kernel_rfl) (fun _ _ _ h => h) (Or.inl ⟨by rfl, ?hy6_4⟩) (by assumption) ?_
            case hy6_4 => ((intro w hSw; (try dsimp only at hSw); go_simp); try with_reducible rfl)
            try simp only [Act.put, List.setIfInBounds_toArray, List.set_cons_zero, List.set_cons_succ]
            refine wpAnyH_take (i := 5) (oi := { dst := some 36, op := Go.Op.fieldAddr 73 (Go.Operand.tmp 3) 0, type := 0, pos := "l3_work.go:52", after := #[], guard := none }) (v := ?_) rfl (by kernel_rfl) (by kernel_rfl) (by kernel_rfl) (fun _ _ _ h => h) (Or.inl ⟨by rfl, ?hy6_5⟩) (by assumption) ?_
            case hy6_5 => ((intro w hSw; (try dsimp only at hSw); go_simp); try with_reducible rfl)
            try simp only [Act.put, List.setIfInBounds_toArray, List.set_cons_zero, List.set_cons_succ]
            refine wpAnyH_take (i := 6) (oi := { dst := some 37, op := Go.Op.load 9 (Go.Operand.tmp 36), type := 9, pos := "l3_work.go:52", after := #[{ on := 5, ground := Go.Ground.data }], guard := none }) (v := ?_) rfl (by kernel_rfl) (by kernel_rfl) (by kernel_rfl) (fun _ _ _ h => h) (Or.inl ⟨by rfl, ?hy6_6⟩) (by assumption) ?_
            case hy6_6 => ((intro w hSw; (try dsimp only at hSw); go_simp); try with_reducible rfl)
            try simp only [Act.put, List.setIfInBounds_toArray, List.set_cons_zero, List.set_cons_succ]
            refine wpAnyH_take (i := 7) (oi := { dst := some 38, op := Go.Op.binOp Go.BinOp.neq 9 (Go.Operand.tmp 35) (Go.Operand.tmp 37) 9, type := 4, pos := "l3_work.go:52", after := #[{ on := 4, ground := Go.Ground.data }, { on := 6, ground := Go.Ground.data }], guard := none }) (v := ?_) rfl (by kernel_rfl) (by kernel_rfl) (by kernel_rfl) (fun _ _ _ h => h) (Or.inl ⟨by rfl, ?hy6_7⟩) (by assumption) ?_
            case hy6_7 => ((intro w hSw; (try dsimp only at hSw); go_simp); try with_reducible rfl)
            try simp only [Act.put, List.setIfInBounds_toArray, List.set_cons_zero, List.set_cons_succ]
            refine wpAnyH_done (by kernel_rfl) ?_ _
            have hlo := o.len
            have ls := Sl.lit1 (enc := encWrite) we #[.string f0, .int .i64 f1, .bool f2] 73 (f0, f1, f2) rfl
            have oa := o.alloc (.cells #[.string f0, .int .i64 f1, .bool f2] 73)
            have xa := x.alloc (.cells #[.string f0, .int .i64 f1, .bool f2] 73)
            have ba := bel_alloc hb (.cells #[.string f0, .int .i64 f1, .bool f2] 73)
            have hzz := hb.size
            have hzx := x.lt
            clear o x hb
            go_wp2_with (at_builtin; refine wpList_append_sl _ rfl _ _ 27 rfl (w.heap.size + 1) 73 i0 _ 3 32 Try.underlying27 hi0 hz0 hz1 hz2 rfl (by decide) encWrite_len encWrite_one _ lo rfl oa _ (some ⟨we.heap.size, 0, none⟩) 1 1 [(f0, f1, f2)] rfl ls (by have := HN.out; unfold maxLen; omega) (by have := HN.out; omega) (by rw [World.size_alloc]; omega) ?_; intro v10 w10 o10 g10)
            obtain ⟨A10, c10, rfl, -, -⟩ := o10.form
            have x := xa.grown g10 (fun h => by have := (World.ownsRow.lt oa _ h.symm).1; omega)
            have hb := bel_grown ba g10 (fun k hk => by have := (World.ownsRow.lt oa k hk).1; omega)
            have hSm := hSm.app (SmallW.one (x := (f0, f1, f2)) hf3)
            have hlen2 : (lo ++ [(f0, f1, f2)]).length = lo.length + 1 := by simp
            have q0 := x.c (k := 0) rfl
            have q1 := x.c (k := 1) rfl
            have q2 := x.c (k := 2) rfl
            have o := o10
            have b3 := hb
            clear oa xa ba o10 g10 ls hzz hzx hlo
            go_roundw
            case rel => exact ⟨i + 1, _, _, _, false, by omega, by go_num, rfl, by first | rfl | simp, o, hSm, fun h => by first | (cases h; done) | omega, fun h => by first | (cases h; done) | omega, x, b3⟩
            case measure => simp [intOf]; omega
          · go_wp2_with fail
            refine wp_region_held_drew (S := (fun W' => W'.cell? ⟨d, off + i * 3, none⟩ = some (.string f0) ∧ W'.cell? ⟨d, off + i * 3 + 1, none⟩ = some (.int .i64 f1) ∧ W'.cell? ⟨d, off + i * 3 + 2, none⟩ = some (.bool f2) ∧ W'.cell? ⟨w.heap.size, 0, none⟩ = some (.string key))) (by kernel_rfl) ⟨e0, e1, e2, q0⟩ (fun hHeld => ?_)
            replace o := o.drew
            replace x := x.drew
            replace hb := hb.drew
            replace e0 := keepC (Below.refl _ _).drew e0
            replace e1 := keepC (Below.refl _ _).drew e1
            replace e2 := keepC (Below.refl _ _).drew e2
            replace q0 := x.c (k := 0) rfl
            replace q1 := x.c (k := 1) rfl
            replace q2 := x.c (k := 2) rfl
            generalize wd.drew = we at *
            refine wpAnyH_take (i := 0) (oi := { dst := some 31, op := Go.Op.move (Go.Operand.tmp 0), type := 27, pos := "l3_work.go:52", after := #[], guard := none }) (v := ?_) rfl (by kernel_rfl) (by kernel_rfl) (by kernel_rfl) (fun _ _ _ h => h) (Or.inl ⟨by rfl, ?hy7_0⟩) (by assumption) ?_
            case hy7_0 => ((intro w hSw; (try dsimp only at hSw); go_simp); try with_reducible rfl)
            try simp only [Act.put, List.setIfInBounds_toArray, List.set_cons_zero, List.set_cons_succ]
            refine wpAnyH_take (i := 1) (oi := { dst := some 32, op := Go.Op.move (Go.Operand.tmp 7), type := 3, pos := "l3_work.go:52", after := #[], guard := none }) (v := ?_) rfl (by kernel_rfl) (by kernel_rfl) (by kernel_rfl) (fun _ _ _ h => h) (Or.inl ⟨by rfl, ?hy7_1⟩) (by assumption) ?_
            case hy7_1 => ((intro w hSw; (try dsimp only at hSw); go_simp); try with_reducible rfl)
            try simp only [Act.put, List.setIfInBounds_toArray, List.set_cons_zero, List.set_cons_succ]
            refine wpAnyH_take (i := 2) (oi := { dst := some 33, op := Go.Op.indexAddr 27 (Go.Operand.tmp 31) (Go.Operand.tmp 32), type := 0, pos := "l3_work.go:52", after := #[{ on := 0, ground := Go.Ground.data }, { on := 1, ground := Go.Ground.data }], guard := none }) (v := ?_) rfl (by kernel_rfl) (by kernel_rfl) (by kernel_rfl) (fun _ _ _ h => h) (Or.inl ⟨by rfl, ?hy7_2⟩) (by assumption) ?_
            case hy7_2 => ((intro w hSw; (try dsimp only at hSw); go_simp); try with_reducible rfl)
            try simp only [Act.put, List.setIfInBounds_toArray, List.set_cons_zero, List.set_cons_succ]
            refine wpAnyH_take (i := 3) (oi := { dst := some 34, op := Go.Op.fieldAddr 73 (Go.Operand.tmp 33) 0, type := 0, pos := "l3_work.go:52", after := #[{ on := 2, ground := Go.Ground.data }], guard := none }) (v := ?_) rfl (by kernel_rfl) (by kernel_rfl) (by kernel_rfl) (fun _ _ _ h => h) (Or.inl ⟨by rfl, ?hy7_3⟩) (by assumption) ?_
            case hy7_3 => ((intro w hSw; (try dsimp only at hSw); go_simp); try with_reducible rfl)
            try simp only [Act.put, List.setIfInBounds_toArray, List.set_cons_zero, List.set_cons_succ]
            refine wpAnyH_take (i := 4) (oi := { dst := some 35, op := Go.Op.load 9 (Go.Operand.tmp 34), type := 9, pos := "l3_work.go:52", after := #[{ on := 3, ground := Go.Ground.data }], guard := none }) (v := ?_) rfl (by kernel_rfl) (by kernel_rfl) (by kernel_rfl) (fun _ _ _ h => h) (Or.inl ⟨by rfl, ?hy7_4⟩) (by assumption) ?_
            case hy7_4 => ((intro w hSw; (try dsimp only at hSw); go_simp); try with_reducible rfl)
            try simp only [Act.put, List.setIfInBounds_toArray, List.set_cons_zero, List.set_cons_succ]
            refine wpAnyH_take (i := 5) (oi := { dst := some 36, op := Go.Op.fieldAddr 73 (Go.Operand.tmp 3) 0, type := 0, pos := "l3_work.go:52", after := #[], guard := none }) (v := ?_) rfl (by kernel_rfl) (by kernel_rfl) (by kernel_rfl) (fun _ _ _ h => h) (Or.inl ⟨by rfl, ?hy7_5⟩) (by assumption) ?_
            case hy7_5 => ((intro w hSw; (try dsimp only at hSw); go_simp); try with_reducible rfl)
            try simp only [Act.put, List.setIfInBounds_toArray, List.set_cons_zero, List.set_cons_succ]
            refine wpAnyH_take (i := 6) (oi := { dst := some 37, op := Go.Op.load 9 (Go.Operand.tmp 36), type := 9, pos := "l3_work.go:52", after := #[{ on := 5, ground := Go.Ground.data }], guard := none }) (v := ?_) rfl (by kernel_rfl) (by kernel_rfl) (by kernel_rfl) (fun _ _ _ h => h) (Or.inl ⟨by rfl, ?hy7_6⟩) (by assumption) ?_
            case hy7_6 => ((intro w hSw; (try dsimp only at hSw); go_simp); try with_reducible rfl)
            try simp only [Act.put, List.setIfInBounds_toArray, List.set_cons_zero, List.set_cons_succ]
            refine wpAnyH_take (i := 7) (oi := { dst := some 38, op := Go.Op.binOp Go.BinOp.neq 9 (Go.Operand.tmp 35) (Go.Operand.tmp 37) 9, type := 4, pos := "l3_work.go:52", after := #[{ on := 4, ground := Go.Ground.data }, { on := 6, ground := Go.Ground.data }], guard := none }) (v := ?_) rfl (by kernel_rfl) (by kernel_rfl) (by kernel_rfl) (fun _ _ _ h => h) (Or.inl ⟨by rfl, ?hy7_7⟩) (by assumption) ?_
            case hy7_7 => ((intro w hSw; (try dsimp only at hSw); go_simp); try with_reducible rfl)
            try simp only [Act.put, List.setIfInBounds_toArray, List.set_cons_zero, List.set_cons_succ]
            refine wpAnyH_done (by kernel_rfl) ?_ _
            go_wp2_with fail
            go_roundw
            case rel => exact ⟨i + 1, _, _, _, false, by omega, by go_num, rfl, by first | rfl | simp, o, hSm, fun h => by first | (cases h; done) | omega, fun h => by first | (cases h; done) | omega, x, hb⟩
            case measure => simp [intOf]; omega
      · have hlo1 := hd1 rfl
        clear hd1 hd2
        go_wp2_with fail
        refine wp_region_held_drew (S := (fun W' => W'.cell? ⟨d, off + i * 3, none⟩ = some (.string f0) ∧ W'.cell? ⟨d, off + i * 3 + 1, none⟩ = some (.int .i64 f1) ∧ W'.cell? ⟨d, off + i * 3 + 2, none⟩ = some (.bool f2) ∧ W'.cell? ⟨w.heap.size, 0, none⟩ = some (.string key))) (by kernel_rfl) ⟨e0, e1, e2, q0⟩ (fun hHeld => ?_)
        replace o := o.drew
        replace x := x.drew
        replace hb := hb.drew
        replace e0 := keepC (Below.refl _ _).drew e0
        replace e1 := keepC (Below.refl _ _).drew e1
        replace e2 := keepC (Below.refl _ _).drew e2
        replace q0 := x.c (k := 0) rfl
        replace q1 := x.c (k := 1) rfl
        replace q2 := x.c (k := 2) rfl
        generalize wr.drew = wd at *
        refine wpAnyH_take (i := 0) (oi := { dst := some 15, op := Go.Op.move (Go.Operand.tmp 6), type := 4, pos := "l3_work.go:48", after := #[], guard := none }) (v := ?_) rfl (by kernel_rfl) (by kernel_rfl) (by kernel_rfl) (fun _ _ _ h => h) (Or.inl ⟨by rfl, ?hy3_0⟩) (by assumption) ?_
        case hy3_0 => ((intro w hSw; (try dsimp only at hSw); go_simp); try with_reducible rfl)
        try simp only [Act.put, List.setIfInBounds_toArray, List.set_cons_zero, List.set_cons_succ]
        refine wpAnyH_take (i := 1) (oi := { dst := some 16, op := Go.Op.unOp Go.UnOp.not 4 (Go.Operand.tmp 15), type := 4, pos := "l3_work.go:48", after := #[{ on := 0, ground := Go.Ground.data }], guard := none }) (v := ?_) rfl (by kernel_rfl) (by kernel_rfl) (by kernel_rfl) (fun _ _ _ h => h) (Or.inl ⟨by rfl, ?hy3_1⟩) (by assumption) ?_
        case hy3_1 => ((intro w hSw; (try dsimp only at hSw); go_simp); try with_reducible rfl)
        try simp only [Act.put, List.setIfInBounds_toArray, List.set_cons_zero, List.set_cons_succ]
        refine wpAnyH_take (i := 2) (oi := { dst := some 17, op := Go.Op.move (Go.Operand.tmp 16), type := 4, pos := "l3_work.go:48", after := #[{ on := 1, ground := Go.Ground.data }], guard := none }) (v := ?_) rfl (by kernel_rfl) (by kernel_rfl) (by kernel_rfl) (fun _ _ _ h => h) (Or.inl ⟨by rfl, ?hy3_2⟩) (by assumption) ?_
        case hy3_2 => ((intro w hSw; (try dsimp only at hSw); go_simp); try with_reducible rfl)
        try simp only [Act.put, List.setIfInBounds_toArray, List.set_cons_zero, List.set_cons_succ]
        refine wpAnyH_take (i := 3) (oi := { dst := some 18, op := Go.Op.move (Go.Operand.tmp 0), type := 27, pos := "l3_work.go:48", after := #[{ on := 2, ground := Go.Ground.guard }], guard := some (2, true) }) (v := undef) rfl (by kernel_rfl) (by kernel_rfl) (by kernel_rfl) (fun _ _ _ h => h) (Or.inr ⟨by rfl, rfl⟩) (by assumption) ?_
        try simp only [Act.put, List.setIfInBounds_toArray, List.set_cons_zero, List.set_cons_succ]
        refine wpAnyH_take (i := 4) (oi := { dst := some 19, op := Go.Op.move (Go.Operand.tmp 7), type := 3, pos := "l3_work.go:48", after := #[{ on := 2, ground := Go.Ground.guard }], guard := some (2, true) }) (v := undef) rfl (by kernel_rfl) (by kernel_rfl) (by kernel_rfl) (fun _ _ _ h => h) (Or.inr ⟨by rfl, rfl⟩) (by assumption) ?_
        try simp only [Act.put, List.setIfInBounds_toArray, List.set_cons_zero, List.set_cons_succ]
        refine wpAnyH_take (i := 5) (oi := { dst := some 20, op := Go.Op.indexAddr 27 (Go.Operand.tmp 18) (Go.Operand.tmp 19), type := 0, pos := "l3_work.go:48", after := #[{ on := 3, ground := Go.Ground.data }, { on := 4, ground := Go.Ground.data }, { on := 2, ground := Go.Ground.guard }], guard := some (2, true) }) (v := undef) rfl (by kernel_rfl) (by kernel_rfl) (by kernel_rfl) (fun _ _ _ h => h) (Or.inr ⟨by rfl, rfl⟩) (by assumption) ?_
        try simp only [Act.put, List.setIfInBounds_toArray, List.set_cons_zero, List.set_cons_succ]
        refine wpAnyH_take (i := 6) (oi := { dst := some 21, op := Go.Op.fieldAddr 73 (Go.Operand.tmp 20) 0, type := 0, pos := "l3_work.go:48", after := #[{ on := 5, ground := Go.Ground.data }, { on := 2, ground := Go.Ground.guard }], guard := some (2, true) }) (v := undef) rfl (by kernel_rfl) (by kernel_rfl) (by kernel_rfl) (fun _ _ _ h => h) (Or.inr ⟨by rfl, rfl⟩) (by assumption) ?_
        try simp only [Act.put, List.setIfInBounds_toArray, List.set_cons_zero, List.set_cons_succ]
        refine wpAnyH_take (i := 7) (oi := { dst := some 22, op := Go.Op.load 9 (Go.Operand.tmp 21), type := 9, pos := "l3_work.go:48", after := #[{ on := 6, ground := Go.Ground.data }, { on := 2, ground := Go.Ground.guard }], guard := some (2, true) }) (v := undef) rfl (by kernel_rfl) (by kernel_rfl) (by kernel_rfl) (fun _ _ _ h => h) (Or.inr ⟨by rfl, rfl⟩) (by assumption) ?_
        try simp only [Act.put, List.setIfInBounds_toArray, List.set_cons_zero, List.set_cons_succ]
        refine wpAnyH_take (i := 8) (oi := { dst := some 23, op := Go.Op.fieldAddr 73 (Go.Operand.tmp 3) 0, type := 0, pos := "l3_work.go:48", after := #[{ on := 2, ground := Go.Ground.guard }], guard := some (2, true) }) (v := undef) rfl (by kernel_rfl) (by kernel_rfl) (by kernel_rfl) (fun _ _ _ h => h) (Or.inr ⟨by rfl, rfl⟩) (by assumption) ?_
        try simp only [Act.put, List.setIfInBounds_toArray, List.set_cons_zero, List.set_cons_succ]
        refine wpAnyH_take (i := 9) (oi := { dst := some 24, op := Go.Op.load 9 (Go.Operand.tmp 23), type := 9, pos := "l3_work.go:48", after := #[{ on := 8, ground := Go.Ground.data }, { on := 2, ground := Go.Ground.guard }], guard := some (2, true) }) (v := undef) rfl (by kernel_rfl) (by kernel_rfl) (by kernel_rfl) (fun _ _ _ h => h) (Or.inr ⟨by rfl, rfl⟩) (by assumption) ?_
        try simp only [Act.put, List.setIfInBounds_toArray, List.set_cons_zero, List.set_cons_succ]
        refine wpAnyH_take (i := 10) (oi := { dst := some 25, op := Go.Op.binOp Go.BinOp.geq 9 (Go.Operand.tmp 22) (Go.Operand.tmp 24) 9, type := 4, pos := "l3_work.go:48", after := #[{ on := 7, ground := Go.Ground.data }, { on := 9, ground := Go.Ground.data }, { on := 2, ground := Go.Ground.guard }], guard := some (2, true) }) (v := undef) rfl (by kernel_rfl) (by kernel_rfl) (by kernel_rfl) (fun _ _ _ h => h) (Or.inr ⟨by rfl, rfl⟩) (by assumption) ?_
        try simp only [Act.put, List.setIfInBounds_toArray, List.set_cons_zero, List.set_cons_succ]
        refine wpAnyH_take (i := 11) (oi := { dst := some 26, op := Go.Op.pick (Go.Operand.tmp 17) (Go.Operand.tmp 25) (Go.Operand.const (Go.Value.bool false)), type := 4, pos := "l3_work.go:48", after := #[{ on := 2, ground := Go.Ground.data }, { on := 10, ground := Go.Ground.data }], guard := none }) (v := ?_) rfl (by kernel_rfl) (by kernel_rfl) (by kernel_rfl) (fun _ _ _ h => h) (Or.inl ⟨by rfl, ?hy3_11⟩) (by assumption) ?_
        case hy3_11 => ((intro w hSw; (try dsimp only at hSw); go_simp); try with_reducible rfl)
        try simp only [Act.put, List.setIfInBounds_toArray, List.set_cons_zero, List.set_cons_succ]
        refine wpAnyH_done (by kernel_rfl) ?_ _
        cases heq : (f0.toList == key.toList)
        · go_wp2_with fail
          refine wp_region_held_drew (S := (fun W' => W'.cell? ⟨d, off + i * 3, none⟩ = some (.string f0) ∧ W'.cell? ⟨d, off + i * 3 + 1, none⟩ = some (.int .i64 f1) ∧ W'.cell? ⟨d, off + i * 3 + 2, none⟩ = some (.bool f2) ∧ W'.cell? ⟨w.heap.size, 0, none⟩ = some (.string key))) (by kernel_rfl) ⟨e0, e1, e2, q0⟩ (fun hHeld => ?_)
          replace o := o.drew
          replace x := x.drew
          replace hb := hb.drew
          replace e0 := keepC (Below.refl _ _).drew e0
          replace e1 := keepC (Below.refl _ _).drew e1
          replace e2 := keepC (Below.refl _ _).drew e2
          replace q0 := x.c (k := 0) rfl
          replace q1 := x.c (k := 1) rfl
          replace q2 := x.c (k := 2) rfl
          generalize wd.drew = we at *
          refine wpAnyH_take (i := 0) (oi := { dst := some 31, op := Go.Op.move (Go.Operand.tmp 0), type := 27, pos := "l3_work.go:52", after := #[], guard := none }) (v := ?_) rfl (by kernel_rfl) (by kernel_rfl) (by kernel_rfl) (fun _ _ _ h => h) (Or.inl ⟨by rfl, ?hy8_0⟩) (by assumption) ?_
          case hy8_0 => ((intro w hSw; (try dsimp only at hSw); go_simp); try with_reducible rfl)
          try simp only [Act.put, List.setIfInBounds_toArray, List.set_cons_zero, List.set_cons_succ]
          refine wpAnyH_take (i := 1) (oi := { dst := some 32, op := Go.Op.move (Go.Operand.tmp 7), type := 3, pos := "l3_work.go:52", after := #[], guard := none }) (v := ?_) rfl (by kernel_rfl) (by kernel_rfl) (by kernel_rfl) (fun _ _ _ h => h) (Or.inl ⟨by rfl, ?hy8_1⟩) (by assumption) ?_
          case hy8_1 => ((intro w hSw; (try dsimp only at hSw); go_simp); try with_reducible rfl)
          try simp only [Act.put, List.setIfInBounds_toArray, List.set_cons_zero, List.set_cons_succ]
          refine wpAnyH_take (i := 2) (oi := { dst := some 33, op := Go.Op.indexAddr 27 (Go.Operand.tmp 31) (Go.Operand.tmp 32), type := 0, pos := "l3_work.go:52", after := #[{ on := 0, ground := Go.Ground.data }, { on := 1, ground := Go.Ground.data }], guard := none }) (v := ?_) rfl (by kernel_rfl) (by kernel_rfl) (by kernel_rfl) (fun _ _ _ h => h) (Or.inl ⟨by rfl, ?hy8_2⟩) (by assumption) ?_
          case hy8_2 => ((intro w hSw; (try dsimp only at hSw); go_simp); try with_reducible rfl)
          try simp only [Act.put, List.setIfInBounds_toArray, List.set_cons_zero, List.set_cons_succ]
          refine wpAnyH_take (i := 3) (oi := { dst := some 34, op := Go.Op.fieldAddr 73 (Go.Operand.tmp 33) 0, type := 0, pos := "l3_work.go:52", after := #[{ on := 2, ground := Go.Ground.data }], guard := none }) (v := ?_) rfl (by kernel_rfl) (by kernel_rfl) (by kernel_rfl) (fun _ _ _ h => h) (Or.inl ⟨by rfl, ?hy8_3⟩) (by assumption) ?_
          case hy8_3 => ((intro w hSw; (try dsimp only at hSw); go_simp); try with_reducible rfl)
          try simp only [Act.put, List.setIfInBounds_toArray, List.set_cons_zero, List.set_cons_succ]
          refine wpAnyH_take (i := 4) (oi := { dst := some 35, op := Go.Op.load 9 (Go.Operand.tmp 34), type := 9, pos := "l3_work.go:52", after := #[{ on := 3, ground := Go.Ground.data }], guard := none }) (v := ?_) rfl (by kernel_rfl) (by kernel_rfl) (by kernel_rfl) (fun _ _ _ h => h) (Or.inl ⟨by rfl, ?hy8_4⟩) (by assumption) ?_
          case hy8_4 => ((intro w hSw; (try dsimp only at hSw); go_simp); try with_reducible rfl)
          try simp only [Act.put, List.setIfInBounds_toArray, List.set_cons_zero, List.set_cons_succ]
          refine wpAnyH_take (i := 5) (oi := { dst := some 36, op := Go.Op.fieldAddr 73 (Go.Operand.tmp 3) 0, type := 0, pos := "l3_work.go:52", after := #[], guard := none }) (v := ?_) rfl (by kernel_rfl) (by kernel_rfl) (by kernel_rfl) (fun _ _ _ h => h) (Or.inl ⟨by rfl, ?hy8_5⟩) (by assumption) ?_
          case hy8_5 => ((intro w hSw; (try dsimp only at hSw); go_simp); try with_reducible rfl)
          try simp only [Act.put, List.setIfInBounds_toArray, List.set_cons_zero, List.set_cons_succ]
          refine wpAnyH_take (i := 6) (oi := { dst := some 37, op := Go.Op.load 9 (Go.Operand.tmp 36), type := 9, pos := "l3_work.go:52", after := #[{ on := 5, ground := Go.Ground.data }], guard := none }) (v := ?_) rfl (by kernel_rfl) (by kernel_rfl) (by kernel_rfl) (fun _ _ _ h => h) (Or.inl ⟨by rfl, ?hy8_6⟩) (by assumption) ?_
          case hy8_6 => ((intro w hSw; (try dsimp only at hSw); go_simp); try with_reducible rfl)
          try simp only [Act.put, List.setIfInBounds_toArray, List.set_cons_zero, List.set_cons_succ]
          refine wpAnyH_take (i := 7) (oi := { dst := some 38, op := Go.Op.binOp Go.BinOp.neq 9 (Go.Operand.tmp 35) (Go.Operand.tmp 37) 9, type := 4, pos := "l3_work.go:52", after := #[{ on := 4, ground := Go.Ground.data }, { on := 6, ground := Go.Ground.data }], guard := none }) (v := ?_) rfl (by kernel_rfl) (by kernel_rfl) (by kernel_rfl) (fun _ _ _ h => h) (Or.inl ⟨by rfl, ?hy8_7⟩) (by assumption) ?_
          case hy8_7 => ((intro w hSw; (try dsimp only at hSw); go_simp); try with_reducible rfl)
          try simp only [Act.put, List.setIfInBounds_toArray, List.set_cons_zero, List.set_cons_succ]
          refine wpAnyH_done (by kernel_rfl) ?_ _
          have hlo := o.len
          have ls := Sl.lit1 (enc := encWrite) we #[.string f0, .int .i64 f1, .bool f2] 73 (f0, f1, f2) rfl
          have oa := o.alloc (.cells #[.string f0, .int .i64 f1, .bool f2] 73)
          have xa := x.alloc (.cells #[.string f0, .int .i64 f1, .bool f2] 73)
          have ba := bel_alloc hb (.cells #[.string f0, .int .i64 f1, .bool f2] 73)
          have hzz := hb.size
          have hzx := x.lt
          clear o x hb
          go_wp2_with (at_builtin; refine wpList_append_sl _ rfl _ _ 27 rfl (w.heap.size + 1) 73 i0 _ 3 32 Try.underlying27 hi0 hz0 hz1 hz2 rfl (by decide) encWrite_len encWrite_one _ lo rfl oa _ (some ⟨we.heap.size, 0, none⟩) 1 1 [(f0, f1, f2)] rfl ls (by have := HN.out; unfold maxLen; omega) (by have := HN.out; omega) (by rw [World.size_alloc]; omega) ?_; intro v10 w10 o10 g10)
          obtain ⟨A10, c10, rfl, -, -⟩ := o10.form
          have x := xa.grown g10 (fun h => by have := (World.ownsRow.lt oa _ h.symm).1; omega)
          have hb := bel_grown ba g10 (fun k hk => by have := (World.ownsRow.lt oa k hk).1; omega)
          have hSm := hSm.app (SmallW.one (x := (f0, f1, f2)) hf3)
          have hlen2 : (lo ++ [(f0, f1, f2)]).length = lo.length + 1 := by simp
          have q0 := x.c (k := 0) rfl
          have q1 := x.c (k := 1) rfl
          have q2 := x.c (k := 2) rfl
          have o := o10
          have b3 := hb
          clear oa xa ba o10 g10 ls hzz hzx hlo
          go_roundw
          case rel => exact ⟨i + 1, _, _, _, true, by omega, by go_num, rfl, by first | rfl | simp, o, hSm, fun h => by first | (cases h; done) | omega, fun h => by first | (cases h; done) | omega, x, b3⟩
          case measure => simp [intOf]; omega
        · go_wp2_with fail
          refine wp_region_held_drew (S := (fun W' => W'.cell? ⟨d, off + i * 3, none⟩ = some (.string f0) ∧ W'.cell? ⟨d, off + i * 3 + 1, none⟩ = some (.int .i64 f1) ∧ W'.cell? ⟨d, off + i * 3 + 2, none⟩ = some (.bool f2) ∧ W'.cell? ⟨w.heap.size, 0, none⟩ = some (.string key))) (by kernel_rfl) ⟨e0, e1, e2, q0⟩ (fun hHeld => ?_)
          replace o := o.drew
          replace x := x.drew
          replace hb := hb.drew
          replace e0 := keepC (Below.refl _ _).drew e0
          replace e1 := keepC (Below.refl _ _).drew e1
          replace e2 := keepC (Below.refl _ _).drew e2
          replace q0 := x.c (k := 0) rfl
          replace q1 := x.c (k := 1) rfl
          replace q2 := x.c (k := 2) rfl
          generalize wd.drew = we at *
          refine wpAnyH_take (i := 0) (oi := { dst := some 31, op := Go.Op.move (Go.Operand.tmp 0), type := 27, pos := "l3_work.go:52", after := #[], guard := none }) (v := ?_) rfl (by kernel_rfl) (by kernel_rfl) (by kernel_rfl) (fun _ _ _ h => h) (Or.inl ⟨by rfl, ?hy9_0⟩) (by assumption) ?_
          case hy9_0 => ((intro w hSw; (try dsimp only at hSw); go_simp); try with_reducible rfl)
          try simp only [Act.put, List.setIfInBounds_toArray, List.set_cons_zero, List.set_cons_succ]
          refine wpAnyH_take (i := 1) (oi := { dst := some 32, op := Go.Op.move (Go.Operand.tmp 7), type := 3, pos := "l3_work.go:52", after := #[], guard := none }) (v := ?_) rfl (by kernel_rfl) (by kernel_rfl) (by kernel_rfl) (fun _ _ _ h => h) (Or.inl ⟨by rfl, ?hy9_1⟩) (by assumption) ?_
          case hy9_1 => ((intro w hSw; (try dsimp only at hSw); go_simp); try with_reducible rfl)
          try simp only [Act.put, List.setIfInBounds_toArray, List.set_cons_zero, List.set_cons_succ]
          refine wpAnyH_take (i := 2) (oi := { dst := some 33, op := Go.Op.indexAddr 27 (Go.Operand.tmp 31) (Go.Operand.tmp 32), type := 0, pos := "l3_work.go:52", after := #[{ on := 0, ground := Go.Ground.data }, { on := 1, ground := Go.Ground.data }], guard := none }) (v := ?_) rfl (by kernel_rfl) (by kernel_rfl) (by kernel_rfl) (fun _ _ _ h => h) (Or.inl ⟨by rfl, ?hy9_2⟩) (by assumption) ?_
          case hy9_2 => ((intro w hSw; (try dsimp only at hSw); go_simp); try with_reducible rfl)
          try simp only [Act.put, List.setIfInBounds_toArray, List.set_cons_zero, List.set_cons_succ]
          refine wpAnyH_take (i := 3) (oi := { dst := some 34, op := Go.Op.fieldAddr 73 (Go.Operand.tmp 33) 0, type := 0, pos := "l3_work.go:52", after := #[{ on := 2, ground := Go.Ground.data }], guard := none }) (v := ?_) rfl (by kernel_rfl) (by kernel_rfl) (by kernel_rfl) (fun _ _ _ h => h) (Or.inl ⟨by rfl, ?hy9_3⟩) (by assumption) ?_
          case hy9_3 => ((intro w hSw; (try dsimp only at hSw); go_simp); try with_reducible rfl)
          try simp only [Act.put, List.setIfInBounds_toArray, List.set_cons_zero, List.set_cons_succ]
          refine wpAnyH_take (i := 4) (oi := { dst := some 35, op := Go.Op.load 9 (Go.Operand.tmp 34), type := 9, pos := "l3_work.go:52", after := #[{ on := 3, ground := Go.Ground.data }], guard := none }) (v := ?_) rfl (by kernel_rfl) (by kernel_rfl) (by kernel_rfl) (fun _ _ _ h => h) (Or.inl ⟨by rfl, ?hy9_4⟩) (by assumption) ?_
          case hy9_4 => ((intro w hSw; (try dsimp only at hSw); go_simp); try with_reducible rfl)
          try simp only [Act.put, List.setIfInBounds_toArray, List.set_cons_zero, List.set_cons_succ]
          refine wpAnyH_take (i := 5) (oi := { dst := some 36, op := Go.Op.fieldAddr 73 (Go.Operand.tmp 3) 0, type := 0, pos := "l3_work.go:52", after := #[], guard := none }) (v := ?_) rfl (by kernel_rfl) (by kernel_rfl) (by kernel_rfl) (fun _ _ _ h => h) (Or.inl ⟨by rfl, ?hy9_5⟩) (by assumption) ?_
          case hy9_5 => ((intro w hSw; (try dsimp only at hSw); go_simp); try with_reducible rfl)
          try simp only [Act.put, List.setIfInBounds_toArray, List.set_cons_zero, List.set_cons_succ]
          refine wpAnyH_take (i := 6) (oi := { dst := some 37, op := Go.Op.load 9 (Go.Operand.tmp 36), type := 9, pos := "l3_work.go:52", after := #[{ on := 5, ground := Go.Ground.data }], guard := none }) (v := ?_) rfl (by kernel_rfl) (by kernel_rfl) (by kernel_rfl) (fun _ _ _ h => h) (Or.inl ⟨by rfl, ?hy9_6⟩) (by assumption) ?_
          case hy9_6 => ((intro w hSw; (try dsimp only at hSw); go_simp); try with_reducible rfl)
          try simp only [Act.put, List.setIfInBounds_toArray, List.set_cons_zero, List.set_cons_succ]
          refine wpAnyH_take (i := 7) (oi := { dst := some 38, op := Go.Op.binOp Go.BinOp.neq 9 (Go.Operand.tmp 35) (Go.Operand.tmp 37) 9, type := 4, pos := "l3_work.go:52", after := #[{ on := 4, ground := Go.Ground.data }, { on := 6, ground := Go.Ground.data }], guard := none }) (v := ?_) rfl (by kernel_rfl) (by kernel_rfl) (by kernel_rfl) (fun _ _ _ h => h) (Or.inl ⟨by rfl, ?hy9_7⟩) (by assumption) ?_
          case hy9_7 => ((intro w hSw; (try dsimp only at hSw); go_simp); try with_reducible rfl)
          try simp only [Act.put, List.setIfInBounds_toArray, List.set_cons_zero, List.set_cons_succ]
          refine wpAnyH_done (by kernel_rfl) ?_ _
          go_wp2_with fail
          go_roundw
          case rel => exact ⟨i + 1, _, _, _, true, by omega, by go_num, rfl, by first | rfl | simp, o, hSm, fun h => by first | (cases h; done) | omega, fun h => by first | (cases h; done) | omega, x, hb⟩
          case measure => simp [intOf]; omega
    · obtain rfl : i = n := by omega
      have hlt' : ¬ (i : Int) < (i : Int) := by omega
      cases done
      · have hlo1 := hd2 rfl
        clear hd1 hd2
        have hlo := o.len
        have ls := Sl.lit1 (enc := encWrite) wr #[.string key, .int .i64 num, .bool gone] 73 (key, num, gone) rfl
        have oa := o.alloc (.cells #[.string key, .int .i64 num, .bool gone] 73)
        have xa := x.alloc (.cells #[.string key, .int .i64 num, .bool gone] 73)
        have ba := bel_alloc hb (.cells #[.string key, .int .i64 num, .bool gone] 73)
        have hzz := hb.size
        have hzx := x.lt
        clear o x hb
        go_wp2_with (at_builtin; refine wpList_append_sl _ rfl _ _ 27 rfl (w.heap.size + 1) 73 i0 _ 3 32 Try.underlying27 hi0 hz0 hz1 hz2 rfl (by decide) encWrite_len encWrite_one _ lo rfl oa _ (some ⟨wr.heap.size, 0, none⟩) 1 1 [(key, num, gone)] rfl ls (by have := HN.out; unfold maxLen; omega) (by have := HN.out; omega) (by rw [World.size_alloc]; omega) ?_; intro v10 w10 o10 g10)
        obtain ⟨A10, c10, rfl, -, -⟩ := o10.form
        have x := xa.grown g10 (fun h => by have := (World.ownsRow.lt oa _ h.symm).1; omega)
        have hb := bel_grown ba g10 (fun k hk => by have := (World.ownsRow.lt oa k hk).1; omega)
        have hSm := hSm.app (SmallW.one (x := (key, num, gone)) HKEY.out)
        have hlen : (lo ++ [(key, num, gone)]).length = lo.length + 1 := by simp
        have q0 := x.c (k := 0) rfl
        have q1 := x.c (k := 1) rfl
        have q2 := x.c (k := 2) rfl
        have o := o10
        have b3 := hb
        clear oa xa ba o10 g10 ls hzz hzx hlo
        go_ret
        exact ⟨_, _, _, rfl, o.lower (Nat.le_succ _), hSm, by omega, b3⟩
      · have hlo1 := hd1 rfl
        clear hd1 hd2
        go_wp2_with fail
        go_ret
        exact ⟨_, _, _, rfl, o.lower (Nat.le_succ _), hSm, by omega, hb⟩

def NewWPost (w : World) (now : Int) (e : Ending) (w' : World) : Prop := ∃ A c, e = .returned (.agg #[.int .i64 now, .slice A 0 c]) ∧ Own encWrite 3 73 w' w.heap.size (.slice A 0 c) ([] : List Write) ∧ Below w.heap.size w w'
set_option maxHeartbeats 1000000 in
theorem workNewP (now : Int) (A : Option Addr) (n c : Nat) (l : List Ver) (w : World) (hr : Sl encVer w w.heap.size A n l) (hP : VersP now l) (hn : n ≤ 1048576) :
    Calls Try.prog 54 #[.agg #[.int .i64 now, .slice A n c]] w (NewWPost w now) := by
  have b0 := bel_alloc (bel_alloc (Below.refl _ w) (.cells #[.int .i64 now, .slice A n c] 39)) (.cells #[.int .i64 0, .slice none 0 0] 29)
  have HR := Lib.hid hr
  have HN := Lib.hid hn
  have HP := Lib.hid hP
  clear hr hn hP
  go_enter Try.func54, Try.ntmps54
  go_wp2_with fail
  refine (specVersOk now A n c l _ (HR.out.on b0) HP.out.swf HN.out).mono ?_
  rintro e w1 ⟨rfl, hb1⟩
  rw [versOk_true HP.out]
  obtain ⟨hc, hf⟩ := bcellVers hb1
  have hz : w.heap.size + 1 < w1.heap.size := by have := hb1.size; simp at this; omega
  have b1 := bel_trans b0 hb1
  clear b0 hb1
  have b2 := (bel_alloc (bel_set (bel_set b1 (p := ⟨w.heap.size + 1, 0, none⟩) (by simp) (.int .i64 now)) (p := ⟨w.heap.size + 1, 1, none⟩) (by simp) (.slice (some ⟨w1.heap.size, 0, none⟩) 0 0)) (.cells #[] 73))
  have o2 := Own.made0 (enc := encWrite) (sz := 3) (e := 73) (base := w.heap.size) ((w1.setCell ⟨w.heap.size + 1, 0, none⟩ (.int .i64 now)).setCell ⟨w.heap.size + 1, 1, none⟩ (.slice (some ⟨w1.heap.size, 0, none⟩) 0 0)) (by simp; omega)
  have B2 := Lib.hid b2
  have O2 := Lib.hid o2
  clear b2 o2
  go_wp2
  exact bodyPost_ret (v := .agg #[.int .i64 now, .slice (some ⟨w1.heap.size, 0, none⟩) 0 0]) (by simp [results, Try.results54, go_sem, hc, hz]) rfl ⟨_, _, rfl, by simpa using O2.out, B2.out⟩
def WriteDPost (w : World) (g p : Nat) (A : Option Addr) (m c : Nat) (l : List UInt8) (e : Ending) (w' : World) : Prop :=
  ∃ (key : ByteArray) (num : Int) (gone : Bool) (p' : Nat), e = .returned (.agg #[.string key, .int .i64 num, .bool gone]) ∧ key.size ≤ 3 ∧ p' ≤ p + 8 ∧ Rd w' g p' A m c l ∧ Turn (some ⟨g, 0, none⟩) w w'
set_option maxHeartbeats 4000000 in
set_option maxRecDepth 100000 in
theorem l3Write (g p : Nat) (A : Option Addr) (m c : Nat) (l : List UInt8) (B : Option Addr) (n cb : Nat) (lr : List Row) (w : World) (hrd : Rd w g p A m c l) (hp : p ≤ 10000)
    (hs : Sl encRow w w.heap.size B n lr) (hn : n ≤ 1000) (hne : ∀ x, B = some x → g ≠ x.block) (hsm : ∀ r ∈ lr, r.1.size ≤ 3) :
    Calls Try.prog 114 #[.pointer (some ⟨g, 0, none⟩), .slice B n cb] w (WriteDPost w g p A m c l) := by
  have HP := Lib.hid hp
  have HSM := Lib.hid hsm
  have hg := hrd.lt
  have x0 := BoxC.new w 73 #[.string ⟨#[]⟩, .int .i64 0, .bool false]
  have b0 := bel_alloc (Below.refl _ w) (.cells #[.string ⟨#[]⟩, .int .i64 0, .bool false] 73)
  clear hp hsm
  go_enter Try.func114, Try.ntmps114
  go_wp2_with fail
  generalize w.alloc (.cells #[.string ⟨#[]⟩, .int .i64 0, .bool false] 73) = w0 at *
  refine (l1Near g p A m c l B n cb lr w0 (hrd.on b0) (by have := HP.out; omega) (hs.on b0) hn hne HSM.out).mono ?_
  rintro e w1 ⟨key, p1, rfl, hkey, hp1, r1, t1⟩
  have hgw : w.heap.size ≠ g := by omega
  have x1 := x0.turn t1 (fun x hx => by cases hx; exact hgw)
  have T1 := (Turn.of_below (A := some ⟨g, 0, none⟩) b0).trans t1
  have hw1lt : w.heap.size < w1.heap.size := x1.lt
  have HP1 := Lib.hid hp1
  clear hs hne x0 hrd b0 t1 hp1
  go_wp2_with fail
  refine (l1Value g p1 A m c l w1 r1 (by have := HP.out; have := HP1.out; omega)).mono ?_
  rintro e w2 ⟨num, rfl, -, r2, t2⟩
  replace x1 := (x1.turn t2 (fun x hx => by cases hx; exact hgw)).alloc (.cells #[.string key, .int .i64 num, .bool false] 73)
  have x5 := BoxC.new w2 73 #[.string key, .int .i64 num, .bool false]
  have r3 := r2.on (bel_alloc (Below.refl _ w2) (.cells #[.string key, .int .i64 num, .bool false] 73))
  have T2 := (T1.trans t2).alloc (.cells #[.string key, .int .i64 num, .bool false] 73)
  have hgD : g < w2.heap.size := r2.lt
  have hwD : w.heap.size < w2.heap.size := Nat.lt_of_lt_of_le hw1lt t2.size
  clear r1 r2 T1 t2
  go_wp2_with fail
  obtain ⟨D, hD⟩ : ∃ D, w2.heap.size = D := ⟨_, rfl⟩
  rw [hD] at x5 hgD hwD
  rw [hD]
  clear hD
  generalize w2.alloc (.cells #[.string key, .int .i64 num, .bool false] 73) = w3 at *
  refine (pick g (p1 + 2) 12 A m c l w3 r3 (by omega) (by omega) (by have := HP.out; have := HP1.out; omega)).mono ?_
  rintro e w4 ⟨v, rfl, hv, r4, t4⟩
  replace x1 := x1.turn t4 (fun x hx => by cases hx; exact hgw)
  replace x5 := x5.turn t4 (fun x hx => by cases hx; simp only; omega)
  have T4 := T2.trans t4
  have d0 := x5.c (k := 0) rfl
  have d1 := x5.c (k := 1) rfl
  have d2 := x5.c (k := 2) rfl
  have df := x5.f 2
  have c0 := x1.c (k := 0) rfl
  have c1 := x1.c (k := 1) rfl
  have c2 := x1.c (k := 2) rfl
  have f0 := x1.f 0
  have f1 := x1.f 1
  have f2 := x1.f 2
  clear r3 T2 t4
  have HR := Lib.hid r4
  have HT := Lib.hid T4
  clear r4 T4
  have hcase : v = 0 ∨ v = 1 ∨ v = 2 ∨ v = 3 ∨ 4 ≤ v := by omega
  rcases hcase with rfl | rfl | rfl | rfl | hv4
  · skip
    have x1b := x1
    have RR := HR
    have TT := HT
    have z := ((x1b.set 0 (.string key)).set 1 (.int .i64 0)).set 2 (.bool true)
    have z0 := z.c (k := 0) rfl
    have z1 := z.c (k := 1) rfl
    have z2 := z.c (k := 2) rfl
    go_wp2_with fail
    exact bodyPost_ret (v := .agg #[.string key, .int .i64 0, .bool true]) (by simp [results, Try.results114, go_sem, z0, z1, z2]) rfl ⟨key, 0, true, p1 + 2 + 1, rfl, hkey, by have := HP1.out; omega, ((RR.out.setB 0 _ hg).setB 1 _ hg).setB 2 _ hg, ((TT.out.setOwn (Nat.le_refl _) _).setOwn (Nat.le_refl _) _).setOwn (Nat.le_refl _) _⟩
  · skip
    have x1b := x1
    have RR := HR
    have TT := HT
    have z := ((x1b.set 0 (.string key)).set 1 (.int .i64 0)).set 2 (.bool true)
    have z0 := z.c (k := 0) rfl
    have z1 := z.c (k := 1) rfl
    have z2 := z.c (k := 2) rfl
    go_wp2_with fail
    exact bodyPost_ret (v := .agg #[.string key, .int .i64 0, .bool true]) (by simp [results, Try.results114, go_sem, z0, z1, z2]) rfl ⟨key, 0, true, p1 + 2 + 1, rfl, hkey, by have := HP1.out; omega, ((RR.out.setB 0 _ hg).setB 1 _ hg).setB 2 _ hg, ((TT.out.setOwn (Nat.le_refl _) _).setOwn (Nat.le_refl _) _).setOwn (Nat.le_refl _) _⟩
  · skip
    have x1b := x1
    have RR := HR
    have TT := HT
    have z := ((x1b.set 0 (.string key)).set 1 (.int .i64 0)).set 2 (.bool true)
    have z0 := z.c (k := 0) rfl
    have z1 := z.c (k := 1) rfl
    have z2 := z.c (k := 2) rfl
    go_wp2_with fail
    exact bodyPost_ret (v := .agg #[.string key, .int .i64 0, .bool true]) (by simp [results, Try.results114, go_sem, z0, z1, z2]) rfl ⟨key, 0, true, p1 + 2 + 1, rfl, hkey, by have := HP1.out; omega, ((RR.out.setB 0 _ hg).setB 1 _ hg).setB 2 _ hg, ((TT.out.setOwn (Nat.le_refl _) _).setOwn (Nat.le_refl _) _).setOwn (Nat.le_refl _) _⟩
  · skip
    have x5b := x5.set 2 (.bool true)
    have d0b := x5b.c (k := 0) rfl
    have d1b := x5b.c (k := 1) rfl
    have d2b := x5b.c (k := 2) rfl
    have x1b := x1.other (B' := D) (k := 2) (x := .bool true) (by omega)
    have RR := Lib.hid (HR.out.setB 2 (.bool true) (B := D) hgD)
    have TT := Lib.hid (HT.out.setOwn (d := D) (o := 2) (by omega) (.bool true))
    have c0b := x1b.c (k := 0) rfl
    have c1b := x1b.c (k := 1) rfl
    have c2b := x1b.c (k := 2) rfl
    have f0b := x1b.f 0
    have f1b := x1b.f 1
    have f2b := x1b.f 2
    have z := ((x1b.set 0 (.string key)).set 1 (.int .i64 num)).set 2 (.bool true)
    have z0 := z.c (k := 0) rfl
    have z1 := z.c (k := 1) rfl
    have z2 := z.c (k := 2) rfl
    go_wp2_with fail
    exact bodyPost_ret (v := .agg #[.string key, .int .i64 num, .bool true]) (by simp [results, Try.results114, go_sem, z0, z1, z2]) rfl ⟨key, num, true, p1 + 2 + 1, rfl, hkey, by have := HP1.out; omega, ((RR.out.setB 0 _ hg).setB 1 _ hg).setB 2 _ hg, ((TT.out.setOwn (Nat.le_refl _) _).setOwn (Nat.le_refl _) _).setOwn (Nat.le_refl _) _⟩
  · have n0 : ((v : Int) == 0) = false := by simp; omega
    have n1 : ((v : Int) == 1) = false := by simp; omega
    have n2 : ((v : Int) == 2) = false := by simp; omega
    have n3 : ((v : Int) == 3) = false := by simp; omega
    have x1b := x1
    have RR := HR
    have TT := HT
    have z := ((x1b.set 0 (.string key)).set 1 (.int .i64 num)).set 2 (.bool false)
    have z0 := z.c (k := 0) rfl
    have z1 := z.c (k := 1) rfl
    have z2 := z.c (k := 2) rfl
    go_wp2_with fail
    exact bodyPost_ret (v := .agg #[.string key, .int .i64 num, .bool false]) (by simp [results, Try.results114, go_sem, z0, z1, z2]) rfl ⟨key, num, false, p1 + 2 + 1, rfl, hkey, by have := HP1.out; omega, ((RR.out.setB 0 _ hg).setB 1 _ hg).setB 2 _ hg, ((TT.out.setOwn (Nat.le_refl _) _).setOwn (Nat.le_refl _) _).setOwn (Nat.le_refl _) _⟩
def PutRPost (w : World) (now : Int) (k : Nat) (e : Ending) (w' : World) : Prop :=
  ∃ (at2 : Int) (A : Option Addr) (c : Nat) (l : List Write) (code : Int), e = .returned (.tuple #[.agg #[.int .i64 at2, .slice A l.length c], .int .i64 code]) ∧ Own encWrite 3 73 w' w.heap.size (.slice A l.length c) l ∧ SmallW l ∧ l.length ≤ k ∧ 0 ≤ at2 ∧ at2 ≤ now ∧ Below w.heap.size w w'
set_option maxHeartbeats 8000000 in
set_option maxRecDepth 100000 in
theorem workPut (now : Int) (A : Option Addr) (n c : Nat) (lv : List Ver) (at_ : Int) (B : Option Addr) (m d : Nat) (lw : List Write) (key : ByteArray) (num : Int) (gone : Bool) (w : World) (hr : Sl encVer w w.heap.size A n lv) (hP : VersP now lv) (h0 : 0 ≤ at_) (h1 : at_ ≤ now) (hs : Sl encWrite w w.heap.size B m lw) (hk : SmallW lw) (hm : m ≤ 50) (hkey : key.size ≤ 3) :
    Calls Try.prog 113 #[.agg #[.int .i64 now, .slice A n c], .agg #[.int .i64 at_, .slice B m d], .agg #[.string key, .int .i64 num, .bool gone]] w (PutRPost w now (m + 1)) := by
  have HR := Lib.hid hr
  have HP := Lib.hid hP
  have HS := Lib.hid hs
  have HK := Lib.hid hk
  have HM := Lib.hid hm
  have HL := Lib.hid hs.len
  have HKEY := Lib.hid hkey
  have HN : Hid (n ≤ 60) := Lib.hid (by have := hP.1.2.2; rw [hr.len] at this; exact this)
  clear hr hP hs hk hm hkey
  have x3 := (((BoxC.new w 39 #[.int .i64 now, .slice A n c]).alloc (.cells #[.int .i64 at_, .slice B m d] 29)).alloc (.cells #[.string key, .int .i64 num, .bool gone] 73)).alloc (.cells #[.int .i64 0, .slice none 0 0] 29)
  have x4 := ((BoxC.new (w.alloc (.cells #[.int .i64 now, .slice A n c] 39)) 29 #[.int .i64 at_, .slice B m d]).alloc (.cells #[.string key, .int .i64 num, .bool gone] 73)).alloc (.cells #[.int .i64 0, .slice none 0 0] 29)
  have x5 := (BoxC.new ((w.alloc (.cells #[.int .i64 now, .slice A n c] 39)).alloc (.cells #[.int .i64 at_, .slice B m d] 29)) 73 #[.string key, .int .i64 num, .bool gone]).alloc (.cells #[.int .i64 0, .slice none 0 0] 29)
  have x6 := BoxC.new (((w.alloc (.cells #[.int .i64 now, .slice A n c] 39)).alloc (.cells #[.int .i64 at_, .slice B m d] 29)).alloc (.cells #[.string key, .int .i64 num, .bool gone] 73)) 29 #[.int .i64 0, .slice none 0 0]
  simp only [World.size_alloc] at x4 x5 x6
  have b4 := bel_alloc (bel_alloc (bel_alloc (bel_alloc (Below.refl _ w) (.cells #[.int .i64 now, .slice A n c] 39)) (.cells #[.int .i64 at_, .slice B m d] 29)) (.cells #[.string key, .int .i64 num, .bool gone] 73)) (.cells #[.int .i64 0, .slice none 0 0] 29)
  have qx3_0 := x3.c (k := 0) rfl
  have qx3_1 := x3.c (k := 1) rfl
  have qx4_0 := x4.c (k := 0) rfl
  have qx4_1 := x4.c (k := 1) rfl
  have qx5_0 := x5.c (k := 0) rfl
  have qx5_1 := x5.c (k := 1) rfl
  have qx5_2 := x5.c (k := 2) rfl
  go_enter Try.func113, Try.ntmps113
  go_wp2_with fail
  generalize (((w.alloc (.cells #[.int .i64 now, .slice A n c] 39)).alloc (.cells #[.int .i64 at_, .slice B m d] 29)).alloc (.cells #[.string key, .int .i64 num, .bool gone] 73)).alloc (.cells #[.int .i64 0, .slice none 0 0] 29) = w0 at *
  refine (workOk now A n c lv at_ B m d lw _ (HR.out.on b4) HP.out h0 h1 (HS.out.on b4) HK.out (by have := HM.out; omega)).mono ?_
  rintro e w1 ⟨b, rfl, hb1⟩
  replace x3 := x3.on hb1
  replace x4 := x4.on hb1
  replace x5 := x5.on hb1
  replace x6 := x6.on hb1
  replace b4 := bel_trans b4 hb1
  replace qx3_0 := x3.c (k := 0) rfl
  replace qx3_1 := x3.c (k := 1) rfl
  replace qx4_0 := x4.c (k := 0) rfl
  replace qx4_1 := x4.c (k := 1) rfl
  replace qx5_0 := x5.c (k := 0) rfl
  replace qx5_1 := x5.c (k := 1) rfl
  replace qx5_2 := x5.c (k := 2) rfl
  clear hb1
  cases b
  · skip
    have oc : Own encWrite 3 73 w1 w.heap.size (.slice none 0 0) ([] : List Write) := Own.nil _ _
    have s0 := x6.c (k := 0) rfl
    have s1 := x6.c (k := 1) rfl
    have f0 := x6.f 0
    have f1 := x6.f 1
    have z := (x6.set 0 (.int .i64 0)).set 1 (.slice none 0 0)
    have z0 := z.c (k := 0) rfl
    have z1 := z.c (k := 1) rfl
    have HOO := Lib.hid oc
    have HBB := Lib.hid b4
    have HX6 := Lib.hid x6
    clear b4
    go_wp2_with fail
    exact bodyPost_ret (v := .tuple #[.agg #[.int .i64 0, .slice none 0 0], .int .i64 1]) (by simp [results, Try.results113, go_sem, z0, z1]) rfl ⟨_, _, _, _, _, rfl, (HOO.out.box HX6.out (by decide)).box (HX6.out.set 0 _) (by decide), SmallW.nil, (by simp), (Int.le_refl _), (by have := HP.out.1.1; omega), bel_set (bel_set HBB.out (by simp only; omega) _) (by simp only; omega) _⟩
  · skip
    have ls := Sl.lit1 (enc := encWrite) w1 #[.string key, .int .i64 num, .bool gone] 73 (key, num, gone) rfl
    go_wp2_with fail
    replace x3 := x3.alloc (.cells #[.string key, .int .i64 num, .bool gone] 73)
    replace x4 := x4.alloc (.cells #[.string key, .int .i64 num, .bool gone] 73)
    replace x5 := x5.alloc (.cells #[.string key, .int .i64 num, .bool gone] 73)
    replace x6 := x6.alloc (.cells #[.string key, .int .i64 num, .bool gone] 73)
    replace b4 := bel_alloc b4 (.cells #[.string key, .int .i64 num, .bool gone] 73)
    replace qx3_0 := x3.c (k := 0) rfl
    replace qx3_1 := x3.c (k := 1) rfl
    replace qx4_0 := x4.c (k := 0) rfl
    replace qx4_1 := x4.c (k := 1) rfl
    replace qx5_0 := x5.c (k := 0) rfl
    replace qx5_1 := x5.c (k := 1) rfl
    replace qx5_2 := x5.c (k := 2) rfl
    refine (Wx.specWritesOk (some ⟨w1.heap.size, 0, none⟩) 1 1 [(key, num, gone)] _ ls (SmallW.one (x := (key, num, gone)) HKEY.out).wf (by omega)).mono ?_
    rintro e w2 ⟨rfl, hb2⟩
    replace x3 := x3.on hb2
    replace x4 := x4.on hb2
    replace x5 := x5.on hb2
    replace x6 := x6.on hb2
    replace b4 := bel_trans b4 hb2
    replace qx3_0 := x3.c (k := 0) rfl
    replace qx3_1 := x3.c (k := 1) rfl
    replace qx4_0 := x4.c (k := 0) rfl
    replace qx4_1 := x4.c (k := 1) rfl
    replace qx5_0 := x5.c (k := 0) rfl
    replace qx5_1 := x5.c (k := 1) rfl
    replace qx5_2 := x5.c (k := 2) rfl
    clear hb2
    cases hok : Wx.writesOk 6 [(key, num, gone)]
    · clear hok
      go_wp2_with fail
      have hzc := b4.size
      refine (l3Copy at_ B m d lw _ (HS.out.on b4) (by have := HM.out; omega)).mono ?_
      rintro e wc ⟨AC, cC, rfl, oc, hbc⟩
      replace x3 := x3.on hbc
      replace x4 := x4.on hbc
      replace x5 := x5.on hbc
      replace x6 := x6.on hbc
      replace b4 := bel_trans b4 hbc
      replace qx3_0 := x3.c (k := 0) rfl
      replace qx3_1 := x3.c (k := 1) rfl
      replace qx4_0 := x4.c (k := 0) rfl
      replace qx4_1 := x4.c (k := 1) rfl
      replace qx5_0 := x5.c (k := 0) rfl
      replace qx5_1 := x5.c (k := 1) rfl
      replace qx5_2 := x5.c (k := 2) rfl
      clear hbc
      have s0 := x6.c (k := 0) rfl
      have s1 := x6.c (k := 1) rfl
      have f0 := x6.f 0
      have f1 := x6.f 1
      have z := (x6.set 0 (.int .i64 at_)).set 1 (.slice AC lw.length cC)
      have z0 := z.c (k := 0) rfl
      have z1 := z.c (k := 1) rfl
      have HOO := Lib.hid (oc.lower hzc)
      have HBB := Lib.hid b4
      have HX6 := Lib.hid x6
      clear b4
      go_wp2_with fail
      exact bodyPost_ret (v := .tuple #[.agg #[.int .i64 at_, .slice AC lw.length cC], .int .i64 1]) (by simp [results, Try.results113, go_sem, z0, z1]) rfl ⟨_, _, _, _, _, rfl, (HOO.out.box HX6.out (by decide)).box (HX6.out.set 0 _) (by decide), HK.out, (by have := HL.out; have := HM.out; omega), h0, h1, bel_set (bel_set HBB.out (by simp only; omega) _) (by simp only; omega) _⟩
    · clear hok
      by_cases hlast : at_ < lastL lv key
      · skip
        go_wp2_with fail
        refine wp_region_held_drew (S := (fun W' => (W'.cell? ⟨w.heap.size, 0, none⟩ = some (.int .i64 now) ∧ W'.cell? ⟨w.heap.size, 1, none⟩ = some (.slice A n c) ∧ W'.cell? ⟨w.heap.size + 1, 0, none⟩ = some (.int .i64 at_) ∧ W'.cell? ⟨w.heap.size + 1, 1, none⟩ = some (.slice B m d)) ∧ W'.cell? ⟨w.heap.size + 1 + 1, 0, none⟩ = some (.string key) ∧ W'.cell? ⟨w.heap.size + 1 + 1, 1, none⟩ = some (.int .i64 num) ∧ W'.cell? ⟨w.heap.size + 1 + 1, 2, none⟩ = some (.bool gone))) (by kernel_rfl) ⟨⟨qx3_0, qx3_1, qx4_0, qx4_1⟩, qx5_0, qx5_1, qx5_2⟩ (fun hHeld => ?_)
        replace x3 := x3.drew
        replace x4 := x4.drew
        replace x5 := x5.drew
        replace x6 := x6.drew
        replace b4 := b4.drew
        replace qx3_0 := x3.c (k := 0) rfl
        replace qx3_1 := x3.c (k := 1) rfl
        replace qx4_0 := x4.c (k := 0) rfl
        replace qx4_1 := x4.c (k := 1) rfl
        replace qx5_0 := x5.c (k := 0) rfl
        replace qx5_1 := x5.c (k := 1) rfl
        replace qx5_2 := x5.c (k := 2) rfl
        generalize w2.drew = wd at *
        refine wpAnyH_take (i := 0) (oi := { dst := some 20, op := Go.Op.load 39 (Go.Operand.tmp 3), type := 39, pos := "l3_work.go:70", after := #[], guard := none }) (v := ?_) rfl (by kernel_rfl) (by kernel_rfl) (by kernel_rfl) (fun _ _ _ h => h) (Or.inl ⟨by rfl, ?hy1_0⟩) (by assumption) ?_
        case hy1_0 => ((intro w hSw; (try dsimp only at hSw); go_simp); try with_reducible rfl)
        try simp only [Act.put, List.setIfInBounds_toArray, List.set_cons_zero, List.set_cons_succ]
        refine wpAnyH_take (i := 1) (oi := { dst := some 21, op := Go.Op.fieldAddr 73 (Go.Operand.tmp 5) 0, type := 0, pos := "l3_work.go:70", after := #[], guard := none }) (v := ?_) rfl (by kernel_rfl) (by kernel_rfl) (by kernel_rfl) (fun _ _ _ h => h) (Or.inl ⟨by rfl, ?hy1_1⟩) (by assumption) ?_
        case hy1_1 => ((intro w hSw; (try dsimp only at hSw); go_simp); try with_reducible rfl)
        try simp only [Act.put, List.setIfInBounds_toArray, List.set_cons_zero, List.set_cons_succ]
        refine wpAnyH_take (i := 2) (oi := { dst := some 22, op := Go.Op.load 9 (Go.Operand.tmp 21), type := 9, pos := "l3_work.go:70", after := #[{ on := 1, ground := Go.Ground.data }], guard := none }) (v := ?_) rfl (by kernel_rfl) (by kernel_rfl) (by kernel_rfl) (fun _ _ _ h => h) (Or.inl ⟨by rfl, ?hy1_2⟩) (by assumption) ?_
        case hy1_2 => ((intro w hSw; (try dsimp only at hSw); go_simp); try with_reducible rfl)
        try simp only [Act.put, List.setIfInBounds_toArray, List.set_cons_zero, List.set_cons_succ]
        refine wpAnyH_take (i := 4) (oi := { dst := some 24, op := Go.Op.fieldAddr 29 (Go.Operand.tmp 4) 0, type := 0, pos := "l3_work.go:70", after := #[], guard := none }) (v := ?_) rfl (by kernel_rfl) (by kernel_rfl) (by kernel_rfl) (fun _ _ _ h => h) (Or.inl ⟨by rfl, ?hy1_4⟩) (by assumption) ?_
        case hy1_4 => ((intro w hSw; (try dsimp only at hSw); go_simp); try with_reducible rfl)
        try simp only [Act.put, List.setIfInBounds_toArray, List.set_cons_zero, List.set_cons_succ]
        refine wpAnyH_take (i := 5) (oi := { dst := some 25, op := Go.Op.load 3 (Go.Operand.tmp 24), type := 3, pos := "l3_work.go:70", after := #[{ on := 4, ground := Go.Ground.data }], guard := none }) (v := ?_) rfl (by kernel_rfl) (by kernel_rfl) (by kernel_rfl) (fun _ _ _ h => h) (Or.inl ⟨by rfl, ?hy1_5⟩) (by assumption) ?_
        case hy1_5 => ((intro w hSw; (try dsimp only at hSw); go_simp); try with_reducible rfl)
        try simp only [Act.put, List.setIfInBounds_toArray, List.set_cons_zero, List.set_cons_succ]
        refine wpAnyH_ready (rs := [3]) (by kernel_rfl) (by simp) ?_
        refine (AllReadyH.cons (o := { dst := some 23, op := Go.Op.call { callee := Go.Callee.value (Go.Operand.func 93), args := #[Go.Operand.tmp 20, Go.Operand.tmp 22], argTypes := #[39, 9] }, type := 3, pos := "l3_work.go:70", after := #[{ on := 0, ground := Go.Ground.data }, { on := 2, ground := Go.Ground.data }], guard := none }) rfl (fun K hK => ?_) AllReadyH.nil)
        go_simp
        refine (l2Last now A n c lv key _ (HR.out.on b4) (by have := HN.out; omega)).mono ?_
        rintro e w3 ⟨rfl, hb3⟩
        replace x3 := x3.on hb3
        replace x4 := x4.on hb3
        replace x5 := x5.on hb3
        replace x6 := x6.on hb3
        replace b4 := bel_trans b4 hb3
        replace qx3_0 := x3.c (k := 0) rfl
        replace qx3_1 := x3.c (k := 1) rfl
        replace qx4_0 := x4.c (k := 0) rfl
        replace qx4_1 := x4.c (k := 1) rfl
        replace qx5_0 := x5.c (k := 0) rfl
        replace qx5_1 := x5.c (k := 1) rfl
        replace qx5_2 := x5.c (k := 2) rfl
        clear hb3
        go_wp2_with fail
        refine hK.out _ _ ⟨⟨qx3_0, qx3_1, qx4_0, qx4_1⟩, qx5_0, qx5_1, qx5_2⟩ (fun hHeld => ?_)
        clear hK K
        try simp only [Act.put, List.setIfInBounds_toArray, List.set_cons_zero, List.set_cons_succ]
        refine wpAnyH_take (i := 6) (oi := { dst := some 26, op := Go.Op.binOp Go.BinOp.gtr 3 (Go.Operand.tmp 23) (Go.Operand.tmp 25) 3, type := 4, pos := "l3_work.go:70", after := #[{ on := 3, ground := Go.Ground.data }, { on := 5, ground := Go.Ground.data }], guard := none }) (v := ?_) rfl (by kernel_rfl) (by kernel_rfl) (by kernel_rfl) (fun _ _ _ h => h) (Or.inl ⟨by rfl, ?hy1_6⟩) (by assumption) ?_
        case hy1_6 => ((intro w hSw; (try dsimp only at hSw); go_simp); try with_reducible rfl)
        try simp only [Act.put, List.setIfInBounds_toArray, List.set_cons_zero, List.set_cons_succ]
        refine wpAnyH_done (by kernel_rfl) ?_ _
        go_wp2_with fail
        have hzc := b4.size
        refine (l3Copy at_ B m d lw _ (HS.out.on b4) (by have := HM.out; omega)).mono ?_
        rintro e wc ⟨AC, cC, rfl, oc, hbc⟩
        replace x3 := x3.on hbc
        replace x4 := x4.on hbc
        replace x5 := x5.on hbc
        replace x6 := x6.on hbc
        replace b4 := bel_trans b4 hbc
        replace qx3_0 := x3.c (k := 0) rfl
        replace qx3_1 := x3.c (k := 1) rfl
        replace qx4_0 := x4.c (k := 0) rfl
        replace qx4_1 := x4.c (k := 1) rfl
        replace qx5_0 := x5.c (k := 0) rfl
        replace qx5_1 := x5.c (k := 1) rfl
        replace qx5_2 := x5.c (k := 2) rfl
        clear hbc
        have s0 := x6.c (k := 0) rfl
        have s1 := x6.c (k := 1) rfl
        have f0 := x6.f 0
        have f1 := x6.f 1
        have z := (x6.set 0 (.int .i64 at_)).set 1 (.slice AC lw.length cC)
        have z0 := z.c (k := 0) rfl
        have z1 := z.c (k := 1) rfl
        have HOO := Lib.hid (oc.lower hzc)
        have HBB := Lib.hid b4
        have HX6 := Lib.hid x6
        clear b4
        go_wp2_with fail
        exact bodyPost_ret (v := .tuple #[.agg #[.int .i64 at_, .slice AC lw.length cC], .int .i64 2]) (by simp [results, Try.results113, go_sem, z0, z1]) rfl ⟨_, _, _, _, _, rfl, (HOO.out.box HX6.out (by decide)).box (HX6.out.set 0 _) (by decide), HK.out, (by have := HL.out; have := HM.out; omega), h0, h1, bel_set (bel_set HBB.out (by simp only; omega) _) (by simp only; omega) _⟩
      · skip
        go_wp2_with fail
        refine wp_region_held_drew (S := (fun W' => (W'.cell? ⟨w.heap.size, 0, none⟩ = some (.int .i64 now) ∧ W'.cell? ⟨w.heap.size, 1, none⟩ = some (.slice A n c) ∧ W'.cell? ⟨w.heap.size + 1, 0, none⟩ = some (.int .i64 at_) ∧ W'.cell? ⟨w.heap.size + 1, 1, none⟩ = some (.slice B m d)) ∧ W'.cell? ⟨w.heap.size + 1 + 1, 0, none⟩ = some (.string key) ∧ W'.cell? ⟨w.heap.size + 1 + 1, 1, none⟩ = some (.int .i64 num) ∧ W'.cell? ⟨w.heap.size + 1 + 1, 2, none⟩ = some (.bool gone))) (by kernel_rfl) ⟨⟨qx3_0, qx3_1, qx4_0, qx4_1⟩, qx5_0, qx5_1, qx5_2⟩ (fun hHeld => ?_)
        replace x3 := x3.drew
        replace x4 := x4.drew
        replace x5 := x5.drew
        replace x6 := x6.drew
        replace b4 := b4.drew
        replace qx3_0 := x3.c (k := 0) rfl
        replace qx3_1 := x3.c (k := 1) rfl
        replace qx4_0 := x4.c (k := 0) rfl
        replace qx4_1 := x4.c (k := 1) rfl
        replace qx5_0 := x5.c (k := 0) rfl
        replace qx5_1 := x5.c (k := 1) rfl
        replace qx5_2 := x5.c (k := 2) rfl
        generalize w2.drew = wd at *
        refine wpAnyH_take (i := 0) (oi := { dst := some 20, op := Go.Op.load 39 (Go.Operand.tmp 3), type := 39, pos := "l3_work.go:70", after := #[], guard := none }) (v := ?_) rfl (by kernel_rfl) (by kernel_rfl) (by kernel_rfl) (fun _ _ _ h => h) (Or.inl ⟨by rfl, ?hy2_0⟩) (by assumption) ?_
        case hy2_0 => ((intro w hSw; (try dsimp only at hSw); go_simp); try with_reducible rfl)
        try simp only [Act.put, List.setIfInBounds_toArray, List.set_cons_zero, List.set_cons_succ]
        refine wpAnyH_take (i := 1) (oi := { dst := some 21, op := Go.Op.fieldAddr 73 (Go.Operand.tmp 5) 0, type := 0, pos := "l3_work.go:70", after := #[], guard := none }) (v := ?_) rfl (by kernel_rfl) (by kernel_rfl) (by kernel_rfl) (fun _ _ _ h => h) (Or.inl ⟨by rfl, ?hy2_1⟩) (by assumption) ?_
        case hy2_1 => ((intro w hSw; (try dsimp only at hSw); go_simp); try with_reducible rfl)
        try simp only [Act.put, List.setIfInBounds_toArray, List.set_cons_zero, List.set_cons_succ]
        refine wpAnyH_take (i := 2) (oi := { dst := some 22, op := Go.Op.load 9 (Go.Operand.tmp 21), type := 9, pos := "l3_work.go:70", after := #[{ on := 1, ground := Go.Ground.data }], guard := none }) (v := ?_) rfl (by kernel_rfl) (by kernel_rfl) (by kernel_rfl) (fun _ _ _ h => h) (Or.inl ⟨by rfl, ?hy2_2⟩) (by assumption) ?_
        case hy2_2 => ((intro w hSw; (try dsimp only at hSw); go_simp); try with_reducible rfl)
        try simp only [Act.put, List.setIfInBounds_toArray, List.set_cons_zero, List.set_cons_succ]
        refine wpAnyH_take (i := 4) (oi := { dst := some 24, op := Go.Op.fieldAddr 29 (Go.Operand.tmp 4) 0, type := 0, pos := "l3_work.go:70", after := #[], guard := none }) (v := ?_) rfl (by kernel_rfl) (by kernel_rfl) (by kernel_rfl) (fun _ _ _ h => h) (Or.inl ⟨by rfl, ?hy2_4⟩) (by assumption) ?_
        case hy2_4 => ((intro w hSw; (try dsimp only at hSw); go_simp); try with_reducible rfl)
        try simp only [Act.put, List.setIfInBounds_toArray, List.set_cons_zero, List.set_cons_succ]
        refine wpAnyH_take (i := 5) (oi := { dst := some 25, op := Go.Op.load 3 (Go.Operand.tmp 24), type := 3, pos := "l3_work.go:70", after := #[{ on := 4, ground := Go.Ground.data }], guard := none }) (v := ?_) rfl (by kernel_rfl) (by kernel_rfl) (by kernel_rfl) (fun _ _ _ h => h) (Or.inl ⟨by rfl, ?hy2_5⟩) (by assumption) ?_
        case hy2_5 => ((intro w hSw; (try dsimp only at hSw); go_simp); try with_reducible rfl)
        try simp only [Act.put, List.setIfInBounds_toArray, List.set_cons_zero, List.set_cons_succ]
        refine wpAnyH_ready (rs := [3]) (by kernel_rfl) (by simp) ?_
        refine (AllReadyH.cons (o := { dst := some 23, op := Go.Op.call { callee := Go.Callee.value (Go.Operand.func 93), args := #[Go.Operand.tmp 20, Go.Operand.tmp 22], argTypes := #[39, 9] }, type := 3, pos := "l3_work.go:70", after := #[{ on := 0, ground := Go.Ground.data }, { on := 2, ground := Go.Ground.data }], guard := none }) rfl (fun K hK => ?_) AllReadyH.nil)
        go_simp
        refine (l2Last now A n c lv key _ (HR.out.on b4) (by have := HN.out; omega)).mono ?_
        rintro e w3 ⟨rfl, hb3⟩
        replace x3 := x3.on hb3
        replace x4 := x4.on hb3
        replace x5 := x5.on hb3
        replace x6 := x6.on hb3
        replace b4 := bel_trans b4 hb3
        replace qx3_0 := x3.c (k := 0) rfl
        replace qx3_1 := x3.c (k := 1) rfl
        replace qx4_0 := x4.c (k := 0) rfl
        replace qx4_1 := x4.c (k := 1) rfl
        replace qx5_0 := x5.c (k := 0) rfl
        replace qx5_1 := x5.c (k := 1) rfl
        replace qx5_2 := x5.c (k := 2) rfl
        clear hb3
        go_wp2_with fail
        refine hK.out _ _ ⟨⟨qx3_0, qx3_1, qx4_0, qx4_1⟩, qx5_0, qx5_1, qx5_2⟩ (fun hHeld => ?_)
        clear hK K
        try simp only [Act.put, List.setIfInBounds_toArray, List.set_cons_zero, List.set_cons_succ]
        refine wpAnyH_take (i := 6) (oi := { dst := some 26, op := Go.Op.binOp Go.BinOp.gtr 3 (Go.Operand.tmp 23) (Go.Operand.tmp 25) 3, type := 4, pos := "l3_work.go:70", after := #[{ on := 3, ground := Go.Ground.data }, { on := 5, ground := Go.Ground.data }], guard := none }) (v := ?_) rfl (by kernel_rfl) (by kernel_rfl) (by kernel_rfl) (fun _ _ _ h => h) (Or.inl ⟨by rfl, ?hy2_6⟩) (by assumption) ?_
        case hy2_6 => ((intro w hSw; (try dsimp only at hSw); go_simp); try with_reducible rfl)
        try simp only [Act.put, List.setIfInBounds_toArray, List.set_cons_zero, List.set_cons_succ]
        refine wpAnyH_done (by kernel_rfl) ?_ _
        go_wp2_with fail
        refine wp_region_held_drew (S := (fun W' => (W'.cell? ⟨w.heap.size, 0, none⟩ = some (.int .i64 now) ∧ W'.cell? ⟨w.heap.size, 1, none⟩ = some (.slice A n c) ∧ W'.cell? ⟨w.heap.size + 1, 0, none⟩ = some (.int .i64 at_) ∧ W'.cell? ⟨w.heap.size + 1, 1, none⟩ = some (.slice B m d)) ∧ W'.cell? ⟨w.heap.size + 1 + 1, 0, none⟩ = some (.string key) ∧ W'.cell? ⟨w.heap.size + 1 + 1, 1, none⟩ = some (.int .i64 num) ∧ W'.cell? ⟨w.heap.size + 1 + 1, 2, none⟩ = some (.bool gone))) (by kernel_rfl) ⟨⟨qx3_0, qx3_1, qx4_0, qx4_1⟩, qx5_0, qx5_1, qx5_2⟩ (fun hHeld => ?_)
        replace x3 := x3.drew
        replace x4 := x4.drew
        replace x5 := x5.drew
        replace x6 := x6.drew
        replace b4 := b4.drew
        replace qx3_0 := x3.c (k := 0) rfl
        replace qx3_1 := x3.c (k := 1) rfl
        replace qx4_0 := x4.c (k := 0) rfl
        replace qx4_1 := x4.c (k := 1) rfl
        replace qx5_0 := x5.c (k := 0) rfl
        replace qx5_1 := x5.c (k := 1) rfl
        replace qx5_2 := x5.c (k := 2) rfl
        generalize w3.drew = wd7 at *
        refine wpAnyH_take (i := 0) (oi := { dst := some 29, op := Go.Op.fieldAddr 29 (Go.Operand.tmp 4) 0, type := 0, pos := "l3_work.go:73", after := #[], guard := none }) (v := ?_) rfl (by kernel_rfl) (by kernel_rfl) (by kernel_rfl) (fun _ _ _ h => h) (Or.inl ⟨by rfl, ?hy3_0⟩) (by assumption) ?_
        case hy3_0 => ((intro w hSw; (try dsimp only at hSw); go_simp); try with_reducible rfl)
        try simp only [Act.put, List.setIfInBounds_toArray, List.set_cons_zero, List.set_cons_succ]
        refine wpAnyH_take (i := 1) (oi := { dst := some 30, op := Go.Op.load 3 (Go.Operand.tmp 29), type := 3, pos := "l3_work.go:73", after := #[{ on := 0, ground := Go.Ground.data }], guard := none }) (v := ?_) rfl (by kernel_rfl) (by kernel_rfl) (by kernel_rfl) (fun _ _ _ h => h) (Or.inl ⟨by rfl, ?hy3_1⟩) (by assumption) ?_
        case hy3_1 => ((intro w hSw; (try dsimp only at hSw); go_simp); try with_reducible rfl)
        try simp only [Act.put, List.setIfInBounds_toArray, List.set_cons_zero, List.set_cons_succ]
        refine wpAnyH_take (i := 2) (oi := { dst := some 31, op := Go.Op.fieldAddr 29 (Go.Operand.tmp 4) 1, type := 0, pos := "l3_work.go:73", after := #[], guard := none }) (v := ?_) rfl (by kernel_rfl) (by kernel_rfl) (by kernel_rfl) (fun _ _ _ h => h) (Or.inl ⟨by rfl, ?hy3_2⟩) (by assumption) ?_
        case hy3_2 => ((intro w hSw; (try dsimp only at hSw); go_simp); try with_reducible rfl)
        try simp only [Act.put, List.setIfInBounds_toArray, List.set_cons_zero, List.set_cons_succ]
        refine wpAnyH_take (i := 3) (oi := { dst := some 32, op := Go.Op.load 27 (Go.Operand.tmp 31), type := 27, pos := "l3_work.go:73", after := #[{ on := 2, ground := Go.Ground.data }], guard := none }) (v := ?_) rfl (by kernel_rfl) (by kernel_rfl) (by kernel_rfl) (fun _ _ _ h => h) (Or.inl ⟨by rfl, ?hy3_3⟩) (by assumption) ?_
        case hy3_3 => ((intro w hSw; (try dsimp only at hSw); go_simp); try with_reducible rfl)
        try simp only [Act.put, List.setIfInBounds_toArray, List.set_cons_zero, List.set_cons_succ]
        refine wpAnyH_take (i := 4) (oi := { dst := some 33, op := Go.Op.load 73 (Go.Operand.tmp 5), type := 73, pos := "l3_work.go:73", after := #[], guard := none }) (v := ?_) rfl (by kernel_rfl) (by kernel_rfl) (by kernel_rfl) (fun _ _ _ h => h) (Or.inl ⟨by rfl, ?hy3_4⟩) (by assumption) ?_
        case hy3_4 => ((intro w hSw; (try dsimp only at hSw); go_simp); try with_reducible rfl)
        try simp only [Act.put, List.setIfInBounds_toArray, List.set_cons_zero, List.set_cons_succ]
        refine wpAnyH_ready (rs := [5, 7]) (by kernel_rfl) (by simp) ?_
        refine (AllReadyH.cons (o := { dst := some 34, op := Go.Op.call { callee := Go.Callee.value (Go.Operand.func 148), args := #[Go.Operand.tmp 32, Go.Operand.tmp 33], argTypes := #[27, 73] }, type := 27, pos := "l3_work.go:73", after := #[{ on := 3, ground := Go.Ground.data }, { on := 4, ground := Go.Ground.data }], guard := none }) rfl (fun K hK => ?_) (AllReadyH.cons (o := { dst := some 8, op := Go.Op.alloc 29, type := 0, pos := "l3_work.go:73", after := #[], guard := none }) rfl (fun K hK => ?_) AllReadyH.nil))
        · go_simp
          have hz6 := b4.size
          refine (l3Put B m d lw key num gone _ (HS.out.on b4) HK.out (by have := HM.out; omega) HKEY.out).mono ?_
          rintro e w6 ⟨A6, c6, l6, rfl, o6, hS6, hl6, hb6⟩
          replace x3 := x3.on hb6
          replace x4 := x4.on hb6
          replace x5 := x5.on hb6
          replace x6 := x6.on hb6
          replace b4 := bel_trans b4 hb6
          replace qx3_0 := x3.c (k := 0) rfl
          replace qx3_1 := x3.c (k := 1) rfl
          replace qx4_0 := x4.c (k := 0) rfl
          replace qx4_1 := x4.c (k := 1) rfl
          replace qx5_0 := x5.c (k := 0) rfl
          replace qx5_1 := x5.c (k := 1) rfl
          replace qx5_2 := x5.c (k := 2) rfl
          clear hb6
          have hl6m : l6.length ≤ 51 := by have := HM.out; omega
          go_wp2_with fail
          refine hK.out _ _ ⟨⟨qx3_0, qx3_1, qx4_0, qx4_1⟩, qx5_0, qx5_1, qx5_2⟩ (fun hHeld => ?_)
          clear hK K
          try simp only [Act.put, List.setIfInBounds_toArray, List.set_cons_zero, List.set_cons_succ]
          refine wpAnyH_take (i := 6) (oi := { dst := some 35, op := Go.Op.build 29 #[(0, Go.Operand.tmp 30), (1, Go.Operand.tmp 34)], type := 29, pos := "l3_work.go:73", after := #[{ on := 1, ground := Go.Ground.data }, { on := 5, ground := Go.Ground.data }], guard := none }) (v := ?_) rfl (by kernel_rfl) (by kernel_rfl) (by kernel_rfl) (fun _ _ _ h => h) (Or.inl ⟨by rfl, ?hy5_6⟩) (by assumption) ?_
          case hy5_6 => ((intro w hSw; (try dsimp only at hSw); go_simp); try with_reducible rfl)
          try simp only [Act.put, List.setIfInBounds_toArray, List.set_cons_zero, List.set_cons_succ]
          refine wpAnyH_ready (rs := [7]) (by kernel_rfl) (by simp) ?_
          refine (AllReadyH.cons (o := { dst := some 8, op := Go.Op.alloc 29, type := 0, pos := "l3_work.go:73", after := #[], guard := none }) rfl (fun K hK => ?_) AllReadyH.nil)
          have hEb := b4.size
          have hE6 := x6.lt
          replace x3 := x3.alloc (.cells #[.int .i64 0, .slice none 0 0] 29)
          replace x4 := x4.alloc (.cells #[.int .i64 0, .slice none 0 0] 29)
          replace x5 := x5.alloc (.cells #[.int .i64 0, .slice none 0 0] 29)
          replace x6 := x6.alloc (.cells #[.int .i64 0, .slice none 0 0] 29)
          replace o6 := o6.alloc (.cells #[.int .i64 0, .slice none 0 0] 29)
          replace b4 := bel_alloc b4 (.cells #[.int .i64 0, .slice none 0 0] 29)
          replace qx3_0 := x3.c (k := 0) rfl
          replace qx3_1 := x3.c (k := 1) rfl
          replace qx4_0 := x4.c (k := 0) rfl
          replace qx4_1 := x4.c (k := 1) rfl
          replace qx5_0 := x5.c (k := 0) rfl
          replace qx5_1 := x5.c (k := 1) rfl
          replace qx5_2 := x5.c (k := 2) rfl
          have x8 : BoxC (w6.alloc (.cells #[.int .i64 0, .slice none 0 0] 29)) w6.heap.size 29 #[.int .i64 0, .slice none 0 0] := BoxC.new w6 29 #[.int .i64 0, .slice none 0 0]
          go_simp
          try go_wp2_with fail
          refine hK.out _ _ ⟨⟨qx3_0, qx3_1, qx4_0, qx4_1⟩, qx5_0, qx5_1, qx5_2⟩ (fun hHeld => ?_)
          clear hK K
          try simp only [Act.put, List.setIfInBounds_toArray, List.set_cons_zero, List.set_cons_succ]
          obtain ⟨E, hE⟩ : ∃ E, w6.heap.size = E := ⟨_, rfl⟩
          rw [hE] at x8 hE6 hEb
          rw [hE]
          generalize w6.alloc (.cells #[.int .i64 0, .slice none 0 0] 29) = wa at *
          clear hE
          refine wpAnyH_ready (rs := [8]) (by kernel_rfl) (by simp) ?_
          refine (AllReadyH.cons (o := { dst := none, op := Go.Op.store 29 (Go.Operand.tmp 8) (Go.Operand.tmp 35), type := 0, pos := "l3_work.go:73", after := #[{ on := 7, ground := Go.Ground.data }, { on := 6, ground := Go.Ground.data }, { on := 5, ground := Go.Ground.chain }, { on := 0, ground := Go.Ground.phase }, { on := 1, ground := Go.Ground.phase }, { on := 2, ground := Go.Ground.phase }, { on := 3, ground := Go.Ground.phase }, { on := 4, ground := Go.Ground.phase }, { on := 5, ground := Go.Ground.phase }, { on := 6, ground := Go.Ground.phase }, { on := 7, ground := Go.Ground.phase }], guard := none }) rfl (fun K hK => ?_) AllReadyH.nil)
          have s0 := x8.c (k := 0) rfl
          have s1 := x8.c (k := 1) rfl
          have f0 := x8.f 0
          have f1 := x8.f 1
          go_simp
          try go_wp2_with fail
          clear s0 s1 f0 f1
          replace o6 := (o6.box (k := 0) (v := .int .i64 at_) x8 (by decide)).box (k := 1) (v := .slice A6 l6.length c6) (x8.set 0 (.int .i64 at_)) (by decide)
          replace x3 := (x3.other (B' := E) (k := 0) (x := .int .i64 at_) (by omega)).other (B' := E) (k := 1) (x := .slice A6 l6.length c6) (by omega)
          replace x4 := (x4.other (B' := E) (k := 0) (x := .int .i64 at_) (by omega)).other (B' := E) (k := 1) (x := .slice A6 l6.length c6) (by omega)
          replace x5 := (x5.other (B' := E) (k := 0) (x := .int .i64 at_) (by omega)).other (B' := E) (k := 1) (x := .slice A6 l6.length c6) (by omega)
          replace x6 := (x6.other (B' := E) (k := 0) (x := .int .i64 at_) (by omega)).other (B' := E) (k := 1) (x := .slice A6 l6.length c6) (by omega)
          replace x8 := (x8.set 0 (.int .i64 at_)).set 1 (.slice A6 l6.length c6)
          replace b4 := bel_set (bel_set b4 (p := ⟨E, 0, none⟩) (by simp only; omega) (.int .i64 at_)) (p := ⟨E, 1, none⟩) (by simp only; omega) (.slice A6 l6.length c6)
          replace qx3_0 := x3.c (k := 0) rfl
          replace qx3_1 := x3.c (k := 1) rfl
          replace qx4_0 := x4.c (k := 0) rfl
          replace qx4_1 := x4.c (k := 1) rfl
          replace qx5_0 := x5.c (k := 0) rfl
          replace qx5_1 := x5.c (k := 1) rfl
          replace qx5_2 := x5.c (k := 2) rfl
          refine hK.out _ _ ⟨⟨qx3_0, qx3_1, qx4_0, qx4_1⟩, qx5_0, qx5_1, qx5_2⟩ (fun hHeld => ?_)
          clear hK K
          try simp only [Act.put, List.setIfInBounds_toArray, List.set_cons_zero, List.set_cons_succ]
          refine wpAnyH_done (by kernel_rfl) ?_ _
          have qx8_0 := x8.c (k := 0) rfl
          have qx8_1 := x8.c (k := 1) rfl
          go_wp2_with fail
          refine (workOk now A n c lv at_ A6 l6.length c6 l6 _ (HR.out.on b4) HP.out h0 h1 o6.sl hS6 (by omega)).mono ?_
          rintro e w9 ⟨b9, rfl, hb9⟩
          replace x3 := x3.on hb9
          replace x4 := x4.on hb9
          replace x5 := x5.on hb9
          replace x6 := x6.on hb9
          replace x8 := x8.on hb9
          replace o6 := o6.on hb9
          replace b4 := bel_trans b4 hb9
          replace qx3_0 := x3.c (k := 0) rfl
          replace qx3_1 := x3.c (k := 1) rfl
          replace qx4_0 := x4.c (k := 0) rfl
          replace qx4_1 := x4.c (k := 1) rfl
          replace qx5_0 := x5.c (k := 0) rfl
          replace qx5_1 := x5.c (k := 1) rfl
          replace qx5_2 := x5.c (k := 2) rfl
          replace qx8_0 := x8.c (k := 0) rfl
          replace qx8_1 := x8.c (k := 1) rfl
          clear hb9
          cases b9
          · skip
            go_wp2_with fail
            have hzc := b4.size
            refine (l3Copy at_ B m d lw _ (HS.out.on b4) (by have := HM.out; omega)).mono ?_
            rintro e wc ⟨AC, cC, rfl, oc, hbc⟩
            replace x3 := x3.on hbc
            replace x4 := x4.on hbc
            replace x5 := x5.on hbc
            replace x6 := x6.on hbc
            replace x8 := x8.on hbc
            replace o6 := o6.on hbc
            replace b4 := bel_trans b4 hbc
            replace qx3_0 := x3.c (k := 0) rfl
            replace qx3_1 := x3.c (k := 1) rfl
            replace qx4_0 := x4.c (k := 0) rfl
            replace qx4_1 := x4.c (k := 1) rfl
            replace qx5_0 := x5.c (k := 0) rfl
            replace qx5_1 := x5.c (k := 1) rfl
            replace qx5_2 := x5.c (k := 2) rfl
            replace qx8_0 := x8.c (k := 0) rfl
            replace qx8_1 := x8.c (k := 1) rfl
            clear hbc
            have s0 := x6.c (k := 0) rfl
            have s1 := x6.c (k := 1) rfl
            have f0 := x6.f 0
            have f1 := x6.f 1
            have z := (x6.set 0 (.int .i64 at_)).set 1 (.slice AC lw.length cC)
            have z0 := z.c (k := 0) rfl
            have z1 := z.c (k := 1) rfl
            have HOO := Lib.hid (oc.lower hzc)
            have HBB := Lib.hid b4
            have HX6 := Lib.hid x6
            clear b4
            go_wp2_with fail
            exact bodyPost_ret (v := .tuple #[.agg #[.int .i64 at_, .slice AC lw.length cC], .int .i64 3]) (by simp [results, Try.results113, go_sem, z0, z1]) rfl ⟨_, _, _, _, _, rfl, (HOO.out.box HX6.out (by decide)).box (HX6.out.set 0 _) (by decide), HK.out, (by have := HL.out; have := HM.out; omega), h0, h1, bel_set (bel_set HBB.out (by simp only; omega) _) (by simp only; omega) _⟩
          · skip
            have s0 := x6.c (k := 0) rfl
            have s1 := x6.c (k := 1) rfl
            have f0 := x6.f 0
            have f1 := x6.f 1
            have z := (x6.set 0 (.int .i64 at_)).set 1 (.slice A6 l6.length c6)
            have z0 := z.c (k := 0) rfl
            have z1 := z.c (k := 1) rfl
            have HOO := Lib.hid (o6.lower hz6)
            have HBB := Lib.hid b4
            have HX6 := Lib.hid x6
            clear b4
            go_wp2_with fail
            exact bodyPost_ret (v := .tuple #[.agg #[.int .i64 at_, .slice A6 l6.length c6], .int .i64 0]) (by simp [results, Try.results113, go_sem, z0, z1]) rfl ⟨_, _, _, _, _, rfl, (HOO.out.box HX6.out (by decide)).box (HX6.out.set 0 _) (by decide), hS6, (by omega), h0, h1, bel_set (bel_set HBB.out (by simp only; omega) _) (by simp only; omega) _⟩
        · skip
          have hEb := b4.size
          have hE6 := x6.lt
          replace x3 := x3.alloc (.cells #[.int .i64 0, .slice none 0 0] 29)
          replace x4 := x4.alloc (.cells #[.int .i64 0, .slice none 0 0] 29)
          replace x5 := x5.alloc (.cells #[.int .i64 0, .slice none 0 0] 29)
          replace x6 := x6.alloc (.cells #[.int .i64 0, .slice none 0 0] 29)
          replace b4 := bel_alloc b4 (.cells #[.int .i64 0, .slice none 0 0] 29)
          replace qx3_0 := x3.c (k := 0) rfl
          replace qx3_1 := x3.c (k := 1) rfl
          replace qx4_0 := x4.c (k := 0) rfl
          replace qx4_1 := x4.c (k := 1) rfl
          replace qx5_0 := x5.c (k := 0) rfl
          replace qx5_1 := x5.c (k := 1) rfl
          replace qx5_2 := x5.c (k := 2) rfl
          have x8 : BoxC (wd7.alloc (.cells #[.int .i64 0, .slice none 0 0] 29)) wd7.heap.size 29 #[.int .i64 0, .slice none 0 0] := BoxC.new wd7 29 #[.int .i64 0, .slice none 0 0]
          go_simp
          try go_wp2_with fail
          refine hK.out _ _ ⟨⟨qx3_0, qx3_1, qx4_0, qx4_1⟩, qx5_0, qx5_1, qx5_2⟩ (fun hHeld => ?_)
          clear hK K
          try simp only [Act.put, List.setIfInBounds_toArray, List.set_cons_zero, List.set_cons_succ]
          obtain ⟨E, hE⟩ : ∃ E, wd7.heap.size = E := ⟨_, rfl⟩
          rw [hE] at x8 hE6 hEb
          rw [hE]
          generalize wd7.alloc (.cells #[.int .i64 0, .slice none 0 0] 29) = wa at *
          clear hE
          refine wpAnyH_ready (rs := [5]) (by kernel_rfl) (by simp) ?_
          refine (AllReadyH.cons (o := { dst := some 34, op := Go.Op.call { callee := Go.Callee.value (Go.Operand.func 148), args := #[Go.Operand.tmp 32, Go.Operand.tmp 33], argTypes := #[27, 73] }, type := 27, pos := "l3_work.go:73", after := #[{ on := 3, ground := Go.Ground.data }, { on := 4, ground := Go.Ground.data }], guard := none }) rfl (fun K hK => ?_) AllReadyH.nil)
          go_simp
          have hz6 := b4.size
          refine (l3Put B m d lw key num gone _ (HS.out.on b4) HK.out (by have := HM.out; omega) HKEY.out).mono ?_
          rintro e w6 ⟨A6, c6, l6, rfl, o6, hS6, hl6, hb6⟩
          replace x3 := x3.on hb6
          replace x4 := x4.on hb6
          replace x5 := x5.on hb6
          replace x6 := x6.on hb6
          replace x8 := x8.on hb6
          replace b4 := bel_trans b4 hb6
          replace qx3_0 := x3.c (k := 0) rfl
          replace qx3_1 := x3.c (k := 1) rfl
          replace qx4_0 := x4.c (k := 0) rfl
          replace qx4_1 := x4.c (k := 1) rfl
          replace qx5_0 := x5.c (k := 0) rfl
          replace qx5_1 := x5.c (k := 1) rfl
          replace qx5_2 := x5.c (k := 2) rfl
          clear hb6
          have hl6m : l6.length ≤ 51 := by have := HM.out; omega
          go_wp2_with fail
          refine hK.out _ _ ⟨⟨qx3_0, qx3_1, qx4_0, qx4_1⟩, qx5_0, qx5_1, qx5_2⟩ (fun hHeld => ?_)
          clear hK K
          try simp only [Act.put, List.setIfInBounds_toArray, List.set_cons_zero, List.set_cons_succ]
          refine wpAnyH_take (i := 6) (oi := { dst := some 35, op := Go.Op.build 29 #[(0, Go.Operand.tmp 30), (1, Go.Operand.tmp 34)], type := 29, pos := "l3_work.go:73", after := #[{ on := 1, ground := Go.Ground.data }, { on := 5, ground := Go.Ground.data }], guard := none }) (v := ?_) rfl (by kernel_rfl) (by kernel_rfl) (by kernel_rfl) (fun _ _ _ h => h) (Or.inl ⟨by rfl, ?hy7_6⟩) (by assumption) ?_
          case hy7_6 => ((intro w hSw; (try dsimp only at hSw); go_simp); try with_reducible rfl)
          try simp only [Act.put, List.setIfInBounds_toArray, List.set_cons_zero, List.set_cons_succ]
          refine wpAnyH_ready (rs := [8]) (by kernel_rfl) (by simp) ?_
          refine (AllReadyH.cons (o := { dst := none, op := Go.Op.store 29 (Go.Operand.tmp 8) (Go.Operand.tmp 35), type := 0, pos := "l3_work.go:73", after := #[{ on := 7, ground := Go.Ground.data }, { on := 6, ground := Go.Ground.data }, { on := 5, ground := Go.Ground.chain }, { on := 0, ground := Go.Ground.phase }, { on := 1, ground := Go.Ground.phase }, { on := 2, ground := Go.Ground.phase }, { on := 3, ground := Go.Ground.phase }, { on := 4, ground := Go.Ground.phase }, { on := 5, ground := Go.Ground.phase }, { on := 6, ground := Go.Ground.phase }, { on := 7, ground := Go.Ground.phase }], guard := none }) rfl (fun K hK => ?_) AllReadyH.nil)
          have s0 := x8.c (k := 0) rfl
          have s1 := x8.c (k := 1) rfl
          have f0 := x8.f 0
          have f1 := x8.f 1
          go_simp
          try go_wp2_with fail
          clear s0 s1 f0 f1
          replace o6 := (o6.box (k := 0) (v := .int .i64 at_) x8 (by decide)).box (k := 1) (v := .slice A6 l6.length c6) (x8.set 0 (.int .i64 at_)) (by decide)
          replace x3 := (x3.other (B' := E) (k := 0) (x := .int .i64 at_) (by omega)).other (B' := E) (k := 1) (x := .slice A6 l6.length c6) (by omega)
          replace x4 := (x4.other (B' := E) (k := 0) (x := .int .i64 at_) (by omega)).other (B' := E) (k := 1) (x := .slice A6 l6.length c6) (by omega)
          replace x5 := (x5.other (B' := E) (k := 0) (x := .int .i64 at_) (by omega)).other (B' := E) (k := 1) (x := .slice A6 l6.length c6) (by omega)
          replace x6 := (x6.other (B' := E) (k := 0) (x := .int .i64 at_) (by omega)).other (B' := E) (k := 1) (x := .slice A6 l6.length c6) (by omega)
          replace x8 := (x8.set 0 (.int .i64 at_)).set 1 (.slice A6 l6.length c6)
          replace b4 := bel_set (bel_set b4 (p := ⟨E, 0, none⟩) (by simp only; omega) (.int .i64 at_)) (p := ⟨E, 1, none⟩) (by simp only; omega) (.slice A6 l6.length c6)
          replace qx3_0 := x3.c (k := 0) rfl
          replace qx3_1 := x3.c (k := 1) rfl
          replace qx4_0 := x4.c (k := 0) rfl
          replace qx4_1 := x4.c (k := 1) rfl
          replace qx5_0 := x5.c (k := 0) rfl
          replace qx5_1 := x5.c (k := 1) rfl
          replace qx5_2 := x5.c (k := 2) rfl
          refine hK.out _ _ ⟨⟨qx3_0, qx3_1, qx4_0, qx4_1⟩, qx5_0, qx5_1, qx5_2⟩ (fun hHeld => ?_)
          clear hK K
          try simp only [Act.put, List.setIfInBounds_toArray, List.set_cons_zero, List.set_cons_succ]
          refine wpAnyH_done (by kernel_rfl) ?_ _
          have qx8_0 := x8.c (k := 0) rfl
          have qx8_1 := x8.c (k := 1) rfl
          go_wp2_with fail
          refine (workOk now A n c lv at_ A6 l6.length c6 l6 _ (HR.out.on b4) HP.out h0 h1 o6.sl hS6 (by omega)).mono ?_
          rintro e w9 ⟨b9, rfl, hb9⟩
          replace x3 := x3.on hb9
          replace x4 := x4.on hb9
          replace x5 := x5.on hb9
          replace x6 := x6.on hb9
          replace x8 := x8.on hb9
          replace o6 := o6.on hb9
          replace b4 := bel_trans b4 hb9
          replace qx3_0 := x3.c (k := 0) rfl
          replace qx3_1 := x3.c (k := 1) rfl
          replace qx4_0 := x4.c (k := 0) rfl
          replace qx4_1 := x4.c (k := 1) rfl
          replace qx5_0 := x5.c (k := 0) rfl
          replace qx5_1 := x5.c (k := 1) rfl
          replace qx5_2 := x5.c (k := 2) rfl
          replace qx8_0 := x8.c (k := 0) rfl
          replace qx8_1 := x8.c (k := 1) rfl
          clear hb9
          cases b9
          · skip
            go_wp2_with fail
            have hzc := b4.size
            refine (l3Copy at_ B m d lw _ (HS.out.on b4) (by have := HM.out; omega)).mono ?_
            rintro e wc ⟨AC, cC, rfl, oc, hbc⟩
            replace x3 := x3.on hbc
            replace x4 := x4.on hbc
            replace x5 := x5.on hbc
            replace x6 := x6.on hbc
            replace x8 := x8.on hbc
            replace o6 := o6.on hbc
            replace b4 := bel_trans b4 hbc
            replace qx3_0 := x3.c (k := 0) rfl
            replace qx3_1 := x3.c (k := 1) rfl
            replace qx4_0 := x4.c (k := 0) rfl
            replace qx4_1 := x4.c (k := 1) rfl
            replace qx5_0 := x5.c (k := 0) rfl
            replace qx5_1 := x5.c (k := 1) rfl
            replace qx5_2 := x5.c (k := 2) rfl
            replace qx8_0 := x8.c (k := 0) rfl
            replace qx8_1 := x8.c (k := 1) rfl
            clear hbc
            have s0 := x6.c (k := 0) rfl
            have s1 := x6.c (k := 1) rfl
            have f0 := x6.f 0
            have f1 := x6.f 1
            have z := (x6.set 0 (.int .i64 at_)).set 1 (.slice AC lw.length cC)
            have z0 := z.c (k := 0) rfl
            have z1 := z.c (k := 1) rfl
            have HOO := Lib.hid (oc.lower hzc)
            have HBB := Lib.hid b4
            have HX6 := Lib.hid x6
            clear b4
            go_wp2_with fail
            exact bodyPost_ret (v := .tuple #[.agg #[.int .i64 at_, .slice AC lw.length cC], .int .i64 3]) (by simp [results, Try.results113, go_sem, z0, z1]) rfl ⟨_, _, _, _, _, rfl, (HOO.out.box HX6.out (by decide)).box (HX6.out.set 0 _) (by decide), HK.out, (by have := HL.out; have := HM.out; omega), h0, h1, bel_set (bel_set HBB.out (by simp only; omega) _) (by simp only; omega) _⟩
          · skip
            have s0 := x6.c (k := 0) rfl
            have s1 := x6.c (k := 1) rfl
            have f0 := x6.f 0
            have f1 := x6.f 1
            have z := (x6.set 0 (.int .i64 at_)).set 1 (.slice A6 l6.length c6)
            have z0 := z.c (k := 0) rfl
            have z1 := z.c (k := 1) rfl
            have HOO := Lib.hid (o6.lower hz6)
            have HBB := Lib.hid b4
            have HX6 := Lib.hid x6
            clear b4
            go_wp2_with fail
            exact bodyPost_ret (v := .tuple #[.agg #[.int .i64 at_, .slice A6 l6.length c6], .int .i64 0]) (by simp [results, Try.results113, go_sem, z0, z1]) rfl ⟨_, _, _, _, _, rfl, (HOO.out.box HX6.out (by decide)).box (HX6.out.set 0 _) (by decide), hS6, (by omega), h0, h1, bel_set (bel_set HBB.out (by simp only; omega) _) (by simp only; omega) _⟩

def BentWPost (w : World) (g p : Nat) (k : Nat) (A : Option Addr) (m c : Nat) (l : List UInt8) (e : Ending) (w' : World) : Prop :=
  ∃ (at_ : Int) (B : Option Addr) (n2 cb : Nat) (lw : List Write) (p' : Nat), e = .returned (.agg #[.int .i64 at_, .slice B n2 cb]) ∧ Own encWrite 3 73 w' w.heap.size (.slice B n2 cb) lw ∧ n2 ≤ k + 1 ∧ p' ≤ p + 2 ∧ Rd w' g p' A m c l ∧ Turn (some ⟨g, 0, none⟩) w w'
def kb3 : List ByteArray := [⟨#[]⟩, ⟨#[65]⟩, ⟨#[122, 122]⟩]
set_option maxHeartbeats 8000000 in
set_option maxRecDepth 100000 in
theorem l3Bent (g p : Nat) (A0 : Option Addr) (m0 c0 : Nat) (l0 : List UInt8) (at_ : Int) (B : Option Addr) (m d : Nat) (lw : List Write) (w : World) (hrd : Rd w g p A0 m0 c0 l0) (hp : p ≤ 10000) (hs : Sl encWrite w w.heap.size B m lw) (hm : m ≤ 100) :
    Calls Try.prog 115 #[.pointer (some ⟨g, 0, none⟩), .agg #[.int .i64 at_, .slice B m d]] w (BentWPost w g p m A0 m0 c0 l0) := by
  have HP := Lib.hid hp
  have HM := Lib.hid hm
  have HL := Lib.hid hs.len
  have hg := hrd.lt
  obtain ⟨aw, haw⟩ : ∃ aw, IntKind.i64.wrap (at_ + 1) = aw := ⟨_, rfl⟩
  obtain ⟨i0, hi0, hz0, hz1, hz2⟩ := info_parts info73
  have x3 := (BoxC.new w 29 #[.int .i64 at_, .slice B m d]).alloc (.cells #[.int .i64 0, .slice none 0 0] 29)
  have x4 := BoxC.new (w.alloc (.cells #[.int .i64 at_, .slice B m d] 29)) 29 #[.int .i64 0, .slice none 0 0]
  simp only [World.size_alloc] at x4
  have b0 := bel_alloc (bel_alloc (Below.refl _ w) (.cells #[.int .i64 at_, .slice B m d] 29)) (.cells #[.int .i64 0, .slice none 0 0] 29)
  have r4 := hrd.on b0
  have T4 : Turn (some ⟨g, 0, none⟩) w _ := Turn.of_below b0
  have qx30 := x3.c (k := 0) rfl
  have qx31 := x3.c (k := 1) rfl
  have hs0 := hs.on b0
  clear hp hm hs hrd b0
  go_enter Try.func115, Try.ntmps115
  go_wp2_with fail
  generalize (w.alloc (.cells #[.int .i64 at_, .slice B m d] 29)).alloc (.cells #[.int .i64 0, .slice none 0 0] 29) = w0 at *
  refine (l3Copy at_ B m d lw w0 hs0 (by have := HM.out; omega)).mono ?_
  rintro e w1 ⟨A1, c1, rfl, o2, hb1⟩
  replace o2 := o2.lower (base' := w.heap.size) T4.size
  rw [HL.out] at o2 ⊢
  clear x3 qx30 qx31 hs0
  replace x4 := x4.on hb1
  replace r4 := r4.on hb1
  replace T4 := T4.below hb1
  clear hb1
  have hD1 := x4.lt
  have x5 := BoxC.new w1 29 #[.int .i64 at_, .slice A1 m c1]
  replace x4 := x4.alloc (.cells #[.int .i64 at_, .slice A1 m c1] 29)
  replace o2 := o2.alloc (.cells #[.int .i64 at_, .slice A1 m c1] 29)
  replace r4 := r4.on (bel_alloc (Below.refl _ _) (.cells #[.int .i64 at_, .slice A1 m c1] 29))
  replace T4 := T4.alloc (.cells #[.int .i64 at_, .slice A1 m c1] 29)
  have qx50 := x5.c (k := 0) rfl
  have qx51 := x5.c (k := 1) rfl
  go_wp2_with fail
  obtain ⟨D, hD⟩ : ∃ D, w1.heap.size = D := ⟨_, rfl⟩
  rw [hD] at x5 hD1 qx50 qx51
  rw [hD]
  clear hD
  generalize w1.alloc (.cells #[.int .i64 at_, .slice A1 m c1] 29) = w2 at *
  refine (pick g p 40 A0 m0 c0 l0 w2 r4 (by omega) (by omega) (by have := HP.out; omega)).mono ?_
  rintro e w3 ⟨v, rfl, hv, r3, t3⟩
  replace x4 := x4.turn t3 (fun x hx => by cases hx; simp only; omega)
  replace x5 := x5.turn t3 (fun x hx => by cases hx; simp only; omega)
  replace o2 := o2.farRd t3 hg
  replace T4 := T4.trans t3
  clear r4
  have r4 := r3
  clear r3 t3
  replace qx50 := x5.c (k := 0) rfl
  replace qx51 := x5.c (k := 1) rfl
  have qf0 := x5.f 0
  have qf1 := x5.f 1
  have hcase : v = 0 ∨ v = 1 ∨ v = 2 ∨ v = 3 ∨ 4 ≤ v := by omega
  rcases hcase with rfl | rfl | rfl | rfl | hv4
  · skip
    go_wp2_with fail
    have hgw := r4.lt
    have r5 := r4.on (bel_alloc (Below.refl _ w3) (.cells #[.int .i64 (-1), .int .i64 aw, .int .i64 41, .int .i64 9223372036854775807, .int .i64 0] 3))
    refine (numC g (p + 1) 5 5 w3.heap.size 0 A0 m0 c0 l0 [-1, aw, 41, 9223372036854775807, 0] _ r5 (by have := HP.out; omega) (Sl.lit (enc := encI) w3 #[.int .i64 (-1), .int .i64 aw, .int .i64 41, .int .i64 9223372036854775807, .int .i64 0] 3 [-1, aw, 41, 9223372036854775807, 0] rfl 5 rfl) (by omega) (by omega) (by omega)).mono ?_
    rintro e w6 ⟨s, rfl, -, r6, t6⟩
    clear r5 hgw
    replace x4 := x4.alloc (.cells #[.int .i64 (-1), .int .i64 aw, .int .i64 41, .int .i64 9223372036854775807, .int .i64 0] 3)
    replace x5 := x5.alloc (.cells #[.int .i64 (-1), .int .i64 aw, .int .i64 41, .int .i64 9223372036854775807, .int .i64 0] 3)
    replace o2 := o2.alloc (.cells #[.int .i64 (-1), .int .i64 aw, .int .i64 41, .int .i64 9223372036854775807, .int .i64 0] 3)
    replace r4 := r4.on (bel_alloc (Below.refl _ _) (.cells #[.int .i64 (-1), .int .i64 aw, .int .i64 41, .int .i64 9223372036854775807, .int .i64 0] 3))
    replace T4 := T4.alloc (.cells #[.int .i64 (-1), .int .i64 aw, .int .i64 41, .int .i64 9223372036854775807, .int .i64 0] 3)
    replace qx50 := x5.c (k := 0) rfl
    replace qx51 := x5.c (k := 1) rfl
    replace x4 := x4.turn t6 (fun x hx => by cases hx; simp only; omega)
    replace x5 := x5.turn t6 (fun x hx => by cases hx; simp only; omega)
    replace o2 := o2.farRd t6 hg
    replace T4 := T4.trans t6
    clear r4
    have r4 := r6
    clear r6 t6
    replace qx50 := x5.c (k := 0) rfl
    replace qx51 := x5.c (k := 1) rfl
    replace qf0 := x5.f 0
    have y5 := x5.set 0 (.int .i64 s)
    have y4 := x4.other (B' := D) (k := 0) (x := .int .i64 s) (by omega)
    have d0 := y5.c (k := 0) rfl
    have d1 := y5.c (k := 1) rfl
    have O6 := Lib.hid (o2.box (k := 0) (v := .int .i64 s) x5 (by decide))
    have R6 := Lib.hid (r4.setB (B := D) 0 (.int .i64 s) (by omega))
    have TT6 := Lib.hid (T4.setOwn (d := D) (o := 0) (by omega) (.int .i64 s))
    have s0 := y4.c (k := 0) rfl
    have s1 := y4.c (k := 1) rfl
    have f0 := y4.f 0
    have f1 := y4.f 1
    have z := (y4.set 0 (.int .i64 s)).set 1 (.slice A1 m c1)
    have z0 := z.c (k := 0) rfl
    have z1 := z.c (k := 1) rfl
    have HOO := Lib.hid ((O6.out.box (k := 0) (v := .int .i64 s) y4 (by decide)).box (k := 1) (v := .slice A1 m c1) (y4.set 0 (.int .i64 s)) (by decide))
    clear o2 r4 T4
    go_wp2_with fail
    exact bodyPost_ret (v := .agg #[.int .i64 s, .slice A1 m c1]) (by simp [results, Try.results115, go_sem, z0, z1]) rfl ⟨s, A1, m, c1, _, p + 1 + 1, rfl, HOO.out, by omega, by have := HP.out; omega, (R6.out.setB (B := w.heap.size + 1) 0 _ (by omega)).setB (B := w.heap.size + 1) 1 _ (by omega), (TT6.out.setOwn (d := w.heap.size + 1) (o := 0) (by omega) _).setOwn (d := w.heap.size + 1) (o := 1) (by omega) _⟩
  · skip
    have ls := Sl.lit1 (enc := encWrite) w3 #[.string ⟨#[97]⟩, .int .i64 0, .bool false] 73 (⟨#[97]⟩, 0, false) rfl
    have oa := o2.alloc (.cells #[.string ⟨#[97]⟩, .int .i64 0, .bool false] 73)
    have xa4 := x4.alloc (.cells #[.string ⟨#[97]⟩, .int .i64 0, .bool false] 73)
    have xa5 := x5.alloc (.cells #[.string ⟨#[97]⟩, .int .i64 0, .bool false] 73)
    have ra := r4.on (bel_alloc (Below.refl _ _) (.cells #[.string ⟨#[97]⟩, .int .i64 0, .bool false] 73))
    have ta := T4.alloc (.cells #[.string ⟨#[97]⟩, .int .i64 0, .bool false] 73)
    have hzz := T4.size
    clear o2 x4 r4 T4
    go_wp2_with (at_builtin; go_loud (refine wpList_append_sl _ rfl _ _ 27 rfl w.heap.size 73 i0 _ 3 32 Try.underlying27 hi0 hz0 hz1 hz2 rfl (by decide) encWrite_len encWrite_one _ lw rfl oa _ (some ⟨w3.heap.size, 0, none⟩) 1 1 [(⟨#[97]⟩, 0, false)] rfl ls (by have := HM.out; have := HL.out; unfold maxLen; omega) (by have := HM.out; have := HL.out; omega) (by first | omega | (rw [World.size_alloc]; omega)) ?_; intro v10 w10 o10 g10; obtain ⟨A10, c10, rfl, -, -⟩ := o10.form; have y5 := xa5.appended (by decide) oa g10; have y4 := xa4.appended (by decide) oa g10; have r10 := ra.grown g10 (fun k hk => by have := (World.ownsRow.lt oa k hk).1; omega); have t10 := ta.grown g10 (fun k hk => (World.ownsRow.lt oa k hk).1); have hl10 : (lw ++ ([(⟨#[97]⟩, 0, false)] : List Write)).length = m + 1 := (by rw [List.length_append, HL.out]; rfl); rw [hl10] at o10 ⊢; have qf1 := y5.f 1; have cc := y5.c (k := 1) rfl; have y5b := y5.set 1 (.slice A10 (m + 1) c10); have y4b := y4.other (B' := D) (k := 1) (x := .slice A10 (m + 1) c10) (by omega); have d0 := y5b.c (k := 0) rfl; have d1 := y5b.c (k := 1) rfl; have s0 := y4b.c (k := 0) rfl; have s1 := y4b.c (k := 1) rfl; have f0 := y4b.f 0; have f1 := y4b.f 1; have z := (y4b.set 0 (.int .i64 at_)).set 1 (.slice A10 (m + 1) c10); have z0 := z.c (k := 0) rfl; have z1 := z.c (k := 1) rfl))
    have O6 := Lib.hid (o10.box (k := 1) (v := .slice A10 (m + 1) c10) y5 (by decide))
    have R6 := Lib.hid (r10.setB (B := D) 1 (.slice A10 (m + 1) c10) (by omega))
    have TT6 := Lib.hid (t10.setOwn (d := D) (o := 1) (by omega) (.slice A10 (m + 1) c10))
    have HOO := Lib.hid ((O6.out.box (k := 0) (v := .int .i64 at_) y4b (by decide)).box (k := 1) (v := .slice A10 (m + 1) c10) (y4b.set 0 (.int .i64 at_)) (by decide))
    exact bodyPost_ret (v := .agg #[.int .i64 at_, .slice A10 (m + 1) c10]) (by simp [results, Try.results115, go_sem, z0, z1]) rfl ⟨at_, A10, m + 1, c10, _, p + 1, rfl, HOO.out, by omega, by omega, (R6.out.setB (B := w.heap.size + 1) 0 _ (by omega)).setB (B := w.heap.size + 1) 1 _ (by omega), (TT6.out.setOwn (d := w.heap.size + 1) (o := 0) (by omega) _).setOwn (d := w.heap.size + 1) (o := 1) (by omega) _⟩
  · skip
    have ls := Sl.lit1 (enc := encWrite) w3 #[.string ⟨#[122, 122]⟩, .int .i64 1, .bool true] 73 (⟨#[122, 122]⟩, 1, true) rfl
    have oa := o2.alloc (.cells #[.string ⟨#[122, 122]⟩, .int .i64 1, .bool true] 73)
    have xa4 := x4.alloc (.cells #[.string ⟨#[122, 122]⟩, .int .i64 1, .bool true] 73)
    have xa5 := x5.alloc (.cells #[.string ⟨#[122, 122]⟩, .int .i64 1, .bool true] 73)
    have ra := r4.on (bel_alloc (Below.refl _ _) (.cells #[.string ⟨#[122, 122]⟩, .int .i64 1, .bool true] 73))
    have ta := T4.alloc (.cells #[.string ⟨#[122, 122]⟩, .int .i64 1, .bool true] 73)
    have hzz := T4.size
    clear o2 x4 r4 T4
    go_wp2_with (at_builtin; go_loud (refine wpList_append_sl _ rfl _ _ 27 rfl w.heap.size 73 i0 _ 3 32 Try.underlying27 hi0 hz0 hz1 hz2 rfl (by decide) encWrite_len encWrite_one _ lw rfl oa _ (some ⟨w3.heap.size, 0, none⟩) 1 1 [(⟨#[122, 122]⟩, 1, true)] rfl ls (by have := HM.out; have := HL.out; unfold maxLen; omega) (by have := HM.out; have := HL.out; omega) (by first | omega | (rw [World.size_alloc]; omega)) ?_; intro v10 w10 o10 g10; obtain ⟨A10, c10, rfl, -, -⟩ := o10.form; have y5 := xa5.appended (by decide) oa g10; have y4 := xa4.appended (by decide) oa g10; have r10 := ra.grown g10 (fun k hk => by have := (World.ownsRow.lt oa k hk).1; omega); have t10 := ta.grown g10 (fun k hk => (World.ownsRow.lt oa k hk).1); have hl10 : (lw ++ ([(⟨#[122, 122]⟩, 1, true)] : List Write)).length = m + 1 := (by rw [List.length_append, HL.out]; rfl); rw [hl10] at o10 ⊢; have qf1 := y5.f 1; have cc := y5.c (k := 1) rfl; have y5b := y5.set 1 (.slice A10 (m + 1) c10); have y4b := y4.other (B' := D) (k := 1) (x := .slice A10 (m + 1) c10) (by omega); have d0 := y5b.c (k := 0) rfl; have d1 := y5b.c (k := 1) rfl; have s0 := y4b.c (k := 0) rfl; have s1 := y4b.c (k := 1) rfl; have f0 := y4b.f 0; have f1 := y4b.f 1; have z := (y4b.set 0 (.int .i64 at_)).set 1 (.slice A10 (m + 1) c10); have z0 := z.c (k := 0) rfl; have z1 := z.c (k := 1) rfl))
    have O6 := Lib.hid (o10.box (k := 1) (v := .slice A10 (m + 1) c10) y5 (by decide))
    have R6 := Lib.hid (r10.setB (B := D) 1 (.slice A10 (m + 1) c10) (by omega))
    have TT6 := Lib.hid (t10.setOwn (d := D) (o := 1) (by omega) (.slice A10 (m + 1) c10))
    have HOO := Lib.hid ((O6.out.box (k := 0) (v := .int .i64 at_) y4b (by decide)).box (k := 1) (v := .slice A10 (m + 1) c10) (y4b.set 0 (.int .i64 at_)) (by decide))
    exact bodyPost_ret (v := .agg #[.int .i64 at_, .slice A10 (m + 1) c10]) (by simp [results, Try.results115, go_sem, z0, z1]) rfl ⟨at_, A10, m + 1, c10, _, p + 1, rfl, HOO.out, by omega, by omega, (R6.out.setB (B := w.heap.size + 1) 0 _ (by omega)).setB (B := w.heap.size + 1) 1 _ (by omega), (TT6.out.setOwn (d := w.heap.size + 1) (o := 0) (by omega) _).setOwn (d := w.heap.size + 1) (o := 1) (by omega) _⟩
  · skip
    by_cases hm0 : 0 < m
    · have hm1 : (0 : Int) < (m : Int) := by omega
      obtain ⟨dd, rfl, hdd, hdw⟩ := o2.spot hm0
      have hdD : dd ≠ D := fun h => (BoxC.apart x5 (by decide) o2 _ rfl) h.symm
      have hd4 : dd ≠ w.heap.size + 1 := fun h => (BoxC.apart x4 (by decide) o2 _ rfl) h.symm
      go_wp2_with fail
      refine wp_region_held_drew (S := (fun W' => W'.cell? ⟨D, 0, none⟩ = some (.int .i64 at_) ∧ W'.cell? ⟨D, 1, none⟩ = some (.slice (some ⟨dd, 0, none⟩) m c1))) (by kernel_rfl) ⟨qx50, qx51⟩ (fun hHeld => ?_)
      replace x4 := x4.drew
      replace x5 := x5.drew
      replace o2 := o2.drew
      replace r4 := r4.drew
      replace T4 := T4.drew
      replace qx50 := x5.c (k := 0) rfl
      replace qx51 := x5.c (k := 1) rfl
      generalize w3.drew = wy at *
      refine wpAnyH_take (i := 0) (oi := { dst := some 41, op := Go.Op.fieldAddr 29 (Go.Operand.tmp 5) 1, type := 0, pos := "l3_work.go:152", after := #[], guard := none }) (v := ?_) rfl (by kernel_rfl) (by kernel_rfl) (by kernel_rfl) (fun _ _ _ h => h) (Or.inl ⟨by rfl, ?hy27_0⟩) (by assumption) ?_
      case hy27_0 => ((intro w hSw; (try dsimp only at hSw); go_simp); try with_reducible rfl)
      try simp only [Act.put, List.setIfInBounds_toArray, List.set_cons_zero, List.set_cons_succ]
      refine wpAnyH_take (i := 1) (oi := { dst := some 42, op := Go.Op.load 27 (Go.Operand.tmp 41), type := 27, pos := "l3_work.go:152", after := #[{ on := 0, ground := Go.Ground.data }], guard := none }) (v := ?_) rfl (by kernel_rfl) (by kernel_rfl) (by kernel_rfl) (fun _ _ _ h => h) (Or.inl ⟨by rfl, ?hy27_1⟩) (by assumption) ?_
      case hy27_1 => ((intro w hSw; (try dsimp only at hSw); go_simp); try with_reducible rfl)
      try simp only [Act.put, List.setIfInBounds_toArray, List.set_cons_zero, List.set_cons_succ]
      refine wpAnyH_take (i := 2) (oi := { dst := some 43, op := Go.Op.move (Go.Operand.tmp 0), type := 124, pos := "l3_work.go:152", after := #[], guard := none }) (v := ?_) rfl (by kernel_rfl) (by kernel_rfl) (by kernel_rfl) (fun _ _ _ h => h) (Or.inl ⟨by rfl, ?hy27_2⟩) (by assumption) ?_
      case hy27_2 => ((intro w hSw; (try dsimp only at hSw); go_simp); try with_reducible rfl)
      try simp only [Act.put, List.setIfInBounds_toArray, List.set_cons_zero, List.set_cons_succ]
      refine wpAnyH_ready (rs := [3]) (by kernel_rfl) (by simp) ?_
      refine (AllReadyH.cons (o := { dst := some 44, op := Go.Op.buildSlice 134 3 #[(0, Go.Operand.const (Go.Value.string { data := #[] })), (1, Go.Operand.const (Go.Value.string { data := #[65] })), (2, Go.Operand.const (Go.Value.string { data := #[122, 122] }))], type := 134, pos := "l3_work.go:152", after := #[], guard := none }) rfl (fun K hK => ?_) AllReadyH.nil)
      have hgw := r4.lt
      replace x4 := x4.alloc (.cells #[.string ⟨#[]⟩, .string ⟨#[65]⟩, .string ⟨#[122, 122]⟩] 9)
      replace x5 := x5.alloc (.cells #[.string ⟨#[]⟩, .string ⟨#[65]⟩, .string ⟨#[122, 122]⟩] 9)
      replace o2 := o2.alloc (.cells #[.string ⟨#[]⟩, .string ⟨#[65]⟩, .string ⟨#[122, 122]⟩] 9)
      replace r4 := r4.on (bel_alloc (Below.refl _ _) (.cells #[.string ⟨#[]⟩, .string ⟨#[65]⟩, .string ⟨#[122, 122]⟩] 9))
      replace T4 := T4.alloc (.cells #[.string ⟨#[]⟩, .string ⟨#[65]⟩, .string ⟨#[122, 122]⟩] 9)
      replace qx50 := x5.c (k := 0) rfl
      replace qx51 := x5.c (k := 1) rfl
      go_simp
      try go_wp2_with fail
      refine hK.out _ _ ⟨qx50, qx51⟩ (fun hHeld => ?_)
      clear hK K
      try simp only [Act.put, List.setIfInBounds_toArray, List.set_cons_zero, List.set_cons_succ]
      refine wpAnyH_ready (rs := [4]) (by kernel_rfl) (by simp) ?_
      refine (AllReadyH.cons (o := { dst := some 45, op := Go.Op.call { callee := Go.Callee.value (Go.Operand.func 109), args := #[Go.Operand.tmp 43, Go.Operand.tmp 44], argTypes := #[124, 134] }, type := 9, pos := "l3_work.go:152", after := #[{ on := 2, ground := Go.Ground.data }, { on := 3, ground := Go.Ground.data }], guard := none }) rfl (fun K hK => ?_) AllReadyH.nil)
      go_simp
      refine (ofC g (p + 1) 3 3 wy.heap.size 0 A0 m0 c0 l0 kb3 _ r4 (by have := HP.out; omega) (Sl.lit (enc := encT) wy #[.string ⟨#[]⟩, .string ⟨#[65]⟩, .string ⟨#[122, 122]⟩] 9 kb3 rfl 3 rfl) (by omega) (by omega) (by omega)).mono ?_
      rintro e w6 ⟨s, rfl, -, r6, t6⟩
      replace x4 := x4.turn t6 (fun x hx => by cases hx; simp only; omega)
      replace x5 := x5.turn t6 (fun x hx => by cases hx; simp only; omega)
      replace o2 := o2.farRd t6 hg
      replace T4 := T4.trans t6
      clear r4
      have r4 := r6
      clear r6 t6
      replace qx50 := x5.c (k := 0) rfl
      replace qx51 := x5.c (k := 1) rfl
      obtain ⟨f0, f1, f2, hx, e0, e1, e2⟩ := atWrite (k := 0) o2.sl hm0
      simp only [Nat.zero_mul, Nat.add_zero] at e0
      have fr := o2.free (0 * 3 + 0)
      simp only [Nat.zero_mul, Nat.add_zero] at fr
      go_wp2_with fail
      refine hK.out _ _ ⟨qx50, qx51⟩ (fun hHeld => ?_)
      clear hK K
      try simp only [Act.put, List.setIfInBounds_toArray, List.set_cons_zero, List.set_cons_succ]
      refine wpAnyH_take (i := 5) (oi := { dst := some 46, op := Go.Op.indexAddr 27 (Go.Operand.tmp 42) (Go.Operand.const (Go.Value.int Go.IntKind.i64 0)), type := 0, pos := "l3_work.go:152", after := #[{ on := 1, ground := Go.Ground.data }, { on := 0, ground := Go.Ground.phase }, { on := 1, ground := Go.Ground.phase }, { on := 2, ground := Go.Ground.phase }, { on := 3, ground := Go.Ground.phase }, { on := 4, ground := Go.Ground.phase }], guard := none }) (v := ?_) rfl (by kernel_rfl) (by kernel_rfl) (by kernel_rfl) (fun _ _ _ h => h) (Or.inl ⟨by rfl, ?hy28_5⟩) (by assumption) ?_
      case hy28_5 => ((intro w hSw; (try dsimp only at hSw); go_simp); try with_reducible rfl)
      try simp only [Act.put, List.setIfInBounds_toArray, List.set_cons_zero, List.set_cons_succ]
      refine wpAnyH_take (i := 6) (oi := { dst := some 47, op := Go.Op.fieldAddr 73 (Go.Operand.tmp 46) 0, type := 0, pos := "l3_work.go:152", after := #[{ on := 5, ground := Go.Ground.data }, { on := 0, ground := Go.Ground.phase }, { on := 1, ground := Go.Ground.phase }, { on := 2, ground := Go.Ground.phase }, { on := 3, ground := Go.Ground.phase }, { on := 4, ground := Go.Ground.phase }], guard := none }) (v := ?_) rfl (by kernel_rfl) (by kernel_rfl) (by kernel_rfl) (fun _ _ _ h => h) (Or.inl ⟨by rfl, ?hy28_6⟩) (by assumption) ?_
      case hy28_6 => ((intro w hSw; (try dsimp only at hSw); go_simp); try with_reducible rfl)
      try simp only [Act.put, List.setIfInBounds_toArray, List.set_cons_zero, List.set_cons_succ]
      refine wpAnyH_ready (rs := [7]) (by kernel_rfl) (by simp) ?_
      refine (AllReadyH.cons (o := { dst := none, op := Go.Op.store 9 (Go.Operand.tmp 47) (Go.Operand.tmp 45), type := 0, pos := "l3_work.go:152", after := #[{ on := 6, ground := Go.Ground.data }, { on := 4, ground := Go.Ground.data }, { on := 4, ground := Go.Ground.chain }, { on := 0, ground := Go.Ground.phase }, { on := 1, ground := Go.Ground.phase }, { on := 2, ground := Go.Ground.phase }, { on := 3, ground := Go.Ground.phase }, { on := 4, ground := Go.Ground.phase }], guard := none }) rfl (fun K hK => ?_) AllReadyH.nil)
      have O6 := Lib.hid (o2.set1 encWrite_len 0 0 (f0, f1, f2) (s, f1, f2) (.string s) hx (by omega) rfl)
      simp only [Nat.zero_mul, Nat.add_zero] at O6
      have y5 := x5.other (B' := dd) (k := 0) (x := .string s) (fun h => hdD h.symm)
      have y4 := x4.other (B' := dd) (k := 0) (x := .string s) (fun h => hd4 h.symm)
      have R6 := Lib.hid (r4.setB (B := dd) 0 (.string s) (by omega))
      have TT6 := Lib.hid (T4.setOwn (d := dd) (o := 0) hdd (.string s))
      go_simp
      try go_wp2_with fail
      clear o2 x4 x5 r4 T4
      have qy0 := y5.c (k := 0) rfl
      have qy1 := y5.c (k := 1) rfl
      refine hK.out _ _ ⟨qy0, qy1⟩ (fun hHeld => ?_)
      clear hK K
      try simp only [Act.put, List.setIfInBounds_toArray, List.set_cons_zero, List.set_cons_succ]
      refine wpAnyH_done (by kernel_rfl) ?_ _
      have s0 := y4.c (k := 0) rfl
      have s1 := y4.c (k := 1) rfl
      have f0' := y4.f 0
      have f1' := y4.f 1
      have z := (y4.set 0 (.int .i64 at_)).set 1 (.slice (some ⟨dd, 0, none⟩) m c1)
      have z0 := z.c (k := 0) rfl
      have z1 := z.c (k := 1) rfl
      have HOO := Lib.hid ((O6.out.box (k := 0) (v := .int .i64 at_) y4 (by decide)).box (k := 1) (v := .slice (some ⟨dd, 0, none⟩) m c1) (y4.set 0 (.int .i64 at_)) (by decide))
      go_wp2_with fail
      exact bodyPost_ret (v := .agg #[.int .i64 at_, .slice (some ⟨dd, 0, none⟩) m c1]) (by simp [results, Try.results115, go_sem, z0, z1]) rfl ⟨at_, _, m, c1, _, p + 1 + 1, rfl, HOO.out, by omega, by omega, (R6.out.setB (B := w.heap.size + 1) 0 _ (by omega)).setB (B := w.heap.size + 1) 1 _ (by omega), (TT6.out.setOwn (d := w.heap.size + 1) (o := 0) (by omega) _).setOwn (d := w.heap.size + 1) (o := 1) (by omega) _⟩
    · have hm1 : ¬ (0 : Int) < (m : Int) := by omega
      have s0 := x4.c (k := 0) rfl
      have s1 := x4.c (k := 1) rfl
      have f0 := x4.f 0
      have f1 := x4.f 1
      have z := (x4.set 0 (.int .i64 at_)).set 1 (.slice A1 m c1)
      have z0 := z.c (k := 0) rfl
      have z1 := z.c (k := 1) rfl
      have HOO := Lib.hid ((o2.box (k := 0) (v := .int .i64 at_) x4 (by decide)).box (k := 1) (v := .slice A1 m c1) (x4.set 0 (.int .i64 at_)) (by decide))
      have HRR := Lib.hid ((r4.setB (B := w.heap.size + 1) 0 (.int .i64 at_) (by omega)).setB (B := w.heap.size + 1) 1 (.slice A1 m c1) (by omega))
      have HTT := Lib.hid ((T4.setOwn (d := w.heap.size + 1) (o := 0) (by omega) (.int .i64 at_)).setOwn (d := w.heap.size + 1) (o := 1) (by omega) (.slice A1 m c1))
      clear o2 r4 T4
      go_wp2_with fail
      exact bodyPost_ret (v := .agg #[.int .i64 at_, .slice A1 m c1]) (by simp [results, Try.results115, go_sem, z0, z1]) rfl ⟨at_, A1, m, c1, _, p + 1, rfl, HOO.out, by omega, by omega, HRR.out, HTT.out⟩
  · have n0 : ((v : Int) == 0) = false := by simp; omega
    have n1 : ((v : Int) == 1) = false := by simp; omega
    have n2 : ((v : Int) == 2) = false := by simp; omega
    have n3 : ((v : Int) == 3) = false := by simp; omega
    have s0 := x4.c (k := 0) rfl
    have s1 := x4.c (k := 1) rfl
    have f0 := x4.f 0
    have f1 := x4.f 1
    have z := (x4.set 0 (.int .i64 at_)).set 1 (.slice A1 m c1)
    have z0 := z.c (k := 0) rfl
    have z1 := z.c (k := 1) rfl
    have HOO := Lib.hid ((o2.box (k := 0) (v := .int .i64 at_) x4 (by decide)).box (k := 1) (v := .slice A1 m c1) (x4.set 0 (.int .i64 at_)) (by decide))
    have HRR := Lib.hid ((r4.setB (B := w.heap.size + 1) 0 (.int .i64 at_) (by omega)).setB (B := w.heap.size + 1) 1 (.slice A1 m c1) (by omega))
    have HTT := Lib.hid ((T4.setOwn (d := w.heap.size + 1) (o := 0) (by omega) (.int .i64 at_)).setOwn (d := w.heap.size + 1) (o := 1) (by omega) (.slice A1 m c1))
    clear o2 r4 T4
    go_wp2_with fail
    exact bodyPost_ret (v := .agg #[.int .i64 at_, .slice A1 m c1]) (by simp [results, Try.results115, go_sem, z0, z1]) rfl ⟨at_, A1, m, c1, _, p + 1, rfl, HOO.out, by omega, by have := HP.out; omega, HRR.out, HTT.out⟩
end Go.Proofs.Ytpofgidhhcolfaa
