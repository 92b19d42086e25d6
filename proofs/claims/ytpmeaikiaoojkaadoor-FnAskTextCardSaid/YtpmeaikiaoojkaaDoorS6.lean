/- Contract: AskRead of the reference. -/
import Derived.Test.YtpmeaikiaoojkaaDoorS5
import Derived.Test.YtpmeaikiaoojkaaDoorS3
import Derived.Deep.RegionHeld3
namespace Go.Proofs.YtpmeaikiaoojkaaDoor
open Go.RowKit

def Found (z : ByteArray) (n : Nat) (kd : Int) : Prop := (kd = 0 ∧ ∀ i, i < n → word i ≠ z) ∨ ∃ j, j < n ∧ kd = (j : Int) + 1 ∧ word j = z
theorem Found.start (z : ByteArray) : Found z 0 0 := .inl ⟨rfl, fun i h => absurd h (by omega)⟩
theorem Found.hit {z : ByteArray} {n : Nat} (h : word n = z) : Found z (n + 1) ((n : Int) + 1) := .inr ⟨n, by omega, rfl, h⟩
theorem Found.miss {z : ByteArray} {n : Nat} {kd : Int} (h : Found z n kd) (hn : word n ≠ z) : Found z (n + 1) kd := by
  rcases h with ⟨h0, h1⟩ | ⟨j, h0, h1, h2⟩
  · refine .inl ⟨h0, fun i hi => ?_⟩
    by_cases hin : i < n
    · exact h1 i hin
    · obtain rfl : i = n := by omega
      exact hn
  · exact .inr ⟨j, by omega, h1, h2⟩
theorem cutS_size (s : ByteArray) : ∀ p ∈ cutS s, p.size ≤ s.size := by
  have key : ∀ (l acc : List UInt8), ∀ q ∈ cutL acc l, q.length ≤ acc.length + l.length := by
    intro l
    induction l with
    | nil => intro acc q hq; simp [cutL] at hq; rw [hq]; simp
    | cons c r ih =>
      intro acc q hq
      rw [cutL] at hq
      split at hq
      · rcases List.mem_cons.1 hq with rfl | hq
        · omega
        · have := ih [] q hq; simp at this ⊢; omega
      · have := ih _ q hq; simp at this ⊢; omega
  intro p hp
  unfold cutS at hp
  rw [List.mem_map] at hp
  obtain ⟨q, hq, rfl⟩ := hp
  have h1 := key _ _ q hq
  simp only [List.length_nil, Nat.zero_add] at h1
  rw [size_list s]
  show q.toArray.size ≤ _
  rw [List.size_toArray]
  exact h1
theorem cutS_nth (s : ByteArray) (i : Nat) : (nthW (cutS s) i).size ≤ s.size := by
  unfold nthW
  rw [List.getD_eq_getElem?_getD]
  cases h : (cutS s)[i]? with
  | none => simp
  | some p => exact cutS_size s p (List.mem_of_getElem? h)
theorem nthW_past {ws : List ByteArray} {i : Nat} (h : ws.length ≤ i) : nthW ws i = ⟨#[]⟩ := by
  unfold nthW
  rw [List.getD_eq_getElem?_getD, List.getElem?_eq_none h]
  rfl
theorem isNum_empty (v : Int) : IsNum ⟨#[]⟩ v := isNum_early (neg := false) (l := []) (by simp) rfl (.inl rfl) v
theorem isNum_past {ws : List ByteArray} {i : Nat} (h : ws.length ≤ i) (v : Int) : IsNum (nthW ws i) v := by rw [nthW_past h]; exact isNum_empty v
theorem askOk_of_text {k : Int} {key hi : ByteArray} {num : Int} {s : ByteArray} (h : askText k key hi num = s) (hs : s ≠ ByteArray.empty) : askOk k key hi num = true := by
  cases ho : askOk k key hi num
  · rw [askText_bad ho] at h; exact absurd h.symm hs
  · rfl
set_option maxHeartbeats 16000000 in
set_option maxRecDepth 100000 in
theorem specAskRead (s : ByteArray) (w : World) (hs : s.size ≤ 1048576) :
    Calls Tryd.prog 16 #[.string s] w (ReadPost s w) := by
  obtain ⟨ws, hws⟩ : ∃ ws, cutS s = ws := ⟨_, rfl⟩
  have HS := Lib.hid (show ∀ i, (nthW ws i).size ≤ 1048576 from fun i => by rw [← hws]; exact Nat.le_trans (cutS_nth s i) hs)
  have HW := Lib.hid (show ws = wordsOf s ∨ ws = cutS s from Or.inr hws.symm)
  have hne : 0 < ws.length := by rw [← hws]; exact List.length_pos_iff.2 (cutS_ne s)
  have x0 := BoxC.new w 26 #[.int .i64 0, .string ByteArray.empty, .string ByteArray.empty, .int .i64 0]
  have b0 := bel_alloc (Below.refl _ w) (.cells #[.int .i64 0, .string ByteArray.empty, .string ByteArray.empty, .int .i64 0] 26)
  have SC := Lib.hid (fun W => l11Cut s W hs)
  rw [hws] at SC
  clear hws
  go_enter Tryd.func16, Tryd.ntmps16
  go_wp2_with fail
  refine (SC.out _).mono ?_
  clear SC
  rintro e w2 ⟨A, n, c, rfl, ho, hb⟩
  have hn := ho.len
  have hc : n ≤ 1048577 ∨ True := .inr trivial
  obtain ⟨b, off, rfl, hbz⟩ := ho.sl.spot (by omega)
  have x2 := x0.on hb
  have b2 := bel_trans b0 hb
  have HN := Lib.hid hn
  have n1 : 1 ≤ n := by omega
  have HC := Lib.hid (show ∀ W, Below w2.heap.size w2 W → ∀ i, i < n → W.cell? ⟨b, off + i, none⟩ = some (.string (nthW ws i)) from fun W hW i hi => by
    have h1 := (ho.sl.keep hW).cells (by omega)
    refine h1.2 i _ ?_
    rw [cellsOf_encT, List.getElem?_map]
    unfold nthW
    rw [List.getD_eq_getElem?_getD, List.getElem?_eq_getElem (by omega)]
    rfl)
  have HMAX := Lib.hid (show n ≤ maxLen from by obtain ⟨A', c', hf, h1, h2⟩ := ho.form; rw [hn] at h1; exact Nat.le_trans h1 h2)
  clear x0 b0 hb ho hn hc hne
  obtain ⟨z, hz⟩ : ∃ z, nthW ws 0 = z := ⟨_, rfl⟩
  have HZ := Lib.hid hz
  have hnmax : (n : Int) ≤ 9223372036854775807 := by have := HMAX.out; unfold maxLen at this; omega
  have xa := BoxC.new w2 26 #[.int .i64 0, .string ⟨#[]⟩, .string ⟨#[]⟩, .int .i64 0]
  have ba := bel_alloc (Below.refl _ w2) (.cells #[.int .i64 0, .string ⟨#[]⟩, .string ⟨#[]⟩, .int .i64 0] 26)
  clear hz
  go_wp2_with fail
  have HX := Lib.hid x2
  have HB2 := Lib.hid b2
  have hrs := x2.lt
  clear x2 b2
  have in1 : (0 : Int) < (n : Int) := by omega
  have n0 : 0 < n := by omega
  go_loopw [6] (fun v wr => ∃ (j : Nat) (kd : Int), j ≤ 9 ∧ v = .int .i64 ((j : Int) + 1) ∧ BoxC wr w2.heap.size 26 #[.int .i64 kd, .string ⟨#[]⟩, .string ⟨#[]⟩, .int .i64 0] ∧ Hid (Found z j kd) ∧ Below w2.heap.size w2 wr) (fun v _ => 10 - (intOf v).toNat)
  case atStart => exact ⟨0, 0, by omega, rfl, xa, Lib.hid (Found.start z), ba⟩
  case round =>
    clear xa ba
    obtain ⟨j, kd, hj9, rfl, xa, hfd, hbl⟩ := hrel
    have hsz2 := xa.lt
    by_cases hj : j < 9
    · have i1 : (j : Int) + 1 ≤ 9 := by omega
      obtain ⟨wj, hwj⟩ : ∃ wj, word j = wj := ⟨_, rfl⟩
      have HWJ := Lib.hid hwj
      have HFD := hfd
      clear hfd hwj
      have cz : wr.cell? ⟨b, off, none⟩ = some (.string z) := by
        have := HC.out _ hbl 0 n1
        rw [Nat.add_zero, HZ.out] at this
        exact this
      cases hw : (wj.toList == z.toList)
      all_goals
        go_wp2_with fail
        refine wp_region_held_drew (S := (fun W' => W'.cell? ⟨b, off, none⟩ = some (.string z) ∧ Below wr.heap.size wr W')) (by kernel_rfl) ⟨cz, (Below.refl wr.heap.size wr).drew⟩ (fun hHeld => ?_)
        refine wpAnyH_take (i := 0) (oi := { dst := some 17, op := Go.Op.move (Go.Operand.tmp 6), type := 3, pos := "l4_ask.go:59", after := #[], guard := none }) (v := ?_) rfl (by kernel_rfl) (by kernel_rfl) (by kernel_rfl) (fun _ _ _ h => h) (Or.inl ⟨by rfl, ?hy0⟩) (by assumption) ?_
        case hy0 => ((intro w hSw; (try dsimp only at hSw); go_simp); try with_reducible rfl)
        try simp only [Act.put, List.setIfInBounds_toArray, List.set_cons_zero, List.set_cons_succ]
        refine wpAnyH_take (i := 2) (oi := { dst := some 19, op := Go.Op.move (Go.Operand.tmp 4), type := 57, pos := "l4_ask.go:59", after := #[], guard := none }) (v := ?_) rfl (by kernel_rfl) (by kernel_rfl) (by kernel_rfl) (fun _ _ _ h => h) (Or.inl ⟨by rfl, ?hy2⟩) (by assumption) ?_
        case hy2 => ((intro w hSw; (try dsimp only at hSw); go_simp); try with_reducible rfl)
        try simp only [Act.put, List.setIfInBounds_toArray, List.set_cons_zero, List.set_cons_succ]
        refine wpAnyH_take (i := 3) (oi := { dst := some 20, op := Go.Op.indexAddr 57 (Go.Operand.tmp 19) (Go.Operand.const (Go.Value.int Go.IntKind.i64 0)), type := 0, pos := "l4_ask.go:59", after := #[{ on := 2, ground := Go.Ground.data }], guard := none }) (v := ?_) rfl (by kernel_rfl) (by kernel_rfl) (by kernel_rfl) (fun _ _ _ h => h) (Or.inl ⟨by rfl, ?hy3⟩) (by assumption) ?_
        case hy3 => ((intro w hSw; (try dsimp only at hSw); go_simp); try with_reducible rfl)
        try simp only [Act.put, List.setIfInBounds_toArray, List.set_cons_zero, List.set_cons_succ]
        refine wpAnyH_take (i := 4) (oi := { dst := some 21, op := Go.Op.load 9 (Go.Operand.tmp 20), type := 9, pos := "l4_ask.go:59", after := #[{ on := 3, ground := Go.Ground.data }], guard := none }) (v := ?_) rfl (by kernel_rfl) (by kernel_rfl) (by kernel_rfl) (fun _ _ _ h => h) (Or.inl ⟨by rfl, ?hy4⟩) (by assumption) ?_
        case hy4 => ((intro w hSw; (try dsimp only at hSw); go_simp); try with_reducible rfl)
        try simp only [Act.put, List.setIfInBounds_toArray, List.set_cons_zero, List.set_cons_succ]
        refine wpAnyH_ready (rs := [1]) (by kernel_rfl) (by simp) ?_
        refine AllReadyH.cons (o := { dst := some 18, op := Go.Op.call { callee := Go.Callee.value (Go.Operand.func 23), args := #[Go.Operand.tmp 17], argTypes := #[3] }, type := 9, pos := "l4_ask.go:59", after := #[{ on := 0, ground := Go.Ground.data }], guard := none }) rfl (fun K hK => ?_) AllReadyH.nil
        go_simp
        refine (l4Word j _ hj).mono ?_
        rintro e w4 ⟨rfl, hb4⟩
        have hb4' := bel_trans ((Below.refl wr.heap.size wr).drew) hb4
        rw [HWJ.out]
        go_wp2_with fail
        refine hK.out _ _ ⟨keepC hb4' cz, hb4'⟩ (fun hHeld => ?_)
        clear hK K
        try simp only [Act.put, List.setIfInBounds_toArray, List.set_cons_zero, List.set_cons_succ]
        refine wpAnyH_take (i := 5) (oi := { dst := some 22, op := Go.Op.binOp Go.BinOp.eql 9 (Go.Operand.tmp 18) (Go.Operand.tmp 21) 9, type := 4, pos := "l4_ask.go:59", after := #[{ on := 1, ground := Go.Ground.data }, { on := 4, ground := Go.Ground.data }], guard := none }) (v := ?_) rfl (by kernel_rfl) (by kernel_rfl) (by kernel_rfl) (fun _ _ _ h => h) (Or.inl ⟨by rfl, ?hy5⟩) (by assumption) ?_
        case hy5 => ((intro w hSw; (try dsimp only at hSw); go_simp); try with_reducible rfl)
        try simp only [Act.put, List.setIfInBounds_toArray, List.set_cons_zero, List.set_cons_succ]
        refine wpAnyH_done (by kernel_rfl) ?_ _
      · go_wp2_with fail
        go_roundw
        case rel => exact ⟨j + 1, kd, by omega, by go_num, xa.on hb4', Lib.hid (HFD.out.miss (by rw [HWJ.out]; intro e; rw [e] at hw; simp at hw)), bel_trans (Below.refl _ _) (hbl.trans (hb4'.mono hbl.size))⟩
        case measure => simp [intOf]; omega
      · have hwz : word j = z := by
          rw [HWJ.out]
          rw [beq_iff_eq, ByteArray.toList_eq, ByteArray.toList_eq] at hw
          exact ByteArray.ext (Array.toList_inj.1 hw)
        have HWZ := Lib.hid hwz
        clear hwz
        have xb := xa.on hb4'
        have b4 := hbl.trans (hb4'.mono hbl.size)
        have c0 := xb.c (k := 0) rfl
        have h0 := xb.f 0
        have HXB := Lib.hid xb
        have HB4 := Lib.hid b4
        clear xb b4
        go_wp2_with fail
        go_roundw
        case rel => exact ⟨j + 1, (j : Int) + 1, by omega, by go_num, HXB.out.set 0 _, Lib.hid (Found.hit HWZ.out), bel_set HB4.out (p := ⟨w2.heap.size, 0, none⟩) (Nat.le_refl _) _⟩
        case measure => simp [intOf]; omega
    · have hj9 : j = 9 := by omega
      subst hj9
      have i1 : ¬ (((9 : Nat) : Int) + 1) ≤ 9 := by omega
      have xr := HX.out.on hbl
      have bw := bel_trans HB2.out hbl
      have CL := Lib.hid (fun i hi => HC.out wr hbl i hi)
      have HNMAX := Lib.hid (show n ≤ 9223372036854775807 by omega)
      rcases hfd.out with ⟨rfl, hno⟩ | ⟨j, hj, rfl, hwz⟩
      · have HNO := Lib.hid hno
        have HSH := Lib.hid (show shape 0 = (false, false, false) from rfl)
        clear hno hfd
        have xr0 := xr
        have c0 := xa.c (k := 0) rfl
        have h0 := xa.f 0
        have c1 := xa.c (k := 1) rfl
        have h1 := xa.f 1
        have c2 := xa.c (k := 2) rfl
        have h2 := xa.f 2
        have c3 := xa.c (k := 3) rfl
        have h3 := xa.f 3
        have CS := Lib.hid (fun W => l4Shape 0 W)
        rw [HSH.out] at CS
        go_wp2_with fail
        refine (CS.out _).mono ?_
        rintro e w5 ⟨rfl, rfl⟩
        clear CS
        obtain ⟨tx, htx⟩ : ∃ tx, askText 0 (⟨#[]⟩ : ByteArray) (⟨#[]⟩ : ByteArray) 0 = tx := ⟨_, rfl⟩
        have HTX := Lib.hid htx
        clear htx
        have HBAD := Lib.hid (show ∀ k key hi num, askOk k key hi num = true → askText k key hi num ≠ s from fun k' key' hi' num' q => read_none HW.out (fun i hi => by rw [HZ.out]; exact HNO.out i hi) q)
        cases he : (s.toList == ([] : List UInt8))
        · have hse : s ≠ ByteArray.empty := fun e => by rw [e] at he; simp [ByteArray.toList_eq] at he
          have HSE := Lib.hid hse
          clear hse
          go_wp2_with fail
        
          refine (specAskText 0 (⟨#[]⟩ : ByteArray) (⟨#[]⟩ : ByteArray) 0 _ (show (0 : Nat) ≤ maxLen from Nat.zero_le _) (show (0 : Nat) ≤ maxLen from Nat.zero_le _)).mono ?_
          rintro e w7 ⟨rfl, hb⟩
          rw [HTX.out]
          replace xa := xa.on hb
          replace xr := xr.on hb
          replace bw := bel_trans bw hb
          clear hb
          replace c0 := xa.c (k := 0) rfl
          replace h0 := xa.f 0
          replace c1 := xa.c (k := 1) rfl
          replace h1 := xa.f 1
          replace c2 := xa.c (k := 2) rfl
          replace h2 := xa.f 2
          replace c3 := xa.c (k := 3) rfl
          replace h3 := xa.f 3
          have r0 := xr.c (k := 0) rfl
          have q0 := xr.f 0
          have r1 := xr.c (k := 1) rfl
          have q1 := xr.f 1
          have r2 := xr.c (k := 2) rfl
          have q2 := xr.f 2
          have r3 := xr.c (k := 3) rfl
          have q3 := xr.f 3
          cases ht : (tx.toList == s.toList)
          · have htn : tx ≠ s := fun e => by rw [e] at ht; simp at ht
        
            clear htn
            have BB := Lib.hid (bel_set4 bw (Nat.le_refl _) (.int .i64 0) (.string ⟨#[]⟩) (.string ⟨#[]⟩) (.int .i64 0))
            clear xa xr bw
            go_wp2_with fail
            exact bodyPost_ret (v := .tuple #[.agg #[.int .i64 0, .string ⟨#[]⟩, .string ⟨#[]⟩, .int .i64 0], .bool false]) (by simp [results, Tryd.results16, go_sem, r0, r1, r2, r3] <;> rfl) rfl ⟨Or.inr ⟨HBAD.out, rfl⟩, BB.out⟩
          · have hte : tx = s := by
              rw [beq_iff_eq, ByteArray.toList_eq, ByteArray.toList_eq] at ht
              exact ByteArray.ext (Array.toList_inj.1 ht)
            exact absurd (askOk_of_text (HTX.out.trans hte) HSE.out) (by rw [askOk_low (.inl (by omega))]; simp)
        · have hse : s = ByteArray.empty := by
            rw [beq_iff_eq, ByteArray.toList_eq] at he
            exact ByteArray.ext (Array.toList_inj.1 he)
          clear hse
        
          have BB := Lib.hid (bel_set4 bw (Nat.le_refl _) (.int .i64 0) (.string ⟨#[]⟩) (.string ⟨#[]⟩) (.int .i64 0))
          clear xa bw
          have r0 := xr0.c (k := 0) rfl
          have q0 := xr0.f 0
          have r1 := xr0.c (k := 1) rfl
          have q1 := xr0.f 1
          have r2 := xr0.c (k := 2) rfl
          have q2 := xr0.f 2
          have r3 := xr0.c (k := 3) rfl
          have q3 := xr0.f 3
          clear xr0
          clear xr
          go_wp2_with fail
          exact bodyPost_ret (v := .tuple #[.agg #[.int .i64 0, .string ⟨#[]⟩, .string ⟨#[]⟩, .int .i64 0], .bool false]) (by simp [results, Tryd.results16, go_sem, r0, r1, r2, r3] <;> rfl) rfl ⟨Or.inr ⟨HBAD.out, rfl⟩, BB.out⟩
      · have HJ := Lib.hid hj
        have HZ2 := Lib.hid (show nthW ws 0 = word j by rw [hwz]; exact HZ.out)
        obtain ⟨ka, kb, kc, hsh⟩ : ∃ a b c, shape ((j : Int) + 1) = (a, b, c) := ⟨_, _, _, rfl⟩
        have HSH := Lib.hid hsh
        have hcs := shape_cases _ hsh
        clear hwz hfd hsh hj9 i1
        have xr0 := xr
        simp only [Prod.mk.injEq] at hcs
        rcases hcs with ⟨rfl, rfl, rfl⟩ | ⟨rfl, rfl, rfl⟩ | ⟨rfl, rfl, rfl⟩ | ⟨rfl, rfl, rfl⟩
        · by_cases m1 : n = 1
          · have l1 : ¬ (1 : Int) < (n : Int) := by omega
            have l2 : ¬ (2 : Int) < (n : Int) := by omega
            have c0 := xa.c (k := 0) rfl
            have h0 := xa.f 0
            have c1 := xa.c (k := 1) rfl
            have h1 := xa.f 1
            have c2 := xa.c (k := 2) rfl
            have h2 := xa.f 2
            have c3 := xa.c (k := 3) rfl
            have h3 := xa.f 3
            have CS := Lib.hid (fun W => l4Shape ((j : Int) + 1) W)
            rw [HSH.out] at CS
            go_wp2_with fail
            refine (CS.out _).mono ?_
            rintro e w5 ⟨rfl, rfl⟩
            clear CS
            obtain ⟨tx, htx⟩ : ∃ tx, askText ((j : Int) + 1) (⟨#[]⟩ : ByteArray) (⟨#[]⟩ : ByteArray) 0 = tx := ⟨_, rfl⟩
            have HTX := Lib.hid htx
            clear htx
            have HU := Lib.hid (show ∀ (k' : Int) (key' hi' : ByteArray) (num' : Int), askOk k' key' hi' num' = true → askText k' key' hi' num' = s → k' = (j : Int) + 1 ∧ key' = (⟨#[]⟩ : ByteArray) ∧ hi' = (⟨#[]⟩ : ByteArray) ∧ num' = 0 from fun k' key' hi' num' q t => read_unique HW.out HJ.out HZ2.out HSH.out (key := (⟨#[]⟩ : ByteArray)) (hi := (⟨#[]⟩ : ByteArray)) (num := 0) (by rw [if_pos rfl]; exact (nthW_past (by have := HN.out; omega)).symm) (rfl) (fun h => by cases h) (fun _ => rfl) q t)
            cases he : (s.toList == ([] : List UInt8))
            · have hse : s ≠ ByteArray.empty := fun e => by rw [e] at he; simp [ByteArray.toList_eq] at he
              have HSE := Lib.hid hse
              clear hse
              go_wp2_with fail
            
              refine (specAskText ((j : Int) + 1) (⟨#[]⟩ : ByteArray) (⟨#[]⟩ : ByteArray) 0 _ (show (0 : Nat) ≤ maxLen from Nat.zero_le _) (show (0 : Nat) ≤ maxLen from Nat.zero_le _)).mono ?_
              rintro e w7 ⟨rfl, hb⟩
              rw [HTX.out]
              replace xa := xa.on hb
              replace xr := xr.on hb
              replace bw := bel_trans bw hb
              clear hb
              replace c0 := xa.c (k := 0) rfl
              replace h0 := xa.f 0
              replace c1 := xa.c (k := 1) rfl
              replace h1 := xa.f 1
              replace c2 := xa.c (k := 2) rfl
              replace h2 := xa.f 2
              replace c3 := xa.c (k := 3) rfl
              replace h3 := xa.f 3
              have r0 := xr.c (k := 0) rfl
              have q0 := xr.f 0
              have r1 := xr.c (k := 1) rfl
              have q1 := xr.f 1
              have r2 := xr.c (k := 2) rfl
              have q2 := xr.f 2
              have r3 := xr.c (k := 3) rfl
              have q3 := xr.f 3
              cases ht : (tx.toList == s.toList)
              · have htn : tx ≠ s := fun e => by rw [e] at ht; simp at ht
                have HBAD := Lib.hid (show ∀ k key hi num, askOk k key hi num = true → askText k key hi num ≠ s from fun k' key' hi' num' q t => by
                  obtain ⟨rfl, rfl, rfl, rfl⟩ := HU.out _ _ _ _ q t
                  exact htn (HTX.out.symm.trans t))
                clear htn
                have BB := Lib.hid (bel_set4 bw (Nat.le_refl _) (.int .i64 0) (.string ⟨#[]⟩) (.string ⟨#[]⟩) (.int .i64 0))
                clear xa xr bw
                go_wp2_with fail
                exact bodyPost_ret (v := .tuple #[.agg #[.int .i64 0, .string ⟨#[]⟩, .string ⟨#[]⟩, .int .i64 0], .bool false]) (by simp [results, Tryd.results16, go_sem, r0, r1, r2, r3] <;> rfl) rfl ⟨Or.inr ⟨HBAD.out, rfl⟩, BB.out⟩
              · have hte : tx = s := by
                  rw [beq_iff_eq, ByteArray.toList_eq, ByteArray.toList_eq] at ht
                  exact ByteArray.ext (Array.toList_inj.1 ht)
                have HGOOD := Lib.hid (show askText ((j : Int) + 1) (⟨#[]⟩ : ByteArray) (⟨#[]⟩ : ByteArray) 0 = s from HTX.out.trans hte)
                have HOK := Lib.hid (askOk_of_text HGOOD.out HSE.out)
                have BB := Lib.hid (bel_set4 bw (Nat.le_refl _) (.int .i64 ((j : Int) + 1)) (.string (⟨#[]⟩ : ByteArray)) (.string (⟨#[]⟩ : ByteArray)) (.int .i64 0))
                clear xa xr bw hte
                go_wp2_with fail
                exact bodyPost_ret (v := .tuple #[.agg #[.int .i64 ((j : Int) + 1), .string (⟨#[]⟩ : ByteArray), .string (⟨#[]⟩ : ByteArray), .int .i64 0], .bool true]) (by simp [results, Tryd.results16, go_sem, r0, r1, r2, r3] <;> rfl) rfl ⟨Or.inl ⟨_, _, _, _, HOK.out, HGOOD.out, rfl⟩, BB.out⟩
            · have hse : s = ByteArray.empty := by
                rw [beq_iff_eq, ByteArray.toList_eq] at he
                exact ByteArray.ext (Array.toList_inj.1 he)
              have HBAD := Lib.hid (show ∀ k key hi num, askOk k key hi num = true → askText k key hi num ≠ s from fun k' key' hi' num' q t => askText_ne q (t.trans hse))
              clear hse
            
              have BB := Lib.hid (bel_set4 bw (Nat.le_refl _) (.int .i64 0) (.string ⟨#[]⟩) (.string ⟨#[]⟩) (.int .i64 0))
              clear xa bw
              have r0 := xr0.c (k := 0) rfl
              have q0 := xr0.f 0
              have r1 := xr0.c (k := 1) rfl
              have q1 := xr0.f 1
              have r2 := xr0.c (k := 2) rfl
              have q2 := xr0.f 2
              have r3 := xr0.c (k := 3) rfl
              have q3 := xr0.f 3
              clear xr0
              clear xr
              go_wp2_with fail
              exact bodyPost_ret (v := .tuple #[.agg #[.int .i64 0, .string ⟨#[]⟩, .string ⟨#[]⟩, .int .i64 0], .bool false]) (by simp [results, Tryd.results16, go_sem, r0, r1, r2, r3] <;> rfl) rfl ⟨Or.inr ⟨HBAD.out, rfl⟩, BB.out⟩
          have l1 : (1 : Int) < (n : Int) := by omega
          have c0 := xa.c (k := 0) rfl
          have h0 := xa.f 0
          have c1 := xa.c (k := 1) rfl
          have h1 := xa.f 1
          have c2 := xa.c (k := 2) rfl
          have h2 := xa.f 2
          have c3 := xa.c (k := 3) rfl
          have h3 := xa.f 3
          obtain ⟨y, hy⟩ : ∃ y, nthW ws 1 = y := ⟨_, rfl⟩
          have cy := CL.out 1 (by omega)
          rw [hy] at cy
          have Hy := Lib.hid hy
          clear hy
          have CS := Lib.hid (fun W => l4Shape ((j : Int) + 1) W)
          rw [HSH.out] at CS
          go_wp2_with fail
          refine (CS.out _).mono ?_
          rintro e w5 ⟨rfl, rfl⟩
          clear CS
          obtain ⟨tx, htx⟩ : ∃ tx, askText ((j : Int) + 1) y (⟨#[]⟩ : ByteArray) 0 = tx := ⟨_, rfl⟩
          have HTX := Lib.hid htx
          clear htx
          have HU := Lib.hid (show ∀ (k' : Int) (key' hi' : ByteArray) (num' : Int), askOk k' key' hi' num' = true → askText k' key' hi' num' = s → k' = (j : Int) + 1 ∧ key' = y ∧ hi' = (⟨#[]⟩ : ByteArray) ∧ num' = 0 from fun k' key' hi' num' q t => read_unique HW.out HJ.out HZ2.out HSH.out (key := y) (hi := (⟨#[]⟩ : ByteArray)) (num := 0) (by rw [if_pos rfl]; exact Hy.out.symm) (rfl) (fun h => by cases h) (fun _ => rfl) q t)
          cases he : (s.toList == ([] : List UInt8))
          · have hse : s ≠ ByteArray.empty := fun e => by rw [e] at he; simp [ByteArray.toList_eq] at he
            have HSE := Lib.hid hse
            clear hse
            go_wp2_with fail
            replace xr := xr.other (B' := w2.heap.size) (k := 1) (x := .string y) (by omega)
            replace xa := xa.set 1 (.string y)
            replace bw := bel_set bw (p := ⟨w2.heap.size, 1, none⟩) (by simp only; omega) (.string y)
            refine (specAskText ((j : Int) + 1) y (⟨#[]⟩ : ByteArray) 0 _ (by rw [← Hy.out]; have := HS.out 1; unfold maxLen; omega) (show (0 : Nat) ≤ maxLen from Nat.zero_le _)).mono ?_
            rintro e w7 ⟨rfl, hb⟩
            rw [HTX.out]
            replace xa := xa.on hb
            replace xr := xr.on hb
            replace bw := bel_trans bw hb
            clear hb
            replace c0 := xa.c (k := 0) rfl
            replace h0 := xa.f 0
            replace c1 := xa.c (k := 1) rfl
            replace h1 := xa.f 1
            replace c2 := xa.c (k := 2) rfl
            replace h2 := xa.f 2
            replace c3 := xa.c (k := 3) rfl
            replace h3 := xa.f 3
            have r0 := xr.c (k := 0) rfl
            have q0 := xr.f 0
            have r1 := xr.c (k := 1) rfl
            have q1 := xr.f 1
            have r2 := xr.c (k := 2) rfl
            have q2 := xr.f 2
            have r3 := xr.c (k := 3) rfl
            have q3 := xr.f 3
            cases ht : (tx.toList == s.toList)
            · have htn : tx ≠ s := fun e => by rw [e] at ht; simp at ht
              have HBAD := Lib.hid (show ∀ k key hi num, askOk k key hi num = true → askText k key hi num ≠ s from fun k' key' hi' num' q t => by
                obtain ⟨rfl, rfl, rfl, rfl⟩ := HU.out _ _ _ _ q t
                exact htn (HTX.out.symm.trans t))
              clear htn
              have BB := Lib.hid (bel_set4 bw (Nat.le_refl _) (.int .i64 0) (.string ⟨#[]⟩) (.string ⟨#[]⟩) (.int .i64 0))
              clear xa xr bw
              go_wp2_with fail
              exact bodyPost_ret (v := .tuple #[.agg #[.int .i64 0, .string ⟨#[]⟩, .string ⟨#[]⟩, .int .i64 0], .bool false]) (by simp [results, Tryd.results16, go_sem, r0, r1, r2, r3] <;> rfl) rfl ⟨Or.inr ⟨HBAD.out, rfl⟩, BB.out⟩
            · have hte : tx = s := by
                rw [beq_iff_eq, ByteArray.toList_eq, ByteArray.toList_eq] at ht
                exact ByteArray.ext (Array.toList_inj.1 ht)
              have HGOOD := Lib.hid (show askText ((j : Int) + 1) y (⟨#[]⟩ : ByteArray) 0 = s from HTX.out.trans hte)
              have HOK := Lib.hid (askOk_of_text HGOOD.out HSE.out)
              have BB := Lib.hid (bel_set4 bw (Nat.le_refl _) (.int .i64 ((j : Int) + 1)) (.string y) (.string (⟨#[]⟩ : ByteArray)) (.int .i64 0))
              clear xa xr bw hte
              go_wp2_with fail
              exact bodyPost_ret (v := .tuple #[.agg #[.int .i64 ((j : Int) + 1), .string y, .string (⟨#[]⟩ : ByteArray), .int .i64 0], .bool true]) (by simp [results, Tryd.results16, go_sem, r0, r1, r2, r3] <;> rfl) rfl ⟨Or.inl ⟨_, _, _, _, HOK.out, HGOOD.out, rfl⟩, BB.out⟩
          · have hse : s = ByteArray.empty := by
              rw [beq_iff_eq, ByteArray.toList_eq] at he
              exact ByteArray.ext (Array.toList_inj.1 he)
            have HBAD := Lib.hid (show ∀ k key hi num, askOk k key hi num = true → askText k key hi num ≠ s from fun k' key' hi' num' q t => askText_ne q (t.trans hse))
            clear hse
            replace xr := xr.other (B' := w2.heap.size) (k := 1) (x := .string y) (by omega)
            replace xa := xa.set 1 (.string y)
            replace bw := bel_set bw (p := ⟨w2.heap.size, 1, none⟩) (by simp only; omega) (.string y)
            have BB := Lib.hid (bel_set4 bw (Nat.le_refl _) (.int .i64 0) (.string ⟨#[]⟩) (.string ⟨#[]⟩) (.int .i64 0))
            clear xa bw
            have r0 := xr0.c (k := 0) rfl
            have q0 := xr0.f 0
            have r1 := xr0.c (k := 1) rfl
            have q1 := xr0.f 1
            have r2 := xr0.c (k := 2) rfl
            have q2 := xr0.f 2
            have r3 := xr0.c (k := 3) rfl
            have q3 := xr0.f 3
            clear xr0
            clear xr
            go_wp2_with fail
            exact bodyPost_ret (v := .tuple #[.agg #[.int .i64 0, .string ⟨#[]⟩, .string ⟨#[]⟩, .int .i64 0], .bool false]) (by simp [results, Tryd.results16, go_sem, r0, r1, r2, r3] <;> rfl) rfl ⟨Or.inr ⟨HBAD.out, rfl⟩, BB.out⟩
        · by_cases m1 : n = 1
          · have l1 : ¬ (1 : Int) < (n : Int) := by omega
            have l2 : ¬ (2 : Int) < (n : Int) := by omega
            have c0 := xa.c (k := 0) rfl
            have h0 := xa.f 0
            have c1 := xa.c (k := 1) rfl
            have h1 := xa.f 1
            have c2 := xa.c (k := 2) rfl
            have h2 := xa.f 2
            have c3 := xa.c (k := 3) rfl
            have h3 := xa.f 3
            have CS := Lib.hid (fun W => l4Shape ((j : Int) + 1) W)
            rw [HSH.out] at CS
            go_wp2_with fail
            refine (CS.out _).mono ?_
            rintro e w5 ⟨rfl, rfl⟩
            clear CS
            obtain ⟨tx, htx⟩ : ∃ tx, askText ((j : Int) + 1) (⟨#[]⟩ : ByteArray) (⟨#[]⟩ : ByteArray) 0 = tx := ⟨_, rfl⟩
            have HTX := Lib.hid htx
            clear htx
            have HU := Lib.hid (show ∀ (k' : Int) (key' hi' : ByteArray) (num' : Int), askOk k' key' hi' num' = true → askText k' key' hi' num' = s → k' = (j : Int) + 1 ∧ key' = (⟨#[]⟩ : ByteArray) ∧ hi' = (⟨#[]⟩ : ByteArray) ∧ num' = 0 from fun k' key' hi' num' q t => read_unique HW.out HJ.out HZ2.out HSH.out (key := (⟨#[]⟩ : ByteArray)) (hi := (⟨#[]⟩ : ByteArray)) (num := 0) (by rw [if_pos rfl]; exact (nthW_past (by have := HN.out; omega)).symm) (by rw [if_pos rfl]; exact (nthW_past (by have := HN.out; omega)).symm) (fun h => by cases h) (fun _ => rfl) q t)
            cases he : (s.toList == ([] : List UInt8))
            · have hse : s ≠ ByteArray.empty := fun e => by rw [e] at he; simp [ByteArray.toList_eq] at he
              have HSE := Lib.hid hse
              clear hse
              go_wp2_with fail
            
              refine (specAskText ((j : Int) + 1) (⟨#[]⟩ : ByteArray) (⟨#[]⟩ : ByteArray) 0 _ (show (0 : Nat) ≤ maxLen from Nat.zero_le _) (show (0 : Nat) ≤ maxLen from Nat.zero_le _)).mono ?_
              rintro e w7 ⟨rfl, hb⟩
              rw [HTX.out]
              replace xa := xa.on hb
              replace xr := xr.on hb
              replace bw := bel_trans bw hb
              clear hb
              replace c0 := xa.c (k := 0) rfl
              replace h0 := xa.f 0
              replace c1 := xa.c (k := 1) rfl
              replace h1 := xa.f 1
              replace c2 := xa.c (k := 2) rfl
              replace h2 := xa.f 2
              replace c3 := xa.c (k := 3) rfl
              replace h3 := xa.f 3
              have r0 := xr.c (k := 0) rfl
              have q0 := xr.f 0
              have r1 := xr.c (k := 1) rfl
              have q1 := xr.f 1
              have r2 := xr.c (k := 2) rfl
              have q2 := xr.f 2
              have r3 := xr.c (k := 3) rfl
              have q3 := xr.f 3
              cases ht : (tx.toList == s.toList)
              · have htn : tx ≠ s := fun e => by rw [e] at ht; simp at ht
                have HBAD := Lib.hid (show ∀ k key hi num, askOk k key hi num = true → askText k key hi num ≠ s from fun k' key' hi' num' q t => by
                  obtain ⟨rfl, rfl, rfl, rfl⟩ := HU.out _ _ _ _ q t
                  exact htn (HTX.out.symm.trans t))
                clear htn
                have BB := Lib.hid (bel_set4 bw (Nat.le_refl _) (.int .i64 0) (.string ⟨#[]⟩) (.string ⟨#[]⟩) (.int .i64 0))
                clear xa xr bw
                go_wp2_with fail
                exact bodyPost_ret (v := .tuple #[.agg #[.int .i64 0, .string ⟨#[]⟩, .string ⟨#[]⟩, .int .i64 0], .bool false]) (by simp [results, Tryd.results16, go_sem, r0, r1, r2, r3] <;> rfl) rfl ⟨Or.inr ⟨HBAD.out, rfl⟩, BB.out⟩
              · have hte : tx = s := by
                  rw [beq_iff_eq, ByteArray.toList_eq, ByteArray.toList_eq] at ht
                  exact ByteArray.ext (Array.toList_inj.1 ht)
                have HGOOD := Lib.hid (show askText ((j : Int) + 1) (⟨#[]⟩ : ByteArray) (⟨#[]⟩ : ByteArray) 0 = s from HTX.out.trans hte)
                have HOK := Lib.hid (askOk_of_text HGOOD.out HSE.out)
                have BB := Lib.hid (bel_set4 bw (Nat.le_refl _) (.int .i64 ((j : Int) + 1)) (.string (⟨#[]⟩ : ByteArray)) (.string (⟨#[]⟩ : ByteArray)) (.int .i64 0))
                clear xa xr bw hte
                go_wp2_with fail
                exact bodyPost_ret (v := .tuple #[.agg #[.int .i64 ((j : Int) + 1), .string (⟨#[]⟩ : ByteArray), .string (⟨#[]⟩ : ByteArray), .int .i64 0], .bool true]) (by simp [results, Tryd.results16, go_sem, r0, r1, r2, r3] <;> rfl) rfl ⟨Or.inl ⟨_, _, _, _, HOK.out, HGOOD.out, rfl⟩, BB.out⟩
            · have hse : s = ByteArray.empty := by
                rw [beq_iff_eq, ByteArray.toList_eq] at he
                exact ByteArray.ext (Array.toList_inj.1 he)
              have HBAD := Lib.hid (show ∀ k key hi num, askOk k key hi num = true → askText k key hi num ≠ s from fun k' key' hi' num' q t => askText_ne q (t.trans hse))
              clear hse
            
              have BB := Lib.hid (bel_set4 bw (Nat.le_refl _) (.int .i64 0) (.string ⟨#[]⟩) (.string ⟨#[]⟩) (.int .i64 0))
              clear xa bw
              have r0 := xr0.c (k := 0) rfl
              have q0 := xr0.f 0
              have r1 := xr0.c (k := 1) rfl
              have q1 := xr0.f 1
              have r2 := xr0.c (k := 2) rfl
              have q2 := xr0.f 2
              have r3 := xr0.c (k := 3) rfl
              have q3 := xr0.f 3
              clear xr0
              clear xr
              go_wp2_with fail
              exact bodyPost_ret (v := .tuple #[.agg #[.int .i64 0, .string ⟨#[]⟩, .string ⟨#[]⟩, .int .i64 0], .bool false]) (by simp [results, Tryd.results16, go_sem, r0, r1, r2, r3] <;> rfl) rfl ⟨Or.inr ⟨HBAD.out, rfl⟩, BB.out⟩
          by_cases m2 : n = 2
          · have l1 : (1 : Int) < (n : Int) := by omega
            have l2 : ¬ (2 : Int) < (n : Int) := by omega
            have c0 := xa.c (k := 0) rfl
            have h0 := xa.f 0
            have c1 := xa.c (k := 1) rfl
            have h1 := xa.f 1
            have c2 := xa.c (k := 2) rfl
            have h2 := xa.f 2
            have c3 := xa.c (k := 3) rfl
            have h3 := xa.f 3
            obtain ⟨y, hy⟩ : ∃ y, nthW ws 1 = y := ⟨_, rfl⟩
            have cy := CL.out 1 (by omega)
            rw [hy] at cy
            have Hy := Lib.hid hy
            clear hy
            have CS := Lib.hid (fun W => l4Shape ((j : Int) + 1) W)
            rw [HSH.out] at CS
            go_wp2_with fail
            refine (CS.out _).mono ?_
            rintro e w5 ⟨rfl, rfl⟩
            clear CS
            obtain ⟨tx, htx⟩ : ∃ tx, askText ((j : Int) + 1) y (⟨#[]⟩ : ByteArray) 0 = tx := ⟨_, rfl⟩
            have HTX := Lib.hid htx
            clear htx
            have HU := Lib.hid (show ∀ (k' : Int) (key' hi' : ByteArray) (num' : Int), askOk k' key' hi' num' = true → askText k' key' hi' num' = s → k' = (j : Int) + 1 ∧ key' = y ∧ hi' = (⟨#[]⟩ : ByteArray) ∧ num' = 0 from fun k' key' hi' num' q t => read_unique HW.out HJ.out HZ2.out HSH.out (key := y) (hi := (⟨#[]⟩ : ByteArray)) (num := 0) (by rw [if_pos rfl]; exact Hy.out.symm) (by rw [if_pos rfl]; exact (nthW_past (by have := HN.out; omega)).symm) (fun h => by cases h) (fun _ => rfl) q t)
            cases he : (s.toList == ([] : List UInt8))
            · have hse : s ≠ ByteArray.empty := fun e => by rw [e] at he; simp [ByteArray.toList_eq] at he
              have HSE := Lib.hid hse
              clear hse
              go_wp2_with fail
              replace xr := xr.other (B' := w2.heap.size) (k := 1) (x := .string y) (by omega)
              replace xa := xa.set 1 (.string y)
              replace bw := bel_set bw (p := ⟨w2.heap.size, 1, none⟩) (by simp only; omega) (.string y)
              refine (specAskText ((j : Int) + 1) y (⟨#[]⟩ : ByteArray) 0 _ (by rw [← Hy.out]; have := HS.out 1; unfold maxLen; omega) (show (0 : Nat) ≤ maxLen from Nat.zero_le _)).mono ?_
              rintro e w7 ⟨rfl, hb⟩
              rw [HTX.out]
              replace xa := xa.on hb
              replace xr := xr.on hb
              replace bw := bel_trans bw hb
              clear hb
              replace c0 := xa.c (k := 0) rfl
              replace h0 := xa.f 0
              replace c1 := xa.c (k := 1) rfl
              replace h1 := xa.f 1
              replace c2 := xa.c (k := 2) rfl
              replace h2 := xa.f 2
              replace c3 := xa.c (k := 3) rfl
              replace h3 := xa.f 3
              have r0 := xr.c (k := 0) rfl
              have q0 := xr.f 0
              have r1 := xr.c (k := 1) rfl
              have q1 := xr.f 1
              have r2 := xr.c (k := 2) rfl
              have q2 := xr.f 2
              have r3 := xr.c (k := 3) rfl
              have q3 := xr.f 3
              cases ht : (tx.toList == s.toList)
              · have htn : tx ≠ s := fun e => by rw [e] at ht; simp at ht
                have HBAD := Lib.hid (show ∀ k key hi num, askOk k key hi num = true → askText k key hi num ≠ s from fun k' key' hi' num' q t => by
                  obtain ⟨rfl, rfl, rfl, rfl⟩ := HU.out _ _ _ _ q t
                  exact htn (HTX.out.symm.trans t))
                clear htn
                have BB := Lib.hid (bel_set4 bw (Nat.le_refl _) (.int .i64 0) (.string ⟨#[]⟩) (.string ⟨#[]⟩) (.int .i64 0))
                clear xa xr bw
                go_wp2_with fail
                exact bodyPost_ret (v := .tuple #[.agg #[.int .i64 0, .string ⟨#[]⟩, .string ⟨#[]⟩, .int .i64 0], .bool false]) (by simp [results, Tryd.results16, go_sem, r0, r1, r2, r3] <;> rfl) rfl ⟨Or.inr ⟨HBAD.out, rfl⟩, BB.out⟩
              · have hte : tx = s := by
                  rw [beq_iff_eq, ByteArray.toList_eq, ByteArray.toList_eq] at ht
                  exact ByteArray.ext (Array.toList_inj.1 ht)
                have HGOOD := Lib.hid (show askText ((j : Int) + 1) y (⟨#[]⟩ : ByteArray) 0 = s from HTX.out.trans hte)
                have HOK := Lib.hid (askOk_of_text HGOOD.out HSE.out)
                have BB := Lib.hid (bel_set4 bw (Nat.le_refl _) (.int .i64 ((j : Int) + 1)) (.string y) (.string (⟨#[]⟩ : ByteArray)) (.int .i64 0))
                clear xa xr bw hte
                go_wp2_with fail
                exact bodyPost_ret (v := .tuple #[.agg #[.int .i64 ((j : Int) + 1), .string y, .string (⟨#[]⟩ : ByteArray), .int .i64 0], .bool true]) (by simp [results, Tryd.results16, go_sem, r0, r1, r2, r3] <;> rfl) rfl ⟨Or.inl ⟨_, _, _, _, HOK.out, HGOOD.out, rfl⟩, BB.out⟩
            · have hse : s = ByteArray.empty := by
                rw [beq_iff_eq, ByteArray.toList_eq] at he
                exact ByteArray.ext (Array.toList_inj.1 he)
              have HBAD := Lib.hid (show ∀ k key hi num, askOk k key hi num = true → askText k key hi num ≠ s from fun k' key' hi' num' q t => askText_ne q (t.trans hse))
              clear hse
              replace xr := xr.other (B' := w2.heap.size) (k := 1) (x := .string y) (by omega)
              replace xa := xa.set 1 (.string y)
              replace bw := bel_set bw (p := ⟨w2.heap.size, 1, none⟩) (by simp only; omega) (.string y)
              have BB := Lib.hid (bel_set4 bw (Nat.le_refl _) (.int .i64 0) (.string ⟨#[]⟩) (.string ⟨#[]⟩) (.int .i64 0))
              clear xa bw
              have r0 := xr0.c (k := 0) rfl
              have q0 := xr0.f 0
              have r1 := xr0.c (k := 1) rfl
              have q1 := xr0.f 1
              have r2 := xr0.c (k := 2) rfl
              have q2 := xr0.f 2
              have r3 := xr0.c (k := 3) rfl
              have q3 := xr0.f 3
              clear xr0
              clear xr
              go_wp2_with fail
              exact bodyPost_ret (v := .tuple #[.agg #[.int .i64 0, .string ⟨#[]⟩, .string ⟨#[]⟩, .int .i64 0], .bool false]) (by simp [results, Tryd.results16, go_sem, r0, r1, r2, r3] <;> rfl) rfl ⟨Or.inr ⟨HBAD.out, rfl⟩, BB.out⟩
          have l1 : (1 : Int) < (n : Int) := by omega
          have l2 : (2 : Int) < (n : Int) := by omega
          have c0 := xa.c (k := 0) rfl
          have h0 := xa.f 0
          have c1 := xa.c (k := 1) rfl
          have h1 := xa.f 1
          have c2 := xa.c (k := 2) rfl
          have h2 := xa.f 2
          have c3 := xa.c (k := 3) rfl
          have h3 := xa.f 3
          obtain ⟨y, hy⟩ : ∃ y, nthW ws 1 = y := ⟨_, rfl⟩
          have cy := CL.out 1 (by omega)
          rw [hy] at cy
          have Hy := Lib.hid hy
          clear hy
          obtain ⟨y2, hy2⟩ : ∃ y2, nthW ws 2 = y2 := ⟨_, rfl⟩
          have cy2 := CL.out 2 (by omega)
          rw [hy2] at cy2
          have Hy2 := Lib.hid hy2
          clear hy2
          have CS := Lib.hid (fun W => l4Shape ((j : Int) + 1) W)
          rw [HSH.out] at CS
          go_wp2_with fail
          refine (CS.out _).mono ?_
          rintro e w5 ⟨rfl, rfl⟩
          clear CS
          obtain ⟨tx, htx⟩ : ∃ tx, askText ((j : Int) + 1) y y2 0 = tx := ⟨_, rfl⟩
          have HTX := Lib.hid htx
          clear htx
          have HU := Lib.hid (show ∀ (k' : Int) (key' hi' : ByteArray) (num' : Int), askOk k' key' hi' num' = true → askText k' key' hi' num' = s → k' = (j : Int) + 1 ∧ key' = y ∧ hi' = y2 ∧ num' = 0 from fun k' key' hi' num' q t => read_unique HW.out HJ.out HZ2.out HSH.out (key := y) (hi := y2) (num := 0) (by rw [if_pos rfl]; exact Hy.out.symm) (by rw [if_pos rfl]; exact Hy2.out.symm) (fun h => by cases h) (fun _ => rfl) q t)
          cases he : (s.toList == ([] : List UInt8))
          · have hse : s ≠ ByteArray.empty := fun e => by rw [e] at he; simp [ByteArray.toList_eq] at he
            have HSE := Lib.hid hse
            clear hse
            go_wp2_with fail
            replace xr := xr.other (B' := w2.heap.size) (k := 1) (x := .string y) (by omega)
            replace xa := xa.set 1 (.string y)
            replace bw := bel_set bw (p := ⟨w2.heap.size, 1, none⟩) (by simp only; omega) (.string y)
            replace xr := xr.other (B' := w2.heap.size) (k := 2) (x := .string y2) (by omega)
            replace xa := xa.set 2 (.string y2)
            replace bw := bel_set bw (p := ⟨w2.heap.size, 2, none⟩) (by simp only; omega) (.string y2)
            refine (specAskText ((j : Int) + 1) y y2 0 _ (by rw [← Hy.out]; have := HS.out 1; unfold maxLen; omega) (by rw [← Hy2.out]; have := HS.out 2; unfold maxLen; omega)).mono ?_
            rintro e w7 ⟨rfl, hb⟩
            rw [HTX.out]
            replace xa := xa.on hb
            replace xr := xr.on hb
            replace bw := bel_trans bw hb
            clear hb
            replace c0 := xa.c (k := 0) rfl
            replace h0 := xa.f 0
            replace c1 := xa.c (k := 1) rfl
            replace h1 := xa.f 1
            replace c2 := xa.c (k := 2) rfl
            replace h2 := xa.f 2
            replace c3 := xa.c (k := 3) rfl
            replace h3 := xa.f 3
            have r0 := xr.c (k := 0) rfl
            have q0 := xr.f 0
            have r1 := xr.c (k := 1) rfl
            have q1 := xr.f 1
            have r2 := xr.c (k := 2) rfl
            have q2 := xr.f 2
            have r3 := xr.c (k := 3) rfl
            have q3 := xr.f 3
            cases ht : (tx.toList == s.toList)
            · have htn : tx ≠ s := fun e => by rw [e] at ht; simp at ht
              have HBAD := Lib.hid (show ∀ k key hi num, askOk k key hi num = true → askText k key hi num ≠ s from fun k' key' hi' num' q t => by
                obtain ⟨rfl, rfl, rfl, rfl⟩ := HU.out _ _ _ _ q t
                exact htn (HTX.out.symm.trans t))
              clear htn
              have BB := Lib.hid (bel_set4 bw (Nat.le_refl _) (.int .i64 0) (.string ⟨#[]⟩) (.string ⟨#[]⟩) (.int .i64 0))
              clear xa xr bw
              go_wp2_with fail
              exact bodyPost_ret (v := .tuple #[.agg #[.int .i64 0, .string ⟨#[]⟩, .string ⟨#[]⟩, .int .i64 0], .bool false]) (by simp [results, Tryd.results16, go_sem, r0, r1, r2, r3] <;> rfl) rfl ⟨Or.inr ⟨HBAD.out, rfl⟩, BB.out⟩
            · have hte : tx = s := by
                rw [beq_iff_eq, ByteArray.toList_eq, ByteArray.toList_eq] at ht
                exact ByteArray.ext (Array.toList_inj.1 ht)
              have HGOOD := Lib.hid (show askText ((j : Int) + 1) y y2 0 = s from HTX.out.trans hte)
              have HOK := Lib.hid (askOk_of_text HGOOD.out HSE.out)
              have BB := Lib.hid (bel_set4 bw (Nat.le_refl _) (.int .i64 ((j : Int) + 1)) (.string y) (.string y2) (.int .i64 0))
              clear xa xr bw hte
              go_wp2_with fail
              exact bodyPost_ret (v := .tuple #[.agg #[.int .i64 ((j : Int) + 1), .string y, .string y2, .int .i64 0], .bool true]) (by simp [results, Tryd.results16, go_sem, r0, r1, r2, r3] <;> rfl) rfl ⟨Or.inl ⟨_, _, _, _, HOK.out, HGOOD.out, rfl⟩, BB.out⟩
          · have hse : s = ByteArray.empty := by
              rw [beq_iff_eq, ByteArray.toList_eq] at he
              exact ByteArray.ext (Array.toList_inj.1 he)
            have HBAD := Lib.hid (show ∀ k key hi num, askOk k key hi num = true → askText k key hi num ≠ s from fun k' key' hi' num' q t => askText_ne q (t.trans hse))
            clear hse
            replace xr := xr.other (B' := w2.heap.size) (k := 1) (x := .string y) (by omega)
            replace xa := xa.set 1 (.string y)
            replace bw := bel_set bw (p := ⟨w2.heap.size, 1, none⟩) (by simp only; omega) (.string y)
            replace xr := xr.other (B' := w2.heap.size) (k := 2) (x := .string y2) (by omega)
            replace xa := xa.set 2 (.string y2)
            replace bw := bel_set bw (p := ⟨w2.heap.size, 2, none⟩) (by simp only; omega) (.string y2)
            have BB := Lib.hid (bel_set4 bw (Nat.le_refl _) (.int .i64 0) (.string ⟨#[]⟩) (.string ⟨#[]⟩) (.int .i64 0))
            clear xa bw
            have r0 := xr0.c (k := 0) rfl
            have q0 := xr0.f 0
            have r1 := xr0.c (k := 1) rfl
            have q1 := xr0.f 1
            have r2 := xr0.c (k := 2) rfl
            have q2 := xr0.f 2
            have r3 := xr0.c (k := 3) rfl
            have q3 := xr0.f 3
            clear xr0
            clear xr
            go_wp2_with fail
            exact bodyPost_ret (v := .tuple #[.agg #[.int .i64 0, .string ⟨#[]⟩, .string ⟨#[]⟩, .int .i64 0], .bool false]) (by simp [results, Tryd.results16, go_sem, r0, r1, r2, r3] <;> rfl) rfl ⟨Or.inr ⟨HBAD.out, rfl⟩, BB.out⟩
        · by_cases m1 : n = 1
          · have l1 : ¬ (1 : Int) < (n : Int) := by omega
            have l2 : ¬ (2 : Int) < (n : Int) := by omega
            have c0 := xa.c (k := 0) rfl
            have h0 := xa.f 0
            have c1 := xa.c (k := 1) rfl
            have h1 := xa.f 1
            have c2 := xa.c (k := 2) rfl
            have h2 := xa.f 2
            have c3 := xa.c (k := 3) rfl
            have h3 := xa.f 3
            have CS := Lib.hid (fun W => l4Shape ((j : Int) + 1) W)
            rw [HSH.out] at CS
            go_wp2_with fail
            refine (CS.out _).mono ?_
            rintro e w5 ⟨rfl, rfl⟩
            clear CS
            obtain ⟨tx, htx⟩ : ∃ tx, askText ((j : Int) + 1) (⟨#[]⟩ : ByteArray) (⟨#[]⟩ : ByteArray) 0 = tx := ⟨_, rfl⟩
            have HTX := Lib.hid htx
            clear htx
            have HU := Lib.hid (show ∀ (k' : Int) (key' hi' : ByteArray) (num' : Int), askOk k' key' hi' num' = true → askText k' key' hi' num' = s → k' = (j : Int) + 1 ∧ key' = (⟨#[]⟩ : ByteArray) ∧ hi' = (⟨#[]⟩ : ByteArray) ∧ num' = 0 from fun k' key' hi' num' q t => read_unique HW.out HJ.out HZ2.out HSH.out (key := (⟨#[]⟩ : ByteArray)) (hi := (⟨#[]⟩ : ByteArray)) (num := 0) (by rw [if_pos rfl]; exact (nthW_past (by have := HN.out; omega)).symm) (rfl) (fun _ => isNum_past (by have := HN.out; omega) 0) (fun h => by cases h) q t)
            cases he : (s.toList == ([] : List UInt8))
            · have hse : s ≠ ByteArray.empty := fun e => by rw [e] at he; simp [ByteArray.toList_eq] at he
              have HSE := Lib.hid hse
              clear hse
              go_wp2_with fail
            
              refine (specAskText ((j : Int) + 1) (⟨#[]⟩ : ByteArray) (⟨#[]⟩ : ByteArray) 0 _ (show (0 : Nat) ≤ maxLen from Nat.zero_le _) (show (0 : Nat) ≤ maxLen from Nat.zero_le _)).mono ?_
              rintro e w7 ⟨rfl, hb⟩
              rw [HTX.out]
              replace xa := xa.on hb
              replace xr := xr.on hb
              replace bw := bel_trans bw hb
              clear hb
              replace c0 := xa.c (k := 0) rfl
              replace h0 := xa.f 0
              replace c1 := xa.c (k := 1) rfl
              replace h1 := xa.f 1
              replace c2 := xa.c (k := 2) rfl
              replace h2 := xa.f 2
              replace c3 := xa.c (k := 3) rfl
              replace h3 := xa.f 3
              have r0 := xr.c (k := 0) rfl
              have q0 := xr.f 0
              have r1 := xr.c (k := 1) rfl
              have q1 := xr.f 1
              have r2 := xr.c (k := 2) rfl
              have q2 := xr.f 2
              have r3 := xr.c (k := 3) rfl
              have q3 := xr.f 3
              cases ht : (tx.toList == s.toList)
              · have htn : tx ≠ s := fun e => by rw [e] at ht; simp at ht
                have HBAD := Lib.hid (show ∀ k key hi num, askOk k key hi num = true → askText k key hi num ≠ s from fun k' key' hi' num' q t => by
                  obtain ⟨rfl, rfl, rfl, rfl⟩ := HU.out _ _ _ _ q t
                  exact htn (HTX.out.symm.trans t))
                clear htn
                have BB := Lib.hid (bel_set4 bw (Nat.le_refl _) (.int .i64 0) (.string ⟨#[]⟩) (.string ⟨#[]⟩) (.int .i64 0))
                clear xa xr bw
                go_wp2_with fail
                exact bodyPost_ret (v := .tuple #[.agg #[.int .i64 0, .string ⟨#[]⟩, .string ⟨#[]⟩, .int .i64 0], .bool false]) (by simp [results, Tryd.results16, go_sem, r0, r1, r2, r3] <;> rfl) rfl ⟨Or.inr ⟨HBAD.out, rfl⟩, BB.out⟩
              · have hte : tx = s := by
                  rw [beq_iff_eq, ByteArray.toList_eq, ByteArray.toList_eq] at ht
                  exact ByteArray.ext (Array.toList_inj.1 ht)
                have HGOOD := Lib.hid (show askText ((j : Int) + 1) (⟨#[]⟩ : ByteArray) (⟨#[]⟩ : ByteArray) 0 = s from HTX.out.trans hte)
                have HOK := Lib.hid (askOk_of_text HGOOD.out HSE.out)
                have BB := Lib.hid (bel_set4 bw (Nat.le_refl _) (.int .i64 ((j : Int) + 1)) (.string (⟨#[]⟩ : ByteArray)) (.string (⟨#[]⟩ : ByteArray)) (.int .i64 0))
                clear xa xr bw hte
                go_wp2_with fail
                exact bodyPost_ret (v := .tuple #[.agg #[.int .i64 ((j : Int) + 1), .string (⟨#[]⟩ : ByteArray), .string (⟨#[]⟩ : ByteArray), .int .i64 0], .bool true]) (by simp [results, Tryd.results16, go_sem, r0, r1, r2, r3] <;> rfl) rfl ⟨Or.inl ⟨_, _, _, _, HOK.out, HGOOD.out, rfl⟩, BB.out⟩
            · have hse : s = ByteArray.empty := by
                rw [beq_iff_eq, ByteArray.toList_eq] at he
                exact ByteArray.ext (Array.toList_inj.1 he)
              have HBAD := Lib.hid (show ∀ k key hi num, askOk k key hi num = true → askText k key hi num ≠ s from fun k' key' hi' num' q t => askText_ne q (t.trans hse))
              clear hse
            
              have BB := Lib.hid (bel_set4 bw (Nat.le_refl _) (.int .i64 0) (.string ⟨#[]⟩) (.string ⟨#[]⟩) (.int .i64 0))
              clear xa bw
              have r0 := xr0.c (k := 0) rfl
              have q0 := xr0.f 0
              have r1 := xr0.c (k := 1) rfl
              have q1 := xr0.f 1
              have r2 := xr0.c (k := 2) rfl
              have q2 := xr0.f 2
              have r3 := xr0.c (k := 3) rfl
              have q3 := xr0.f 3
              clear xr0
              clear xr
              go_wp2_with fail
              exact bodyPost_ret (v := .tuple #[.agg #[.int .i64 0, .string ⟨#[]⟩, .string ⟨#[]⟩, .int .i64 0], .bool false]) (by simp [results, Tryd.results16, go_sem, r0, r1, r2, r3] <;> rfl) rfl ⟨Or.inr ⟨HBAD.out, rfl⟩, BB.out⟩
          by_cases m2 : n = 2
          · have l1 : (1 : Int) < (n : Int) := by omega
            have l2 : ¬ (2 : Int) < (n : Int) := by omega
            have c0 := xa.c (k := 0) rfl
            have h0 := xa.f 0
            have c1 := xa.c (k := 1) rfl
            have h1 := xa.f 1
            have c2 := xa.c (k := 2) rfl
            have h2 := xa.f 2
            have c3 := xa.c (k := 3) rfl
            have h3 := xa.f 3
            obtain ⟨y, hy⟩ : ∃ y, nthW ws 1 = y := ⟨_, rfl⟩
            have cy := CL.out 1 (by omega)
            rw [hy] at cy
            have Hy := Lib.hid hy
            clear hy
            have CS := Lib.hid (fun W => l4Shape ((j : Int) + 1) W)
            rw [HSH.out] at CS
            go_wp2_with fail
            refine (CS.out _).mono ?_
            rintro e w5 ⟨rfl, rfl⟩
            clear CS
            obtain ⟨tx, htx⟩ : ∃ tx, askText ((j : Int) + 1) y (⟨#[]⟩ : ByteArray) 0 = tx := ⟨_, rfl⟩
            have HTX := Lib.hid htx
            clear htx
            have HU := Lib.hid (show ∀ (k' : Int) (key' hi' : ByteArray) (num' : Int), askOk k' key' hi' num' = true → askText k' key' hi' num' = s → k' = (j : Int) + 1 ∧ key' = y ∧ hi' = (⟨#[]⟩ : ByteArray) ∧ num' = 0 from fun k' key' hi' num' q t => read_unique HW.out HJ.out HZ2.out HSH.out (key := y) (hi := (⟨#[]⟩ : ByteArray)) (num := 0) (by rw [if_pos rfl]; exact Hy.out.symm) (rfl) (fun _ => isNum_past (by have := HN.out; omega) 0) (fun h => by cases h) q t)
            cases he : (s.toList == ([] : List UInt8))
            · have hse : s ≠ ByteArray.empty := fun e => by rw [e] at he; simp [ByteArray.toList_eq] at he
              have HSE := Lib.hid hse
              clear hse
              go_wp2_with fail
              replace xr := xr.other (B' := w2.heap.size) (k := 1) (x := .string y) (by omega)
              replace xa := xa.set 1 (.string y)
              replace bw := bel_set bw (p := ⟨w2.heap.size, 1, none⟩) (by simp only; omega) (.string y)
              refine (specAskText ((j : Int) + 1) y (⟨#[]⟩ : ByteArray) 0 _ (by rw [← Hy.out]; have := HS.out 1; unfold maxLen; omega) (show (0 : Nat) ≤ maxLen from Nat.zero_le _)).mono ?_
              rintro e w7 ⟨rfl, hb⟩
              rw [HTX.out]
              replace xa := xa.on hb
              replace xr := xr.on hb
              replace bw := bel_trans bw hb
              clear hb
              replace c0 := xa.c (k := 0) rfl
              replace h0 := xa.f 0
              replace c1 := xa.c (k := 1) rfl
              replace h1 := xa.f 1
              replace c2 := xa.c (k := 2) rfl
              replace h2 := xa.f 2
              replace c3 := xa.c (k := 3) rfl
              replace h3 := xa.f 3
              have r0 := xr.c (k := 0) rfl
              have q0 := xr.f 0
              have r1 := xr.c (k := 1) rfl
              have q1 := xr.f 1
              have r2 := xr.c (k := 2) rfl
              have q2 := xr.f 2
              have r3 := xr.c (k := 3) rfl
              have q3 := xr.f 3
              cases ht : (tx.toList == s.toList)
              · have htn : tx ≠ s := fun e => by rw [e] at ht; simp at ht
                have HBAD := Lib.hid (show ∀ k key hi num, askOk k key hi num = true → askText k key hi num ≠ s from fun k' key' hi' num' q t => by
                  obtain ⟨rfl, rfl, rfl, rfl⟩ := HU.out _ _ _ _ q t
                  exact htn (HTX.out.symm.trans t))
                clear htn
                have BB := Lib.hid (bel_set4 bw (Nat.le_refl _) (.int .i64 0) (.string ⟨#[]⟩) (.string ⟨#[]⟩) (.int .i64 0))
                clear xa xr bw
                go_wp2_with fail
                exact bodyPost_ret (v := .tuple #[.agg #[.int .i64 0, .string ⟨#[]⟩, .string ⟨#[]⟩, .int .i64 0], .bool false]) (by simp [results, Tryd.results16, go_sem, r0, r1, r2, r3] <;> rfl) rfl ⟨Or.inr ⟨HBAD.out, rfl⟩, BB.out⟩
              · have hte : tx = s := by
                  rw [beq_iff_eq, ByteArray.toList_eq, ByteArray.toList_eq] at ht
                  exact ByteArray.ext (Array.toList_inj.1 ht)
                have HGOOD := Lib.hid (show askText ((j : Int) + 1) y (⟨#[]⟩ : ByteArray) 0 = s from HTX.out.trans hte)
                have HOK := Lib.hid (askOk_of_text HGOOD.out HSE.out)
                have BB := Lib.hid (bel_set4 bw (Nat.le_refl _) (.int .i64 ((j : Int) + 1)) (.string y) (.string (⟨#[]⟩ : ByteArray)) (.int .i64 0))
                clear xa xr bw hte
                go_wp2_with fail
                exact bodyPost_ret (v := .tuple #[.agg #[.int .i64 ((j : Int) + 1), .string y, .string (⟨#[]⟩ : ByteArray), .int .i64 0], .bool true]) (by simp [results, Tryd.results16, go_sem, r0, r1, r2, r3] <;> rfl) rfl ⟨Or.inl ⟨_, _, _, _, HOK.out, HGOOD.out, rfl⟩, BB.out⟩
            · have hse : s = ByteArray.empty := by
                rw [beq_iff_eq, ByteArray.toList_eq] at he
                exact ByteArray.ext (Array.toList_inj.1 he)
              have HBAD := Lib.hid (show ∀ k key hi num, askOk k key hi num = true → askText k key hi num ≠ s from fun k' key' hi' num' q t => askText_ne q (t.trans hse))
              clear hse
              replace xr := xr.other (B' := w2.heap.size) (k := 1) (x := .string y) (by omega)
              replace xa := xa.set 1 (.string y)
              replace bw := bel_set bw (p := ⟨w2.heap.size, 1, none⟩) (by simp only; omega) (.string y)
              have BB := Lib.hid (bel_set4 bw (Nat.le_refl _) (.int .i64 0) (.string ⟨#[]⟩) (.string ⟨#[]⟩) (.int .i64 0))
              clear xa bw
              have r0 := xr0.c (k := 0) rfl
              have q0 := xr0.f 0
              have r1 := xr0.c (k := 1) rfl
              have q1 := xr0.f 1
              have r2 := xr0.c (k := 2) rfl
              have q2 := xr0.f 2
              have r3 := xr0.c (k := 3) rfl
              have q3 := xr0.f 3
              clear xr0
              clear xr
              go_wp2_with fail
              exact bodyPost_ret (v := .tuple #[.agg #[.int .i64 0, .string ⟨#[]⟩, .string ⟨#[]⟩, .int .i64 0], .bool false]) (by simp [results, Tryd.results16, go_sem, r0, r1, r2, r3] <;> rfl) rfl ⟨Or.inr ⟨HBAD.out, rfl⟩, BB.out⟩
          have l1 : (1 : Int) < (n : Int) := by omega
          have l2 : (2 : Int) < (n : Int) := by omega
          have c0 := xa.c (k := 0) rfl
          have h0 := xa.f 0
          have c1 := xa.c (k := 1) rfl
          have h1 := xa.f 1
          have c2 := xa.c (k := 2) rfl
          have h2 := xa.f 2
          have c3 := xa.c (k := 3) rfl
          have h3 := xa.f 3
          obtain ⟨y, hy⟩ : ∃ y, nthW ws 1 = y := ⟨_, rfl⟩
          have cy := CL.out 1 (by omega)
          rw [hy] at cy
          have Hy := Lib.hid hy
          clear hy
          obtain ⟨y2, hy2⟩ : ∃ y2, nthW ws 2 = y2 := ⟨_, rfl⟩
          have cy2 := CL.out 2 (by omega)
          rw [hy2] at cy2
          have Hy2 := Lib.hid hy2
          clear hy2
          have CS := Lib.hid (fun W => l4Shape ((j : Int) + 1) W)
          rw [HSH.out] at CS
          go_wp2_with fail
          refine (CS.out _).mono ?_
          rintro e w5 ⟨rfl, rfl⟩
          clear CS
          go_wp2_with fail
          replace xr := xr.other (B' := w2.heap.size) (k := 1) (x := .string y) (by omega)
          replace xa := xa.set 1 (.string y)
          replace bw := bel_set bw (p := ⟨w2.heap.size, 1, none⟩) (by simp only; omega) (.string y)
          refine (l11Num y2 _ (by rw [← Hy2.out]; exact HS.out 2)).mono ?_
          rintro e w6 ⟨num, nb, rfl, hnum, v0, v1, hb⟩
          replace xa := xa.on hb
          replace xr := xr.on hb
          replace xr0 := xr
          replace bw := bel_trans bw hb
          have hsz6 := hb.size
          try simp only [World.size_setCell] at hsz6
          have HNU := Lib.hid hnum
          clear hb hnum
          replace c0 := xa.c (k := 0) rfl
          replace h0 := xa.f 0
          replace c1 := xa.c (k := 1) rfl
          replace h1 := xa.f 1
          replace c2 := xa.c (k := 2) rfl
          replace h2 := xa.f 2
          replace c3 := xa.c (k := 3) rfl
          replace h3 := xa.f 3
          obtain ⟨tx, htx⟩ : ∃ tx, askText ((j : Int) + 1) y (⟨#[]⟩ : ByteArray) num = tx := ⟨_, rfl⟩
          have HTX := Lib.hid htx
          clear htx
          have HU := Lib.hid (show ∀ (k' : Int) (key' hi' : ByteArray) (num' : Int), askOk k' key' hi' num' = true → askText k' key' hi' num' = s → k' = (j : Int) + 1 ∧ key' = y ∧ hi' = (⟨#[]⟩ : ByteArray) ∧ num' = num from fun k' key' hi' num' q t => read_unique HW.out HJ.out HZ2.out HSH.out (key := y) (hi := (⟨#[]⟩ : ByteArray)) (num := num) (by rw [if_pos rfl]; exact Hy.out.symm) (rfl) (fun _ => by rw [Hy2.out]; exact HNU.out) (fun h => by cases h) q t)
          cases he : (s.toList == ([] : List UInt8))
          · have hse : s ≠ ByteArray.empty := fun e => by rw [e] at he; simp [ByteArray.toList_eq] at he
            have HSE := Lib.hid hse
            clear hse
            go_wp2_with fail
            replace xr := xr.other (B' := w2.heap.size) (k := 3) (x := .int .i64 num) (by omega)
            replace xa := xa.set 3 (.int .i64 num)
            replace bw := bel_set bw (p := ⟨w2.heap.size, 3, none⟩) (by simp only; omega) (.int .i64 num)
            refine (specAskText ((j : Int) + 1) y (⟨#[]⟩ : ByteArray) num _ (by rw [← Hy.out]; have := HS.out 1; unfold maxLen; omega) (show (0 : Nat) ≤ maxLen from Nat.zero_le _)).mono ?_
            rintro e w7 ⟨rfl, hb⟩
            rw [HTX.out]
            replace xa := xa.on hb
            replace xr := xr.on hb
            replace bw := bel_trans bw hb
            clear hb
            replace c0 := xa.c (k := 0) rfl
            replace h0 := xa.f 0
            replace c1 := xa.c (k := 1) rfl
            replace h1 := xa.f 1
            replace c2 := xa.c (k := 2) rfl
            replace h2 := xa.f 2
            replace c3 := xa.c (k := 3) rfl
            replace h3 := xa.f 3
            have r0 := xr.c (k := 0) rfl
            have q0 := xr.f 0
            have r1 := xr.c (k := 1) rfl
            have q1 := xr.f 1
            have r2 := xr.c (k := 2) rfl
            have q2 := xr.f 2
            have r3 := xr.c (k := 3) rfl
            have q3 := xr.f 3
            cases ht : (tx.toList == s.toList)
            · have htn : tx ≠ s := fun e => by rw [e] at ht; simp at ht
              have HBAD := Lib.hid (show ∀ k key hi num, askOk k key hi num = true → askText k key hi num ≠ s from fun k' key' hi' num' q t => by
                obtain ⟨rfl, rfl, rfl, rfl⟩ := HU.out _ _ _ _ q t
                exact htn (HTX.out.symm.trans t))
              clear htn
              have BB := Lib.hid (bel_set4 bw (Nat.le_refl _) (.int .i64 0) (.string ⟨#[]⟩) (.string ⟨#[]⟩) (.int .i64 0))
              clear xa xr bw
              go_wp2_with fail
              exact bodyPost_ret (v := .tuple #[.agg #[.int .i64 0, .string ⟨#[]⟩, .string ⟨#[]⟩, .int .i64 0], .bool false]) (by simp [results, Tryd.results16, go_sem, r0, r1, r2, r3] <;> rfl) rfl ⟨Or.inr ⟨HBAD.out, rfl⟩, BB.out⟩
            · have hte : tx = s := by
                rw [beq_iff_eq, ByteArray.toList_eq, ByteArray.toList_eq] at ht
                exact ByteArray.ext (Array.toList_inj.1 ht)
              have HGOOD := Lib.hid (show askText ((j : Int) + 1) y (⟨#[]⟩ : ByteArray) num = s from HTX.out.trans hte)
              have HOK := Lib.hid (askOk_of_text HGOOD.out HSE.out)
              have BB := Lib.hid (bel_set4 bw (Nat.le_refl _) (.int .i64 ((j : Int) + 1)) (.string y) (.string (⟨#[]⟩ : ByteArray)) (.int .i64 num))
              clear xa xr bw hte
              go_wp2_with fail
              exact bodyPost_ret (v := .tuple #[.agg #[.int .i64 ((j : Int) + 1), .string y, .string (⟨#[]⟩ : ByteArray), .int .i64 num], .bool true]) (by simp [results, Tryd.results16, go_sem, r0, r1, r2, r3] <;> rfl) rfl ⟨Or.inl ⟨_, _, _, _, HOK.out, HGOOD.out, rfl⟩, BB.out⟩
          · have hse : s = ByteArray.empty := by
              rw [beq_iff_eq, ByteArray.toList_eq] at he
              exact ByteArray.ext (Array.toList_inj.1 he)
            have HBAD := Lib.hid (show ∀ k key hi num, askOk k key hi num = true → askText k key hi num ≠ s from fun k' key' hi' num' q t => askText_ne q (t.trans hse))
            clear hse
            replace xr := xr.other (B' := w2.heap.size) (k := 3) (x := .int .i64 num) (by omega)
            replace xa := xa.set 3 (.int .i64 num)
            replace bw := bel_set bw (p := ⟨w2.heap.size, 3, none⟩) (by simp only; omega) (.int .i64 num)
            have BB := Lib.hid (bel_set4 bw (Nat.le_refl _) (.int .i64 0) (.string ⟨#[]⟩) (.string ⟨#[]⟩) (.int .i64 0))
            clear xa bw
            have r0 := xr0.c (k := 0) rfl
            have q0 := xr0.f 0
            have r1 := xr0.c (k := 1) rfl
            have q1 := xr0.f 1
            have r2 := xr0.c (k := 2) rfl
            have q2 := xr0.f 2
            have r3 := xr0.c (k := 3) rfl
            have q3 := xr0.f 3
            clear xr0
            clear xr
            go_wp2_with fail
            exact bodyPost_ret (v := .tuple #[.agg #[.int .i64 0, .string ⟨#[]⟩, .string ⟨#[]⟩, .int .i64 0], .bool false]) (by simp [results, Tryd.results16, go_sem, r0, r1, r2, r3] <;> rfl) rfl ⟨Or.inr ⟨HBAD.out, rfl⟩, BB.out⟩
        · have c0 := xa.c (k := 0) rfl
          have h0 := xa.f 0
          have c1 := xa.c (k := 1) rfl
          have h1 := xa.f 1
          have c2 := xa.c (k := 2) rfl
          have h2 := xa.f 2
          have c3 := xa.c (k := 3) rfl
          have h3 := xa.f 3
          have CS := Lib.hid (fun W => l4Shape ((j : Int) + 1) W)
          rw [HSH.out] at CS
          go_wp2_with fail
          refine (CS.out _).mono ?_
          rintro e w5 ⟨rfl, rfl⟩
          clear CS
          obtain ⟨tx, htx⟩ : ∃ tx, askText ((j : Int) + 1) (⟨#[]⟩ : ByteArray) (⟨#[]⟩ : ByteArray) 0 = tx := ⟨_, rfl⟩
          have HTX := Lib.hid htx
          clear htx
          have HU := Lib.hid (show ∀ (k' : Int) (key' hi' : ByteArray) (num' : Int), askOk k' key' hi' num' = true → askText k' key' hi' num' = s → k' = (j : Int) + 1 ∧ key' = (⟨#[]⟩ : ByteArray) ∧ hi' = (⟨#[]⟩ : ByteArray) ∧ num' = 0 from fun k' key' hi' num' q t => read_unique HW.out HJ.out HZ2.out HSH.out (key := (⟨#[]⟩ : ByteArray)) (hi := (⟨#[]⟩ : ByteArray)) (num := 0) (rfl) (rfl) (fun h => by cases h) (fun _ => rfl) q t)
          cases he : (s.toList == ([] : List UInt8))
          · have hse : s ≠ ByteArray.empty := fun e => by rw [e] at he; simp [ByteArray.toList_eq] at he
            have HSE := Lib.hid hse
            clear hse
            go_wp2_with fail
          
            refine (specAskText ((j : Int) + 1) (⟨#[]⟩ : ByteArray) (⟨#[]⟩ : ByteArray) 0 _ (show (0 : Nat) ≤ maxLen from Nat.zero_le _) (show (0 : Nat) ≤ maxLen from Nat.zero_le _)).mono ?_
            rintro e w7 ⟨rfl, hb⟩
            rw [HTX.out]
            replace xa := xa.on hb
            replace xr := xr.on hb
            replace bw := bel_trans bw hb
            clear hb
            replace c0 := xa.c (k := 0) rfl
            replace h0 := xa.f 0
            replace c1 := xa.c (k := 1) rfl
            replace h1 := xa.f 1
            replace c2 := xa.c (k := 2) rfl
            replace h2 := xa.f 2
            replace c3 := xa.c (k := 3) rfl
            replace h3 := xa.f 3
            have r0 := xr.c (k := 0) rfl
            have q0 := xr.f 0
            have r1 := xr.c (k := 1) rfl
            have q1 := xr.f 1
            have r2 := xr.c (k := 2) rfl
            have q2 := xr.f 2
            have r3 := xr.c (k := 3) rfl
            have q3 := xr.f 3
            cases ht : (tx.toList == s.toList)
            · have htn : tx ≠ s := fun e => by rw [e] at ht; simp at ht
              have HBAD := Lib.hid (show ∀ k key hi num, askOk k key hi num = true → askText k key hi num ≠ s from fun k' key' hi' num' q t => by
                obtain ⟨rfl, rfl, rfl, rfl⟩ := HU.out _ _ _ _ q t
                exact htn (HTX.out.symm.trans t))
              clear htn
              have BB := Lib.hid (bel_set4 bw (Nat.le_refl _) (.int .i64 0) (.string ⟨#[]⟩) (.string ⟨#[]⟩) (.int .i64 0))
              clear xa xr bw
              go_wp2_with fail
              exact bodyPost_ret (v := .tuple #[.agg #[.int .i64 0, .string ⟨#[]⟩, .string ⟨#[]⟩, .int .i64 0], .bool false]) (by simp [results, Tryd.results16, go_sem, r0, r1, r2, r3] <;> rfl) rfl ⟨Or.inr ⟨HBAD.out, rfl⟩, BB.out⟩
            · have hte : tx = s := by
                rw [beq_iff_eq, ByteArray.toList_eq, ByteArray.toList_eq] at ht
                exact ByteArray.ext (Array.toList_inj.1 ht)
              have HGOOD := Lib.hid (show askText ((j : Int) + 1) (⟨#[]⟩ : ByteArray) (⟨#[]⟩ : ByteArray) 0 = s from HTX.out.trans hte)
              have HOK := Lib.hid (askOk_of_text HGOOD.out HSE.out)
              have BB := Lib.hid (bel_set4 bw (Nat.le_refl _) (.int .i64 ((j : Int) + 1)) (.string (⟨#[]⟩ : ByteArray)) (.string (⟨#[]⟩ : ByteArray)) (.int .i64 0))
              clear xa xr bw hte
              go_wp2_with fail
              exact bodyPost_ret (v := .tuple #[.agg #[.int .i64 ((j : Int) + 1), .string (⟨#[]⟩ : ByteArray), .string (⟨#[]⟩ : ByteArray), .int .i64 0], .bool true]) (by simp [results, Tryd.results16, go_sem, r0, r1, r2, r3] <;> rfl) rfl ⟨Or.inl ⟨_, _, _, _, HOK.out, HGOOD.out, rfl⟩, BB.out⟩
          · have hse : s = ByteArray.empty := by
              rw [beq_iff_eq, ByteArray.toList_eq] at he
              exact ByteArray.ext (Array.toList_inj.1 he)
            have HBAD := Lib.hid (show ∀ k key hi num, askOk k key hi num = true → askText k key hi num ≠ s from fun k' key' hi' num' q t => askText_ne q (t.trans hse))
            clear hse
          
            have BB := Lib.hid (bel_set4 bw (Nat.le_refl _) (.int .i64 0) (.string ⟨#[]⟩) (.string ⟨#[]⟩) (.int .i64 0))
            clear xa bw
            have r0 := xr0.c (k := 0) rfl
            have q0 := xr0.f 0
            have r1 := xr0.c (k := 1) rfl
            have q1 := xr0.f 1
            have r2 := xr0.c (k := 2) rfl
            have q2 := xr0.f 2
            have r3 := xr0.c (k := 3) rfl
            have q3 := xr0.f 3
            clear xr0
            clear xr
            go_wp2_with fail
            exact bodyPost_ret (v := .tuple #[.agg #[.int .i64 0, .string ⟨#[]⟩, .string ⟨#[]⟩, .int .i64 0], .bool false]) (by simp [results, Tryd.results16, go_sem, r0, r1, r2, r3] <;> rfl) rfl ⟨Or.inr ⟨HBAD.out, rfl⟩, BB.out⟩
end Go.Proofs.YtpmeaikiaoojkaaDoor
