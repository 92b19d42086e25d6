/- Contract: AskRead of the program. -/
import Derived.Test.YtpmeaikiaoojkaaDoorS2
import Derived.Deep.MidRow
import Derived.Deep.DeepCutAuto
namespace Go.Proofs.YtpmeaikiaoojkaaDoor
open Go.RowKit

def askV (k : Int) (key hi : ByteArray) (num : Int) : Value := .agg #[.int .i64 k, .string key, .string hi, .int .i64 num]
def ReadPost (text : ByteArray) (w : World) (e : Ending) (w' : World) : Prop :=
  ((∃ k key hi num, askOk k key hi num = true ∧ askText k key hi num = text ∧ e = .returned (.tuple #[.agg #[.int .i64 k, .string key, .string hi, .int .i64 num], .bool true])) ∨
   ((∀ k key hi num, askOk k key hi num = true → askText k key hi num ≠ text) ∧ e = .returned (.tuple #[.agg #[.int .i64 0, .string ByteArray.empty, .string ByteArray.empty, .int .i64 0], .bool false]))) ∧ Below w.heap.size w w'
theorem nthW_tail (ws : List ByteArray) (i : Nat) : nthW ws.tail i = nthW ws (i + 1) := by cases ws <;> rfl
theorem read_unique {text : ByteArray} {ws : List ByteArray} (hw : ws = wordsOf text ∨ ws = cutS text) {j : Nat} (hj : j < 9) (h0 : nthW ws 0 = word j) {a b c : Bool} (hs : shape ((j : Int) + 1) = (a, b, c)) {key hi : ByteArray} {num : Int}
    (h1 : key = if a = true then nthW ws 1 else ByteArray.empty) (h2 : hi = if b = true then nthW ws 2 else ByteArray.empty) (h3 : c = true → IsNum (nthW ws 2) num) (h4 : c = false → num = 0)
    {k' : Int} {key' hi' : ByteArray} {num' : Int} (hok : askOk k' key' hi' num' = true) (ht : askText k' key' hi' num' = text) : k' = (j : Int) + 1 ∧ key' = key ∧ hi' = hi ∧ num' = num := by
  subst ht
  obtain ⟨j', a', b', c', rfl, hj', hs', e0, e1, e2, e3, e4, n0, n1, -⟩ := text_words hok hw
  obtain rfl := word_inj hj' hj (e0.symm.trans h0)
  rw [hs] at hs'
  simp only [Prod.mk.injEq] at hs'
  obtain ⟨rfl, rfl, rfl⟩ := hs'
  refine ⟨rfl, e1.trans h1.symm, e2.trans h2.symm, ?_⟩
  cases c
  · rw [e4 rfl, h4 rfl]
  · exact (h3 rfl num' n0 n1 (e3 rfl)).symm
theorem read_none {text : ByteArray} {ws : List ByteArray} (hw : ws = wordsOf text ∨ ws = cutS text) (h : ∀ j, j < 9 → word j ≠ nthW ws 0) {k' : Int} {key' hi' : ByteArray} {num' : Int} (hok : askOk k' key' hi' num' = true) : askText k' key' hi' num' ≠ text := by
  intro ht
  subst ht
  obtain ⟨j', a', b', c', rfl, hj', hs', e0, -⟩ := text_words hok hw
  exact h j' hj' e0.symm
theorem splitB_sizes (save : Nat) : ∀ (k : Nat) (s : ByteArray), save = 0 → ∀ p ∈ Lib.splitB spB save k s, p.size ≤ s.size := by
  intro k
  induction k with
  | zero => intro s _ p hp; simp [Lib.splitB] at hp; rw [hp]; exact Nat.le_refl _
  | succ k ih =>
    intro s h0 p hp
    unfold Lib.splitB at hp
    split at hp
    · simp at hp; rw [hp]; exact Nat.le_refl _
    · rcases List.mem_cons.1 hp with rfl | hp
      · rw [ByteArray.size_extract]; omega
      · have := ih _ h0 p hp
        rw [ByteArray.size_extract] at this
        omega
theorem words_size (s : ByteArray) (i : Nat) : (nthW (wordsOf s) i).size ≤ s.size := by
  unfold nthW
  rw [List.getD_eq_getElem?_getD]
  cases h : (wordsOf s)[i]? with
  | none => simp
  | some p => exact splitB_sizes 0 _ s rfl p (List.mem_of_getElem? h)
def formArr : Array Value := formCells.toArray
theorem wp_load_form {op : Oper} {a : Act} {w : World} {K : Act → World → Prop} {Q : Exit → Act → World → Prop} (x : Operand) (ho : op.op = .load 43 x) (hx : a.eval x = .pointer (some ⟨0, 0, none⟩)) (hF : FormsW w)
    (h : K (a.put op.dst (.agg formArr)) w) : op.wp Tryd.prog a w K Q :=
  wp_load_mid 43 x ho 0 0 hx formCells _ (fun j v hv => by rw [Nat.zero_add]; exact hF j v hv) Tryd.underlying43 rfl (by kernel_rfl) h
theorem formAt {j : Nat} (h : j < 9) {a b c : Bool} (hs : shape ((j : Int) + 1) = (a, b, c)) (W : World) : (Instr.index 43 (.agg formArr) (.int .i64 (j : Int))).run Tryd.prog W = .ok (.agg #[.string (word j), .bool a, .bool b, .bool c]) W := by
  have hc : j = 0 ∨ j = 1 ∨ j = 2 ∨ j = 3 ∨ j = 4 ∨ j = 5 ∨ j = 6 ∨ j = 7 ∨ j = 8 := by omega
  rcases hc with rfl | rfl | rfl | rfl | rfl | rfl | rfl | rfl | rfl <;>
    (simp [shape] at hs; obtain ⟨rfl, rfl, rfl⟩ := hs; simp [Instr.index, part, isAgg, sizeOf, go_sem, formArr, formCells]; rfl)
theorem wp_index_form {op : Oper} {A : Act} {w : World} {K : Act → World → Prop} {Q : Exit → Act → World → Prop} {j : Nat} (x ix : Operand) (ho : op.op = .index 43 x ix) (hx : A.eval x = .agg formArr) (hi : A.eval ix = .int .i64 (j : Int)) (hj : j < 9) {a b c : Bool} (hs : shape ((j : Int) + 1) = (a, b, c))
    (h : K (A.put op.dst (.agg #[.string (word j), .bool a, .bool b, .bool c])) w) : op.wp Tryd.prog A w K Q := by
  unfold Oper.wp execOp
  simp only [ho, hx, hi, Sem.run_bind, Sem.run_pure, Result.andThen_ok, formAt hj hs]
  exact h
theorem belB {w : World} {B g : Nat} (o : Nat) (u : Value) (hB : B ≤ w.heap.size) (hg : B ≤ g) : Below B w (w.setCell ⟨g, o, none⟩ u) := by
  have ht := (Turn.refl (some ⟨g, 0, none⟩) w).set o u
  exact ⟨ht.os, ht.tape, ht.output, ht.size, fun k hk => ht.block k (by omega) (by simp; omega)⟩
theorem bel_set4 {w W : World} {B : Nat} (h : Below w.heap.size w W) (hB : w.heap.size ≤ B) (u0 u1 u2 u3 : Value) : Below w.heap.size w ((((W.setCell ⟨B, 0, none⟩ u0).setCell ⟨B, 1, none⟩ u1).setCell ⟨B, 2, none⟩ u2).setCell ⟨B, 3, none⟩ u3) :=
  bel_set (bel_set (bel_set (bel_set h (p := ⟨B, 0, none⟩) hB u0) (p := ⟨B, 1, none⟩) hB u1) (p := ⟨B, 2, none⟩) hB u2) (p := ⟨B, 3, none⟩) hB u3
set_option maxHeartbeats 16000000 in
set_option maxRecDepth 100000 in
theorem implAskRead (s : ByteArray) (w : World) (hE : Env w) (hs : s.size ≤ 1048576) :
    Calls Tryd.prog 14 #[.string s] w (ReadPost s w) := by
  have HE := Lib.hid hE
  obtain ⟨ws, hws⟩ : ∃ ws, wordsOf s = ws := ⟨_, rfl⟩
  have HS := Lib.hid (show ∀ i, (nthW ws i).size ≤ 1048576 from fun i => by rw [← hws]; exact Nat.le_trans (words_size s i) hs)
  have x0 := BoxC.new w 26 #[.int .i64 0, .string ByteArray.empty, .string ByteArray.empty, .int .i64 0]
  have b0 := bel_alloc (Below.refl _ w) (.cells #[.int .i64 0, .string ByteArray.empty, .string ByteArray.empty, .int .i64 0] 26)
  have hlen : ws.length ≤ 1048577 := by
    have h1 := Lib.splitB_all spB (by decide) 0 _ s rfl
    have h2 := Lib.countB_le spB (by decide) s.size s (Nat.le_refl _)
    rw [← hws]
    unfold wordsOf
    omega
  have HLEN := Lib.hid hlen
  have HW := Lib.hid (show ws = wordsOf s ∨ ws = cutS s from Or.inl hws.symm)
  have SC := Lib.hid (show Calls Tryd.prog 27 #[.string s] _ _ from scanner s _ (hE.on b0) hs)
  rw [hws] at SC
  clear hws hE hlen hs
  go_enter Tryd.func14, Tryd.ntmps14
  go_wp2_with fail
  refine SC.out.mono ?_
  rintro e w1 ⟨g, rfl, hg, hsc, hb⟩
  clear SC
  have x1 := x0.on hb
  have b1 := bel_trans b0 hb
  have hgz : w.heap.size + 1 ≤ g := by simpa using hg
  clear x0 b0 hb hg
  obtain ⟨z, hz⟩ : ∃ z, nthW ws 0 = z := ⟨_, rfl⟩
  have HZ := Lib.hid hz
  go_wp2_with fail
  refine (next _ g ws z w1 hsc (Nat.le_refl _) HLEN.out hz.symm).mono ?_
  clear hz
  rintro e w2 ⟨rfl, hsc2, ht⟩
  have hs2 : w1.heap.size ≤ w2.heap.size := ht.size
  have hrs : w.heap.size < w1.heap.size := x1.lt
  have x2 := x1.turn ht (fun a ha => by cases ha; simp only; omega)
  have b2 := Turn.bel b1 ht (fun a ha => by cases ha; simp only; omega)
  clear x1 b1 hsc ht
  have HLD := Lib.hid (HE.out.on b2).1.1
  go_upto_region 3 with fail
  go_step
  go_step
  refine wp_load_form _ rfl rfl HLD.out ?_
  go_wp2_with fail
  clear HLD
  have HX := Lib.hid x2
  have HB2 := Lib.hid b2
  have HSC := Lib.hid hsc2
  clear x2 b2 hsc2
  go_loopw [6, 7, 14] (fun _ _ v wr => ∃ j : Nat, j ≤ 9 ∧ v = .int .i64 (j : Int) ∧ (∀ i, i < j → word i ≠ z) ∧ Below w2.heap.size w2 wr) (fun _ _ v _ => 9 - (intOf v).toNat)
  case atStart => exact ⟨0, by omega, rfl, fun i hi => absurd hi (by omega), Below.refl _ _⟩
  case round =>
    obtain ⟨j, hj9, rfl, hno, hbl⟩ := hrel
    by_cases hj : j < 9
    · have i1 : (j : Int) < 9 := by omega
      obtain ⟨ka, kb, kc, hsh⟩ : ∃ a b c, shape ((j : Int) + 1) = (a, b, c) := ⟨_, _, _, rfl⟩
      obtain ⟨wj, hwj⟩ : ∃ wj, word j = wj := ⟨_, rfl⟩
      have HNO := Lib.hid hno
      have HSH := Lib.hid hsh
      have HWJ := Lib.hid hwj
      have xf := BoxC.new wr 42 #[.string wj, .bool ka, .bool kb, .bool kc]
      have bf := bel_alloc hbl (.cells #[.string wj, .bool ka, .bool kb, .bool kc] 42)
      have hzr := hbl.size
      clear hno hsh hbl
      go_upto_region 5 with fail
      go_step
      go_step
      go_step
      go_step
      go_step
      refine wp_index_form _ _ rfl rfl rfl hj HSH.out ?_
      rw [hwj]
      clear hwj
      have f0 := xf.c (k := 0) rfl
      cases hw : (wj.toList == z.toList)
      · go_wp2_with fail
        go_roundw
        case rel => exact ⟨j + 1, by omega, by go_num, fun i hi => by
            by_cases hij : i < j
            · exact HNO.out i hij
            · obtain rfl : i = j := by omega
              intro e
              rw [HWJ.out] at e
              rw [e] at hw
              simp at hw, bf⟩
        case measure => simp [intOf]; omega
      · have hwz : wj = z := by
          rw [beq_iff_eq, ByteArray.toList_eq, ByteArray.toList_eq] at hw
          exact ByteArray.ext (Array.toList_inj.1 hw)
        have HZ2 := Lib.hid (show nthW ws 0 = word j by rw [HWJ.out, hwz]; exact HZ.out)
        clear hwz
        have HJ := Lib.hid hj
        have f1 := xf.c (k := 1) rfl
        have f2 := xf.c (k := 2) rfl
        have f3 := xf.c (k := 3) rfl
        have xa := BoxC.new (wr.alloc (.cells #[.string wj, .bool ka, .bool kb, .bool kc] 42)) 26 #[.int .i64 ((j : Int) + 1), .string ⟨#[]⟩, .string ⟨#[]⟩, .int .i64 0]
        replace xf := xf.alloc (.cells #[.int .i64 ((j : Int) + 1), .string ⟨#[]⟩, .string ⟨#[]⟩, .int .i64 0] 26)
        have ba := bel_alloc bf (.cells #[.int .i64 ((j : Int) + 1), .string ⟨#[]⟩, .string ⟨#[]⟩, .int .i64 0] 26)
        simp only [World.size_alloc] at xa
        clear bf
        have HSC2 := Lib.hid (HSC.out.keep (ba.mono hs2))
        generalize hWA : (wr.alloc (.cells #[.string wj, .bool ka, .bool kb, .bool kc] 42)).alloc (.cells #[.int .i64 ((j : Int) + 1), .string ⟨#[]⟩, .string ⟨#[]⟩, .int .i64 0] 26) = WA at *
        have HWA := Lib.hid hWA
        clear hWA
        have hcs := shape_cases _ HSH.out
        simp only [Prod.mk.injEq] at hcs
        rcases hcs with ⟨rfl, rfl, rfl⟩ | ⟨rfl, rfl, rfl⟩ | ⟨rfl, rfl, rfl⟩ | ⟨rfl, rfl, rfl⟩
        · have hgB : g < w1.heap.size := by obtain ⟨-, -, -, h, -⟩ := HSC.out; exact h
          have bw := bel_trans HB2.out ba
          have xr := HX.out.on ba
          have sc := HSC2.out
          have hsw : w2.heap.size ≤ WA.heap.size := ba.size
          clear ba
          replace f0 := xf.c (k := 0) rfl
          replace f1 := xf.c (k := 1) rfl
          replace f2 := xf.c (k := 2) rfl
          replace f3 := xf.c (k := 3) rfl
          have c0 := xa.c (k := 0) rfl
          have h0 := xa.f 0
          have c1 := xa.c (k := 1) rfl
          have h1 := xa.f 1
          have c2 := xa.c (k := 2) rfl
          have h2 := xa.f 2
          have c3 := xa.c (k := 3) rfl
          have h3 := xa.f 3
          obtain ⟨y, hy⟩ : ∃ y, nthW ws 1 = y := ⟨_, rfl⟩
          have Hy := Lib.hid hy
          clear hy
          go_wp2_with fail
          rw [HWA.out]
          refine (next _ g (ws.tail) y _ sc (by first | omega | (simp only [World.size_setCell]; omega)) (by rw [List.length_tail]; have := HLEN.out; omega) (by rw [nthW_tail]; exact Hy.out.symm)).mono ?_
          rintro e W3 ⟨rfl, sc', ht⟩
          have hsz := ht.size
          replace sc := sc'
          clear sc'
          replace xa := xa.turn ht (fun a ha => by cases ha; simp only; omega)
          replace xf := xf.turn ht (fun a ha => by cases ha; simp only; omega)
          replace xr := xr.turn ht (fun a ha => by cases ha; simp only; omega)
          replace bw := Turn.bel bw ht (fun a ha => by cases ha; simp only; omega)
          try simp only [World.size_setCell] at hsz
          clear ht
          replace f0 := xf.c (k := 0) rfl
          replace f1 := xf.c (k := 1) rfl
          replace f2 := xf.c (k := 2) rfl
          replace f3 := xf.c (k := 3) rfl
          replace c0 := xa.c (k := 0) rfl
          replace h0 := xa.f 0
          replace c1 := xa.c (k := 1) rfl
          replace h1 := xa.f 1
          replace c2 := xa.c (k := 2) rfl
          replace h2 := xa.f 2
          replace c3 := xa.c (k := 3) rfl
          replace h3 := xa.f 3
          obtain ⟨ok, hok⟩ : ∃ ok, askOk ((j : Int) + 1) y (⟨#[]⟩ : ByteArray) 0 = ok := ⟨_, rfl⟩
          have HOK := Lib.hid hok
          clear hok
          obtain ⟨tx, htx⟩ : ∃ tx, askText ((j : Int) + 1) y (⟨#[]⟩ : ByteArray) 0 = tx := ⟨_, rfl⟩
          have HTX := Lib.hid htx
          clear htx
          have HU := Lib.hid (show ∀ (k' : Int) (key' hi' : ByteArray) (num' : Int), askOk k' key' hi' num' = true → askText k' key' hi' num' = s → k' = (j : Int) + 1 ∧ key' = y ∧ hi' = (⟨#[]⟩ : ByteArray) ∧ num' = 0 from fun k' key' hi' num' q t => read_unique HW.out HJ.out HZ2.out HSH.out (key := y) (hi := (⟨#[]⟩ : ByteArray)) (num := 0) (by rw [if_pos rfl]; exact Hy.out.symm) (rfl) (fun h => by cases h) (fun _ => rfl) q t)
          go_wp2_with fail
          replace sc := sc.keep (belB (B := w1.heap.size) (g := wr.heap.size + 1) 1 (.string y) (by omega) (by omega))
          replace xf := xf.other (B' := wr.heap.size + 1) (k := 1) (x := .string y) (by omega)
          replace xr := xr.other (B' := wr.heap.size + 1) (k := 1) (x := .string y) (by omega)
          replace xa := xa.set 1 (.string y)
          replace bw := bel_set bw (p := ⟨wr.heap.size + 1, 1, none⟩) (by simp only; omega) (.string y)
          refine (implAskOk ((j : Int) + 1) y (⟨#[]⟩ : ByteArray) 0 _ (HE.out.on bw).1.1 (by rw [← Hy.out]; have := HS.out 1; unfold maxLen; omega) (show (0 : Nat) ≤ maxLen from Nat.zero_le _)).mono ?_
          rintro e W7 ⟨rfl, hb⟩
          rw [HOK.out]
          replace xa := xa.on hb
          replace xr := xr.on hb
          replace bw := bel_trans bw hb
          clear hb xf f0 f1 f2 f3
          replace c0 := xa.c (k := 0) rfl
          replace h0 := xr.f 0
          have r0 := xr.c (k := 0) rfl
          replace c1 := xa.c (k := 1) rfl
          replace h1 := xr.f 1
          have r1 := xr.c (k := 1) rfl
          replace c2 := xa.c (k := 2) rfl
          replace h2 := xr.f 2
          have r2 := xr.c (k := 2) rfl
          replace c3 := xa.c (k := 3) rfl
          replace h3 := xr.f 3
          have r3 := xr.c (k := 3) rfl
          cases ok
          · have HBAD := Lib.hid (show ∀ k key hi num, askOk k key hi num = true → askText k key hi num ≠ s from fun k' key' hi' num' q t => by
              obtain ⟨rfl, rfl, rfl, rfl⟩ := HU.out _ _ _ _ q t
              rw [HOK.out] at q; cases q)
            have BB := Lib.hid (bel_set4 bw (Nat.le_refl _) (.int .i64 0) (.string ⟨#[]⟩) (.string ⟨#[]⟩) (.int .i64 0))
            clear xa xr bw
            go_wp2_with fail
            exact bodyPost_ret (v := .tuple #[.agg #[.int .i64 0, .string ⟨#[]⟩, .string ⟨#[]⟩, .int .i64 0], .bool false]) (by simp [results, Tryd.results14, go_sem, r0, r1, r2, r3] <;> rfl) rfl ⟨Or.inr ⟨HBAD.out, rfl⟩, BB.out⟩
          · go_wp2_with fail
            refine (implAskText ((j : Int) + 1) y (⟨#[]⟩ : ByteArray) 0 _ (HE.out.on bw).1.1 (HE.out.on bw).1.2 (by rw [← Hy.out]; have := HS.out 1; unfold maxLen; omega) (show (0 : Nat) ≤ maxLen from Nat.zero_le _)).mono ?_
            rintro e W8 ⟨rfl, hb⟩
            rw [HTX.out]
            replace xa := xa.on hb
            replace xr := xr.on hb
            replace bw := bel_trans bw hb
            clear hb
            replace c0 := xa.c (k := 0) rfl
            replace h0 := xr.f 0
            replace r0 := xr.c (k := 0) rfl
            replace c1 := xa.c (k := 1) rfl
            replace h1 := xr.f 1
            replace r1 := xr.c (k := 1) rfl
            replace c2 := xa.c (k := 2) rfl
            replace h2 := xr.f 2
            replace r2 := xr.c (k := 2) rfl
            replace c3 := xa.c (k := 3) rfl
            replace h3 := xr.f 3
            replace r3 := xr.c (k := 3) rfl
            cases ht : (tx.toList == s.toList)
            · have htn : tx ≠ s := fun e => by rw [e] at ht; simp at ht
              have HBAD := Lib.hid (show ∀ k key hi num, askOk k key hi num = true → askText k key hi num ≠ s from fun k' key' hi' num' q t => by
                obtain ⟨rfl, rfl, rfl, rfl⟩ := HU.out _ _ _ _ q t
                exact htn (HTX.out.symm.trans t))
              have BB := Lib.hid (bel_set4 bw (Nat.le_refl _) (.int .i64 0) (.string ⟨#[]⟩) (.string ⟨#[]⟩) (.int .i64 0))
              clear xa xr bw htn
              go_wp2_with fail
              exact bodyPost_ret (v := .tuple #[.agg #[.int .i64 0, .string ⟨#[]⟩, .string ⟨#[]⟩, .int .i64 0], .bool false]) (by simp [results, Tryd.results14, go_sem, r0, r1, r2, r3] <;> rfl) rfl ⟨Or.inr ⟨HBAD.out, rfl⟩, BB.out⟩
            · have hte : tx = s := by
                rw [beq_iff_eq, ByteArray.toList_eq, ByteArray.toList_eq] at ht
                exact ByteArray.ext (Array.toList_inj.1 ht)
              have HGOOD := Lib.hid (show askText ((j : Int) + 1) y (⟨#[]⟩ : ByteArray) 0 = s from HTX.out.trans hte)
              have BB := Lib.hid (bel_set4 bw (Nat.le_refl _) (.int .i64 ((j : Int) + 1)) (.string y) (.string (⟨#[]⟩ : ByteArray)) (.int .i64 0))
              clear xa xr bw hte
              go_wp2_with fail
              exact bodyPost_ret (v := .tuple #[.agg #[.int .i64 ((j : Int) + 1), .string y, .string (⟨#[]⟩ : ByteArray), .int .i64 0], .bool true]) (by simp [results, Tryd.results14, go_sem, r0, r1, r2, r3] <;> rfl) rfl ⟨Or.inl ⟨_, _, _, _, HOK.out, HGOOD.out, rfl⟩, BB.out⟩
        · have hgB : g < w1.heap.size := by obtain ⟨-, -, -, h, -⟩ := HSC.out; exact h
          have bw := bel_trans HB2.out ba
          have xr := HX.out.on ba
          have sc := HSC2.out
          have hsw : w2.heap.size ≤ WA.heap.size := ba.size
          clear ba
          replace f0 := xf.c (k := 0) rfl
          replace f1 := xf.c (k := 1) rfl
          replace f2 := xf.c (k := 2) rfl
          replace f3 := xf.c (k := 3) rfl
          have c0 := xa.c (k := 0) rfl
          have h0 := xa.f 0
          have c1 := xa.c (k := 1) rfl
          have h1 := xa.f 1
          have c2 := xa.c (k := 2) rfl
          have h2 := xa.f 2
          have c3 := xa.c (k := 3) rfl
          have h3 := xa.f 3
          obtain ⟨y, hy⟩ : ∃ y, nthW ws 1 = y := ⟨_, rfl⟩
          have Hy := Lib.hid hy
          clear hy
          go_wp2_with fail
          rw [HWA.out]
          refine (next _ g (ws.tail) y _ sc (by first | omega | (simp only [World.size_setCell]; omega)) (by rw [List.length_tail]; have := HLEN.out; omega) (by rw [nthW_tail]; exact Hy.out.symm)).mono ?_
          rintro e W3 ⟨rfl, sc', ht⟩
          have hsz := ht.size
          replace sc := sc'
          clear sc'
          replace xa := xa.turn ht (fun a ha => by cases ha; simp only; omega)
          replace xf := xf.turn ht (fun a ha => by cases ha; simp only; omega)
          replace xr := xr.turn ht (fun a ha => by cases ha; simp only; omega)
          replace bw := Turn.bel bw ht (fun a ha => by cases ha; simp only; omega)
          try simp only [World.size_setCell] at hsz
          clear ht
          replace f0 := xf.c (k := 0) rfl
          replace f1 := xf.c (k := 1) rfl
          replace f2 := xf.c (k := 2) rfl
          replace f3 := xf.c (k := 3) rfl
          replace c0 := xa.c (k := 0) rfl
          replace h0 := xa.f 0
          replace c1 := xa.c (k := 1) rfl
          replace h1 := xa.f 1
          replace c2 := xa.c (k := 2) rfl
          replace h2 := xa.f 2
          replace c3 := xa.c (k := 3) rfl
          replace h3 := xa.f 3
          obtain ⟨y2, hy2⟩ : ∃ y2, nthW ws 2 = y2 := ⟨_, rfl⟩
          have Hy2 := Lib.hid hy2
          clear hy2
          go_wp2_with fail
          replace sc := sc.keep (belB (B := w1.heap.size) (g := wr.heap.size + 1) 1 (.string y) (by omega) (by omega))
          replace xf := xf.other (B' := wr.heap.size + 1) (k := 1) (x := .string y) (by omega)
          replace xr := xr.other (B' := wr.heap.size + 1) (k := 1) (x := .string y) (by omega)
          replace xa := xa.set 1 (.string y)
          replace bw := bel_set bw (p := ⟨wr.heap.size + 1, 1, none⟩) (by simp only; omega) (.string y)
          refine (next _ g (ws.tail.tail) y2 _ sc (by simp only [World.size_setCell]; omega) (by rw [List.length_tail, List.length_tail]; have := HLEN.out; omega) (by rw [nthW_tail, nthW_tail]; exact Hy2.out.symm)).mono ?_
          rintro e W5 ⟨rfl, sc', ht⟩
          have hsz2 := ht.size
          simp only [World.size_setCell] at hsz2
          replace xa := xa.turn ht (fun a ha => by cases ha; simp only; omega)
          replace xf := xf.turn ht (fun a ha => by cases ha; simp only; omega)
          replace xr := xr.turn ht (fun a ha => by cases ha; simp only; omega)
          replace bw := Turn.bel bw ht (fun a ha => by cases ha; simp only; omega)
          clear ht sc sc'
          replace f0 := xf.c (k := 0) rfl
          replace f1 := xf.c (k := 1) rfl
          replace f2 := xf.c (k := 2) rfl
          replace f3 := xf.c (k := 3) rfl
          replace c0 := xa.c (k := 0) rfl
          replace h0 := xa.f 0
          replace c1 := xa.c (k := 1) rfl
          replace h1 := xa.f 1
          replace c2 := xa.c (k := 2) rfl
          replace h2 := xa.f 2
          replace c3 := xa.c (k := 3) rfl
          replace h3 := xa.f 3
          obtain ⟨ok, hok⟩ : ∃ ok, askOk ((j : Int) + 1) y y2 0 = ok := ⟨_, rfl⟩
          have HOK := Lib.hid hok
          clear hok
          obtain ⟨tx, htx⟩ : ∃ tx, askText ((j : Int) + 1) y y2 0 = tx := ⟨_, rfl⟩
          have HTX := Lib.hid htx
          clear htx
          have HU := Lib.hid (show ∀ (k' : Int) (key' hi' : ByteArray) (num' : Int), askOk k' key' hi' num' = true → askText k' key' hi' num' = s → k' = (j : Int) + 1 ∧ key' = y ∧ hi' = y2 ∧ num' = 0 from fun k' key' hi' num' q t => read_unique HW.out HJ.out HZ2.out HSH.out (key := y) (hi := y2) (num := 0) (by rw [if_pos rfl]; exact Hy.out.symm) (by rw [if_pos rfl]; exact Hy2.out.symm) (fun h => by cases h) (fun _ => rfl) q t)
          go_wp2_with fail
          replace xf := xf.other (B' := wr.heap.size + 1) (k := 2) (x := .string y2) (by omega)
          replace xr := xr.other (B' := wr.heap.size + 1) (k := 2) (x := .string y2) (by omega)
          replace xa := xa.set 2 (.string y2)
          replace bw := bel_set bw (p := ⟨wr.heap.size + 1, 2, none⟩) (by simp only; omega) (.string y2)
          refine (implAskOk ((j : Int) + 1) y y2 0 _ (HE.out.on bw).1.1 (by rw [← Hy.out]; have := HS.out 1; unfold maxLen; omega) (by rw [← Hy2.out]; have := HS.out 2; unfold maxLen; omega)).mono ?_
          rintro e W7 ⟨rfl, hb⟩
          rw [HOK.out]
          replace xa := xa.on hb
          replace xr := xr.on hb
          replace bw := bel_trans bw hb
          clear hb xf f0 f1 f2 f3
          replace c0 := xa.c (k := 0) rfl
          replace h0 := xr.f 0
          have r0 := xr.c (k := 0) rfl
          replace c1 := xa.c (k := 1) rfl
          replace h1 := xr.f 1
          have r1 := xr.c (k := 1) rfl
          replace c2 := xa.c (k := 2) rfl
          replace h2 := xr.f 2
          have r2 := xr.c (k := 2) rfl
          replace c3 := xa.c (k := 3) rfl
          replace h3 := xr.f 3
          have r3 := xr.c (k := 3) rfl
          cases ok
          · have HBAD := Lib.hid (show ∀ k key hi num, askOk k key hi num = true → askText k key hi num ≠ s from fun k' key' hi' num' q t => by
              obtain ⟨rfl, rfl, rfl, rfl⟩ := HU.out _ _ _ _ q t
              rw [HOK.out] at q; cases q)
            have BB := Lib.hid (bel_set4 bw (Nat.le_refl _) (.int .i64 0) (.string ⟨#[]⟩) (.string ⟨#[]⟩) (.int .i64 0))
            clear xa xr bw
            go_wp2_with fail
            exact bodyPost_ret (v := .tuple #[.agg #[.int .i64 0, .string ⟨#[]⟩, .string ⟨#[]⟩, .int .i64 0], .bool false]) (by simp [results, Tryd.results14, go_sem, r0, r1, r2, r3] <;> rfl) rfl ⟨Or.inr ⟨HBAD.out, rfl⟩, BB.out⟩
          · go_wp2_with fail
            refine (implAskText ((j : Int) + 1) y y2 0 _ (HE.out.on bw).1.1 (HE.out.on bw).1.2 (by rw [← Hy.out]; have := HS.out 1; unfold maxLen; omega) (by rw [← Hy2.out]; have := HS.out 2; unfold maxLen; omega)).mono ?_
            rintro e W8 ⟨rfl, hb⟩
            rw [HTX.out]
            replace xa := xa.on hb
            replace xr := xr.on hb
            replace bw := bel_trans bw hb
            clear hb
            replace c0 := xa.c (k := 0) rfl
            replace h0 := xr.f 0
            replace r0 := xr.c (k := 0) rfl
            replace c1 := xa.c (k := 1) rfl
            replace h1 := xr.f 1
            replace r1 := xr.c (k := 1) rfl
            replace c2 := xa.c (k := 2) rfl
            replace h2 := xr.f 2
            replace r2 := xr.c (k := 2) rfl
            replace c3 := xa.c (k := 3) rfl
            replace h3 := xr.f 3
            replace r3 := xr.c (k := 3) rfl
            cases ht : (tx.toList == s.toList)
            · have htn : tx ≠ s := fun e => by rw [e] at ht; simp at ht
              have HBAD := Lib.hid (show ∀ k key hi num, askOk k key hi num = true → askText k key hi num ≠ s from fun k' key' hi' num' q t => by
                obtain ⟨rfl, rfl, rfl, rfl⟩ := HU.out _ _ _ _ q t
                exact htn (HTX.out.symm.trans t))
              have BB := Lib.hid (bel_set4 bw (Nat.le_refl _) (.int .i64 0) (.string ⟨#[]⟩) (.string ⟨#[]⟩) (.int .i64 0))
              clear xa xr bw htn
              go_wp2_with fail
              exact bodyPost_ret (v := .tuple #[.agg #[.int .i64 0, .string ⟨#[]⟩, .string ⟨#[]⟩, .int .i64 0], .bool false]) (by simp [results, Tryd.results14, go_sem, r0, r1, r2, r3] <;> rfl) rfl ⟨Or.inr ⟨HBAD.out, rfl⟩, BB.out⟩
            · have hte : tx = s := by
                rw [beq_iff_eq, ByteArray.toList_eq, ByteArray.toList_eq] at ht
                exact ByteArray.ext (Array.toList_inj.1 ht)
              have HGOOD := Lib.hid (show askText ((j : Int) + 1) y y2 0 = s from HTX.out.trans hte)
              have BB := Lib.hid (bel_set4 bw (Nat.le_refl _) (.int .i64 ((j : Int) + 1)) (.string y) (.string y2) (.int .i64 0))
              clear xa xr bw hte
              go_wp2_with fail
              exact bodyPost_ret (v := .tuple #[.agg #[.int .i64 ((j : Int) + 1), .string y, .string y2, .int .i64 0], .bool true]) (by simp [results, Tryd.results14, go_sem, r0, r1, r2, r3] <;> rfl) rfl ⟨Or.inl ⟨_, _, _, _, HOK.out, HGOOD.out, rfl⟩, BB.out⟩
        · have hgB : g < w1.heap.size := by obtain ⟨-, -, -, h, -⟩ := HSC.out; exact h
          have bw := bel_trans HB2.out ba
          have xr := HX.out.on ba
          have sc := HSC2.out
          have hsw : w2.heap.size ≤ WA.heap.size := ba.size
          clear ba
          replace f0 := xf.c (k := 0) rfl
          replace f1 := xf.c (k := 1) rfl
          replace f2 := xf.c (k := 2) rfl
          replace f3 := xf.c (k := 3) rfl
          have c0 := xa.c (k := 0) rfl
          have h0 := xa.f 0
          have c1 := xa.c (k := 1) rfl
          have h1 := xa.f 1
          have c2 := xa.c (k := 2) rfl
          have h2 := xa.f 2
          have c3 := xa.c (k := 3) rfl
          have h3 := xa.f 3
          obtain ⟨y, hy⟩ : ∃ y, nthW ws 1 = y := ⟨_, rfl⟩
          have Hy := Lib.hid hy
          clear hy
          go_wp2_with fail
          rw [HWA.out]
          refine (next _ g (ws.tail) y _ sc (by first | omega | (simp only [World.size_setCell]; omega)) (by rw [List.length_tail]; have := HLEN.out; omega) (by rw [nthW_tail]; exact Hy.out.symm)).mono ?_
          rintro e W3 ⟨rfl, sc', ht⟩
          have hsz := ht.size
          replace sc := sc'
          clear sc'
          replace xa := xa.turn ht (fun a ha => by cases ha; simp only; omega)
          replace xf := xf.turn ht (fun a ha => by cases ha; simp only; omega)
          replace xr := xr.turn ht (fun a ha => by cases ha; simp only; omega)
          replace bw := Turn.bel bw ht (fun a ha => by cases ha; simp only; omega)
          try simp only [World.size_setCell] at hsz
          clear ht
          replace f0 := xf.c (k := 0) rfl
          replace f1 := xf.c (k := 1) rfl
          replace f2 := xf.c (k := 2) rfl
          replace f3 := xf.c (k := 3) rfl
          replace c0 := xa.c (k := 0) rfl
          replace h0 := xa.f 0
          replace c1 := xa.c (k := 1) rfl
          replace h1 := xa.f 1
          replace c2 := xa.c (k := 2) rfl
          replace h2 := xa.f 2
          replace c3 := xa.c (k := 3) rfl
          replace h3 := xa.f 3
          obtain ⟨y2, hy2⟩ : ∃ y2, nthW ws 2 = y2 := ⟨_, rfl⟩
          have Hy2 := Lib.hid hy2
          clear hy2
          go_wp2_with fail
          replace sc := sc.keep (belB (B := w1.heap.size) (g := wr.heap.size + 1) 1 (.string y) (by omega) (by omega))
          replace xf := xf.other (B' := wr.heap.size + 1) (k := 1) (x := .string y) (by omega)
          replace xr := xr.other (B' := wr.heap.size + 1) (k := 1) (x := .string y) (by omega)
          replace xa := xa.set 1 (.string y)
          replace bw := bel_set bw (p := ⟨wr.heap.size + 1, 1, none⟩) (by simp only; omega) (.string y)
          refine (next _ g (ws.tail.tail) y2 _ sc (by simp only [World.size_setCell]; omega) (by rw [List.length_tail, List.length_tail]; have := HLEN.out; omega) (by rw [nthW_tail, nthW_tail]; exact Hy2.out.symm)).mono ?_
          rintro e W5 ⟨rfl, sc', ht⟩
          have hsz2 := ht.size
          simp only [World.size_setCell] at hsz2
          replace xa := xa.turn ht (fun a ha => by cases ha; simp only; omega)
          replace xf := xf.turn ht (fun a ha => by cases ha; simp only; omega)
          replace xr := xr.turn ht (fun a ha => by cases ha; simp only; omega)
          replace bw := Turn.bel bw ht (fun a ha => by cases ha; simp only; omega)
          clear ht sc sc'
          go_wp2_with fail
          refine (readNum y2 _ (HE.out.on bw) (by rw [← Hy2.out]; exact HS.out 2)).mono ?_
          rintro e W6 ⟨num, nb, rfl, hnum, n0, n1, hb⟩
          replace xa := xa.on hb
          replace xf := xf.on hb
          replace xr := xr.on hb
          have hsz3 := hb.size
          replace bw := bel_trans bw hb
          clear hb
          have HN := Lib.hid hnum
          clear hnum
          replace f0 := xf.c (k := 0) rfl
          replace f1 := xf.c (k := 1) rfl
          replace f2 := xf.c (k := 2) rfl
          replace f3 := xf.c (k := 3) rfl
          replace c0 := xa.c (k := 0) rfl
          replace h0 := xa.f 0
          replace c1 := xa.c (k := 1) rfl
          replace h1 := xa.f 1
          replace c2 := xa.c (k := 2) rfl
          replace h2 := xa.f 2
          replace c3 := xa.c (k := 3) rfl
          replace h3 := xa.f 3
          obtain ⟨ok, hok⟩ : ∃ ok, askOk ((j : Int) + 1) y (⟨#[]⟩ : ByteArray) num = ok := ⟨_, rfl⟩
          have HOK := Lib.hid hok
          clear hok
          obtain ⟨tx, htx⟩ : ∃ tx, askText ((j : Int) + 1) y (⟨#[]⟩ : ByteArray) num = tx := ⟨_, rfl⟩
          have HTX := Lib.hid htx
          clear htx
          have HU := Lib.hid (show ∀ (k' : Int) (key' hi' : ByteArray) (num' : Int), askOk k' key' hi' num' = true → askText k' key' hi' num' = s → k' = (j : Int) + 1 ∧ key' = y ∧ hi' = (⟨#[]⟩ : ByteArray) ∧ num' = num from fun k' key' hi' num' q t => read_unique HW.out HJ.out HZ2.out HSH.out (key := y) (hi := (⟨#[]⟩ : ByteArray)) (num := num) (by rw [if_pos rfl]; exact Hy.out.symm) (rfl) (fun _ => by rw [Hy2.out]; exact HN.out) (fun h => by cases h) q t)
          go_wp2_with fail
          replace xf := xf.other (B' := wr.heap.size + 1) (k := 3) (x := .int .i64 num) (by omega)
          replace xr := xr.other (B' := wr.heap.size + 1) (k := 3) (x := .int .i64 num) (by omega)
          replace xa := xa.set 3 (.int .i64 num)
          replace bw := bel_set bw (p := ⟨wr.heap.size + 1, 3, none⟩) (by simp only; omega) (.int .i64 num)
          refine (implAskOk ((j : Int) + 1) y (⟨#[]⟩ : ByteArray) num _ (HE.out.on bw).1.1 (by rw [← Hy.out]; have := HS.out 1; unfold maxLen; omega) (show (0 : Nat) ≤ maxLen from Nat.zero_le _)).mono ?_
          rintro e W7 ⟨rfl, hb⟩
          rw [HOK.out]
          replace xa := xa.on hb
          replace xr := xr.on hb
          replace bw := bel_trans bw hb
          clear hb xf f0 f1 f2 f3
          replace c0 := xa.c (k := 0) rfl
          replace h0 := xr.f 0
          have r0 := xr.c (k := 0) rfl
          replace c1 := xa.c (k := 1) rfl
          replace h1 := xr.f 1
          have r1 := xr.c (k := 1) rfl
          replace c2 := xa.c (k := 2) rfl
          replace h2 := xr.f 2
          have r2 := xr.c (k := 2) rfl
          replace c3 := xa.c (k := 3) rfl
          replace h3 := xr.f 3
          have r3 := xr.c (k := 3) rfl
          cases ok
          · have HBAD := Lib.hid (show ∀ k key hi num, askOk k key hi num = true → askText k key hi num ≠ s from fun k' key' hi' num' q t => by
              obtain ⟨rfl, rfl, rfl, rfl⟩ := HU.out _ _ _ _ q t
              rw [HOK.out] at q; cases q)
            have BB := Lib.hid (bel_set4 bw (Nat.le_refl _) (.int .i64 0) (.string ⟨#[]⟩) (.string ⟨#[]⟩) (.int .i64 0))
            clear xa xr bw
            go_wp2_with fail
            exact bodyPost_ret (v := .tuple #[.agg #[.int .i64 0, .string ⟨#[]⟩, .string ⟨#[]⟩, .int .i64 0], .bool false]) (by simp [results, Tryd.results14, go_sem, r0, r1, r2, r3] <;> rfl) rfl ⟨Or.inr ⟨HBAD.out, rfl⟩, BB.out⟩
          · go_wp2_with fail
            refine (implAskText ((j : Int) + 1) y (⟨#[]⟩ : ByteArray) num _ (HE.out.on bw).1.1 (HE.out.on bw).1.2 (by rw [← Hy.out]; have := HS.out 1; unfold maxLen; omega) (show (0 : Nat) ≤ maxLen from Nat.zero_le _)).mono ?_
            rintro e W8 ⟨rfl, hb⟩
            rw [HTX.out]
            replace xa := xa.on hb
            replace xr := xr.on hb
            replace bw := bel_trans bw hb
            clear hb
            replace c0 := xa.c (k := 0) rfl
            replace h0 := xr.f 0
            replace r0 := xr.c (k := 0) rfl
            replace c1 := xa.c (k := 1) rfl
            replace h1 := xr.f 1
            replace r1 := xr.c (k := 1) rfl
            replace c2 := xa.c (k := 2) rfl
            replace h2 := xr.f 2
            replace r2 := xr.c (k := 2) rfl
            replace c3 := xa.c (k := 3) rfl
            replace h3 := xr.f 3
            replace r3 := xr.c (k := 3) rfl
            cases ht : (tx.toList == s.toList)
            · have htn : tx ≠ s := fun e => by rw [e] at ht; simp at ht
              have HBAD := Lib.hid (show ∀ k key hi num, askOk k key hi num = true → askText k key hi num ≠ s from fun k' key' hi' num' q t => by
                obtain ⟨rfl, rfl, rfl, rfl⟩ := HU.out _ _ _ _ q t
                exact htn (HTX.out.symm.trans t))
              have BB := Lib.hid (bel_set4 bw (Nat.le_refl _) (.int .i64 0) (.string ⟨#[]⟩) (.string ⟨#[]⟩) (.int .i64 0))
              clear xa xr bw htn
              go_wp2_with fail
              exact bodyPost_ret (v := .tuple #[.agg #[.int .i64 0, .string ⟨#[]⟩, .string ⟨#[]⟩, .int .i64 0], .bool false]) (by simp [results, Tryd.results14, go_sem, r0, r1, r2, r3] <;> rfl) rfl ⟨Or.inr ⟨HBAD.out, rfl⟩, BB.out⟩
            · have hte : tx = s := by
                rw [beq_iff_eq, ByteArray.toList_eq, ByteArray.toList_eq] at ht
                exact ByteArray.ext (Array.toList_inj.1 ht)
              have HGOOD := Lib.hid (show askText ((j : Int) + 1) y (⟨#[]⟩ : ByteArray) num = s from HTX.out.trans hte)
              have BB := Lib.hid (bel_set4 bw (Nat.le_refl _) (.int .i64 ((j : Int) + 1)) (.string y) (.string (⟨#[]⟩ : ByteArray)) (.int .i64 num))
              clear xa xr bw hte
              go_wp2_with fail
              exact bodyPost_ret (v := .tuple #[.agg #[.int .i64 ((j : Int) + 1), .string y, .string (⟨#[]⟩ : ByteArray), .int .i64 num], .bool true]) (by simp [results, Tryd.results14, go_sem, r0, r1, r2, r3] <;> rfl) rfl ⟨Or.inl ⟨_, _, _, _, HOK.out, HGOOD.out, rfl⟩, BB.out⟩
        · have hgB : g < w1.heap.size := by obtain ⟨-, -, -, h, -⟩ := HSC.out; exact h
          have bw := bel_trans HB2.out ba
          have xr := HX.out.on ba
          have sc := HSC2.out
          have hsw : w2.heap.size ≤ WA.heap.size := ba.size
          clear ba
          replace f0 := xf.c (k := 0) rfl
          replace f1 := xf.c (k := 1) rfl
          replace f2 := xf.c (k := 2) rfl
          replace f3 := xf.c (k := 3) rfl
          have c0 := xa.c (k := 0) rfl
          have h0 := xa.f 0
          have c1 := xa.c (k := 1) rfl
          have h1 := xa.f 1
          have c2 := xa.c (k := 2) rfl
          have h2 := xa.f 2
          have c3 := xa.c (k := 3) rfl
          have h3 := xa.f 3
          obtain ⟨ok, hok⟩ : ∃ ok, askOk ((j : Int) + 1) (⟨#[]⟩ : ByteArray) (⟨#[]⟩ : ByteArray) 0 = ok := ⟨_, rfl⟩
          have HOK := Lib.hid hok
          clear hok
          obtain ⟨tx, htx⟩ : ∃ tx, askText ((j : Int) + 1) (⟨#[]⟩ : ByteArray) (⟨#[]⟩ : ByteArray) 0 = tx := ⟨_, rfl⟩
          have HTX := Lib.hid htx
          clear htx
          have HU := Lib.hid (show ∀ (k' : Int) (key' hi' : ByteArray) (num' : Int), askOk k' key' hi' num' = true → askText k' key' hi' num' = s → k' = (j : Int) + 1 ∧ key' = (⟨#[]⟩ : ByteArray) ∧ hi' = (⟨#[]⟩ : ByteArray) ∧ num' = 0 from fun k' key' hi' num' q t => read_unique HW.out HJ.out HZ2.out HSH.out (key := (⟨#[]⟩ : ByteArray)) (hi := (⟨#[]⟩ : ByteArray)) (num := 0) (rfl) (rfl) (fun h => by cases h) (fun _ => rfl) q t)
          go_wp2_with fail
          rw [HWA.out]
          refine (implAskOk ((j : Int) + 1) (⟨#[]⟩ : ByteArray) (⟨#[]⟩ : ByteArray) 0 _ (HE.out.on bw).1.1 (show (0 : Nat) ≤ maxLen from Nat.zero_le _) (show (0 : Nat) ≤ maxLen from Nat.zero_le _)).mono ?_
          rintro e W7 ⟨rfl, hb⟩
          rw [HOK.out]
          replace xa := xa.on hb
          replace xr := xr.on hb
          replace bw := bel_trans bw hb
          clear hb xf f0 f1 f2 f3
          replace c0 := xa.c (k := 0) rfl
          replace h0 := xr.f 0
          have r0 := xr.c (k := 0) rfl
          replace c1 := xa.c (k := 1) rfl
          replace h1 := xr.f 1
          have r1 := xr.c (k := 1) rfl
          replace c2 := xa.c (k := 2) rfl
          replace h2 := xr.f 2
          have r2 := xr.c (k := 2) rfl
          replace c3 := xa.c (k := 3) rfl
          replace h3 := xr.f 3
          have r3 := xr.c (k := 3) rfl
          cases ok
          · have HBAD := Lib.hid (show ∀ k key hi num, askOk k key hi num = true → askText k key hi num ≠ s from fun k' key' hi' num' q t => by
              obtain ⟨rfl, rfl, rfl, rfl⟩ := HU.out _ _ _ _ q t
              rw [HOK.out] at q; cases q)
            have BB := Lib.hid (bel_set4 bw (Nat.le_refl _) (.int .i64 0) (.string ⟨#[]⟩) (.string ⟨#[]⟩) (.int .i64 0))
            clear xa xr bw
            go_wp2_with fail
            exact bodyPost_ret (v := .tuple #[.agg #[.int .i64 0, .string ⟨#[]⟩, .string ⟨#[]⟩, .int .i64 0], .bool false]) (by simp [results, Tryd.results14, go_sem, r0, r1, r2, r3] <;> rfl) rfl ⟨Or.inr ⟨HBAD.out, rfl⟩, BB.out⟩
          · go_wp2_with fail
            refine (implAskText ((j : Int) + 1) (⟨#[]⟩ : ByteArray) (⟨#[]⟩ : ByteArray) 0 _ (HE.out.on bw).1.1 (HE.out.on bw).1.2 (show (0 : Nat) ≤ maxLen from Nat.zero_le _) (show (0 : Nat) ≤ maxLen from Nat.zero_le _)).mono ?_
            rintro e W8 ⟨rfl, hb⟩
            rw [HTX.out]
            replace xa := xa.on hb
            replace xr := xr.on hb
            replace bw := bel_trans bw hb
            clear hb
            replace c0 := xa.c (k := 0) rfl
            replace h0 := xr.f 0
            replace r0 := xr.c (k := 0) rfl
            replace c1 := xa.c (k := 1) rfl
            replace h1 := xr.f 1
            replace r1 := xr.c (k := 1) rfl
            replace c2 := xa.c (k := 2) rfl
            replace h2 := xr.f 2
            replace r2 := xr.c (k := 2) rfl
            replace c3 := xa.c (k := 3) rfl
            replace h3 := xr.f 3
            replace r3 := xr.c (k := 3) rfl
            cases ht : (tx.toList == s.toList)
            · have htn : tx ≠ s := fun e => by rw [e] at ht; simp at ht
              have HBAD := Lib.hid (show ∀ k key hi num, askOk k key hi num = true → askText k key hi num ≠ s from fun k' key' hi' num' q t => by
                obtain ⟨rfl, rfl, rfl, rfl⟩ := HU.out _ _ _ _ q t
                exact htn (HTX.out.symm.trans t))
              have BB := Lib.hid (bel_set4 bw (Nat.le_refl _) (.int .i64 0) (.string ⟨#[]⟩) (.string ⟨#[]⟩) (.int .i64 0))
              clear xa xr bw htn
              go_wp2_with fail
              exact bodyPost_ret (v := .tuple #[.agg #[.int .i64 0, .string ⟨#[]⟩, .string ⟨#[]⟩, .int .i64 0], .bool false]) (by simp [results, Tryd.results14, go_sem, r0, r1, r2, r3] <;> rfl) rfl ⟨Or.inr ⟨HBAD.out, rfl⟩, BB.out⟩
            · have hte : tx = s := by
                rw [beq_iff_eq, ByteArray.toList_eq, ByteArray.toList_eq] at ht
                exact ByteArray.ext (Array.toList_inj.1 ht)
              have HGOOD := Lib.hid (show askText ((j : Int) + 1) (⟨#[]⟩ : ByteArray) (⟨#[]⟩ : ByteArray) 0 = s from HTX.out.trans hte)
              have BB := Lib.hid (bel_set4 bw (Nat.le_refl _) (.int .i64 ((j : Int) + 1)) (.string (⟨#[]⟩ : ByteArray)) (.string (⟨#[]⟩ : ByteArray)) (.int .i64 0))
              clear xa xr bw hte
              go_wp2_with fail
              exact bodyPost_ret (v := .tuple #[.agg #[.int .i64 ((j : Int) + 1), .string (⟨#[]⟩ : ByteArray), .string (⟨#[]⟩ : ByteArray), .int .i64 0], .bool true]) (by simp [results, Tryd.results14, go_sem, r0, r1, r2, r3] <;> rfl) rfl ⟨Or.inl ⟨_, _, _, _, HOK.out, HGOOD.out, rfl⟩, BB.out⟩
    · have i1 : ¬ (j : Int) < 9 := by omega
      have xr := HX.out.on hbl
      have bw := bel_trans HB2.out hbl
      have r0 := xr.c (k := 0) rfl
      have h0 := xr.f 0
      have r1 := xr.c (k := 1) rfl
      have h1 := xr.f 1
      have r2 := xr.c (k := 2) rfl
      have h2 := xr.f 2
      have r3 := xr.c (k := 3) rfl
      have h3 := xr.f 3
      have HBAD := Lib.hid (show ∀ k key hi num, askOk k key hi num = true → askText k key hi num ≠ s from fun k' key' hi' num' q => read_none HW.out (fun i hi => by rw [HZ.out]; exact hno i (by omega)) q)
      have BB := Lib.hid (bel_set4 bw (Nat.le_refl _) (.int .i64 0) (.string ⟨#[]⟩) (.string ⟨#[]⟩) (.int .i64 0))
      clear xr bw hno hbl
      go_wp2_with fail
      exact bodyPost_ret (v := .tuple #[.agg #[.int .i64 0, .string ⟨#[]⟩, .string ⟨#[]⟩, .int .i64 0], .bool false]) (by simp [results, Tryd.results14, go_sem, r0, r1, r2, r3] <;> rfl) rfl ⟨Or.inr ⟨HBAD.out, rfl⟩, BB.out⟩
end Go.Proofs.YtpmeaikiaoojkaaDoor
