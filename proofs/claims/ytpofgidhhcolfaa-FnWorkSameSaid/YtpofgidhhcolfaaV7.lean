/- Contract: VersOk of the program. -/
import Derived.Test.YtpofgidhhcolfaaV5
import Derived.Test.YtpofgidhhcolfaaV6
namespace Go.Proofs.Ytpofgidhhcolfaa
open Go.RowKit Go.Shelf
attribute [local go_sem] Oper.semAt_some

theorem tri (a b : ByteArray) : (klt a b = true ∧ keq a b = false ∧ klt b a = false) ∨ (klt a b = false ∧ keq a b = true ∧ klt b a = false) ∨ (klt a b = false ∧ keq a b = false ∧ klt b a = true) := by
  cases h : klt a b
  · cases h2 : klt b a
    · exact .inr (.inl ⟨rfl, keq_iff.2 (klt_total h h2), rfl⟩)
    · refine .inr (.inr ⟨rfl, ?_, rfl⟩)
      cases h3 : keq a b
      · rfl
      · rw [keq_iff.1 h3, klt_irrefl] at h2; cases h2
  · refine .inl ⟨rfl, ?_, klt_asymm h⟩
    cases h3 : keq a b
    · rfl
    · rw [keq_iff.1 h3, klt_irrefl] at h; cases h
theorem res42 {tmps : Array Value} {v : Value} (h : tmps.getD 2 undef = v) (P : Program) (W : World) : (results Try.f42 tmps).run P W = .ok v W := h ▸ results_tmp rfl tmps P W
/-! ### the marks that the rounds of an outer loop leave -/
def markD (D : Nat) : Deferred := { target := .collected D, args := #[] }
def Marks (B : Nat) (W : World) (ds : List Nat) : Prop := ds.Nodup ∧ ∀ D ∈ ds, B ≤ D ∧ W.heap[D]? = some (.deferred (some []))
theorem Marks.nil (B : Nat) (W : World) : Marks B W [] := ⟨List.nodup_nil, fun _ h => by simp at h⟩
theorem Marks.lt {B : Nat} {W : World} {ds : List Nat} (h : Marks B W ds) {D : Nat} (hD : D ∈ ds) : D < W.heap.size := (Array.getElem?_eq_some_iff.1 (h.2 D hD).2).1
theorem Marks.on {B : Nat} {W W' : World} {ds : List Nat} (h : Marks B W ds) (hb : Below W.heap.size W W') : Marks B W' ds := ⟨h.1, fun D hD => ⟨(h.2 D hD).1, (hb.block D (h.lt hD)).trans (h.2 D hD).2⟩⟩
theorem Marks.cons {B : Nat} {W : World} {ds : List Nat} (h : Marks B W ds) {D : Nat} (hB : B ≤ D) (hD : W.heap[D]? = some (.deferred (some []))) (hne : D ∉ ds) : Marks B W (D :: ds) :=
  ⟨List.nodup_cons.2 ⟨hne, h.1⟩, fun E hE => by
    rcases List.mem_cons.1 hE with rfl | hE
    · exact ⟨hB, hD⟩
    · exact h.2 E hE⟩
theorem Marks.kept {B : Nat} {W W' : World} {ds : List Nat} (h : Marks B W ds) (hk : KeepsOthers W W') : Marks B W' ds := ⟨h.1, fun D hD => ⟨(h.2 D hD).1, hk.same D _ (h.2 D hD).2 rfl⟩⟩
theorem leaves_marks {F : Fence} {m : Nat} {P : Program} {fn : Func} {tmps : Array Value} {R : Ending → World → Prop} {B : Nat} : ∀ (ds : List Nat) (W : World), B ≤ W.heap.size → Marks B W ds →
    (∀ W', Below B W W' → ∃ v, (results fn tmps).run P W' = .ok v W' ∧ R (.returned v) W') → LeavesInM F m P fn tmps R (ds.map markD) .returning W
  | [], W, _, _, hf => hf W (Below.refl _ _)
  | D :: ds, W, hB, hm, hf => by
    have hK := (hm.2 D (by simp)).2
    have hl := (hm.2 D (by simp)).1
    have hb : Below B W (W.putObj D (.deferred none)) := (Below.refl B W).grown (grownBy_putObj' W D _) (by have := (Array.getElem?_eq_some_iff.1 hK).1; omega) (fun k e => by cases e; omega)
    refine ⟨by simp, .inl ⟨D, _, rfl, run_takeDeferred hK, leaves_marks ds _ (Nat.le_trans hB hb.size) ⟨(List.nodup_cons.1 hm.1).2, fun E hE => ⟨(hm.2 E (by simp [hE])).1, ?_⟩⟩ (fun W' h' => hf W' (hb.trans h'))⟩⟩
    exact (World.putObj_heap_other (by rintro rfl; exact (List.nodup_cons.1 hm.1).1 hE)).trans (hm.2 E (by simp [hE])).2
theorem marks_own {β : Type} {B B' : Nat} {ds : List Nat} (h : ∀ D ∈ ds, D < B') : OwnFrom B' (fun (_ : β) X => Marks B X ds) := fun _ X Y row hs hg hr =>
  ⟨hs.1, fun D hD => ⟨(hs.2 D hD).1, (hg.block D (hs.lt hD) (fun e => by have h1 := (hr D e.symm).1; have h2 := h D hD; omega)).trans (hs.2 D hD).2⟩⟩
/-- a loop over a function whose body is given no variable -/
theorem wpIn_rangeFunc_skip {F : Fence} {n : Nat} {P : Program} {α : Type} {g : Operand} {ps : Array Tmp} {body : Code} {Q : Exit → Act → World → Prop} {a : Act} {w : World}
    (hro : F.round = none) (h1 : 1 ≤ n) {gf : Nat} {lb : Array Value} (hg : a.eval g = .func (.func gf) #[] lb) (hFg : F.fn gf) (eg : ∀ args w, (callFunc gf args).run P w = .ok (.enter gf args) w)
    {encs : α → Array Value} {Kp : World → World → Prop} {S Sp : List α → Prop} {N : Nat} {w0 : World} (hseq : SeqStopsK F (n - 1) P gf lb encs Kp S Sp N w0)
    (hKt : ∀ {A B C : World}, Kp A B → Kp B C → Kp A C) (hKb : ∀ (W : World) (l : Nat) (o o' : Obj), w.heap.size ≤ l → W.heap[l]? = some o → o.isCells = false → o.isWalk = false → Kp W (W.putObj l o')) (hb0 : Below w0.heap.size w0 w) (hps : ∀ x, (encs x).size = ps.size)
    (I : List α → World → Prop) (Ix : Code → List α → World → Prop) (hI : OwnFrom w.heap.size I) (hIx : ∀ c, OwnFrom w.heap.size (Ix c)) (h0 : I [] w)
    (hbody : ∀ (l : Nat) (pre : List α) (x : α) (W : World), I pre W → pre.length < N → body.wpIn (F.inRound l) (n - 1 - 1) P (ownPostK Kp I Ix (pre ++ [x]) W) { tmps := (ps.zip (encs x)).foldl (fun t (p, v) => t.setIfInBounds p v) a.tmps, defers := [] } W)
    (hdone : ∀ (D : Nat) (xs : List α) (W : World), w.heap.size ≤ D → S xs → I xs W → W.heap[D]? = some (.deferred (some [])) → Q .normal { a with defers := { target := .collected D, args := #[] } :: a.defers } W)
    (hstop : ∀ (D : Nat) (c : Code) (pre : List α) (W : World), w.heap.size ≤ D → Sp pre → Ix c pre W → W.heap[D]? = some (.deferred (some [])) → c.wpIn F n P Q { a with defers := { target := .collected D, args := #[] } :: a.defers } W) :
    (Code.rangeFunc g ps .skip body).wpIn F n P Q a w :=
  wpIn_rangeFunc_ownF hro h1 hg hFg eg hseq (fun h k => hKt h k) hKb hb0 hps I Ix hI hIx h0 (fun x => { tmps := (ps.zip (encs x)).foldl (fun t (p, v) => t.setIfInBounds p v) a.tmps, defers := [] })
    (fun _ _ _ _ hK => wpIn_skip hK) hbody hdone hstop
set_option maxHeartbeats 8000000 in
set_option maxRecDepth 100000 in
theorem implVersOkIn (now : Int) (A : Option Addr) (n c : Nat) (l : List Ver) (w : World) (hr : Sl encVer w w.heap.size A n l) (hk : VerSWf l) (_hn : n ≤ 1048576) :
    CallsIn Fence.wide 6 Try.prog 42 #[.agg #[.int .i64 now, .slice A n c]] w fun e w' => e = .returned (.bool (versOk now l)) ∧ Below w.heap.size w w' := by
  have HL := Lib.hid hr.len
  have HR := Lib.hid hr
  have HK := Lib.hid hk
  have b0 := bel_alloc (Below.refl _ w) (.cells #[.int .i64 now, .slice A n c] 39)
  obtain ⟨p0, p1⟩ := cell_new2Vers w (.int .i64 now) (.slice A n c) 39
  by_cases hd : 0 ≤ now ∧ now ≤ 40 ∧ n ≤ 60
  · obtain ⟨hd0, hd1, hd2⟩ := hd
    have hd2' : (n : Int) ≤ 60 := by omega
    have HD := Lib.hid (show 0 ≤ now ∧ now ≤ 40 ∧ l.length ≤ 60 from ⟨hd0, hd1, by rw [HL.out]; exact hd2⟩)
    have HC : Hid (∀ W, Below (w.heap.size + 1) (w.alloc (.cells #[.int .i64 now, .slice A n c] 39)) W → (W.cell? ⟨w.heap.size, 0, none⟩ = some (.int .i64 now) ∧ W.cell? ⟨w.heap.size, 1, none⟩ = some (.slice A n c)) ∧ Below w.heap.size w W ∧ w.heap.size + 1 ≤ W.heap.size) :=
      Lib.hid fun W hW => ⟨⟨(hW.cell (p := ⟨w.heap.size, 0, none⟩) (by simp)).trans p0, (hW.cell (p := ⟨w.heap.size, 1, none⟩) (by simp)).trans p1⟩, b0.trans (hW.mono (by omega)), by have := hW.size; simpa using this⟩
    have hb1 : Below (w.heap.size + 1) (w.alloc (.cells #[.int .i64 now, .slice A n c] 39)) (w.alloc (.cells #[.int .i64 now, .slice A n c] 39)) := Below.refl _ _
    generalize hw1 : w.alloc (.cells #[.int .i64 now, .slice A n c] 39) = w1 at *
    have HW := Lib.hid hw1
    clear hw1 hr hk p0 p1 b0
    obtain ⟨⟨p0, p1⟩, -, -⟩ := HC.out _ hb1
    refine callsIn_of_wp_marks Try.func42 rfl trivial ?_ rfl
    simp only [Try.ntmps42, List.size_toArray, List.length_cons, List.length_nil, Nat.reduceAdd, Nat.reduceSub, Array.replicate_succ, Array.replicate_zero, List.push_toArray, List.append_toArray, List.nil_append, List.cons_append]
    gi_wp2_with fail
    rw [HW.out]
    gi_wp2_with fail
    gi_loopw [25] (fun v25 wr => ∃ (i : Nat), i ≤ n ∧ v25 = .int .i64 i ∧ EachVTo now l i ∧ AheadTo l (i - 1) ∧ Below (w.heap.size + 1) w1 wr) (fun v25 _ => n - (intOf v25).toNat)
    case atStart => exact ⟨0, Nat.zero_le _, rfl, EachVTo.zero _ _, AheadTo.zero _, hb1⟩
    case round =>
      obtain ⟨i, hin, rfl, he, ha, hb⟩ := hrel
      clear p0 p1 hb1
      obtain ⟨⟨p0, p1⟩, hbw, hsz⟩ := HC.out _ hb
      by_cases h0 : i < n
      · have h0' : (i : Int) < (n : Int) := by omega
        have j0 : (0 : Int) ≤ (i : Int) := by omega
        have hi60 : (i : Int) < 60 := by omega
        obtain ⟨b, off, rfl, hbb⟩ := HR.out.spot (by omega)
        obtain ⟨f0, f1, f2, f3, hx, e0, e1, e2, e3⟩ := atVer (HR.out.keep hbw) h0
        have HX := Lib.hid hx
        have HWF := Lib.hid (HK.out.at_ hx)
        clear hx
        have HB := Lib.hid hb
        clear hb
        have hba := bel_alloc (Below.refl _ wr) (.cells #[.string f0, .int .i64 f1, .int .i64 f2, .int .i64 f3] 77)
        obtain ⟨q0, q1, q2, q3⟩ := cell_new4Ver wr (f0, f1, f2, f3) 77
        simp only at q0 q1 q2 q3
        have hz : wr.heap.size < (wr.alloc (.cells #[.string f0, .int .i64 f1, .int .i64 f2, .int .i64 f3] 77)).heap.size := by simp
        have s0 := (hba.cell (p := ⟨w.heap.size, 0, none⟩) (by simp only; omega)).trans p0
        have s1 := (hba.cell (p := ⟨w.heap.size, 1, none⟩) (by simp only; omega)).trans p1
        have C1 : Hid (∀ W, Calls Try.prog 91 #[.agg #[.string f0, .int .i64 f1, .int .i64 f2, .int .i64 f3], .int .i64 now] W fun e w' => e = .returned (.bool (verOk now (f0, f1, f2, f3))) ∧ Below W.heap.size W w') := Lib.hid fun W => implVer f0 f1 f2 f3 now W HWF.out
        gi_wp2_with fail
        refine ⟨trivial, (callsIn_wide.2 (C1.out _)).mono ?_⟩
        rintro e W2 ⟨rfl, hb2⟩
        have hb3 := bel_trans hba hb2
        have hbw2 := bel_trans hbw hb3
        have HB2 := Lib.hid (HB.out.trans (hb3.mono (by omega)))
        have r0 := (hb2.cell (p := ⟨wr.heap.size, 0, none⟩) hz).trans q0
        have r1 := (hb2.cell (p := ⟨wr.heap.size, 1, none⟩) hz).trans q1
        have r2 := (hb2.cell (p := ⟨wr.heap.size, 2, none⟩) hz).trans q2
        have r3 := (hb2.cell (p := ⟨wr.heap.size, 3, none⟩) hz).trans q3
        have t0 := (hb2.cell (p := ⟨w.heap.size, 0, none⟩) (by simp; omega)).trans s0
        have t1 := (hb2.cell (p := ⟨w.heap.size, 1, none⟩) (by simp; omega)).trans s1
        clear q0 q1 q2 q3 e0 e1 e2 e3 s0 s1 p0 p1
        cases hv : verOk now (f0, f1, f2, f3)
        · have HF := Lib.hid (versOk_each (not_eachV HX.out hv))
          clear hv
          gi_wp2_with fail
          exact leaves_marks (B := w.heap.size) [] _ hbw2.size (Marks.nil _ _) (fun W' hW' => ⟨.bool false, res42 rfl _ _, retBool HF.out.symm, hbw2.trans hW'⟩)
        · have HE := Lib.hid (he.step HX.out hv)
          have HV := Lib.hid hv
          clear hv
          by_cases hi : 0 < i
          · obtain ⟨g0, g1, g2, g3, hy, d0, d1, d2, d3⟩ := atVer (HR.out.keep hbw2) (show i - 1 < n by omega)
            have HY := Lib.hid hy
            have HAV := Lib.hid (ahead_eq (now := now) (a := (g0, g1, g2, g3)) (f0, f1, f2, f3) (he (i - 1) _ (by omega) hy))
            clear hy
            have hi' : (0 : Int) < (i : Int) := by omega
            have hpi : ((i - 1 : Nat) : Int) = (i : Int) - 1 := by omega
            have hpn : ((i : Int) - 1).toNat = i - 1 := by omega
            have hp1 : (i : Int) - 1 < (n : Int) := by omega
            have hp2 : (1 : Int) ≤ (i : Int) := by omega
            have hieq : ((i : Int) == 0) = false := by simp; omega
            have hwz2 : wr.heap.size < W2.heap.size := by have := hb2.size; simp at this; omega
            have hbz := bel_alloc (Below.refl _ W2) (.cells #[.string g0, .int .i64 g1, .int .i64 g2, .int .i64 g3] 77)
            have v0 := (hbz.cell (p := ⟨wr.heap.size, 0, none⟩) hwz2).trans r0
            have v2 := (hbz.cell (p := ⟨wr.heap.size, 2, none⟩) hwz2).trans r2
            have hbx : Below w.heap.size w (W2.alloc (.cells #[.string g0, .int .i64 g1, .int .i64 g2, .int .i64 g3] 77)) := bel_alloc hbw2 _
            have HBX := Lib.hid (HB2.out.trans ((bel_alloc (Below.refl _ W2) (.cells #[.string g0, .int .i64 g1, .int .i64 g2, .int .i64 g3] 77)).mono (by have := hbw2.size; have := hb3.size; omega)))
            clear hpi
            rcases tri g0 f0 with ⟨h1, h2, h3⟩ | ⟨h1, h2, h3⟩ | ⟨h1, h2, h3⟩
            · have hgf : Op.bytesLess g0.toList f0.toList = true := h1
              have heq' : (g0.toList == f0.toList) = false := h2
              have HA := Lib.hid (ha.step hi HY.out HX.out (by rw [HAV.out]; simp [h2, h3]))
              clear h1 h2 h3
              gi_wp2_with fail
              go_roundw
              case rel => exact ⟨i + 1, by omega, by simp, HE.out, HA.out, HBX.out⟩
              case measure => simp [intOf]; omega
            · have hgf : Op.bytesLess g0.toList f0.toList = false := h1
              have heq' : (g0.toList == f0.toList) = true := h2
              by_cases hto : g3 = 0 ∨ f2 < g3
              · have HF := Lib.hid (versOk_ahead (now := now) (not_ahead hi HY.out HX.out (by rw [HAV.out]; rcases hto with h | h <;> simp [h2, h3, h])))
                clear h1 h2 h3
                by_cases hto0 : g3 = 0
                · have ht1 : (g3 == 0) = true := by simp [hto0]
                  clear hto
                  have HT := Lib.hid hto0
                  clear hto0
                  gi_wp2_with fail
                  exact leaves_marks (B := w.heap.size) [] _ hbx.size (Marks.nil _ _) (fun W' hW' => ⟨.bool false, res42 rfl _ _, retBool HF.out.symm, hbx.trans hW'⟩)
                · have ht1 : (g3 == 0) = false := by simp [hto0]
                  have ht2 : f2 < g3 := by rcases hto with h | h; exact absurd h hto0; exact h
                  clear hto hto0
                  gi_wp2_with fail
                  exact leaves_marks (B := w.heap.size) [] _ hbx.size (Marks.nil _ _) (fun W' hW' => ⟨.bool false, res42 rfl _ _, retBool HF.out.symm, hbx.trans hW'⟩)
              · have ht1 : (g3 == 0) = false := by simp; omega
                have ht2 : g3 ≤ f2 := by omega
                have HA := Lib.hid (ha.step hi HY.out HX.out (by rw [HAV.out]; simp [h2, h3]; omega))
                clear h1 h2 h3 hto
                gi_wp2_with fail
                go_roundw
                case rel => exact ⟨i + 1, by omega, by simp, HE.out, HA.out, HBX.out⟩
                case measure => simp [intOf]; omega
            · have hgf : Op.bytesLess g0.toList f0.toList = false := h1
              have heq' : (g0.toList == f0.toList) = false := h2
              have HF := Lib.hid (versOk_ahead (now := now) (not_ahead hi HY.out HX.out (by rw [HAV.out]; simp [h3])))
              clear h1 h2 h3
              gi_wp2_with fail
              exact leaves_marks (B := w.heap.size) [] _ hbx.size (Marks.nil _ _) (fun W' hW' => ⟨.bool false, res42 rfl _ _, retBool HF.out.symm, hbx.trans hW'⟩)
          · obtain rfl : i = 0 := by omega
            have hieq : (((0 : Nat) : Int) == 0) = true := by rfl
            gi_wp2_with fail
            go_roundw
            case rel => exact ⟨1, by omega, by simp, HE.out, AheadTo.zero _, HB2.out⟩
            case measure => simp [intOf]; omega
      · obtain rfl : i = n := by omega
        have h0' : ¬ ((i : Int) < (i : Int)) := by omega
        have hev := he.all (Nat.le_of_eq HL.out)
        have haa := ha.all (by rw [HL.out]; omega)
        have HEV := Lib.hid hev
        have HAA := Lib.hid haa
        clear hev haa he ha
        gi_wp2_with fail
        refine wpIn_loop (fun a W => ∃ (k : Nat) (ds : List Nat) (x0 x2 x3 x4 x5 x7 x8 x9 x10 x11 x12 x13 x14 x15 x16 x17 x18 x19 x20 x21 x22 x23 x24 x25 x26 x27 x28 x29 x30 x31 x32 x33 x34 x35 x36 x37 x38 x39 x40 x41 x42 x43 x44 x45 x46 x47 x48 x49 x50 x51 x52 x53 x54 x55 x56 x57 x58 x59 x60 x61 x62 x63 x64 x65 x66 x67 x68 x69 x70 x71 x72 x73 x74 x75 x76 x77 x78 x79 : Value), a = ({ tmps := #[x0, .pointer (some ⟨w.heap.size, 0, none⟩), x2, x3, x4, x5, .int .i64 (k : Int), x7, x8, x9, x10, x11, x12, x13, x14, x15, x16, x17, x18, x19, x20, x21, x22, x23, x24, x25, x26, x27, x28, x29, x30, x31, x32, x33, x34, x35, x36, x37, x38, x39, x40, x41, x42, x43, x44, x45, x46, x47, x48, x49, x50, x51, x52, x53, x54, x55, x56, x57, x58, x59, x60, x61, x62, x63, x64, x65, x66, x67, x68, x69, x70, x71, x72, x73, x74, x75, x76, x77, x78, x79], defers := ds.map markD } : Act) ∧ (k : Int) ≤ now + 1 ∧ FewTo l k ∧ Marks (w.heap.size + 1) W ds ∧ Below (w.heap.size + 1) w1 W) (fun a _ => 41 - (intOf (a.tmps.getD 6 undef)).toNat) ⟨0, [], _, _, _, _, _, _, _, _, _, _, _, _, _, _, _, _, _, _, _, _, _, _, _, _, _, _, _, _, _, _, _, _, _, _, _, _, _, _, _, _, _, _, _, _, _, _, _, _, _, _, _, _, _, _, _, _, _, _, _, _, _, _, _, _, _, _, _, _, _, _, _, _, _, _, _, _, _, _, rfl, by omega, FewTo.zero _, Marks.nil _ _, hb⟩ ?_
        clear p0 p1 hbw hsz hb
        rintro a W ⟨k, ds, x0, x2, x3, x4, x5, x7, x8, x9, x10, x11, x12, x13, x14, x15, x16, x17, x18, x19, x20, x21, x22, x23, x24, x25, x26, x27, x28, x29, x30, x31, x32, x33, x34, x35, x36, x37, x38, x39, x40, x41, x42, x43, x44, x45, x46, x47, x48, x49, x50, x51, x52, x53, x54, x55, x56, x57, x58, x59, x60, x61, x62, x63, x64, x65, x66, x67, x68, x69, x70, x71, x72, x73, x74, x75, x76, x77, x78, x79, rfl, hk, hf, hm, hb⟩
        obtain ⟨⟨p0, p1⟩, hbw, hsz⟩ := HC.out _ hb
        by_cases hkn : (k : Int) ≤ now
        · have hvl := visL_len l (k : Int)
          rw [HL.out] at hvl
          have HVL := Lib.hid (show (visL l (k : Int)).length = seen l k from rfl)
          have hba := bel_alloc (Below.refl _ W) (.cells #[.int .i64 0] 3)
          have bO := Boxed.new W 3 (.int .i64 0)
          have hwz : (W.alloc (.cells #[.int .i64 0] 3)).heap.size = W.heap.size + 1 := by simp
          have hz1 : W.heap.size < (W.alloc (.cells #[.int .i64 0] 3)).heap.size := by rw [hwz]; omega
          have HWZ := Lib.hid hwz
          clear hwz
          have r0 := (hba.cell (p := ⟨w.heap.size, 0, none⟩) (by simp only; omega)).trans p0
          have r1 := (hba.cell (p := ⟨w.heap.size, 1, none⟩) (by simp only; omega)).trans p1
          gi_wp2_with fail
          refine ⟨trivial, (callsIn_wide.2 (snapshot now A i c (k : Int) _)).mono ?_⟩
          rintro e W2 ⟨rfl, hs2, hcap, hb2⟩
          rw [HWZ.out] at hs2 hcap
          have hb3 := bel_trans hba hb2
          have hb4 := hb.trans (hb3.mono (by omega))
          have hm2 := hm.on hb3
          have hdl : ∀ D ∈ ds, D < W2.heap.size := fun D hD => Nat.lt_of_lt_of_le (hm.lt hD) hb3.size
          have hbox2 : Boxed W2 W.heap.size 3 (.int .i64 ((0 : Nat) : Int)) := (hb2.block _ hz1).trans bO
          have HDL := Lib.hid hdl
          clear hdl r0 r1 p0 p1 bO
          gi_wp2_with fail
          refine wpIn_rangeFunc_skip rfl (by omega) (gf := 133) (lb := #[.pointer (some ⟨W.heap.size + 1, 0, none⟩), .pointer (some ⟨W.heap.size + 1 + 1, 0, none⟩)]) rfl trivial (enters_of Try.func133 (by kernel_rfl) rfl)
            (snap_stops 5 (by omega) (W.heap.size + 1) (W.heap.size + 1 + 1) (w.heap.size + 1) A i c l (k : Int) W2 (by have := hb3.size; omega) (by omega) hs2 hcap ((HR.out.keep (bel_trans hbw hb3)).more (by omega)) (by omega))
            (fun h k => h.trans k) (fun X q o o' h1 h2 _ _ => KpV.put (B := W2.heap.size) o' (by have := hb3.size; omega) (by omega) hs2 h1 h2) (Below.refl _ _) (fun _ => rfl)
            (fun pre X => Boxed X W.heap.size 3 (.int .i64 (pre.length : Int)) ∧ Marks (w.heap.size + 1) X ds ∧ Below (w.heap.size + 1) w1 X) (fun _ _ _ => False)
            (OwnFrom.and (Own.from (boxed_own _ _ _) _) (OwnFrom.and (marks_own HDL.out) (ownFrom_below (by rw [← HW.out]; simp) (by have := hb3.size; omega)))) (fun _ _ _ _ _ hs _ _ => hs)
            ⟨hbox2, hm2, hb4⟩ ?body ?done ?stop
          case body =>
            rintro l0 pre x X ⟨hbX, hmX, hBX⟩ hlen
            have hc := hbX.cell
            have hfz := hbX.frozen
            have hpl : (pre.length : Int) < 60 := by omega
            unfold encItV
            gi_wp2_with fail
            exact ⟨KeepsOthers.setCell _ _ _, ⟨(Below.refl _ _).setCell (p := ⟨W.heap.size, 0, none⟩) (by simp only; omega) _, Below.heap_setCell _ _ _ _ (by simp only; omega), Below.heap_setCell _ _ _ _ (by simp only; omega)⟩, by simpa using hbX.set _, hmX.kept (KeepsOthers.setCell _ _ _), hBX.setCell (p := ⟨W.heap.size, 0, none⟩) (by simp only; omega) _⟩
          case done =>
            rintro D ys X hD rfl ⟨hbX, hmX, hBX⟩ hK
            obtain ⟨-, hbw5, hsz5⟩ := HC.out _ hBX
            have hmD := hmX.cons (by have := hb3.size; omega) hK (fun h => by have := HDL.out D h; omega)
            rw [HVL.out] at hbX
            by_cases hfew : seen l (k : Int) ≤ 10
            · have HS := Lib.hid (hf.step hfew)
              generalize seen l (k : Int) = q at *
              have hc := hbX.cell
              have hq : (q : Int) ≤ 10 := by omega
              have HK2 := Lib.hid hK
              clear hK
              gi_wp2_with fail
              exact ⟨⟨k + 1, D :: ds, _, _, _, _, _, _, _, _, _, _, _, _, _, _, _, _, _, _, _, _, _, _, _, _, _, _, _, _, _, _, _, _, _, _, _, _, _, _, _, _, _, _, _, _, _, _, _, _, _, _, _, _, _, _, _, _, _, _, _, _, _, _, _, _, _, _, _, _, _, _, _, _, _, _, _, _, _, _, rfl, by omega, HS.out, hmD, hBX⟩, by simp [intOf]; omega⟩
            · have HF := Lib.hid (versOk_few (now := now) (l := l) (not_few hkn (by omega)))
              generalize seen l (k : Int) = q at *
              have hc := hbX.cell
              have hq : (10 : Int) < (q : Int) := by omega
              gi_wp2_with fail
              exact leaves_marks (B := w.heap.size + 1) (D :: ds) _ (by omega) hmD (fun W' hW' => ⟨.bool false, res42 rfl _ _, retBool HF.out.symm, hbw5.trans (hW'.mono (by omega))⟩)
          case stop =>
            rintro D c pre X _ _ h _
            exact h.elim
        · have HF := Lib.hid (versOk_true (now := now) (l := l) ⟨HD.out, HEV.out, HAA.out, hf.all (by omega)⟩)
          have hkn' : now < (k : Int) := by omega
          gi_wp2_with fail
          exact leaves_marks (B := w.heap.size + 1) ds _ (by omega) hm (fun W' hW' => ⟨.bool true, res42 rfl _ _, retBool HF.out.symm, hbw.trans (hW'.mono (by omega))⟩)
  · have HF := Lib.hid (versOk_head (now := now) (l := l) (by rw [HL.out]; exact hd))
    refine callsIn_of_wp_marks Try.func42 rfl trivial ?_ rfl
    simp only [Try.ntmps42, List.size_toArray, List.length_cons, List.length_nil, Nat.reduceAdd, Nat.reduceSub, Array.replicate_succ, Array.replicate_zero, List.push_toArray, List.append_toArray, List.nil_append, List.cons_append]
    gi_wp2_with fail
    all_goals exact leaves_marks (B := w.heap.size) [] _ b0.size (Marks.nil _ _) (fun W' hW' => ⟨.bool false, res42 rfl _ _, retBool HF.out.symm, b0.trans hW'⟩)
theorem implVersOk (now : Int) (A : Option Addr) (n c : Nat) (l : List Ver) (w : World) (hr : Sl encVer w w.heap.size A n l) (hk : VerSWf l) (hn : n ≤ 1048576) :
    Calls Try.prog 42 #[.agg #[.int .i64 now, .slice A n c]] w fun e w' => e = .returned (.bool (versOk now l)) ∧ Below w.heap.size w w' :=
  callsIn_wide.1 (implVersOkIn now A n c l w hr hk hn)
end Go.Proofs.Ytpofgidhhcolfaa
