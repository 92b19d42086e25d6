/- Contracts: VersAt of the reference and of the program. -/
import Derived.Test.YtpofgidhhcolfaaV7
import Derived.Test.YtpofgidhhcolfaaV8
import Derived.Maps.AppendAt
namespace Go.Proofs.Ytpofgidhhcolfaa
open Go.RowKit Go.Shelf
attribute [local go_sem] Oper.semAt_some

def rowsOf (l : List Ver) : List Row := l.map fun x => (x.1, x.2.1)
theorem rowsOf_snoc (l : List Ver) (x : Ver) : rowsOf (l ++ [x]) = rowsOf l ++ [(x.1, x.2.1)] := by simp [rowsOf]
theorem rowsOf_len (l : List Ver) : (rowsOf l).length = l.length := by simp [rowsOf]
theorem atL_eq (l : List Ver) (t : Int) : atL l t = rowsOf (visL l t) := rfl
theorem atRes_bad {now : Int} {l : List Ver} {t : Int} (h : versOk now l = false) : atRes now l t = [] := by simp [atRes, h]
theorem atRes_out {now : Int} {l : List Ver} {t : Int} (h : t < 0 ∨ now < t) : atRes now l t = [] := by
  unfold atRes
  rw [if_neg]
  rintro ⟨_, h1, h2⟩
  omega
theorem atRes_ok {now : Int} {l : List Ver} {t : Int} (h : versOk now l = true) (h0 : 0 ≤ t) (h1 : t ≤ now) : atRes now l t = atL l t := by simp [atRes, h, h0, h1]
theorem atRes_len (now : Int) (l : List Ver) (t : Int) : (atRes now l t).length ≤ 60 := by
  unfold atRes
  split
  · rename_i h
    have := (versOk_iff.1 h.1).1.2.2
    have := at_len l t
    omega
  · simp
theorem own_snocR {α : Type} {enc : α → List Value} {sz : Nat} {e : TypeId} {w' : World} {base : Nat} {v' : Value} {l : List α} {x : α} (h : w'.ownsRow base e sz v' (l.length + 1) (cellsOf enc l ++ enc x)) : Own enc sz e w' base v' (l ++ [x]) := by
  unfold Own
  rw [cellsOf_append, cellsOf_one, List.length_append]
  exact h
theorem cell_two_newR (w : World) (x y : Value) (t : TypeId) : ∀ j u, [x, y][j]? = some u → (w.alloc (.cells #[x, y] t)).cell? ((⟨w.heap.size, 0, none⟩ : Addr).add j) = some u := by
  intro j u h
  have hh := World.alloc_heap_new w (.cells #[x, y] t)
  match j, h with
  | 0, h => simp only [World.cell?, Addr.add, Nat.zero_add, if_true, hh]; exact h
  | 1, h => simp only [World.cell?, Addr.add, Nat.zero_add, Nat.one_ne_zero, if_false, hh]; exact h
  | j + 2, h => simp at h
/-- the loop variable's block -/
def VerBox (B : Nat) (x : Ver) (W : World) : Prop := W.heap[B]? = some (.cells #[.string x.1, .int .i64 x.2.1, .int .i64 x.2.2.1, .int .i64 x.2.2.2] 77 (0, 0))
theorem VerBox.lt {W : World} {B : Nat} {x : Ver} (h : VerBox B x W) : B < W.heap.size := (Array.getElem?_eq_some_iff.1 h).1
theorem VerBox.c0 {W : World} {B : Nat} {x : Ver} (h : VerBox B x W) : W.cell? ⟨B, 0, none⟩ = some (.string x.1) := by simp [World.cell?, show W.heap[B]? = _ from h]
theorem VerBox.c1 {W : World} {B : Nat} {x : Ver} (h : VerBox B x W) : W.cell? ⟨B, 1, none⟩ = some (.int .i64 x.2.1) := by simp [World.cell?, show W.heap[B]? = _ from h]
theorem VerBox.new (W : World) (x : Ver) : VerBox W.heap.size x (W.alloc (.cells #[.string x.1, .int .i64 x.2.1, .int .i64 x.2.2.1, .int .i64 x.2.2.2] 77)) := World.alloc_heap_new W _
theorem VerBox.own {β : Type} (B : Nat) (x : Ver) : Go.Own (fun (_ : β) W => VerBox B x W) := fun _ X Y row hs hg hrow =>
  (hg.block B (VerBox.lt hs) (fun e' => by obtain ⟨o, ho, hc⟩ := hrow B e'.symm; rw [show X.heap[B]? = _ from hs] at ho; cases ho; cases hc)).trans hs
theorem Boxed.appended2 {W w1 : World} {n₀ n₁ B g1 g2 : Nat} {t e : TypeId} {size : Nat} {v v' : Value} {k m : Nat} {xs ys : List Value} {tmp : Obj}
    (hv : Boxed W B t v) (hte : t ≠ e) (hrow : W.ownsRow n₁ e size v k xs) (hn₁ : n₁ ≤ W.heap.size) (hn : n₀ ≤ n₁) (hB : n₀ ≤ B) (h1 : g1 < n₁) (h2 : g2 < n₁) (e1 : B ≠ g1) (e2 : B ≠ g2)
    (hown' : w1.ownsRow n₁ e size v' m ys) (hgrow : (W.alloc tmp).grownBy w1 v.ownBlock) :
    Boxed w1 B t v ∧ Boxed (w1.setCell ⟨B, 0, none⟩ v') B t v' ∧ (w1.setCell ⟨B, 0, none⟩ v').ownsRow n₁ e size v' m ys ∧ KeepsOthers W (w1.setCell ⟨B, 0, none⟩ v') ∧ KpV n₀ g1 g2 W (w1.setCell ⟨B, 0, none⟩ v') := by
  have hv1 : Boxed w1 B t v := (hv.alloc tmp).kept hgrow (hv.not_row hte hrow)
  have hob : ∀ j, v.ownBlock = some j → n₁ ≤ j := fun j ej => (World.ownsRow.lt hrow j ej).1
  have hbk : ∀ g, g < n₁ → w1.heap[g]? = W.heap[g]? := fun g hg => (hgrow.block g (by simp; omega) (fun e' => by have := hob g e'.symm; omega)).trans ((Below.refl W.heap.size W).alloc (Nat.le_refl _) tmp |>.block g (by omega))
  refine ⟨hv1, hv1.set v', hown'.kept (grownBy_setCell' w1 B v') (.inr (hv1.not_row hte hown').symm), ?_, ?_, ?_, ?_⟩
  · refine ((KeepsOthers.alloc W tmp).trans (KeepsOthers.of_grownBy hgrow fun j o ej hj => ?_)).trans (KeepsOthers.setCell _ _ _)
    rcases (hrow.alloc tmp).2 with ⟨rfl, _⟩ | ⟨g, cap, cur, rfl, _, hgb, _⟩
    · simp [Value.ownBlock] at ej
    · obtain rfl : g = j := by simpa [Value.ownBlock] using ej
      rw [hgb] at hj; cases hj; rfl
  · exact (((Below.refl n₀ W).alloc (by omega) tmp).grown hgrow (by simp; omega) fun j ej => by have := hob j ej; omega).setCell (p := ⟨B, 0, none⟩) hB v'
  · exact (Below.heap_setCell _ _ _ _ (by simp only; omega)).trans (hbk g1 h1)
  · exact (Below.heap_setCell _ _ _ _ (by simp only; omega)).trans (hbk g2 h2)
/-- a loop over a function whose variable is boxed -/
theorem wpIn_rangeFunc_box {F : Fence} {n : Nat} {P : Program} {α : Type} {g : Operand} {p : Tmp} {assign body : Code} {Q : Exit → Act → World → Prop} {a : Act} {w : World} (q : Tmp) (VB : Nat → α → World → Prop) (hVB : ∀ B x, Go.Own (fun (_ : Unit) W => VB B x W))
    (hro : F.round = none) (h1 : 1 ≤ n) {gf : Nat} {lb : Array Value} (hg : a.eval g = .func (.func gf) #[] lb) (hFg : F.fn gf) (eg : ∀ args w, (callFunc gf args).run P w = .ok (.enter gf args) w)
    {enc : α → Value} {Kp : World → World → Prop} {S Sp : List α → Prop} {N : Nat} {w0 : World} (hseq : SeqStopsK F (n - 1) P gf lb (fun x => #[enc x]) Kp S Sp N w0)
    (hKt : ∀ {A B C : World}, Kp A B → Kp B C → Kp A C) (hKb : ∀ (W : World) (l : Nat) (o o' : Obj), w.heap.size ≤ l → W.heap[l]? = some o → o.isCells = false → o.isWalk = false → Kp W (W.putObj l o')) (hb0 : Below w0.heap.size w0 w)
    (I : List α → World → Prop) (Ix : Code → List α → World → Prop) (hI : OwnFrom w.heap.size I) (hIx : ∀ c, OwnFrom w.heap.size (Ix c)) (h0 : I [] w)
    (hassign : ∀ (l : Nat) (pre : List α) (x : α) (W : World) (K : Act → World → Prop), I pre W → (∀ Bx W', KeepsFrom w.heap.size W W' → Kp W W' → I pre W' → VB Bx x W' → K { tmps := (a.tmps.setIfInBounds p (enc x)).setIfInBounds q (.pointer (some ⟨Bx, 0, none⟩)), defers := [] } W') →
      assign.wpIn (F.inRound l) (n - 1 - 1) P (Exit.then K (fun _ _ _ => False)) { tmps := a.tmps.setIfInBounds p (enc x), defers := [] } W)
    (hbody : ∀ (l : Nat) (pre : List α) (x : α) (Bx : Nat) (W : World), I pre W → VB Bx x W → pre.length < N → body.wpIn (F.inRound l) (n - 1 - 1) P (ownPostG w.heap.size Kp I Ix (pre ++ [x]) W) { tmps := (a.tmps.setIfInBounds p (enc x)).setIfInBounds q (.pointer (some ⟨Bx, 0, none⟩)), defers := [] } W)
    (hdone : ∀ (D : Nat) (xs : List α) (W : World), w.heap.size ≤ D → S xs → I xs W → W.heap[D]? = some (.deferred (some [])) → Q .normal { a with defers := { target := .collected D, args := #[] } :: a.defers } W)
    (hstop : ∀ (D : Nat) (c : Code) (pre : List α) (W : World), w.heap.size ≤ D → Sp pre → Ix c pre W → W.heap[D]? = some (.deferred (some [])) → c.wpIn F n P Q { a with defers := { target := .collected D, args := #[] } :: a.defers } W) :
    (Code.rangeFunc g #[p] assign body).wpIn F n P Q a w :=
  wpIn_rangeFunc_ownH hro h1 hg hFg eg hseq (fun h k => hKt h k) hKb hb0 (fun _ => rfl) I Ix hI hIx h0
    (fun x a' W => ∃ Bx, VB Bx x W ∧ a' = { tmps := (a.tmps.setIfInBounds p (enc x)).setIfInBounds q (.pointer (some ⟨Bx, 0, none⟩)), defers := [] })
    (fun x _ s X Y row hs hg hrw => by
      obtain ⟨Bx, hb, ha'⟩ := hs
      exact ⟨Bx, (hVB Bx x) () X Y row hb hg (fun r e => (hrw r e).2), ha'⟩)
    (fun l pre x W K hi hK => by
      have e1 : ((#[p] : Array Tmp).zip #[enc x]).foldl (fun t (p, v) => t.setIfInBounds p v) a.tmps = a.tmps.setIfInBounds p (enc x) := by simp
      rw [e1]
      exact hassign l pre x W K hi (fun Bx W' k1 k2 k3 k4 => hK _ _ k1 k2 k3 ⟨Bx, k4, rfl⟩))
    (fun l pre x a' W _ _ hi hx hl => by obtain ⟨Bx, hb, rfl⟩ := hx; exact hbody l pre x Bx W hi hb hl)
    hdone hstop
set_option maxHeartbeats 1000000 in
theorem specVersAt (now : Int) (A : Option Addr) (n c : Nat) (l : List Ver) (t : Int) (w : World) (hr : Sl encVer w w.heap.size A n l) (hk : VerSWf l) (hn : n ≤ 1048576) :
    Calls Try.prog 45 #[.agg #[.int .i64 now, .slice A n c], .int .i64 t] w (OwnPost w (atRes now l t)) := by
  have HR := Lib.hid hr
  have HN := Lib.hid hn
  have HK := Lib.hid hk
  have b0 := bel_alloc (Below.refl _ w) (.cells #[.int .i64 now, .slice A n c] 39)
  obtain ⟨p0, p1⟩ := cell_new2Vers w (.int .i64 now) (.slice A n c) 39
  clear hr hn hk
  by_cases ht : t < 0 ∨ now < t
  · rw [atRes_out ht]
    have HT := Lib.hid ht
    go_enter Try.func45, Try.ntmps45
    go_wp2_with fail
    refine (specVersOk now A n c l _ (HR.out.on b0) HK.out HN.out).mono ?_
    rintro e w1 ⟨rfl, hb1⟩
    replace p0 := keepC hb1 p0
    have b1 := bel_trans b0 hb1
    clear b0 hb1
    have hz := b1.size
    cases versOk now l
    · go_wp2_with fail
      go_ret
      exact ⟨_, rfl, (Own.made0 w1 b1.size), bel_alloc b1 _⟩
    · by_cases h0 : t < 0
      · clear ht
        go_wp2_with fail
        go_ret
        exact ⟨_, rfl, (Own.made0 w1 b1.size), bel_alloc b1 _⟩
      · have h1 : now < t := by omega
        clear ht
        go_wp2_with fail
        go_ret
        exact ⟨_, rfl, (Own.made0 w1 b1.size), bel_alloc b1 _⟩
  · have ht0 : 0 ≤ t := by omega
    have ht1 : t ≤ now := by omega
    clear ht
    go_enter Try.func45, Try.ntmps45
    go_wp2_with fail
    refine (specVersOk now A n c l _ (HR.out.on b0) HK.out HN.out).mono ?_
    rintro e w1 ⟨rfl, hb1⟩
    replace p0 := keepC hb1 p0
    replace p1 := keepC hb1 p1
    have b1 := bel_trans b0 hb1
    clear b0 hb1
    cases hok : versOk now l
    · have HA := Lib.hid (atRes_bad (t := t) hok)
      clear hok
      go_wp2_with fail
      go_ret
      exact ⟨_, rfl, (by rw [HA.out]; exact Own.made0 w1 b1.size), bel_alloc b1 _⟩
    · have HA := Lib.hid (atRes_ok hok ht0 ht1)
      clear hok
      go_wp2_with fail
      refine (specAt now A n c l t _ (HR.out.on b1) HN.out).mono ?_
      rintro e w2 ⟨v, rfl, ho, hb2⟩
      go_wp2_with fail
      go_ret
      exact ⟨v, rfl, (by rw [HA.out]; exact ho.lower b1.size), bel_trans b1 hb2⟩
theorem res46 {tmps : Array Value} {v : Value} (h : tmps.getD 4 undef = v) (P : Program) (W : World) : (results Try.f46 tmps).run P W = .ok v W := h ▸ results_tmp rfl tmps P W
set_option maxHeartbeats 4000000 in
set_option maxRecDepth 100000 in
theorem implVersAtIn (now : Int) (A : Option Addr) (n c : Nat) (l : List Ver) (t : Int) (w : World) (hr : Sl encVer w w.heap.size A n l) (hk : VerSWf l) (hn : n ≤ 1048576) :
    CallsIn Fence.wide 6 Try.prog 46 #[.agg #[.int .i64 now, .slice A n c], .int .i64 t] w (OwnPost w (atRes now l t)) := by
  obtain ⟨i0, hi0, hz0, hz1, hz2⟩ := info_parts info46
  have HL := Lib.hid hr.len
  have HR := Lib.hid hr
  have HN := Lib.hid hn
  have HK := Lib.hid hk
  have b0 := bel_alloc (Below.refl _ w) (.cells #[.int .i64 now, .slice A n c] 39)
  obtain ⟨p0, p1⟩ := cell_new2Vers w (.int .i64 now) (.slice A n c) 39
  clear hr hn hk
  refine callsIn_of_wp_marks Try.func46 rfl trivial ?_ rfl
  simp only [Try.ntmps46, List.size_toArray, List.length_cons, List.length_nil, Nat.reduceAdd, Nat.reduceSub, Array.replicate_succ, Array.replicate_zero, List.push_toArray, List.append_toArray, List.nil_append, List.cons_append]
  gi_wp2_with fail
  refine ⟨trivial, (callsIn_wide.2 (implVersOk now A n c l _ (HR.out.on b0) HK.out HN.out)).mono ?_⟩
  rintro e w1 ⟨rfl, hb1⟩
  replace p0 := keepC hb1 p0
  replace p1 := keepC hb1 p1
  have b1 := bel_trans b0 hb1
  clear b0 hb1
  cases hok : versOk now l
  · have HA := Lib.hid (atRes_bad (t := t) hok)
    clear hok
    gi_wp2_with fail
    exact leaves_marks (B := w.heap.size) [] _ b1.size (Marks.nil _ _) (fun W' hW' => ⟨.slice none 0 0, res46 rfl _ _, _, rfl, by rw [HA.out]; exact Own.nil _ _, b1.trans hW'⟩)
  · by_cases h0 : t < 0
    · have HA := Lib.hid (atRes_out (now := now) (l := l) (t := t) (.inl h0))
      clear hok
      gi_wp2_with fail
      exact leaves_marks (B := w.heap.size) [] _ b1.size (Marks.nil _ _) (fun W' hW' => ⟨.slice none 0 0, res46 rfl _ _, _, rfl, by rw [HA.out]; exact Own.nil _ _, b1.trans hW'⟩)
    · by_cases h1 : now < t
      · have HA := Lib.hid (atRes_out (now := now) (l := l) (t := t) (.inr h1))
        clear hok
        gi_wp2_with fail
        exact leaves_marks (B := w.heap.size) [] _ b1.size (Marks.nil _ _) (fun W' hW' => ⟨.slice none 0 0, res46 rfl _ _, _, rfl, by rw [HA.out]; exact Own.nil _ _, b1.trans hW'⟩)
      · have h0' : 0 ≤ t := by omega
        have h1' : t ≤ now := by omega
        have HA := Lib.hid (atRes_ok hok h0' h1')
        clear hok h0 h1
        have hvl := visL_len l t
        rw [HL.out] at hvl
        have hn2 := HN.out
        have hba := bel_alloc (Below.refl _ w1) (.cells #[.slice none 0 0] 59)
        have bO := Boxed.new w1 59 (.slice none 0 0)
        have r0 := keepC hba p0
        have r1 := keepC hba p1
        have hwz : (w1.alloc (.cells #[.slice none 0 0] 59)).heap.size = w1.heap.size + 1 := by simp
        have HWZ := Lib.hid hwz
        clear hwz
        gi_wp2_with fail
        refine ⟨trivial, (callsIn_wide.2 (snapshot now A n c t _)).mono ?_⟩
        rintro e W2 ⟨rfl, hs2, hcap, hb2⟩
        rw [HWZ.out] at hs2 hcap
        have hbox2 : Boxed W2 w1.heap.size 59 (.slice none 0 0) := (hb2.block _ (by rw [HWZ.out]; omega)).trans bO
        have hb3 := bel_trans hba hb2
        have b2 := bel_trans b1 hb3
        have hz1' := b1.size
        have hz3 := hb3.size
        clear r0 r1 bO p0 p1
        gi_wp2_with fail
        refine wpIn_rangeFunc_box 6 VerBox (fun B x => VerBox.own B x) rfl (by omega) (gf := 133) (lb := #[.pointer (some ⟨w1.heap.size + 1, 0, none⟩), .pointer (some ⟨w1.heap.size + 1 + 1, 0, none⟩)]) rfl trivial (enters_of Try.func133 (by kernel_rfl) rfl)
          (enc := fun x => .agg #[.string x.1, .int .i64 x.2.1, .int .i64 x.2.2.1, .int .i64 x.2.2.2]) (snap_stops 5 (by omega) (w1.heap.size + 1) (w1.heap.size + 1 + 1) w.heap.size A n c l t W2 b2.size (by omega) hs2 hcap (HR.out.keep b2) (by omega))
          (fun h k => h.trans k) (fun X q o o' h1 h2 _ _ => KpV.put (B := W2.heap.size) o' b2.size (by omega) hs2 h1 h2) (Below.refl _ _)
          (fun pre X => (∃ v, Boxed X w1.heap.size 59 v ∧ X.ownsRow W2.heap.size 117 2 v pre.length (cellsOf encRow (rowsOf pre)) ∧ True) ∧ Below w.heap.size w X ∧ W2.heap.size ≤ X.heap.size) (fun _ _ _ => False)
          (OwnFrom.and (Go.Own.from (holdsRow_own W2.heap.size w1.heap.size 59 117 2 (fun pre => pre.length) (fun pre => cellsOf encRow (rowsOf pre)) (fun _ _ => True)) _) (OwnFrom.and (ownFrom_below (Nat.le_refl _) b2.size) (fun s X Y row hs hg hr => Nat.le_trans hs hg.size))) (fun _ _ _ _ _ hs _ _ => hs)
          ⟨⟨_, hbox2, World.ownsRow_nil _ _ _ _, trivial⟩, b2, Nat.le_refl _⟩ ?assign ?body ?done ?stop
        case assign =>
          rintro l0 pre x X K ⟨⟨v, hv, hrow, -⟩, hB, hsz⟩ hK
          gi_wp2_with fail
          exact hK X.heap.size _ ((KeepsOthers.alloc _ _).from _) (KpV.of (bel_alloc (Below.refl _ X) _) (Nat.le_trans b2.size hsz) (by omega) (by omega)) ⟨⟨v, hv.alloc _, hrow.alloc _, trivial⟩, bel_alloc hB _, by simp; omega⟩ (VerBox.new X x)
        case body =>
          rintro l0 pre x Bx X ⟨⟨v, hv, hrow, -⟩, hB, hsz⟩ bX hlt
          obtain ⟨av, cv, rfl⟩ : ∃ a c, v = .slice a pre.length c := by
            rcases hrow.2 with ⟨h, h'⟩ | ⟨g, cap, cur, h, _⟩
            · exact ⟨none, 0, by rw [h, h']⟩
            · exact ⟨_, _, h⟩
          have hc := hv.cell
          have x0 := bX.c0
          have x1 := bX.c1
          have hpl : (pre.length : Int) ≤ 1048576 := by omega
          have HRS := Lib.hid (rowsOf_snoc pre x)
          have HRL := Lib.hid (rowsOf_len pre)
          gi_wp2_with (gi_at_builtin; refine wpListIn_append_own _ rfl _ _ 59 rfl W2.heap.size 117 i0 (.agg #[.string ByteArray.empty, .int .i64 0]) 2 24 Try.underlying59 hi0 hz0 hz1 hz2 rfl (by decide) _ _ _ rfl (hrow.alloc _) ⟨X.heap.size, 0, none⟩ 1 1 [.string x.1, .int .i64 x.2.1] rfl rfl (cell_two_newR _ _ _ _) (by simp [Value.oneCell']) (by unfold maxLen; omega) (by omega) (by simp; omega) ?_; intro v' w1' hown' hgrow _; obtain ⟨g', cap', rfl⟩ := ownsRow_succ hown'; obtain ⟨hv1, hv2, hr2, hk2, hb5⟩ := Boxed.appended2 hv (n₀ := w.heap.size) (g1 := w1.heap.size + 1) (g2 := w1.heap.size + 1 + 1) (by decide) hrow hsz b2.size (by omega) (by omega) hs2 (by omega) (by omega) hown' hgrow; have hc1 := hv1.cell; have hf1 := hv1.frozen)
          refine ⟨hk2.from _, hb5, ⟨_, hv2, ?_, trivial⟩, hB.trans hb5.1, Nat.le_trans hsz hb5.1.size⟩
          have h : Own encRow 2 117 _ W2.heap.size _ (rowsOf pre ++ [(x.1, x.2.1)]) := own_snocR (enc := encRow) (by rw [HRL.out]; exact hr2)
          unfold Own at h
          rw [← HRS.out, rowsOf_len] at h
          exact h
        case done =>
          rintro D ys X hD rfl ⟨⟨v, hv, hrow, -⟩, hB, hsz⟩ hK
          have hc := hv.cell
          have hown : Own encRow 2 117 X W2.heap.size v (atL l t) := by
            unfold Own
            rw [atL_eq, rowsOf_len]
            exact hrow
          have HO := Lib.hid (hown.lower b2.size)
          have HH := Lib.hid hK
          clear hK
          gi_wp2_with fail
          refine ⟨by simp, .inl ⟨_, _, rfl, run_takeDeferred HH.out, ?_⟩⟩
          exact ⟨v, res46 rfl _ _, v, rfl, by rw [HA.out]; exact ownsRow_putObj HO.out _ HH.out rfl, hB.trans (belowK_b (w := W2) b2.size X D _ _ hD HH.out rfl rfl)⟩
        case stop =>
          rintro D c pre X _ _ h _
          exact h.elim
theorem implVersAt (now : Int) (A : Option Addr) (n c : Nat) (l : List Ver) (t : Int) (w : World) (hr : Sl encVer w w.heap.size A n l) (hk : VerSWf l) (hn : n ≤ 1048576) :
    Calls Try.prog 46 #[.agg #[.int .i64 now, .slice A n c], .int .i64 t] w (OwnPost w (atRes now l t)) :=
  callsIn_wide.1 (implVersAtIn now A n c l t w hr hk hn)
end Go.Proofs.Ytpofgidhhcolfaa
