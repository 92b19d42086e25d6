/- FnTalkSame: contracts of what it reaches (PX7 PX2 PX3 PPR PV9 PV10 PPV PX4). No condition. -/
import Derived.Test.YtpmeaikiaoojkaaG03
import Derived.Deep.DeepCutAuto
namespace Go.Proofs.Ytpmeaikiaoojkaa
open Go.RowKit

theorem encWrite_one : ∀ x, ∀ u ∈ encWrite x, u.oneCell' = true := by
  intro x u hu; simp only [encWrite, List.mem_cons, List.not_mem_nil, or_false] at hu
  rcases hu with rfl | rfl | rfl <;> rfl
theorem Sl.turnG {α : Type} {enc : α → List Value} {w w' : World} {n g : Nat} {A : Option Addr} {l : List α} (h : Sl enc w w.heap.size A n l) (ht : Turn (some ⟨g, 0, none⟩) w w') (hne : ∀ x, A = some x → g ≠ x.block) : Sl enc w' w'.heap.size A n l := by
  by_cases hn : n = 0
  · subst hn; rw [h.nil_of]; exact Sl.nil _ _ _ _
  · obtain ⟨b, off, rfl, -⟩ := h.spot (by omega); exact h.far ht (fun x hx => by cases hx; exact hne _ rfl) ht.size
def SmallW (l : List Write) : Prop := ∀ x ∈ l, x.1.size ≤ 3
theorem SmallW.nil : SmallW [] := fun _ h => by cases h
theorem SmallW.take {l : List Write} (h : SmallW l) (k : Nat) : SmallW (l.take k) := fun x hx => h x (List.mem_of_mem_take hx)
theorem SmallW.drop {l : List Write} (h : SmallW l) (k : Nat) : SmallW (l.drop k) := fun x hx => h x (List.mem_of_mem_drop hx)
theorem SmallW.app {l m : List Write} (h : SmallW l) (k : SmallW m) : SmallW (l ++ m) := fun x hx => (List.mem_append.1 hx).elim (h x) (k x)
theorem SmallW.one {x : Write} (h : x.1.size ≤ 3) : SmallW [x] := fun y hy => by rw [List.mem_singleton.1 hy]; exact h
theorem SmallW.wf {l : List Write} (h : SmallW l) : WriteSWf l := fun x hx => Nat.le_trans (h x hx) (by unfold maxLen; omega)
theorem SmallW.mem {l : List Write} (h : SmallW l) {k : Nat} {x : Write} (hk : l[k]? = some x) : x.1.size ≤ 3 := h x (List.mem_of_getElem? hk)
def WritesPost (w : World) (g p : Nat) (A : Option Addr) (m c : Nat) (l : List UInt8) (e : Ending) (w' : World) : Prop :=
  ∃ (B : Option Addr) (cb : Nat) (lw : List Write) (p' : Nat), e = .returned (.slice B lw.length cb) ∧ Own encWrite 3 113 w' w.heap.size (.slice B lw.length cb) lw ∧ lw.length ≤ 6 ∧ SmallW lw ∧ p' ≤ p + 40 ∧ Rd w' g p' A m c l ∧ Turn (some ⟨g, 0, none⟩) w w'
def is2 : List Int := [1, 2, 1, 3, 0, 5]
theorem is2_small : ∀ s ∈ is2, ∃ k : Nat, s = (k : Int) ∧ k ≤ 5 := by
  intro s hs; simp only [is2, List.mem_cons, List.not_mem_nil, or_false] at hs
  exact ⟨s.toNat, by omega, by omega⟩
def WrsRel (w : World) (g p : Nat) (A : Option Addr) (m c : Nat) (l : List UInt8) (o i : Value) (wr : World) : Prop :=
  ∃ (k p' : Nat) (lw : List Write) (d cb : Nat), i = .int .i64 (k : Int) ∧ k ≤ 5 ∧ o = .slice (some ⟨d, 0, none⟩) lw.length cb ∧ Own encWrite 3 113 wr w.heap.size (.slice (some ⟨d, 0, none⟩) lw.length cb) lw ∧ lw.length + k ≤ 5 ∧ SmallW lw ∧ p' + 7 * k ≤ p + 36 ∧ Rd wr g p' A m c l ∧ Turn (some ⟨g, 0, none⟩) w wr
def WiRel (w : World) (g p B7 : Nat) (A : Option Addr) (m c : Nat) (l : List UInt8) (d cb : Nat) (lw : List Write) (key : ByteArray) (num : Int) (gone : Bool) (v8 : Value) (wr : World) : Prop :=
  ∃ kk : Nat, kk ≤ lw.length ∧ v8 = .int .i64 (kk : Int) ∧ Own encWrite 3 113 wr w.heap.size (.slice (some ⟨d, 0, none⟩) lw.length cb) lw ∧ BoxC wr B7 113 #[.string key, .int .i64 num, .bool gone] ∧ Rd wr g p A m c l ∧ Turn (some ⟨g, 0, none⟩) w wr
theorem Turn.drewN {A : Option Addr} {w w' : World} (h : Turn A w w') (k : Nat) : Turn A w (w'.drewN k) := ⟨h.os, h.tape, h.output, h.size, h.block⟩
theorem Rd.drewN {w : World} {g p : Nat} {A : Option Addr} {m c : Nat} {l : List UInt8} (h : Rd w g p A m c l) (k : Nat) : Rd (w.drewN k) g p A m c l := h
theorem BoxC.drewN {w : World} {B : Nat} {t : TypeId} {cs : Array Value} (h : BoxC w B t cs) (k : Nat) : BoxC (w.drewN k) B t cs := h
theorem Turn.drew {A : Option Addr} {w w' : World} (h : Turn A w w') : Turn A w w'.drew := ⟨h.os, h.tape, h.output, h.size, h.block⟩

set_option maxHeartbeats 4000000 in
set_option maxRecDepth 100000 in
theorem l2Writes (g p : Nat) (A : Option Addr) (m c : Nat) (l : List UInt8) (B : Option Addr) (n cb : Nat) (lr : List Row) (w : World) (hrd : Rd w g p A m c l) (hp : p ≤ 10000)
    (hs : Sl encRow w w.heap.size B n lr) (hn : n ≤ 1000) (hne : ∀ x, B = some x → g ≠ x.block) (hsm : ∀ r ∈ lr, r.1.size ≤ 3) :
    Calls Try.prog 73 #[.pointer (some ⟨g, 0, none⟩), .slice B n cb] w (WritesPost w g p A m c l) := by
  obtain ⟨i0, hi0, hz0, hz1, hz2⟩ := info_parts info113; have HP := Lib.hid hp; have HS := Lib.hid hs; have HN := Lib.hid hn; have HNE := Lib.hid hne; have HSM := Lib.hid hsm; have hg := hrd.lt; clear hp hs hn hne hsm; go_enter Try.func73, Try.ntmps73; go_wp2_with fail; have r1 := (hrd.on (bel_alloc (Below.refl _ w) (.cells #[] 113))); have r2 := r1.on (bel_alloc (Below.refl _ (w.alloc (.cells #[] 113))) (.cells #[.int .i64 1, .int .i64 2, .int .i64 1, .int .i64 3, .int .i64 0, .int .i64 5] 3)); have o1 := Own.alloc (Own.made0 (enc := encWrite) (sz := 3) (e := 113) w (Nat.le_refl w.heap.size)) (.cells #[.int .i64 1, .int .i64 2, .int .i64 1, .int .i64 3, .int .i64 0, .int .i64 5] 3); refine (numC g p 6 6 (w.heap.size + 1) 0 A m c l is2 _ r2 (by have := HP.out; omega) (by have := Sl.lit (enc := encI) (w.alloc (.cells #[] 113)) #[.int .i64 1, .int .i64 2, .int .i64 1, .int .i64 3, .int .i64 0, .int .i64 5] 3 is2 rfl 6 rfl; simpa using this) (by omega) (by omega) (by omega)).mono ?_; rintro e w1 ⟨s, rfl, hs, hr3, ht3⟩; obtain ⟨k0, rfl, hk0⟩ := is2_small s hs; have o2 := o1.farRd ht3 hg; have t1 : Turn (some ⟨g, 0, none⟩) w w1 := (((Turn.refl _ w).alloc _).alloc _).trans ht3; clear r1 r2 o1 ht3 hs hrd; go_wp2
  go_loopw [5, 6] (WrsRel w g p A m c l) (fun _ i _ => (intOf i).toNat)
  case atStart => exact ⟨k0, p + 1, [], w.heap.size, 0, rfl, hk0, rfl, o2, by simpa using hk0, SmallW.nil, by omega, hr3, t1⟩
  case round =>
    obtain ⟨k, p', lw, d, cb, rfl, hk, rfl, ho, hlk, hSm, hp', hr, ht⟩ := hrel; clear o2 t1 hr3 hk0
    by_cases hk1 : 0 < k
    · have HP3 := Lib.hid hp'; have HLK := Lib.hid hlk; have HSW := Lib.hid hSm; have HK := Lib.hid hk; clear hp' hlk hSm hk; go_wp2_with fail; refine (l1Near g p' A m c l B n _ lr wr hr (by have := HP3.out; have := HP.out; omega) (HS.out.turnG ht HNE.out) HN.out HNE.out HSM.out).mono ?_; rintro e w2 ⟨key, pn, rfl, hkey, hp2, hr2, ht2⟩; have HKey := Lib.hid hkey; have HP4 := Lib.hid hp2; have o3 := ho.farRd ht2 hg; have t3 := ht.trans ht2; clear ho hr ht ht2 hkey hp2; go_wp2_with fail; refine (l1Value g pn A m c l w2 hr2 (by have := HP4.out; have := HP3.out; have := HP.out; omega)).mono ?_; rintro e w3 ⟨num, rfl, -, hr3, ht3⟩; have o4 := o3.farRd ht3 hg; have t4 := t3.trans ht3; clear o3 hr2 t3 ht3; go_wp2_with fail; have hr4 := hr3.on (bel_alloc (Below.refl _ w3) (.cells #[.string key, .int .i64 num, .bool false] 113)); have x4 := BoxC.new w3 113 #[.string key, .int .i64 num, .bool false]; have o5 := o4.alloc (.cells #[.string key, .int .i64 num, .bool false] 113); have t5 := t4.alloc (.cells #[.string key, .int .i64 num, .bool false] 113); have hgB := hr3.lt; have hdB : d < w3.heap.size := (o4.block rfl).2.1; obtain ⟨B7, hB7⟩ : ∃ B7, w3.heap.size = B7 := ⟨_, rfl⟩; rw [hB7] at x4 hgB hdB; clear hr3 o4 t4; refine (pick g (pn + 2) 4 A m c l _ hr4 (by omega) (by omega) (by have := HP4.out; have := HP3.out; have := HP.out; omega)).mono ?_; rintro e w5 ⟨v, rfl, hv, hr5, ht5⟩; have x5 := x4.turn ht5 (fun x hx => by cases hx; simp only; omega); have o6 := o5.farRd ht5 hg; have t6 := t5.trans ht5; have hwB : w.heap.size ≤ B7 := by have h : w.heap.size ≤ d := (o5.block rfl).1; omega
      clear x4 o5 t5 hr4 ht5; obtain ⟨p0, p1, p2⟩ := x5.k3; have f0 := x5.f 0; have f1 := x5.f 1; have f2 := x5.f 2
      go_upto_if 27 with fail
      go_cut [] (fun wx => ∃ num gone, BoxC wx B7 113 #[.string key, .int .i64 num, .bool gone] ∧ Own encWrite 3 113 wx w.heap.size (.slice (some ⟨d, 0, none⟩) lw.length cb) lw ∧ Rd wx g (pn + 2 + 1) A m c l ∧ Turn (some ⟨g, 0, none⟩) w wx)
      case first =>
        by_cases hv0 : v = 0
        · subst hv0; go_wp2_with fail
          go_meet
          have tB := (((Turn.refl (some ⟨B7, 0, none⟩) w5).set 0 (.string key)).set 1 (.int .i64 0)).set 2 (.bool true); have x6 := ((x5.set 0 (.string key)).set 1 (.int .i64 0)).set 2 (.bool true); have o7 := o6.far tB (fun x y hx hy => by cases hx; cases hy; simp only; omega); have r7 := hr5.keep ((((Below.refl (g + 1) w5).setCell (p := ⟨B7, 0, none⟩) (by simp only; omega) (.string key)).setCell (p := ⟨B7, 1, none⟩) (by simp only; omega) (.int .i64 0)).setCell (p := ⟨B7, 2, none⟩) (by simp only; omega) (.bool true)) (Nat.lt_succ_self g); have t7 := ((t6.setOwn (o := 0) hwB (.string key)).setOwn (o := 1) hwB (.int .i64 0)).setOwn (o := 2) hwB (.bool true); exact ⟨0, true, x6, o7, r7, t7⟩
        · have hv1 : ((v : Int) == 0) = false := by simp; omega
          go_wp2_with fail
          go_meet
          exact ⟨num, false, x5, o6, hr5, t6⟩
      case rest =>
      obtain ⟨num, gone, x6, o7, r7, t7⟩ := hcut; clear x5 o6 hr5 t6 p0 p1 p2 f0 f1 f2; go_wp2_with fail
      go_loopw [8] (WiRel w g (pn + 2 + 1) B7 A m c l d cb lw key num gone) (fun v8 _ => lw.length - (intOf v8).toNat)
      case atStart => exact ⟨0, Nat.zero_le _, rfl, o7, x6, r7, t7⟩
      case round =>
        clear x6 o7 r7 t7; obtain ⟨kk, hkk, rfl, hoi, xi, hri, hti⟩ := hrel; obtain ⟨q0, q1, q2⟩ := xi.k3; have i0' : (0 : Int) ≤ (kk : Int) := by omega
        have hll : lw.length ≤ 5 := by have := HLK.out; omega
        have hk5 : k ≤ 5 := HK.out
        by_cases hlt : kk < lw.length
        · obtain ⟨key2, num2, gone2, hrow, e0, e1, e2⟩ := atWrite hoi.sl hlt; simp only [Nat.zero_add] at e0 e1 e2
          have i1 : (kk : Int) < (lw.length : Int) := by omega
          clear hrow; cases hq : Wx.klt key2 key
          all_goals
            have hq' : Op.bytesLess key2.toList key.toList = _ := hq; clear hq
          · go_wp2_with fail
            go_quiet (fail)
            go_wp2_with fail
            go_cut [60] (fun v60 wx => ∃ b, v60 = .bool b ∧ Own encWrite 3 113 wx w.heap.size (.slice (some ⟨d, 0, none⟩) lw.length cb) lw ∧ BoxC wx B7 113 #[.string key, .int .i64 num, .bool gone] ∧ Rd wx g (pn + 2 + 1) A m c l ∧ Turn (some ⟨g, 0, none⟩) w wx)
            case first =>
              cases hk : (key2.toList == key.toList)
              all_goals
                go_quiet (fail)
                go_wp2_with fail
                go_meet
                exact ⟨_, rfl, (hoi.drewN _).drewN _, (xi.drewN _).drewN _, (hri.drewN _).drewN _, (hti.drewN _).drewN _⟩
            case rest =>
            obtain ⟨b, rfl, oj, xj, rj, tj⟩ := hcut; clear hoi xi hri hti; cases b
            · go_upto_region 12 with fail; have HC : lw.length ≤ cb := by obtain ⟨A', c', h1, h2, h3⟩ := oj.form; injection h1 with _ _ h4; omega
              have j1 : (kk : Int) ≤ (lw.length : Int) := by omega
              have j2 : (kk : Int) ≤ (cb : Int) := by omega
              have j3 : (lw.length : Int) ≤ (cb : Int) := by omega
              have om := Own.made0 (enc := encWrite) (sz := 3) (e := 113) wc (Nat.le_refl wc.heap.size); have rs := ((oj.alloc (.cells #[] 113)).sl).rest encWrite_len hkk HC; simp only [Nat.zero_add] at rs
              go_cut [9] (fun v9 wx => ∃ A9 c9, v9 = .slice A9 (lw.length - kk) c9 ∧ Own encWrite 3 113 wx w.heap.size (.slice A9 (lw.length - kk) c9) (lw.drop kk) ∧ Own encWrite 3 113 wx w.heap.size (.slice (some ⟨d, 0, none⟩) lw.length cb) lw ∧ BoxC wx B7 113 #[.string key, .int .i64 num, .bool gone] ∧ Rd wx g (pn + 2 + 1) A m c l ∧ Turn (some ⟨g, 0, none⟩) w wx)
              case first =>
                by_cases hcb : cb = kk
                · rw [if_pos hcb] at rs; subst hcb; rw [show lw.length - cb = 0 by omega] at rs; go_wp2_with (at_builtin; refine wpList_append_sl _ rfl _ _ 48 rfl wc.heap.size 113 i0 _ 3 32 Try.underlying48 hi0 hz0 hz1 hz2 rfl (by decide) encWrite_len encWrite_one _ [] rfl om _ (some ⟨d, 0, none⟩) 0 0 (lw.drop cb) rfl rs (by unfold maxLen; simp) (by simp) (by simp) ?_; intro v9 w9 o9 g9)
                  all_goals
                    go_meet
                    simp only [List.nil_append] at o9
                    obtain ⟨A9, c9, rfl, -, -⟩ := o9.form; rw [show (lw.drop cb).length = lw.length - cb by rw [List.length_drop]] at o9 ⊢; have b9 := bel_grown (bel_alloc (Below.refl _ wc) (.cells #[] 113)) g9 (fun k hk => (World.ownsRow.lt om k hk).1); exact ⟨A9, c9, rfl, o9.lower tj.size, oj.on b9, xj.on b9, rj.on b9, tj.below b9⟩
                · rw [if_neg hcb] at rs; go_wp2_with (at_builtin; refine wpList_append_sl _ rfl _ _ 48 rfl wc.heap.size 113 i0 _ 3 32 Try.underlying48 hi0 hz0 hz1 hz2 rfl (by decide) encWrite_len encWrite_one _ [] rfl om _ (some ⟨d, kk * 3, none⟩) (lw.length - kk) (cb - kk) (lw.drop kk) rfl rs (by unfold maxLen; simp; omega) (by simp; omega) (by simp) ?_; intro v9 w9 o9 g9)
                  go_meet
                  simp only [List.nil_append] at o9
                  obtain ⟨A9, c9, rfl, -, -⟩ := o9.form; rw [show (lw.drop kk).length = lw.length - kk by rw [List.length_drop]] at o9 ⊢; have b9 := bel_grown (bel_alloc (Below.refl _ wc) (.cells #[] 113)) g9 (fun k hk => (World.ownsRow.lt om k hk).1); exact ⟨A9, c9, rfl, o9.lower tj.size, oj.on b9, xj.on b9, rj.on b9, tj.below b9⟩
              case rest =>
              clear om rs oj xj rj tj; obtain ⟨A9, c9, rfl, ot, oj, xj, rj, tj⟩ := hcut; go_upto_region 13 with fail; have hlt1 : (lw.take kk).length = kk := by rw [List.length_take]; omega
              have hld : (lw.drop kk).length = lw.length - kk := by rw [List.length_drop]
              have HS1 := Lib.hid (show ([] : List Write).length + kk ≤ maxLen by unfold maxLen; simp; omega); have HS2 := Lib.hid (show (([] : List Write).length + kk) * 32 ≤ 140737488355328 by simp; omega); have HS3 := Lib.hid (show ([] ++ lw.take kk).length + 1 ≤ maxLen by unfold maxLen; rw [List.nil_append, hlt1]; omega); have HS4 := Lib.hid (show (([] ++ lw.take kk).length + 1) * 32 ≤ 140737488355328 by rw [List.nil_append, hlt1]; omega); have HS5 := Lib.hid (show ([] ++ lw.take kk ++ [(key, num, gone)]).length + (lw.length - kk) ≤ maxLen by unfold maxLen; rw [List.nil_append, List.length_append, hlt1]; simp; omega); have HS6 := Lib.hid (show (([] ++ lw.take kk ++ [(key, num, gone)]).length + (lw.length - kk)) * 32 ≤ 140737488355328 by rw [List.nil_append, List.length_append, hlt1]; simp; omega); have HLN := Lib.hid (show ([] ++ lw.take kk ++ [(key, num, gone)] ++ lw.drop kk).length = lw.length + 1 by rw [List.nil_append, List.length_append, List.length_append, hlt1, hld]; simp; omega); have HSN := Lib.hid (show SmallW ([] ++ lw.take kk ++ [(key, num, gone)] ++ lw.drop kk) by rw [List.nil_append]; exact ((HSW.out.take kk).app (SmallW.one HKey.out)).app (HSW.out.drop kk)); clear hlt1 hld; have OMa := Lib.hid (Own.made0 (enc := encWrite) (sz := 3) (e := 113) wc (Nat.le_refl wc.heap.size)).drew; have OMb := Lib.hid ((Own.made0 (enc := encWrite) (sz := 3) (e := 113) wc (Nat.le_refl wc.heap.size)).alloc (.cells #[.string key, .int .i64 num, .bool gone] 113)).drew; have OMc := Lib.hid (show Own encWrite 3 113 ((wc.alloc (.cells #[.string key, .int .i64 num, .bool gone] 113)).alloc (.cells #[] 113)).drew wc.heap.size (.slice (some ⟨wc.heap.size + 1, 0, none⟩) 0 0) ([] : List Write) by have := Own.made0 (enc := encWrite) (sz := 3) (e := 113) (base := wc.heap.size) (wc.alloc (.cells #[.string key, .int .i64 num, .bool gone] 113)) (by simp); rw [World.size_alloc] at this; exact this.drew); have SAa := Lib.hid (((oj.alloc (.cells #[] 113)).drew.sl).head encWrite_len hkk); have SAb := Lib.hid ((((oj.alloc (.cells #[] 113)).alloc (.cells #[.string key, .int .i64 num, .bool gone] 113)).drew.sl).head encWrite_len hkk); have SAc := Lib.hid ((((oj.alloc (.cells #[.string key, .int .i64 num, .bool gone] 113)).alloc (.cells #[] 113)).drew.sl).head encWrite_len hkk); have BAa := Lib.hid (bel_alloc (Below.refl wc.heap.size wc) (.cells #[] 113)).drew; have BAb := Lib.hid (bel_alloc (bel_alloc (Below.refl wc.heap.size wc) (.cells #[] 113)) (.cells #[.string key, .int .i64 num, .bool gone] 113)).drew; have BAc := Lib.hid (bel_alloc (bel_alloc (Below.refl wc.heap.size wc) (.cells #[.string key, .int .i64 num, .bool gone] 113)) (.cells #[] 113)).drew; have LTb := Lib.hid (show Sl encWrite ((wc.alloc (.cells #[] 113)).alloc (.cells #[.string key, .int .i64 num, .bool gone] 113)).drew ((wc.alloc (.cells #[] 113)).alloc (.cells #[.string key, .int .i64 num, .bool gone] 113)).drew.heap.size (some ⟨wc.heap.size + 1, 0, none⟩) 1 [(key, num, gone)] by have h := Sl.lit1 (enc := encWrite) (wc.alloc (.cells #[] 113)) #[.string key, .int .i64 num, .bool gone] 113 (key, num, gone) rfl; rw [World.size_alloc wc] at h; exact h)
              have LTc := Lib.hid (show Sl encWrite ((wc.alloc (.cells #[.string key, .int .i64 num, .bool gone] 113)).alloc (.cells #[] 113)).drew ((wc.alloc (.cells #[.string key, .int .i64 num, .bool gone] 113)).alloc (.cells #[] 113)).drew.heap.size (some ⟨wc.heap.size, 0, none⟩) 1 [(key, num, gone)] by have h := Sl.lit1 (enc := encWrite) wc #[.string key, .int .i64 num, .bool gone] 113 (key, num, gone) rfl; have h2 := (h.keep (bel_alloc (Below.refl _ _) (.cells #[] 113))).more (B' := ((wc.alloc (.cells #[.string key, .int .i64 num, .bool gone] 113)).alloc (.cells #[] 113)).heap.size) (by simp); exact h2); have hzB := xj.lt; have n0 := World.new_ne wc _ (xj.c (k := 0) rfl); have n1 := World.new_ne wc _ (xj.c (k := 1) rfl); have n2 := World.new_ne wc _ (xj.c (k := 2) rfl); obtain ⟨m0, m1, m2⟩ := xj.k3
              go_cut [10] (fun v10 wx => ∃ d' c' N, N.length = lw.length + 1 ∧ SmallW N ∧ v10 = .slice (some ⟨d', 0, none⟩) N.length c' ∧ Own encWrite 3 113 wx w.heap.size (.slice (some ⟨d', 0, none⟩) N.length c') N ∧ Own encWrite 3 113 wx w.heap.size (.slice (some ⟨d, 0, none⟩) lw.length cb) lw ∧ Rd wx g (pn + 2 + 1) A m c l ∧ Turn (some ⟨g, 0, none⟩) w wx)
              case first =>
                go_region_law (first
                  | (refine step_append_sl _ (by rfl) (.tmp 66) (.tmp 69) 48 (by rfl) wc.heap.size 113 i0 _ 3 32 Try.underlying48 hi0 hz0 hz1 hz2 rfl (by decide) encWrite_len encWrite_one _ [] (by rfl) OMa.out _ (some ⟨d, 0, none⟩) kk cb (lw.take kk) (by rfl) SAa.out HS1.out HS2.out BAa.out.size ?_; intro v7 w7 o7 g7; have b7 := bel_grown BAa.out g7 (fun k hk => (World.ownsRow.lt OMa.out k hk).1); have x7 := xj.on b7; obtain ⟨q70, q71, q72⟩ := x7.k3; have z7 := b7.size)
                  | (refine step_append_sl _ (by rfl) (.tmp 66) (.tmp 69) 48 (by rfl) wc.heap.size 113 i0 _ 3 32 Try.underlying48 hi0 hz0 hz1 hz2 rfl (by decide) encWrite_len encWrite_one _ [] (by rfl) OMb.out _ (some ⟨d, 0, none⟩) kk cb (lw.take kk) (by rfl) SAb.out HS1.out HS2.out BAb.out.size ?_; intro v7 w7 o7 g7; have b7 := bel_grown BAb.out g7 (fun k hk => (World.ownsRow.lt OMb.out k hk).1); have x7 := xj.on b7; obtain ⟨q70, q71, q72⟩ := x7.k3; have z7 := b7.size; have l7 := LTb.out.far (A := some ⟨wc.heap.size, 0, none⟩) (show Turn _ _ w7 from g7) (fun x hx => by cases hx; simp) (Nat.le_refl _))
                  | (refine step_append_sl _ (by rfl) (.tmp 66) (.tmp 69) 48 (by rfl) wc.heap.size 113 i0 _ 3 32 Try.underlying48 hi0 hz0 hz1 hz2 rfl (by decide) encWrite_len encWrite_one _ [] (by rfl) OMc.out _ (some ⟨d, 0, none⟩) kk cb (lw.take kk) (by rfl) SAc.out HS1.out HS2.out BAc.out.size ?_; intro v7 w7 o7 g7; have b7 := bel_grown BAc.out g7 (fun k hk => (World.ownsRow.lt OMc.out k hk).1); have x7 := xj.on b7; obtain ⟨q70, q71, q72⟩ := x7.k3; have z7 := b7.size; have l7 := LTc.out.far (A := some ⟨wc.heap.size + 1, 0, none⟩) (show Turn _ _ w7 from g7) (fun x hx => by cases hx; simp) (Nat.le_refl _))
                  | (refine step_append_sl _ (by rfl) (.tmp 70) (.tmp 72) 48 (by rfl) wc.heap.size 113 i0 _ 3 32 Try.underlying48 hi0 hz0 hz1 hz2 rfl (by decide) encWrite_len encWrite_one _ _ (by rfl) (Own.alloc o7 (.cells #[.string key, .int .i64 num, .bool gone] 113)) _ (some ⟨w7.heap.size, 0, none⟩) 1 1 [(key, num, gone)] (by rfl) (Sl.lit1 (enc := encWrite) w7 #[.string key, .int .i64 num, .bool gone] 113 (key, num, gone) rfl) HS3.out HS4.out (by first | exact z7 | (rw [World.size_alloc]; omega)) ?_; intro v8 w8 o8 g8; have b8 := bel_grown (bel_alloc b7 (.cells #[.string key, .int .i64 num, .bool gone] 113)) g8 (fun k hk => (World.ownsRow.lt o7 k hk).1); have ot8 := ot.on b8; have z8 := b8.size)
                  | (refine step_append_sl _ (by rfl) (.tmp 70) (.tmp 72) 48 (by rfl) wc.heap.size 113 i0 _ 3 32 Try.underlying48 hi0 hz0 hz1 hz2 rfl (by decide) encWrite_len encWrite_one _ _ (by rfl) o7 _ (some ⟨wc.heap.size + 1, 0, none⟩) 1 1 [(key, num, gone)] (by rfl) l7 HS3.out HS4.out (by first | exact z7 | (rw [World.size_alloc]; omega)) ?_; intro v8 w8 o8 g8; have b8 := bel_grown b7 g8 (fun k hk => (World.ownsRow.lt o7 k hk).1); have ot8 := ot.on b8; have z8 := b8.size)
                  | (refine step_append_sl _ (by rfl) (.tmp 70) (.tmp 72) 48 (by rfl) wc.heap.size 113 i0 _ 3 32 Try.underlying48 hi0 hz0 hz1 hz2 rfl (by decide) encWrite_len encWrite_one _ _ (by rfl) o7 _ (some ⟨wc.heap.size, 0, none⟩) 1 1 [(key, num, gone)] (by rfl) l7 HS3.out HS4.out (by first | exact z7 | (rw [World.size_alloc]; omega)) ?_; intro v8 w8 o8 g8; have b8 := bel_grown b7 g8 (fun k hk => (World.ownsRow.lt o7 k hk).1); have ot8 := ot.on b8; have z8 := b8.size)
                  | (refine step_append_sl _ (by rfl) (.tmp 73) (.tmp 74) 48 (by rfl) wc.heap.size 113 i0 _ 3 32 Try.underlying48 hi0 hz0 hz1 hz2 rfl (by decide) encWrite_len encWrite_one _ _ (by rfl) o8 _ A9 (lw.length - kk) c9 (lw.drop kk) (by rfl) ot8.sl HS5.out HS6.out z8 ?_; intro v9 w9 o9 g9; have b9 := bel_grown b8 g9 (fun k hk => (World.ownsRow.lt o8 k hk).1)))
                all_goals
                  go_wp2_with fail
                  go_meet
                  obtain ⟨A', c', rfl, -, -⟩ := o9.form; obtain ⟨d', rfl⟩ := o9.zero (k := 0) (by have := HLN.out; omega); exact ⟨d', c', _, HLN.out, HSN.out, rfl, o9.lower tj.size, oj.on b9, rj.on b9, tj.below b9⟩
              case rest =>
              clear ot oj rj tj; obtain ⟨d', c', N, hNl, hNs, rfl, on, oj, rj, tj⟩ := hcut; clear xj; have HNl := Lib.hid hNl; have HlN := Lib.hid (show N.length ≤ 5 by have := HLK.out; omega); clear hNl; cases hok : Wx.writesOk 6 N
              all_goals
                have HOK := Lib.hid hok; clear hok; go_wp2_with fail; refine (Wx.specWritesOk (some ⟨d', 0, none⟩) N.length c' N wc on.sl hNs.wf (by have := HlN.out; omega)).mono ?_; rintro e wd ⟨rfl, hbd⟩; rw [HOK.out]; have on2 := on.on hbd; have oj2 := oj.on hbd; have rj2 := rj.on hbd; have tj2 := tj.below hbd; clear on oj rj tj
              · go_wp2_with fail; refine (pick g (pn + 2 + 1) 20 A m c l wd rj2 (by omega) (by omega) (by have := HP4.out; have := HP3.out; have := HP.out; omega)).mono ?_; rintro e we ⟨v2, rfl, hv2, hre, hte⟩; have on3 := on2.farRd hte hg; have oj3 := oj2.farRd hte hg; have tj3 := tj2.trans hte; clear on2 oj2 rj2 tj2 hte
                by_cases hv3 : v2 = 0
                · subst hv3; go_wp2_with fail; go_roundw
                  case rel => exact ⟨k - 1, pn + 2 + 1 + 1, N, d', c', by rw [show ((k - 1 : Nat) : Int) = (k : Int) - 1 by omega], by have := HK.out; omega, rfl, on3, by have := HLK.out; have := HNl.out; omega, hNs, by have := HP3.out; have := HP4.out; omega, hre, tj3⟩
                  case measure => simp [intOf]; omega
                · have hv4 : ((v2 : Int) == 0) = false := by simp; omega
                  go_wp2_with fail; go_roundw
                  case rel => exact ⟨k - 1, pn + 2 + 1 + 1, lw, d, cb, by rw [show ((k - 1 : Nat) : Int) = (k : Int) - 1 by omega], by have := HK.out; omega, rfl, oj3, by have := HLK.out; omega, HSW.out, by have := HP3.out; have := HP4.out; omega, hre, tj3⟩
                  case measure => simp [intOf]; omega
              · go_wp2_with fail; go_roundw
                case rel => exact ⟨k - 1, pn + 2 + 1, N, d', c', by rw [show ((k - 1 : Nat) : Int) = (k : Int) - 1 by omega], by have := HK.out; omega, rfl, on2, by have := HLK.out; have := HNl.out; omega, hNs, by have := HP3.out; have := HP4.out; omega, rj2, tj2⟩
                case measure => simp [intOf]; omega
            · go_wp2_with fail; go_roundw
              case rel => exact ⟨k - 1, pn + 2 + 1, lw, d, cb, by rw [show ((k - 1 : Nat) : Int) = (k : Int) - 1 by omega], by have := HK.out; omega, rfl, oj, by have := HLK.out; omega, HSW.out, by have := HP3.out; have := HP4.out; omega, rj, tj⟩
              case measure => simp [intOf]; omega
          · go_wp2_with fail
            go_quiet (fail)
            go_wp2_with fail; exact ⟨⟨kk + 1, by omega, by simp, hoi.drewN _, xi.drewN _, hri.drewN _, hti.drewN _⟩, by simp [intOf]; omega⟩
        · have i1 : ¬ (kk : Int) < (lw.length : Int) := by omega
          go_wp2_with fail
          go_quiet (fail)
          go_wp2_with fail
          go_cut [60] (fun v60 wx => ∃ b, v60 = .bool b ∧ Own encWrite 3 113 wx w.heap.size (.slice (some ⟨d, 0, none⟩) lw.length cb) lw ∧ BoxC wx B7 113 #[.string key, .int .i64 num, .bool gone] ∧ Rd wx g (pn + 2 + 1) A m c l ∧ Turn (some ⟨g, 0, none⟩) w wx)
          case first =>
            go_quiet (fail)
            go_wp2_with fail
            go_meet
            exact ⟨_, rfl, (hoi.drewN _).drewN _, (xi.drewN _).drewN _, (hri.drewN _).drewN _, (hti.drewN _).drewN _⟩
          case rest =>
          obtain ⟨b, rfl, oj, xj, rj, tj⟩ := hcut; clear hoi xi hri hti; cases b
          · go_upto_region 12 with fail; have HC : lw.length ≤ cb := by obtain ⟨A', c', h1, h2, h3⟩ := oj.form; injection h1 with _ _ h4; omega
            have j1 : (kk : Int) ≤ (lw.length : Int) := by omega
            have j2 : (kk : Int) ≤ (cb : Int) := by omega
            have j3 : (lw.length : Int) ≤ (cb : Int) := by omega
            have om := Own.made0 (enc := encWrite) (sz := 3) (e := 113) wc (Nat.le_refl wc.heap.size); have rs := ((oj.alloc (.cells #[] 113)).sl).rest encWrite_len hkk HC; simp only [Nat.zero_add] at rs
            go_cut [9] (fun v9 wx => ∃ A9 c9, v9 = .slice A9 (lw.length - kk) c9 ∧ Own encWrite 3 113 wx w.heap.size (.slice A9 (lw.length - kk) c9) (lw.drop kk) ∧ Own encWrite 3 113 wx w.heap.size (.slice (some ⟨d, 0, none⟩) lw.length cb) lw ∧ BoxC wx B7 113 #[.string key, .int .i64 num, .bool gone] ∧ Rd wx g (pn + 2 + 1) A m c l ∧ Turn (some ⟨g, 0, none⟩) w wx)
            case first =>
              by_cases hcb : cb = kk
              · rw [if_pos hcb] at rs; subst hcb; rw [show lw.length - cb = 0 by omega] at rs; go_wp2_with (at_builtin; refine wpList_append_sl _ rfl _ _ 48 rfl wc.heap.size 113 i0 _ 3 32 Try.underlying48 hi0 hz0 hz1 hz2 rfl (by decide) encWrite_len encWrite_one _ [] rfl om _ (some ⟨d, 0, none⟩) 0 0 (lw.drop cb) rfl rs (by unfold maxLen; simp) (by simp) (by simp) ?_; intro v9 w9 o9 g9)
                all_goals
                  go_meet
                  simp only [List.nil_append] at o9
                  obtain ⟨A9, c9, rfl, -, -⟩ := o9.form; rw [show (lw.drop cb).length = lw.length - cb by rw [List.length_drop]] at o9 ⊢; have b9 := bel_grown (bel_alloc (Below.refl _ wc) (.cells #[] 113)) g9 (fun k hk => (World.ownsRow.lt om k hk).1); exact ⟨A9, c9, rfl, o9.lower tj.size, oj.on b9, xj.on b9, rj.on b9, tj.below b9⟩
              · rw [if_neg hcb] at rs; go_wp2_with (at_builtin; refine wpList_append_sl _ rfl _ _ 48 rfl wc.heap.size 113 i0 _ 3 32 Try.underlying48 hi0 hz0 hz1 hz2 rfl (by decide) encWrite_len encWrite_one _ [] rfl om _ (some ⟨d, kk * 3, none⟩) (lw.length - kk) (cb - kk) (lw.drop kk) rfl rs (by unfold maxLen; simp; omega) (by simp; omega) (by simp) ?_; intro v9 w9 o9 g9)
                go_meet
                simp only [List.nil_append] at o9
                obtain ⟨A9, c9, rfl, -, -⟩ := o9.form; rw [show (lw.drop kk).length = lw.length - kk by rw [List.length_drop]] at o9 ⊢; have b9 := bel_grown (bel_alloc (Below.refl _ wc) (.cells #[] 113)) g9 (fun k hk => (World.ownsRow.lt om k hk).1); exact ⟨A9, c9, rfl, o9.lower tj.size, oj.on b9, xj.on b9, rj.on b9, tj.below b9⟩
            case rest =>
            clear om rs oj xj rj tj; obtain ⟨A9, c9, rfl, ot, oj, xj, rj, tj⟩ := hcut; go_upto_region 13 with fail; have hlt1 : (lw.take kk).length = kk := by rw [List.length_take]; omega
            have hld : (lw.drop kk).length = lw.length - kk := by rw [List.length_drop]
            have HS1 := Lib.hid (show ([] : List Write).length + kk ≤ maxLen by unfold maxLen; simp; omega); have HS2 := Lib.hid (show (([] : List Write).length + kk) * 32 ≤ 140737488355328 by simp; omega); have HS3 := Lib.hid (show ([] ++ lw.take kk).length + 1 ≤ maxLen by unfold maxLen; rw [List.nil_append, hlt1]; omega); have HS4 := Lib.hid (show (([] ++ lw.take kk).length + 1) * 32 ≤ 140737488355328 by rw [List.nil_append, hlt1]; omega); have HS5 := Lib.hid (show ([] ++ lw.take kk ++ [(key, num, gone)]).length + (lw.length - kk) ≤ maxLen by unfold maxLen; rw [List.nil_append, List.length_append, hlt1]; simp; omega); have HS6 := Lib.hid (show (([] ++ lw.take kk ++ [(key, num, gone)]).length + (lw.length - kk)) * 32 ≤ 140737488355328 by rw [List.nil_append, List.length_append, hlt1]; simp; omega); have HLN := Lib.hid (show ([] ++ lw.take kk ++ [(key, num, gone)] ++ lw.drop kk).length = lw.length + 1 by rw [List.nil_append, List.length_append, List.length_append, hlt1, hld]; simp; omega); have HSN := Lib.hid (show SmallW ([] ++ lw.take kk ++ [(key, num, gone)] ++ lw.drop kk) by rw [List.nil_append]; exact ((HSW.out.take kk).app (SmallW.one HKey.out)).app (HSW.out.drop kk)); clear hlt1 hld; have OMa := Lib.hid (Own.made0 (enc := encWrite) (sz := 3) (e := 113) wc (Nat.le_refl wc.heap.size)).drew; have OMb := Lib.hid ((Own.made0 (enc := encWrite) (sz := 3) (e := 113) wc (Nat.le_refl wc.heap.size)).alloc (.cells #[.string key, .int .i64 num, .bool gone] 113)).drew; have OMc := Lib.hid (show Own encWrite 3 113 ((wc.alloc (.cells #[.string key, .int .i64 num, .bool gone] 113)).alloc (.cells #[] 113)).drew wc.heap.size (.slice (some ⟨wc.heap.size + 1, 0, none⟩) 0 0) ([] : List Write) by have := Own.made0 (enc := encWrite) (sz := 3) (e := 113) (base := wc.heap.size) (wc.alloc (.cells #[.string key, .int .i64 num, .bool gone] 113)) (by simp); rw [World.size_alloc] at this; exact this.drew); have SAa := Lib.hid (((oj.alloc (.cells #[] 113)).drew.sl).head encWrite_len hkk); have SAb := Lib.hid ((((oj.alloc (.cells #[] 113)).alloc (.cells #[.string key, .int .i64 num, .bool gone] 113)).drew.sl).head encWrite_len hkk); have SAc := Lib.hid ((((oj.alloc (.cells #[.string key, .int .i64 num, .bool gone] 113)).alloc (.cells #[] 113)).drew.sl).head encWrite_len hkk); have BAa := Lib.hid (bel_alloc (Below.refl wc.heap.size wc) (.cells #[] 113)).drew; have BAb := Lib.hid (bel_alloc (bel_alloc (Below.refl wc.heap.size wc) (.cells #[] 113)) (.cells #[.string key, .int .i64 num, .bool gone] 113)).drew; have BAc := Lib.hid (bel_alloc (bel_alloc (Below.refl wc.heap.size wc) (.cells #[.string key, .int .i64 num, .bool gone] 113)) (.cells #[] 113)).drew; have LTb := Lib.hid (show Sl encWrite ((wc.alloc (.cells #[] 113)).alloc (.cells #[.string key, .int .i64 num, .bool gone] 113)).drew ((wc.alloc (.cells #[] 113)).alloc (.cells #[.string key, .int .i64 num, .bool gone] 113)).drew.heap.size (some ⟨wc.heap.size + 1, 0, none⟩) 1 [(key, num, gone)] by have h := Sl.lit1 (enc := encWrite) (wc.alloc (.cells #[] 113)) #[.string key, .int .i64 num, .bool gone] 113 (key, num, gone) rfl; rw [World.size_alloc wc] at h; exact h)
            have LTc := Lib.hid (show Sl encWrite ((wc.alloc (.cells #[.string key, .int .i64 num, .bool gone] 113)).alloc (.cells #[] 113)).drew ((wc.alloc (.cells #[.string key, .int .i64 num, .bool gone] 113)).alloc (.cells #[] 113)).drew.heap.size (some ⟨wc.heap.size, 0, none⟩) 1 [(key, num, gone)] by have h := Sl.lit1 (enc := encWrite) wc #[.string key, .int .i64 num, .bool gone] 113 (key, num, gone) rfl; have h2 := (h.keep (bel_alloc (Below.refl _ _) (.cells #[] 113))).more (B' := ((wc.alloc (.cells #[.string key, .int .i64 num, .bool gone] 113)).alloc (.cells #[] 113)).heap.size) (by simp); exact h2); have hzB := xj.lt; have n0 := World.new_ne wc _ (xj.c (k := 0) rfl); have n1 := World.new_ne wc _ (xj.c (k := 1) rfl); have n2 := World.new_ne wc _ (xj.c (k := 2) rfl); obtain ⟨m0, m1, m2⟩ := xj.k3
            go_cut [10] (fun v10 wx => ∃ d' c' N, N.length = lw.length + 1 ∧ SmallW N ∧ v10 = .slice (some ⟨d', 0, none⟩) N.length c' ∧ Own encWrite 3 113 wx w.heap.size (.slice (some ⟨d', 0, none⟩) N.length c') N ∧ Own encWrite 3 113 wx w.heap.size (.slice (some ⟨d, 0, none⟩) lw.length cb) lw ∧ Rd wx g (pn + 2 + 1) A m c l ∧ Turn (some ⟨g, 0, none⟩) w wx)
            case first =>
              go_region_law (first
                | (refine step_append_sl _ (by rfl) (.tmp 66) (.tmp 69) 48 (by rfl) wc.heap.size 113 i0 _ 3 32 Try.underlying48 hi0 hz0 hz1 hz2 rfl (by decide) encWrite_len encWrite_one _ [] (by rfl) OMa.out _ (some ⟨d, 0, none⟩) kk cb (lw.take kk) (by rfl) SAa.out HS1.out HS2.out BAa.out.size ?_; intro v7 w7 o7 g7; have b7 := bel_grown BAa.out g7 (fun k hk => (World.ownsRow.lt OMa.out k hk).1); have x7 := xj.on b7; obtain ⟨q70, q71, q72⟩ := x7.k3; have z7 := b7.size)
                | (refine step_append_sl _ (by rfl) (.tmp 66) (.tmp 69) 48 (by rfl) wc.heap.size 113 i0 _ 3 32 Try.underlying48 hi0 hz0 hz1 hz2 rfl (by decide) encWrite_len encWrite_one _ [] (by rfl) OMb.out _ (some ⟨d, 0, none⟩) kk cb (lw.take kk) (by rfl) SAb.out HS1.out HS2.out BAb.out.size ?_; intro v7 w7 o7 g7; have b7 := bel_grown BAb.out g7 (fun k hk => (World.ownsRow.lt OMb.out k hk).1); have x7 := xj.on b7; obtain ⟨q70, q71, q72⟩ := x7.k3; have z7 := b7.size; have l7 := LTb.out.far (A := some ⟨wc.heap.size, 0, none⟩) (show Turn _ _ w7 from g7) (fun x hx => by cases hx; simp) (Nat.le_refl _))
                | (refine step_append_sl _ (by rfl) (.tmp 66) (.tmp 69) 48 (by rfl) wc.heap.size 113 i0 _ 3 32 Try.underlying48 hi0 hz0 hz1 hz2 rfl (by decide) encWrite_len encWrite_one _ [] (by rfl) OMc.out _ (some ⟨d, 0, none⟩) kk cb (lw.take kk) (by rfl) SAc.out HS1.out HS2.out BAc.out.size ?_; intro v7 w7 o7 g7; have b7 := bel_grown BAc.out g7 (fun k hk => (World.ownsRow.lt OMc.out k hk).1); have x7 := xj.on b7; obtain ⟨q70, q71, q72⟩ := x7.k3; have z7 := b7.size; have l7 := LTc.out.far (A := some ⟨wc.heap.size + 1, 0, none⟩) (show Turn _ _ w7 from g7) (fun x hx => by cases hx; simp) (Nat.le_refl _))
                | (refine step_append_sl _ (by rfl) (.tmp 70) (.tmp 72) 48 (by rfl) wc.heap.size 113 i0 _ 3 32 Try.underlying48 hi0 hz0 hz1 hz2 rfl (by decide) encWrite_len encWrite_one _ _ (by rfl) (Own.alloc o7 (.cells #[.string key, .int .i64 num, .bool gone] 113)) _ (some ⟨w7.heap.size, 0, none⟩) 1 1 [(key, num, gone)] (by rfl) (Sl.lit1 (enc := encWrite) w7 #[.string key, .int .i64 num, .bool gone] 113 (key, num, gone) rfl) HS3.out HS4.out (by first | exact z7 | (rw [World.size_alloc]; omega)) ?_; intro v8 w8 o8 g8; have b8 := bel_grown (bel_alloc b7 (.cells #[.string key, .int .i64 num, .bool gone] 113)) g8 (fun k hk => (World.ownsRow.lt o7 k hk).1); have ot8 := ot.on b8; have z8 := b8.size)
                | (refine step_append_sl _ (by rfl) (.tmp 70) (.tmp 72) 48 (by rfl) wc.heap.size 113 i0 _ 3 32 Try.underlying48 hi0 hz0 hz1 hz2 rfl (by decide) encWrite_len encWrite_one _ _ (by rfl) o7 _ (some ⟨wc.heap.size + 1, 0, none⟩) 1 1 [(key, num, gone)] (by rfl) l7 HS3.out HS4.out (by first | exact z7 | (rw [World.size_alloc]; omega)) ?_; intro v8 w8 o8 g8; have b8 := bel_grown b7 g8 (fun k hk => (World.ownsRow.lt o7 k hk).1); have ot8 := ot.on b8; have z8 := b8.size)
                | (refine step_append_sl _ (by rfl) (.tmp 70) (.tmp 72) 48 (by rfl) wc.heap.size 113 i0 _ 3 32 Try.underlying48 hi0 hz0 hz1 hz2 rfl (by decide) encWrite_len encWrite_one _ _ (by rfl) o7 _ (some ⟨wc.heap.size, 0, none⟩) 1 1 [(key, num, gone)] (by rfl) l7 HS3.out HS4.out (by first | exact z7 | (rw [World.size_alloc]; omega)) ?_; intro v8 w8 o8 g8; have b8 := bel_grown b7 g8 (fun k hk => (World.ownsRow.lt o7 k hk).1); have ot8 := ot.on b8; have z8 := b8.size)
                | (refine step_append_sl _ (by rfl) (.tmp 73) (.tmp 74) 48 (by rfl) wc.heap.size 113 i0 _ 3 32 Try.underlying48 hi0 hz0 hz1 hz2 rfl (by decide) encWrite_len encWrite_one _ _ (by rfl) o8 _ A9 (lw.length - kk) c9 (lw.drop kk) (by rfl) ot8.sl HS5.out HS6.out z8 ?_; intro v9 w9 o9 g9; have b9 := bel_grown b8 g9 (fun k hk => (World.ownsRow.lt o8 k hk).1)))
              all_goals
                go_wp2_with fail
                go_meet
                obtain ⟨A', c', rfl, -, -⟩ := o9.form; obtain ⟨d', rfl⟩ := o9.zero (k := 0) (by have := HLN.out; omega); exact ⟨d', c', _, HLN.out, HSN.out, rfl, o9.lower tj.size, oj.on b9, rj.on b9, tj.below b9⟩
            case rest =>
            clear ot oj rj tj; obtain ⟨d', c', N, hNl, hNs, rfl, on, oj, rj, tj⟩ := hcut; clear xj; have HNl := Lib.hid hNl; have HlN := Lib.hid (show N.length ≤ 5 by have := HLK.out; omega); clear hNl; cases hok : Wx.writesOk 6 N
            all_goals
              have HOK := Lib.hid hok; clear hok; go_wp2_with fail; refine (Wx.specWritesOk (some ⟨d', 0, none⟩) N.length c' N wc on.sl hNs.wf (by have := HlN.out; omega)).mono ?_; rintro e wd ⟨rfl, hbd⟩; rw [HOK.out]; have on2 := on.on hbd; have oj2 := oj.on hbd; have rj2 := rj.on hbd; have tj2 := tj.below hbd; clear on oj rj tj
            · go_wp2_with fail; refine (pick g (pn + 2 + 1) 20 A m c l wd rj2 (by omega) (by omega) (by have := HP4.out; have := HP3.out; have := HP.out; omega)).mono ?_; rintro e we ⟨v2, rfl, hv2, hre, hte⟩; have on3 := on2.farRd hte hg; have oj3 := oj2.farRd hte hg; have tj3 := tj2.trans hte; clear on2 oj2 rj2 tj2 hte
              by_cases hv3 : v2 = 0
              · subst hv3; go_wp2_with fail; go_roundw
                case rel => exact ⟨k - 1, pn + 2 + 1 + 1, N, d', c', by rw [show ((k - 1 : Nat) : Int) = (k : Int) - 1 by omega], by have := HK.out; omega, rfl, on3, by have := HLK.out; have := HNl.out; omega, hNs, by have := HP3.out; have := HP4.out; omega, hre, tj3⟩
                case measure => simp [intOf]; omega
              · have hv4 : ((v2 : Int) == 0) = false := by simp; omega
                go_wp2_with fail; go_roundw
                case rel => exact ⟨k - 1, pn + 2 + 1 + 1, lw, d, cb, by rw [show ((k - 1 : Nat) : Int) = (k : Int) - 1 by omega], by have := HK.out; omega, rfl, oj3, by have := HLK.out; omega, HSW.out, by have := HP3.out; have := HP4.out; omega, hre, tj3⟩
                case measure => simp [intOf]; omega
            · go_wp2_with fail; go_roundw
              case rel => exact ⟨k - 1, pn + 2 + 1, N, d', c', by rw [show ((k - 1 : Nat) : Int) = (k : Int) - 1 by omega], by have := HK.out; omega, rfl, on2, by have := HLK.out; have := HNl.out; omega, hNs, by have := HP3.out; have := HP4.out; omega, rj2, tj2⟩
              case measure => simp [intOf]; omega
          · go_wp2_with fail; go_roundw
            case rel => exact ⟨k - 1, pn + 2 + 1, lw, d, cb, by rw [show ((k - 1 : Nat) : Int) = (k : Int) - 1 by omega], by have := HK.out; omega, rfl, oj, by have := HLK.out; omega, HSW.out, by have := HP3.out; have := HP4.out; omega, rj, tj⟩
            case measure => simp [intOf]; omega
    · have hk0 : k = 0 := by omega
      subst hk0
      by_cases hl0 : lw.length = 0
      · have hl1 : ¬ (0 : Int) < (lw.length : Int) := by omega
        have HL0 := Lib.hid hl0; clear hl0; go_wp2_with fail; go_ret
        exact ⟨some ⟨d, 0, none⟩, cb, lw, p', rfl, ho, by have := HL0.out; omega, hSm, by omega, hr, ht⟩
      · have hl1 : (0 : Int) < (lw.length : Int) := by omega
        go_wp2_with fail; refine (pick g p' 30 A m c l wr hr (by omega) (by omega) (by have := HP.out; omega)).mono ?_; rintro e w2 ⟨v, rfl, hv, hr2, ht2⟩; have o2 := ho.farRd ht2 hg; have t2 := ht.trans ht2
        by_cases hv0 : v = 0
        · subst hv0; obtain ⟨key, num, gone, hrow, e0, e1, e2⟩ := atWrite (k := 0) o2.sl (by omega); simp only [Nat.zero_add, Nat.zero_mul] at e0 e1 e2
          have hks := hSm.mem hrow; have ls := Sl.lit1 (enc := encWrite) w2 #[.string key, .int .i64 num, .bool gone] 113 (key, num, gone) rfl; have oa := o2.alloc (.cells #[.string key, .int .i64 num, .bool gone] 113); go_wp2_with (at_builtin; refine wpList_append_sl _ rfl _ _ 48 rfl w.heap.size 113 i0 _ 3 32 Try.underlying48 hi0 hz0 hz1 hz2 rfl (by decide) encWrite_len encWrite_one _ lw rfl oa _ (some ⟨w2.heap.size, 0, none⟩) 1 1 [(key, num, gone)] rfl ls (by unfold maxLen; omega) (by omega) (by have := t2.size; rw [World.size_alloc]; omega) ?_; intro v9 w9 o9 g9); go_ret
          obtain ⟨A9, c9, rfl, -, -⟩ := o9.form; have hb := bel_alloc (Below.refl _ w2) (.cells #[.string key, .int .i64 num, .bool gone] 113); have r3 := (hr2.on hb).grown g9 (fun k hk => by have := (World.ownsRow.lt o2 k hk).1; omega); have t3 := (t2.alloc (.cells #[.string key, .int .i64 num, .bool gone] 113)).grown g9 (fun k hk => (World.ownsRow.lt o2 k hk).1); exact ⟨A9, c9, _, p' + 1, rfl, o9, by simp; omega, hSm.app (SmallW.one hks), by omega, r3, t3⟩
        · have hv1 : ((v : Int) == 0) = false := by simp; omega
          go_wp2_with fail; go_ret
          exact ⟨some ⟨d, 0, none⟩, cb, lw, p' + 1, rfl, o2, by omega, hSm, by omega, hr2, t2⟩
end Go.Proofs.Ytpmeaikiaoojkaa
namespace Go.Proofs.Ytpmeaikiaoojkaa
open Go.RowKit

theorem VerSWf.take {l : List Ver} (h : VerSWf l) (k : Nat) : VerSWf (l.take k) := fun x hx => h x (List.mem_of_mem_take hx)
theorem VerSWf.drop {l : List Ver} (h : VerSWf l) (k : Nat) : VerSWf (l.drop k) := fun x hx => h x (List.mem_of_mem_drop hx)
theorem VerSWf.app {l m : List Ver} (h : VerSWf l) (k : VerSWf m) : VerSWf (l ++ m) := fun x hx => (List.mem_append.1 hx).elim (h x) (k x)
theorem VerSWf.one {x : Ver} (h : VerWf x) : VerSWf [x] := fun y hy => by rw [List.mem_singleton.1 hy]; exact h
theorem VerSWf.set {l : List Ver} (h : VerSWf l) (k : Nat) {x : Ver} (hx : VerWf x) : VerSWf (l.set k x) := fun y hy => by
  rcases List.mem_or_eq_of_mem_set hy with h1 | rfl
  · exact h y h1
  · exact hx
theorem bel_drewNB {B : Nat} {a w : World} (h : Below B a w) (n : Nat) : Below B a (w.drewN n) := ⟨h.os, h.tape, h.output, h.size, h.block⟩
theorem keptO_drewN {e : TypeId} {b : Option Nat} {a w : World} (h : Lib.OthersKept e b a w) (n : Nat) : Lib.OthersKept e b a (w.drewN n) := h
/-- what a write leaves: a history of one's own -/
def WrPost (w : World) (base n : Nat) (e : Ending) (w' : World) : Prop :=
  ∃ A' c' l', e = .returned (.slice A' l'.length c') ∧ Own encVer 4 131 w' base (.slice A' l'.length c') l' ∧ l'.length ≤ n + 1 ∧ VerSWf l' ∧ Below base w w' ∧ Lib.OthersKept 131 none w w'
def WrRel (w : World) (base : Nat) (A : Option Addr) (n c : Nat) (key : ByteArray) (v : Int) (gone : Bool) (v7 v8 : Value) (wr : World) : Prop :=
  ∃ (a i : Nat) (l : List Ver), a ≤ i ∧ i ≤ n ∧ v7 = .int .i64 a ∧ v8 = .int .i64 i ∧ Own encVer 4 131 wr base (.slice A n c) l ∧ VerSWf l ∧ BoxC wr w.heap.size 113 #[.string key, .int .i64 v, .bool gone] ∧ Below base w wr ∧ Lib.OthersKept 131 none w wr
set_option maxHeartbeats 4000000 in
set_option maxRecDepth 100000 in
theorem l2WriteSome (g n c : Nat) (l : List Ver) (key : ByteArray) (v : Int) (gone : Bool) (now : Int) (base : Nat) (w : World) (ho : Own encVer 4 131 w base (.slice (some ⟨g, 0, none⟩) n c) l) (hk : VerSWf l) (hx : VerWf (key, v, now, 0)) (hy : ∀ x : Ver, VerWf x → VerWf (x.1, x.2.1, x.2.2.1, now)) (hn : n ≤ 1048576) (hb : base ≤ w.heap.size) :
    Calls Try.prog 94 #[.slice (some ⟨g, 0, none⟩) n c, .agg #[.string key, .int .i64 v, .bool gone], .int .i64 now] w (WrPost w base n) := by
  obtain ⟨i0, hi0, hz0, hz1, hz2⟩ := info_parts info77; have HN := Lib.hid hn; have HY := Lib.hid hy; have HX := Lib.hid hx; have HB := Lib.hid hb; have HBG := Lib.hid (show base ≤ g from (ho.block rfl).1); have HG := Lib.hid (show g < w.heap.size from (ho.block rfl).2.1); have HC := Lib.hid (show n ≤ c by have := ho.form; obtain ⟨A', c', h1, h2, h3⟩ := this; injection h1 with _ h4 h5; omega); have O0 := Lib.hid (ho.alloc (.cells #[.string key, .int .i64 v, .bool gone] 113)); have K0 := Lib.hid hk; have X0 := Lib.hid (BoxC.new w 113 #[.string key, .int .i64 v, .bool gone]); have B0 := Lib.hid ((Below.refl base w).alloc hb (.cells #[.string key, .int .i64 v, .bool gone] 113)); have T0 := Lib.hid ((Lib.OthersKept.refl 131 none w).alloc (.cells #[.string key, .int .i64 v, .bool gone] 113)); clear ho hk hx hy hn hb; go_enter Try.func94, Try.ntmps94; go_wp2_with fail
  go_loopw [7, 8] (fun v7 v8 wr => WrRel w base (some ⟨g, 0, none⟩) n c key v gone v7 v8 wr) (fun _ v8 _ => n - (intOf v8).toNat)
  case atStart => exact ⟨0, 0, l, Nat.le_refl _, Nat.zero_le _, rfl, rfl, O0.out, K0.out, X0.out, B0.out, T0.out⟩
  case round =>
    clear O0 K0 X0 B0 T0; obtain ⟨a, i, l, hai, hin, rfl, rfl, ho, hk, xb, hb, ht⟩ := hrel; obtain ⟨p0, p1, p2⟩ := xb.k3
    by_cases h0 : i < n
    · have h0' : (i : Int) < (n : Int) := by omega
      have j0 : (0 : Int) ≤ (i : Int) := by omega
      have hn' : (n : Int) ≤ 1048576 := by have := HN.out; omega
      obtain ⟨g0, g1, g2, g3, hx, e0, e1, e2, e3⟩ := atVer ho.sl h0; simp only [Nat.zero_add] at e0 e1 e2 e3
      have fr := ho.free (i * 4 + 3); have HXR := Lib.hid hx; have hwx : VerWf (g0, g1, g2, g3) := hk.at_ hx; have HW := Lib.hid hwx; clear hx hwx; cases hq : (g0.toList == key.toList)
      · go_wp2_with fail
        go_quiet (fail)
        go_wp2_with fail
        go_quiet (fail)
        go_wp2_with fail
        all_goals first
          | exact ⟨⟨a, i + 1, l, by omega, by omega, rfl, by simp, ho.drewN _, hk, xb, bel_drewNB hb _, keptO_drewN ht _⟩, by simp [intOf]; omega⟩
          | exact ⟨⟨i + 1, i + 1, l, by omega, by omega, by simp, by simp, ho.drewN _, hk, xb, bel_drewNB hb _, keptO_drewN ht _⟩, by simp [intOf]; omega⟩
      · cases hg : (g3 == 0)
        · go_wp2_with fail
          go_quiet (fail)
          go_wp2_with fail
          go_quiet (fail)
          go_wp2_with fail
          all_goals first
            | exact ⟨⟨a, i + 1, l, by omega, by omega, rfl, by simp, ho.drewN _, hk, xb, bel_drewNB hb _, keptO_drewN ht _⟩, by simp [intOf]; omega⟩
            | exact ⟨⟨i + 1, i + 1, l, by omega, by omega, by simp, by simp, ho.drewN _, hk, xb, bel_drewNB hb _, keptO_drewN ht _⟩, by simp [intOf]; omega⟩
        · go_wp2_with fail
          go_quiet (fail)
          go_wp2_with fail; have o2 := (ho.drewN nq).set1 encVer_len i 3 (g0, g1, g2, g3) (g0, g1, g2, now) (.int .i64 now) HXR.out (by omega) rfl; have x2 : BoxC ((wr.drewN nq).setCell ⟨g, i * 4 + 3, none⟩ (.int .i64 now)) w.heap.size 113 #[.string key, .int .i64 v, .bool gone] := (show BoxC (wr.drewN nq) w.heap.size 113 _ from xb).other (by have := HG.out; omega); have b2 : Below base w ((wr.drewN nq).setCell ⟨g, i * 4 + 3, none⟩ (.int .i64 now)) := (bel_drewNB hb nq).setCell (by exact HBG.out) _; have t2 : Lib.OthersKept 131 none w ((wr.drewN nq).setCell ⟨g, i * 4 + 3, none⟩ (.int .i64 now)) := (keptO_drewN ht nq).trans (keptO_set (ho.drewN nq) _); have k2 : VerSWf (l.set i (g0, g1, g2, now)) := hk.set i (HY.out _ HW.out); generalize (wr.drewN nq).setCell ⟨g, i * 4 + 3, none⟩ (.int .i64 now) = wr2 at *; obtain ⟨d0, d1, d2, d3, hx2, z0, z1, z2, z3⟩ := atVer o2.sl h0; simp only [Nat.zero_add] at z0 z1 z2 z3
          have q0 := x2.c (k := 0) rfl; clear hx2; go_wp2_with fail
          go_quiet (fail)
          go_wp2_with fail
          all_goals first
            | exact ⟨⟨a, i + 1, _, by omega, by omega, rfl, by simp, o2.drewN _, k2, x2, bel_drewNB b2 _, keptO_drewN t2 _⟩, by simp [intOf]; omega⟩
            | exact ⟨⟨i + 1, i + 1, _, by omega, by omega, by simp, by simp, o2.drewN _, k2, x2, bel_drewNB b2 _, keptO_drewN t2 _⟩, by simp [intOf]; omega⟩
    · obtain rfl : i = n := by omega
      have h0' : ¬ ((i : Int) < (i : Int)) := by omega
      have hln := ho.len; cases gone
      · have j0 : (0 : Int) ≤ (a : Int) := by omega
        have j1 : (a : Int) ≤ (i : Int) := by omega
        have j2 : (a : Int) ≤ (c : Int) := by have := HC.out; omega
        have j3 : (i : Int) ≤ (c : Int) := by have := HC.out; omega
        have om := Own.made0 (enc := encVer) (sz := 4) (e := 131) wr (Nat.le_refl wr.heap.size); have hb1 := hb.alloc (Nat.le_trans HB.out hb.size) (.cells #[] 131); have rs := ((ho.alloc (.cells #[] 131)).sl).rest encVer_len hai HC.out; simp only [Nat.zero_add] at rs
        have HS1 := Lib.hid (show ([] : List Ver).length + (i - a) ≤ maxLen by have := HN.out; unfold maxLen; simp; omega); have HS2 := Lib.hid (show (([] : List Ver).length + (i - a)) * 40 ≤ 140737488355328 by have := HN.out; simp; omega); go_wp2_with (at_builtin; refine wpList_append_sl _ rfl _ _ 85 rfl wr.heap.size 131 i0 _ 4 40 Try.underlying85 hi0 hz0 hz1 hz2 rfl (by decide) encVer_len encVer_one _ [] rfl om _ (if c = a then some ⟨g, 0, none⟩ else some ⟨g, a * 4, none⟩) (i - a) (c - a) (l.drop a) rfl rs HS1.out HS2.out (by simp) ?_; intro v9 w9 o9 g9)
        all_goals
          simp only [List.nil_append] at o9
          obtain ⟨A9, c9, rfl, -, -⟩ := o9.form; rw [show (l.drop a).length = i - a by rw [List.length_drop]; omega] at o9 ⊢; have hgw : g < wr.heap.size := (ho.block rfl).2.1; have oa := (ho.alloc (.cells #[] 131)).far (A := some ⟨wr.heap.size, 0, none⟩) (show Turn _ _ w9 from g9) (fun x y hx hy => by cases hx; cases hy; simp only; omega); have b9 := hb1.grown g9 (by simp; exact Nat.le_trans HB.out (Nat.le_trans hb.size (by omega))) (fun k hk => by have := (World.ownsRow.lt om k hk).1; exact Nat.le_trans HB.out (Nat.le_trans hb.size this)); have t9 := (ht.alloc (.cells #[] 131)).trans (keptO_grown om g9); have x9 := (xb.alloc (.cells #[] 131)).appended (by decide) om g9; have hbw9 : base ≤ w9.heap.size := Nat.le_trans HB.out b9.size; have B9 := Lib.hid (b9.alloc hbw9 (.cells #[.string key, .int .i64 v, .int .i64 now, .int .i64 0] 131)).drew; have T9 := Lib.hid (t9.alloc (.cells #[.string key, .int .i64 v, .int .i64 now, .int .i64 0] 131)).drew; have oc := ((oa.alloc (.cells #[.string key, .int .i64 v, .int .i64 now, .int .i64 0] 131)).drew).shrink encVer_len hai
          first
            | (rename c = a => hca; rw [hca] at oc; clear hca)
            | (rename ¬ c = a => hca; clear hca)
            | skip
          have od := ((o9.alloc (.cells #[.string key, .int .i64 v, .int .i64 now, .int .i64 0] 131)).drew); obtain ⟨r0, r1⟩ := x9.k2
          have ls : Sl encVer (w9.alloc (.cells #[.string key, .int .i64 v, .int .i64 now, .int .i64 0] 131)).drew (w9.heap.size + 1) (some ⟨w9.heap.size, 0, none⟩) 1 [(key, v, now, 0)] := by
            have h : Sl encVer (w9.alloc (.cells #[.string key, .int .i64 v, .int .i64 now, .int .i64 0] 131)) (w9.heap.size + 1) (some ⟨w9.heap.size, 0, none⟩) 1 [(key, v, now, 0)] := by simpa using Sl.lit1 (enc := encVer) w9 #[.string key, .int .i64 v, .int .i64 now, .int .i64 0] 131 (key, v, now, 0) rfl
            exact h
          have hla : (l.take a).length = a := by rw [List.length_take]; omega
          have hld : (l.drop a).length = i - a := by rw [List.length_drop]; omega
          have HS3 := Lib.hid (show (l.take a).length + 1 ≤ maxLen by have := HN.out; rw [hla]; unfold maxLen; omega); have HS4 := Lib.hid (show ((l.take a).length + 1) * 40 ≤ 140737488355328 by have := HN.out; rw [hla]; omega); have HS5 := Lib.hid (show (l.take a ++ [(key, v, now, 0)]).length + (i - a) ≤ maxLen by have := HN.out; rw [List.length_append, hla]; unfold maxLen; simp; omega); have HS6 := Lib.hid (show ((l.take a ++ [(key, v, now, 0)]).length + (i - a)) * 40 ≤ 140737488355328 by have := HN.out; rw [List.length_append, hla]; simp; omega); have HS7 := Lib.hid (show base ≤ (w9.alloc (.cells #[.string key, .int .i64 v, .int .i64 now, .int .i64 0] 131)).drew.heap.size by simp; omega); clear p0 p1 p2 rs om g9 ho hb1
          go_region_law (first
            | (refine step_append_sl _ (by rfl) (.tmp 57) (.tmp 64) 85 (by rfl) base 131 i0 _ 4 40 Try.underlying85 hi0 hz0 hz1 hz2 rfl (by decide) encVer_len encVer_one _ (l.take a) (by rfl) oc _ (some ⟨w9.heap.size, 0, none⟩) 1 1 [(key, v, now, 0)] (by rfl) ls HS3.out HS4.out HS7.out ?_; intro v13 w13 o13 g13; have od2 := od.far (A := some ⟨g, 0, none⟩) (show Turn _ _ w13 from g13) (fun x y hx hy => by cases hx; have := (o9.block hy).1; simp only; omega); have hs13 : base ≤ w13.heap.size := Nat.le_trans HS7.out g13.size)
            | (refine step_append_sl _ (by rfl) (.tmp 65) (.tmp 66) 85 (by rfl) base 131 i0 _ 4 40 Try.underlying85 hi0 hz0 hz1 hz2 rfl (by decide) encVer_len encVer_one v13 _ (by rfl) o13 _ A9 (i - a) c9 (l.drop a) (by rfl) od2.sl HS5.out HS6.out hs13 ?_; intro v14 w14 o14 g14))
          all_goals
            obtain ⟨A13, c13, rfl, -, -⟩ := o13.form; obtain ⟨A14, c14, rfl, -, -⟩ := o14.form; have b13 := B9.out.grown g13 HS7.out (fun k hk => (World.ownsRow.lt oc k hk).1); have B14 := Lib.hid (b13.grown g14 hs13 (fun k hk => (World.ownsRow.lt o13 k hk).1)); have T14 := Lib.hid ((T9.out.trans (keptO_grown oc g13)).trans (keptO_grown o13 g14)); have O14 := Lib.hid o14; have K14 := Lib.hid (((hk.take a).app (VerSWf.one HX.out)).app (hk.drop a)); have L14 := Lib.hid (show (l.take a ++ [(key, v, now, 0)] ++ l.drop a).length ≤ i + 1 by rw [List.length_append, List.length_append, hla, hld]; simp; omega); clear g13 g14 o13 o14 oc od od2 b13 b9 t9 x9; go_wp2_with fail; go_ret
            exact ⟨_, _, _, rfl, O14.out, L14.out, K14.out, B14.out, T14.out⟩
      · go_wp2_with fail; go_ret
        exact ⟨some ⟨g, 0, none⟩, c, l, by rw [hln]; rfl, by rw [hln]; exact ho, by omega, hk, hb, ht⟩
end Go.Proofs.Ytpmeaikiaoojkaa
namespace Go.Proofs.Ytpmeaikiaoojkaa
open Go.RowKit

theorem VerSWf.nil : VerSWf [] := fun _ h => by cases h
set_option maxHeartbeats 4000000 in
set_option maxRecDepth 100000 in
theorem l2WriteNil (key : ByteArray) (v : Int) (gone : Bool) (now : Int) (base : Nat) (w : World) (hx : VerWf (key, v, now, 0)) (hb : base ≤ w.heap.size) :
    Calls Try.prog 94 #[.slice none 0 0, .agg #[.string key, .int .i64 v, .bool gone], .int .i64 now] w (WrPost w base 0) := by
  obtain ⟨i0, hi0, hz0, hz1, hz2⟩ := info_parts info77; have HX := Lib.hid hx; have HB := Lib.hid hb; have xb := BoxC.new w 113 #[.string key, .int .i64 v, .bool gone]; have hb0 := (Below.refl base w).alloc hb (.cells #[.string key, .int .i64 v, .bool gone] 113); have ht := (Lib.OthersKept.refl 131 none w).alloc (.cells #[.string key, .int .i64 v, .bool gone] 113); have hsz0 : (w.alloc (.cells #[.string key, .int .i64 v, .bool gone] 113)).heap.size = w.heap.size + 1 := by simp
  have HSZ := Lib.hid hsz0; clear hsz0; obtain ⟨p0, p1, p2⟩ := xb.k3; clear hx hb; go_enter Try.func94, Try.ntmps94; go_wp2_with fail; generalize w.alloc (.cells #[.string key, .int .i64 v, .bool gone] 113) = wr at *
  go_loopw [7, 8] (fun v7 v8 wq => v7 = .int .i64 0 ∧ v8 = .int .i64 0 ∧ wr = wq) (fun _ _ _ => 0)
  case atStart => exact ⟨rfl, rfl, rfl⟩
  case round =>
    obtain ⟨rfl, rfl, rfl⟩ := hrel; cases gone
    · have om := Own.made0 (enc := encVer) (sz := 4) (e := 131) wr (Nat.le_refl wr.heap.size); have hbw : base ≤ wr.heap.size := by have := HB.out; have := HSZ.out; omega
      have hb1 := hb0.alloc hbw (.cells #[] 131); have x9 := (xb.alloc (.cells #[] 131)); have t9 := (ht.alloc (.cells #[] 131)); have HZ9 := Lib.hid (show (wr.alloc (.cells #[] 131)).heap.size = wr.heap.size + 1 by simp); go_wp2_with fail; obtain ⟨w9, hw9⟩ : ∃ w9, wr.alloc (.cells #[] 131) = w9 := ⟨_, rfl⟩; have b9 := hb1; rw [hw9] at om b9 x9 t9 HZ9 ⊢; clear hw9; have hbw9 : base ≤ w9.heap.size := Nat.le_trans HB.out b9.size; have B9 := Lib.hid (b9.alloc hbw9 (.cells #[.string key, .int .i64 v, .int .i64 now, .int .i64 0] 131)).drew; have T9 := Lib.hid (t9.alloc (.cells #[.string key, .int .i64 v, .int .i64 now, .int .i64 0] 131)).drew; have oc := Own.nil (enc := encVer) (sz := 4) (e := 131) (w9.alloc (.cells #[.string key, .int .i64 v, .int .i64 now, .int .i64 0] 131)).drew base; obtain ⟨r0, r1⟩ := x9.k2
      have ls : Sl encVer (w9.alloc (.cells #[.string key, .int .i64 v, .int .i64 now, .int .i64 0] 131)).drew (w9.heap.size + 1) (some ⟨w9.heap.size, 0, none⟩) 1 [(key, v, now, 0)] := by
        have h : Sl encVer (w9.alloc (.cells #[.string key, .int .i64 v, .int .i64 now, .int .i64 0] 131)) (w9.heap.size + 1) (some ⟨w9.heap.size, 0, none⟩) 1 [(key, v, now, 0)] := by simpa using Sl.lit1 (enc := encVer) w9 #[.string key, .int .i64 v, .int .i64 now, .int .i64 0] 131 (key, v, now, 0) rfl
        exact h
      have HS7 := Lib.hid (show base ≤ (w9.alloc (.cells #[.string key, .int .i64 v, .int .i64 now, .int .i64 0] 131)).drew.heap.size by simp; omega); clear p0 p1 p2 om hb1
      go_region_law (first
        | (refine step_append_sl _ (by rfl) (.tmp 57) (.tmp 64) 85 (by rfl) base 131 i0 _ 4 40 Try.underlying85 hi0 hz0 hz1 hz2 rfl (by decide) encVer_len encVer_one _ [] (by rfl) oc _ (some ⟨w9.heap.size, 0, none⟩) 1 1 [(key, v, now, 0)] (by rfl) ls (by unfold maxLen; simp) (by simp) HS7.out ?_; intro v13 w13 o13 g13; have hs13 : base ≤ w13.heap.size := Nat.le_trans HS7.out g13.size)
        | (refine step_append_sl _ (by rfl) (.tmp 65) (.tmp 66) 85 (by rfl) base 131 i0 _ 4 40 Try.underlying85 hi0 hz0 hz1 hz2 rfl (by decide) encVer_len encVer_one v13 _ (by rfl) o13 w13.heap.size (some ⟨wr.heap.size, 0, none⟩) 0 0 [] (by rfl) (Sl.nil _ _ _ _) (by unfold maxLen; simp) (by simp) hs13 ?_; intro v14 w14 o14 g14))
      all_goals
        obtain ⟨A13, c13, rfl, -, -⟩ := o13.form; obtain ⟨A14, c14, rfl, -, -⟩ := o14.form; have b13 := B9.out.grown g13 HS7.out (fun k hk => (World.ownsRow.lt oc k hk).1); have B14 := Lib.hid (b13.grown g14 hs13 (fun k hk => (World.ownsRow.lt o13 k hk).1)); have T14 := Lib.hid ((T9.out.trans (keptO_grown oc g13)).trans (keptO_grown o13 g14)); have O14 := Lib.hid o14; have K14 := Lib.hid (show VerSWf ([] ++ [(key, v, now, 0)] ++ []) from (VerSWf.nil.app (VerSWf.one HX.out)).app VerSWf.nil); clear g13 g14 o13 o14 oc b13 b9 t9 x9; go_wp2_with fail; go_ret
        exact ⟨_, _, _, rfl, O14.out, by simp, K14.out, B14.out, T14.out⟩
    · go_wp2_with fail; go_ret
      exact ⟨none, 0, [], rfl, Own.nil _ _, by simp, VerSWf.nil, hb0, ht⟩
theorem l2Write (A : Option Addr) (n c : Nat) (l : List Ver) (key : ByteArray) (v : Int) (gone : Bool) (now : Int) (base : Nat) (w : World) (ho : Own encVer 4 131 w base (.slice A n c) l) (hk : VerSWf l) (hx : VerWf (key, v, now, 0)) (hy : ∀ x : Ver, VerWf x → VerWf (x.1, x.2.1, x.2.2.1, now)) (hn : n ≤ 1048576) (hb : base ≤ w.heap.size) :
    Calls Try.prog 94 #[.slice A n c, .agg #[.string key, .int .i64 v, .bool gone], .int .i64 now] w (WrPost w base n) := by
  rcases ho.2 with ⟨h1, h2⟩ | ⟨g, cap, cur, h1, _⟩
  · injection h1 with h3 h4 h5
    subst h3 h5; have h4' : n = 0 := by omega
    subst h4'; exact l2WriteNil key v gone now base w hx hb
  · injection h1 with h3 h4 h5
    subst h3; exact l2WriteSome g n c l key v gone now base w ho hk hx hy hn hb
end Go.Proofs.Ytpmeaikiaoojkaa
namespace Go.Proofs.Ytpmeaikiaoojkaa

def Srt (l : List Row) : Prop := l.Pairwise fun a b => klt a.1 b.1 = true
theorem asc_srt {l : List Row} : AscP l ↔ Srt l := by
  unfold Srt
  rw [List.pairwise_iff_getElem]
  constructor
  · intro h i j hi hj hij; exact h.lt hij (List.getElem?_eq_getElem hi) (List.getElem?_eq_getElem hj)
  · intro h i a b ha hb; obtain ⟨hi, rfl⟩ := List.getElem?_eq_some_iff.1 ha; obtain ⟨hj, rfl⟩ := List.getElem?_eq_some_iff.1 hb; exact h i (i + 1) hi hj (by omega)
theorem Srt.ext {l m : List Row} (hl : Srt l) (hm : Srt m) (h : ∀ r, r ∈ l ↔ r ∈ m) : l = m := by
  induction l generalizing m with
  | nil =>
    cases m with
    | nil => rfl
    | cons b m => exact absurd ((h b).2 (by simp)) (by simp)
  | cons a l ih =>
    cases m with
    | nil => exact absurd ((h a).1 (by simp)) (by simp)
    | cons b m =>
      obtain ⟨ha, hl'⟩ := List.pairwise_cons.1 hl; obtain ⟨hb, hm'⟩ := List.pairwise_cons.1 hm
      have hab : a = b := by
        rcases List.mem_cons.1 ((h a).1 (by simp)) with e | e
        · exact e
        · rcases List.mem_cons.1 ((h b).2 (by simp)) with e2 | e2
          · exact e2.symm
          · have := klt_asymm (ha b e2); rw [hb a e] at this; cases this
      subst hab; rw [ih hl' hm' fun r => ?_]
      constructor
      · intro hr
        rcases List.mem_cons.1 ((h r).1 (List.mem_cons_of_mem _ hr)) with e | e
        · subst e; have := ha r hr; rw [klt_irrefl] at this; cases this
        · exact e
      · intro hr
        rcases List.mem_cons.1 ((h r).2 (List.mem_cons_of_mem _ hr)) with e | e
        · subst e; have := hb r hr; rw [klt_irrefl] at this; cases this
        · exact e
theorem Srt.inj {l : List Row} (h : Srt l) {k : ByteArray} {v v' : Int} (h1 : (k, v) ∈ l) (h2 : (k, v') ∈ l) : v = v' := by
  induction l with
  | nil => simp at h1
  | cons a l ih =>
    obtain ⟨ha, hl⟩ := List.pairwise_cons.1 h
    rcases List.mem_cons.1 h1 with e1 | e1 <;> rcases List.mem_cons.1 h2 with e2 | e2
    · subst e1; cases e2; rfl
    · subst e1; have := ha _ e2; simp only [klt_irrefl] at this; cases this
    · subst e2; have := ha _ e1; simp only [klt_irrefl] at this; cases this
    · exact ih hl e1 e2
theorem rowsP_iff {l : List Row} : RowsP l ↔ l.length ≤ 10 ∧ (∀ r ∈ l, keyOk r.1 = true ∧ numOk r.2 = true) ∧ Srt l := by
  unfold RowsP EachP
  rw [asc_srt]
  constructor
  · rintro ⟨h1, h2, h3⟩; refine ⟨h1, fun r hr => ?_, h3⟩; obtain ⟨i, hi⟩ := List.mem_iff_getElem?.1 hr; exact h2 i r hi
  · rintro ⟨h1, h2, h3⟩; exact ⟨h1, fun i r hi => h2 r (List.mem_of_getElem? hi), h3⟩
end Go.Proofs.Ytpmeaikiaoojkaa
namespace Go.Proofs.Ytpmeaikiaoojkaa
open Go.RowKit

/-- the time of the last change of a key among some versions -/
def lastStep (key : ByteArray) (m : Int) (x : Ver) : Int := if keq x.1 key = true then max m (max x.2.2.1 x.2.2.2) else m
def lastL (l : List Ver) (key : ByteArray) : Int := l.foldl (lastStep key) 0
theorem last_step {l : List Ver} {key : ByteArray} {i : Nat} {x : Ver} (h : l[i]? = some x) : lastL (l.take (i + 1)) key = lastStep key (lastL (l.take i) key) x := by
  obtain ⟨hk, rfl⟩ := List.getElem?_eq_some_iff.1 h
  unfold lastL
  rw [List.take_succ_eq_append_getElem hk, List.foldl_append]; rfl
theorem l1MaxC (a b : Int) (w : World) : Calls Try.prog 146 #[.int .i64 a, .int .i64 b] w fun e w' => e = .returned (.int .i64 (max a b)) ∧ w = w' := by
  by_cases h : b < a
  · have HM := Lib.hid (show max a b = a by omega); go_enter Try.func146, Try.ntmps146; go_wp2
    go_ret
    exact ⟨retInt HM.out.symm, rfl⟩
  · have HM := Lib.hid (show max a b = b by omega); have h' : a ≤ b := by omega
    go_enter Try.func146, Try.ntmps146; go_wp2
    go_ret
    exact ⟨retInt HM.out.symm, rfl⟩
set_option maxHeartbeats 2000000 in
set_option maxRecDepth 100000 in
theorem l2Last (now : Int) (A : Option Addr) (n c : Nat) (l : List Ver) (key : ByteArray) (w : World) (hr : Sl encVer w w.heap.size A n l) (hn : n ≤ 1048576) :
    Calls Try.prog 144 #[.agg #[.int .i64 now, .slice A n c], .string key] w fun e w' => e = .returned (.int .i64 (lastL l key)) ∧ Below w.heap.size w w' := by
  have HL := Lib.hid hr.len; have HR := Lib.hid hr; have HN := Lib.hid hn; have b0 := bel_alloc (Below.refl _ w) (.cells #[.int .i64 now, .slice A n c] 87); obtain ⟨-, p1⟩ := cell_new2Vers w (.int .i64 now) (.slice A n c) 87; clear hr hn; go_enter Try.func144, Try.ntmps144; go_wp2_with fail; generalize w.alloc (.cells #[.int .i64 now, .slice A n c] 87) = w1 at *
  go_loopw [5, 6] (fun v5 v6 wr => ∃ (i : Nat), i ≤ n ∧ v6 = .int .i64 i ∧ v5 = .int .i64 (lastL (l.take i) key) ∧ Below w1.heap.size w1 wr) (fun _ v6 _ => n - (intOf v6).toNat)
  case atStart => exact ⟨0, Nat.zero_le _, rfl, rfl, Below.refl _ _⟩
  case round =>
    obtain ⟨i, hin, rfl, rfl, hb⟩ := hrel; have HP1 := Lib.hid p1; replace p1 := keepC hb p1; have hbw := bel_trans b0 hb
    by_cases h0 : i < n
    · have h0' : (i : Int) < (n : Int) := by omega
      have j0 : (0 : Int) ≤ (i : Int) := by omega
      have hn' : (n : Int) ≤ 1048576 := by have := HN.out; omega
      obtain ⟨b, off, rfl, hbb⟩ := HR.out.spot (by omega); obtain ⟨f0, f1, f2, f3, hx, e0, e1, e2, e3⟩ := atVer (HR.out.keep hbw) h0; have HS := Lib.hid (last_step (key := key) hx); clear hx; cases hk : (f0.toList == key.toList)
      · have HE := Lib.hid (show lastL (l.take (i + 1)) key = lastL (l.take i) key by rw [HS.out]; exact if_neg (by show ¬ (f0.toList == key.toList) = true; rw [hk]; simp)); generalize lastL (l.take i) key = m at *; go_wp2_with fail; go_roundw
        case rel => exact ⟨i + 1, by omega, by simp, by rw [HE.out], hb⟩
        case measure => simp [intOf]; omega
      · have HE := Lib.hid (show lastL (l.take (i + 1)) key = max (lastL (l.take i) key) (max f2 f3) by rw [HS.out]; exact if_pos hk); generalize lastL (l.take i) key = m at *; go_wp2_with fail; refine wp_region_held_drew (S := (fun W' => (W'.cell? ⟨w.heap.size, 1, none⟩ = some (.slice (some ⟨b, off, none⟩) n c)) ∧ (W'.cell? ⟨b, off + i * 4, none⟩ = some (.string f0) ∧ W'.cell? ⟨b, off + i * 4 + 1, none⟩ = some (.int .i64 f1) ∧ W'.cell? ⟨b, off + i * 4 + 2, none⟩ = some (.int .i64 f2) ∧ W'.cell? ⟨b, off + i * 4 + 3, none⟩ = some (.int .i64 f3)))) (by kernel_rfl) ⟨keepC (Below.refl _ _).drew p1, keepC (Below.refl _ _).drew e0, keepC (Below.refl _ _).drew e1, keepC (Below.refl _ _).drew e2, keepC (Below.refl _ _).drew e3⟩ (fun hHeld => ?_); refine tk 0 rfl ?_; (try simp only [AP]); refine tk 1 rfl ?_; (try simp only [AP]); refine tk 2 rfl ?_; (try simp only [AP]); refine tk 3 rfl ?_; (try simp only [AP]); refine tk 4 rfl ?_; (try simp only [AP]); refine tk 5 rfl ?_; (try simp only [AP]); refine tk 6 rfl ?_; (try simp only [AP]); refine tk 7 rfl ?_; (try simp only [AP]); refine tk 8 rfl ?_; (try simp only [AP]); refine tk 9 rfl ?_; (try simp only [AP]); refine tk 10 rfl ?_; (try simp only [AP]); refine tk 11 rfl ?_; (try simp only [AP]); refine tk 12 rfl ?_; (try simp only [AP]); refine ry 13 rfl fun K hK => ?_; go_simp; refine (l1MaxC _ _ _).mono ?_; rintro e W ⟨rfl, rfl⟩; go_wp2_with fail; refine hK.out _ _ hHeld (fun hHeld => ?_); clear hK K; (try simp only [AP]); refine ry 14 rfl fun K hK => ?_; go_simp; refine (l1MaxC _ _ _).mono ?_; rintro e W ⟨rfl, rfl⟩; go_wp2_with fail; refine hK.out _ _ hHeld (fun hHeld => ?_); clear hK K; (try simp only [AP]); refine tk 15 rfl ?_; (try simp only [AP]); refine wpAnyH_done (by kernel_rfl) ?_ _; go_wp2_with fail; go_roundw
        case rel => exact ⟨i + 1, by omega, by simp, by rw [HE.out], hb.drew⟩
        case measure => simp [intOf]; omega
    · obtain rfl : i = n := by omega
      have h0' : ¬ ((i : Int) < (i : Int)) := by omega
      have HE := Lib.hid (show l.take i = l from List.take_of_length_le (Nat.le_of_eq HL.out)); generalize hq : lastL (l.take i) key = m at *; rw [HE.out] at hq; have HQ := Lib.hid hq; clear hq; go_wp2_with fail; go_ret
      exact ⟨retInt HQ.out.symm, hbw⟩
end Go.Proofs.Ytpmeaikiaoojkaa
namespace Go.Proofs.Ytpmeaikiaoojkaa
open Go.RowKit Go.Shelf
attribute [local go_sem] Oper.semAt_some

/-- the loop variable's block -/
def VerBox (B : Nat) (x : Ver) (W : World) : Prop := W.heap[B]? = some (.cells #[.string x.1, .int .i64 x.2.1, .int .i64 x.2.2.1, .int .i64 x.2.2.2] 131 (0, 0))
theorem VerBox.lt {W : World} {B : Nat} {x : Ver} (h : VerBox B x W) : B < W.heap.size := (Array.getElem?_eq_some_iff.1 h).1
theorem VerBox.c0 {W : World} {B : Nat} {x : Ver} (h : VerBox B x W) : W.cell? ⟨B, 0, none⟩ = some (.string x.1) := by simp [World.cell?, show W.heap[B]? = _ from h]
theorem VerBox.c1 {W : World} {B : Nat} {x : Ver} (h : VerBox B x W) : W.cell? ⟨B, 1, none⟩ = some (.int .i64 x.2.1) := by simp [World.cell?, show W.heap[B]? = _ from h]
theorem VerBox.new (W : World) (x : Ver) : VerBox W.heap.size x (W.alloc (.cells #[.string x.1, .int .i64 x.2.1, .int .i64 x.2.2.1, .int .i64 x.2.2.2] 131)) := World.alloc_heap_new W _
theorem VerBox.own {β : Type} (B : Nat) (x : Ver) : Go.Own (fun (_ : β) W => VerBox B x W) := fun _ X Y row hs hg hrow =>
  (hg.block B (VerBox.lt hs) (fun e' => by obtain ⟨o, ho, hc⟩ := hrow B e'.symm; rw [show X.heap[B]? = _ from hs] at ho; cases ho; cases hc)).trans hs
end Go.Proofs.Ytpmeaikiaoojkaa
namespace Go.Proofs.Ytpmeaikiaoojkaa

theorem verOk_parts {now : Int} {x : Ver} (h : verOk now x = true) : keyOk x.1 = true ∧ numOk x.2.1 = true ∧ 1 ≤ x.2.2.1 ∧ x.2.2.1 ≤ now ∧ (x.2.2.2 = 0 ∨ (x.2.2.1 < x.2.2.2 ∧ x.2.2.2 ≤ now)) := by
  simp only [verOk, Bool.and_eq_true, Bool.or_eq_true, decide_eq_true_eq] at h
  obtain ⟨⟨⟨h1, h2⟩, h3, h4⟩, h5⟩ := h; exact ⟨h1, h2, h3, h4, h5⟩
theorem ahead_same {a b : Ver} (h : ahead a b = true) (hk : a.1 = b.1) : 0 < a.2.2.2 ∧ a.2.2.2 ≤ b.2.2.1 := by
  unfold ahead at h
  rw [if_pos (keq_iff.2 hk)] at h
  simpa [Bool.and_eq_true, decide_eq_true_eq] using h
theorem ahead_other {a b : Ver} (h : ahead a b = true) (hk : a.1 ≠ b.1) : klt a.1 b.1 = true := by
  unfold ahead at h
  rwa [if_neg (fun e => hk (keq_iff.1 e))] at h
theorem ahead_mk_same {a b : Ver} (hk : a.1 = b.1) (h0 : 0 < a.2.2.2) (h1 : a.2.2.2 ≤ b.2.2.1) : ahead a b = true := by
  unfold ahead
  rw [if_pos (keq_iff.2 hk)]; simp [h0, h1]
theorem ahead_mk_other {a b : Ver} (h : klt a.1 b.1 = true) : ahead a b = true := by
  unfold ahead
  rw [if_neg (fun e => by rw [keq_iff.1 e, klt_irrefl] at h; cases h)]; exact h
theorem ahead_trans {now : Int} {a b c : Ver} (hb : verOk now b = true) (h1 : ahead a b = true) (h2 : ahead b c = true) : ahead a c = true := by
  obtain ⟨_, _, h3, _, h5⟩ := verOk_parts hb
  by_cases e1 : a.1 = b.1 <;> by_cases e2 : b.1 = c.1
  · obtain ⟨p1, p2⟩ := ahead_same h1 e1; obtain ⟨q1, q2⟩ := ahead_same h2 e2; exact ahead_mk_same (e1.trans e2) p1 (by omega)
  · exact ahead_mk_other (by rw [e1]; exact ahead_other h2 e2)
  · exact ahead_mk_other (by rw [← e2]; exact ahead_other h1 e1)
  · exact ahead_mk_other (klt_trans (ahead_other h1 e1) (ahead_other h2 e2))
theorem ahead_far {now : Int} {l : List Ver} (he : EachV now l) (ha : AheadP l) (d : Nat) : ∀ (i : Nat) (x y : Ver), l[i]? = some x → l[i + 1 + d]? = some y → ahead x y = true := by
  induction d with
  | zero => exact fun i x y hx hy => ha i x y hx hy
  | succ d ih =>
    intro i x y hx hy; have hl : i + 1 + d < l.length := by have := (List.getElem?_eq_some_iff.1 hy).1; omega
    have hz := List.getElem?_eq_getElem hl; exact ahead_trans (he _ _ hz) (ih i x _ hx hz) (ha (i + 1 + d) _ y hz (by rw [← hy]; congr 1))
theorem VersP.far {now : Int} {l : List Ver} (h : VersP now l) {i j : Nat} {x y : Ver} (hij : i < j) (hx : l[i]? = some x) (hy : l[j]? = some y) : ahead x y = true :=
  ahead_far h.2.1 h.2.2.1 (j - i - 1) i x y hx (by rw [← hy]; congr 1; omega)
theorem VersP.pair {now : Int} {l : List Ver} (h : VersP now l) : l.Pairwise fun a b => ahead a b = true := by
  rw [List.pairwise_iff_getElem]; intro i j hi hj hij; exact h.far hij (List.getElem?_eq_getElem hi) (List.getElem?_eq_getElem hj)
theorem EachV.mem {now : Int} {l : List Ver} (h : EachV now l) {x : Ver} (hx : x ∈ l) : verOk now x = true := by
  obtain ⟨i, hi⟩ := List.mem_iff_getElem?.1 hx; exact h i x hi
theorem eachV_of {now : Int} {l : List Ver} (h : ∀ x ∈ l, verOk now x = true) : EachV now l := fun _ x hx => h x (List.mem_of_getElem? hx)
theorem aheadP_of {l : List Ver} (h : l.Pairwise fun a b => ahead a b = true) : AheadP l := by
  rw [List.pairwise_iff_getElem] at h; intro i a b ha hb; obtain ⟨hi, rfl⟩ := List.getElem?_eq_some_iff.1 ha; obtain ⟨hj, rfl⟩ := List.getElem?_eq_some_iff.1 hb; exact h i (i + 1) hi hj (by omega)
theorem vis_iff {t : Int} {x : Ver} : vis t x = true ↔ x.2.2.1 ≤ t ∧ (x.2.2.2 = 0 ∨ t < x.2.2.2) := by
  simp [vis, Bool.and_eq_true, Bool.or_eq_true, decide_eq_true_eq]
theorem ahead_vis {a b : Ver} {t : Int} (h : ahead a b = true) (ha : vis t a = true) (hb : vis t b = true) : klt a.1 b.1 = true := by
  by_cases e : a.1 = b.1
  · obtain ⟨p1, p2⟩ := ahead_same h e; rw [vis_iff] at ha hb
    omega
  · exact ahead_other h e
theorem at_mem {l : List Ver} {t : Int} {r : Row} : r ∈ atL l t ↔ ∃ x ∈ l, vis t x = true ∧ r = (x.1, x.2.1) := by
  unfold atL
  simp only [List.mem_map, List.mem_filter]
  constructor
  · rintro ⟨x, ⟨h1, h2⟩, rfl⟩; exact ⟨x, h1, h2, rfl⟩
  · rintro ⟨x, h1, h2, rfl⟩; exact ⟨x, ⟨h1, h2⟩, rfl⟩
theorem at_srt {now : Int} {l : List Ver} (h : VersP now l) (t : Int) : Srt (atL l t) := by
  unfold atL Srt
  rw [List.pairwise_map]; have h1 := h.pair.sublist (List.filter_sublist (p := vis t) (l := l)); refine h1.imp_of_mem fun {a b} ha hb hab => ?_; exact ahead_vis hab (List.mem_filter.1 ha).2 (List.mem_filter.1 hb).2
theorem at_rowsP {now : Int} {l : List Ver} (h : VersP now l) {t : Int} (h0 : 0 ≤ t) (h1 : t ≤ now) : RowsP (atL l t) := by
  rw [rowsP_iff]; refine ⟨?_, fun r hr => ?_, at_srt h t⟩
  · have := h.2.2.2 t.toNat (by omega); rw [at_seen]
    rwa [Int.toNat_of_nonneg h0] at this
  · obtain ⟨x, hx, _, rfl⟩ := at_mem.1 hr; obtain ⟨p1, p2, _⟩ := verOk_parts (h.2.1.mem hx); exact ⟨p1, p2⟩
/-! ### what is forgotten -/
theorem trim_P {now : Int} {l : List Ver} (h : VersP now l) (t : Int) : VersP now (trimL l t) := by
  obtain ⟨⟨h0, h1, h2⟩, h3, _, h5⟩ := h; refine ⟨⟨h0, h1, Nat.le_trans (trimL_len l t) h2⟩, eachV_of fun x hx => h3.mem (List.mem_filter.1 hx).1, aheadP_of (VersP.pair ⟨⟨h0, h1, h2⟩, h3, ‹_›, h5⟩ |>.sublist List.filter_sublist), fun k hk => ?_⟩; refine Nat.le_trans ?_ (h5 k hk)
  unfold seen trimL
  exact ((List.filter_sublist (p := keepV t) (l := l)).filter _).length_le

/-! ### the last change -/
end Go.Proofs.Ytpmeaikiaoojkaa
namespace Go.Proofs.Ytpmeaikiaoojkaa
open Go.RowKit

/-- a right history of one's own comes back -/
def VersGot (w : World) (v : Value) (w' : World) : Prop :=
  ∃ now' A' c' l', v = .agg #[.int .i64 now', .slice A' l'.length c'] ∧ VersP now' l' ∧ Own encVer 4 131 w' w.heap.size (.slice A' l'.length c') l' ∧ Below w.heap.size w w'
def DoPost (w : World) (e : Ending) (w' : World) : Prop := ∃ v ok, e = .returned (.tuple #[v, .bool ok]) ∧ VersGot w v w'
theorem VersP.swf {now : Int} {l : List Ver} (h : VersP now l) : VerSWf l := fun x hx => by
  have := (verOk_parts (h.2.1.mem hx)).1; have h2 := keyOk_size this
  show x.1.size ≤ maxLen
  unfold maxLen; omega
def DoRel (w : World) (now : Int) (A : Option Addr) (n c B6 m base : Nat) (v7 : Value) (wr : World) : Prop :=
  ∃ (i : Nat) (l : List Ver) (A' : Option Addr) (c' : Nat), i ≤ m ∧ v7 = .int .i64 i ∧ Own encVer 4 131 wr base (.slice A' l.length c') l ∧ l.length ≤ n + i ∧ VerSWf l ∧
    BoxC wr w.heap.size 87 #[.int .i64 now, .slice A n c] ∧ BoxC wr (w.heap.size + 1) 87 #[.int .i64 0, .slice none 0 0] ∧ BoxC wr B6 87 #[.int .i64 (now + 1), .slice A' l.length c'] ∧ Below w.heap.size w wr
set_option maxHeartbeats 4000000 in
set_option maxRecDepth 100000 in
theorem l2Do (now : Int) (A : Option Addr) (n c : Nat) (l : List Ver) (B : Option Addr) (m d : Nat) (p : List Write) (w : World) (hr : Sl encVer w w.heap.size A n l) (hP : VersP now l) (hs : Sl encWrite w w.heap.size B m p) (hk : WriteSWf p) (hm : m ≤ 1000) :
    Calls Try.prog 75 #[.agg #[.int .i64 now, .slice A n c], .slice B m d] w (DoPost w) := by
  have hn60 : n ≤ 60 := by have := hP.1.2.2; rw [hr.len] at this; exact this
  have h0 : 0 ≤ now := hP.1.1; have h1 : now ≤ 40 := hP.1.2.1; have HR := Lib.hid hr; have HP := Lib.hid hP; have HS := Lib.hid hs; have HK := Lib.hid hk; have HM := Lib.hid hm; have HN := Lib.hid hn60; have b0 := bel_alloc (bel_alloc (Below.refl _ w) (.cells #[.int .i64 now, .slice A n c] 87)) (.cells #[.int .i64 0, .slice none 0 0] 87); have x1 := ((BoxC.new w 87 #[.int .i64 now, .slice A n c]).alloc (.cells #[.int .i64 0, .slice none 0 0] 87)); have x2 := (BoxC.new (w.alloc (.cells #[.int .i64 now, .slice A n c] 87)) 87 #[.int .i64 0, .slice none 0 0]); simp only [World.size_alloc] at x2
  have HZ := Lib.hid (show ((w.alloc (.cells #[.int .i64 now, .slice A n c] 87)).alloc (.cells #[.int .i64 0, .slice none 0 0] 87)).heap.size = w.heap.size + 2 by simp); obtain ⟨p0, p1⟩ := x1.k2; clear hr hP hs hk hm hn60; go_enter Try.func75, Try.ntmps75; go_wp2_with fail; generalize (w.alloc (.cells #[.int .i64 now, .slice A n c] 87)).alloc (.cells #[.int .i64 0, .slice none 0 0] 87) = w0 at *; refine (l2Copy now A n c l w0 (HR.out.on b0) (by have := HN.out; omega)).mono ?_; rintro e w1 ⟨A1, c1, rfl, o1, hb1⟩; replace x1 := x1.on hb1; replace x2 := x2.on hb1; have b1 := bel_trans b0 hb1; clear p0 p1; have y1 := x1.alloc (.cells #[.int .i64 now, .slice A1 l.length c1] 87); have y6 := BoxC.new w1 87 #[.int .i64 now, .slice A1 l.length c1]; obtain ⟨p0, p1⟩ := y1.k2; have q0 := y6.c (k := 0) rfl; have f0 := y6.f 0; have X1 := Lib.hid (x1.alloc (.cells #[.int .i64 (now + 1), .slice A1 l.length c1] 87)); have X2 := Lib.hid (x2.alloc (.cells #[.int .i64 (now + 1), .slice A1 l.length c1] 87)); have X6 := Lib.hid (BoxC.new w1 87 #[.int .i64 (now + 1), .slice A1 l.length c1]); have O1 := Lib.hid (o1.alloc (.cells #[.int .i64 (now + 1), .slice A1 l.length c1] 87)); have B1 := Lib.hid (bel_alloc b1 (.cells #[.int .i64 (now + 1), .slice A1 l.length c1] 87)); clear x1 x2 y1 y6 o1 b1; go_wp2_with fail
  go_loopw [7] (fun v7 wr => DoRel w now A n c w1.heap.size m w0.heap.size v7 wr) (fun v7 _ => m - (intOf v7).toNat)
  case atStart => exact ⟨0, l, A1, c1, Nat.zero_le _, rfl, O1.out, by have := HR.out.len; omega, HP.out.swf, X1.out, X2.out, X6.out, B1.out⟩
  case round =>
    clear p0 p1 q0 f0 X1 X2 X6 O1 B1; obtain ⟨i, l', A', c', him, rfl, ho, hl, hk, x1, x2, x6, hb⟩ := hrel; have HL := Lib.hid hl; clear hl; obtain ⟨s0, s1⟩ := x6.k2
    by_cases hi : i < m
    · have h0' : (i : Int) < (m : Int) := by omega
      have j0 : (0 : Int) ≤ (i : Int) := by omega
      have hn' : (m : Int) ≤ 1000 := by have := HM.out; omega
      obtain ⟨b, off, rfl, hbb⟩ := HS.out.spot (by omega); obtain ⟨g0, g1, g2, hx, e0, e1, e2⟩ := atWrite (HS.out.keep hb) hi; have HW := Lib.hid (HK.out.at_ hx); have X1 := Lib.hid x1; have X2 := Lib.hid x2; have X6 := Lib.hid x6; have HO := Lib.hid ho; have HKL := Lib.hid hk; have HB := Lib.hid hb; have HBW := Lib.hid (show w0.heap.size ≤ wr.heap.size by have := x6.lt; have := hb1.size; omega); clear hx x1 x2 x6 ho hk hb; go_wp2_with fail
      go_region_law (go_simp; go_at_call 94; refine (l2Write A' l'.length c' l' g0 g1 g2 (now + 1) w0.heap.size _ (by exact HO.out) HKL.out (by exact HW.out) (fun _ h => h) (by have := HL.out; have := HN.out; have := HM.out; omega) (by exact HBW.out)).mono ?_; rintro e w6 ⟨A6, c6, l6, rfl, o6, hl6, hk6, b6, k6⟩; have z6 := BoxC.keptO (by exact X6.out) k6 (by decide); have z61 := z6.c (k := 1) rfl; have fz6 := z6.f 1)
      all_goals
        have hz1 := X1.out.lt; have hz2 := X2.out.lt; have hz6 := X6.out.lt; have hw1 := hb1.size; have Y1 := Lib.hid ((BoxC.keptO (by exact X1.out) k6 (by decide)).other (B' := w1.heap.size) (k := 1) (x := .slice A6 l6.length c6) (by have := HZ.out; omega)); have Y2 := Lib.hid ((BoxC.keptO (by exact X2.out) k6 (by decide)).other (B' := w1.heap.size) (k := 1) (x := .slice A6 l6.length c6) (by have := HZ.out; omega)); have Y6 := Lib.hid (z6.set 1 (.slice A6 l6.length c6)); have Y7 := Lib.hid (o6.box z6 (by decide) (k := 1) (v := .slice A6 l6.length c6)); have Y8 := Lib.hid (bel_set (show Below w.heap.size w w6 by first | exact HB.out.trans (b6.mono (B' := w.heap.size) (by have := HZ.out; omega)) | exact HB.out.drew.trans (b6.mono (B' := w.heap.size) (by have := HZ.out; omega))) (p := ⟨w1.heap.size, 1, none⟩) (by have := HZ.out; simp only; omega) (.slice A6 l6.length c6)); have Y9 := Lib.hid (show l6.length ≤ n + (i + 1) by have := HL.out; omega); clear z6 o6 b6 k6 hl6; go_wp2_with fail; go_roundw
        case rel => exact ⟨i + 1, l6, A6, c6, by omega, by simp, Y7.out, Y9.out, hk6, Y1.out, Y2.out, Y6.out, Y8.out⟩
        case measure => simp [intOf]; omega
    · obtain rfl : i = m := by omega
      have h0' : ¬ ((i : Int) < (i : Int)) := by omega
      have hlm : l'.length ≤ 1048576 := by have := HL.out; have := HN.out; have := HM.out; omega
      have hsl := ho.sl; obtain ⟨p0, p1⟩ := x1.k2; go_wp2_with fail; refine (specVersOk (now + 1) A' l'.length c' l' _ hsl hk hlm).mono ?_; rintro e w2 ⟨rfl, hb2⟩; replace x1 := x1.on hb2; replace x2 := x2.on hb2; replace x6 := x6.on hb2; replace ho := ho.on hb2; have b2 := bel_trans hb hb2; clear p0 p1 s0 s1 hsl hb hb2 hlm; obtain ⟨p0, p1⟩ := x1.k2; obtain ⟨s0, s1⟩ := x6.k2; obtain ⟨r0, r1⟩ := x2.k2; have f0 := x2.f 0; have f1 := x2.f 1; have hz2 := x2.lt; have hle : w.heap.size ≤ w0.heap.size := by have := HZ.out; omega
      cases hok : versOk (now + 1) l'
      · clear hok; go_wp2_with fail; refine (l2Copy now A n c l w2 (HR.out.on b2) (by have := HN.out; omega)).mono ?_; rintro e w3 ⟨A3, c3, rfl, o3, b3⟩; replace x2 := x2.on b3; have b4 := bel_trans b2 b3; clear p0 p1 s0 s1 r0 r1 f0 f1; obtain ⟨r0, r1⟩ := x2.k2; have f0 := x2.f 0; have f1 := x2.f 1; have O5 := Lib.hid (((o3.box x2 (by decide) (k := 0) (v := .int .i64 now)).box (x2.set 0 (.int .i64 now)) (by decide) (k := 1) (v := .slice A3 l.length c3)).lower (base' := w.heap.size) b2.size); have B5 := Lib.hid (bel_set (bel_set b4 (p := ⟨w.heap.size + 1, 0, none⟩) (by simp only; omega) (.int .i64 now)) (p := ⟨w.heap.size + 1, 1, none⟩) (by simp only; omega) (.slice A3 l.length c3)); have z0 := Lib.hid ((((x2.set 0 (.int .i64 now)).set 1 (.slice A3 l.length c3))).c (k := 0) rfl); have z1 := Lib.hid ((((x2.set 0 (.int .i64 now)).set 1 (.slice A3 l.length c3))).c (k := 1) rfl); go_wp2_with fail; exact bodyPost_ret (v := .tuple #[.agg #[.int .i64 now, .slice A3 l.length c3], .bool false]) (by simp [results, Try.results75, go_sem, z0.out, z1.out]) rfl ⟨_, _, rfl, now, A3, c3, l, rfl, HP.out, O5.out, B5.out⟩
      · have HQ := Lib.hid (versOk_iff.1 hok); clear hok; have O5 := Lib.hid (((ho.box x2 (by decide) (k := 0) (v := .int .i64 (now + 1))).box (x2.set 0 (.int .i64 (now + 1))) (by decide) (k := 1) (v := .slice A' l'.length c')).lower (base' := w.heap.size) hle); have B5 := Lib.hid (bel_set (bel_set b2 (p := ⟨w.heap.size + 1, 0, none⟩) (by simp only; omega) (.int .i64 (now + 1))) (p := ⟨w.heap.size + 1, 1, none⟩) (by simp only; omega) (.slice A' l'.length c')); have z0 := Lib.hid ((((x2.set 0 (.int .i64 (now + 1))).set 1 (.slice A' l'.length c'))).c (k := 0) rfl); have z1 := Lib.hid ((((x2.set 0 (.int .i64 (now + 1))).set 1 (.slice A' l'.length c'))).c (k := 1) rfl); go_wp2_with fail; exact bodyPost_ret (v := .tuple #[.agg #[.int .i64 (now + 1), .slice A' l'.length c'], .bool true]) (by simp [results, Try.results75, go_sem, z0.out, z1.out]) rfl ⟨_, _, rfl, now + 1, A', c', l', rfl, HQ.out, O5.out, B5.out⟩
end Go.Proofs.Ytpmeaikiaoojkaa
