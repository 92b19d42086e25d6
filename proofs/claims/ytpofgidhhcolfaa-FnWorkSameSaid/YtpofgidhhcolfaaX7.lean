/- Contract: writes drawn (l2Writes). -/
import Derived.Test.YtpofgidhhcolfaaX6
import Derived.Test.YtpofgidhhcolfaaD4
import Derived.Test.YtpofgidhhcolfaaX1
import Derived.Deep.DeepCutAuto
namespace Go.Proofs.Ytpofgidhhcolfaa
open Go.RowKit

theorem encWrite_one : ∀ x, ∀ u ∈ encWrite x, u.oneCell' = true := by
  intro x u hu
  simp only [encWrite, List.mem_cons, List.not_mem_nil, or_false] at hu
  rcases hu with rfl | rfl | rfl <;> rfl
theorem Sl.turnG {α : Type} {enc : α → List Value} {w w' : World} {n g : Nat} {A : Option Addr} {l : List α} (h : Sl enc w w.heap.size A n l) (ht : Turn (some ⟨g, 0, none⟩) w w') (hne : ∀ x, A = some x → g ≠ x.block) : Sl enc w' w'.heap.size A n l := by
  by_cases hn : n = 0
  · subst hn
    rw [h.nil_of]
    exact Sl.nil _ _ _ _
  · obtain ⟨b, off, rfl, -⟩ := h.spot (by omega)
    exact h.far ht (fun x hx => by cases hx; exact hne _ rfl) ht.size
def SmallW (l : List Write) : Prop := ∀ x ∈ l, x.1.size ≤ 3
theorem SmallW.nil : SmallW [] := fun _ h => by cases h
theorem SmallW.take {l : List Write} (h : SmallW l) (k : Nat) : SmallW (l.take k) := fun x hx => h x (List.mem_of_mem_take hx)
theorem SmallW.drop {l : List Write} (h : SmallW l) (k : Nat) : SmallW (l.drop k) := fun x hx => h x (List.mem_of_mem_drop hx)
theorem SmallW.app {l m : List Write} (h : SmallW l) (k : SmallW m) : SmallW (l ++ m) := fun x hx => (List.mem_append.1 hx).elim (h x) (k x)
theorem SmallW.one {x : Write} (h : x.1.size ≤ 3) : SmallW [x] := fun y hy => by rw [List.mem_singleton.1 hy]; exact h
theorem SmallW.wf {l : List Write} (h : SmallW l) : WriteSWf l := fun x hx => Nat.le_trans (h x hx) (by unfold maxLen; omega)
theorem SmallW.mem {l : List Write} (h : SmallW l) {k : Nat} {x : Write} (hk : l[k]? = some x) : x.1.size ≤ 3 := h x (List.mem_of_getElem? hk)
def WritesPost (w : World) (g p : Nat) (A : Option Addr) (m c : Nat) (l : List UInt8) (e : Ending) (w' : World) : Prop :=
  ∃ (B : Option Addr) (cb : Nat) (lw : List Write) (p' : Nat), e = .returned (.slice B lw.length cb) ∧ Own encWrite 3 73 w' w.heap.size (.slice B lw.length cb) lw ∧ lw.length ≤ 6 ∧ SmallW lw ∧ p' ≤ p + 40 ∧ Rd w' g p' A m c l ∧ Turn (some ⟨g, 0, none⟩) w w'
def is2 : List Int := [1, 2, 1, 3, 0, 5]
theorem is2_small : ∀ s ∈ is2, ∃ k : Nat, s = (k : Int) ∧ k ≤ 5 := by
  intro s hs
  simp only [is2, List.mem_cons, List.not_mem_nil, or_false] at hs
  exact ⟨s.toNat, by omega, by omega⟩
def WrsRel (w : World) (g p : Nat) (A : Option Addr) (m c : Nat) (l : List UInt8) (o i : Value) (wr : World) : Prop :=
  ∃ (k p' : Nat) (lw : List Write) (d cb : Nat), i = .int .i64 (k : Int) ∧ k ≤ 5 ∧ o = .slice (some ⟨d, 0, none⟩) lw.length cb ∧ Own encWrite 3 73 wr w.heap.size (.slice (some ⟨d, 0, none⟩) lw.length cb) lw ∧ lw.length + k ≤ 5 ∧ SmallW lw ∧ p' + 7 * k ≤ p + 36 ∧ Rd wr g p' A m c l ∧ Turn (some ⟨g, 0, none⟩) w wr
def WiRel (w : World) (g p B7 : Nat) (A : Option Addr) (m c : Nat) (l : List UInt8) (d cb : Nat) (lw : List Write) (key : ByteArray) (num : Int) (gone : Bool) (v8 : Value) (wr : World) : Prop :=
  ∃ kk : Nat, kk ≤ lw.length ∧ v8 = .int .i64 (kk : Int) ∧ Own encWrite 3 73 wr w.heap.size (.slice (some ⟨d, 0, none⟩) lw.length cb) lw ∧ BoxC wr B7 73 #[.string key, .int .i64 num, .bool gone] ∧ Rd wr g p A m c l ∧ Turn (some ⟨g, 0, none⟩) w wr
theorem Turn.drewN {A : Option Addr} {w w' : World} (h : Turn A w w') (k : Nat) : Turn A w (w'.drewN k) := ⟨h.os, h.tape, h.output, h.size, h.block⟩
theorem Rd.drewN {w : World} {g p : Nat} {A : Option Addr} {m c : Nat} {l : List UInt8} (h : Rd w g p A m c l) (k : Nat) : Rd (w.drewN k) g p A m c l := h
theorem BoxC.drewN {w : World} {B : Nat} {t : TypeId} {cs : Array Value} (h : BoxC w B t cs) (k : Nat) : BoxC (w.drewN k) B t cs := h
theorem Turn.drew {A : Option Addr} {w w' : World} (h : Turn A w w') : Turn A w w'.drew := ⟨h.os, h.tape, h.output, h.size, h.block⟩

set_option maxHeartbeats 4000000 in
set_option maxRecDepth 100000 in
theorem l2Writes (g p : Nat) (A : Option Addr) (m c : Nat) (l : List UInt8) (B : Option Addr) (n cb : Nat) (lr : List Row) (w : World) (hrd : Rd w g p A m c l) (hp : p ≤ 10000)
    (hs : Sl encRow w w.heap.size B n lr) (hn : n ≤ 1000) (hne : ∀ x, B = some x → g ≠ x.block) (hsm : ∀ r ∈ lr, r.1.size ≤ 3) :
    Calls Try.prog 106 #[.pointer (some ⟨g, 0, none⟩), .slice B n cb] w (WritesPost w g p A m c l) := by
  obtain ⟨i0, hi0, hz0, hz1, hz2⟩ := info_parts info73
  have HP := Lib.hid hp
  have HS := Lib.hid hs
  have HN := Lib.hid hn
  have HNE := Lib.hid hne
  have HSM := Lib.hid hsm
  have hg := hrd.lt
  clear hp hs hn hne hsm
  go_enter Try.func106, Try.ntmps106
  go_wp2_with fail
  have r1 := (hrd.on (bel_alloc (Below.refl _ w) (.cells #[] 73)))
  have r2 := r1.on (bel_alloc (Below.refl _ (w.alloc (.cells #[] 73))) (.cells #[.int .i64 1, .int .i64 2, .int .i64 1, .int .i64 3, .int .i64 0, .int .i64 5] 3))
  have o1 := Own.alloc (Own.made0 (enc := encWrite) (sz := 3) (e := 73) w (Nat.le_refl w.heap.size)) (.cells #[.int .i64 1, .int .i64 2, .int .i64 1, .int .i64 3, .int .i64 0, .int .i64 5] 3)
  refine (numC g p 6 6 (w.heap.size + 1) 0 A m c l is2 _ r2 (by have := HP.out; omega) (by have := Sl.lit (enc := encI) (w.alloc (.cells #[] 73)) #[.int .i64 1, .int .i64 2, .int .i64 1, .int .i64 3, .int .i64 0, .int .i64 5] 3 is2 rfl 6 rfl; simpa using this) (by omega) (by omega) (by omega)).mono ?_
  rintro e w1 ⟨s, rfl, hs, hr3, ht3⟩
  obtain ⟨k0, rfl, hk0⟩ := is2_small s hs
  have o2 := o1.farRd ht3 hg
  have t1 : Turn (some ⟨g, 0, none⟩) w w1 := (((Turn.refl _ w).alloc _).alloc _).trans ht3
  clear r1 r2 o1 ht3 hs hrd
  go_wp2
  go_loopw [5, 6] (WrsRel w g p A m c l) (fun _ i _ => (intOf i).toNat)
  case atStart => exact ⟨k0, p + 1, [], w.heap.size, 0, rfl, hk0, rfl, o2, by simpa using hk0, SmallW.nil, by omega, hr3, t1⟩
  case round =>
    obtain ⟨k, p', lw, d, cb, rfl, hk, rfl, ho, hlk, hSm, hp', hr, ht⟩ := hrel
    clear o2 t1 hr3 hk0
    by_cases hk1 : 0 < k
    · have HP3 := Lib.hid hp'
      have HLK := Lib.hid hlk
      have HSW := Lib.hid hSm
      have HK := Lib.hid hk
      clear hp' hlk hSm hk
      go_wp2_with fail
      refine (l1Near g p' A m c l B n _ lr wr hr (by have := HP3.out; have := HP.out; omega) (HS.out.turnG ht HNE.out) HN.out HNE.out HSM.out).mono ?_
      rintro e w2 ⟨key, pn, rfl, hkey, hp2, hr2, ht2⟩
      have HKey := Lib.hid hkey
      have HP4 := Lib.hid hp2
      have o3 := ho.farRd ht2 hg
      have t3 := ht.trans ht2
      clear ho hr ht ht2 hkey hp2
      go_wp2_with fail
      refine (l1Value g pn A m c l w2 hr2 (by have := HP4.out; have := HP3.out; have := HP.out; omega)).mono ?_
      rintro e w3 ⟨num, rfl, -, hr3, ht3⟩
      have o4 := o3.farRd ht3 hg
      have t4 := t3.trans ht3
      clear o3 hr2 t3 ht3
      go_wp2_with fail
      have hr4 := hr3.on (bel_alloc (Below.refl _ w3) (.cells #[.string key, .int .i64 num, .bool false] 73))
      have x4 := BoxC.new w3 73 #[.string key, .int .i64 num, .bool false]
      have o5 := o4.alloc (.cells #[.string key, .int .i64 num, .bool false] 73)
      have t5 := t4.alloc (.cells #[.string key, .int .i64 num, .bool false] 73)
      have hgB := hr3.lt
      have hdB : d < w3.heap.size := (o4.block rfl).2.1
      obtain ⟨B7, hB7⟩ : ∃ B7, w3.heap.size = B7 := ⟨_, rfl⟩
      rw [hB7] at x4 hgB hdB
      clear hr3 o4 t4
      refine (pick g (pn + 2) 4 A m c l _ hr4 (by omega) (by omega) (by have := HP4.out; have := HP3.out; have := HP.out; omega)).mono ?_
      rintro e w5 ⟨v, rfl, hv, hr5, ht5⟩
      have x5 := x4.turn ht5 (fun x hx => by cases hx; simp only; omega)
      have o6 := o5.farRd ht5 hg
      have t6 := t5.trans ht5
      have hwB : w.heap.size ≤ B7 := by have h : w.heap.size ≤ d := (o5.block rfl).1; omega
      clear x4 o5 t5 hr4 ht5
      have p0 := x5.c (k := 0) rfl
      have p1 := x5.c (k := 1) rfl
      have p2 := x5.c (k := 2) rfl
      have f0 := x5.f 0
      have f1 := x5.f 1
      have f2 := x5.f 2
      go_upto_if 27 with fail
      go_cut [] (fun wx => ∃ num gone, BoxC wx B7 73 #[.string key, .int .i64 num, .bool gone] ∧ Own encWrite 3 73 wx w.heap.size (.slice (some ⟨d, 0, none⟩) lw.length cb) lw ∧ Rd wx g (pn + 2 + 1) A m c l ∧ Turn (some ⟨g, 0, none⟩) w wx)
      case first =>
        by_cases hv0 : v = 0
        · subst hv0
          go_wp2_with fail
          go_meet
          have tB := (((Turn.refl (some ⟨B7, 0, none⟩) w5).set 0 (.string key)).set 1 (.int .i64 0)).set 2 (.bool true)
          have x6 := ((x5.set 0 (.string key)).set 1 (.int .i64 0)).set 2 (.bool true)
          have o7 := o6.far tB (fun x y hx hy => by cases hx; cases hy; simp only; omega)
          have r7 := hr5.keep ((((Below.refl (g + 1) w5).setCell (p := ⟨B7, 0, none⟩) (by simp only; omega) (.string key)).setCell (p := ⟨B7, 1, none⟩) (by simp only; omega) (.int .i64 0)).setCell (p := ⟨B7, 2, none⟩) (by simp only; omega) (.bool true)) (Nat.lt_succ_self g)
          have t7 := ((t6.setOwn (o := 0) hwB (.string key)).setOwn (o := 1) hwB (.int .i64 0)).setOwn (o := 2) hwB (.bool true)
          exact ⟨0, true, x6, o7, r7, t7⟩
        · have hv1 : ((v : Int) == 0) = false := by simp; omega
          go_wp2_with fail
          go_meet
          exact ⟨num, false, x5, o6, hr5, t6⟩
      case rest =>
      obtain ⟨num, gone, x6, o7, r7, t7⟩ := hcut
      clear x5 o6 hr5 t6 p0 p1 p2 f0 f1 f2
      go_wp2_with fail
      go_loopw [8] (WiRel w g (pn + 2 + 1) B7 A m c l d cb lw key num gone) (fun v8 _ => lw.length - (intOf v8).toNat)
      case atStart => exact ⟨0, Nat.zero_le _, rfl, o7, x6, r7, t7⟩
      case round =>
        clear x6 o7 r7 t7
        obtain ⟨kk, hkk, rfl, hoi, xi, hri, hti⟩ := hrel
        have q0 := xi.c (k := 0) rfl
        have q1 := xi.c (k := 1) rfl
        have q2 := xi.c (k := 2) rfl
        have i0' : (0 : Int) ≤ (kk : Int) := by omega
        have hll : lw.length ≤ 5 := by have := HLK.out; omega
        have hk5 : k ≤ 5 := HK.out
        by_cases hlt : kk < lw.length
        · obtain ⟨key2, num2, gone2, hrow, e0, e1, e2⟩ := atWrite hoi.sl hlt
          simp only [Nat.zero_add] at e0 e1 e2
          have i1 : (kk : Int) < (lw.length : Int) := by omega
          clear hrow
          cases hq : Wx.klt key2 key
          all_goals
            have hq' : Op.bytesLess key2.toList key.toList = _ := hq
            clear hq
          · go_wp2_with fail
            go_quiet (fail)
            go_wp2_with fail
            go_cut [60] (fun v60 wx => ∃ b, v60 = .bool b ∧ Own encWrite 3 73 wx w.heap.size (.slice (some ⟨d, 0, none⟩) lw.length cb) lw ∧ BoxC wx B7 73 #[.string key, .int .i64 num, .bool gone] ∧ Rd wx g (pn + 2 + 1) A m c l ∧ Turn (some ⟨g, 0, none⟩) w wx)
            case first =>
              cases hk : (key2.toList == key.toList)
              all_goals
                go_quiet (fail)
                go_wp2_with fail
                go_meet
                exact ⟨_, rfl, (hoi.drewN _).drewN _, (xi.drewN _).drewN _, (hri.drewN _).drewN _, (hti.drewN _).drewN _⟩
            case rest =>
            obtain ⟨b, rfl, oj, xj, rj, tj⟩ := hcut
            clear hoi xi hri hti
            cases b
            · go_upto_region 12 with fail
              have HC : lw.length ≤ cb := by obtain ⟨A', c', h1, h2, h3⟩ := oj.form; injection h1 with _ _ h4; omega
              have j1 : (kk : Int) ≤ (lw.length : Int) := by omega
              have j2 : (kk : Int) ≤ (cb : Int) := by omega
              have j3 : (lw.length : Int) ≤ (cb : Int) := by omega
              have om := Own.made0 (enc := encWrite) (sz := 3) (e := 73) wc (Nat.le_refl wc.heap.size)
              have rs := ((oj.alloc (.cells #[] 73)).sl).rest encWrite_len hkk HC
              simp only [Nat.zero_add] at rs
              go_cut [9] (fun v9 wx => ∃ A9 c9, v9 = .slice A9 (lw.length - kk) c9 ∧ Own encWrite 3 73 wx w.heap.size (.slice A9 (lw.length - kk) c9) (lw.drop kk) ∧ Own encWrite 3 73 wx w.heap.size (.slice (some ⟨d, 0, none⟩) lw.length cb) lw ∧ BoxC wx B7 73 #[.string key, .int .i64 num, .bool gone] ∧ Rd wx g (pn + 2 + 1) A m c l ∧ Turn (some ⟨g, 0, none⟩) w wx)
              case first =>
                by_cases hcb : cb = kk
                · rw [if_pos hcb] at rs
                  subst hcb
                  rw [show lw.length - cb = 0 by omega] at rs
                  go_wp2_with (at_builtin; refine wpList_append_sl _ rfl _ _ 27 rfl wc.heap.size 73 i0 _ 3 32 Try.underlying27 hi0 hz0 hz1 hz2 rfl (by decide) encWrite_len encWrite_one _ [] rfl om _ (some ⟨d, 0, none⟩) 0 0 (lw.drop cb) rfl rs (by unfold maxLen; simp) (by simp) (by simp) ?_; intro v9 w9 o9 g9)
                  all_goals
                    go_meet
                    simp only [List.nil_append] at o9
                    obtain ⟨A9, c9, rfl, -, -⟩ := o9.form
                    rw [show (lw.drop cb).length = lw.length - cb by rw [List.length_drop]] at o9 ⊢
                    have b9 := bel_grown (bel_alloc (Below.refl _ wc) (.cells #[] 73)) g9 (fun k hk => (World.ownsRow.lt om k hk).1)
                    exact ⟨A9, c9, rfl, o9.lower tj.size, oj.on b9, xj.on b9, rj.on b9, tj.below b9⟩
                · rw [if_neg hcb] at rs
                  go_wp2_with (at_builtin; refine wpList_append_sl _ rfl _ _ 27 rfl wc.heap.size 73 i0 _ 3 32 Try.underlying27 hi0 hz0 hz1 hz2 rfl (by decide) encWrite_len encWrite_one _ [] rfl om _ (some ⟨d, kk * 3, none⟩) (lw.length - kk) (cb - kk) (lw.drop kk) rfl rs (by unfold maxLen; simp; omega) (by simp; omega) (by simp) ?_; intro v9 w9 o9 g9)
                  go_meet
                  simp only [List.nil_append] at o9
                  obtain ⟨A9, c9, rfl, -, -⟩ := o9.form
                  rw [show (lw.drop kk).length = lw.length - kk by rw [List.length_drop]] at o9 ⊢
                  have b9 := bel_grown (bel_alloc (Below.refl _ wc) (.cells #[] 73)) g9 (fun k hk => (World.ownsRow.lt om k hk).1)
                  exact ⟨A9, c9, rfl, o9.lower tj.size, oj.on b9, xj.on b9, rj.on b9, tj.below b9⟩
              case rest =>
              clear om rs oj xj rj tj
              obtain ⟨A9, c9, rfl, ot, oj, xj, rj, tj⟩ := hcut
              go_upto_region 13 with fail
              have hlt1 : (lw.take kk).length = kk := by rw [List.length_take]; omega
              have hld : (lw.drop kk).length = lw.length - kk := by rw [List.length_drop]
              have HS1 := Lib.hid (show ([] : List Write).length + kk ≤ maxLen by unfold maxLen; simp; omega)
              have HS2 := Lib.hid (show (([] : List Write).length + kk) * 32 ≤ 140737488355328 by simp; omega)
              have HS3 := Lib.hid (show ([] ++ lw.take kk).length + 1 ≤ maxLen by unfold maxLen; rw [List.nil_append, hlt1]; omega)
              have HS4 := Lib.hid (show (([] ++ lw.take kk).length + 1) * 32 ≤ 140737488355328 by rw [List.nil_append, hlt1]; omega)
              have HS5 := Lib.hid (show ([] ++ lw.take kk ++ [(key, num, gone)]).length + (lw.length - kk) ≤ maxLen by unfold maxLen; rw [List.nil_append, List.length_append, hlt1]; simp; omega)
              have HS6 := Lib.hid (show (([] ++ lw.take kk ++ [(key, num, gone)]).length + (lw.length - kk)) * 32 ≤ 140737488355328 by rw [List.nil_append, List.length_append, hlt1]; simp; omega)
              have HLN := Lib.hid (show ([] ++ lw.take kk ++ [(key, num, gone)] ++ lw.drop kk).length = lw.length + 1 by rw [List.nil_append, List.length_append, List.length_append, hlt1, hld]; simp; omega)
              have HSN := Lib.hid (show SmallW ([] ++ lw.take kk ++ [(key, num, gone)] ++ lw.drop kk) by rw [List.nil_append]; exact ((HSW.out.take kk).app (SmallW.one HKey.out)).app (HSW.out.drop kk))
              clear hlt1 hld
              have OMa := Lib.hid (Own.made0 (enc := encWrite) (sz := 3) (e := 73) wc (Nat.le_refl wc.heap.size)).drew
              have OMb := Lib.hid ((Own.made0 (enc := encWrite) (sz := 3) (e := 73) wc (Nat.le_refl wc.heap.size)).alloc (.cells #[.string key, .int .i64 num, .bool gone] 73)).drew
              have OMc := Lib.hid (show Own encWrite 3 73 ((wc.alloc (.cells #[.string key, .int .i64 num, .bool gone] 73)).alloc (.cells #[] 73)).drew wc.heap.size (.slice (some ⟨wc.heap.size + 1, 0, none⟩) 0 0) ([] : List Write) by have := Own.made0 (enc := encWrite) (sz := 3) (e := 73) (base := wc.heap.size) (wc.alloc (.cells #[.string key, .int .i64 num, .bool gone] 73)) (by simp); rw [World.size_alloc] at this; exact this.drew)
              have SAa := Lib.hid (((oj.alloc (.cells #[] 73)).drew.sl).head encWrite_len hkk)
              have SAb := Lib.hid ((((oj.alloc (.cells #[] 73)).alloc (.cells #[.string key, .int .i64 num, .bool gone] 73)).drew.sl).head encWrite_len hkk)
              have SAc := Lib.hid ((((oj.alloc (.cells #[.string key, .int .i64 num, .bool gone] 73)).alloc (.cells #[] 73)).drew.sl).head encWrite_len hkk)
              have BAa := Lib.hid (bel_alloc (Below.refl wc.heap.size wc) (.cells #[] 73)).drew
              have BAb := Lib.hid (bel_alloc (bel_alloc (Below.refl wc.heap.size wc) (.cells #[] 73)) (.cells #[.string key, .int .i64 num, .bool gone] 73)).drew
              have BAc := Lib.hid (bel_alloc (bel_alloc (Below.refl wc.heap.size wc) (.cells #[.string key, .int .i64 num, .bool gone] 73)) (.cells #[] 73)).drew
              have LTb := Lib.hid (show Sl encWrite ((wc.alloc (.cells #[] 73)).alloc (.cells #[.string key, .int .i64 num, .bool gone] 73)).drew ((wc.alloc (.cells #[] 73)).alloc (.cells #[.string key, .int .i64 num, .bool gone] 73)).drew.heap.size (some ⟨wc.heap.size + 1, 0, none⟩) 1 [(key, num, gone)] by have h := Sl.lit1 (enc := encWrite) (wc.alloc (.cells #[] 73)) #[.string key, .int .i64 num, .bool gone] 73 (key, num, gone) rfl; rw [World.size_alloc wc] at h; exact h)
              have LTc := Lib.hid (show Sl encWrite ((wc.alloc (.cells #[.string key, .int .i64 num, .bool gone] 73)).alloc (.cells #[] 73)).drew ((wc.alloc (.cells #[.string key, .int .i64 num, .bool gone] 73)).alloc (.cells #[] 73)).drew.heap.size (some ⟨wc.heap.size, 0, none⟩) 1 [(key, num, gone)] by have h := Sl.lit1 (enc := encWrite) wc #[.string key, .int .i64 num, .bool gone] 73 (key, num, gone) rfl; have h2 := (h.keep (bel_alloc (Below.refl _ _) (.cells #[] 73))).more (B' := ((wc.alloc (.cells #[.string key, .int .i64 num, .bool gone] 73)).alloc (.cells #[] 73)).heap.size) (by simp); exact h2)
              have hzB := xj.lt
              have n0 := World.new_ne wc _ (xj.c (k := 0) rfl)
              have n1 := World.new_ne wc _ (xj.c (k := 1) rfl)
              have n2 := World.new_ne wc _ (xj.c (k := 2) rfl)
              have m0 := xj.c (k := 0) rfl
              have m1 := xj.c (k := 1) rfl
              have m2 := xj.c (k := 2) rfl
              go_cut [10] (fun v10 wx => ∃ d' c' N, N.length = lw.length + 1 ∧ SmallW N ∧ v10 = .slice (some ⟨d', 0, none⟩) N.length c' ∧ Own encWrite 3 73 wx w.heap.size (.slice (some ⟨d', 0, none⟩) N.length c') N ∧ Own encWrite 3 73 wx w.heap.size (.slice (some ⟨d, 0, none⟩) lw.length cb) lw ∧ Rd wx g (pn + 2 + 1) A m c l ∧ Turn (some ⟨g, 0, none⟩) w wx)
              case first =>
                go_region_law (first
                  | (refine step_append_sl _ (by rfl) (.tmp 66) (.tmp 69) 27 (by rfl) wc.heap.size 73 i0 _ 3 32 Try.underlying27 hi0 hz0 hz1 hz2 rfl (by decide) encWrite_len encWrite_one _ [] (by rfl) OMa.out _ (some ⟨d, 0, none⟩) kk cb (lw.take kk) (by rfl) SAa.out HS1.out HS2.out BAa.out.size ?_; intro v7 w7 o7 g7; have b7 := bel_grown BAa.out g7 (fun k hk => (World.ownsRow.lt OMa.out k hk).1); have x7 := xj.on b7; have q70 := x7.c (k := 0) rfl; have q71 := x7.c (k := 1) rfl; have q72 := x7.c (k := 2) rfl; have z7 := b7.size)
                  | (refine step_append_sl _ (by rfl) (.tmp 66) (.tmp 69) 27 (by rfl) wc.heap.size 73 i0 _ 3 32 Try.underlying27 hi0 hz0 hz1 hz2 rfl (by decide) encWrite_len encWrite_one _ [] (by rfl) OMb.out _ (some ⟨d, 0, none⟩) kk cb (lw.take kk) (by rfl) SAb.out HS1.out HS2.out BAb.out.size ?_; intro v7 w7 o7 g7; have b7 := bel_grown BAb.out g7 (fun k hk => (World.ownsRow.lt OMb.out k hk).1); have x7 := xj.on b7; have q70 := x7.c (k := 0) rfl; have q71 := x7.c (k := 1) rfl; have q72 := x7.c (k := 2) rfl; have z7 := b7.size; have l7 := LTb.out.far (A := some ⟨wc.heap.size, 0, none⟩) (show Turn _ _ w7 from g7) (fun x hx => by cases hx; simp) (Nat.le_refl _))
                  | (refine step_append_sl _ (by rfl) (.tmp 66) (.tmp 69) 27 (by rfl) wc.heap.size 73 i0 _ 3 32 Try.underlying27 hi0 hz0 hz1 hz2 rfl (by decide) encWrite_len encWrite_one _ [] (by rfl) OMc.out _ (some ⟨d, 0, none⟩) kk cb (lw.take kk) (by rfl) SAc.out HS1.out HS2.out BAc.out.size ?_; intro v7 w7 o7 g7; have b7 := bel_grown BAc.out g7 (fun k hk => (World.ownsRow.lt OMc.out k hk).1); have x7 := xj.on b7; have q70 := x7.c (k := 0) rfl; have q71 := x7.c (k := 1) rfl; have q72 := x7.c (k := 2) rfl; have z7 := b7.size; have l7 := LTc.out.far (A := some ⟨wc.heap.size + 1, 0, none⟩) (show Turn _ _ w7 from g7) (fun x hx => by cases hx; simp) (Nat.le_refl _))
                  | (refine step_append_sl _ (by rfl) (.tmp 70) (.tmp 72) 27 (by rfl) wc.heap.size 73 i0 _ 3 32 Try.underlying27 hi0 hz0 hz1 hz2 rfl (by decide) encWrite_len encWrite_one _ _ (by rfl) (Own.alloc o7 (.cells #[.string key, .int .i64 num, .bool gone] 73)) _ (some ⟨w7.heap.size, 0, none⟩) 1 1 [(key, num, gone)] (by rfl) (Sl.lit1 (enc := encWrite) w7 #[.string key, .int .i64 num, .bool gone] 73 (key, num, gone) rfl) HS3.out HS4.out (by first | exact z7 | (rw [World.size_alloc]; omega)) ?_; intro v8 w8 o8 g8; have b8 := bel_grown (bel_alloc b7 (.cells #[.string key, .int .i64 num, .bool gone] 73)) g8 (fun k hk => (World.ownsRow.lt o7 k hk).1); have ot8 := ot.on b8; have z8 := b8.size)
                  | (refine step_append_sl _ (by rfl) (.tmp 70) (.tmp 72) 27 (by rfl) wc.heap.size 73 i0 _ 3 32 Try.underlying27 hi0 hz0 hz1 hz2 rfl (by decide) encWrite_len encWrite_one _ _ (by rfl) o7 _ (some ⟨wc.heap.size + 1, 0, none⟩) 1 1 [(key, num, gone)] (by rfl) l7 HS3.out HS4.out (by first | exact z7 | (rw [World.size_alloc]; omega)) ?_; intro v8 w8 o8 g8; have b8 := bel_grown b7 g8 (fun k hk => (World.ownsRow.lt o7 k hk).1); have ot8 := ot.on b8; have z8 := b8.size)
                  | (refine step_append_sl _ (by rfl) (.tmp 70) (.tmp 72) 27 (by rfl) wc.heap.size 73 i0 _ 3 32 Try.underlying27 hi0 hz0 hz1 hz2 rfl (by decide) encWrite_len encWrite_one _ _ (by rfl) o7 _ (some ⟨wc.heap.size, 0, none⟩) 1 1 [(key, num, gone)] (by rfl) l7 HS3.out HS4.out (by first | exact z7 | (rw [World.size_alloc]; omega)) ?_; intro v8 w8 o8 g8; have b8 := bel_grown b7 g8 (fun k hk => (World.ownsRow.lt o7 k hk).1); have ot8 := ot.on b8; have z8 := b8.size)
                  | (refine step_append_sl _ (by rfl) (.tmp 73) (.tmp 74) 27 (by rfl) wc.heap.size 73 i0 _ 3 32 Try.underlying27 hi0 hz0 hz1 hz2 rfl (by decide) encWrite_len encWrite_one _ _ (by rfl) o8 _ A9 (lw.length - kk) c9 (lw.drop kk) (by rfl) ot8.sl HS5.out HS6.out z8 ?_; intro v9 w9 o9 g9; have b9 := bel_grown b8 g9 (fun k hk => (World.ownsRow.lt o8 k hk).1)))
                all_goals
                  go_wp2_with fail
                  go_meet
                  obtain ⟨A', c', rfl, -, -⟩ := o9.form
                  obtain ⟨d', rfl⟩ := o9.zero (k := 0) (by have := HLN.out; omega)
                  exact ⟨d', c', _, HLN.out, HSN.out, rfl, o9.lower tj.size, oj.on b9, rj.on b9, tj.below b9⟩
              case rest =>
              clear ot oj rj tj
              obtain ⟨d', c', N, hNl, hNs, rfl, on, oj, rj, tj⟩ := hcut
              clear xj
              have HNl := Lib.hid hNl
              have HlN := Lib.hid (show N.length ≤ 5 by have := HLK.out; omega)
              clear hNl
              cases hok : Wx.writesOk 6 N
              all_goals
                have HOK := Lib.hid hok
                clear hok
                go_wp2_with fail
                refine (Wx.specWritesOk (some ⟨d', 0, none⟩) N.length c' N wc on.sl hNs.wf (by have := HlN.out; omega)).mono ?_
                rintro e wd ⟨rfl, hbd⟩
                rw [HOK.out]
                have on2 := on.on hbd
                have oj2 := oj.on hbd
                have rj2 := rj.on hbd
                have tj2 := tj.below hbd
                clear on oj rj tj
              · go_wp2_with fail
                refine (pick g (pn + 2 + 1) 20 A m c l wd rj2 (by omega) (by omega) (by have := HP4.out; have := HP3.out; have := HP.out; omega)).mono ?_
                rintro e we ⟨v2, rfl, hv2, hre, hte⟩
                have on3 := on2.farRd hte hg
                have oj3 := oj2.farRd hte hg
                have tj3 := tj2.trans hte
                clear on2 oj2 rj2 tj2 hte
                by_cases hv3 : v2 = 0
                · subst hv3
                  go_wp2_with fail
                  go_roundw
                  case rel => exact ⟨k - 1, pn + 2 + 1 + 1, N, d', c', by rw [show ((k - 1 : Nat) : Int) = (k : Int) - 1 by omega], by have := HK.out; omega, rfl, on3, by have := HLK.out; have := HNl.out; omega, hNs, by have := HP3.out; have := HP4.out; omega, hre, tj3⟩
                  case measure => simp [intOf]; omega
                · have hv4 : ((v2 : Int) == 0) = false := by simp; omega
                  go_wp2_with fail
                  go_roundw
                  case rel => exact ⟨k - 1, pn + 2 + 1 + 1, lw, d, cb, by rw [show ((k - 1 : Nat) : Int) = (k : Int) - 1 by omega], by have := HK.out; omega, rfl, oj3, by have := HLK.out; omega, HSW.out, by have := HP3.out; have := HP4.out; omega, hre, tj3⟩
                  case measure => simp [intOf]; omega
              · go_wp2_with fail
                go_roundw
                case rel => exact ⟨k - 1, pn + 2 + 1, N, d', c', by rw [show ((k - 1 : Nat) : Int) = (k : Int) - 1 by omega], by have := HK.out; omega, rfl, on2, by have := HLK.out; have := HNl.out; omega, hNs, by have := HP3.out; have := HP4.out; omega, rj2, tj2⟩
                case measure => simp [intOf]; omega
            · go_wp2_with fail
              go_roundw
              case rel => exact ⟨k - 1, pn + 2 + 1, lw, d, cb, by rw [show ((k - 1 : Nat) : Int) = (k : Int) - 1 by omega], by have := HK.out; omega, rfl, oj, by have := HLK.out; omega, HSW.out, by have := HP3.out; have := HP4.out; omega, rj, tj⟩
              case measure => simp [intOf]; omega
          · go_wp2_with fail
            go_quiet (fail)
            go_wp2_with fail
            exact ⟨⟨kk + 1, by omega, by simp, hoi.drewN _, xi.drewN _, hri.drewN _, hti.drewN _⟩, by simp [intOf]; omega⟩
        · have i1 : ¬ (kk : Int) < (lw.length : Int) := by omega
          go_wp2_with fail
          go_quiet (fail)
          go_wp2_with fail
          go_cut [60] (fun v60 wx => ∃ b, v60 = .bool b ∧ Own encWrite 3 73 wx w.heap.size (.slice (some ⟨d, 0, none⟩) lw.length cb) lw ∧ BoxC wx B7 73 #[.string key, .int .i64 num, .bool gone] ∧ Rd wx g (pn + 2 + 1) A m c l ∧ Turn (some ⟨g, 0, none⟩) w wx)
          case first =>
            go_quiet (fail)
            go_wp2_with fail
            go_meet
            exact ⟨_, rfl, (hoi.drewN _).drewN _, (xi.drewN _).drewN _, (hri.drewN _).drewN _, (hti.drewN _).drewN _⟩
          case rest =>
          obtain ⟨b, rfl, oj, xj, rj, tj⟩ := hcut
          clear hoi xi hri hti
          cases b
          · go_upto_region 12 with fail
            have HC : lw.length ≤ cb := by obtain ⟨A', c', h1, h2, h3⟩ := oj.form; injection h1 with _ _ h4; omega
            have j1 : (kk : Int) ≤ (lw.length : Int) := by omega
            have j2 : (kk : Int) ≤ (cb : Int) := by omega
            have j3 : (lw.length : Int) ≤ (cb : Int) := by omega
            have om := Own.made0 (enc := encWrite) (sz := 3) (e := 73) wc (Nat.le_refl wc.heap.size)
            have rs := ((oj.alloc (.cells #[] 73)).sl).rest encWrite_len hkk HC
            simp only [Nat.zero_add] at rs
            go_cut [9] (fun v9 wx => ∃ A9 c9, v9 = .slice A9 (lw.length - kk) c9 ∧ Own encWrite 3 73 wx w.heap.size (.slice A9 (lw.length - kk) c9) (lw.drop kk) ∧ Own encWrite 3 73 wx w.heap.size (.slice (some ⟨d, 0, none⟩) lw.length cb) lw ∧ BoxC wx B7 73 #[.string key, .int .i64 num, .bool gone] ∧ Rd wx g (pn + 2 + 1) A m c l ∧ Turn (some ⟨g, 0, none⟩) w wx)
            case first =>
              by_cases hcb : cb = kk
              · rw [if_pos hcb] at rs
                subst hcb
                rw [show lw.length - cb = 0 by omega] at rs
                go_wp2_with (at_builtin; refine wpList_append_sl _ rfl _ _ 27 rfl wc.heap.size 73 i0 _ 3 32 Try.underlying27 hi0 hz0 hz1 hz2 rfl (by decide) encWrite_len encWrite_one _ [] rfl om _ (some ⟨d, 0, none⟩) 0 0 (lw.drop cb) rfl rs (by unfold maxLen; simp) (by simp) (by simp) ?_; intro v9 w9 o9 g9)
                all_goals
                  go_meet
                  simp only [List.nil_append] at o9
                  obtain ⟨A9, c9, rfl, -, -⟩ := o9.form
                  rw [show (lw.drop cb).length = lw.length - cb by rw [List.length_drop]] at o9 ⊢
                  have b9 := bel_grown (bel_alloc (Below.refl _ wc) (.cells #[] 73)) g9 (fun k hk => (World.ownsRow.lt om k hk).1)
                  exact ⟨A9, c9, rfl, o9.lower tj.size, oj.on b9, xj.on b9, rj.on b9, tj.below b9⟩
              · rw [if_neg hcb] at rs
                go_wp2_with (at_builtin; refine wpList_append_sl _ rfl _ _ 27 rfl wc.heap.size 73 i0 _ 3 32 Try.underlying27 hi0 hz0 hz1 hz2 rfl (by decide) encWrite_len encWrite_one _ [] rfl om _ (some ⟨d, kk * 3, none⟩) (lw.length - kk) (cb - kk) (lw.drop kk) rfl rs (by unfold maxLen; simp; omega) (by simp; omega) (by simp) ?_; intro v9 w9 o9 g9)
                go_meet
                simp only [List.nil_append] at o9
                obtain ⟨A9, c9, rfl, -, -⟩ := o9.form
                rw [show (lw.drop kk).length = lw.length - kk by rw [List.length_drop]] at o9 ⊢
                have b9 := bel_grown (bel_alloc (Below.refl _ wc) (.cells #[] 73)) g9 (fun k hk => (World.ownsRow.lt om k hk).1)
                exact ⟨A9, c9, rfl, o9.lower tj.size, oj.on b9, xj.on b9, rj.on b9, tj.below b9⟩
            case rest =>
            clear om rs oj xj rj tj
            obtain ⟨A9, c9, rfl, ot, oj, xj, rj, tj⟩ := hcut
            go_upto_region 13 with fail
            have hlt1 : (lw.take kk).length = kk := by rw [List.length_take]; omega
            have hld : (lw.drop kk).length = lw.length - kk := by rw [List.length_drop]
            have HS1 := Lib.hid (show ([] : List Write).length + kk ≤ maxLen by unfold maxLen; simp; omega)
            have HS2 := Lib.hid (show (([] : List Write).length + kk) * 32 ≤ 140737488355328 by simp; omega)
            have HS3 := Lib.hid (show ([] ++ lw.take kk).length + 1 ≤ maxLen by unfold maxLen; rw [List.nil_append, hlt1]; omega)
            have HS4 := Lib.hid (show (([] ++ lw.take kk).length + 1) * 32 ≤ 140737488355328 by rw [List.nil_append, hlt1]; omega)
            have HS5 := Lib.hid (show ([] ++ lw.take kk ++ [(key, num, gone)]).length + (lw.length - kk) ≤ maxLen by unfold maxLen; rw [List.nil_append, List.length_append, hlt1]; simp; omega)
            have HS6 := Lib.hid (show (([] ++ lw.take kk ++ [(key, num, gone)]).length + (lw.length - kk)) * 32 ≤ 140737488355328 by rw [List.nil_append, List.length_append, hlt1]; simp; omega)
            have HLN := Lib.hid (show ([] ++ lw.take kk ++ [(key, num, gone)] ++ lw.drop kk).length = lw.length + 1 by rw [List.nil_append, List.length_append, List.length_append, hlt1, hld]; simp; omega)
            have HSN := Lib.hid (show SmallW ([] ++ lw.take kk ++ [(key, num, gone)] ++ lw.drop kk) by rw [List.nil_append]; exact ((HSW.out.take kk).app (SmallW.one HKey.out)).app (HSW.out.drop kk))
            clear hlt1 hld
            have OMa := Lib.hid (Own.made0 (enc := encWrite) (sz := 3) (e := 73) wc (Nat.le_refl wc.heap.size)).drew
            have OMb := Lib.hid ((Own.made0 (enc := encWrite) (sz := 3) (e := 73) wc (Nat.le_refl wc.heap.size)).alloc (.cells #[.string key, .int .i64 num, .bool gone] 73)).drew
            have OMc := Lib.hid (show Own encWrite 3 73 ((wc.alloc (.cells #[.string key, .int .i64 num, .bool gone] 73)).alloc (.cells #[] 73)).drew wc.heap.size (.slice (some ⟨wc.heap.size + 1, 0, none⟩) 0 0) ([] : List Write) by have := Own.made0 (enc := encWrite) (sz := 3) (e := 73) (base := wc.heap.size) (wc.alloc (.cells #[.string key, .int .i64 num, .bool gone] 73)) (by simp); rw [World.size_alloc] at this; exact this.drew)
            have SAa := Lib.hid (((oj.alloc (.cells #[] 73)).drew.sl).head encWrite_len hkk)
            have SAb := Lib.hid ((((oj.alloc (.cells #[] 73)).alloc (.cells #[.string key, .int .i64 num, .bool gone] 73)).drew.sl).head encWrite_len hkk)
            have SAc := Lib.hid ((((oj.alloc (.cells #[.string key, .int .i64 num, .bool gone] 73)).alloc (.cells #[] 73)).drew.sl).head encWrite_len hkk)
            have BAa := Lib.hid (bel_alloc (Below.refl wc.heap.size wc) (.cells #[] 73)).drew
            have BAb := Lib.hid (bel_alloc (bel_alloc (Below.refl wc.heap.size wc) (.cells #[] 73)) (.cells #[.string key, .int .i64 num, .bool gone] 73)).drew
            have BAc := Lib.hid (bel_alloc (bel_alloc (Below.refl wc.heap.size wc) (.cells #[.string key, .int .i64 num, .bool gone] 73)) (.cells #[] 73)).drew
            have LTb := Lib.hid (show Sl encWrite ((wc.alloc (.cells #[] 73)).alloc (.cells #[.string key, .int .i64 num, .bool gone] 73)).drew ((wc.alloc (.cells #[] 73)).alloc (.cells #[.string key, .int .i64 num, .bool gone] 73)).drew.heap.size (some ⟨wc.heap.size + 1, 0, none⟩) 1 [(key, num, gone)] by have h := Sl.lit1 (enc := encWrite) (wc.alloc (.cells #[] 73)) #[.string key, .int .i64 num, .bool gone] 73 (key, num, gone) rfl; rw [World.size_alloc wc] at h; exact h)
            have LTc := Lib.hid (show Sl encWrite ((wc.alloc (.cells #[.string key, .int .i64 num, .bool gone] 73)).alloc (.cells #[] 73)).drew ((wc.alloc (.cells #[.string key, .int .i64 num, .bool gone] 73)).alloc (.cells #[] 73)).drew.heap.size (some ⟨wc.heap.size, 0, none⟩) 1 [(key, num, gone)] by have h := Sl.lit1 (enc := encWrite) wc #[.string key, .int .i64 num, .bool gone] 73 (key, num, gone) rfl; have h2 := (h.keep (bel_alloc (Below.refl _ _) (.cells #[] 73))).more (B' := ((wc.alloc (.cells #[.string key, .int .i64 num, .bool gone] 73)).alloc (.cells #[] 73)).heap.size) (by simp); exact h2)
            have hzB := xj.lt
            have n0 := World.new_ne wc _ (xj.c (k := 0) rfl)
            have n1 := World.new_ne wc _ (xj.c (k := 1) rfl)
            have n2 := World.new_ne wc _ (xj.c (k := 2) rfl)
            have m0 := xj.c (k := 0) rfl
            have m1 := xj.c (k := 1) rfl
            have m2 := xj.c (k := 2) rfl
            go_cut [10] (fun v10 wx => ∃ d' c' N, N.length = lw.length + 1 ∧ SmallW N ∧ v10 = .slice (some ⟨d', 0, none⟩) N.length c' ∧ Own encWrite 3 73 wx w.heap.size (.slice (some ⟨d', 0, none⟩) N.length c') N ∧ Own encWrite 3 73 wx w.heap.size (.slice (some ⟨d, 0, none⟩) lw.length cb) lw ∧ Rd wx g (pn + 2 + 1) A m c l ∧ Turn (some ⟨g, 0, none⟩) w wx)
            case first =>
              go_region_law (first
                | (refine step_append_sl _ (by rfl) (.tmp 66) (.tmp 69) 27 (by rfl) wc.heap.size 73 i0 _ 3 32 Try.underlying27 hi0 hz0 hz1 hz2 rfl (by decide) encWrite_len encWrite_one _ [] (by rfl) OMa.out _ (some ⟨d, 0, none⟩) kk cb (lw.take kk) (by rfl) SAa.out HS1.out HS2.out BAa.out.size ?_; intro v7 w7 o7 g7; have b7 := bel_grown BAa.out g7 (fun k hk => (World.ownsRow.lt OMa.out k hk).1); have x7 := xj.on b7; have q70 := x7.c (k := 0) rfl; have q71 := x7.c (k := 1) rfl; have q72 := x7.c (k := 2) rfl; have z7 := b7.size)
                | (refine step_append_sl _ (by rfl) (.tmp 66) (.tmp 69) 27 (by rfl) wc.heap.size 73 i0 _ 3 32 Try.underlying27 hi0 hz0 hz1 hz2 rfl (by decide) encWrite_len encWrite_one _ [] (by rfl) OMb.out _ (some ⟨d, 0, none⟩) kk cb (lw.take kk) (by rfl) SAb.out HS1.out HS2.out BAb.out.size ?_; intro v7 w7 o7 g7; have b7 := bel_grown BAb.out g7 (fun k hk => (World.ownsRow.lt OMb.out k hk).1); have x7 := xj.on b7; have q70 := x7.c (k := 0) rfl; have q71 := x7.c (k := 1) rfl; have q72 := x7.c (k := 2) rfl; have z7 := b7.size; have l7 := LTb.out.far (A := some ⟨wc.heap.size, 0, none⟩) (show Turn _ _ w7 from g7) (fun x hx => by cases hx; simp) (Nat.le_refl _))
                | (refine step_append_sl _ (by rfl) (.tmp 66) (.tmp 69) 27 (by rfl) wc.heap.size 73 i0 _ 3 32 Try.underlying27 hi0 hz0 hz1 hz2 rfl (by decide) encWrite_len encWrite_one _ [] (by rfl) OMc.out _ (some ⟨d, 0, none⟩) kk cb (lw.take kk) (by rfl) SAc.out HS1.out HS2.out BAc.out.size ?_; intro v7 w7 o7 g7; have b7 := bel_grown BAc.out g7 (fun k hk => (World.ownsRow.lt OMc.out k hk).1); have x7 := xj.on b7; have q70 := x7.c (k := 0) rfl; have q71 := x7.c (k := 1) rfl; have q72 := x7.c (k := 2) rfl; have z7 := b7.size; have l7 := LTc.out.far (A := some ⟨wc.heap.size + 1, 0, none⟩) (show Turn _ _ w7 from g7) (fun x hx => by cases hx; simp) (Nat.le_refl _))
                | (refine step_append_sl _ (by rfl) (.tmp 70) (.tmp 72) 27 (by rfl) wc.heap.size 73 i0 _ 3 32 Try.underlying27 hi0 hz0 hz1 hz2 rfl (by decide) encWrite_len encWrite_one _ _ (by rfl) (Own.alloc o7 (.cells #[.string key, .int .i64 num, .bool gone] 73)) _ (some ⟨w7.heap.size, 0, none⟩) 1 1 [(key, num, gone)] (by rfl) (Sl.lit1 (enc := encWrite) w7 #[.string key, .int .i64 num, .bool gone] 73 (key, num, gone) rfl) HS3.out HS4.out (by first | exact z7 | (rw [World.size_alloc]; omega)) ?_; intro v8 w8 o8 g8; have b8 := bel_grown (bel_alloc b7 (.cells #[.string key, .int .i64 num, .bool gone] 73)) g8 (fun k hk => (World.ownsRow.lt o7 k hk).1); have ot8 := ot.on b8; have z8 := b8.size)
                | (refine step_append_sl _ (by rfl) (.tmp 70) (.tmp 72) 27 (by rfl) wc.heap.size 73 i0 _ 3 32 Try.underlying27 hi0 hz0 hz1 hz2 rfl (by decide) encWrite_len encWrite_one _ _ (by rfl) o7 _ (some ⟨wc.heap.size + 1, 0, none⟩) 1 1 [(key, num, gone)] (by rfl) l7 HS3.out HS4.out (by first | exact z7 | (rw [World.size_alloc]; omega)) ?_; intro v8 w8 o8 g8; have b8 := bel_grown b7 g8 (fun k hk => (World.ownsRow.lt o7 k hk).1); have ot8 := ot.on b8; have z8 := b8.size)
                | (refine step_append_sl _ (by rfl) (.tmp 70) (.tmp 72) 27 (by rfl) wc.heap.size 73 i0 _ 3 32 Try.underlying27 hi0 hz0 hz1 hz2 rfl (by decide) encWrite_len encWrite_one _ _ (by rfl) o7 _ (some ⟨wc.heap.size, 0, none⟩) 1 1 [(key, num, gone)] (by rfl) l7 HS3.out HS4.out (by first | exact z7 | (rw [World.size_alloc]; omega)) ?_; intro v8 w8 o8 g8; have b8 := bel_grown b7 g8 (fun k hk => (World.ownsRow.lt o7 k hk).1); have ot8 := ot.on b8; have z8 := b8.size)
                | (refine step_append_sl _ (by rfl) (.tmp 73) (.tmp 74) 27 (by rfl) wc.heap.size 73 i0 _ 3 32 Try.underlying27 hi0 hz0 hz1 hz2 rfl (by decide) encWrite_len encWrite_one _ _ (by rfl) o8 _ A9 (lw.length - kk) c9 (lw.drop kk) (by rfl) ot8.sl HS5.out HS6.out z8 ?_; intro v9 w9 o9 g9; have b9 := bel_grown b8 g9 (fun k hk => (World.ownsRow.lt o8 k hk).1)))
              all_goals
                go_wp2_with fail
                go_meet
                obtain ⟨A', c', rfl, -, -⟩ := o9.form
                obtain ⟨d', rfl⟩ := o9.zero (k := 0) (by have := HLN.out; omega)
                exact ⟨d', c', _, HLN.out, HSN.out, rfl, o9.lower tj.size, oj.on b9, rj.on b9, tj.below b9⟩
            case rest =>
            clear ot oj rj tj
            obtain ⟨d', c', N, hNl, hNs, rfl, on, oj, rj, tj⟩ := hcut
            clear xj
            have HNl := Lib.hid hNl
            have HlN := Lib.hid (show N.length ≤ 5 by have := HLK.out; omega)
            clear hNl
            cases hok : Wx.writesOk 6 N
            all_goals
              have HOK := Lib.hid hok
              clear hok
              go_wp2_with fail
              refine (Wx.specWritesOk (some ⟨d', 0, none⟩) N.length c' N wc on.sl hNs.wf (by have := HlN.out; omega)).mono ?_
              rintro e wd ⟨rfl, hbd⟩
              rw [HOK.out]
              have on2 := on.on hbd
              have oj2 := oj.on hbd
              have rj2 := rj.on hbd
              have tj2 := tj.below hbd
              clear on oj rj tj
            · go_wp2_with fail
              refine (pick g (pn + 2 + 1) 20 A m c l wd rj2 (by omega) (by omega) (by have := HP4.out; have := HP3.out; have := HP.out; omega)).mono ?_
              rintro e we ⟨v2, rfl, hv2, hre, hte⟩
              have on3 := on2.farRd hte hg
              have oj3 := oj2.farRd hte hg
              have tj3 := tj2.trans hte
              clear on2 oj2 rj2 tj2 hte
              by_cases hv3 : v2 = 0
              · subst hv3
                go_wp2_with fail
                go_roundw
                case rel => exact ⟨k - 1, pn + 2 + 1 + 1, N, d', c', by rw [show ((k - 1 : Nat) : Int) = (k : Int) - 1 by omega], by have := HK.out; omega, rfl, on3, by have := HLK.out; have := HNl.out; omega, hNs, by have := HP3.out; have := HP4.out; omega, hre, tj3⟩
                case measure => simp [intOf]; omega
              · have hv4 : ((v2 : Int) == 0) = false := by simp; omega
                go_wp2_with fail
                go_roundw
                case rel => exact ⟨k - 1, pn + 2 + 1 + 1, lw, d, cb, by rw [show ((k - 1 : Nat) : Int) = (k : Int) - 1 by omega], by have := HK.out; omega, rfl, oj3, by have := HLK.out; omega, HSW.out, by have := HP3.out; have := HP4.out; omega, hre, tj3⟩
                case measure => simp [intOf]; omega
            · go_wp2_with fail
              go_roundw
              case rel => exact ⟨k - 1, pn + 2 + 1, N, d', c', by rw [show ((k - 1 : Nat) : Int) = (k : Int) - 1 by omega], by have := HK.out; omega, rfl, on2, by have := HLK.out; have := HNl.out; omega, hNs, by have := HP3.out; have := HP4.out; omega, rj2, tj2⟩
              case measure => simp [intOf]; omega
          · go_wp2_with fail
            go_roundw
            case rel => exact ⟨k - 1, pn + 2 + 1, lw, d, cb, by rw [show ((k - 1 : Nat) : Int) = (k : Int) - 1 by omega], by have := HK.out; omega, rfl, oj, by have := HLK.out; omega, HSW.out, by have := HP3.out; have := HP4.out; omega, rj, tj⟩
            case measure => simp [intOf]; omega
    · have hk0 : k = 0 := by omega
      subst hk0
      by_cases hl0 : lw.length = 0
      · have hl1 : ¬ (0 : Int) < (lw.length : Int) := by omega
        have HL0 := Lib.hid hl0
        clear hl0
        go_wp2_with fail
        go_ret
        exact ⟨some ⟨d, 0, none⟩, cb, lw, p', rfl, ho, by have := HL0.out; omega, hSm, by omega, hr, ht⟩
      · have hl1 : (0 : Int) < (lw.length : Int) := by omega
        go_wp2_with fail
        refine (pick g p' 30 A m c l wr hr (by omega) (by omega) (by have := HP.out; omega)).mono ?_
        rintro e w2 ⟨v, rfl, hv, hr2, ht2⟩
        have o2 := ho.farRd ht2 hg
        have t2 := ht.trans ht2
        by_cases hv0 : v = 0
        · subst hv0
          obtain ⟨key, num, gone, hrow, e0, e1, e2⟩ := atWrite (k := 0) o2.sl (by omega)
          simp only [Nat.zero_add, Nat.zero_mul] at e0 e1 e2
          have hks := hSm.mem hrow
          have ls := Sl.lit1 (enc := encWrite) w2 #[.string key, .int .i64 num, .bool gone] 73 (key, num, gone) rfl
          have oa := o2.alloc (.cells #[.string key, .int .i64 num, .bool gone] 73)
          go_wp2_with (at_builtin; refine wpList_append_sl _ rfl _ _ 27 rfl w.heap.size 73 i0 _ 3 32 Try.underlying27 hi0 hz0 hz1 hz2 rfl (by decide) encWrite_len encWrite_one _ lw rfl oa _ (some ⟨w2.heap.size, 0, none⟩) 1 1 [(key, num, gone)] rfl ls (by unfold maxLen; omega) (by omega) (by have := t2.size; rw [World.size_alloc]; omega) ?_; intro v9 w9 o9 g9)
          go_ret
          obtain ⟨A9, c9, rfl, -, -⟩ := o9.form
          have hb := bel_alloc (Below.refl _ w2) (.cells #[.string key, .int .i64 num, .bool gone] 73)
          have r3 := (hr2.on hb).grown g9 (fun k hk => by have := (World.ownsRow.lt o2 k hk).1; omega)
          have t3 := (t2.alloc (.cells #[.string key, .int .i64 num, .bool gone] 73)).grown g9 (fun k hk => (World.ownsRow.lt o2 k hk).1)
          exact ⟨A9, c9, _, p' + 1, rfl, o9, by simp; omega, hSm.app (SmallW.one hks), by omega, r3, t3⟩
        · have hv1 : ((v : Int) == 0) = false := by simp; omega
          go_wp2_with fail
          go_ret
          exact ⟨some ⟨d, 0, none⟩, cb, lw, p' + 1, rfl, o2, by omega, hSm, by omega, hr2, t2⟩
end Go.Proofs.Ytpofgidhhcolfaa
