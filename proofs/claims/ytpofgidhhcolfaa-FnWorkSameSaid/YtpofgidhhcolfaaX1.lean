/- Contracts: the copy of a history (l2Copy); rows cut short; blocks of other types kept. -/
import Derived.Test.YtpofgidhhcolfaaQ
import Derived.Test.YtpofgidhhcolfaaT4
import Derived.Deep.RegionLaw
import Derived.Lib.OthersKept
namespace Go.Proofs.Ytpofgidhhcolfaa
open Go.RowKit

/-- a row of one's own, cut short in place -/
theorem Own.shrink {α : Type} {enc : α → List Value} {sz : Nat} {e : TypeId} {w : World} {base n c k : Nat} {A : Option Addr} {l : List α} (hs : ∀ x, (enc x).length = sz) (h : Own enc sz e w base (.slice A n c) l) (hk : k ≤ n) :
    Own enc sz e w base (.slice A k c) (l.take k) := by
  have hn := h.len
  have hl : (l.take k).length = k := by rw [List.length_take]; omega
  refine ⟨by rw [cellsOf_length hs], ?_⟩
  rcases h.2 with ⟨h1, h2⟩ | ⟨g, cap, cur, h1, hb, hh, hc, hm, hsz, ht⟩
  · refine .inl ⟨?_, by rw [hl]; omega⟩
    injection h1 with h3 h4 h5
    rw [h3, h5, show k = 0 by omega]
  · refine .inr ⟨g, cap, cur, ?_, hb, hh, by rw [hl]; omega, hm, hsz, ?_⟩
    · injection h1 with h3 h4 h5
      rw [h3, h5, hl]
    · rw [hl, cellsOf_take hs, ← ht, List.take_take, hn]
      congr 1
      have : k * sz ≤ n * sz := Nat.mul_le_mul_right _ hk
      omega
theorem BoxC.keptO {W W' : World} {B : Nat} {t e : TypeId} {cs : Array Value} (h : BoxC W B t cs) (k : Lib.OthersKept e none W W') (he : t ≠ e) : BoxC W' B t cs :=
  k B _ h (by simp) (fun c fz eq => by cases eq; exact he rfl)
theorem keptO_below {e : TypeId} {W W' : World} (hb : Below W.heap.size W W') : Lib.OthersKept e none W W' := fun k _ hk _ _ => (hb.block k (Array.getElem?_eq_some_iff.1 hk).1).trans hk
theorem keptO_set {α : Type} {enc : α → List Value} {sz : Nat} {e : TypeId} {W : World} {base n c g o : Nat} {l : List α} (h : Own enc sz e W base (.slice (some ⟨g, 0, none⟩) n c) l) (u : Value) : Lib.OthersKept e none W (W.setCell ⟨g, o, none⟩ u) := by
  intro k x hk _ hx
  have hne : k ≠ g := by
    rintro rfl
    rcases h.2 with ⟨h1, _⟩ | ⟨g', cap, cur, h1, _, hh, _⟩
    · injection h1 with h1; cases h1
    · injection h1 with h1; injection h1 with h1; injection h1 with h1
      subst h1
      rw [hk] at hh
      exact hx cur (0, 0) (Option.some.inj hh)
  rw [Below.heap_setCell _ _ _ _ hne]; exact hk
theorem keptO_grown {α : Type} {enc : α → List Value} {sz : Nat} {e : TypeId} {W W' : World} {base n c : Nat} {A : Option Addr} {l : List α} (h : Own enc sz e W base (.slice A n c) l) (hg : W.grownBy W' (Value.slice A n c).ownBlock) : Lib.OthersKept e none W W' := by
  refine (Lib.OthersKept.refl e none W).grown hg fun g hgr => ?_
  rcases h.2 with ⟨h1, _⟩ | ⟨g', cap, cur, h1, _, hh, _⟩
  · rw [h1] at hgr; simp [Value.ownBlock] at hgr
  · rw [h1] at hgr
    simp only [Value.ownBlock, Option.some.injEq] at hgr
    subst hgr
    exact ⟨cur, (0, 0), hh⟩

set_option maxHeartbeats 2000000 in
set_option maxRecDepth 100000 in
theorem l2Copy (now : Int) (A : Option Addr) (n c : Nat) (l : List Ver) (w : World) (hr : Sl encVer w w.heap.size A n l) (hn : n ≤ 1048576) :
    Calls Try.prog 138 #[.agg #[.int .i64 now, .slice A n c]] w (VersPost w now l) := by
  obtain ⟨i0, hi0, hz0, hz1, hz2⟩ := info_parts info77
  have HL := Lib.hid hr.len
  have b0 := bel_alloc (bel_alloc (Below.refl _ w) (.cells #[.int .i64 now, .slice A n c] 39)) (.cells #[.int .i64 0, .slice none 0 0] 39)
  have x1 := ((BoxC.new w 39 #[.int .i64 now, .slice A n c]).alloc (.cells #[.int .i64 0, .slice none 0 0] 39)).alloc (.cells #[] 77)
  have x2 := (BoxC.new (w.alloc (.cells #[.int .i64 now, .slice A n c] 39)) 39 #[.int .i64 0, .slice none 0 0]).alloc (.cells #[] 77)
  have ho := Own.drew (Own.made0 (enc := encVer) (sz := 4) (e := 77) ((w.alloc (.cells #[.int .i64 now, .slice A n c] 39)).alloc (.cells #[.int .i64 0, .slice none 0 0] 39)) (Nat.le_refl _))
  simp only [World.size_alloc] at x2 ho
  have b1 := (bel_alloc b0 (.cells #[] 77)).drew
  have hl2 : Sl encVer (((w.alloc (.cells #[.int .i64 now, .slice A n c] 39)).alloc (.cells #[.int .i64 0, .slice none 0 0] 39)).alloc (.cells #[] 77)).drew w.heap.size A n l := hr.keep b1
  have HSa := Lib.hid (show ([] : List Ver).length + n ≤ maxLen by unfold maxLen; simp; omega)
  have HSb := Lib.hid (show (([] : List Ver).length + n) * 40 ≤ 140737488355328 by simp; omega)
  have X1 := Lib.hid x1.drew
  have X2 := Lib.hid x2.drew
  have p0 := x1.c (k := 0) rfl
  have p1 := x1.c (k := 1) rfl
  have s0 := x2.c (k := 0) rfl
  have s1 := x2.c (k := 1) rfl
  clear hr hn
  go_enter Try.func138, Try.ntmps138
  go_wp2_with fail
  go_region_law (refine step_append_sl _ (by rfl) (.tmp 5) (.tmp 7) 37 (by rfl) (w.heap.size + 1 + 1) 77 i0 _ 4 40 Try.underlying37 hi0 hz0 hz1 hz2 rfl (by decide) encVer_len encVer_one (.slice (some ⟨w.heap.size + 1 + 1, 0, none⟩) 0 0) [] (by rfl) ho _ A n c l (by rfl) hl2 HSa.out HSb.out (by simp) ?_; intro v6 w6 o6 g6; obtain ⟨A6, c6, rfl, -, -⟩ := o6.form; have x6 := X2.out.appended (by decide) ho g6; have f60 := x6.f 0; have f61 := x6.f 1; have s60 := x6.c (k := 0) rfl; have s61 := x6.c (k := 1) rfl; have y6 := X1.out.appended (by decide) ho g6; have q60 := y6.c (k := 0) rfl; have q61 := y6.c (k := 1) rfl)
  all_goals
    simp only [List.nil_append] at o6
    have O5 := Lib.hid (((o6.box x6 (by decide) (k := 0) (v := .int .i64 now)).box (x6.set 0 (.int .i64 now)) (by decide) (k := 1) (v := .slice A6 l.length c6)).lower (base' := w.heap.size) (by omega))
    have B5 := Lib.hid (bel_set (bel_set (bel_grown b1 g6 (fun k hk => by have := (World.ownsRow.lt ho k hk).1; omega)) (p := ⟨w.heap.size + 1, 0, none⟩) (by simp only; omega) (.int .i64 now)) (p := ⟨w.heap.size + 1, 1, none⟩) (by simp only; omega) (.slice A6 l.length c6))
    have z0 := Lib.hid ((((x6.set 0 (.int .i64 now)).set 1 (.slice A6 l.length c6))).c (k := 0) rfl)
    have z1 := Lib.hid ((((x6.set 0 (.int .i64 now)).set 1 (.slice A6 l.length c6))).c (k := 1) rfl)
    clear x6 y6 o6 g6
    go_wp2_with fail
    exact bodyPost_ret (v := .agg #[.int .i64 now, .slice A6 l.length c6]) (by simp [results, Try.results138, go_sem, z0.out, z1.out]) rfl ⟨A6, c6, rfl, O5.out, B5.out⟩
end Go.Proofs.Ytpofgidhhcolfaa
