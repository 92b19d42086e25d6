/- Contracts: the scanner of words, and what reads a number, of the program. -/
import Derived.Test.YtpmeaikiaoojkaaDoorR0
import Derived.Test.YtpmeaikiaoojkaaDoorShB
import Derived.Test.YtpmeaikiaoojkaaDoorK3
namespace Go.Proofs.YtpmeaikiaoojkaaDoor
open Go.RowKit

/-- what the library's variables hold -/
def ErrV (ev : Value) : Prop := ev = .nilIface ∨ ∃ te pe, ev = .iface te pe
def Env (W : World) : Prop := (FormsW W ∧ Pow10 W) ∧ (∃ ev, W.cell? ⟨2, 0, none⟩ = some ev ∧ ErrV ev) ∧ (∃ ev, W.cell? ⟨3, 0, none⟩ = some ev ∧ ErrV ev) ∧ ∃ m, W.cell? ⟨4, 0, none⟩ = some (.int .i64 m)
theorem Env.on {W W' : World} (h : Env W) (hb : Below W.heap.size W W') : Env W' := by
  obtain ⟨⟨h1, h2⟩, ⟨e2, c2, v2⟩, ⟨e3, c3, v3⟩, m, c4⟩ := h
  exact ⟨⟨h1.on hb, h2.on hb⟩, ⟨e2, keepC hb c2, v2⟩, ⟨e3, keepC hb c3, v3⟩, m, keepC hb c4⟩

theorem encT_len (x : ByteArray) : (encT x).length = 1 := rfl
theorem cellsOf_encT (l : List ByteArray) : cellsOf encT l = l.map Value.string := by
  induction l with
  | nil => rfl
  | cons x r ih =>
    have : cellsOf encT (x :: r) = encT x ++ cellsOf encT r := rfl
    rw [this, ih]; rfl
/-- the box at g holds the words that are still to come; all of it lies below B -/
def Scan (W : World) (B g : Nat) (ws : List ByteArray) : Prop := ∃ A n, BoxC W g 57 #[.slice A n n] ∧ g < B ∧ Sl encT W B A n ws ∧ ∀ a, A = some a → a.block ≠ g
theorem Scan.keep {W W' : World} {B g : Nat} {ws : List ByteArray} (h : Scan W B g ws) (hb : Below B W W') : Scan W' B g ws := by
  obtain ⟨A, n, hx, hg, hs, ha⟩ := h
  exact ⟨A, n, (hb.block g hg).trans hx, hg, hs.keep hb, ha⟩
def ScannerPost (w : World) (ws : List ByteArray) (e : Ending) (w' : World) : Prop :=
  ∃ g, e = .returned (.func (.func 39) #[] #[.pointer (some ⟨g, 0, none⟩)]) ∧ w.heap.size ≤ g ∧ Scan w' w'.heap.size g ws ∧ Below w.heap.size w w'
set_option maxHeartbeats 1000000 in
theorem scanner (s : ByteArray) (w : World) (hE : Env w) (hs : s.size ≤ 1048576) :
    Calls Tryd.prog 27 #[.string s] w (ScannerPost w (wordsOf s)) := by
  obtain ⟨m, hm⟩ := hE.2.2.2
  have hle := Lib.splitB_all spB (by decide) 0 _ s rfl
  have HL := Lib.hid hle
  clear hle
  go_enter Tryd.func27, Tryd.ntmps27
  go_wp2_with fail
  refine (Tryd.strings_Split s spB m w (by omega) hm (by decide)).mono ?_
  rintro e w1 ⟨rfl, rfl⟩
  have hO : Own encT 1 9 (w.alloc (.cells ((wordsOf s).map Value.string).toArray 9)) w.heap.size (.slice (some ⟨w.heap.size, 0, none⟩) (Lib.countB s spB + 1) (Lib.countB s spB + 1)) (wordsOf s) := by
    have := Own.made (enc := encT) (sz := 1) (e := 9) (base := w.heap.size) (l := wordsOf s) w ((wordsOf s).map Value.string).toArray (Nat.le_refl _) (by unfold wordsOf; rw [HL.out]; have := Lib.countB_le spB (by decide) s.size s (Nat.le_refl _); simp [maxLen]; omega) encT_len (by rw [cellsOf_encT])
    have hl : (wordsOf s).length = Lib.countB s spB + 1 := HL.out
    rwa [hl] at this
  have b1 := bel_alloc (Below.refl _ w) (.cells ((wordsOf s).map Value.string).toArray 9)
  have b2 := bel_alloc b1 (.cells #[.slice (some ⟨w.heap.size, 0, none⟩) (Lib.countB s spB + 1) (Lib.countB s spB + 1)] 57)
  have x := BoxC.new (w.alloc (.cells ((wordsOf s).map Value.string).toArray 9)) 57 #[.slice (some ⟨w.heap.size, 0, none⟩) (Lib.countB s spB + 1) (Lib.countB s spB + 1)]
  have hS := hO.sl.on (bel_alloc (Below.refl _ _) (.cells #[.slice (some ⟨w.heap.size, 0, none⟩) (Lib.countB s spB + 1) (Lib.countB s spB + 1)] 57))
  simp only [World.size_alloc] at x
  have HP := Lib.hid (show ScannerPost w (wordsOf s) (.returned (.func (.func 39) #[] #[.pointer (some ⟨w.heap.size + 1, 0, none⟩)])) ((w.alloc (.cells ((wordsOf s).map Value.string).toArray 9)).alloc (.cells #[.slice (some ⟨w.heap.size, 0, none⟩) (Lib.countB s spB + 1) (Lib.countB s spB + 1)] 57)) from
    ⟨w.heap.size + 1, rfl, by omega, ⟨_, _, x, x.lt, hS, fun a ha => by cases ha; simp⟩, b2⟩)
  clear hO b1 b2 x hS
  go_wp2
  go_ret
  exact HP.out
theorem Sl.turn {α : Type} {enc : α → List Value} {w w' : World} {B n g : Nat} {A : Option Addr} {l : List α} (h : Sl enc w B A n l) (hB : B ≤ w.heap.size) (ht : Turn (some ⟨g, 0, none⟩) w w') (hne : ∀ a, A = some a → a.block ≠ g) : Sl enc w' B A n l := by
  refine ⟨h.1, fun hn => ?_⟩
  obtain ⟨b, off, hA, hb, hc⟩ := h.2 hn
  refine ⟨b, off, hA, hb, fun q u hu => ?_⟩
  have h1 := hc q u hu
  have h2 := ht.block b (by omega) (by have := hne _ hA; simpa using this)
  simp only [World.cell?] at h1 ⊢
  rw [h2]
  exact h1
/-- the word, and what is to come -/
def NextPost (w : World) (B g : Nat) (ws : List ByteArray) (x : ByteArray) (e : Ending) (w' : World) : Prop :=
  e = .returned (.string x) ∧ Scan w' B g ws.tail ∧ Turn (some ⟨g, 0, none⟩) w w'
set_option maxHeartbeats 1000000 in
set_option maxRecDepth 100000 in
theorem next (B g : Nat) (ws : List ByteArray) (v : ByteArray) (w : World) (h : Scan w B g ws) (hB : B ≤ w.heap.size) (hn : ws.length ≤ 1048577) (hv : v = nthW ws 0) :
    Calls Tryd.prog 39 #[.pointer (some ⟨g, 0, none⟩)] w (NextPost w B g ws v) := by
  subst hv
  obtain ⟨A, n, hx, hgB, hs, ha⟩ := h
  have hl := hs.len
  have c0 := hx.c (k := 0) rfl
  have f0 := hx.f 0
  match ws, hl with
  | [], hl =>
    obtain rfl : n = 0 := by simpa using hl.symm
    have HP := Lib.hid (show NextPost w B g [] (nthW [] 0) (.returned (.string (nthW [] 0))) w from ⟨rfl, ⟨A, 0, hx, hgB, hs, ha⟩, Turn.refl _ _⟩)
    clear hx hs ha hl
    go_enter Tryd.func39, Tryd.ntmps39
    go_wp2
    go_ret
    exact HP.out
  | x :: r, hl =>
    obtain ⟨b, off, rfl, hb⟩ := hs.spot (by rw [← hl]; simp)
    have hbg : b ≠ g := ha _ rfl
    have n1 : 1 ≤ n := by rw [← hl]; simp
    have n2 : n ≤ 1048577 := by rw [← hl]; exact hn
    have i0 : (0 : Int) < (n : Int) := by omega
    have i1 : (1 : Int) ≤ (n : Int) := by omega
    have i2 : ¬ ((n : Int) = 0) := by omega
    have i3 : ((n : Int) == 0) = false := by simp; omega
    have cx : w.cell? ⟨b, off, none⟩ = some (.string x) := by
      obtain ⟨-, hc⟩ := hs.cells (by omega)
      have := hc 0 (.string x) (by rw [cellsOf_encT]; rfl)
      simpa using this
    have HR := Lib.hid (hs.rest (c := n) (k := 1) encT_len n1 (Nat.le_refl _))
    have HX := Lib.hid hx
    clear hl hs ha hx hn
    go_enter Tryd.func39, Tryd.ntmps39
    go_wp2
    all_goals go_ret
    all_goals refine ⟨rfl, ?_, (Turn.refl _ _).set 0 _⟩
    · refine ⟨_, _, HX.out.set 0 _, hgB, ?_, fun a ha => by cases ha; exact hbg⟩
      have h2 := HR.out
      rw [if_pos h, h] at h2
      have h3 := h2.turn hB ((Turn.refl (some ⟨g, 0, none⟩) w).set 0 (.slice (some ⟨b, off, none⟩) 0 0)) (fun a ha => by cases ha; exact hbg)
      simpa using h3
    · refine ⟨_, _, HX.out.set 0 _, hgB, ?_, fun a ha => by cases ha; exact hbg⟩
      have h2 := HR.out
      rw [if_neg h] at h2
      have h3 := h2.turn hB ((Turn.refl (some ⟨g, 0, none⟩) w).set 0 (.slice (some ⟨b, off + 1, none⟩) (n - 1) (n - 1))) (fun a ha => by cases ha; exact hbg)
      simpa using h3
end Go.Proofs.YtpmeaikiaoojkaaDoor
