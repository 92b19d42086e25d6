/- The reader of the draws: l11Open, pick, of, num. -/
import Derived.Test.YtpmeaikiaoojkaaDoorK3
import Derived.Test.YtpmeaikiaoojkaaDoorS1
import Derived.Deep.QuietTactic
import Derived.BigQuiet
namespace Go.Proofs.YtpmeaikiaoojkaaDoor
open Go.RowKit

def encB (x : UInt8) : List Value := [.int .u8 (x.toNat : Int)]
theorem encB_len (x : UInt8) : (encB x).length = 1 := rfl
def encI (x : Int) : List Value := [.int .i64 x]
theorem encI_len (x : Int) : (encI x).length = 1 := rfl

theorem Sl.at1 {α : Type} {enc : α → List Value} {w : World} {B n b off k : Nat} {l : List α} {f : α → Value} (hf : ∀ x, enc x = [f x]) (h : Sl enc w B (some ⟨b, off, none⟩) n l) (hk : k < n) :
    ∃ x, l[k]? = some x ∧ w.cell? ⟨b, off + k, none⟩ = some (f x) := by
  obtain ⟨x, h1, h2⟩ := h.at_ (sz := 1) (fun x => by rw [hf]; rfl) hk
  exact ⟨x, h1, by have := h2 0 (f x) (by rw [hf]; rfl); simpa using this⟩
/-- a row laid by a literal -/
theorem Sl.lit {α : Type} {enc : α → List Value} (w : World) (cs : Array Value) (t : TypeId) (l : List α) (h : cs.toList = cellsOf enc l) (n : Nat) (hn : l.length = n) :
    Sl enc (w.alloc (.cells cs t)) ((w.alloc (.cells cs t)).heap.size) (some ⟨w.heap.size, 0, none⟩) n l := by
  refine ⟨hn, fun _ => ⟨w.heap.size, 0, rfl, by simp, fun j u hu => ?_⟩⟩
  rw [← h] at hu
  rw [Nat.zero_add, cell_of_row _ w.heap.size j cs t (0, 0) (heap_alloc_new w _)]
  simpa using hu
/-- a slice whose block has not turned reads on -/
theorem Sl.far {α : Type} {enc : α → List Value} {w w' : World} {B b off n : Nat} {A : Option Addr} {l : List α} (h : Sl enc w w.heap.size (some ⟨b, off, none⟩) n l) (ht : Turn A w w') (hne : ∀ x, A = some x → x.block ≠ b) (hB : w.heap.size ≤ B) :
    Sl enc w' B (some ⟨b, off, none⟩) n l := by
  refine ⟨h.1, fun hn => ?_⟩
  obtain ⟨h2, h3⟩ := h.cells hn
  refine ⟨b, off, rfl, by omega, fun j u hu => ?_⟩
  have hb := ht.block b h2 (by
    cases A with
    | none => simp
    | some x => simp only [Option.map_some, ne_eq, Option.some.injEq]; exact fun e => hne x rfl e.symm)
  have := h3 j u hu
  unfold World.cell? at this ⊢
  simp only [hb]
  exact this

/-- the reader at block g: it stands at place p of the code l -/
def Rd (w : World) (g p : Nat) (A : Option Addr) (m c : Nat) (l : List UInt8) : Prop :=
  w.cell? ⟨g, 0, none⟩ = some (.slice A m c) ∧ w.cell? ⟨g, 1, none⟩ = some (.int .i64 (p : Int)) ∧ w.frozen? ⟨g, 1, none⟩ = false ∧ Sl encB w g A m l ∧ m ≤ 2000
theorem Rd.lt {w : World} {g p : Nat} {A : Option Addr} {m c : Nat} {l : List UInt8} (h : Rd w g p A m c l) : g < w.heap.size := World.block_lt_of_cell? w _ h.1
theorem Rd.keep {w w' : World} {g p : Nat} {A : Option Addr} {m c : Nat} {l : List UInt8} {B : Nat} (h : Rd w g p A m c l) (hb : Below B w w') (hB : g < B) : Rd w' g p A m c l :=
  ⟨(hb.cell (p := ⟨g, 0, none⟩) hB).trans h.1, (hb.cell (p := ⟨g, 1, none⟩) hB).trans h.2.1, (hb.frozen (p := ⟨g, 1, none⟩) hB).trans h.2.2.1, h.2.2.2.1.keep (hb.mono (by omega)), h.2.2.2.2⟩
theorem Rd.on {w w' : World} {g p : Nat} {A : Option Addr} {m c : Nat} {l : List UInt8} (h : Rd w g p A m c l) (hb : Below w.heap.size w w') : Rd w' g p A m c l := h.keep hb h.lt

theorem bits_xor_i64 (a b : Nat) (ha : a < 4611686018427387904) (hb : b < 4611686018427387904) : ∃ v : Nat, bits .xor .i64 (a : Int) (b : Int) = (v : Int) ∧ v < 4611686018427387904 := by
  have hx : a ^^^ b < 2 ^ 62 := Nat.xor_lt_two_pow (by omega) (by omega)
  have h1 : (BitVec.ofInt 64 (a : Int)).toNat = a := by
    rw [BitVec.ofInt_natCast, BitVec.toNat_ofNat]; exact Nat.mod_eq_of_lt (by omega)
  have h2 : (BitVec.ofInt 64 (b : Int)).toNat = b := by
    rw [BitVec.ofInt_natCast, BitVec.toNat_ofNat]; exact Nat.mod_eq_of_lt (by omega)
  refine ⟨a ^^^ b, ?_, by omega⟩
  show IntKind.i64.wrap ((BitVec.ofInt 64 (a : Int) ^^^ BitVec.ofInt 64 (b : Int)).toNat : Int) = _
  rw [BitVec.toNat_xor, h1, h2]
  exact IntWalk.i64_in _ (by omega)

def PickPost (w : World) (g p n : Nat) (A : Option Addr) (m c : Nat) (l : List UInt8) (e : Ending) (w' : World) : Prop :=
  ∃ v : Nat, e = .returned (.int .i64 (v : Int)) ∧ v < n ∧ Rd w' g (p + 1) A m c l ∧ Turn (some ⟨g, 0, none⟩) w w'

theorem Rd.step {w : World} {g p : Nat} {A : Option Addr} {m c : Nat} {l : List UInt8} (h : Rd w g p A m c l) (k : Nat) : Rd ((w.setCell ⟨g, 1, none⟩ (.int .i64 ((p : Int) + 1))).drewN k) g (p + 1) A m c l ∧ Turn (some ⟨g, 0, none⟩) w ((w.setCell ⟨g, 1, none⟩ (.int .i64 ((p : Int) + 1))).drewN k) := by
  have hlt := h.lt
  obtain ⟨h1, h2, h3, h4, h5⟩ := h
  have ht : Turn (some ⟨g, 0, none⟩) w (w.setCell ⟨g, 1, none⟩ (.int .i64 ((p : Int) + 1))) := (Turn.refl _ w).set 1 _
  have hb : Below g w (w.setCell ⟨g, 1, none⟩ (.int .i64 ((p : Int) + 1))) := (Below.refl g w).setCell (p := ⟨g, 1, none⟩) (Nat.le_refl _) _
  have hb2 : Below g w ((w.setCell ⟨g, 1, none⟩ (.int .i64 ((p : Int) + 1))).drewN k) := ⟨hb.os, hb.tape, hb.output, hb.size, hb.block⟩
  refine ⟨⟨?_, ?_, ?_, h4.keep hb2, h5⟩, ?_⟩
  · show (w.setCell ⟨g, 1, none⟩ (.int .i64 ((p : Int) + 1))).cell? ⟨g, 0, none⟩ = _
    rw [World.cell?_setCell_other _ _ _ _ (by simp)]; exact h1
  · show (w.setCell ⟨g, 1, none⟩ (.int .i64 ((p : Int) + 1))).cell? ⟨g, 1, none⟩ = _
    rw [World.cell?_setCell_same _ _ _ h2]; simp
  · show (w.setCell ⟨g, 1, none⟩ (.int .i64 ((p : Int) + 1))).frozen? ⟨g, 1, none⟩ = _
    rw [World.frozen?_setCell]; exact h3
  exact ht.trans ⟨rfl, rfl, rfl, Nat.le_refl _, fun _ _ _ => rfl⟩

set_option maxHeartbeats 2000000 in
set_option maxRecDepth 100000 in
theorem pick (g p n : Nat) (A : Option Addr) (m c : Nat) (l : List UInt8) (w : World) (hrd : Rd w g p A m c l) (hn : 1 ≤ n) (hn2 : n ≤ 1000000) (hp : p ≤ 1000000) :
    Calls Tryd.prog 32 #[.pointer (some ⟨g, 0, none⟩), .int .i64 (n : Int)] w (PickPost w g p n A m c l) := by
  have hst : Hid (∀ k, Rd ((w.setCell ⟨g, 1, none⟩ (.int .i64 ((p : Int) + 1))).drewN k) g (p + 1) A m c l ∧ Turn (some ⟨g, 0, none⟩) w ((w.setCell ⟨g, 1, none⟩ (.int .i64 ((p : Int) + 1))).drewN k)) := Lib.hid fun k => hrd.step k
  obtain ⟨h1, h2, h3, h4, h5⟩ := hrd
  by_cases hm : m = 0
  · subst hm
    go_enter Tryd.func32, Tryd.ntmps32
    go_wp2
    go_ret
    exact ⟨0, rfl, by omega, hst.out 0⟩
  · by_cases hpm : p < m
    · obtain ⟨b, off, rfl, hb⟩ := h4.spot (by omega)
      obtain ⟨x, hx, hc⟩ := h4.at1 (fun _ => rfl) hpm
      have hm' : ((m : Int) == 0) = false := by simp; omega
      have hx2 := x.toNat_lt
      have hv : ((x.toNat : Int) % (n : Int)) = ((x.toNat % n : Nat) : Int) := by simp
      have hvl : x.toNat % n < n := Nat.mod_lt _ (by omega)
      clear hm hx
      have HV := Lib.hid hv
      clear hv
      go_enter Tryd.func32, Tryd.ntmps32
      go_wp2
      go_ret
      exact ⟨x.toNat % n, retInt HV.out, hvl, hst.out 0⟩
    · obtain ⟨b, off, rfl, hb⟩ := h4.spot (by omega)
      have hm' : ((m : Int) == 0) = false := by simp; omega
      obtain ⟨q1, hq1, e1⟩ : ∃ q : Nat, q < m ∧ (p : Int).tmod (m : Int) = (q : Int) := ⟨p % m, Nat.mod_lt _ (by omega), by rw [Int.tmod_eq_emod_of_nonneg (by omega)]; simp⟩
      obtain ⟨q2, hq2, e2⟩ : ∃ q : Nat, q < m ∧ ((p : Int) * 7 + 3).tmod (m : Int) = (q : Int) := ⟨(p * 7 + 3) % m, Nat.mod_lt _ (by omega), by rw [Int.tmod_eq_emod_of_nonneg (by omega)]; simp⟩
      obtain ⟨q3, hq3, e3⟩ : ∃ q : Nat, q ≤ 1000000 ∧ (p : Int).tdiv (m : Int) = (q : Int) := ⟨p / m, Nat.le_trans (Nat.div_le_self _ _) hp, by rw [Int.tdiv_eq_ediv_of_nonneg (by omega)]; simp⟩
      obtain ⟨x1, hx1, c1⟩ := h4.at1 (fun _ => rfl) hq1
      obtain ⟨x2, hx2, c2⟩ := h4.at1 (fun _ => rfl) hq2
      have l1 := x1.toNat_lt
      have l2 := x2.toNat_lt
      generalize hX1 : x1.toNat = y1 at *
      generalize hX2 : x2.toNat = y2 at *
      have a1 : IntKind.i64.wrap ((p : Int) * 7) = (p : Int) * 7 := IntWalk.i64_in _ (by omega)
      have a2 : IntKind.i64.wrap ((p : Int) * 7 + 3) = (p : Int) * 7 + 3 := IntWalk.i64_in _ (by omega)
      have a3 : IntKind.i64.wrap ((y1 : Int) * 131) = (y1 : Int) * 131 := IntWalk.i64_in _ (by omega)
      have a4 : IntKind.i64.wrap ((y2 : Int) * 1117) = (y2 : Int) * 1117 := IntWalk.i64_in _ (by omega)
      have a5 : IntKind.i64.wrap ((y1 : Int) * 131 + (y2 : Int) * 1117) = (y1 : Int) * 131 + (y2 : Int) * 1117 := IntWalk.i64_in _ (by omega)
      have a6 : IntKind.i64.wrap ((p : Int) * 29) = (p : Int) * 29 := IntWalk.i64_in _ (by omega)
      have a7 : IntKind.i64.wrap ((y1 : Int) * 131 + (y2 : Int) * 1117 + (p : Int) * 29) = (y1 : Int) * 131 + (y2 : Int) * 1117 + (p : Int) * 29 := IntWalk.i64_in _ (by omega)
      have a8 : IntKind.i64.wrap ((q3 : Int) * 53) = (q3 : Int) * 53 := IntWalk.i64_in _ (by omega)
      obtain ⟨X, hX, hXl⟩ : ∃ X : Nat, X = y1 * 131 + y2 * 1117 + p * 29 + q3 * 53 ∧ X < 4611686018427387904 := ⟨_, rfl, by omega⟩
      have a9 : IntKind.i64.wrap ((y1 : Int) * 131 + (y2 : Int) * 1117 + (p : Int) * 29 + (q3 : Int) * 53) = (X : Int) := by rw [IntWalk.i64_in _ (by omega), hX]; simp
      obtain ⟨Y, hY, hYl⟩ := bits_xor_i64 X (X / 64) hXl (by omega)
      have hY2 : bits .xor .i64 (X : Int) ((X : Int) / 64) = (Y : Int) := by rw [← hY]; congr 1
      have b1 : (0 : Int) ≤ (q1 : Int) := by omega
      have b2 : (q1 : Int) < (m : Int) := by omega
      have b3 : (0 : Int) ≤ (q2 : Int) := by omega
      have b4 : (q2 : Int) < (m : Int) := by omega
      have hv : ((Y : Int) % (n : Int)) = ((Y % n : Nat) : Int) := by simp
      have hvl : Y % n < n := Nat.mod_lt _ (by omega)
      have HV := Lib.hid hv
      clear hv hX hX1 hX2 hx1 hx2 hq1 hq2 hY
      have n0 : ((m : Int) == 0) = false := hm'
      go_enter Tryd.func32, Tryd.ntmps32
      go_wp2
      go_quiet (fail)
      go_wp2
      go_ret
      exact ⟨Y % n, retInt HV.out, hvl, hst.out _⟩
end Go.Proofs.YtpmeaikiaoojkaaDoor
