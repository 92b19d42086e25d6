/- FnTalkSame: contracts of what it reaches (PX6 D1 L1 L2 QT1 QA3 QT2 D2 PB1 PB2 PB3 PP1 PB5 PB6 PB9 PB10 PD2 PM0). No condition. -/
import Derived.Test.YtpmeaikiaoojkaaG01
import Derived.Deep.QuietTactic
import Derived.BigQuiet
import Derived.Laws.BytesArg
import Derived.Lib.ItoaNum
import Derived.Lib.ItoaMem
import Derived.Lib.Bytealg
namespace Go.Proofs.Ytpmeaikiaoojkaa.Wx
open Go.RowKit

def klt (a b : ByteArray) : Bool := Op.bytesLess a.toList b.toList
def numOk (n : Int) : Bool := decide (-999 ≤ n) && decide (n ≤ 999)
def wOk (x : Write) : Bool := keyOk x.1 && (numOk x.2.1 && (!x.2.2 || x.2.1 == 0))
def AscP (l : List Write) : Prop := ∀ (i : Nat) (a b : Write), l[i]? = some a → l[i + 1]? = some b → klt a.1 b.1 = true
def EachP (l : List Write) : Prop := ∀ (i : Nat) (r : Write), l[i]? = some r → wOk r = true
def WritesP (m : Nat) (l : List Write) : Prop := l.length ≤ m ∧ EachP l ∧ AscP l
open Classical in
noncomputable def writesOk (m : Nat) (l : List Write) : Bool := decide (WritesP m l)
theorem writesOk_true {m : Nat} {l : List Write} (h : WritesP m l) : writesOk m l = true := by simp [writesOk, h]
theorem writesOk_false {m : Nat} {l : List Write} (h : ¬ WritesP m l) : writesOk m l = false := by simp [writesOk, h]
/-- ascending up to element j + 1 -/
def AscTo (l : List Write) (j : Nat) : Prop := ∀ (i : Nat) (a b : Write), i < j → l[i]? = some a → l[i + 1]? = some b → klt a.1 b.1 = true
theorem AscTo.zero (l : List Write) : AscTo l 0 := fun _ _ _ h => absurd h (by omega)
theorem AscTo.step {l : List Write} {j : Nat} (h : AscTo l j) {x y : Write} (h0 : l[j]? = some x) (h1 : l[j + 1]? = some y) (hlt : klt x.1 y.1 = true) : AscTo l (j + 1) := by
  intro i a b hi ha hb
  by_cases hij : i < j
  · exact h i a b hij ha hb
  · obtain rfl : i = j := by omega
    rw [h0] at ha; rw [h1] at hb; cases ha; cases hb; exact hlt
theorem AscTo.all {l : List Write} {j : Nat} (h : AscTo l j) (hj : l.length ≤ j + 1) : AscP l := by
  intro i a b ha hb; exact h i a b (by have := (List.getElem?_eq_some_iff.1 hb).1; omega) ha hb
set_option maxHeartbeats 400000 in
theorem l1NumC (num : Int) (w : World) : Calls Try.prog 93 #[.int .i64 num] w fun e w' => e = .returned (.bool (numOk num)) ∧ w = w' := by
  go_enter Try.func93, Try.ntmps93; go_wp2
  all_goals (go_ret; refine ⟨ret_bool ?_, rfl⟩; simp [numOk]; try omega)
/-! ### ascending -/
def EachTo (l : List Write) (k : Nat) : Prop := ∀ (i : Nat) (r : Write), i < k → l[i]? = some r → wOk r = true
theorem EachTo.zero (l : List Write) : EachTo l 0 := fun _ _ h => absurd h (by omega)
theorem EachTo.step {l : List Write} {k : Nat} (h : EachTo l k) {x : Write} (hr : l[k]? = some x) (h1 : wOk x = true) : EachTo l (k + 1) := by
  intro i r hi hri
  by_cases hik : i < k
  · exact h i r hik hri
  · obtain rfl : i = k := by omega
    rw [hr] at hri; cases hri; exact h1
theorem EachTo.all {l : List Write} {k : Nat} (h : EachTo l k) (hk : l.length ≤ k) : EachP l := by
  intro i r hr; exact h i r (by have := (List.getElem?_eq_some_iff.1 hr).1; omega) hr
theorem not_each {l : List Write} {k : Nat} {x : Write} (hr : l[k]? = some x) (h : wOk x = false) : ¬ EachP l := by
  intro he; have := he k _ hr; rw [h] at this; cases this
theorem writesOk_bad {m : Nat} {l : List Write} (h : ¬ EachP l) : writesOk m l = false := writesOk_false fun h' => h h'.2.1
theorem writesOk_long {m : Nat} {l : List Write} (h : ¬ l.length ≤ m) : writesOk m l = false := writesOk_false fun h' => h h'.1
end Go.Proofs.Ytpmeaikiaoojkaa.Wx
namespace Go.Proofs.Ytpmeaikiaoojkaa.Wx
open Go.RowKit

/-! ### Calls that leave the world as it is, inside a region that draws -/
theorem quiet_add_left {P : Program} {f : FuncId} {args : Array Value} {w : World} {a n : Nat} {v : Value}
    (h : Calls P f args (w.drewN (a + n)) fun e w' => e = .returned v ∧ w.drewN (a + n) = w') :
    Calls P f args (w.drewN (a + n)) fun e w'' => e = .returned v ∧ ∃ m, w'' = w.drewN (a + m) :=
  h.mono fun _ _ ⟨he, hm⟩ => ⟨he, n, hm.symm⟩
theorem quiet_left {P : Program} {f : FuncId} {args : Array Value} {w : World} {n : Nat} {v : Value}
    (h : Calls P f args (w.drewN n) fun e w' => e = .returned v ∧ w.drewN n = w') : Calls P f args (w.drewN n) fun e w'' => e = .returned v ∧ ∃ m, w'' = w.drewN m :=
  h.mono fun _ _ ⟨he, hm⟩ => ⟨he, n, hm.symm⟩

/-- ascending up to element k, counted by the later one of two neighbours -/
theorem AscTo.stepPrev {l : List Write} {k : Nat} (h : AscTo l (k - 1)) {x y : Write} (hk : 0 < k) (h0 : l[k - 1]? = some x) (h1 : l[k]? = some y) (hlt : klt x.1 y.1 = true) : AscTo l k := by
  obtain ⟨j, rfl⟩ : ∃ j, k = j + 1 := ⟨k - 1, by omega⟩; exact AscTo.step (j := j) h h0 h1 hlt
set_option maxRecDepth 100000 in
set_option maxHeartbeats 4000000 in
theorem specWritesOk (A : Option Addr) (n c : Nat) (l : List Write) (w : World) (hr : Sl encWrite w w.heap.size A n l) (hk : WriteSWf l) (hn : n ≤ 1048576) :
    Calls Try.prog 74 #[.slice A n c] w fun e w' => e = .returned (.bool (writesOk 6 l)) ∧ Below w.heap.size w w' := by
  have HL := Lib.hid hr.len; go_enter Try.func74, Try.ntmps74; go_wp2
  go_loopw [3] (fun i wr => ∃ k : Nat, k ≤ n ∧ i = .int .i64 k ∧ EachTo l k ∧ AscTo l (k - 1) ∧ Below w.heap.size w wr) (fun i _ => n - (intOf i).toNat)
  case atStart => exact ⟨0, by omega, rfl, EachTo.zero l, AscTo.zero l, Below.refl _ _⟩
  case round =>
    obtain ⟨k, hkn, rfl, heach, hasc, hbel⟩ := hrel
    by_cases hlt : k < n
    · obtain ⟨b, off, rfl, hb⟩ := hr.spot (by omega); obtain ⟨key, num, gone, hrow, hk1, hk2, hkg⟩ := atWrite (hr.keep hbel) hlt; have hks := hk.at_ hrow; have HR := Lib.hid hrow; clear hrow; have i0 : (0 : Int) ≤ (k : Int) := by omega
      have i1 : (k : Int) < (n : Int) := by omega
      have c1 := fun W => specKeyOk key W hks; have c2 := fun W => l1NumC num W; cases hko : keyOk key
      · rw [hko] at c1; have C1 := Lib.hid c1; have HW := Lib.hid (show wOk (key, num, gone) = false by show (keyOk key && (numOk num && (!gone || num == 0))) = false; rw [hko]; rfl); clear c1 c2 hko; go_wp2_with fail
        go_quiet ((go_at_call 92; exact quiet_left (C1.out _)))
        go_wp2
        go_ret
        exact ⟨ret_bool (writesOk_bad (not_each HR.out HW.out)).symm, bel_drewN hbel _⟩
      · rw [hko] at c1; have C1 := Lib.hid c1; clear c1; cases hno : numOk num
        · rw [hno] at c2; have C2 := Lib.hid c2; have HW := Lib.hid (show wOk (key, num, gone) = false by show (keyOk key && (numOk num && (!gone || num == 0))) = false; rw [hko, hno]; rfl); clear c2 hno hko; go_wp2_with fail
          go_quiet ((first | (go_at_call 92; exact quiet_left (C1.out _)) | (go_at_call 93; first | exact quiet_left (C2.out _) | exact quiet_add_left (C2.out _))))
          go_wp2
          go_ret
          exact ⟨ret_bool (writesOk_bad (not_each HR.out HW.out)).symm, bel_drewN hbel _⟩
        · rw [hno] at c2; have C2 := Lib.hid c2; clear c2; have hall : (gone = true ∧ (num == 0) = false) ∨ (gone = false) ∨ (gone = true ∧ (num == 0) = true) := by cases gone <;> cases (num == 0) <;> simp
          rcases hall with ⟨rfl, h3⟩ | hgood
          · have HW := Lib.hid (show wOk (key, num, true) = false by show (keyOk key && (numOk num && (!true || num == 0))) = false; rw [hko, hno, h3]; rfl); have d3 : (num != 0) = !(num == 0) := rfl; rw [h3] at d3; simp only [Bool.not_false] at d3
            clear hno hko; go_wp2_with fail
            go_quiet ((first | (go_at_call 92; exact quiet_left (C1.out _)) | (go_at_call 93; first | exact quiet_left (C2.out _) | exact quiet_add_left (C2.out _))))
            go_wp2
            go_ret
            exact ⟨ret_bool (writesOk_bad (not_each HR.out HW.out)).symm, bel_drewN hbel _⟩
          · have hw : wOk (key, num, gone) = true := by
              show (keyOk key && (numOk num && (!gone || num == 0))) = true
              rcases hgood with rfl | ⟨rfl, h3⟩
              · rw [hko, hno]; rfl
              · rw [hko, hno, h3]; rfl
            have HW := Lib.hid hw; clear hw hno hko
            have hd3 : gone = false ∨ (gone = true ∧ (num != 0) = false) := by
              rcases hgood with h | ⟨h, h3⟩
              · exact .inl h
              · exact .inr ⟨h, by show (!(num == 0)) = false; rw [h3]; rfl⟩
            clear hgood
            by_cases hk0 : k = 0
            · have HK0 := Lib.hid hk0; have hd : decide ((0 : Int) < (k : Int)) = false := by simp; omega
              have hd' : decide (0 < k) = false := by simp; omega
              clear hk0
              rcases hd3 with rfl | ⟨rfl, h3⟩
              all_goals
                go_wp2_with fail
                go_quiet ((first | (go_at_call 92; exact quiet_left (C1.out _)) | (go_at_call 93; first | exact quiet_left (C2.out _) | exact quiet_add_left (C2.out _))))
                go_wp2
                go_roundw
                case rel => exact ⟨k + 1, by omega, by go_num, heach.step HR.out HW.out, by rw [HK0.out]; exact AscTo.zero l, bel_drewN hbel _⟩
                case measure => simp [intOf]; omega
            · have hd : decide ((0 : Int) < (k : Int)) = true := by simp; omega
              have hd' : decide (0 < k) = true := by simp; omega
              obtain ⟨key0, num0, gone0, hrow0, hk3, hk4, hkh⟩ := atWrite (k := k - 1) (hr.keep hbel) (by omega); have HR0 := Lib.hid hrow0; clear hrow0; have hk0' : 0 < k := by omega
              clear hk0; have j0 : (0 : Int) ≤ (k : Int) - 1 := by omega
              have j1 : (k : Int) - 1 < (n : Int) := by omega
              have j2 : ((k : Int) - 1).toNat = k - 1 := by omega
              have j3 : IntKind.i64.wrap ((k : Int) - 1) = (k : Int) - 1 := IntWalk.i64_in _ (by omega); cases hlt2 : klt key0 key
              all_goals
                have hlt' : Op.bytesLess key0.toList key.toList = _ := hlt2; have HLT := Lib.hid hlt2; clear hlt2
              · have HF := Lib.hid (show writesOk 6 l = false from writesOk_false (by
                  intro h'; have h1 := h'.2.2 (k - 1) _ _ HR0.out (by rw [show k - 1 + 1 = k by omega]; exact HR.out); have h2 := HLT.out; rw [h2] at h1; cases h1))
                rcases hd3 with rfl | ⟨rfl, h3⟩
                all_goals
                  go_wp2_with fail
                  go_quiet ((first | (go_at_call 92; exact quiet_left (C1.out _)) | (go_at_call 93; first | exact quiet_left (C2.out _) | exact quiet_add_left (C2.out _))))
                  go_wp2
                  go_ret
                  exact ⟨ret_bool HF.out.symm, bel_drewN hbel _⟩
              · rcases hd3 with rfl | ⟨rfl, h3⟩
                all_goals
                  go_wp2_with fail
                  go_quiet ((first | (go_at_call 92; exact quiet_left (C1.out _)) | (go_at_call 93; first | exact quiet_left (C2.out _) | exact quiet_add_left (C2.out _))))
                  go_wp2
                  go_roundw
                  case rel => exact ⟨k + 1, by omega, by go_num, heach.step HR.out HW.out, hasc.stepPrev hk0' HR0.out HR.out HLT.out, bel_drewN hbel _⟩
                  case measure => simp [intOf]; omega
    · have ha : EachP l := heach.all (by rw [HL.out]; omega); have hb : AscP l := hasc.all (by rw [HL.out]; omega)
      have hf : writesOk 6 l = decide ((n : Int) ≤ 6) := by
        by_cases h10 : n ≤ 6
        · rw [writesOk_true ⟨by rw [HL.out]; exact h10, ha, hb⟩]; simp; omega
        · rw [writesOk_long (by rw [HL.out]; exact h10)]; simp; omega
      have HF := Lib.hid hf; clear hf ha hb; go_wp2
      go_ret
      exact ⟨ret_bool HF.out.symm, hbel⟩
end Go.Proofs.Ytpmeaikiaoojkaa.Wx
namespace Go.Proofs.Ytpmeaikiaoojkaa
open Go.RowKit

def encB (x : UInt8) : List Value := [.int .u8 (x.toNat : Int)]
theorem encB_len (x : UInt8) : (encB x).length = 1 := rfl
def encT (x : ByteArray) : List Value := [.string x]
theorem encT_len (x : ByteArray) : (encT x).length = 1 := rfl
def encI (x : Int) : List Value := [.int .i64 x]
theorem Sl.at1 {α : Type} {enc : α → List Value} {w : World} {B n b off k : Nat} {l : List α} {f : α → Value} (hf : ∀ x, enc x = [f x]) (h : Sl enc w B (some ⟨b, off, none⟩) n l) (hk : k < n) :
    ∃ x, l[k]? = some x ∧ w.cell? ⟨b, off + k, none⟩ = some (f x) := by
  obtain ⟨x, h1, h2⟩ := h.at_ (sz := 1) (fun x => by rw [hf]; rfl) hk; exact ⟨x, h1, by have := h2 0 (f x) (by rw [hf]; rfl); simpa using this⟩
/-- a row laid by a literal -/
theorem Sl.lit {α : Type} {enc : α → List Value} (w : World) (cs : Array Value) (t : TypeId) (l : List α) (h : cs.toList = cellsOf enc l) (n : Nat) (hn : l.length = n) :
    Sl enc (w.alloc (.cells cs t)) ((w.alloc (.cells cs t)).heap.size) (some ⟨w.heap.size, 0, none⟩) n l := by
  refine ⟨hn, fun _ => ⟨w.heap.size, 0, rfl, by simp, fun j u hu => ?_⟩⟩; rw [← h] at hu; rw [Nat.zero_add, cell_of_row _ w.heap.size j cs t (0, 0) (heap_alloc_new w _)]
  simpa using hu
/-- a slice whose block has not turned reads on -/
theorem Sl.far {α : Type} {enc : α → List Value} {w w' : World} {B b off n : Nat} {A : Option Addr} {l : List α} (h : Sl enc w w.heap.size (some ⟨b, off, none⟩) n l) (ht : Turn A w w') (hne : ∀ x, A = some x → x.block ≠ b) (hB : w.heap.size ≤ B) :
    Sl enc w' B (some ⟨b, off, none⟩) n l := by
  refine ⟨h.1, fun hn => ?_⟩; obtain ⟨h2, h3⟩ := h.cells hn; refine ⟨b, off, rfl, by omega, fun j u hu => ?_⟩
  have hb := ht.block b h2 (by
    cases A with
    | none => simp
    | some x => simp only [Option.map_some, ne_eq, Option.some.injEq]; exact fun e => hne x rfl e.symm)
  have := h3 j u hu
  unfold World.cell? at this ⊢
  simp only [hb]
  exact this

/-- the reader at block g: it stands at place p of the code l -/
def Rd (w : World) (g p : Nat) (A : Option Addr) (m c : Nat) (l : List UInt8) : Prop :=
  w.cell? ⟨g, 0, none⟩ = some (.slice A m c) ∧ w.cell? ⟨g, 1, none⟩ = some (.int .i64 (p : Int)) ∧ w.frozen? ⟨g, 1, none⟩ = false ∧ Sl encB w g A m l ∧ m ≤ 2000
theorem Rd.lt {w : World} {g p : Nat} {A : Option Addr} {m c : Nat} {l : List UInt8} (h : Rd w g p A m c l) : g < w.heap.size := World.block_lt_of_cell? w _ h.1
theorem Rd.keep {w w' : World} {g p : Nat} {A : Option Addr} {m c : Nat} {l : List UInt8} {B : Nat} (h : Rd w g p A m c l) (hb : Below B w w') (hB : g < B) : Rd w' g p A m c l :=
  ⟨(hb.cell (p := ⟨g, 0, none⟩) hB).trans h.1, (hb.cell (p := ⟨g, 1, none⟩) hB).trans h.2.1, (hb.frozen (p := ⟨g, 1, none⟩) hB).trans h.2.2.1, h.2.2.2.1.keep (hb.mono (by omega)), h.2.2.2.2⟩
theorem Rd.on {w w' : World} {g p : Nat} {A : Option Addr} {m c : Nat} {l : List UInt8} (h : Rd w g p A m c l) (hb : Below w.heap.size w w') : Rd w' g p A m c l := h.keep hb h.lt

theorem bits_xor_i64 (a b : Nat) (ha : a < 4611686018427387904) (hb : b < 4611686018427387904) : ∃ v : Nat, bits .xor .i64 (a : Int) (b : Int) = (v : Int) ∧ v < 4611686018427387904 := by
  have hx : a ^^^ b < 2 ^ 62 := Nat.xor_lt_two_pow (by omega) (by omega)
  have h1 : (BitVec.ofInt 64 (a : Int)).toNat = a := by
    rw [BitVec.ofInt_natCast, BitVec.toNat_ofNat]; exact Nat.mod_eq_of_lt (by omega)
  have h2 : (BitVec.ofInt 64 (b : Int)).toNat = b := by
    rw [BitVec.ofInt_natCast, BitVec.toNat_ofNat]; exact Nat.mod_eq_of_lt (by omega)
  refine ⟨a ^^^ b, ?_, by omega⟩
  show IntKind.i64.wrap ((BitVec.ofInt 64 (a : Int) ^^^ BitVec.ofInt 64 (b : Int)).toNat : Int) = _
  rw [BitVec.toNat_xor, h1, h2]; exact IntWalk.i64_in _ (by omega)

def PickPost (w : World) (g p n : Nat) (A : Option Addr) (m c : Nat) (l : List UInt8) (e : Ending) (w' : World) : Prop :=
  ∃ v : Nat, e = .returned (.int .i64 (v : Int)) ∧ v < n ∧ Rd w' g (p + 1) A m c l ∧ Turn (some ⟨g, 0, none⟩) w w'

theorem Rd.step {w : World} {g p : Nat} {A : Option Addr} {m c : Nat} {l : List UInt8} (h : Rd w g p A m c l) (k : Nat) : Rd ((w.setCell ⟨g, 1, none⟩ (.int .i64 ((p : Int) + 1))).drewN k) g (p + 1) A m c l ∧ Turn (some ⟨g, 0, none⟩) w ((w.setCell ⟨g, 1, none⟩ (.int .i64 ((p : Int) + 1))).drewN k) := by
  have hlt := h.lt; obtain ⟨h1, h2, h3, h4, h5⟩ := h; have ht : Turn (some ⟨g, 0, none⟩) w (w.setCell ⟨g, 1, none⟩ (.int .i64 ((p : Int) + 1))) := (Turn.refl _ w).set 1 _; have hb : Below g w (w.setCell ⟨g, 1, none⟩ (.int .i64 ((p : Int) + 1))) := (Below.refl g w).setCell (p := ⟨g, 1, none⟩) (Nat.le_refl _) _; have hb2 : Below g w ((w.setCell ⟨g, 1, none⟩ (.int .i64 ((p : Int) + 1))).drewN k) := ⟨hb.os, hb.tape, hb.output, hb.size, hb.block⟩; refine ⟨⟨?_, ?_, ?_, h4.keep hb2, h5⟩, ?_⟩
  · show (w.setCell ⟨g, 1, none⟩ (.int .i64 ((p : Int) + 1))).cell? ⟨g, 0, none⟩ = _
    rw [World.cell?_setCell_other _ _ _ _ (by simp)]; exact h1
  · show (w.setCell ⟨g, 1, none⟩ (.int .i64 ((p : Int) + 1))).cell? ⟨g, 1, none⟩ = _
    rw [World.cell?_setCell_same _ _ _ h2]; simp
  · show (w.setCell ⟨g, 1, none⟩ (.int .i64 ((p : Int) + 1))).frozen? ⟨g, 1, none⟩ = _
    rw [World.frozen?_setCell]; exact h3
  exact ht.trans ⟨rfl, rfl, rfl, Nat.le_refl _, fun _ _ _ => rfl⟩

set_option maxHeartbeats 2000000 in
set_option maxRecDepth 100000 in
theorem pick (g p n : Nat) (A : Option Addr) (m c : Nat) (l : List UInt8) (w : World) (hrd : Rd w g p A m c l) (hn : 1 ≤ n) (hn2 : n ≤ 1000000) (hp : p ≤ 1000000) :
    Calls Try.prog 50 #[.pointer (some ⟨g, 0, none⟩), .int .i64 (n : Int)] w (PickPost w g p n A m c l) := by
  have hst : Hid (∀ k, Rd ((w.setCell ⟨g, 1, none⟩ (.int .i64 ((p : Int) + 1))).drewN k) g (p + 1) A m c l ∧ Turn (some ⟨g, 0, none⟩) w ((w.setCell ⟨g, 1, none⟩ (.int .i64 ((p : Int) + 1))).drewN k)) := Lib.hid fun k => hrd.step k; obtain ⟨h1, h2, h3, h4, h5⟩ := hrd
  by_cases hm : m = 0
  · subst hm; go_enter Try.func50, Try.ntmps50; go_wp2
    go_ret
    exact ⟨0, rfl, by omega, hst.out 0⟩
  · by_cases hpm : p < m
    · obtain ⟨b, off, rfl, hb⟩ := h4.spot (by omega); obtain ⟨x, hx, hc⟩ := h4.at1 (fun _ => rfl) hpm; have hm' : ((m : Int) == 0) = false := by simp; omega
      have hx2 := x.toNat_lt; have hv : ((x.toNat : Int) % (n : Int)) = ((x.toNat % n : Nat) : Int) := by simp
      have hvl : x.toNat % n < n := Nat.mod_lt _ (by omega); clear hm hx; have HV := Lib.hid hv; clear hv; go_enter Try.func50, Try.ntmps50; go_wp2
      go_ret
      exact ⟨x.toNat % n, retInt HV.out, hvl, hst.out 0⟩
    · obtain ⟨b, off, rfl, hb⟩ := h4.spot (by omega); have hm' : ((m : Int) == 0) = false := by simp; omega
      obtain ⟨q1, hq1, e1⟩ : ∃ q : Nat, q < m ∧ (p : Int).tmod (m : Int) = (q : Int) := ⟨p % m, Nat.mod_lt _ (by omega), by rw [Int.tmod_eq_emod_of_nonneg (by omega)]; simp⟩; obtain ⟨q2, hq2, e2⟩ : ∃ q : Nat, q < m ∧ ((p : Int) * 7 + 3).tmod (m : Int) = (q : Int) := ⟨(p * 7 + 3) % m, Nat.mod_lt _ (by omega), by rw [Int.tmod_eq_emod_of_nonneg (by omega)]; simp⟩; obtain ⟨q3, hq3, e3⟩ : ∃ q : Nat, q ≤ 1000000 ∧ (p : Int).tdiv (m : Int) = (q : Int) := ⟨p / m, Nat.le_trans (Nat.div_le_self _ _) hp, by rw [Int.tdiv_eq_ediv_of_nonneg (by omega)]; simp⟩; obtain ⟨x1, hx1, c1⟩ := h4.at1 (fun _ => rfl) hq1; obtain ⟨x2, hx2, c2⟩ := h4.at1 (fun _ => rfl) hq2; have l1 := x1.toNat_lt; have l2 := x2.toNat_lt; generalize hX1 : x1.toNat = y1 at *; generalize hX2 : x2.toNat = y2 at *; have a1 : IntKind.i64.wrap ((p : Int) * 7) = (p : Int) * 7 := IntWalk.i64_in _ (by omega); have a2 : IntKind.i64.wrap ((p : Int) * 7 + 3) = (p : Int) * 7 + 3 := IntWalk.i64_in _ (by omega); have a3 : IntKind.i64.wrap ((y1 : Int) * 131) = (y1 : Int) * 131 := IntWalk.i64_in _ (by omega); have a4 : IntKind.i64.wrap ((y2 : Int) * 1117) = (y2 : Int) * 1117 := IntWalk.i64_in _ (by omega); have a5 : IntKind.i64.wrap ((y1 : Int) * 131 + (y2 : Int) * 1117) = (y1 : Int) * 131 + (y2 : Int) * 1117 := IntWalk.i64_in _ (by omega); have a6 : IntKind.i64.wrap ((p : Int) * 29) = (p : Int) * 29 := IntWalk.i64_in _ (by omega); have a7 : IntKind.i64.wrap ((y1 : Int) * 131 + (y2 : Int) * 1117 + (p : Int) * 29) = (y1 : Int) * 131 + (y2 : Int) * 1117 + (p : Int) * 29 := IntWalk.i64_in _ (by omega); have a8 : IntKind.i64.wrap ((q3 : Int) * 53) = (q3 : Int) * 53 := IntWalk.i64_in _ (by omega); obtain ⟨X, hX, hXl⟩ : ∃ X : Nat, X = y1 * 131 + y2 * 1117 + p * 29 + q3 * 53 ∧ X < 4611686018427387904 := ⟨_, rfl, by omega⟩; have a9 : IntKind.i64.wrap ((y1 : Int) * 131 + (y2 : Int) * 1117 + (p : Int) * 29 + (q3 : Int) * 53) = (X : Int) := by rw [IntWalk.i64_in _ (by omega), hX]; simp
      obtain ⟨Y, hY, hYl⟩ := bits_xor_i64 X (X / 64) hXl (by omega); have hY2 : bits .xor .i64 (X : Int) ((X : Int) / 64) = (Y : Int) := by rw [← hY]; congr 1
      have b1 : (0 : Int) ≤ (q1 : Int) := by omega
      have b2 : (q1 : Int) < (m : Int) := by omega
      have b3 : (0 : Int) ≤ (q2 : Int) := by omega
      have b4 : (q2 : Int) < (m : Int) := by omega
      have hv : ((Y : Int) % (n : Int)) = ((Y % n : Nat) : Int) := by simp
      have hvl : Y % n < n := Nat.mod_lt _ (by omega); have HV := Lib.hid hv; clear hv hX hX1 hX2 hx1 hx2 hq1 hq2 hY; have n0 : ((m : Int) == 0) = false := hm'; go_enter Try.func50, Try.ntmps50; go_wp2
      go_quiet (fail)
      go_wp2
      go_ret
      exact ⟨Y % n, retInt HV.out, hvl, hst.out _⟩
end Go.Proofs.Ytpmeaikiaoojkaa
namespace Go.Proofs.Ytpmeaikiaoojkaa
open Go.RowKit

abbrev Letter := ByteArray × ByteArray
def encLetter (x : Letter) : List Value := [.string x.1, .string x.2]
theorem encLetter_len (x : Letter) : (encLetter x).length = 2 := rfl
def LetterWf (x : Letter) : Prop := x.1.size ≤ maxLen ∧ x.2.size ≤ maxLen
def LetterSWf (l : List Letter) : Prop := ∀ x : Letter, x ∈ l → LetterWf x
theorem LetterSWf.at_ {l : List Letter} (h : LetterSWf l) {k : Nat} {x : Letter} (hk : l[k]? = some x) : LetterWf x := h x (List.mem_of_getElem? hk)
theorem atLetter {w : World} {B n b off k : Nat} {l : List Letter} (h : Sl encLetter w B (some ⟨b, off, none⟩) n l) (hk : k < n) :
    ∃ f0 f1, l[k]? = some (f0, f1) ∧ w.cell? ⟨b, off + k * 2, none⟩ = some (.string f0) ∧ w.cell? ⟨b, off + k * 2 + 1, none⟩ = some (.string f1) := by
  obtain ⟨⟨f0, f1⟩, h1, h2⟩ := h.at_ encLetter_len hk; exact ⟨f0, f1, h1, h2 0 _ rfl, h2 1 _ rfl⟩
theorem info27 : (Try.prog.info? 27).map (fun i => (i.zero, i.size, i.bytes)) = some (some (.agg #[.string ByteArray.empty, .string ByteArray.empty]), 2, 32) := by kernel_rfl
/-! ### sizes -/
/-! ### equality -/
theorem ba_eqLetter {a b : ByteArray} (h : a.toList = b.toList) : a = b := by
  rw [ByteArray.toList_eq, ByteArray.toList_eq] at h; exact ByteArray.ext (Array.toList_inj.1 h)
def eqLetterB (a b : Letter) : Bool := ((a.1.toList == b.1.toList) && (a.2.toList == b.2.toList))
theorem eqLetterB_iff {a b : Letter} : eqLetterB a b = true ↔ a = b := by
  obtain ⟨f0, f1⟩ := a; obtain ⟨g0, g1⟩ := b; simp only [eqLetterB, Bool.and_eq_true, beq_iff_eq, Prod.mk.injEq]
  constructor
  · rintro ⟨h0, h1⟩; exact ⟨ba_eqLetter h0, ba_eqLetter h1⟩
  · rintro ⟨rfl, rfl⟩; exact ⟨rfl, rfl⟩
def letterSEq (l m : List Letter) : Bool := decide (l = m)
def EqToLetter (l m : List Letter) (k : Nat) : Prop := ∀ i : Nat, i < k → l[i]? = m[i]?
theorem EqToLetter.zero (l m : List Letter) : EqToLetter l m 0 := fun _ h => absurd h (by omega)
theorem EqToLetter.step {l m : List Letter} {k : Nat} {x y : Letter} (h : EqToLetter l m k) (hx : l[k]? = some x) (hy : m[k]? = some y) (he : eqLetterB x y = true) : EqToLetter l m (k + 1) := by
  intro i hi
  by_cases hik : i < k
  · exact h i hik
  · obtain rfl : i = k := by omega
    rw [hx, hy, eqLetterB_iff.1 he]
theorem EqToLetter.all {l m : List Letter} {k : Nat} (h : EqToLetter l m k) (hl : l.length ≤ k) (hm : m.length ≤ k) : letterSEq l m = true := by
  simp only [letterSEq, decide_eq_true_eq]
  apply List.ext_getElem?
  intro i
  by_cases hi : i < k
  · exact h i hi
  · rw [List.getElem?_eq_none (by omega), List.getElem?_eq_none (by omega)]
end Go.Proofs.Ytpmeaikiaoojkaa
namespace Go.Proofs.Ytpmeaikiaoojkaa
open Go.RowKit

/-- the string of one byte -/
def b1 (z : Int) : ByteArray := strOfNums [z]
theorem b1_size (z : Int) : (b1 z).size = 1 := rfl
theorem cell_new1 (w : World) (v : Value) (t : TypeId) : (w.alloc (.cells #[v] t)).cell? ⟨w.heap.size, 0, none⟩ = some v := by
  rw [cell_of_row _ w.heap.size 0 #[v] t (0, 0) (heap_alloc_new w _)]; rfl
set_option maxRecDepth 100000 in
theorem conv1 (W : World) (z : Int) : (convert 31 9 (.slice (some ⟨W.heap.size, 0, none⟩) 1 1)).run Try.prog (W.alloc (.cells #[.int .u8 z] 5)) = .ok (.string (b1 z)) (W.alloc (.cells #[.int .u8 z] 5)) :=
  run_convert_bytes_arg (P := Try.prog) _ 31 5 Try.underlying31 Try.underlying5 W.heap.size 0 1 1 [z] rfl (fun i hi => by
    obtain rfl : i = 0 := by omega
    simp only [Nat.add_zero]
    exact cell_new1 W (.int .u8 z) 5) 9 Try.underlying9
/-- a number below 100 in two digits -/
def two (n : Int) : ByteArray := b1 (48 + n / 10) ++ b1 (48 + n % 10)
end Go.Proofs.Ytpmeaikiaoojkaa
namespace Go.Proofs.Ytpmeaikiaoojkaa
open Go.RowKit

/-- the numeral of a number, as a string -/
def dec (n : Int) : ByteArray := ⟨(Lib.itoa n).toArray⟩
def decN (u : Nat) : ByteArray := ⟨(Lib.decDigits u).toArray⟩
theorem b1_data (u : Nat) (_ : u < 256) : (b1 (u : Int)).data = #[UInt8.ofNat u] := by simp [b1, strOfNums]
theorem ba_cat (a b : List UInt8) : (⟨(a ++ b).toArray⟩ : ByteArray) = ⟨a.toArray⟩ ++ ⟨b.toArray⟩ := by
  apply ByteArray.ext; simp
theorem decN_small {u : Nat} (h : u ≤ 9) : decN u = b1 (48 + (u : Int)) := by
  apply ByteArray.ext
  rw [show (48 + (u : Int)) = ((48 + u : Nat) : Int) by omega, b1_data _ (by omega), decN, Lib.decDigits_one (by omega)]
theorem decN_step {u : Nat} (h : 9 < u) : decN u = decN (u / 10) ++ b1 (48 + (u : Int) % 10) := by
  have e : b1 (48 + (u : Int) % 10) = ⟨[UInt8.ofNat (48 + u % 10)].toArray⟩ := by
    apply ByteArray.ext
    rw [show (48 + (u : Int) % 10) = ((48 + u % 10 : Nat) : Int) by omega, b1_data _ (by omega)]
  rw [e, decN, decN, ← ba_cat]
  conv => lhs; rw [Lib.decDigits, dif_neg (by omega)]
theorem dec_nonneg (u : Nat) : dec (u : Int) = decN u := by rw [dec, Lib.itoa_nonneg]; rfl
theorem dec_neg (u : Nat) (h : 1 ≤ u) : dec (-(u : Int)) = (⟨#[45]⟩ : ByteArray) ++ decN u := by
  rw [dec, Lib.itoa_neg u h, decN]; exact ba_cat [45] (Lib.decDigits u)
theorem nDigits_le : ∀ (f u : Nat), u < 10 ^ f → 1 ≤ f → Lib.nDigits u ≤ f
  | 0, u, _, h => by omega
  | f + 1, u, hu, _ => by
    rw [Lib.nDigits]
    split
    · omega
    · have hf : 1 ≤ f := by
        rcases Nat.eq_zero_or_pos f with rfl | h
        · simp at hu; omega
        · exact h
      have := nDigits_le f (u / 10) (by rw [Nat.pow_succ] at hu; omega) hf
      omega
theorem decN_size {u f : Nat} (h : u < 10 ^ f) (hf : 1 ≤ f) : (decN u).size ≤ f := by
  show (Lib.decDigits u).toArray.size ≤ f
  rw [List.size_toArray, Lib.decDigits_length]; exact nDigits_le f u h hf
set_option maxHeartbeats 1000000 in
set_option maxRecDepth 100000 in
theorem l11DecN (u : Nat) (w : World) (h : u ≤ 99999999) :
    Calls Try.prog 60 #[.int .i64 (u : Int)] w fun e w' => e = .returned (.string (decN u)) ∧ Below w.heap.size w w' := by
  have hcv := conv1; have h0 : ¬ (u : Int) < -9223372036854775807 := by omega
  have h1 : ¬ (u : Int) < 0 := by omega
  go_enter Try.func60, Try.ntmps60; go_wp2
  go_loopw [0, 3] (fun i s wr => ∃ (q : Nat) (t : ByteArray), q ≤ u ∧ i = .int .i64 q ∧ s = .string t ∧ t.size + q ≤ u ∧ Hid (decN q ++ t = decN u) ∧ Below w.heap.size w wr) (fun i _ _ => (intOf i).toNat)
  case atStart => exact ⟨u, ByteArray.empty, by omega, rfl, rfl, by simp, Lib.hid (by simp), Below.refl _ _⟩
  case round =>
    obtain ⟨q, t, hq, rfl, rfl, ht, hm, hbel⟩ := hrel; have ht2 : t.size ≤ 99999999 := by omega
    by_cases h9 : 9 < q
    · have hb1 := b1_size (48 + (q : Int) % 10); have HB := Lib.hid hb1; have HM := Lib.hid (show decN (q / 10) ++ (b1 (48 + (q : Int) % 10) ++ t) = decN u by rw [← ByteArray.append_assoc, ← decN_step h9]; exact hm.out); go_wp2
      go_roundw
      case rel => exact ⟨q / 10, b1 (48 + (q : Int) % 10) ++ t, by omega, by rw [show (q : Int) / 10 = ((q / 10 : Nat) : Int) by omega], rfl, by rw [ByteArray.size_append, HB.out]; omega, HM, bel_alloc hbel _⟩
      case measure => simp [intOf]; omega
    · have hb1 := b1_size (48 + (q : Int)); have HF := Lib.hid (show b1 (48 + (q : Int)) ++ t = decN u by rw [← decN_small (by omega)]; exact hm.out); go_wp2
      go_ret
      exact ⟨congrArg (fun s => Ending.returned (.string s)) HF.out, bel_alloc hbel _⟩
theorem l11Dec (n : Int) (w : World) (h0 : -99999999 ≤ n) (h1 : n ≤ 99999999) :
    Calls Try.prog 60 #[.int .i64 n] w fun e w' => e = .returned (.string (dec n)) ∧ Below w.heap.size w w' := by
  by_cases hn : n < 0
  · obtain ⟨u, rfl, hu⟩ : ∃ u : Nat, n = -(u : Int) ∧ 1 ≤ u := ⟨n.natAbs, by omega, by omega⟩; rw [dec_neg u hu]; have hs := decN_size (u := u) (f := 8) (by omega) (by omega); have h2 : ¬ -(u : Int) < -9223372036854775807 := by omega
    have h3 : -(u : Int) < 0 := by omega
    have h4 : - -(u : Int) = (u : Int) := by omega
    have hu8 : (u : Int) ≤ 99999999 := by omega
    clear hn h0 h1; go_enter Try.func60, Try.ntmps60; go_wp2_with fail; refine (l11DecN u _ (by omega)).mono ?_; rintro e w1 ⟨rfl, hb1⟩; go_wp2
    go_ret
    exact ⟨rfl, hb1⟩
  · obtain ⟨u, rfl⟩ : ∃ u : Nat, n = (u : Int) := ⟨n.toNat, by omega⟩; rw [dec_nonneg]; exact l11DecN u w (by omega)
end Go.Proofs.Ytpmeaikiaoojkaa
namespace Go.Proofs.Ytpmeaikiaoojkaa
open Go.RowKit

def words : List ByteArray := [⟨#[103, 101, 116]⟩, ⟨#[97, 108, 108]⟩, ⟨#[115, 117, 109]⟩, ⟨#[112, 117, 116]⟩, ⟨#[97, 100, 100]⟩, ⟨#[99, 117, 116]⟩, ⟨#[98, 101, 103, 105, 110]⟩, ⟨#[101, 110, 100]⟩, ⟨#[117, 110, 100, 111]⟩]
def word (j : Nat) : ByteArray := words.getD j ⟨#[]⟩
def askOk (k : Int) (key hi : ByteArray) (num : Int) : Bool :=
  (decide (1 ≤ k) && decide (k ≤ 9)) && (fieldB key (shape k).1 && (fieldB hi (shape k).2.1 && (if (shape k).2.2 = true then numOk num else num == 0)))
theorem askOk_low {k : Int} {key hi : ByteArray} {num : Int} (h : k < 1 ∨ 9 < k) : askOk k key hi num = false := by
  unfold askOk
  rcases h with h | h
  · rw [show decide (1 ≤ k) = false by simpa using h]; rfl
  · rw [show decide (k ≤ 9) = false by simpa using h]; simp
theorem askOk_mid {k : Int} {key hi : ByteArray} {num : Int} {a b c : Bool} (h1 : 1 ≤ k) (h2 : k ≤ 9) (hs : shape k = (a, b, c)) :
    askOk k key hi num = (fieldB key a && (fieldB hi b && (if c = true then numOk num else num == 0))) := by
  unfold askOk
  rw [hs]; simp [h1, h2]
theorem keyOk_emp {s : ByteArray} (h : emp s = true) : keyOk s = false := by
  have h1 : s = ⟨#[]⟩ := by
    unfold emp at h
    rw [beq_iff_eq, ByteArray.toList_eq] at h; exact ByteArray.ext (Array.toList_inj.1 h)
  subst h1; decide
set_option maxHeartbeats 4000000 in
set_option maxRecDepth 100000 in
theorem specAskOk (k : Int) (key hi : ByteArray) (num : Int) (w : World) (hk1 : key.size ≤ maxLen) (hk2 : hi.size ≤ maxLen) :
    Calls Try.prog 99 #[.agg #[.int .i64 k, .string key, .string hi, .int .i64 num]] w fun e w' => e = .returned (.bool (askOk k key hi num)) ∧ Below w.heap.size w w' := by
  have b0 := bel_alloc (Below.refl _ w) (.cells #[.int .i64 k, .string key, .string hi, .int .i64 num] 62)
  by_cases hlo : k < 1 ∨ 9 < k
  · rw [askOk_low hlo]
    rcases hlo with h | h
    · go_enter Try.func99, Try.ntmps99; go_wp2
      go_ret
      exact ⟨rfl, b0⟩
    · have h1 : ¬ k < 1 := by omega
      go_enter Try.func99, Try.ntmps99; go_wp2
      go_ret
      exact ⟨rfl, b0⟩
  · have n0 : ¬ k < 1 := by omega
    have n1 : ¬ 9 < k := by omega
    obtain ⟨a, b, c, hs⟩ : ∃ a b c, shape k = (a, b, c) := ⟨_, _, _, rfl⟩; have HA := Lib.hid (askOk_mid (key := key) (hi := hi) (num := num) (by omega) (by omega) hs); have C0 := Lib.hid (fun W => l4Shape k W); rw [hs] at C0; clear hs hlo; have C1 := Lib.hid (fun W => specKeyOk key W hk1); have C2 := Lib.hid (fun W => specKeyOk hi W hk2); have C3 := Lib.hid (fun W => l1NumC num W); clear hk1 hk2; have HK1 := Lib.hid (fun h => keyOk_emp (s := key) h); have HK2 := Lib.hid (fun h => keyOk_emp (s := hi) h); obtain ⟨f1, hf1⟩ : ∃ f, keyOk key = f := ⟨_, rfl⟩; obtain ⟨f2, hf2⟩ : ∃ f, keyOk hi = f := ⟨_, rfl⟩; have HE1 := Lib.hid hf1; have HE2 := Lib.hid hf2; rw [hf1] at C1 HK1; rw [hf2] at C2 HK2; clear hf1 hf2; go_enter Try.func99, Try.ntmps99; go_wp2_with fail; refine (C0.out _).mono ?_; rintro e w1 ⟨rfl, rfl⟩; cases a <;> cases b <;> cases c
    all_goals
      go_wp2_with (first
        | ((with_reducible (go_at_call 92; refine (C1.out _).mono ?_)); rintro e w' ⟨rfl, rfl⟩)
        | ((with_reducible (go_at_call 92; refine (C2.out _).mono ?_)); rintro e w' ⟨rfl, rfl⟩)
        | ((with_reducible (go_at_call 93; refine (C3.out _).mono ?_)); rintro e w' ⟨rfl, rfl⟩))
    all_goals
      go_ret
      refine ⟨ret_bool ?_, b0⟩; rw [HA.out]; have E1 := HE1.out; have E2 := HE2.out; have K1 := HK1.out; have K2 := HK2.out
      simp_all [fieldB, emp]
end Go.Proofs.Ytpmeaikiaoojkaa
namespace Go.Proofs.Ytpmeaikiaoojkaa
open Go.RowKit

def sp : ByteArray := ⟨#[32]⟩
def addS (f : Bool) (t s : ByteArray) : ByteArray := if f = true then t ++ sp ++ s else t
def catT (j : Nat) (key hi : ByteArray) (num : Int) (a b c : Bool) : ByteArray := addS c (addS b (addS a (word j) key) hi) (dec num)
def askText (k : Int) (key hi : ByteArray) (num : Int) : ByteArray :=
  if askOk k key hi num = true then catT (k - 1).toNat key hi num (shape k).1 (shape k).2.1 (shape k).2.2 else ByteArray.empty
theorem askText_bad {k : Int} {key hi : ByteArray} {num : Int} (h : askOk k key hi num = false) : askText k key hi num = ByteArray.empty := by
  rw [askText, if_neg (by rw [h]; simp)]
theorem askText_ok {j : Nat} {key hi : ByteArray} {num : Int} {a b c : Bool} (h : askOk ((j : Int) + 1) key hi num = true) (hs : shape ((j : Int) + 1) = (a, b, c)) : askText ((j : Int) + 1) key hi num = catT j key hi num a b c := by
  rw [askText, if_pos h, hs]; simp only
  congr 1
  omega
theorem keyOk_size {s : ByteArray} (h : keyOk s = true) : s.size ≤ 2 := by
  unfold keyOk at h
  simp only [Bool.and_eq_true, Bool.or_eq_true, decide_eq_true_eq] at h
  omega
theorem emp_size {s : ByteArray} (h : emp s = true) : s.size = 0 := by
  unfold emp at h
  rw [beq_iff_eq, ByteArray.toList_eq] at h
  show s.data.size = 0
  rw [← Array.length_toList, h]; rfl
theorem fieldB_size {s : ByteArray} {f : Bool} (h : fieldB s f = true) : s.size ≤ 2 := by
  unfold fieldB at h
  split at h
  · exact keyOk_size h
  · have := emp_size h; omega
/-- what a right request is -/
theorem askOk_facts {k : Int} {key hi : ByteArray} {num : Int} (h : askOk k key hi num = true) : ∃ (j : Nat) (a b c : Bool), k = (j : Int) + 1 ∧ j < 9 ∧ shape k = (a, b, c) ∧ key.size ≤ 2 ∧ hi.size ≤ 2 ∧ -999 ≤ num ∧ num ≤ 999 := by
  by_cases hlo : k < 1 ∨ 9 < k
  · rw [askOk_low hlo] at h; cases h
  · obtain ⟨j, rfl⟩ : ∃ j : Nat, k = (j : Int) + 1 := ⟨(k - 1).toNat, by omega⟩; obtain ⟨a, b, c, hs⟩ : ∃ a b c, shape ((j : Int) + 1) = (a, b, c) := ⟨_, _, _, rfl⟩; rw [askOk_mid (by omega) (by omega) hs] at h; simp only [Bool.and_eq_true] at h
    obtain ⟨h1, h2, h3⟩ := h; refine ⟨j, a, b, c, rfl, by omega, hs, fieldB_size h1, fieldB_size h2, ?_⟩; cases c
    · simp at h3; omega
    · simpa [numOk] using h3
theorem word_size {j : Nat} (h : j < 9) : (word j).size ≤ 5 := by
  have hc : j = 0 ∨ j = 1 ∨ j = 2 ∨ j = 3 ∨ j = 4 ∨ j = 5 ∨ j = 6 ∨ j = 7 ∨ j = 8 := by omega
  rcases hc with rfl | rfl | rfl | rfl | rfl | rfl | rfl | rfl | rfl <;> decide
theorem dec_size {n : Int} (h0 : -999 ≤ n) (h1 : n ≤ 999) : (dec n).size ≤ 4 := by
  by_cases hn : n < 0
  · obtain ⟨u, rfl, hu⟩ : ∃ u : Nat, n = -(u : Int) ∧ 1 ≤ u := ⟨n.natAbs, by omega, by omega⟩; rw [dec_neg u hu, ByteArray.size_append, show (⟨#[45]⟩ : ByteArray).size = 1 from rfl]; have := decN_size (u := u) (f := 3) (by omega) (by omega)
    omega
  · obtain ⟨u, rfl⟩ : ∃ u : Nat, n = (u : Int) := ⟨n.toNat, by omega⟩; rw [dec_nonneg]; have := decN_size (u := u) (f := 3) (by omega) (by omega)
    omega
def wordCells : Array Value := #[.string ⟨#[]⟩, .string ⟨#[103, 101, 116]⟩, .string ⟨#[97, 108, 108]⟩, .string ⟨#[115, 117, 109]⟩, .string ⟨#[112, 117, 116]⟩, .string ⟨#[97, 100, 100]⟩, .string ⟨#[99, 117, 116]⟩, .string ⟨#[98, 101, 103, 105, 110]⟩, .string ⟨#[101, 110, 100]⟩, .string ⟨#[117, 110, 100, 111]⟩]
theorem word_cell (w : World) {j : Nat} (h : j < 9) : (w.alloc (.cells wordCells 9)).cell? ⟨w.heap.size, j + 1, none⟩ = some (.string (word j)) := by
  rw [cell_of_row _ w.heap.size (j + 1) wordCells 9 (0, 0) (heap_alloc_new w _)]; have hc : j = 0 ∨ j = 1 ∨ j = 2 ∨ j = 3 ∨ j = 4 ∨ j = 5 ∨ j = 6 ∨ j = 7 ∨ j = 8 := by omega
  rcases hc with rfl | rfl | rfl | rfl | rfl | rfl | rfl | rfl | rfl <;> rfl
set_option maxHeartbeats 1000000 in
theorem l4Word (j : Nat) (w : World) (h : j < 9) : Calls Try.prog 103 #[.int .i64 ((j : Int) + 1)] w fun e w' => e = .returned (.string (word j)) ∧ Below w.heap.size w w' := by
  have hc := word_cell w h
  unfold wordCells at hc
  have i0 : (0 : Int) ≤ (j : Int) + 1 := by omega
  have i1 : (j : Int) + 1 < 10 := by omega
  go_enter Try.func103, Try.ntmps103; go_wp2
  go_ret
  exact ⟨rfl, bel_alloc (Below.refl _ _) _⟩
set_option maxHeartbeats 4000000 in
set_option maxRecDepth 100000 in
theorem specAskText (k : Int) (key hi : ByteArray) (num : Int) (w : World) (hk1 : key.size ≤ maxLen) (hk2 : hi.size ≤ maxLen) :
    Calls Try.prog 80 #[.agg #[.int .i64 k, .string key, .string hi, .int .i64 num]] w fun e w' => e = .returned (.string (askText k key hi num)) ∧ Below w.heap.size w w' := by
  have b0 := bel_alloc (Below.refl _ w) (.cells #[.int .i64 k, .string key, .string hi, .int .i64 num] 62); have x0 := BoxC.new w 62 #[.int .i64 k, .string key, .string hi, .int .i64 num]; have C0 := Lib.hid (fun W => specAskOk k key hi num W hk1 hk2); clear hk1 hk2; cases hok : askOk k key hi num
  · rw [askText_bad hok]; rw [hok] at C0; clear hok; go_enter Try.func80, Try.ntmps80; go_wp2_with fail; refine (C0.out _).mono ?_; rintro e w1 ⟨rfl, hb1⟩; go_wp2
    go_ret
    exact ⟨rfl, bel_trans b0 hb1⟩
  · obtain ⟨j, a, b, c, rfl, hj, hs, z1, z2, n0, n1⟩ := askOk_facts hok; rw [askText_ok hok hs]; have z0 := word_size hj; have z3 := dec_size n0 n1; have C1 := Lib.hid (fun W => l4Shape ((j : Int) + 1) W); have C2 := Lib.hid (fun W => l4Word j W hj); have C3 := Lib.hid (fun W => l11Dec num W (by omega) (by omega)); rw [hok] at C0; rw [hs] at C1; have HT := Lib.hid (show catT j key hi num a b c = addS c (addS b (addS a (word j) key) hi) (dec num) from rfl); clear hok hs; generalize hwj : word j = wj at *; generalize hdn : dec num = dn at *; clear hwj hdn; go_enter Try.func80, Try.ntmps80; go_wp2_with fail; refine (C0.out _).mono ?_; rintro e w1 ⟨rfl, hb1⟩; have b1 := bel_trans b0 hb1; have x1 := x0.on hb1; obtain ⟨c10, c11, c12, c13⟩ := x1.k4; go_wp2_with fail; refine (C1.out _).mono ?_; rintro e w2 ⟨rfl, rfl⟩; go_wp2_with fail; refine (C2.out _).mono ?_; rintro e w2 ⟨rfl, hb2⟩; have b2 := bel_trans b1 hb2; have x2 := x1.on hb2; clear c10 c11 c12 c13; obtain ⟨c10, c11, c12, c13⟩ := x2.k4; cases a <;> cases b <;> cases c
    all_goals
      go_wp2_with fail
    all_goals first
      | (go_ret
         exact ⟨congrArg (fun s => Ending.returned (.string s)) (by rw [HT.out]; rfl), b2⟩)
      | (refine (C3.out _).mono ?_
         rintro e w3 ⟨rfl, hb3⟩; go_wp2
         go_ret
         exact ⟨congrArg (fun s => Ending.returned (.string s)) (by rw [HT.out]; rfl), bel_trans b2 hb3⟩)
end Go.Proofs.Ytpmeaikiaoojkaa
namespace Go.Proofs.Ytpmeaikiaoojkaa
open Go.RowKit

def OfPost (w : World) (g p : Nat) (A : Option Addr) (m c : Nat) (l : List UInt8) (ss : List ByteArray) (e : Ending) (w' : World) : Prop :=
  ∃ s : ByteArray, e = .returned (.string s) ∧ s ∈ ss ∧ Rd w' g (p + 1) A m c l ∧ Turn (some ⟨g, 0, none⟩) w w'
set_option maxHeartbeats 1000000 in
theorem ofC (g p n k b off : Nat) (A : Option Addr) (m c : Nat) (l : List UInt8) (ss : List ByteArray) (w : World) (hrd : Rd w g p A m c l) (hp : p ≤ 1000000)
    (hs : Sl encT w w.heap.size (some ⟨b, off, none⟩) n ss) (hne : g ≠ b) (hn : 1 ≤ n) (hn2 : n ≤ 1000000) :
    Calls Try.prog 61 #[.pointer (some ⟨g, 0, none⟩), .slice (some ⟨b, off, none⟩) n k] w (OfPost w g p A m c l ss) := by
  have HP := Lib.hid hp; clear hp; go_enter Try.func61, Try.ntmps61; go_wp2_with fail; refine (pick g p n A m c l w hrd hn hn2 HP.out).mono ?_; rintro e w1 ⟨v, rfl, hv, hr1, ht⟩; have hs1 := hs.far ht (fun x hx => by cases hx; exact hne) (Nat.le_refl _); obtain ⟨s, hx, hc⟩ := hs1.at1 (fun _ => rfl) hv; have hmem := List.mem_of_getElem? hx; clear hx; have v0 : (0 : Int) ≤ (v : Int) := by omega
  have v1 : (v : Int) < (n : Int) := by omega
  go_wp2
  go_ret
  exact ⟨s, rfl, hmem, hr1, ht⟩
def NumPost (w : World) (g p : Nat) (A : Option Addr) (m c : Nat) (l : List UInt8) (ss : List Int) (e : Ending) (w' : World) : Prop :=
  ∃ s : Int, e = .returned (.int .i64 s) ∧ s ∈ ss ∧ Rd w' g (p + 1) A m c l ∧ Turn (some ⟨g, 0, none⟩) w w'
set_option maxHeartbeats 1000000 in
theorem numC (g p n k b off : Nat) (A : Option Addr) (m c : Nat) (l : List UInt8) (ss : List Int) (w : World) (hrd : Rd w g p A m c l) (hp : p ≤ 1000000)
    (hs : Sl encI w w.heap.size (some ⟨b, off, none⟩) n ss) (hne : g ≠ b) (hn : 1 ≤ n) (hn2 : n ≤ 1000000) :
    Calls Try.prog 72 #[.pointer (some ⟨g, 0, none⟩), .slice (some ⟨b, off, none⟩) n k] w (NumPost w g p A m c l ss) := by
  have HP := Lib.hid hp; clear hp; go_enter Try.func72, Try.ntmps72; go_wp2_with fail; refine (pick g p n A m c l w hrd hn hn2 HP.out).mono ?_; rintro e w1 ⟨v, rfl, hv, hr1, ht⟩; have hs1 := hs.far ht (fun x hx => by cases hx; exact hne) (Nat.le_refl _); obtain ⟨s, hx, hc⟩ := hs1.at1 (fun _ => rfl) hv; have hmem := List.mem_of_getElem? hx; clear hx; have v0 : (0 : Int) ≤ (v : Int) := by omega
  have v1 : (v : Int) < (n : Int) := by omega
  go_wp2
  go_ret
  exact ⟨s, rfl, hmem, hr1, ht⟩

/-- a row of the call's own may be new behind a turn of the reader -/
theorem Turn.alloc {A : Option Addr} {w w' : World} (h : Turn A w w') (o : Obj) : Turn A w (w'.alloc o) := h.below (bel_alloc (Below.refl _ _) o)
/-- the reader is opened over the code -/
theorem cell_new2 (w : World) (u v : Value) (t : TypeId) : (w.alloc (.cells #[u, v] t)).cell? ⟨w.heap.size, 0, none⟩ = some u ∧ (w.alloc (.cells #[u, v] t)).cell? ⟨w.heap.size, 1, none⟩ = some v := by
  constructor
  · rw [cell_of_row _ w.heap.size 0 #[u, v] t (0, 0) (heap_alloc_new w _)]; rfl
  · rw [cell_of_row _ w.heap.size 1 #[u, v] t (0, 0) (heap_alloc_new w _)]; rfl
def OpenPost (w : World) (e : Ending) (w' : World) : Prop :=
  ∃ (A : Option Addr) (m c : Nat) (l : List UInt8), e = .returned (.pointer (some ⟨w.heap.size, 0, none⟩)) ∧ Rd w' w.heap.size 0 A m c l ∧ Below w.heap.size w w'
theorem Rd.new (w : World) (A : Option Addr) (m c : Nat) (l : List UInt8) (hr : Sl encB w w.heap.size A m l) (hm : m ≤ 2000) :
    Rd (w.alloc (.cells #[.slice A m c, .int .i64 0] 104)) w.heap.size 0 A m c l := by
  obtain ⟨q1, q2⟩ := cell_new2 w (.slice A m c) (.int .i64 0) 104; refine ⟨q1, q2, ?_, hr.keep (bel_alloc (Below.refl _ w) _), hm⟩; exact World.frozen?_alloc_new ..
set_option maxHeartbeats 1000000 in
theorem l11Open (A : Option Addr) (n c : Nat) (l : List UInt8) (w : World) (hr : Sl encB w w.heap.size A n l) (hn : n ≤ 1048576) (hc : n ≤ c) :
    Calls Try.prog 40 #[.slice A n c] w (OpenPost w) := by
  by_cases hbig : 2000 < n
  · obtain ⟨b, off, rfl, hb⟩ := hr.spot (by omega); have h0 := hr.cut (sz := 1) encB_len 0 2000 (by omega) (by omega); have h1 := Rd.new w _ _ c _ h0 (by omega); go_enter Try.func40, Try.ntmps40; go_wp2
    go_ret
    exact ⟨_, _, _, _, rfl, h1, bel_alloc (Below.refl _ _) _⟩
  · have h1 := Rd.new w _ _ c _ hr (by omega); go_enter Try.func40, Try.ntmps40; go_wp2
    go_ret
    exact ⟨_, _, _, _, rfl, h1, bel_alloc (Below.refl _ _) _⟩
end Go.Proofs.Ytpmeaikiaoojkaa
namespace Go.Proofs.Ytpmeaikiaoojkaa
open Go.RowKit

abbrev Row := ByteArray × Int
def encRow (r : Row) : List Value := [.string r.1, .int .i64 r.2]
theorem encRow_len (r : Row) : (encRow r).length = 2 := rfl
def KeysWf (l : List Row) : Prop := ∀ r : Row, r ∈ l → r.1.size ≤ maxLen
theorem KeysWf.at_ {l : List Row} (h : KeysWf l) {k : Nat} {key : ByteArray} {num : Int} (hk : l[k]? = some (key, num)) : key.size ≤ maxLen := h (key, num) (List.mem_of_getElem? hk)
theorem rowAt {w : World} {B n b off k : Nat} {l : List Row} (h : Sl encRow w B (some ⟨b, off, none⟩) n l) (hk : k < n) :
    ∃ key num, l[k]? = some (key, num) ∧ w.cell? ⟨b, off + k * 2, none⟩ = some (.string key) ∧ w.cell? ⟨b, off + k * 2 + 1, none⟩ = some (.int .i64 num) := by
  obtain ⟨⟨key, num⟩, h1, h2⟩ := h.at_ encRow_len hk; exact ⟨key, num, h1, h2 0 _ rfl, h2 1 _ rfl⟩

def klt (a b : ByteArray) : Bool := Op.bytesLess a.toList b.toList
def AscP (l : List Row) : Prop := ∀ (i : Nat) (a b : Row), l[i]? = some a → l[i + 1]? = some b → klt a.1 b.1 = true
def EachP (l : List Row) : Prop := ∀ (i : Nat) (r : Row), l[i]? = some r → keyOk r.1 = true ∧ numOk r.2 = true
def RowsP (l : List Row) : Prop := l.length ≤ 10 ∧ EachP l ∧ AscP l
open Classical in
noncomputable def rowsOk (l : List Row) : Bool := decide (RowsP l)
theorem rowsOk_true {l : List Row} (h : RowsP l) : rowsOk l = true := by simp [rowsOk, h]
theorem rowsOk_false {l : List Row} (h : ¬ RowsP l) : rowsOk l = false := by simp [rowsOk, h]
theorem rowsOk_iff {l : List Row} : rowsOk l = true ↔ RowsP l := by simp [rowsOk]
/-- ascending up to element j + 1 -/
def AscTo (l : List Row) (j : Nat) : Prop := ∀ (i : Nat) (a b : Row), i < j → l[i]? = some a → l[i + 1]? = some b → klt a.1 b.1 = true
theorem AscTo.zero (l : List Row) : AscTo l 0 := fun _ _ _ h => absurd h (by omega)
theorem AscTo.step {l : List Row} {j : Nat} (h : AscTo l j) {k0 k1 : ByteArray} {n0 n1 : Int} (h0 : l[j]? = some (k0, n0)) (h1 : l[j + 1]? = some (k1, n1)) (hlt : klt k0 k1 = true) : AscTo l (j + 1) := by
  intro i a b hi ha hb
  by_cases hij : i < j
  · exact h i a b hij ha hb
  · obtain rfl : i = j := by omega
    rw [h0] at ha; rw [h1] at hb; cases ha; cases hb; exact hlt
theorem AscTo.all {l : List Row} {j : Nat} (h : AscTo l j) (hj : l.length ≤ j + 1) : AscP l := by
  intro i a b ha hb; exact h i a b (by have := (List.getElem?_eq_some_iff.1 hb).1; omega) ha hb
/-! ### One row -/
/-! ### ascending -/
/-! ### RowsOk of the program -/
def EachTo (l : List Row) (k : Nat) : Prop := ∀ (i : Nat) (r : Row), i < k → l[i]? = some r → keyOk r.1 = true ∧ numOk r.2 = true
theorem EachTo.zero (l : List Row) : EachTo l 0 := fun _ _ h => absurd h (by omega)
theorem EachTo.step {l : List Row} {k : Nat} (h : EachTo l k) {key : ByteArray} {num : Int} (hr : l[k]? = some (key, num)) (h1 : keyOk key = true) (h2 : numOk num = true) : EachTo l (k + 1) := by
  intro i r hi hri
  by_cases hik : i < k
  · exact h i r hik hri
  · obtain rfl : i = k := by omega
    rw [hr] at hri; cases hri; exact ⟨h1, h2⟩
theorem EachTo.all {l : List Row} {k : Nat} (h : EachTo l k) (hk : l.length ≤ k) : EachP l := by
  intro i r hr; exact h i r (by have := (List.getElem?_eq_some_iff.1 hr).1; omega) hr
theorem not_each {l : List Row} {k : Nat} {key : ByteArray} {num : Int} (hr : l[k]? = some (key, num)) (h : keyOk key = false ∨ numOk num = false) : ¬ EachP l := by
  intro he; obtain ⟨h1, h2⟩ := he k _ hr
  rcases h with h | h
  · rw [h] at h1; cases h1
  · rw [h] at h2; cases h2
theorem rowsOk_bad {l : List Row} (h : ¬ EachP l) : rowsOk l = false := rowsOk_false fun h' => h h'.2.1
theorem rowsOk_long {l : List Row} (h : ¬ l.length ≤ 10) : rowsOk l = false := rowsOk_false fun h' => h h'.1
end Go.Proofs.Ytpmeaikiaoojkaa
namespace Go.Proofs.Ytpmeaikiaoojkaa
open Go.RowKit

/-! ### Calls that leave the world as it is, inside a region that draws -/
theorem quiet_add_left {P : Program} {f : FuncId} {args : Array Value} {w : World} {a n : Nat} {v : Value}
    (h : Calls P f args (w.drewN (a + n)) fun e w' => e = .returned v ∧ w.drewN (a + n) = w') :
    Calls P f args (w.drewN (a + n)) fun e w'' => e = .returned v ∧ ∃ m, w'' = w.drewN (a + m) :=
  h.mono fun _ _ ⟨he, hm⟩ => ⟨he, n, hm.symm⟩
theorem quiet_left {P : Program} {f : FuncId} {args : Array Value} {w : World} {n : Nat} {v : Value}
    (h : Calls P f args (w.drewN n) fun e w' => e = .returned v ∧ w.drewN n = w') : Calls P f args (w.drewN n) fun e w'' => e = .returned v ∧ ∃ m, w'' = w.drewN m :=
  h.mono fun _ _ ⟨he, hm⟩ => ⟨he, n, hm.symm⟩

/-- ascending up to element k, counted by the later one of two neighbours -/
theorem AscTo.stepPrev {l : List Row} {k : Nat} (h : AscTo l (k - 1)) {k0 k1 : ByteArray} {n0 n1 : Int} (hk : 0 < k) (h0 : l[k - 1]? = some (k0, n0)) (h1 : l[k]? = some (k1, n1)) (hlt : klt k0 k1 = true) : AscTo l k := by
  obtain ⟨j, rfl⟩ : ∃ j, k = j + 1 := ⟨k - 1, by omega⟩; exact AscTo.step (j := j) h h0 h1 hlt

set_option maxHeartbeats 2000000 in
theorem specRowsOk (A : Option Addr) (n c : Nat) (l : List Row) (w : World) (hr : Sl encRow w w.heap.size A n l) (hk : KeysWf l) (hn : n ≤ 1048576) :
    Calls Try.prog 123 #[.slice A n c] w fun e w' => e = .returned (.bool (rowsOk l)) ∧ Below w.heap.size w w' := by
  have HL := Lib.hid hr.len; go_enter Try.func123, Try.ntmps123; go_wp2
  go_loopw [3] (fun i wr => ∃ k : Nat, k ≤ n ∧ i = .int .i64 k ∧ EachTo l k ∧ AscTo l (k - 1) ∧ Below w.heap.size w wr) (fun i _ => n - (intOf i).toNat)
  case atStart => exact ⟨0, by omega, rfl, EachTo.zero l, AscTo.zero l, Below.refl _ _⟩
  case round =>
    obtain ⟨k, hkn, rfl, heach, hasc, hbel⟩ := hrel
    by_cases hlt : k < n
    · obtain ⟨b, off, rfl, hb⟩ := hr.spot (by omega); obtain ⟨key, num, hrow, hk1, hk2⟩ := rowAt (hr.keep hbel) hlt; have hks := hk.at_ hrow; have HR := Lib.hid hrow; clear hrow; have i0 : (0 : Int) ≤ (k : Int) := by omega
      have i1 : (k : Int) < (n : Int) := by omega
      cases hko : keyOk key
      · have c1 := fun W => specKeyOk key W hks; rw [hko] at c1; have C1 := Lib.hid c1; have HKO := Lib.hid hko; clear c1 hko; go_wp2_with fail
        go_quiet ((go_at_call 92; exact quiet_left (C1.out _)))
        go_wp2
        go_ret
        exact ⟨ret_bool (rowsOk_bad (not_each HR.out (.inl HKO.out))).symm, bel_drewN hbel _⟩
      · have c1 := fun W => specKeyOk key W hks; rw [hko] at c1; have C1 := Lib.hid c1; have HKO := Lib.hid hko; clear c1 hko; cases hno : numOk num
        · have c2 := fun W => l1NumC num W; rw [hno] at c2; have C2 := Lib.hid c2; have HNO := Lib.hid hno; clear c2 hno; go_wp2_with fail
          go_quiet ((first | (go_at_call 92; exact quiet_left (C1.out _)) | (go_at_call 93; first | exact quiet_left (C2.out _) | exact quiet_add_left (C2.out _))))
          go_wp2
          go_ret
          exact ⟨ret_bool (rowsOk_bad (not_each HR.out (.inr HNO.out))).symm, bel_drewN hbel _⟩
        · have c2 := fun W => l1NumC num W; rw [hno] at c2; have C2 := Lib.hid c2; have HNO := Lib.hid hno; clear c2 hno
          by_cases hk0 : k = 0
          · have HK0 := Lib.hid hk0; have hd : decide ((0 : Int) < (k : Int)) = false := by simp; omega
            have hd' : decide (0 < k) = false := by simp; omega
            clear hk0; go_wp2_with fail
            go_quiet ((first | (go_at_call 92; exact quiet_left (C1.out _)) | (go_at_call 93; first | exact quiet_left (C2.out _) | exact quiet_add_left (C2.out _))))
            go_wp2
            go_roundw
            case rel => exact ⟨k + 1, by omega, by go_num, heach.step HR.out HKO.out HNO.out, by rw [HK0.out]; exact AscTo.zero l, bel_drewN hbel _⟩
            case measure => simp [intOf]; omega
          · have hd : decide ((0 : Int) < (k : Int)) = true := by simp; omega
            have hd' : decide (0 < k) = true := by simp; omega
            obtain ⟨key0, num0, hrow0, hk3, hk4⟩ := rowAt (k := k - 1) (hr.keep hbel) (by omega); have HR0 := Lib.hid hrow0; clear hrow0; have hk0' : 0 < k := by omega
            clear hk0; have j0 : (0 : Int) ≤ (k : Int) - 1 := by omega
            have j1 : (k : Int) - 1 < (n : Int) := by omega
            have j2 : ((k : Int) - 1).toNat = k - 1 := by omega
            have j3 : IntKind.i64.wrap ((k : Int) - 1) = (k : Int) - 1 := IntWalk.i64_in _ (by omega); cases hlt2 : klt key0 key
            all_goals
              have hlt' : Op.bytesLess key0.toList key.toList = _ := hlt2; have HLT := Lib.hid hlt2; clear hlt2; go_wp2_with fail
              go_quiet ((first | (go_at_call 92; exact quiet_left (C1.out _)) | (go_at_call 93; first | exact quiet_left (C2.out _) | exact quiet_add_left (C2.out _))))
              go_wp2
            · go_ret
              refine ⟨ret_bool (rowsOk_false ?_).symm, bel_drewN hbel _⟩; intro h'; have h1 := h'.2.2 (k - 1) _ _ HR0.out (by rw [show k - 1 + 1 = k by omega]; exact HR.out); have h2 := HLT.out; rw [h2] at h1; cases h1
            · go_roundw
              case rel => exact ⟨k + 1, by omega, by go_num, heach.step HR.out HKO.out HNO.out, hasc.stepPrev hk0' HR0.out HR.out HLT.out, bel_drewN hbel _⟩
              case measure => simp [intOf]; omega
    · have ha : EachP l := heach.all (by rw [HL.out]; omega); have hb : AscP l := hasc.all (by rw [HL.out]; omega)
      have hf : rowsOk l = decide ((n : Int) ≤ 10) := by
        by_cases h10 : n ≤ 10
        · rw [rowsOk_true ⟨by rw [HL.out]; exact h10, ha, hb⟩]; simp; omega
        · rw [rowsOk_long (by rw [HL.out]; exact h10)]; simp; omega
      have HF := Lib.hid hf; clear hf ha hb; go_wp2
      go_ret
      exact ⟨ret_bool HF.out.symm, hbel⟩
end Go.Proofs.Ytpmeaikiaoojkaa
namespace Go.Proofs.Ytpmeaikiaoojkaa
open Go.RowKit

theorem info46 : (Try.prog.info? 133).map (fun i => (i.zero, i.size, i.bytes)) = some (some (.agg #[.string ByteArray.empty, .int .i64 0]), 2, 24) := by kernel_rfl
theorem ownRow {w : World} {base g n c k : Nat} {l : List Row} {e : TypeId} {key : ByteArray} {num : Int} (h : Own encRow 2 e w base (.slice (some ⟨g, 0, none⟩) n c) l) (hx : l[k]? = some (key, num)) :
    w.cell? ⟨g, k * 2, none⟩ = some (.string key) ∧ w.cell? ⟨g, k * 2 + 1, none⟩ = some (.int .i64 num) ∧ w.frozen? ⟨g, k * 2, none⟩ = false ∧ w.frozen? ⟨g, k * 2 + 1, none⟩ = false :=
  ⟨h.cellAt (j := 0) encRow_len hx rfl, h.cellAt (j := 1) encRow_len hx rfl, h.free _, h.free _⟩
/-! ### sizes -/
/-! ### equality -/
theorem ba_eq {a b : ByteArray} (h : a.toList = b.toList) : a = b := by
  rw [ByteArray.toList_eq, ByteArray.toList_eq] at h; exact ByteArray.ext (Array.toList_inj.1 h)
def eqR (a b : Row) : Bool := (a.1.toList == b.1.toList) && (a.2 == b.2)
theorem eqR_iff {a b : Row} : eqR a b = true ↔ a = b := by
  unfold eqR
  rw [Bool.and_eq_true, beq_iff_eq, beq_iff_eq]
  constructor
  · rintro ⟨h1, h2⟩; exact Prod.ext (ba_eq h1) h2
  · rintro rfl; exact ⟨rfl, rfl⟩
def rowsEq (l m : List Row) : Bool := decide (l = m)
def EqTo (l m : List Row) (k : Nat) : Prop := ∀ i : Nat, i < k → l[i]? = m[i]?
theorem EqTo.zero (l m : List Row) : EqTo l m 0 := fun _ h => absurd h (by omega)
theorem EqTo.step {l m : List Row} {k : Nat} {x y : Row} (h : EqTo l m k) (hx : l[k]? = some x) (hy : m[k]? = some y) (he : eqR x y = true) : EqTo l m (k + 1) := by
  intro i hi
  by_cases hik : i < k
  · exact h i hik
  · obtain rfl : i = k := by omega
    rw [hx, hy, eqR_iff.1 he]
theorem EqTo.all {l m : List Row} {k : Nat} (h : EqTo l m k) (hl : l.length ≤ k) (hm : m.length ≤ k) : rowsEq l m = true := by
  simp only [rowsEq, decide_eq_true_eq]
  apply List.ext_getElem?
  intro i
  by_cases hi : i < k
  · exact h i hi
  · rw [List.getElem?_eq_none (by omega), List.getElem?_eq_none (by omega)]

end Go.Proofs.Ytpmeaikiaoojkaa
namespace Go.Proofs.Ytpmeaikiaoojkaa

def bl (a b : List UInt8) : Bool := Op.bytesLess a b
theorem bl_nn : bl [] [] = false := by simp [bl, Op.bytesLess]
theorem bl_nc (b : UInt8) (ys : List UInt8) : bl [] (b :: ys) = true := by simp [bl, Op.bytesLess]
theorem bl_cn (a : UInt8) (xs : List UInt8) : bl (a :: xs) [] = false := by simp [bl, Op.bytesLess]
theorem bl_cc (a b : UInt8) (xs ys : List UInt8) : bl (a :: xs) (b :: ys) = if a.toNat < b.toNat then true else if b.toNat < a.toNat then false else bl xs ys := by
  simp only [bl, Op.bytesLess, UInt8.lt_iff_toNat_lt]
  by_cases h : a.toNat < b.toNat
  · simp [h]
  · by_cases h2 : b.toNat < a.toNat
    · simp [h, h2]; intro e; subst e; omega
    · have : a = b := UInt8.toNat_inj.1 (by omega); simp [this]
theorem bl_irrefl : ∀ a, bl a a = false
  | [] => bl_nn
  | a :: xs => by rw [bl_cc, if_neg (by omega), if_neg (by omega)]; exact bl_irrefl xs
theorem bl_trans : ∀ a b c, bl a b = true → bl b c = true → bl a c = true
  | _, [], [], _, h => by rw [bl_nn] at h; cases h
  | [], [], c :: zs, _, _ => bl_nc c zs
  | [], _ :: _, c :: zs, _, _ => bl_nc c zs
  | [], b :: ys, [], _, h => by rw [bl_cn] at h; cases h
  | a :: xs, [], _, h, _ => by rw [bl_cn] at h; cases h
  | _ :: _, b :: ys, [], _, h => by rw [bl_cn] at h; cases h
  | a :: xs, b :: ys, c :: zs, h1, h2 => by
    rw [bl_cc] at h1 h2 ⊢
    by_cases x1 : a.toNat < b.toNat
    · by_cases y1 : b.toNat < c.toNat
      · rw [if_pos (by omega)]
      · rw [if_neg y1] at h2
        by_cases y2 : c.toNat < b.toNat
        · rw [if_pos y2] at h2; cases h2
        · rw [if_pos (by omega)]
    · rw [if_neg x1] at h1
      by_cases x2 : b.toNat < a.toNat
      · rw [if_pos x2] at h1; cases h1
      · rw [if_neg x2] at h1
        by_cases y1 : b.toNat < c.toNat
        · rw [if_pos (by omega)]
        · rw [if_neg y1] at h2
          by_cases y2 : c.toNat < b.toNat
          · rw [if_pos y2] at h2; cases h2
          · rw [if_neg y2] at h2; rw [if_neg (by omega), if_neg (by omega)]; exact bl_trans xs ys zs h1 h2
theorem bl_total : ∀ a b, bl a b = false → bl b a = false → a = b
  | [], [], _, _ => rfl
  | [], b :: ys, h, _ => by rw [bl_nc] at h; cases h
  | a :: xs, [], _, h => by rw [bl_nc] at h; cases h
  | a :: xs, b :: ys, h1, h2 => by
    rw [bl_cc] at h1 h2
    by_cases x1 : a.toNat < b.toNat
    · rw [if_pos x1] at h1; cases h1
    · rw [if_neg x1] at h1
      by_cases x2 : b.toNat < a.toNat
      · rw [if_pos x2] at h2; cases h2
      · rw [if_neg x2] at h1 h2; rw [if_neg x1] at h2; rw [bl_total xs ys h1 h2, UInt8.toNat_inj.1 (show a.toNat = b.toNat by omega)]
theorem klt_irrefl (a : ByteArray) : klt a a = false := bl_irrefl _
theorem klt_trans {a b c : ByteArray} (h : klt a b = true) (k : klt b c = true) : klt a c = true := bl_trans _ _ _ h k
theorem ba_inj {a b : ByteArray} (h : a.toList = b.toList) : a = b := by
  rw [ByteArray.toList_eq, ByteArray.toList_eq] at h; exact ByteArray.ext (Array.toList_inj.1 h)
theorem klt_total {a b : ByteArray} (h : klt a b = false) (k : klt b a = false) : a = b := ba_inj (bl_total _ _ h k)
theorem klt_asymm {a b : ByteArray} (h : klt a b = true) : klt b a = false := by
  cases k : klt b a
  · rfl
  · have := klt_trans h k; rw [klt_irrefl] at this; cases this
def keq (a b : ByteArray) : Bool := a.toList == b.toList
theorem keq_iff {a b : ByteArray} : keq a b = true ↔ a = b := by
  unfold keq; rw [beq_iff_eq]; exact ⟨ba_inj, fun h => by rw [h]⟩
/-! ### the place of a key -/
def fnd : List Row → ByteArray → Nat
  | [], _ => 0
  | r :: l, key => if klt r.1 key = true then fnd l key + 1 else 0
theorem fnd_pos {r : Row} {l : List Row} {key : ByteArray} (h : klt r.1 key = true) : fnd (r :: l) key = fnd l key + 1 := by
  show (if klt r.1 key = true then fnd l key + 1 else 0) = _
  rw [if_pos h]
theorem fnd_neg {r : Row} {l : List Row} {key : ByteArray} (h : ¬ klt r.1 key = true) : fnd (r :: l) key = 0 := by
  show (if klt r.1 key = true then fnd l key + 1 else 0) = _
  rw [if_neg h]
def hit (l : List Row) (key : ByteArray) : Bool :=
  match l[fnd l key]? with
  | some r => keq r.1 key
  | none => false
theorem fnd_le (l : List Row) (key : ByteArray) : fnd l key ≤ l.length := by
  induction l with
  | nil => exact Nat.le_refl _
  | cons r l ih =>
    by_cases h : klt r.1 key = true
    · rw [fnd_pos h, List.length_cons]; omega
    · rw [fnd_neg h]; omega
theorem fnd_lt {l : List Row} {key : ByteArray} {i : Nat} {r : Row} (h : i < fnd l key) (hr : l[i]? = some r) : klt r.1 key = true := by
  induction l generalizing i with
  | nil => simp at hr
  | cons x l ih =>
    by_cases hx : klt x.1 key = true
    · rw [fnd_pos hx] at h; cases i with
      | zero => simp at hr; subst hr; exact hx
      | succ i => exact ih (i := i) (by omega) (by simpa using hr)
    · rw [fnd_neg hx] at h; omega
theorem fnd_at {l : List Row} {key : ByteArray} {r : Row} (hr : l[fnd l key]? = some r) : klt r.1 key = false := by
  induction l with
  | nil => simp at hr
  | cons x l ih =>
    by_cases hx : klt x.1 key = true
    · rw [fnd_pos hx] at hr; exact ih (by simpa using hr)
    · rw [fnd_neg hx] at hr; simp at hr; subst hr
      simpa using hx
/-- what decides the place -/
theorem fnd_unique {l : List Row} {key : ByteArray} {m : Nat} (hm : m ≤ l.length) (h1 : ∀ (i : Nat) (r : Row), i < m → l[i]? = some r → klt r.1 key = true) (h2 : ∀ r : Row, l[m]? = some r → klt r.1 key = false) : fnd l key = m := by
  rcases Nat.lt_trichotomy (fnd l key) m with h | h | h
  · have hl : fnd l key < l.length := by omega
    have e := List.getElem?_eq_getElem hl; have a := fnd_at e; have b := h1 _ _ h e; rw [a] at b; cases b
  · exact h
  · have hl : m < l.length := by have := fnd_le l key; omega
    have e := List.getElem?_eq_getElem hl; have a := fnd_lt h e; have b := h2 _ e; rw [a] at b; cases b
theorem AscP.lt {l : List Row} (h : AscP l) {i j : Nat} {a b : Row} (hij : i < j) (ha : l[i]? = some a) (hb : l[j]? = some b) : klt a.1 b.1 = true := by
  induction j generalizing b with
  | zero => omega
  | succ j ih =>
    by_cases he : i = j
    · subst he; exact h i a b ha hb
    · have hj : j < l.length := by have := (List.getElem?_eq_some_iff.1 hb).1; omega
      have e := List.getElem?_eq_getElem hj; exact klt_trans (ih (by omega) e) (h j _ _ e hb)
theorem hit_some {l : List Row} {key : ByteArray} {r : Row} (h : l[fnd l key]? = some r) : hit l key = keq r.1 key := by unfold hit; rw [h]
theorem hit_none {l : List Row} {key : ByteArray} (h : l.length ≤ fnd l key) : hit l key = false := by unfold hit; rw [List.getElem?_eq_none h]
theorem hit_lt {l : List Row} {key : ByteArray} (h : hit l key = true) : fnd l key < l.length := by
  rcases Nat.lt_or_ge (fnd l key) l.length with h1 | h1
  · exact h1
  · rw [hit_none h1] at h; cases h
theorem hit_key {l : List Row} {key : ByteArray} (h : hit l key = true) : ∃ num, l[fnd l key]? = some (key, num) := by
  have e := List.getElem?_eq_getElem (hit_lt h); rw [hit_some e] at h; have h2 := keq_iff.1 h; exact ⟨(l[fnd l key]'(hit_lt (by rw [hit_some e]; exact h))).2, by rw [e]; congr 1; exact Prod.ext h2 rfl⟩
end Go.Proofs.Ytpmeaikiaoojkaa
namespace Go.Proofs.Ytpmeaikiaoojkaa
open Go.RowKit

theorem ret_ib {i j : Int} {x y : Bool} (hi : i = j) (hx : x = y) : Ending.returned (.tuple #[.int .i64 i, .bool x]) = .returned (.tuple #[.int .i64 j, .bool y]) := by rw [hi, hx]
def LoP (l : List Row) (key : ByteArray) (i : Nat) : Prop := ∀ (q : Nat) (r : Row), q < i → l[q]? = some r → klt r.1 key = true
theorem LoP.up {l : List Row} (ha : AscP l) {key : ByteArray} {h : Nat} {x : ByteArray} {num : Int} (hx : l[h]? = some (x, num)) (hlt : klt x key = true) : LoP l key (h + 1) := by
  intro q r hq hr
  by_cases e : q = h
  · subst e; rw [hx] at hr; cases hr; exact hlt
  · exact klt_trans (ha.lt (i := q) (j := h) (by omega) hr hx) hlt
/-! ### RowsGet -/
noncomputable def getNum (l : List Row) (key : ByteArray) : Int :=
  match l[fnd l key]? with
  | some r => if hit l key = true ∧ rowsOk l = true then r.2 else 0
  | none => 0
noncomputable def getHas (l : List Row) (key : ByteArray) : Bool := hit l key && rowsOk l
theorem get_bad {l : List Row} {key : ByteArray} (h : rowsOk l = false) : getNum l key = 0 ∧ getHas l key = false := by
  constructor
  · unfold getNum; split <;> simp [h]
  · simp [getHas, h]
theorem get_miss {l : List Row} {key : ByteArray} (h : hit l key = false) : getNum l key = 0 ∧ getHas l key = false := by
  constructor
  · unfold getNum; split <;> simp [h]
  · simp [getHas, h]
theorem get_hit {l : List Row} {key : ByteArray} {num : Int} (h : hit l key = true) (ho : rowsOk l = true) (hr : l[fnd l key]? = some (key, num)) : getNum l key = num ∧ getHas l key = true := by
  constructor
  · unfold getNum; rw [hr]; simp [h, ho]
  · simp [getHas, h, ho]

end Go.Proofs.Ytpmeaikiaoojkaa
namespace Go.Proofs.Ytpmeaikiaoojkaa
open Go.RowKit

set_option maxHeartbeats 1000000 in
theorem l1Find (A : Option Addr) (n c : Nat) (l : List Row) (key : ByteArray) (w : World) (hr : Sl encRow w w.heap.size A n l) (hn : n ≤ 1048576) :
    Calls Try.prog 142 #[.slice A n c, .string key] w fun e w' => e = .returned (.tuple #[.int .i64 (fnd l key), .bool (hit l key)]) ∧ Below w.heap.size w w' := by
  have HL := Lib.hid hr.len; go_enter Try.func142, Try.ntmps142; go_wp2
  go_loopw [6] (fun i wr => ∃ k : Nat, k ≤ n ∧ i = .int .i64 k ∧ LoP l key k ∧ Below w.heap.size w wr) (fun i _ => n - (intOf i).toNat)
  case atStart => exact ⟨0, by omega, rfl, fun _ _ h => absurd h (by omega), Below.refl _ _⟩
  case round =>
    obtain ⟨k, hkn, rfl, hlo, hbel⟩ := hrel
    by_cases hlt : k < n
    · obtain ⟨b, off, rfl, hb⟩ := hr.spot (by omega); obtain ⟨x, num, hrow, hk1, hk2⟩ := rowAt (hr.keep hbel) hlt; have HR := Lib.hid hrow; clear hrow; have i0 : (0 : Int) ≤ (k : Int) := by omega
      have i1 : (k : Int) < (n : Int) := by omega
      cases hx : klt x key
      · have hx' : Op.bytesLess x.toList key.toList = false := hx; have HX := Lib.hid hx; clear hx; have hf : fnd l key = k := fnd_unique (by rw [HL.out]; omega) (fun q r hq hr' => hlo q r hq hr') (fun r hr' => by rw [HR.out] at hr'; cases hr'; exact HX.out); have HH := Lib.hid (show hit l key = keq x key by rw [hit_some (by rw [hf]; exact HR.out)]); have HF := Lib.hid hf; clear hf; have hd : decide ((k : Int) < (n : Int)) = true := by simp; omega
        have hd' : decide (k < n) = true := by simp; omega
        go_wp2_with fail
        go_quiet (fail)
        go_wp2
        go_ret2
        exact ⟨ret_ib (by rw [HF.out]) (by rw [HH.out]; rfl), bel_drewN hbel _⟩
      · have hx' : Op.bytesLess x.toList key.toList = true := hx; have HX := Lib.hid hx; clear hx; go_wp2_with fail; go_roundw
        case rel => exact ⟨k + 1, by omega, by go_num, (fun q r hq hr' => by
            by_cases e : q = k
            · subst e; rw [HR.out] at hr'; cases hr'; exact HX.out
            · exact hlo q r (by omega) hr'), hbel⟩
        case measure => simp [intOf]; omega
    · have hf : fnd l key = k := fnd_unique (by rw [HL.out]; omega) (fun q r hq hr' => hlo q r hq hr') (fun r hr' => absurd (List.getElem?_eq_some_iff.1 hr').1 (by rw [HL.out]; omega)); have HH := Lib.hid (show hit l key = false from hit_none (by rw [hf, HL.out]; omega)); have HF := Lib.hid hf; clear hf; have hd : decide ((k : Int) < (n : Int)) = false := by simp; omega
      have hd' : decide (k < n) = false := by simp; omega
      go_wp2_with fail
      go_quiet (fail)
      go_wp2
      go_ret2
      exact ⟨ret_ib (by rw [HF.out]) (by rw [HH.out]), bel_drewN hbel _⟩

end Go.Proofs.Ytpmeaikiaoojkaa
namespace Go.Proofs.Ytpmeaikiaoojkaa
open Go.RowKit

theorem encRow_one (r : Row) : ∀ u ∈ encRow r, u.oneCell' = true := by
  intro u hu; simp only [encRow, List.mem_cons, List.not_mem_nil, or_false] at hu
  rcases hu with rfl | rfl <;> rfl
def OwnPost (w : World) (l : List Row) (e : Ending) (w' : World) : Prop :=
  ∃ v, e = .returned v ∧ Own encRow 2 133 w' w.heap.size v l ∧ Below w.heap.size w w'
set_option maxHeartbeats 1000000 in
theorem l1Copy (A : Option Addr) (n c : Nat) (l : List Row) (w : World) (hr : Sl encRow w w.heap.size A n l) (hn : n ≤ 2097152) :
    Calls Try.prog 143 #[.slice A n c] w (OwnPost w l) := by
  obtain ⟨i0, hi, hz0, hz1, hz2⟩ := info_parts info46; have hm := Own.made0 (enc := encRow) (sz := 2) (e := 133) w (Nat.le_refl w.heap.size); have hr2 := (hr.on (bel_alloc (Below.refl _ w) (.cells #[] 133))); have hb1 : ((0 + n) * 24 ≤ 140737488355328) := by omega
  have HB := Lib.hid hb1; have HM := Lib.hid (show 0 + n ≤ maxLen by unfold maxLen; omega); clear hb1 hn; go_enter Try.func143, Try.ntmps143; go_wp2_with (at_builtin; refine wpList_append_sl _ rfl _ _ 94 rfl w.heap.size 133 i0 _ 2 24 Try.underlying94 hi hz0 hz1 hz2 rfl (by decide) encRow_len encRow_one _ [] rfl hm _ A n c l rfl hr2 HM.out HB.out (by simp) ?_); intro v2 w3 hown3 hg3; go_wp2
  go_ret
  exact ⟨_, rfl, by simpa using hown3, bel_grown (bel_alloc (Below.refl _ w) _) hg3 (fun k hk => (World.ownsRow.lt hm k hk).1)⟩

/-! ### one row stored -/
def putL (l : List Row) (key : ByteArray) (num : Int) : List Row :=
  l.take (fnd l key) ++ [(key, num)] ++ l.drop (if hit l key = true then fnd l key + 1 else fnd l key)
theorem putL_hit {l : List Row} {key : ByteArray} {num : Int} {f : Nat} (hf : fnd l key = f) (h : hit l key = true) : putL l key num = l.take f ++ [(key, num)] ++ l.drop (f + 1) := by simp [putL, h, hf]
theorem putL_miss {l : List Row} {key : ByteArray} {num : Int} {f : Nat} (hf : fnd l key = f) (h : hit l key = false) : putL l key num = l.take f ++ [(key, num)] ++ l.drop f := by simp [putL, h, hf]
end Go.Proofs.Ytpmeaikiaoojkaa
namespace Go.Proofs.Ytpmeaikiaoojkaa
open Go.RowKit

/-- a slice value with an address, or the nil slice -/
def Fine (A : Option Addr) (n c : Nat) : Prop := n ≤ c ∧ ((∃ b off, A = some ⟨b, off, none⟩) ∨ (A = none ∧ n = 0 ∧ c = 0))
theorem Own.fine {α : Type} {enc : α → List Value} {sz : Nat} {e : TypeId} {w : World} {base n c : Nat} {A : Option Addr} {l : List α} (h : Own enc sz e w base (.slice A n c) l) : Fine A n c := by
  obtain ⟨A', c', hv, h1, h2⟩ := h.form
  injection hv with e1 e2 e3
  subst e1; subst e2; subst e3; refine ⟨h1, ?_⟩
  rcases h.2 with ⟨h3, h4⟩ | ⟨g, cap, cur, h3, _⟩
  · injection h3 with e1 e2 e3
    exact .inr ⟨e1, h4, e3⟩
  · injection h3 with e1 e2 e3
    exact .inl ⟨g, 0, e1⟩
theorem putL_len (l : List Row) (key : ByteArray) (num : Int) : (putL l key num).length ≤ l.length + 1 := by
  have := fnd_le l key
  unfold putL
  simp only [List.length_append, List.length_take, List.length_drop, List.length_cons, List.length_nil]
  split <;> omega
end Go.Proofs.Ytpmeaikiaoojkaa
namespace Go.Proofs.Ytpmeaikiaoojkaa
open Go.RowKit

def KeyPost (w : World) (g p : Nat) (A : Option Addr) (m c : Nat) (l : List UInt8) (e : Ending) (w' : World) : Prop :=
  ∃ s : ByteArray, e = .returned (.string s) ∧ s.size ≤ 3 ∧ Rd w' g (p + 2) A m c l ∧ Turn (some ⟨g, 0, none⟩) w w'
def ks1 : List ByteArray := [⟨#[]⟩, ⟨#[97, 98, 99]⟩, ⟨#[65]⟩, ⟨#[97, 49]⟩, ⟨#[32]⟩]
def ks2 : List ByteArray := [⟨#[97]⟩, ⟨#[98]⟩, ⟨#[99]⟩, ⟨#[100]⟩, ⟨#[97, 98]⟩, ⟨#[97, 99]⟩, ⟨#[98, 98]⟩, ⟨#[122]⟩, ⟨#[101]⟩, ⟨#[102]⟩, ⟨#[103]⟩, ⟨#[104]⟩]
theorem ks1_small : ∀ s ∈ ks1, s.size ≤ 3 := by decide
theorem ks2_small : ∀ s ∈ ks2, s.size ≤ 3 := by decide
set_option maxHeartbeats 1000000 in
set_option maxRecDepth 100000 in
theorem l1Key (g p : Nat) (A : Option Addr) (m c : Nat) (l : List UInt8) (w : World) (hrd : Rd w g p A m c l) (hp : p ≤ 100000) :
    Calls Try.prog 108 #[.pointer (some ⟨g, 0, none⟩)] w (KeyPost w g p A m c l) := by
  have HP := Lib.hid hp; clear hp; go_enter Try.func108, Try.ntmps108; go_wp2_with fail; refine (pick g p 20 A m c l w hrd (by omega) (by omega) (Nat.le_trans HP.out (by omega))).mono ?_; rintro e w1 ⟨v, rfl, hv, hr1, ht1⟩; have hg := hr1.lt
  by_cases hv0 : v = 0
  · subst hv0; go_wp2_with fail; have hr2 := hr1.on (bel_alloc (Below.refl _ w1) (.cells #[.string ⟨#[]⟩, .string ⟨#[97, 98, 99]⟩, .string ⟨#[65]⟩, .string ⟨#[97, 49]⟩, .string ⟨#[32]⟩] 9)); refine (ofC g (p + 1) 5 5 w1.heap.size 0 A m c l ks1 _ hr2 (by have := HP.out; omega) (Sl.lit w1 _ 9 ks1 rfl 5 rfl) (by omega) (by omega) (by omega)).mono ?_; rintro e w2 ⟨s, rfl, hs, hr3, ht3⟩; go_wp2
    go_ret
    exact ⟨s, rfl, ks1_small s hs, hr3, (ht1.alloc _).trans ht3⟩
  · have hv1 : ((v : Int) == 0) = false := by simp; omega
    go_wp2_with fail; have hr2 := hr1.on (bel_alloc (Below.refl _ w1) (.cells #[.string ⟨#[97]⟩, .string ⟨#[98]⟩, .string ⟨#[99]⟩, .string ⟨#[100]⟩, .string ⟨#[97, 98]⟩, .string ⟨#[97, 99]⟩, .string ⟨#[98, 98]⟩, .string ⟨#[122]⟩, .string ⟨#[101]⟩, .string ⟨#[102]⟩, .string ⟨#[103]⟩, .string ⟨#[104]⟩] 9)); refine (ofC g (p + 1) 12 12 w1.heap.size 0 A m c l ks2 _ hr2 (by have := HP.out; omega) (Sl.lit w1 _ 9 ks2 rfl 12 rfl) (by omega) (by omega) (by omega)).mono ?_; rintro e w2 ⟨s, rfl, hs, hr3, ht3⟩; go_wp2
    go_ret
    exact ⟨s, rfl, ks2_small s hs, hr3, (ht1.alloc _).trans ht3⟩
def ValPost (w : World) (g p : Nat) (A : Option Addr) (m c : Nat) (l : List UInt8) (e : Ending) (w' : World) : Prop :=
  ∃ s : Int, e = .returned (.int .i64 s) ∧ (-9223372036854775808 ≤ s ∧ s ≤ 9223372036854775807) ∧ Rd w' g (p + 2) A m c l ∧ Turn (some ⟨g, 0, none⟩) w w'
def vs1 : List Int := [1000, -1000, 9223372036854775807, -9223372036854775808]
def vs2 : List Int := [0, 1, 2, 3, -1, -7, 40, 500, 999, -999]
theorem vs1_small : ∀ s ∈ vs1, -9223372036854775808 ≤ s ∧ s ≤ 9223372036854775807 := by decide
theorem vs2_small : ∀ s ∈ vs2, -9223372036854775808 ≤ s ∧ s ≤ 9223372036854775807 := by decide
set_option maxHeartbeats 1000000 in
set_option maxRecDepth 100000 in
theorem l1Value (g p : Nat) (A : Option Addr) (m c : Nat) (l : List UInt8) (w : World) (hrd : Rd w g p A m c l) (hp : p ≤ 100000) :
    Calls Try.prog 91 #[.pointer (some ⟨g, 0, none⟩)] w (ValPost w g p A m c l) := by
  have HP := Lib.hid hp; clear hp; go_enter Try.func91, Try.ntmps91; go_wp2_with fail; refine (pick g p 20 A m c l w hrd (by omega) (by omega) (Nat.le_trans HP.out (by omega))).mono ?_; rintro e w1 ⟨v, rfl, hv, hr1, ht1⟩; have hg := hr1.lt
  by_cases hv0 : v = 0
  · subst hv0; go_wp2_with fail; have hr2 := hr1.on (bel_alloc (Below.refl _ w1) (.cells #[.int .i64 1000, .int .i64 (-1000), .int .i64 9223372036854775807, .int .i64 (-9223372036854775808)] 3)); refine (numC g (p + 1) 4 4 w1.heap.size 0 A m c l vs1 _ hr2 (by have := HP.out; omega) (Sl.lit w1 _ 3 vs1 rfl 4 rfl) (by omega) (by omega) (by omega)).mono ?_; rintro e w2 ⟨s, rfl, hs, hr3, ht3⟩; go_wp2
    go_ret
    exact ⟨s, rfl, vs1_small s hs, hr3, (ht1.alloc _).trans ht3⟩
  · have hv1 : ((v : Int) == 0) = false := by simp; omega
    go_wp2_with fail; have hr2 := hr1.on (bel_alloc (Below.refl _ w1) (.cells #[.int .i64 0, .int .i64 1, .int .i64 2, .int .i64 3, .int .i64 (-1), .int .i64 (-7), .int .i64 40, .int .i64 500, .int .i64 999, .int .i64 (-999)] 3)); refine (numC g (p + 1) 10 10 w1.heap.size 0 A m c l vs2 _ hr2 (by have := HP.out; omega) (Sl.lit w1 _ 3 vs2 rfl 10 rfl) (by omega) (by omega) (by omega)).mono ?_; rintro e w2 ⟨s, rfl, hs, hr3, ht3⟩; go_wp2
    go_ret
    exact ⟨s, rfl, vs2_small s hs, hr3, (ht1.alloc _).trans ht3⟩

end Go.Proofs.Ytpmeaikiaoojkaa
namespace Go.Proofs.Ytpmeaikiaoojkaa
open Go.RowKit

/-- the digits of k ahead of s, with fuel -/
def mkDig : Nat → Nat → ByteArray → ByteArray
  | 0, _, s => s
  | f + 1, k, s => if k = 0 then s else mkDig f (k / 10) (b1 (48 + (k : Int) % 10) ++ s)
def mB : ByteArray := { data := #[109] }
/-- the mark of k -/
def mk (k : Nat) : ByteArray := mB ++ mkDig k k ByteArray.empty
theorem Own.spot {α : Type} {enc : α → List Value} {sz : Nat} {e : TypeId} {w : World} {base n c : Nat} {A : Option Addr} {l : List α} (h : Own enc sz e w base (.slice A n c) l) (hn : 0 < n) : ∃ g, A = some ⟨g, 0, none⟩ ∧ base ≤ g ∧ g < w.heap.size := by
  obtain ⟨b, off, rfl, hb⟩ := h.sl.spot hn; obtain ⟨h1, h2, h3, _⟩ := h.block rfl; simp only at h3
  subst h3; exact ⟨b, rfl, h1, h2⟩
end Go.Proofs.Ytpmeaikiaoojkaa
