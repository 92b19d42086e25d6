/- The contracts in one form: lists that the call owns, results named ahead. -/
import Derived.Test.YtndeehlndbdonaaD7
import Derived.Test.YtndeehlndbdonaaP3
import Derived.Test.YtndeehlndbdonaaB15
import Derived.Test.YtndeehlndbdonaaB16
import Derived.Test.YtndeehlndbdonaaB8
namespace Go.Proofs.Ytndeehlndbdonaa
open Go.RowKit

def BoolAt (w : World) (b : Bool) (e : Ending) (w' : World) : Prop := e = .returned (.bool b) ∧ Below w.heap.size w w'
def ListAt (w : World) (x : List Row) (e : Ending) (w' : World) : Prop :=
  ∃ (D : Option Addr) (d : Nat), e = .returned (.slice D x.length d) ∧ Own encRow 2 46 w' w.heap.size (.slice D x.length d) x ∧ Below w.heap.size w w'
def PairAt (w : World) (x : List Row) (b : Bool) (e : Ending) (w' : World) : Prop :=
  ∃ (D : Option Addr) (d : Nat), e = .returned (.tuple #[.slice D x.length d, .bool b]) ∧ Own encRow 2 46 w' w.heap.size (.slice D x.length d) x ∧ Below w.heap.size w w'
def TextsAt (w : World) (x : List ByteArray) (e : Ending) (w' : World) : Prop :=
  ∃ (D : Option Addr) (d : Nat), e = .returned (.slice D x.length d) ∧ Own encS 1 9 w' w.heap.size (.slice D x.length d) x ∧ Below w.heap.size w w'
def GetAt (w : World) (v : Int) (b : Bool) (e : Ending) (w' : World) : Prop := e = .returned (.tuple #[.int .i64 v, .bool b]) ∧ Below w.heap.size w w'
def NumAt (w : World) (v : Int) (e : Ending) (w' : World) : Prop := e = .returned (.int .i64 v) ∧ Below w.heap.size w w'
section
variable {A B : Option Addr} {c d base base2 : Nat} {l p x : List Row} {key : ByteArray} {num v : Int} {b : Bool} {w : World}
theorem PairAt.of {r : List Row × Bool} {e : Ending} {w' : World} (hr : r = (x, b)) (h : PutPost w r e w') : PairAt w x b e w' := by
  subst hr
  obtain ⟨v, he, ho, hb⟩ := h
  obtain ⟨D, d, rfl, -, -⟩ := ho.form
  exact ⟨D, d, he, ho, hb⟩
theorem aOk (o : Own encRow 2 46 w base (.slice A l.length c) l) (hk : KeysWf l) (hl : l.length ≤ 1000) (h : rowsOk l = b) : Calls Try.prog 26 #[.slice A l.length c] w (BoolAt w b) := by
  subst h; exact implRowsOk A l.length c l w o.sl hk (by omega)
theorem sOk (o : Own encRow 2 46 w base (.slice A l.length c) l) (hk : KeysWf l) (hl : l.length ≤ 1000) (h : rowsOk l = b) : Calls Try.prog 24 #[.slice A l.length c] w (BoolAt w b) := by
  subst h; exact specRowsOk A l.length c l w o.sl hk (by omega)
theorem aEq (o : Own encRow 2 46 w base (.slice A l.length c) l) (o2 : Own encRow 2 46 w base2 (.slice B p.length d) p) (hl : l.length ≤ 1000) (h : rowsEq l p = b) : Calls Try.prog 43 #[.slice A l.length c, .slice B p.length d] w (BoolAt w b) := by
  subst h; exact wpRows A B l.length p.length c d l p w o.sl o2.sl (by omega)
theorem aPut (o : Own encRow 2 46 w base (.slice A l.length c) l) (hk : KeysWf l) (hl : l.length ≤ 1000) (hs : key.size ≤ maxLen) (h : putRes l key num = (x, b)) : Calls Try.prog 45 #[.slice A l.length c, .string key, .int .i64 num] w (PairAt w x b) :=
  (implRowsPut A l.length c l key num w o.sl hk (by omega) o.fine hs).mono fun _ _ => PairAt.of h
theorem sPut (o : Own encRow 2 46 w base (.slice A l.length c) l) (hk : KeysWf l) (hl : l.length ≤ 1000) (hs : key.size ≤ maxLen) (h : putRes l key num = (x, b)) : Calls Try.prog 44 #[.slice A l.length c, .string key, .int .i64 num] w (PairAt w x b) :=
  (specRowsPut A l.length c l key num w o.sl hk (by omega) o.fine hs).mono fun _ _ => PairAt.of h
theorem aCut (o : Own encRow 2 46 w base (.slice A l.length c) l) (hk : KeysWf l) (hl : l.length ≤ 1000) (h : cutRes l key = (x, b)) : Calls Try.prog 49 #[.slice A l.length c, .string key] w (PairAt w x b) :=
  (implRowsCut A l.length c l key w o.sl hk (by omega) o.fine).mono fun _ _ => PairAt.of h
theorem sCut (o : Own encRow 2 46 w base (.slice A l.length c) l) (hk : KeysWf l) (hl : l.length ≤ 1000) (h : cutRes l key = (x, b)) : Calls Try.prog 48 #[.slice A l.length c, .string key] w (PairAt w x b) :=
  (specRowsCut A l.length c l key w o.sl hk (by omega) o.fine).mono fun _ _ => PairAt.of h
theorem aGet (o : Own encRow 2 46 w base (.slice A l.length c) l) (hk : KeysWf l) (hl : l.length ≤ 1000) (h : getNum l key = v) (h2 : getHas l key = b) : Calls Try.prog 31 #[.slice A l.length c, .string key] w (GetAt w v b) := by
  subst h; subst h2; exact implRowsGet A l.length c l key w o.sl hk (by omega)
theorem aIn {lo hi : ByteArray} (o : Own encRow 2 46 w base (.slice A l.length c) l) (hk : KeysWf l) (hl : l.length ≤ 1000) (h : inRes l lo hi = x) : Calls Try.prog 40 #[.slice A l.length c, .string lo, .string hi] w (ListAt w x) := by
  subst h
  refine (implRowsIn A l.length c l lo hi w o.sl hk (by omega) o.fine).mono fun e w' ⟨v, he, ho, hb⟩ => ?_
  obtain ⟨D, d, rfl, -, -⟩ := ho.form
  exact ⟨D, d, he, ho, hb⟩
theorem sIn {lo hi : ByteArray} (o : Own encRow 2 46 w base (.slice A l.length c) l) (hk : KeysWf l) (hl : l.length ≤ 1000) (h : inRes l lo hi = x) : Calls Try.prog 39 #[.slice A l.length c, .string lo, .string hi] w (ListAt w x) := by
  subst h
  refine (specRowsIn A l.length c l lo hi w o.sl hk (by omega)).mono fun e w' ⟨v, he, ho, hb⟩ => ?_
  obtain ⟨D, d, rfl, -, -⟩ := ho.form
  exact ⟨D, d, he, ho, hb⟩
theorem aSum (o : Own encRow 2 46 w base (.slice A l.length c) l) (hk : KeysWf l) (hl : l.length ≤ 1000) (h : sumOut l = v) : Calls Try.prog 29 #[.slice A l.length c] w (NumAt w v) := by
  subst h; exact implRowsSum A l.length c l w o.sl hk (by omega)
theorem sSum (o : Own encRow 2 46 w base (.slice A l.length c) l) (hk : KeysWf l) (hl : l.length ≤ 1000) (h : sumOut l = v) : Calls Try.prog 28 #[.slice A l.length c] w (NumAt w v) := by
  subst h; exact specRowsSum A l.length c l w o.sl hk (by omega)
theorem Own.cap {α : Type} {enc : α → List Value} {sz : Nat} {e : TypeId} {m : Nat} {ls : List α} (o : Own enc sz e w base (.slice A m c) ls) : m ≤ c := by
  obtain ⟨A', c', hv, h, _⟩ := o.form
  injection hv with e1 e2 e3
  omega
theorem aDiff {ks : List ByteArray} (o : Own encRow 2 46 w base (.slice A l.length c) l) (hk : KeysWf l) (hl : l.length ≤ 1000) (o2 : Own encRow 2 46 w base2 (.slice B p.length d) p) (hk2 : KeysWf p) (hp : p.length ≤ 1000) (h : diffOut l p = ks) : Calls Try.prog 34 #[.slice A l.length c, .slice B p.length d] w (TextsAt w ks) := by
  subst h
  refine (implRowsDiff A B l.length c p.length d l p w o.sl hk (by omega) o.cap o2.sl hk2 (by omega) o2.cap).mono fun e w' ⟨v, he, ho, hb⟩ => ?_
  obtain ⟨D, d, rfl, -, -⟩ := ho.form
  exact ⟨D, d, he, ho, hb⟩
theorem sDiff {ks : List ByteArray} (o : Own encRow 2 46 w base (.slice A l.length c) l) (hk : KeysWf l) (hl : l.length ≤ 1000) (o2 : Own encRow 2 46 w base2 (.slice B p.length d) p) (hk2 : KeysWf p) (hp : p.length ≤ 1000) (h : diffOut l p = ks) : Calls Try.prog 33 #[.slice A l.length c, .slice B p.length d] w (TextsAt w ks) := by
  subst h
  refine (specRowsDiff A B l.length c p.length d l p w o.sl hk (by omega) o2.sl hk2 (by omega)).mono fun e w' ⟨v, he, ho, hb⟩ => ?_
  obtain ⟨D, d, rfl, -, -⟩ := ho.form
  exact ⟨D, d, he, ho, hb⟩
theorem aTexts {ks ls : List ByteArray} (o : Own encS 1 9 w base (.slice A ks.length c) ks) (o2 : Own encS 1 9 w base2 (.slice B ls.length d) ls) (hl : ks.length ≤ 1000) (h : strsEq ks ls = b) : Calls Try.prog 52 #[.slice A ks.length c, .slice B ls.length d] w (BoolAt w b) := by
  subst h; exact wpTexts A B ks.length ls.length c d ks ls w o.sl o2.sl (by omega)
end
/-- the nil slice, owned -/
theorem own_nil (w : World) : Own encRow 2 46 w w.heap.size (.slice none ([] : List Row).length 0) ([] : List Row) := Own.nil w _
theorem eq_tt {l p : List Row} (h : l = p) : rowsEq l p = true := by rw [h]; exact rowsEq_self p
end Go.Proofs.Ytndeehlndbdonaa
