/- Plain facts: the order of keys, the place of a key in a list. No program in sight. -/
import Derived.Test.YtpmeaikiaoojkaaDoorB1
import Derived.Lib.Bytealg
namespace Go.Proofs.YtpmeaikiaoojkaaDoor

def bl (a b : List UInt8) : Bool := Op.bytesLess a b
theorem bl_nn : bl [] [] = false := by simp [bl, Op.bytesLess]
theorem bl_nc (b : UInt8) (ys : List UInt8) : bl [] (b :: ys) = true := by simp [bl, Op.bytesLess]
theorem bl_cn (a : UInt8) (xs : List UInt8) : bl (a :: xs) [] = false := by simp [bl, Op.bytesLess]
theorem bl_cc (a b : UInt8) (xs ys : List UInt8) : bl (a :: xs) (b :: ys) = if a.toNat < b.toNat then true else if b.toNat < a.toNat then false else bl xs ys := by
  simp only [bl, Op.bytesLess, UInt8.lt_iff_toNat_lt]
  by_cases h : a.toNat < b.toNat
  · simp [h]
  · by_cases h2 : b.toNat < a.toNat
    · simp [h, h2]; intro e; subst e; omega
    · have : a = b := UInt8.toNat_inj.1 (by omega)
      simp [this]
theorem bl_irrefl : ∀ a, bl a a = false
  | [] => bl_nn
  | a :: xs => by rw [bl_cc, if_neg (by omega), if_neg (by omega)]; exact bl_irrefl xs
theorem bl_trans : ∀ a b c, bl a b = true → bl b c = true → bl a c = true
  | _, [], [], _, h => by rw [bl_nn] at h; cases h
  | [], [], c :: zs, _, _ => bl_nc c zs
  | [], _ :: _, c :: zs, _, _ => bl_nc c zs
  | [], b :: ys, [], _, h => by rw [bl_cn] at h; cases h
  | a :: xs, [], _, h, _ => by rw [bl_cn] at h; cases h
  | _ :: _, b :: ys, [], _, h => by rw [bl_cn] at h; cases h
  | a :: xs, b :: ys, c :: zs, h1, h2 => by
    rw [bl_cc] at h1 h2 ⊢
    by_cases x1 : a.toNat < b.toNat
    · by_cases y1 : b.toNat < c.toNat
      · rw [if_pos (by omega)]
      · rw [if_neg y1] at h2
        by_cases y2 : c.toNat < b.toNat
        · rw [if_pos y2] at h2; cases h2
        · rw [if_pos (by omega)]
    · rw [if_neg x1] at h1
      by_cases x2 : b.toNat < a.toNat
      · rw [if_pos x2] at h1; cases h1
      · rw [if_neg x2] at h1
        by_cases y1 : b.toNat < c.toNat
        · rw [if_pos (by omega)]
        · rw [if_neg y1] at h2
          by_cases y2 : c.toNat < b.toNat
          · rw [if_pos y2] at h2; cases h2
          · rw [if_neg y2] at h2
            rw [if_neg (by omega), if_neg (by omega)]
            exact bl_trans xs ys zs h1 h2
theorem bl_total : ∀ a b, bl a b = false → bl b a = false → a = b
  | [], [], _, _ => rfl
  | [], b :: ys, h, _ => by rw [bl_nc] at h; cases h
  | a :: xs, [], _, h => by rw [bl_nc] at h; cases h
  | a :: xs, b :: ys, h1, h2 => by
    rw [bl_cc] at h1 h2
    by_cases x1 : a.toNat < b.toNat
    · rw [if_pos x1] at h1; cases h1
    · rw [if_neg x1] at h1
      by_cases x2 : b.toNat < a.toNat
      · rw [if_pos x2] at h2; cases h2
      · rw [if_neg x2] at h1 h2
        rw [if_neg x1] at h2
        rw [bl_total xs ys h1 h2, UInt8.toNat_inj.1 (show a.toNat = b.toNat by omega)]
theorem cb_eq : ∀ a b : List UInt8, Lib.compareBytes a b = if bl a b = true then -1 else if bl b a = true then 1 else 0
  | [], [] => by simp [Lib.compareBytes, bl_nn]
  | [], b :: ys => by simp [Lib.compareBytes, bl_nc]
  | a :: xs, [] => by simp [Lib.compareBytes, bl_nc, bl_cn]
  | a :: xs, b :: ys => by
    rw [Lib.compareBytes, bl_cc, bl_cc, cb_eq xs ys]
    simp only [UInt8.lt_iff_toNat_lt]
    by_cases x1 : a.toNat < b.toNat
    · simp [x1]
    · by_cases x2 : b.toNat < a.toNat
      · simp [x1, x2]
      · simp [x1, x2]

theorem klt_eq (a b : ByteArray) : klt a b = bl a.toList b.toList := rfl
theorem klt_irrefl (a : ByteArray) : klt a a = false := bl_irrefl _
theorem klt_trans {a b c : ByteArray} (h : klt a b = true) (k : klt b c = true) : klt a c = true := bl_trans _ _ _ h k
theorem ba_inj {a b : ByteArray} (h : a.toList = b.toList) : a = b := by
  rw [ByteArray.toList_eq, ByteArray.toList_eq] at h
  exact ByteArray.ext (Array.toList_inj.1 h)
theorem klt_total {a b : ByteArray} (h : klt a b = false) (k : klt b a = false) : a = b := ba_inj (bl_total _ _ h k)
theorem klt_asymm {a b : ByteArray} (h : klt a b = true) : klt b a = false := by
  cases k : klt b a
  · rfl
  · have := klt_trans h k; rw [klt_irrefl] at this; cases this
theorem klt_of_not {a b c : ByteArray} (h : klt a b = true) (k : klt c b = false) : klt a c = true := by
  cases hca : klt a c
  · cases hcb : klt c a
    · have := klt_total hca hcb; subst this; rw [h] at k; cases k
    · have := klt_trans hcb h; rw [this] at k; cases k
  · rfl
/-- what strings.Compare gives -/
def kcmp (a b : ByteArray) : Int := Lib.compareBytes a.data.toList b.data.toList
theorem kcmp_eq (a b : ByteArray) : kcmp a b = if klt a b = true then -1 else if klt b a = true then 1 else 0 := by
  rw [kcmp, cb_eq, klt_eq, klt_eq, ByteArray.toList_eq, ByteArray.toList_eq]
theorem kcmp_neg {a b : ByteArray} (h : klt a b = true) : kcmp a b = -1 := by rw [kcmp_eq, if_pos h]
theorem kcmp_same (a : ByteArray) : kcmp a a = 0 := by rw [kcmp_eq, klt_irrefl]; rfl
theorem kcmp_pos {a b : ByteArray} (h : klt b a = true) : kcmp a b = 1 := by rw [kcmp_eq, klt_asymm h, h]; rfl
theorem kcmp_range (a b : ByteArray) : -1 ≤ kcmp a b ∧ kcmp a b ≤ 1 := by rw [kcmp_eq]; split <;> (try split) <;> omega
def keq (a b : ByteArray) : Bool := a.toList == b.toList
theorem keq_iff {a b : ByteArray} : keq a b = true ↔ a = b := by
  unfold keq; rw [beq_iff_eq]; exact ⟨ba_inj, fun h => by rw [h]⟩
theorem kcmp_zero (a b : ByteArray) : (kcmp a b == 0) = keq a b := by
  by_cases h : a = b
  · subst h; rw [kcmp_same, keq_iff.2 rfl]; rfl
  · have h2 : keq a b = false := by cases hk : keq a b; rfl; exact absurd (keq_iff.1 hk) h
    rw [h2]
    cases h3 : klt a b
    · cases h4 : klt b a
      · exact absurd (klt_total h3 h4) h
      · rw [kcmp_pos h4]; rfl
    · rw [kcmp_neg h3]; rfl

/-! ### the place of a key -/
def fnd : List Row → ByteArray → Nat
  | [], _ => 0
  | r :: l, key => if klt r.1 key = true then fnd l key + 1 else 0
theorem fnd_pos {r : Row} {l : List Row} {key : ByteArray} (h : klt r.1 key = true) : fnd (r :: l) key = fnd l key + 1 := by
  show (if klt r.1 key = true then fnd l key + 1 else 0) = _
  rw [if_pos h]
theorem fnd_neg {r : Row} {l : List Row} {key : ByteArray} (h : ¬ klt r.1 key = true) : fnd (r :: l) key = 0 := by
  show (if klt r.1 key = true then fnd l key + 1 else 0) = _
  rw [if_neg h]
def hit (l : List Row) (key : ByteArray) : Bool :=
  match l[fnd l key]? with
  | some r => keq r.1 key
  | none => false
theorem fnd_le (l : List Row) (key : ByteArray) : fnd l key ≤ l.length := by
  induction l with
  | nil => exact Nat.le_refl _
  | cons r l ih =>
    by_cases h : klt r.1 key = true
    · rw [fnd_pos h, List.length_cons]; omega
    · rw [fnd_neg h]; omega
theorem fnd_lt {l : List Row} {key : ByteArray} {i : Nat} {r : Row} (h : i < fnd l key) (hr : l[i]? = some r) : klt r.1 key = true := by
  induction l generalizing i with
  | nil => simp at hr
  | cons x l ih =>
    by_cases hx : klt x.1 key = true
    · rw [fnd_pos hx] at h
      cases i with
      | zero => simp at hr; subst hr; exact hx
      | succ i => exact ih (i := i) (by omega) (by simpa using hr)
    · rw [fnd_neg hx] at h; omega
theorem fnd_at {l : List Row} {key : ByteArray} {r : Row} (hr : l[fnd l key]? = some r) : klt r.1 key = false := by
  induction l with
  | nil => simp at hr
  | cons x l ih =>
    by_cases hx : klt x.1 key = true
    · rw [fnd_pos hx] at hr
      exact ih (by simpa using hr)
    · rw [fnd_neg hx] at hr
      simp at hr; subst hr
      simpa using hx
/-- what decides the place -/
theorem fnd_unique {l : List Row} {key : ByteArray} {m : Nat} (hm : m ≤ l.length) (h1 : ∀ (i : Nat) (r : Row), i < m → l[i]? = some r → klt r.1 key = true) (h2 : ∀ r : Row, l[m]? = some r → klt r.1 key = false) : fnd l key = m := by
  rcases Nat.lt_trichotomy (fnd l key) m with h | h | h
  · have hl : fnd l key < l.length := by omega
    have e := List.getElem?_eq_getElem hl
    have a := fnd_at e
    have b := h1 _ _ h e
    rw [a] at b; cases b
  · exact h
  · have hl : m < l.length := by have := fnd_le l key; omega
    have e := List.getElem?_eq_getElem hl
    have a := fnd_lt h e
    have b := h2 _ e
    rw [a] at b; cases b
theorem AscP.lt {l : List Row} (h : AscP l) {i j : Nat} {a b : Row} (hij : i < j) (ha : l[i]? = some a) (hb : l[j]? = some b) : klt a.1 b.1 = true := by
  induction j generalizing b with
  | zero => omega
  | succ j ih =>
    by_cases he : i = j
    · subst he; exact h i a b ha hb
    · have hj : j < l.length := by have := (List.getElem?_eq_some_iff.1 hb).1; omega
      have e := List.getElem?_eq_getElem hj
      exact klt_trans (ih (by omega) e) (h j _ _ e hb)
theorem hit_some {l : List Row} {key : ByteArray} {r : Row} (h : l[fnd l key]? = some r) : hit l key = keq r.1 key := by unfold hit; rw [h]
theorem hit_none {l : List Row} {key : ByteArray} (h : l.length ≤ fnd l key) : hit l key = false := by unfold hit; rw [List.getElem?_eq_none h]
theorem hit_lt {l : List Row} {key : ByteArray} (h : hit l key = true) : fnd l key < l.length := by
  rcases Nat.lt_or_ge (fnd l key) l.length with h1 | h1
  · exact h1
  · rw [hit_none h1] at h; cases h
theorem hit_key {l : List Row} {key : ByteArray} (h : hit l key = true) : ∃ num, l[fnd l key]? = some (key, num) := by
  have e := List.getElem?_eq_getElem (hit_lt h)
  rw [hit_some e] at h
  have h2 := keq_iff.1 h
  exact ⟨(l[fnd l key]'(hit_lt (by rw [hit_some e]; exact h))).2, by rw [e]; congr 1; exact Prod.ext h2 rfl⟩
end Go.Proofs.YtpmeaikiaoojkaaDoor
