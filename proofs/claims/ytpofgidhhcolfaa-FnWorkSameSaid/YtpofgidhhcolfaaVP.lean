/- Plain facts of histories: what is right, what is visible. No program in sight. -/
import Derived.Test.YtpofgidhhcolfaaV1
import Derived.Test.YtpofgidhhcolfaaP1
namespace Go.Proofs.Ytpofgidhhcolfaa

/-- one version alone is right, at the time now -/
def verOk (now : Int) (x : Ver) : Bool := keyOk x.1 && numOk x.2.1 && (decide (1 ≤ x.2.2.1) && decide (x.2.2.1 ≤ now)) && (decide (x.2.2.2 = 0) || decide (x.2.2.1 < x.2.2.2) && decide (x.2.2.2 ≤ now))
/-- a may stand ahead of b -/
def ahead (a b : Ver) : Bool := if keq a.1 b.1 = true then decide (0 < a.2.2.2) && decide (a.2.2.2 ≤ b.2.2.1) else klt a.1 b.1
def vis (t : Int) (x : Ver) : Bool := decide (x.2.2.1 ≤ t) && (decide (x.2.2.2 = 0) || decide (t < x.2.2.2))
def AheadP (l : List Ver) : Prop := ∀ (i : Nat) (a b : Ver), l[i]? = some a → l[i + 1]? = some b → ahead a b = true
def EachV (now : Int) (l : List Ver) : Prop := ∀ (i : Nat) (x : Ver), l[i]? = some x → verOk now x = true
/-- how many are visible at t -/
def seen (l : List Ver) (t : Int) : Nat := (l.filter (vis t)).length
def FewP (now : Int) (l : List Ver) : Prop := ∀ t : Nat, (t : Int) ≤ now → seen l t ≤ 10
def VersP (now : Int) (l : List Ver) : Prop := (0 ≤ now ∧ now ≤ 40 ∧ l.length ≤ 60) ∧ EachV now l ∧ AheadP l ∧ FewP now l
open Classical in
noncomputable def versOk (now : Int) (l : List Ver) : Bool := decide (VersP now l)
theorem versOk_true {now : Int} {l : List Ver} (h : VersP now l) : versOk now l = true := by simp [versOk, h]
theorem versOk_false {now : Int} {l : List Ver} (h : ¬ VersP now l) : versOk now l = false := by simp [versOk, h]
theorem versOk_iff {now : Int} {l : List Ver} : versOk now l = true ↔ VersP now l := by simp [versOk]
/-- the rows of a time -/
def atL (l : List Ver) (t : Int) : List Row := (l.filter (vis t)).map fun x => (x.1, x.2.1)
noncomputable def atRes (now : Int) (l : List Ver) (t : Int) : List Row := if versOk now l = true ∧ 0 ≤ t ∧ t ≤ now then atL l t else []

def EachVTo (now : Int) (l : List Ver) (k : Nat) : Prop := ∀ (i : Nat) (x : Ver), i < k → l[i]? = some x → verOk now x = true
theorem EachVTo.zero (now : Int) (l : List Ver) : EachVTo now l 0 := fun _ _ h => absurd h (by omega)
theorem EachVTo.step {now : Int} {l : List Ver} {k : Nat} {x : Ver} (h : EachVTo now l k) (hx : l[k]? = some x) (ho : verOk now x = true) : EachVTo now l (k + 1) := by
  intro i y hi hy
  by_cases hik : i < k
  · exact h i y hik hy
  · obtain rfl : i = k := by omega
    rw [hx] at hy; cases hy; exact ho
theorem EachVTo.all {now : Int} {l : List Ver} {k : Nat} (h : EachVTo now l k) (hl : l.length ≤ k) : EachV now l := fun i x hx => h i x (by have := (List.getElem?_eq_some_iff.1 hx).1; omega) hx
theorem not_eachV {now : Int} {l : List Ver} {k : Nat} {x : Ver} (hx : l[k]? = some x) (ho : verOk now x = false) : ¬ EachV now l := fun h => by
  have := h k x hx; rw [ho] at this; cases this
/-- each of the first k is ahead of the next one -/
def AheadTo (l : List Ver) (j : Nat) : Prop := ∀ (i : Nat) (a b : Ver), i < j → l[i]? = some a → l[i + 1]? = some b → ahead a b = true
theorem AheadTo.zero (l : List Ver) : AheadTo l 0 := fun _ _ _ h => absurd h (by omega)
theorem AheadTo.step {l : List Ver} {k : Nat} {a b : Ver} (h : AheadTo l (k - 1)) (hk : 0 < k) (ha : l[k - 1]? = some a) (hb : l[k]? = some b) (ho : ahead a b = true) : AheadTo l k := by
  intro i x y hi hx hy
  by_cases hik : i < k - 1
  · exact h i x y hik hx hy
  · obtain rfl : i = k - 1 := by omega
    rw [ha] at hx; rw [show k - 1 + 1 = k by omega, hb] at hy; cases hx; cases hy; exact ho
theorem AheadTo.all {l : List Ver} {j : Nat} (h : AheadTo l j) (hj : l.length ≤ j + 1) : AheadP l := by
  intro i a b ha hb
  exact h i a b (by have := (List.getElem?_eq_some_iff.1 hb).1; omega) ha hb
theorem not_ahead {l : List Ver} {k : Nat} {a b : Ver} (hk : 0 < k) (ha : l[k - 1]? = some a) (hb : l[k]? = some b) (ho : ahead a b = false) : ¬ AheadP l := fun h => by
  have := h (k - 1) a b ha (by rw [show k - 1 + 1 = k by omega]; exact hb)
  rw [ho] at this; cases this
/-- what the program's own text asks of two neighbours of which each is right -/
theorem ahead_eq {now : Int} {a : Ver} (b : Ver) (ha : verOk now a = true) : ahead a b = (!(klt b.1 a.1) && !(keq a.1 b.1 && (decide (a.2.2.2 = 0) || decide (b.2.2.1 < a.2.2.2)))) := by
  have hto : 0 ≤ a.2.2.2 := by
    simp only [verOk, Bool.and_eq_true, Bool.or_eq_true, decide_eq_true_eq] at ha
    omega
  unfold ahead
  cases hk : keq a.1 b.1
  · have hne : a.1 ≠ b.1 := fun e => by rw [keq_iff.2 e] at hk; cases hk
    simp only [Bool.false_eq_true, if_false, Bool.false_and, Bool.not_false, Bool.and_true]
    cases h1 : klt a.1 b.1
    · cases h2 : klt b.1 a.1
      · exact absurd (klt_total h1 h2) hne
      · rfl
    · rw [klt_asymm h1]; rfl
  · have he := keq_iff.1 hk
    rw [he, klt_irrefl]
    simp only [if_true, Bool.not_false, Bool.true_and]
    rw [Bool.eq_iff_iff]
    simp only [Bool.and_eq_true, decide_eq_true_eq, Bool.not_eq_true', Bool.or_eq_false_iff, decide_eq_false_iff_not]
    omega
def FewTo (l : List Ver) (k : Nat) : Prop := ∀ t : Nat, t < k → seen l t ≤ 10
theorem FewTo.zero (l : List Ver) : FewTo l 0 := fun _ h => absurd h (by omega)
theorem FewTo.step {l : List Ver} {k : Nat} (h : FewTo l k) (hk : seen l k ≤ 10) : FewTo l (k + 1) := by
  intro t ht
  by_cases e : t < k
  · exact h t e
  · obtain rfl : t = k := by omega
    exact hk
theorem FewTo.all {now : Int} {l : List Ver} {k : Nat} (h : FewTo l k) (hk : now < (k : Int)) : FewP now l := fun t ht => h t (by omega)
theorem not_few {now : Int} {l : List Ver} {k : Nat} (hk : (k : Int) ≤ now) (h : 10 < seen l k) : ¬ FewP now l := fun hf => by have := hf k hk; omega
end Go.Proofs.Ytpofgidhhcolfaa
