/- Arguments opened: a slice of structs of one-cell fields reads as a list of rows. -/
import Derived.Test.YtpofgidhhcolfaaW1
import Derived.Test.YtpofgidhhcolfaaFacts
import Derived.ProofKit
import Derived.OpenShut
import Derived.ShutString
import Derived.ChangeOld
import Derived.Deep.Slices
import Derived.Deep.Fields
import Derived.ChangeSame
namespace Go.Proofs.Ytpofgidhhcolfaa
open Go.ChangeShapes Go.WideShapes Go.Deep Go.ChangeAt Go.RowKit

section
variable {H : Type} {enc : TypeId × Value → H} {P : Program} {w : World} {base : Nat} {spare : Nat → Bool} {held : Bool}
theorem open_slice_fields {t e : TypeId} {fs : Array Field} {fuel : Nat} {cs : List Value} {x : DataW H × List MemPlace} (ht : P.underlying t = some (.slice e)) (he : P.underlying e = some (.struct fs))
    (hone : oneCellFields P fs = true) (hC : P.cellsOf e = fs.size) (h : DataW.trod enc P w base spare held fuel t cs = some x) :
    (cs = [.slice none 0 0] ∧ x = (.nil, [])) ∨
    ∃ (a : Addr) (len cap m : Nat), cs = [.slice (some a) len cap] ∧ len ≤ cap ∧ cap ≤ maxLen ∧ m = (if spare a.block then cap else len) ∧
      ∀ i, i < m → ∃ (ys : List (DataW H × List MemPlace)) (n : Nat), ys.length = fs.size ∧
        ∀ (j : Nat) (f : Field), fs[j]? = some f → ∃ (v : Value) (y : DataW H × List MemPlace), w.cell? (a.add (i * fs.size + j)) = some v ∧ DataW.trod enc P w base spare held n f.type [v] = some y := by
  rcases open_slice ht h with h0 | ⟨a, len, cap, m, n, D, Pl, hcs, hb, hl, hm, hmm, hx, hi⟩
  · exact .inl h0
  · refine .inr ⟨a, len, cap, m, hcs, hl, hm, hmm, fun i him => ?_⟩
    obtain ⟨cs', hc, ht'⟩ := hi i him
    rw [hC] at hc
    obtain ⟨ys, n', hn', hy, hlen, hyl, hf⟩ := DataW.trod_struct he ht'
    obtain ⟨_, hcl, hat⟩ := World.cells?_some hc
    refine ⟨ys, n', hyl, fun j f hj => ?_⟩
    obtain ⟨ho, hk⟩ := hone_of hone j f hj
    have hjl : j < fs.size := (Array.getElem?_eq_some_iff.1 hj).1
    have hcell := hat j hjl
    have hv : cs'[j]? = some (cs'[j]'(by omega)) := List.getElem?_eq_getElem (by omega)
    have h1 := hf j f hj
    rw [ho, hk] at h1
    have hone' : (cs'.drop j).take 1 = [cs'[j]'(by omega)] := by
      rw [List.drop_eq_getElem_cons (by omega)]
      rfl
    rw [hone'] at h1
    have hys : ys[j]? = some (ys[j]'(by omega)) := List.getElem?_eq_getElem (by omega)
    refine ⟨_, _, ?_, h1.trans hys⟩
    rw [← Go.Deep.add_add, hcell, hv]
end

/-- a list out of its elements' cells -/
theorem sl_build {α : Type} {enc : α → List Value} {sz : Nat} (hs : ∀ x, (enc x).length = sz) (hsz : 0 < sz) {Q : α → Prop} {w : World} {B b off n : Nat} (hb : b < B)
    (h : ∀ i, i < n → ∃ x, Q x ∧ ∀ (j : Nat) (u : Value), (enc x)[j]? = some u → w.cell? ⟨b, off + (i * sz + j), none⟩ = some u) :
    ∃ l, Sl enc w B (some ⟨b, off, none⟩) n l ∧ ∀ x ∈ l, Q x := by
  have key : ∀ m, m ≤ n → ∃ l : List α, l.length = m ∧ (∀ x ∈ l, Q x) ∧ ∀ i x, l[i]? = some x → ∀ (j : Nat) (u : Value), (enc x)[j]? = some u → w.cell? ⟨b, off + (i * sz + j), none⟩ = some u := by
    intro m
    induction m with
    | zero => exact fun _ => ⟨[], rfl, by simp, by simp⟩
    | succ m ih =>
      intro hm
      obtain ⟨l, h1, h2, h3⟩ := ih (by omega)
      obtain ⟨x, hq, hx⟩ := h m (by omega)
      refine ⟨l ++ [x], by simp [h1], ?_, ?_⟩
      · intro y hy
        rcases List.mem_append.1 hy with hy | hy
        · exact h2 y hy
        · rw [List.mem_singleton.1 hy]; exact hq
      · intro i y hy
        by_cases hi : i < l.length
        · rw [List.getElem?_append_left hi] at hy; exact h3 i y hy
        · rw [List.getElem?_append_right (by omega)] at hy
          have hi0 : i - l.length = 0 := by have := (List.getElem?_eq_some_iff.1 hy).1; simp at this; omega
          rw [hi0] at hy
          simp at hy
          subst hy
          obtain rfl : i = m := by omega
          exact hx
  obtain ⟨l, h1, h2, h3⟩ := key n (Nat.le_refl _)
  refine ⟨l, ⟨h1, fun _ => ⟨b, off, rfl, hb, fun q u hu => ?_⟩⟩, h2⟩
  have hd : q = q / sz * sz + q % sz := by rw [Nat.mul_comm]; exact (Nat.div_add_mod q sz).symm
  rw [hd, cellsOf_get hs _ _ _ (Nat.mod_lt _ hsz)] at hu
  cases hx : l[q / sz]? with
  | none => rw [hx] at hu; cases hu
  | some x =>
    rw [hx] at hu
    have := h3 _ _ hx _ _ hu
    rwa [← hd] at this

/-- an argument of type '[]T', T of a string and an int, as the walk is told of it -/
theorem open_writes {H : Type} {enc : TypeId × Value → H} {P : Program} {w : World} {spare : Nat → Bool} {held : Bool} {t e : TypeId} {f0 f1 f2 : Field} {fuel : Nat} {a0 : Option Addr} {len cap : Nat} {x : DataW H × List MemPlace}
    (ht : P.underlying t = some (.slice e)) (he : P.underlying e = some (.struct #[f0, f1, f2])) (hone : oneCellFields P #[f0, f1, f2] = true) (hC : P.cellsOf e = 3)
    (h0 : P.underlying f0.type = some .string) (h1 : P.underlying f1.type = some (.int .i64)) (h2 : P.underlying f2.type = some .bool) (h : DataW.trod enc P w 0 spare held fuel t (Value.slice a0 len cap).cells.toList = some x) :
    ∃ l, Sl encWrite w w.heap.size a0 len l ∧ WriteSWf l ∧ len ≤ cap ∧ cap ≤ maxLen := by
  have hcs0 : (Value.slice a0 len cap).cells.toList = [.slice a0 len cap] := rfl
  rw [hcs0] at h
  rcases open_slice_fields ht he hone hC h with ⟨hcs, _⟩ | ⟨a, len', cap', m, hcs, hl, hm, hmm, hi⟩
  · simp only [List.cons.injEq, Value.slice.injEq, and_true] at hcs
    obtain ⟨rfl, rfl, rfl⟩ := hcs
    exact ⟨[], Sl.nil _ _ _ _, fun r hr => by simp at hr, by omega, by simp [maxLen]⟩
  · simp only [List.cons.injEq, Value.slice.injEq, and_true] at hcs
    obtain ⟨rfl, rfl, rfl⟩ := hcs
    have hlm : len ≤ m := by rw [hmm]; split <;> omega
    by_cases hz : len = 0
    · subst hz
      exact ⟨[], Sl.nil _ _ _ _, fun r hr => by simp at hr, hl, hm⟩
    · have cell : ∀ i, i < len → ∃ (s : ByteArray) (v : Int) (g : Bool), s.size ≤ maxLen ∧ w.cell? (a.add (i * 3 + 0)) = some (.string s) ∧ w.cell? (a.add (i * 3 + 1)) = some (.int .i64 v) ∧ w.cell? (a.add (i * 3 + 2)) = some (.bool g) := by
        intro i hlt
        obtain ⟨ys, k, _, hf⟩ := hi i (by omega)
        obtain ⟨v0, y0, c0, t0⟩ := hf 0 f0 rfl
        obtain ⟨v1, y1, c1, t1⟩ := hf 1 f1 rfl
        obtain ⟨v2, y2, c2, t2⟩ := hf 2 f2 rfl
        obtain ⟨s, e0, _, hs⟩ := DataW.trod_string h0 t0
        obtain ⟨q, e1, _, _⟩ := DataW.trod_int h1 t1
        obtain ⟨g, e2, _⟩ := DataW.trod_bool h2 t2
        simp only [List.cons.injEq, and_true] at e0 e1 e2
        subst e0; subst e1; subst e2
        exact ⟨s, q, g, hs, c0, c1, c2⟩
      obtain ⟨b, off, spot⟩ := a
      obtain ⟨s0, q0, g0, _, c00, _⟩ := cell 0 (by omega)
      have hspot : spot = none := by simpa [Addr.add] using World.cell?_spot c00
      subst hspot
      have hadd : ∀ k, (⟨b, off, none⟩ : Addr).add k = ⟨b, off + k, none⟩ := fun k => by unfold Addr.add; split <;> simp_all
      have hbb : b < w.heap.size := by
        have := World.block_lt_of_cell? w _ c00
        rw [hadd] at this
        exact this
      obtain ⟨l, hl1, hl2⟩ := sl_build (enc := encWrite) encWrite_len (by omega) (Q := fun r : Write => r.1.size ≤ maxLen) (w := w) (B := w.heap.size) (b := b) (off := off) (n := len) hbb (by
        intro i hlt
        obtain ⟨s, q, g, hs, c0, c1, c2⟩ := cell i hlt
        rw [hadd] at c0 c1 c2
        refine ⟨(s, q, g), hs, fun j u hu => ?_⟩
        match j, hu with
        | 0, hu => simp [encWrite] at hu; subst hu; exact c0
        | 1, hu => simp [encWrite] at hu; subst hu; exact c1
        | 2, hu => simp [encWrite] at hu; subst hu; exact c2
        | j + 3, hu => simp [encWrite] at hu)
      exact ⟨l, hl1, hl2, hl, hm⟩
end Go.Proofs.Ytpofgidhhcolfaa
