/- Arguments opened: a slice of flat structs, whatever the fields; Ver, Vers. -/
import Derived.Test.YtpofgidhhcolfaaE1
import Derived.Test.YtpofgidhhcolfaaV1
import Derived.Lib.SmallJoins
namespace Go.Proofs.Ytpofgidhhcolfaa
open Go.ChangeShapes Go.WideShapes Go.Deep Go.ChangeAt Go.RowKit

theorem open_slG {H : Type} {enc : TypeId × Value → H} {P : Program} {w : World} {spare : Nat → Bool} {held : Bool} {t e : TypeId} {fs : Array Field} {fuel : Nat} {v : Value} {x : DataW H × List MemPlace}
    {α : Type} {ea : α → List Value} {sz : Nat} (hs : ∀ x, (ea x).length = sz) (hsz : 0 < sz) {Q : α → Prop}
    (ht : P.underlying t = some (.slice e)) (he : P.underlying e = some (.struct fs)) (hone : oneCellFields P fs = true) (hC : P.cellsOf e = fs.size) (hfs : fs.size = sz)
    (hel : ∀ (c : Nat → Value) (n : Nat), (∀ (j : Nat) (f : Field), fs[j]? = some f → ∃ y, DataW.trod enc P w 0 spare held n f.type [c j] = some y) → ∃ x, Q x ∧ ∀ (j : Nat) (u : Value), (ea x)[j]? = some u → u = c j)
    (h : DataW.trod enc P w 0 spare held fuel t [v] = some x) :
    ∃ A len cap l, v = .slice A len cap ∧ Sl ea w w.heap.size A len l ∧ (∀ x ∈ l, Q x) ∧ len ≤ cap ∧ cap ≤ maxLen := by
  rcases open_slice_fields ht he hone hC h with ⟨hcs, _⟩ | ⟨a, len, cap, m, hcs, hl, hm, hmm, hi⟩
  · simp only [List.cons.injEq, and_true] at hcs
    exact ⟨none, 0, 0, [], hcs, Sl.nil _ _ _ _, fun r hr => by simp at hr, by omega, by simp [maxLen]⟩
  · simp only [List.cons.injEq, and_true] at hcs
    have hlm : len ≤ m := by rw [hmm]; split <;> omega
    by_cases hz : len = 0
    · subst hz
      exact ⟨_, _, _, [], hcs, Sl.nil _ _ _ _, fun r hr => by simp at hr, hl, hm⟩
    · have cell : ∀ i, i < len → ∃ x, Q x ∧ ∀ (j : Nat) (u : Value), (ea x)[j]? = some u → w.cell? (a.add (i * sz + j)) = some u := by
        intro i hlt
        obtain ⟨ys, n, _, hf⟩ := hi i (by omega)
        rw [hfs] at hf
        obtain ⟨x, hq, hx⟩ := hel (fun j => (w.cell? (a.add (i * sz + j))).getD undef) n (fun j f hj => by
          obtain ⟨v, y, c0, t0⟩ := hf j f hj
          refine ⟨y, ?_⟩
          simp only [c0, Option.getD_some]
          exact t0)
        refine ⟨x, hq, fun j u hu => ?_⟩
        have hjl : j < fs.size := by have := (List.getElem?_eq_some_iff.1 hu).1; rw [hs] at this; omega
        obtain ⟨v, y, c0, t0⟩ := hf j _ (Array.getElem?_eq_getElem hjl)
        rw [hx j u hu, c0]; rfl
      obtain ⟨b, off, spot⟩ := a
      obtain ⟨x0, _, hx0⟩ := cell 0 (by omega)
      obtain ⟨u0, hu0⟩ : ∃ u, (ea x0)[0]? = some u := ⟨_, List.getElem?_eq_getElem (by rw [hs]; exact hsz)⟩
      have c00 := hx0 0 u0 hu0
      have hspot : spot = none := by simpa [Addr.add] using World.cell?_spot c00
      subst hspot
      have hadd : ∀ k, (⟨b, off, none⟩ : Addr).add k = ⟨b, off + k, none⟩ := fun k => by unfold Addr.add; split <;> simp_all
      have hbb : b < w.heap.size := by
        have := World.block_lt_of_cell? w _ c00
        rw [hadd] at this
        exact this
      obtain ⟨l, hl1, hl2⟩ := sl_build (enc := ea) hs hsz (Q := Q) (w := w) (B := w.heap.size) (b := b) (off := off) (n := len) hbb (by
        intro i hlt
        obtain ⟨x, hq, hx⟩ := cell i hlt
        exact ⟨x, hq, fun j u hu => by have := hx j u hu; rwa [hadd] at this⟩)
      exact ⟨_, _, _, l, hcs, hl1, hl2, hl, hm⟩
/-- a slice of Ver -/
theorem open_vers {H : Type} {enc : TypeId × Value → H} {P : Program} {w : World} {spare : Nat → Bool} {held : Bool} {t e : TypeId} {f0 f1 f2 f3 : Field} {fuel : Nat} {v : Value} {x : DataW H × List MemPlace}
    (ht : P.underlying t = some (.slice e)) (he : P.underlying e = some (.struct #[f0, f1, f2, f3])) (hone : oneCellFields P #[f0, f1, f2, f3] = true) (hC : P.cellsOf e = 4)
    (h0 : P.underlying f0.type = some .string) (h1 : P.underlying f1.type = some (.int .i64)) (h2 : P.underlying f2.type = some (.int .i64)) (h3 : P.underlying f3.type = some (.int .i64))
    (h : DataW.trod enc P w 0 spare held fuel t [v] = some x) :
    ∃ A len cap l, v = .slice A len cap ∧ Sl encVer w w.heap.size A len l ∧ VerSWf l ∧ len ≤ cap ∧ cap ≤ maxLen :=
  open_slG encVer_len (by omega) (Q := VerWf) ht he hone hC rfl (fun c n hc => by
    obtain ⟨y0, t0⟩ := hc 0 f0 rfl
    obtain ⟨y1, t1⟩ := hc 1 f1 rfl
    obtain ⟨y2, t2⟩ := hc 2 f2 rfl
    obtain ⟨y3, t3⟩ := hc 3 f3 rfl
    obtain ⟨s, e0, _, hs⟩ := DataW.trod_string h0 t0
    obtain ⟨q1, e1, _, _⟩ := DataW.trod_int h1 t1
    obtain ⟨q2, e2, _, _⟩ := DataW.trod_int h2 t2
    obtain ⟨q3, e3, _, _⟩ := DataW.trod_int h3 t3
    simp only [List.cons.injEq, and_true] at e0 e1 e2 e3
    refine ⟨(s, q1, q2, q3), hs, fun j u hu => ?_⟩
    match j, hu with
    | 0, hu => simp [encVer] at hu; rw [← hu, e0]
    | 1, hu => simp [encVer] at hu; rw [← hu, e1]
    | 2, hu => simp [encVer] at hu; rw [← hu, e2]
    | 3, hu => simp [encVer] at hu; rw [← hu, e3]
    | j + 4, hu => simp [encVer] at hu) h
end Go.Proofs.Ytpofgidhhcolfaa
