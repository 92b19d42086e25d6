/- Arguments opened: a slice of flat structs, whatever the fields. No program in sight. -/
import Derived.Test.YtpmeaikiaoojkaaDoorK
import Derived.ProofKit
import Derived.OpenShut
import Derived.ShutString
import Derived.ChangeOld
import Derived.Deep.Slices
import Derived.Deep.Fields
import Derived.ChangeSame
import Derived.Lib.SmallJoins
namespace Go.Proofs.YtpmeaikiaoojkaaDoor
open Go.ChangeShapes Go.WideShapes Go.Deep Go.ChangeAt Go.RowKit

section
variable {H : Type} {enc : TypeId × Value → H} {P : Program} {w : World} {base : Nat} {spare : Nat → Bool} {held : Bool}
theorem open_slice_fields {t e : TypeId} {fs : Array Field} {fuel : Nat} {cs : List Value} {x : DataW H × List MemPlace} (ht : P.underlying t = some (.slice e)) (he : P.underlying e = some (.struct fs))
    (hone : oneCellFields P fs = true) (hC : P.cellsOf e = fs.size) (h : DataW.trod enc P w base spare held fuel t cs = some x) :
    (cs = [.slice none 0 0] ∧ x = (.nil, [])) ∨
    ∃ (a : Addr) (len cap m : Nat), cs = [.slice (some a) len cap] ∧ len ≤ cap ∧ cap ≤ maxLen ∧ m = (if spare a.block then cap else len) ∧
      ∀ i, i < m → ∃ (ys : List (DataW H × List MemPlace)) (n : Nat), ys.length = fs.size ∧
        ∀ (j : Nat) (f : Field), fs[j]? = some f → ∃ (v : Value) (y : DataW H × List MemPlace), w.cell? (a.add (i * fs.size + j)) = some v ∧ DataW.trod enc P w base spare held n f.type [v] = some y := by
  rcases open_slice ht h with h0 | ⟨a, len, cap, m, n, D, Pl, hcs, hb, hl, hm, hmm, hx, hi⟩
  · exact .inl h0
  · refine .inr ⟨a, len, cap, m, hcs, hl, hm, hmm, fun i him => ?_⟩
    obtain ⟨cs', hc, ht'⟩ := hi i him
    rw [hC] at hc
    obtain ⟨ys, n', hn', hy, hlen, hyl, hf⟩ := DataW.trod_struct he ht'
    obtain ⟨_, hcl, hat⟩ := World.cells?_some hc
    refine ⟨ys, n', hyl, fun j f hj => ?_⟩
    obtain ⟨ho, hk⟩ := hone_of hone j f hj
    have hjl : j < fs.size := (Array.getElem?_eq_some_iff.1 hj).1
    have hcell := hat j hjl
    have hv : cs'[j]? = some (cs'[j]'(by omega)) := List.getElem?_eq_getElem (by omega)
    have h1 := hf j f hj
    rw [ho, hk] at h1
    have hone' : (cs'.drop j).take 1 = [cs'[j]'(by omega)] := by
      rw [List.drop_eq_getElem_cons (by omega)]
      rfl
    rw [hone'] at h1
    have hys : ys[j]? = some (ys[j]'(by omega)) := List.getElem?_eq_getElem (by omega)
    refine ⟨_, _, ?_, h1.trans hys⟩
    rw [← Go.Deep.add_add, hcell, hv]
end

/-- a list out of its elements' cells -/
theorem sl_build {α : Type} {enc : α → List Value} {sz : Nat} (hs : ∀ x, (enc x).length = sz) (hsz : 0 < sz) {Q : α → Prop} {w : World} {B b off n : Nat} (hb : b < B)
    (h : ∀ i, i < n → ∃ x, Q x ∧ ∀ (j : Nat) (u : Value), (enc x)[j]? = some u → w.cell? ⟨b, off + (i * sz + j), none⟩ = some u) :
    ∃ l, Sl enc w B (some ⟨b, off, none⟩) n l ∧ ∀ x ∈ l, Q x := by
  have key : ∀ m, m ≤ n → ∃ l : List α, l.length = m ∧ (∀ x ∈ l, Q x) ∧ ∀ i x, l[i]? = some x → ∀ (j : Nat) (u : Value), (enc x)[j]? = some u → w.cell? ⟨b, off + (i * sz + j), none⟩ = some u := by
    intro m
    induction m with
    | zero => exact fun _ => ⟨[], rfl, by simp, by simp⟩
    | succ m ih =>
      intro hm
      obtain ⟨l, h1, h2, h3⟩ := ih (by omega)
      obtain ⟨x, hq, hx⟩ := h m (by omega)
      refine ⟨l ++ [x], by simp [h1], ?_, ?_⟩
      · intro y hy
        rcases List.mem_append.1 hy with hy | hy
        · exact h2 y hy
        · rw [List.mem_singleton.1 hy]; exact hq
      · intro i y hy
        by_cases hi : i < l.length
        · rw [List.getElem?_append_left hi] at hy; exact h3 i y hy
        · rw [List.getElem?_append_right (by omega)] at hy
          have hi0 : i - l.length = 0 := by have := (List.getElem?_eq_some_iff.1 hy).1; simp at this; omega
          rw [hi0] at hy
          simp at hy
          subst hy
          obtain rfl : i = m := by omega
          exact hx
  obtain ⟨l, h1, h2, h3⟩ := key n (Nat.le_refl _)
  refine ⟨l, ⟨h1, fun _ => ⟨b, off, rfl, hb, fun q u hu => ?_⟩⟩, h2⟩
  have hd : q = q / sz * sz + q % sz := by rw [Nat.mul_comm]; exact (Nat.div_add_mod q sz).symm
  rw [hd, cellsOf_get hs _ _ _ (Nat.mod_lt _ hsz)] at hu
  cases hx : l[q / sz]? with
  | none => rw [hx] at hu; cases hu
  | some x =>
    rw [hx] at hu
    have := h3 _ _ hx _ _ hu
    rwa [← hd] at this

theorem open_slG {H : Type} {enc : TypeId × Value → H} {P : Program} {w : World} {spare : Nat → Bool} {held : Bool} {t e : TypeId} {fs : Array Field} {fuel : Nat} {v : Value} {x : DataW H × List MemPlace}
    {α : Type} {ea : α → List Value} {sz : Nat} (hs : ∀ x, (ea x).length = sz) (hsz : 0 < sz) {Q : α → Prop}
    (ht : P.underlying t = some (.slice e)) (he : P.underlying e = some (.struct fs)) (hone : oneCellFields P fs = true) (hC : P.cellsOf e = fs.size) (hfs : fs.size = sz)
    (hel : ∀ (c : Nat → Value) (n : Nat), (∀ (j : Nat) (f : Field), fs[j]? = some f → ∃ y, DataW.trod enc P w 0 spare held n f.type [c j] = some y) → ∃ x, Q x ∧ ∀ (j : Nat) (u : Value), (ea x)[j]? = some u → u = c j)
    (h : DataW.trod enc P w 0 spare held fuel t [v] = some x) :
    ∃ A len cap l, v = .slice A len cap ∧ Sl ea w w.heap.size A len l ∧ (∀ x ∈ l, Q x) ∧ len ≤ cap ∧ cap ≤ maxLen := by
  rcases open_slice_fields ht he hone hC h with ⟨hcs, _⟩ | ⟨a, len, cap, m, hcs, hl, hm, hmm, hi⟩
  · simp only [List.cons.injEq, and_true] at hcs
    exact ⟨none, 0, 0, [], hcs, Sl.nil _ _ _ _, fun r hr => by simp at hr, by omega, by simp [maxLen]⟩
  · simp only [List.cons.injEq, and_true] at hcs
    have hlm : len ≤ m := by rw [hmm]; split <;> omega
    by_cases hz : len = 0
    · subst hz
      exact ⟨_, _, _, [], hcs, Sl.nil _ _ _ _, fun r hr => by simp at hr, hl, hm⟩
    · have cell : ∀ i, i < len → ∃ x, Q x ∧ ∀ (j : Nat) (u : Value), (ea x)[j]? = some u → w.cell? (a.add (i * sz + j)) = some u := by
        intro i hlt
        obtain ⟨ys, n, _, hf⟩ := hi i (by omega)
        rw [hfs] at hf
        obtain ⟨x, hq, hx⟩ := hel (fun j => (w.cell? (a.add (i * sz + j))).getD undef) n (fun j f hj => by
          obtain ⟨v, y, c0, t0⟩ := hf j f hj
          refine ⟨y, ?_⟩
          simp only [c0, Option.getD_some]
          exact t0)
        refine ⟨x, hq, fun j u hu => ?_⟩
        have hjl : j < fs.size := by have := (List.getElem?_eq_some_iff.1 hu).1; rw [hs] at this; omega
        obtain ⟨v, y, c0, t0⟩ := hf j _ (Array.getElem?_eq_getElem hjl)
        rw [hx j u hu, c0]; rfl
      obtain ⟨b, off, spot⟩ := a
      obtain ⟨x0, _, hx0⟩ := cell 0 (by omega)
      obtain ⟨u0, hu0⟩ : ∃ u, (ea x0)[0]? = some u := ⟨_, List.getElem?_eq_getElem (by rw [hs]; exact hsz)⟩
      have c00 := hx0 0 u0 hu0
      have hspot : spot = none := by simpa [Addr.add] using World.cell?_spot c00
      subst hspot
      have hadd : ∀ k, (⟨b, off, none⟩ : Addr).add k = ⟨b, off + k, none⟩ := fun k => by unfold Addr.add; split <;> simp_all
      have hbb : b < w.heap.size := by
        have := World.block_lt_of_cell? w _ c00
        rw [hadd] at this
        exact this
      obtain ⟨l, hl1, hl2⟩ := sl_build (enc := ea) hs hsz (Q := Q) (w := w) (B := w.heap.size) (b := b) (off := off) (n := len) hbb (by
        intro i hlt
        obtain ⟨x, hq, hx⟩ := cell i hlt
        exact ⟨x, hq, fun j u hu => by have := hx j u hu; rwa [hadd] at this⟩)
      exact ⟨_, _, _, l, hcs, hl1, hl2, hl, hm⟩
end Go.Proofs.YtpmeaikiaoojkaaDoor
