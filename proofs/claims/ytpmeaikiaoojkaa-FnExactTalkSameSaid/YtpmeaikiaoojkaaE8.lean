/- Arguments opened: a list of structs with inner structs; a talk. -/
import Derived.Test.YtpmeaikiaoojkaaS2
import Derived.Test.YtpmeaikiaoojkaaN1
namespace Go.Proofs.Ytpmeaikiaoojkaa
open Go.ChangeShapes Go.WideShapes Go.Deep Go.ChangeAt Go.RowKit

theorem open_slN {H : Type} {enc : TypeId × Value → H} {P : Program} {w : World} {spare : Nat → Bool} {held : Bool} {t e : TypeId} {fuel : Nat} {v : Value} {x : DataW H × List MemPlace}
    {α : Type} {ea : α → List Value} {sz : Nat} (hs : ∀ x, (ea x).length = sz) (hsz : 0 < sz) {Q : α → Prop}
    (ht : P.underlying t = some (.slice e)) (hC : P.cellsOf e = sz)
    (hel : ∀ (cs : List Value) (n : Nat) (y : DataW H × List MemPlace), cs.length = sz → DataW.trod enc P w 0 spare held n e cs = some y → ∃ x, Q x ∧ ea x = cs)
    (h : DataW.trod enc P w 0 spare held fuel t [v] = some x) :
    ∃ A len cap l, v = .slice A len cap ∧ Sl ea w w.heap.size A len l ∧ (∀ x ∈ l, Q x) ∧ len ≤ cap ∧ cap ≤ maxLen := by
  rcases open_slice ht h with ⟨hcs, _⟩ | ⟨a, len, cap, m, n, D, Pl, hcs, hb, hl, hm, hmm, hx, hi⟩
  · simp only [List.cons.injEq, and_true] at hcs
    exact ⟨none, 0, 0, [], hcs, Sl.nil _ _ _ _, fun r hr => by simp at hr, by omega, by simp [maxLen]⟩
  · simp only [List.cons.injEq, and_true] at hcs
    have hlm : len ≤ m := by rw [hmm]; split <;> omega
    by_cases hz : len = 0
    · subst hz
      exact ⟨_, _, _, [], hcs, Sl.nil _ _ _ _, fun r hr => by simp at hr, hl, hm⟩
    · have cell : ∀ i, i < len → ∃ x, Q x ∧ ∀ (j : Nat) (u : Value), (ea x)[j]? = some u → w.cell? (a.add (i * sz + j)) = some u := by
        intro i hlt
        obtain ⟨cs', hc, ht'⟩ := hi i (by omega)
        rw [hC] at hc
        obtain ⟨_, hcl, hat⟩ := World.cells?_some hc
        obtain ⟨x, hq, hxe⟩ := hel cs' n _ hcl ht'
        refine ⟨x, hq, fun j u hu => ?_⟩
        have hj : j < sz := by have := (List.getElem?_eq_some_iff.1 hu).1; rw [hs] at this; exact this
        rw [← Go.Deep.add_add, hat _ hj, ← hxe, hu]
      obtain ⟨b, off, spot⟩ := a
      obtain ⟨x0, _, hx0⟩ := cell 0 (by omega)
      obtain ⟨u0, hu0⟩ : ∃ u, (ea x0)[0]? = some u := ⟨_, List.getElem?_eq_getElem (by rw [hs]; exact hsz)⟩
      have c00 := hx0 0 u0 hu0
      have hspot : spot = none := by simpa [Addr.add] using World.cell?_spot c00
      subst hspot
      have hadd : ∀ k, (⟨b, off, none⟩ : Addr).add k = ⟨b, off + k, none⟩ := fun k => by unfold Addr.add; split <;> simp_all
      have hbb : b < w.heap.size := by
        have := World.block_lt_of_cell? w _ c00
        rw [hadd] at this
        exact this
      obtain ⟨l, hl1, hl2⟩ := sl_build (enc := ea) hs hsz (Q := Q) (w := w) (B := w.heap.size) (b := b) (off := off) (n := len) hbb (by
        intro i hlt
        obtain ⟨x, hq, hx⟩ := cell i hlt
        exact ⟨x, hq, fun j u hu => by have := hx j u hu; rwa [hadd] at this⟩)
      exact ⟨_, _, _, l, hcs, hl1, hl2, hl, hm⟩

theorem trod_struct5 {H : Type} {enc : TypeId × Value → H} {P : Program} {w : World} {base : Nat} {spare : Nat → Bool} {held : Bool} {t : TypeId} {f0 f1 f2 f3 f4 : Field} {fuel : Nat} {cs : List Value} {x : DataW H × List MemPlace} (ht : P.underlying t = some (.struct #[f0, f1, f2, f3, f4])) (h : DataW.trod enc P w base spare held fuel t cs = some x) :
    ∃ y0 y1 y2 y3 y4 n, DataW.trod enc P w base spare held n f0.type ((cs.drop f0.offset).take (P.cellsOf f0.type)) = some y0 ∧ DataW.trod enc P w base spare held n f1.type ((cs.drop f1.offset).take (P.cellsOf f1.type)) = some y1 ∧
      DataW.trod enc P w base spare held n f2.type ((cs.drop f2.offset).take (P.cellsOf f2.type)) = some y2 ∧ DataW.trod enc P w base spare held n f3.type ((cs.drop f3.offset).take (P.cellsOf f3.type)) = some y3 ∧ DataW.trod enc P w base spare held n f4.type ((cs.drop f4.offset).take (P.cellsOf f4.type)) = some y4 := by
  obtain ⟨xs, n, _, rfl, hl, hlen, hf⟩ := DataW.trod_struct ht h
  match xs, hlen with
  | [y0, y1, y2, y3, y4], _ => exact ⟨y0, y1, y2, y3, y4, n, by simpa using hf 0 f0 rfl, by simpa using hf 1 f1 rfl, by simpa using hf 2 f2 rfl, by simpa using hf 3 f3 rfl, by simpa using hf 4 f4 rfl⟩
section
variable {H : Type} {enc : TypeId × Value → H} {w : World} {spare : Nat → Bool} {held : Bool}
theorem cellsAsk : Try.prog.cellsOf 135 = 4 := by kernel_rfl
theorem cellsStr : Try.prog.cellsOf 9 = 1 := by kernel_rfl
theorem cellsInt : Try.prog.cellsOf 3 = 1 := by kernel_rfl
theorem cellsBool : Try.prog.cellsOf 4 = 1 := by kernel_rfl
theorem cellsNamed : Try.prog.cellsOf 137 = 5 := by kernel_rfl
theorem cellsSeat : Try.prog.cellsOf 45 = 4 := by kernel_rfl
theorem cellsNamedS : Try.prog.cellsOf 65 = 1 := by kernel_rfl
theorem cellsTalk : Try.prog.cellsOf 67 = 8 := by kernel_rfl
set_option maxRecDepth 100000 in
theorem open_named {fuel : Nat} {v : Value} {x : DataW H × List MemPlace} (h : DataW.trod enc Try.prog w 0 spare held fuel 65 [v] = some x) :
    ∃ A len cap l, v = .slice A len cap ∧ Sl encNamed w w.heap.size A len l ∧ NamedSWf l ∧ len ≤ cap ∧ cap ≤ maxLen :=
  open_slN encNamed_len (by omega) (Q := NamedWf) Try.underlying65 cellsNamed (fun cs n y hl hc => by
    match cs, hl with
    | [c0, c1, c2, c3, c4], _ =>
      obtain ⟨y0, y1, n1, -, -, h0, h1⟩ := trod_struct2 Try.underlying137 hc
      simp only [cellsAsk, cellsStr, List.drop_zero, List.take_succ_cons, List.take_zero, List.drop_succ_cons] at h0 h1
      obtain ⟨z0, z1, z2, z3, n2, -, -, k0, k1, k2, k3⟩ := Joins.trod_struct4 Try.underlying135 h1
      simp only [cellsInt, cellsStr, List.drop_zero, List.take_succ_cons, List.take_zero, List.drop_succ_cons] at k0 k1 k2 k3
      obtain ⟨s, e0, -, hs⟩ := DataW.trod_string Try.underlying9 h0
      obtain ⟨q1, e1, -, -⟩ := DataW.trod_int Try.underlying3 k0
      obtain ⟨q2, e2, -, hs2⟩ := DataW.trod_string Try.underlying9 k1
      obtain ⟨q3, e3, -, hs3⟩ := DataW.trod_string Try.underlying9 k2
      obtain ⟨q4, e4, -, -⟩ := DataW.trod_int Try.underlying3 k3
      simp only [List.cons.injEq, and_true] at e0 e1 e2 e3 e4
      exact ⟨(s, q1, q2, q3, q4), ⟨hs, hs2, hs3⟩, by rw [e0, e1, e2, e3, e4]; rfl⟩) h
set_option maxRecDepth 100000 in
theorem open_talk {r : Reach} {bb : Nat} {v : Value} {d : DataW H} {p : List MemPlace} (hv : Value.okWide Try.prog w r bb 67 v) (h : DataW.Trod enc Try.prog w 0 spare held 67 v d p) :
    ∃ on bad at_ A n c l G k dd g sk go inn, v = .agg #[.bool on, .bool bad, .int .i64 at_, .slice A n c, .slice G k dd, .bool sk, .bool go, .string inn] ∧ (Sl encWrite w w.heap.size A n l ∧ WriteSWf l ∧ n ≤ c ∧ c ≤ maxLen) ∧ (Sl encNamed w w.heap.size G k g ∧ NamedSWf g ∧ k ≤ dd ∧ dd ≤ maxLen) ∧ inn.size ≤ maxLen := by
  obtain ⟨cs, rfl, hsz⟩ := okWide_struct Try.underlying67 hv
  obtain ⟨cl⟩ := cs
  obtain ⟨fuel, hf⟩ := h
  have hsz' : cl.length = 8 := by simpa using hsz.trans cellsTalk
  match cl, hsz' with
  | [c0, c1, c2, c3, c4, c5, c6, c7], _ =>
    have hf' : DataW.trod enc Try.prog w 0 spare held fuel 67 [c0, c1, c2, c3, c4, c5, c6, c7] = some (d, p) := by simpa [Value.cells] using hf
    obtain ⟨y0, y1, y2, y3, y4, n, h0, h1, h2, h3, h4⟩ := trod_struct5 Try.underlying67 hf'
    simp only [cellsSeat, cellsNamedS, cellsBool, cellsStr, List.drop_zero, List.take_succ_cons, List.take_zero, List.drop_succ_cons] at h0 h1 h2 h3 h4
    obtain ⟨on, bad, at_, A, len, cap, l, hcs, p1, p2, p3, p4⟩ := open_seatC Try.underlying45 (by kernel_rfl) Try.underlying4 Try.underlying4 Try.underlying43 (by kernel_rfl) Try.underlying3 Try.underlying41 Try.underlying141 (by kernel_rfl) (by kernel_rfl) Try.underlying9 Try.underlying3 Try.underlying4 h0
    obtain ⟨G, k, dd, g, rfl, q1, q2, q3, q4⟩ := open_named h1
    obtain ⟨sk, e2, -⟩ := DataW.trod_bool Try.underlying4 h2
    obtain ⟨go, e3, -⟩ := DataW.trod_bool Try.underlying4 h3
    obtain ⟨inn, e4, -, hs⟩ := DataW.trod_string Try.underlying9 h4
    simp only [List.cons.injEq, and_true] at hcs e2 e3 e4
    obtain ⟨rfl, rfl, rfl, rfl⟩ := hcs
    subst e2 e3 e4
    exact ⟨on, bad, at_, A, len, cap, l, G, k, dd, g, sk, go, inn, rfl, ⟨p1, p2, p3, p4⟩, ⟨q1, q2, q3, q4⟩, hs⟩
end
end Go.Proofs.Ytpmeaikiaoojkaa
