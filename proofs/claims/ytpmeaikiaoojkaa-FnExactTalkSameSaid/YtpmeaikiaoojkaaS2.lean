/- Arguments opened: a slice of Write. -/
import Derived.Test.YtpmeaikiaoojkaaEG
import Derived.Test.YtpmeaikiaoojkaaW1
namespace Go.Proofs.Ytpmeaikiaoojkaa
open Go.ChangeShapes Go.WideShapes Go.Deep Go.ChangeAt Go.RowKit

/-- a slice of Write -/
theorem open_works {H : Type} {enc : TypeId × Value → H} {P : Program} {w : World} {spare : Nat → Bool} {held : Bool} {t e : TypeId} {f0 f1 f2 : Field} {fuel : Nat} {v : Value} {x : DataW H × List MemPlace}
    (ht : P.underlying t = some (.slice e)) (he : P.underlying e = some (.struct #[f0, f1, f2])) (hone : oneCellFields P #[f0, f1, f2] = true) (hC : P.cellsOf e = 3)
    (h0 : P.underlying f0.type = some .string) (h1 : P.underlying f1.type = some (.int .i64)) (h2 : P.underlying f2.type = some .bool)
    (h : DataW.trod enc P w 0 spare held fuel t [v] = some x) :
    ∃ A len cap l, v = .slice A len cap ∧ Sl encWrite w w.heap.size A len l ∧ WriteSWf l ∧ len ≤ cap ∧ cap ≤ maxLen :=
  open_slG encWrite_len (by omega) (Q := WriteWf) ht he hone hC rfl (fun c n hc => by
    obtain ⟨y0, t0⟩ := hc 0 f0 rfl
    obtain ⟨y1, t1⟩ := hc 1 f1 rfl
    obtain ⟨y2, t2⟩ := hc 2 f2 rfl
    obtain ⟨s, e0, _, hs⟩ := DataW.trod_string h0 t0
    obtain ⟨q1, e1, _, _⟩ := DataW.trod_int h1 t1
    obtain ⟨q2, e2, _⟩ := DataW.trod_bool h2 t2
    simp only [List.cons.injEq, and_true] at e0 e1 e2
    refine ⟨(s, q1, q2), hs, fun j u hu => ?_⟩
    match j, hu with
    | 0, hu => simp [encWrite] at hu; rw [← hu, e0]
    | 1, hu => simp [encWrite] at hu; rw [← hu, e1]
    | 2, hu => simp [encWrite] at hu; rw [← hu, e2]
    | j + 3, hu => simp [encWrite] at hu) h
theorem arrayCs4 {cs : Array Value} (h : cs.size = 4) : ∃ c0 c1 c2 c3, cs = #[c0, c1, c2, c3] := Joins.array4 h
/-- a seat, by value: its cells -/
theorem open_seatC {H : Type} {enc : TypeId × Value → H} {P : Program} {w : World} {spare : Nat → Bool} {held : Bool} {t e : TypeId} {f0 f1 f2 g0 g1 k0 k1 k2 : Field} {c0 c1 c2 c3 : Value} {n : Nat} {x : DataW H × List MemPlace}
    (hs : P.underlying t = some (.struct #[f0, f1, f2])) (ho : (f0.offset, f1.offset, f2.offset, P.cellsOf f0.type, P.cellsOf f1.type, P.cellsOf f2.type) = (0, 1, 2, 1, 1, 2))
    (b0 : P.underlying f0.type = some .bool) (b1 : P.underlying f1.type = some .bool) (hw : P.underlying f2.type = some (.struct #[g0, g1])) (hg : (g0.offset, g1.offset, P.cellsOf g0.type, P.cellsOf g1.type) = (0, 1, 1, 1))
    (i0 : P.underlying g0.type = some (.int .i64)) (sl : P.underlying g1.type = some (.slice e)) (he : P.underlying e = some (.struct #[k0, k1, k2])) (hone : oneCellFields P #[k0, k1, k2] = true) (hCe : P.cellsOf e = 3)
    (e0 : P.underlying k0.type = some .string) (e1 : P.underlying k1.type = some (.int .i64)) (e2 : P.underlying k2.type = some .bool)
    (hf : DataW.trod enc P w 0 spare held n t [c0, c1, c2, c3] = some x) :
    ∃ on bad at_ A len cap l, [c0, c1, c2, c3] = [.bool on, .bool bad, .int .i64 at_, .slice A len cap] ∧ Sl encWrite w w.heap.size A len l ∧ WriteSWf l ∧ len ≤ cap ∧ cap ≤ maxLen := by
  simp only [Prod.mk.injEq] at ho hg
  obtain ⟨o0, o1, o2, q0, q1, q2⟩ := ho
  obtain ⟨p0, p1, s0, s1⟩ := hg
  obtain ⟨y0, y1, y2, n, hx, _, h0, h1, h2⟩ := trod_struct3 hs hf
  simp only [o0, o1, o2, q0, q1, q2, List.drop_zero, List.take_succ_cons, List.take_zero, List.drop_succ_cons] at h0 h1 h2
  obtain ⟨z0, z1, n', hx', _, h3, h4⟩ := trod_struct2 hw h2
  simp only [p0, p1, s0, s1, List.drop_zero, List.take_succ_cons, List.take_zero, List.drop_succ_cons] at h3 h4
  obtain ⟨on, a0, _⟩ := DataW.trod_bool b0 h0
  obtain ⟨bad, a1, _⟩ := DataW.trod_bool b1 h1
  obtain ⟨at_, a2, _, _⟩ := DataW.trod_int i0 h3
  obtain ⟨A, len, cap, l, rfl, hsl, hwf, hlc, hcm⟩ := open_works sl he hone hCe e0 e1 e2 h4
  simp only [List.cons.injEq, and_true] at a0 a1 a2
  exact ⟨on, bad, at_, A, len, cap, l, by rw [a0, a1, a2], hsl, hwf, hlc, hcm⟩
theorem open_seat {H : Type} {enc : TypeId × Value → H} {P : Program} {w : World} {spare : Nat → Bool} {held : Bool} {r : Reach} {bb : Nat} {t e : TypeId} {f0 f1 f2 g0 g1 k0 k1 k2 : Field} {v : Value} {d : DataW H} {p : List MemPlace}
    (hs : P.underlying t = some (.struct #[f0, f1, f2])) (hC : P.cellsOf t = 4) (ho : (f0.offset, f1.offset, f2.offset, P.cellsOf f0.type, P.cellsOf f1.type, P.cellsOf f2.type) = (0, 1, 2, 1, 1, 2))
    (b0 : P.underlying f0.type = some .bool) (b1 : P.underlying f1.type = some .bool) (hw : P.underlying f2.type = some (.struct #[g0, g1])) (hg : (g0.offset, g1.offset, P.cellsOf g0.type, P.cellsOf g1.type) = (0, 1, 1, 1))
    (i0 : P.underlying g0.type = some (.int .i64)) (sl : P.underlying g1.type = some (.slice e)) (he : P.underlying e = some (.struct #[k0, k1, k2])) (hone : oneCellFields P #[k0, k1, k2] = true) (hCe : P.cellsOf e = 3)
    (e0 : P.underlying k0.type = some .string) (e1 : P.underlying k1.type = some (.int .i64)) (e2 : P.underlying k2.type = some .bool)
    (hv : Value.okWide P w r bb t v) (h : DataW.Trod enc P w 0 spare held t v d p) :
    ∃ on bad at_ A len cap l, v = .agg #[.bool on, .bool bad, .int .i64 at_, .slice A len cap] ∧ Sl encWrite w w.heap.size A len l ∧ WriteSWf l ∧ len ≤ cap ∧ cap ≤ maxLen := by
  obtain ⟨cs, rfl, hsz⟩ := okWide_struct hs hv
  obtain ⟨c0, c1, c2, c3, rfl⟩ := arrayCs4 (hsz.trans hC)
  obtain ⟨fuel, hf⟩ := h
  obtain ⟨on, bad, at_, A, len, cap, l, hcs, h1, h2, h3, h4⟩ := open_seatC hs ho b0 b1 hw hg i0 sl he hone hCe e0 e1 e2 (c0 := c0) (c1 := c1) (c2 := c2) (c3 := c3) (n := fuel) (by simpa [Value.cells] using hf)
  simp only [List.cons.injEq, and_true] at hcs
  obtain ⟨rfl, rfl, rfl, rfl⟩ := hcs
  exact ⟨on, bad, at_, A, len, cap, l, rfl, h1, h2, h3, h4⟩
end Go.Proofs.Ytpmeaikiaoojkaa
