/- Arguments opened: a slice of Ev. -/
import Derived.Test.YtpofgidhhcolfaaE3
import Derived.Test.YtpofgidhhcolfaaH1
namespace Go.Proofs.Ytpofgidhhcolfaa
open Go.ChangeShapes Go.WideShapes Go.Deep Go.ChangeAt Go.RowKit

/-- a slice of Ev -/
theorem open_evs {H : Type} {enc : TypeId × Value → H} {P : Program} {w : World} {spare : Nat → Bool} {held : Bool} {t e : TypeId} {f0 f1 f2 : Field} {fuel : Nat} {v : Value} {x : DataW H × List MemPlace}
    (ht : P.underlying t = some (.slice e)) (he : P.underlying e = some (.struct #[f0, f1, f2])) (hone : oneCellFields P #[f0, f1, f2] = true) (hC : P.cellsOf e = 3)
    (h0 : P.underlying f0.type = some (.int .i64)) (h1 : P.underlying f1.type = some (.int .i64)) (h2 : P.underlying f2.type = some .string)
    (h : DataW.trod enc P w 0 spare held fuel t [v] = some x) :
    ∃ A len cap l, v = .slice A len cap ∧ Sl encEv w w.heap.size A len l ∧ EvSWf l ∧ len ≤ cap ∧ cap ≤ maxLen :=
  open_slG encEv_len (by omega) (Q := EvWf) ht he hone hC rfl (fun c n hc => by
    obtain ⟨y0, t0⟩ := hc 0 f0 rfl
    obtain ⟨y1, t1⟩ := hc 1 f1 rfl
    obtain ⟨y2, t2⟩ := hc 2 f2 rfl
    obtain ⟨q0, e0, _, _⟩ := DataW.trod_int h0 t0
    obtain ⟨q1, e1, _, _⟩ := DataW.trod_int h1 t1
    obtain ⟨s, e2, _, hs⟩ := DataW.trod_string h2 t2
    simp only [List.cons.injEq, and_true] at e0 e1 e2
    refine ⟨(q0, q1, s), hs, fun j u hu => ?_⟩
    match j, hu with
    | 0, hu => simp [encEv] at hu; rw [← hu, e0]
    | 1, hu => simp [encEv] at hu; rw [← hu, e1]
    | 2, hu => simp [encEv] at hu; rw [← hu, e2]
    | j + 3, hu => simp [encEv] at hu) h
end Go.Proofs.Ytpofgidhhcolfaa
