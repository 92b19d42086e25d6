/- Arguments opened: a slice of Letter. -/
import Derived.Test.YtpmeaikiaoojkaaEG
import Derived.Test.YtpmeaikiaoojkaaL1
namespace Go.Proofs.Ytpmeaikiaoojkaa
open Go.ChangeShapes Go.WideShapes Go.Deep Go.ChangeAt Go.RowKit

/-- a slice of Letter -/
theorem open_letters {H : Type} {enc : TypeId × Value → H} {P : Program} {w : World} {spare : Nat → Bool} {held : Bool} {t e : TypeId} {f0 f1 : Field} {fuel : Nat} {v : Value} {x : DataW H × List MemPlace}
    (ht : P.underlying t = some (.slice e)) (he : P.underlying e = some (.struct #[f0, f1])) (hone : oneCellFields P #[f0, f1] = true) (hC : P.cellsOf e = 2)
    (h0 : P.underlying f0.type = some .string) (h1 : P.underlying f1.type = some .string)
    (h : DataW.trod enc P w 0 spare held fuel t [v] = some x) :
    ∃ A len cap l, v = .slice A len cap ∧ Sl encLetter w w.heap.size A len l ∧ LetterSWf l ∧ len ≤ cap ∧ cap ≤ maxLen :=
  open_slG encLetter_len (by omega) (Q := LetterWf) ht he hone hC rfl (fun c n hc => by
    obtain ⟨y0, t0⟩ := hc 0 f0 rfl
    obtain ⟨y1, t1⟩ := hc 1 f1 rfl
    obtain ⟨s, e0, _, hs⟩ := DataW.trod_string h0 t0
    obtain ⟨q, e1, _, hq⟩ := DataW.trod_string h1 t1
    simp only [List.cons.injEq, and_true] at e0 e1
    refine ⟨(s, q), ⟨hs, hq⟩, fun j u hu => ?_⟩
    match j, hu with
    | 0, hu => simp [encLetter] at hu; rw [← hu, e0]
    | 1, hu => simp [encLetter] at hu; rw [← hu, e1]
    | j + 2, hu => simp [encLetter] at hu) h
end Go.Proofs.Ytpmeaikiaoojkaa
