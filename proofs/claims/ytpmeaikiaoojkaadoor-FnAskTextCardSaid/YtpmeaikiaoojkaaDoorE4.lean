/- Arguments opened: a slice of bytes reads as a list of bytes. -/
import Derived.Test.YtpmeaikiaoojkaaDoorEG
import Derived.Test.YtpmeaikiaoojkaaDoorD1

namespace Go.Proofs.YtpmeaikiaoojkaaDoor
open Go.ChangeShapes Go.WideShapes Go.Deep Go.ChangeAt Go.RowKit

theorem open_bytes {H : Type} {enc : TypeId × Value → H} {P : Program} {w : World} {spare : Nat → Bool} {held : Bool} {t e : TypeId} {fuel : Nat} {a0 : Option Addr} {len cap : Nat} {x : DataW H × List MemPlace}
    (ht : P.underlying t = some (.slice e)) (he : P.underlying e = some (.int .u8)) (hC : P.cellsOf e = 1) (h : DataW.trod enc P w 0 spare held fuel t (Value.slice a0 len cap).cells.toList = some x) :
    ∃ l, Sl encB w w.heap.size a0 len l ∧ len ≤ cap ∧ cap ≤ maxLen := by
  have hcs0 : (Value.slice a0 len cap).cells.toList = [.slice a0 len cap] := rfl
  rw [hcs0] at h
  rcases open_slice ht h with ⟨hcs, _⟩ | ⟨a, len', cap', m, n, D, Pl, hcs, hb, hl, hm, hmm, hx, hi⟩
  · simp only [List.cons.injEq, Value.slice.injEq, and_true] at hcs
    obtain ⟨rfl, rfl, rfl⟩ := hcs
    exact ⟨[], Sl.nil _ _ _ _, by omega, by simp [maxLen]⟩
  · simp only [List.cons.injEq, Value.slice.injEq, and_true] at hcs
    obtain ⟨rfl, rfl, rfl⟩ := hcs
    have hlm : len ≤ m := by rw [hmm]; split <;> omega
    by_cases hz : len = 0
    · subst hz
      exact ⟨[], Sl.nil _ _ _ _, hl, hm⟩
    · have cell : ∀ i, i < len → ∃ v : UInt8, w.cell? (a.add (i * 1)) = some (.int .u8 (v.toNat : Int)) := by
        intro i hlt
        obtain ⟨cs', hc, ht'⟩ := hi i (by omega)
        rw [hC] at hc
        obtain ⟨_, hcl, hat⟩ := World.cells?_some hc
        obtain ⟨q, e1, _, hq⟩ := DataW.trod_int he ht'
        have := hat 0 (by omega)
        simp only [e1] at this
        refine ⟨UInt8.ofNat q.toNat, ?_⟩
        rw [Go.Deep.add_add, Nat.add_zero] at this
        rw [this]
        have hq2 : 0 ≤ q ∧ q ≤ 255 := bounds_u8 hq
        have h3 : ((UInt8.ofNat q.toNat).toNat : Int) = q := by rw [UInt8.toNat_ofNat_of_lt' (by simp [UInt8.size]; omega)]; omega
        rw [h3]; rfl
      obtain ⟨b, off, spot⟩ := a
      obtain ⟨s0, c00⟩ := cell 0 (by omega)
      have hspot : spot = none := by simpa [Addr.add] using World.cell?_spot c00
      subst hspot
      have hadd : ∀ k, (⟨b, off, none⟩ : Addr).add k = ⟨b, off + k, none⟩ := fun k => by unfold Addr.add; split <;> simp_all
      have hbb : b < w.heap.size := by
        have := World.block_lt_of_cell? w _ c00
        rw [hadd] at this
        exact this
      obtain ⟨l, hl1, -⟩ := sl_build (enc := encB) encB_len (by omega) (Q := fun _ : UInt8 => True) (w := w) (B := w.heap.size) (b := b) (off := off) (n := len) hbb (by
        intro i hlt
        obtain ⟨q, c0⟩ := cell i hlt
        rw [hadd] at c0
        refine ⟨q, trivial, fun j u hu => ?_⟩
        match j, hu with
        | 0, hu => simp [encB] at hu; subst hu; exact c0
        | j + 1, hu => simp [encB] at hu)
      exact ⟨l, hl1, hl, hm⟩
end Go.Proofs.YtpmeaikiaoojkaaDoor
