/- Arguments and listed variables opened: a request; the forms of the statements. -/
import Derived.Test.YtpmeaikiaoojkaaDoorA3
import Derived.ProofKit
import Derived.LaidMore
import Derived.OpenShut
import Derived.OpenVars
import Derived.Lay
import Derived.Stop.Joined
import Derived.Lib.SmallJoins
import Derived.Lib.LaidU8
namespace Go.Proofs.YtpmeaikiaoojkaaDoor
open Go.ChangeShapes Go.WideShapes Go.Deep Go.ChangeAt Go.RowKit

/-- a request, by value -/
theorem open_ask {H : Type} {enc : TypeId × Value → H} {P : Program} {w : World} {spare : Nat → Bool} {held : Bool} {r : Reach} {bb : Nat} {t : TypeId} {f0 f1 f2 f3 : Field} {v : Value} {d : DataW H} {p : List MemPlace}
    (hs : P.underlying t = some (.struct #[f0, f1, f2, f3])) (hC : P.cellsOf t = 4) (ho : (f0.offset, f1.offset, f2.offset, f3.offset) = (0, 1, 2, 3)) (hc : (P.cellsOf f0.type, P.cellsOf f1.type, P.cellsOf f2.type, P.cellsOf f3.type) = (1, 1, 1, 1))
    (i0 : P.underlying f0.type = some (.int .i64)) (i1 : P.underlying f1.type = some .string) (i2 : P.underlying f2.type = some .string) (i3 : P.underlying f3.type = some (.int .i64))
    (hv : Value.okWide P w r bb t v) (h : DataW.Trod enc P w 0 spare held t v d p) :
    ∃ (k : Int) (key hi : ByteArray) (num : Int), v = .agg #[.int .i64 k, .string key, .string hi, .int .i64 num] ∧ key.size ≤ maxLen ∧ hi.size ≤ maxLen ∧ (-9223372036854775808 ≤ num ∧ num ≤ 9223372036854775807) := by
  simp only [Prod.mk.injEq] at ho hc
  obtain ⟨o0, o1, o2, o3⟩ := ho
  obtain ⟨q0, q1, q2, q3⟩ := hc
  obtain ⟨cs, rfl, hsz⟩ := okWide_struct hs hv
  obtain ⟨c0, c1, c2, c3, rfl⟩ := Joins.array4 (hsz.trans hC)
  obtain ⟨fuel, hf⟩ := h
  obtain ⟨y0, y1, y2, y3, n, -, -, h0, h1, h2, h3⟩ := Joins.trod_struct4 hs hf
  simp only [Value.cells, o0, o1, o2, o3, q0, q1, q2, q3, List.drop_zero, List.take_succ_cons, List.take_zero, List.drop_succ_cons] at h0 h1 h2 h3
  obtain ⟨k, a0, _, _⟩ := DataW.trod_int i0 h0
  obtain ⟨key, a1, _, hk⟩ := DataW.trod_string i1 h1
  obtain ⟨hi, a2, _, hh⟩ := DataW.trod_string i2 h2
  obtain ⟨num, a3, _, hn⟩ := DataW.trod_int i3 h3
  simp only [List.cons.injEq, and_true] at a0 a1 a2 a3
  refine ⟨k, key, hi, num, by rw [a0, a1, a2, a3], hk, hh, ?_⟩
  simpa [Lit.wf, IntKind.min, IntKind.max, IntKind.signed, IntKind.bits] using hn

/-- one form, read -/
theorem form_of_trod {H : Type} {enc : TypeId × Value → H} {P : Program} {w : World} {spare : Nat → Bool} {held : Bool} {t : TypeId} {f0 f1 f2 f3 : Field} {n : Nat} {cs : List Value} {p : List MemPlace} {l : List UInt8} {a b c : Bool}
    (hs : P.underlying t = some (.struct #[f0, f1, f2, f3])) (ho : (f0.offset, f1.offset, f2.offset, f3.offset) = (0, 1, 2, 3)) (hc : (P.cellsOf f0.type, P.cellsOf f1.type, P.cellsOf f2.type, P.cellsOf f3.type) = (1, 1, 1, 1)) (hC : P.cellsOf t = 4)
    (i0 : P.underlying f0.type = some .string) (i1 : P.underlying f1.type = some .bool) (i2 : P.underlying f2.type = some .bool) (i3 : P.underlying f3.type = some .bool)
    (h : DataW.trod enc P w 0 spare held n t cs = some (.agg [.lit (.string l), .lit (.bool a), .lit (.bool b), .lit (.bool c)], p)) : cs = [.string ⟨l.toArray⟩, .bool a, .bool b, .bool c] := by
  simp only [Prod.mk.injEq] at ho hc
  obtain ⟨o0, o1, o2, o3⟩ := ho
  obtain ⟨q0, q1, q2, q3⟩ := hc
  obtain ⟨y0, y1, y2, y3, m, hx, hl, h0, h1, h2, h3⟩ := Joins.trod_struct4 hs h
  rw [hC] at hl
  match cs, hl with
  | [c0, c1, c2, c3], _ =>
    simp only [o0, o1, o2, o3, q0, q1, q2, q3, List.drop_zero, List.take_succ_cons, List.take_zero, List.drop_succ_cons] at h0 h1 h2 h3
    obtain ⟨s, a0, e0, _⟩ := DataW.trod_string i0 h0
    obtain ⟨x1, a1, e1⟩ := DataW.trod_bool i1 h1
    obtain ⟨x2, a2, e2⟩ := DataW.trod_bool i2 h2
    obtain ⟨x3, a3, e3⟩ := DataW.trod_bool i3 h3
    simp only [List.cons.injEq, and_true] at a0 a1 a2 a3
    subst e0 e1 e2 e3
    simp only [Prod.mk.injEq, DataW.agg.injEq, List.cons.injEq, DataW.lit.injEq, Lit.string.injEq, Lit.bool.injEq, and_true] at hx
    obtain ⟨⟨hs1, rfl, rfl, rfl⟩, -⟩ := hx
    subst hs1
    rw [a0, a1, a2, a3]
theorem chunk (l : List Value) (i : Nat) : l.drop (i * 4) = (l.drop (i * 4)).take 4 ++ l.drop ((i + 1) * 4) := by
  rw [show (i + 1) * 4 = i * 4 + 4 by omega, ← List.drop_drop, List.take_append_drop]
theorem forms_of_reads {W : World} (h : Lib.VarReads Tryd.prog W "loop.example/engrosser/impl.askForms" Rows.laid_loop_example_engrosser_impl_askForms) : FormsW W := by
  obtain ⟨g, t, cs, fuel, p, hg, ht, hv, hd⟩ := h
  obtain rfl := Option.some.inj ((show Tryd.prog.globalNamed "loop.example/engrosser/impl.askForms" = some 0 by kernel_rfl).symm.trans hg)
  obtain rfl := Option.some.inj ((show (Tryd.prog.globals[0]?).map (·.type) = some 43 by kernel_rfl).symm.trans ht)
  obtain ⟨xs, m, rfl, hx, hlen, hn, hel⟩ := DataW.trod_array Tryd.underlying43 hd
  have c42 : Tryd.prog.cellsOf 42 = 4 := by kernel_rfl
  have c43 : Tryd.prog.cellsOf 43 = 36 := by kernel_rfl
  rw [c42] at hel
  rw [c43] at hlen
  simp only [Prod.mk.injEq] at hx
  obtain ⟨hx, -⟩ := hx
  unfold Rows.laid_loop_example_engrosser_impl_askForms at hx
  have hcs : cs.toList = formCells := by
    match xs, hn with
    | [x0, x1, x2, x3, x4, x5, x6, x7, x8], _ =>
      simp only [DataW.agg.injEq, List.map_cons, List.map_nil, List.cons.injEq, and_true] at hx
      obtain ⟨e0, e1, e2, e3, e4, e5, e6, e7, e8⟩ := hx
      have g : ∀ (i : Nat) (y : DataW Unit × List MemPlace) (l : List UInt8) (a b c : Bool), i < 9 → [x0, x1, x2, x3, x4, x5, x6, x7, x8][i]? = some y → .agg [.lit (.string l), .lit (.bool a), .lit (.bool b), .lit (.bool c)] = y.1 → (cs.toList.drop (i * 4)).take 4 = [.string ⟨l.toArray⟩, .bool a, .bool b, .bool c] := by
        intro i y l a b c hi hy he
        have h1 := hel i hi
        rw [hy] at h1
        obtain ⟨y1, y2⟩ := y
        simp only at he
        subst he
        exact form_of_trod Tryd.underlying42 rfl (by kernel_rfl) c42 Tryd.underlying9 Tryd.underlying4 Tryd.underlying4 Tryd.underlying4 h1
      have r0 := g 0 x0 _ _ _ _ (by omega) rfl e0
      have r1 := g 1 x1 _ _ _ _ (by omega) rfl e1
      have r2 := g 2 x2 _ _ _ _ (by omega) rfl e2
      have r3 := g 3 x3 _ _ _ _ (by omega) rfl e3
      have r4 := g 4 x4 _ _ _ _ (by omega) rfl e4
      have r5 := g 5 x5 _ _ _ _ (by omega) rfl e5
      have r6 := g 6 x6 _ _ _ _ (by omega) rfl e6
      have r7 := g 7 x7 _ _ _ _ (by omega) rfl e7
      have r8 := g 8 x8 _ _ _ _ (by omega) rfl e8
      have h9 : cs.toList.drop ((8 + 1) * 4) = [] := List.drop_of_length_le (by omega)
      have h0 : cs.toList = cs.toList.drop (0 * 4) := by simp
      rw [h0, chunk _ 0, chunk _ 1, chunk _ 2, chunk _ 3, chunk _ 4, chunk _ 5, chunk _ 6, chunk _ 7, chunk _ 8, h9, r0, r1, r2, r3, r4, r5, r6, r7, r8]
      rfl
  intro j u hu
  rw [← hcs] at hu
  rw [World.var?_cell hg hv j]
  simpa using hu
end Go.Proofs.YtpmeaikiaoojkaaDoor
