/- Two Named compared by == and !=; the field Ask is a struct of its own. -/
import Derived.Test.YtpmeaikiaoojkaaN1
import Derived.Laws.StructEq
namespace Go.Proofs.Ytpmeaikiaoojkaa
open Go.RowKit

theorem fieldsAsk : ((Try.prog.fieldsOf 62).toList.map fun f => (f.type, f.offset, f.name)) = [(3, 0, "Kind"), (9, 1, "Key"), (9, 2, "Hi"), (3, 3, "Num")] := by kernel_rfl
theorem fieldsNamed : ((Try.prog.fieldsOf 64).toList.map fun f => (f.type, f.offset, f.name)) = [(9, 0, "Name"), (62, 1, "Ask")] := by kernel_rfl
theorem underAsk : Try.prog.underlying 62 = some (.struct (Try.prog.fieldsOf 62)) := by kernel_rfl
theorem underNamed : Try.prog.underlying 64 = some (.struct (Try.prog.fieldsOf 64)) := by kernel_rfl
theorem stoodAsk : Try.prog.stoodInHeld 62 = false := by kernel_rfl
theorem stoodNamed : Try.prog.stoodInHeld 64 = false := by kernel_rfl
theorem guardNamed : Try.prog.eqGuardType Try.prog.depth 64 = false := by kernel_rfl
theorem infoAsk : (Try.prog.info? 62).map (fun i => i.size) = some 4 := by kernel_rfl
theorem equalInAsk (f1 : Int) (f2 f3 : ByteArray) (f4 : Int) (g1 : Int) (g2 g3 : ByteArray) (g4 : Int) (w : World) : (Op.equalIn 9999 62 (.agg #[.int .i64 f1, .string f2, .string f3, .int .i64 f4]) (.agg #[.int .i64 g1, .string g2, .string g3, .int .i64 g4])).run Try.prog w = .ok (eqAskB (f1, f2, f3, f4) (g1, g2, g3, g4)) w := by
  rw [run_equalIn_struct w 9998 62 _ _ underAsk stoodAsk]
  have hf := fieldsAsk
  generalize (Try.prog.fieldsOf 62).toList = fs at hf
  match fs, hf with
  | [], hf => simp at hf
  | [_], hf => simp at hf
  | [_, _], hf => simp at hf
  | [_, _, _], hf => simp at hf
  | _ :: _ :: _ :: _ :: _ :: _, hf => simp at hf
  | [z0, z1, z2, z3], hf =>
    simp only [List.map_cons, List.map_nil, List.cons.injEq, Prod.mk.injEq, and_true] at hf
    obtain ⟨⟨t0, o0, n0⟩, ⟨t1, o1, n1⟩, ⟨t2, o2, n2⟩, t3, o3, n3⟩ := hf
    have p0 : ∀ f1 f2 f3 f4, (part 3 #[.int .i64 f1, .string f2, .string f3, .int .i64 f4] 0).run Try.prog w = .ok (.int .i64 f1) w := by
      intro f1 f2 f3 f4
      simp [part, go_sem]
    have p1 : ∀ f1 f2 f3 f4, (part 9 #[.int .i64 f1, .string f2, .string f3, .int .i64 f4] 1).run Try.prog w = .ok (.string f2) w := by
      intro f1 f2 f3 f4
      simp [part, go_sem]
    have p2 : ∀ f1 f2 f3 f4, (part 9 #[.int .i64 f1, .string f2, .string f3, .int .i64 f4] 2).run Try.prog w = .ok (.string f3) w := by
      intro f1 f2 f3 f4
      simp [part, go_sem]
    have p3 : ∀ f1 f2 f3 f4, (part 3 #[.int .i64 f1, .string f2, .string f3, .int .i64 f4] 3).run Try.prog w = .ok (.int .i64 f4) w := by
      intro f1 f2 f3 f4
      simp [part, go_sem]
    have q0 := run_equalIn_int (P := Try.prog) w 9997 3 .i64 .i64 f1 g1 Try.underlying3
    have q1 := run_equalIn_string (P := Try.prog) w 9997 9 f2 g2 Try.underlying9
    have q2 := run_equalIn_string (P := Try.prog) w 9997 9 f3 g3 Try.underlying9
    have q3 := run_equalIn_int (P := Try.prog) w 9997 3 .i64 .i64 f4 g4 Try.underlying3
    simp only [Nat.reduceAdd] at q0 q1 q2 q3
    simp only [Op.eqFields, t0, o0, n0, t1, o1, n1, t2, o2, n2, t3, o3, n3, ne_eq, Sem.run_bind, Sem.run_ite, p0, p1, p2, p3, Result.andThen_ok, q0, q1, q2, q3]
    cases h0 : (f1 == g1) <;> cases h1 : (f2.toList == g2.toList) <;> cases h2 : (f3.toList == g3.toList) <;> cases h3 : (f4 == g4)
    all_goals simp [eqAskB, h0, h1, h2, h3, go_sem]
theorem partAsk (f0 : ByteArray) (f1 : Int) (f2 f3 : ByteArray) (f4 : Int) (w : World) : (part 62 #[.string f0, .int .i64 f1, .string f2, .string f3, .int .i64 f4] 1).run Try.prog w = .ok (.agg #[.int .i64 f1, .string f2, .string f3, .int .i64 f4]) w := by
  simp [part, isAgg, sizeOf, go_sem]
  rfl
theorem equalInNamed (f0 : ByteArray) (f1 : Int) (f2 f3 : ByteArray) (f4 : Int) (g0 : ByteArray) (g1 : Int) (g2 g3 : ByteArray) (g4 : Int) (w : World) : (Op.equalIn 10000 64 (.agg #[.string f0, .int .i64 f1, .string f2, .string f3, .int .i64 f4]) (.agg #[.string g0, .int .i64 g1, .string g2, .string g3, .int .i64 g4])).run Try.prog w = .ok (eqNamedB (f0, f1, f2, f3, f4) (g0, g1, g2, g3, g4)) w := by
  rw [run_equalIn_struct w 9999 64 _ _ underNamed stoodNamed]
  have hf := fieldsNamed
  generalize (Try.prog.fieldsOf 64).toList = fs at hf
  match fs, hf with
  | [], hf => simp at hf
  | [_], hf => simp at hf
  | _ :: _ :: _ :: _, hf => simp at hf
  | [z0, z1], hf =>
    simp only [List.map_cons, List.map_nil, List.cons.injEq, Prod.mk.injEq, and_true] at hf
    obtain ⟨⟨t0, o0, n0⟩, t1, o1, n1⟩ := hf
    have p0 : ∀ f0 f1 f2 f3 f4, (part 9 #[.string f0, .int .i64 f1, .string f2, .string f3, .int .i64 f4] 0).run Try.prog w = .ok (.string f0) w := by
      intro f0 f1 f2 f3 f4
      simp [part, go_sem]
    have p1 := fun f0 f1 f2 f3 f4 => partAsk f0 f1 f2 f3 f4 w
    have q0 := run_equalIn_string (P := Try.prog) w 9998 9 f0 g0 Try.underlying9
    have q1 := equalInAsk f1 f2 f3 f4 g1 g2 g3 g4 w
    simp only [Nat.reduceAdd] at q0 q1
    simp only [Op.eqFields, t0, o0, n0, t1, o1, n1, ne_eq, Sem.run_bind, Sem.run_ite, p0, p1, Result.andThen_ok, q0, q1]
    have hu : eqNamedB (f0, f1, f2, f3, f4) (g0, g1, g2, g3, g4) = ((f0.toList == g0.toList) && eqAskB (f1, f2, f3, f4) (g1, g2, g3, g4)) := rfl
    rw [hu]
    cases h0 : (f0.toList == g0.toList) <;> cases h1 : eqAskB (f1, f2, f3, f4) (g1, g2, g3, g4)
    all_goals simp [go_sem]
theorem neqNamed (f0 : ByteArray) (f1 : Int) (f2 f3 : ByteArray) (f4 : Int) (g0 : ByteArray) (g1 : Int) (g2 g3 : ByteArray) (g4 : Int) (w : World) : (binOp .neq 64 (.agg #[.string f0, .int .i64 f1, .string f2, .string f3, .int .i64 f4]) (.agg #[.string g0, .int .i64 g1, .string g2, .string g3, .int .i64 g4])).run Try.prog w = .ok (.bool (!eqNamedB (f0, f1, f2, f3, f4) (g0, g1, g2, g3, g4))) w := by
  rw [run_neq_struct, equalInNamed]; rfl
end Go.Proofs.Ytpmeaikiaoojkaa
