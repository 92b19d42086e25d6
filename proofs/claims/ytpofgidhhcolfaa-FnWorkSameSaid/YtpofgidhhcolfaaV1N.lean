/- Two structs Ver compared by == and !=. -/
import Derived.Test.YtpofgidhhcolfaaV1
import Derived.Laws.StructEq
namespace Go.Proofs.Ytpofgidhhcolfaa
open Go.RowKit

theorem fieldsVer : ((Try.prog.fieldsOf 77).toList.map fun f => (f.type, f.offset, f.name)) = [(9, 0, "Key"), (3, 1, "Num"), (3, 2, "From"), (3, 3, "To")] := by kernel_rfl
theorem underVer : Try.prog.underlying 77 = some (.struct (Try.prog.fieldsOf 77)) := by kernel_rfl
theorem stoodVer : Try.prog.stoodInHeld 77 = false := by kernel_rfl
theorem guardVer : Try.prog.eqGuardType Try.prog.depth 77 = false := by kernel_rfl
theorem equalInVer (f0 : ByteArray) (f1 : Int) (f2 : Int) (f3 : Int) (g0 : ByteArray) (g1 : Int) (g2 : Int) (g3 : Int) (w : World) : (Op.equalIn 10000 77 (.agg #[.string f0, .int .i64 f1, .int .i64 f2, .int .i64 f3]) (.agg #[.string g0, .int .i64 g1, .int .i64 g2, .int .i64 g3])).run Try.prog w = .ok (eqVerB (f0, f1, f2, f3) (g0, g1, g2, g3)) w := by
  rw [run_equalIn_struct w 9999 77 _ _ underVer stoodVer]
  have hf := fieldsVer
  generalize (Try.prog.fieldsOf 77).toList = fs at hf
  match fs, hf with
  | [], hf => simp at hf
  | [_], hf => simp at hf
  | [_, _], hf => simp at hf
  | [_, _, _], hf => simp at hf
  | _ :: _ :: _ :: _ :: _ :: _, hf => simp at hf
  | [z0, z1, z2, z3], hf =>
    simp only [List.map_cons, List.map_nil, List.cons.injEq, Prod.mk.injEq, and_true] at hf
    obtain ⟨⟨t0, o0, n0⟩, ⟨t1, o1, n1⟩, ⟨t2, o2, n2⟩, t3, o3, n3⟩ := hf
    have p0 : ∀ (f0 : ByteArray) (f1 : Int) (f2 : Int) (f3 : Int), (part 9 #[.string f0, .int .i64 f1, .int .i64 f2, .int .i64 f3] 0).run Try.prog w = .ok (.string f0) w := by
      intro f0 f1 f2 f3
      simp [part, go_sem]
    have p1 : ∀ (f0 : ByteArray) (f1 : Int) (f2 : Int) (f3 : Int), (part 3 #[.string f0, .int .i64 f1, .int .i64 f2, .int .i64 f3] 1).run Try.prog w = .ok (.int .i64 f1) w := by
      intro f0 f1 f2 f3
      simp [part, go_sem]
    have p2 : ∀ (f0 : ByteArray) (f1 : Int) (f2 : Int) (f3 : Int), (part 3 #[.string f0, .int .i64 f1, .int .i64 f2, .int .i64 f3] 2).run Try.prog w = .ok (.int .i64 f2) w := by
      intro f0 f1 f2 f3
      simp [part, go_sem]
    have p3 : ∀ (f0 : ByteArray) (f1 : Int) (f2 : Int) (f3 : Int), (part 3 #[.string f0, .int .i64 f1, .int .i64 f2, .int .i64 f3] 3).run Try.prog w = .ok (.int .i64 f3) w := by
      intro f0 f1 f2 f3
      simp [part, go_sem]
    have q0 := run_equalIn_string (P := Try.prog) w 9998 9 f0 g0 Try.underlying9
    have q1 := run_equalIn_int (P := Try.prog) w 9998 3 .i64 .i64 f1 g1 Try.underlying3
    have q2 := run_equalIn_int (P := Try.prog) w 9998 3 .i64 .i64 f2 g2 Try.underlying3
    have q3 := run_equalIn_int (P := Try.prog) w 9998 3 .i64 .i64 f3 g3 Try.underlying3
    simp only [Nat.reduceAdd] at q0 q1 q2 q3
    simp only [Op.eqFields, t0, o0, n0, t1, o1, n1, t2, o2, n2, t3, o3, n3, ne_eq, Sem.run_bind, Sem.run_ite, p0, p1, p2, p3, Result.andThen_ok, q0, q1, q2, q3]
    cases h0 : (f0.toList == g0.toList) <;> cases h1 : (f1 == g1) <;> cases h2 : (f2 == g2) <;> cases h3 : (f3 == g3)
    all_goals simp [eqVerB, h0, h1, h2, h3, go_sem]
theorem neqVer (f0 : ByteArray) (f1 : Int) (f2 : Int) (f3 : Int) (g0 : ByteArray) (g1 : Int) (g2 : Int) (g3 : Int) (w : World) : (binOp .neq 77 (.agg #[.string f0, .int .i64 f1, .int .i64 f2, .int .i64 f3]) (.agg #[.string g0, .int .i64 g1, .int .i64 g2, .int .i64 g3])).run Try.prog w = .ok (.bool (!eqVerB (f0, f1, f2, f3) (g0, g1, g2, g3))) w := by
  rw [run_neq_struct, equalInVer]; rfl
theorem eqlVer (f0 : ByteArray) (f1 : Int) (f2 : Int) (f3 : Int) (g0 : ByteArray) (g1 : Int) (g2 : Int) (g3 : Int) (w : World) : (binOp .eql 77 (.agg #[.string f0, .int .i64 f1, .int .i64 f2, .int .i64 f3]) (.agg #[.string g0, .int .i64 g1, .int .i64 g2, .int .i64 g3])).run Try.prog w = .ok (.bool (eqVerB (f0, f1, f2, f3) (g0, g1, g2, g3))) w := by
  rw [run_eql_struct, equalInVer]; rfl
end Go.Proofs.Ytpofgidhhcolfaa
