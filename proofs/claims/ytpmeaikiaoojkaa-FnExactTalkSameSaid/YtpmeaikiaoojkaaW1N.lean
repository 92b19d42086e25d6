/- Two structs Write compared by == and !=. -/
import Derived.Test.YtpmeaikiaoojkaaW1
import Derived.Laws.StructEq
namespace Go.Proofs.Ytpmeaikiaoojkaa
open Go.RowKit

theorem fieldsWrite : ((Try.prog.fieldsOf 113).toList.map fun f => (f.type, f.offset, f.name)) = [(9, 0, "Key"), (3, 1, "Num"), (4, 2, "Gone")] := by kernel_rfl
theorem underWrite : Try.prog.underlying 113 = some (.struct (Try.prog.fieldsOf 113)) := by kernel_rfl
theorem stoodWrite : Try.prog.stoodInHeld 113 = false := by kernel_rfl
theorem guardWrite : Try.prog.eqGuardType Try.prog.depth 113 = false := by kernel_rfl
theorem equalInWrite (f0 : ByteArray) (f1 : Int) (f2 : Bool) (g0 : ByteArray) (g1 : Int) (g2 : Bool) (w : World) : (Op.equalIn 10000 113 (.agg #[.string f0, .int .i64 f1, .bool f2]) (.agg #[.string g0, .int .i64 g1, .bool g2])).run Try.prog w = .ok (eqWriteB (f0, f1, f2) (g0, g1, g2)) w := by
  rw [run_equalIn_struct w 9999 113 _ _ underWrite stoodWrite]
  have hf := fieldsWrite
  generalize (Try.prog.fieldsOf 113).toList = fs at hf
  match fs, hf with
  | [], hf => simp at hf
  | [_], hf => simp at hf
  | [_, _], hf => simp at hf
  | _ :: _ :: _ :: _ :: _, hf => simp at hf
  | [z0, z1, z2], hf =>
    simp only [List.map_cons, List.map_nil, List.cons.injEq, Prod.mk.injEq, and_true] at hf
    obtain ⟨⟨t0, o0, n0⟩, ⟨t1, o1, n1⟩, t2, o2, n2⟩ := hf
    have p0 : ∀ (f0 : ByteArray) (f1 : Int) (f2 : Bool), (part 9 #[.string f0, .int .i64 f1, .bool f2] 0).run Try.prog w = .ok (.string f0) w := by
      intro f0 f1 f2
      simp [part, go_sem]
    have p1 : ∀ (f0 : ByteArray) (f1 : Int) (f2 : Bool), (part 3 #[.string f0, .int .i64 f1, .bool f2] 1).run Try.prog w = .ok (.int .i64 f1) w := by
      intro f0 f1 f2
      simp [part, go_sem]
    have p2 : ∀ (f0 : ByteArray) (f1 : Int) (f2 : Bool), (part 4 #[.string f0, .int .i64 f1, .bool f2] 2).run Try.prog w = .ok (.bool f2) w := by
      intro f0 f1 f2
      simp [part, go_sem]
    have q0 := run_equalIn_string (P := Try.prog) w 9998 9 f0 g0 Try.underlying9
    have q1 := run_equalIn_int (P := Try.prog) w 9998 3 .i64 .i64 f1 g1 Try.underlying3
    have q2 := run_equalIn_bool' (P := Try.prog) w 9998 4 f2 g2 Try.underlying4
    simp only [Nat.reduceAdd] at q0 q1 q2
    simp only [Op.eqFields, t0, o0, n0, t1, o1, n1, t2, o2, n2, ne_eq, Sem.run_bind, Sem.run_ite, p0, p1, p2, Result.andThen_ok, q0, q1, q2]
    cases h0 : (f0.toList == g0.toList) <;> cases h1 : (f1 == g1) <;> cases h2 : (f2 == g2)
    all_goals simp [eqWriteB, h0, h1, h2, go_sem]
theorem neqWrite (f0 : ByteArray) (f1 : Int) (f2 : Bool) (g0 : ByteArray) (g1 : Int) (g2 : Bool) (w : World) : (binOp .neq 113 (.agg #[.string f0, .int .i64 f1, .bool f2]) (.agg #[.string g0, .int .i64 g1, .bool g2])).run Try.prog w = .ok (.bool (!eqWriteB (f0, f1, f2) (g0, g1, g2))) w := by
  rw [run_neq_struct, equalInWrite]; rfl
theorem eqlWrite (f0 : ByteArray) (f1 : Int) (f2 : Bool) (g0 : ByteArray) (g1 : Int) (g2 : Bool) (w : World) : (binOp .eql 113 (.agg #[.string f0, .int .i64 f1, .bool f2]) (.agg #[.string g0, .int .i64 g1, .bool g2])).run Try.prog w = .ok (.bool (eqWriteB (f0, f1, f2) (g0, g1, g2))) w := by
  rw [run_eql_struct, equalInWrite]; rfl
end Go.Proofs.Ytpmeaikiaoojkaa
