/- Two structs Ask compared by == and !=. -/
import Derived.Test.YtpmeaikiaoojkaaDoorS7
import Derived.Laws.StructEq
namespace Go.Proofs.YtpmeaikiaoojkaaDoor
open Go.RowKit

abbrev Ask := Int × ByteArray × ByteArray × Int
def eqAskB (a b : Ask) : Bool := ((a.1 == b.1) && ((a.2.1.toList == b.2.1.toList) && ((a.2.2.1.toList == b.2.2.1.toList) && (a.2.2.2 == b.2.2.2))))
theorem eqAskB_self (a : Ask) : eqAskB a a = true := by simp [eqAskB]

theorem fieldsAsk : ((Tryd.prog.fieldsOf 26).toList.map fun f => (f.type, f.offset, f.name)) = [(3, 0, "Kind"), (9, 1, "Key"), (9, 2, "Hi"), (3, 3, "Num")] := by kernel_rfl
theorem underAsk : Tryd.prog.underlying 26 = some (.struct (Tryd.prog.fieldsOf 26)) := by kernel_rfl
theorem stoodAsk : Tryd.prog.stoodInHeld 26 = false := by kernel_rfl
theorem guardAsk : Tryd.prog.eqGuardType Tryd.prog.depth 26 = false := by kernel_rfl
theorem equalInAsk (f0 : Int) (f1 : ByteArray) (f2 : ByteArray) (f3 : Int) (g0 : Int) (g1 : ByteArray) (g2 : ByteArray) (g3 : Int) (w : World) : (Op.equalIn 10000 26 (.agg #[.int .i64 f0, .string f1, .string f2, .int .i64 f3]) (.agg #[.int .i64 g0, .string g1, .string g2, .int .i64 g3])).run Tryd.prog w = .ok (eqAskB (f0, f1, f2, f3) (g0, g1, g2, g3)) w := by
  rw [run_equalIn_struct w 9999 26 _ _ underAsk stoodAsk]
  have hf := fieldsAsk
  generalize (Tryd.prog.fieldsOf 26).toList = fs at hf
  match fs, hf with
  | [], hf => simp at hf
  | [_], hf => simp at hf
  | [_, _], hf => simp at hf
  | [_, _, _], hf => simp at hf
  | _ :: _ :: _ :: _ :: _ :: _, hf => simp at hf
  | [z0, z1, z2, z3], hf =>
    simp only [List.map_cons, List.map_nil, List.cons.injEq, Prod.mk.injEq, and_true] at hf
    obtain ⟨⟨t0, o0, n0⟩, ⟨t1, o1, n1⟩, ⟨t2, o2, n2⟩, t3, o3, n3⟩ := hf
    have p0 : ∀ (f0 : Int) (f1 : ByteArray) (f2 : ByteArray) (f3 : Int), (part 3 #[.int .i64 f0, .string f1, .string f2, .int .i64 f3] 0).run Tryd.prog w = .ok (.int .i64 f0) w := by
      intro f0 f1 f2 f3
      simp [part, go_sem]
    have p1 : ∀ (f0 : Int) (f1 : ByteArray) (f2 : ByteArray) (f3 : Int), (part 9 #[.int .i64 f0, .string f1, .string f2, .int .i64 f3] 1).run Tryd.prog w = .ok (.string f1) w := by
      intro f0 f1 f2 f3
      simp [part, go_sem]
    have p2 : ∀ (f0 : Int) (f1 : ByteArray) (f2 : ByteArray) (f3 : Int), (part 9 #[.int .i64 f0, .string f1, .string f2, .int .i64 f3] 2).run Tryd.prog w = .ok (.string f2) w := by
      intro f0 f1 f2 f3
      simp [part, go_sem]
    have p3 : ∀ (f0 : Int) (f1 : ByteArray) (f2 : ByteArray) (f3 : Int), (part 3 #[.int .i64 f0, .string f1, .string f2, .int .i64 f3] 3).run Tryd.prog w = .ok (.int .i64 f3) w := by
      intro f0 f1 f2 f3
      simp [part, go_sem]
    have q0 := run_equalIn_int (P := Tryd.prog) w 9998 3 .i64 .i64 f0 g0 Tryd.underlying3
    have q1 := run_equalIn_string (P := Tryd.prog) w 9998 9 f1 g1 Tryd.underlying9
    have q2 := run_equalIn_string (P := Tryd.prog) w 9998 9 f2 g2 Tryd.underlying9
    have q3 := run_equalIn_int (P := Tryd.prog) w 9998 3 .i64 .i64 f3 g3 Tryd.underlying3
    simp only [Nat.reduceAdd] at q0 q1 q2 q3
    simp only [Op.eqFields, t0, o0, n0, t1, o1, n1, t2, o2, n2, t3, o3, n3, ne_eq, Sem.run_bind, Sem.run_ite, p0, p1, p2, p3, Result.andThen_ok, q0, q1, q2, q3]
    cases h0 : (f0 == g0) <;> cases h1 : (f1.toList == g1.toList) <;> cases h2 : (f2.toList == g2.toList) <;> cases h3 : (f3 == g3)
    all_goals simp [eqAskB, h0, h1, h2, h3, go_sem]
theorem neqAsk (f0 : Int) (f1 : ByteArray) (f2 : ByteArray) (f3 : Int) (g0 : Int) (g1 : ByteArray) (g2 : ByteArray) (g3 : Int) (w : World) : (binOp .neq 26 (.agg #[.int .i64 f0, .string f1, .string f2, .int .i64 f3]) (.agg #[.int .i64 g0, .string g1, .string g2, .int .i64 g3])).run Tryd.prog w = .ok (.bool (!eqAskB (f0, f1, f2, f3) (g0, g1, g2, g3))) w := by
  rw [run_neq_struct, equalInAsk]; rfl
theorem eqlAsk (f0 : Int) (f1 : ByteArray) (f2 : ByteArray) (f3 : Int) (g0 : Int) (g1 : ByteArray) (g2 : ByteArray) (g3 : Int) (w : World) : (binOp .eql 26 (.agg #[.int .i64 f0, .string f1, .string f2, .int .i64 f3]) (.agg #[.int .i64 g0, .string g1, .string g2, .int .i64 g3])).run Tryd.prog w = .ok (.bool (eqAskB (f0, f1, f2, f3) (g0, g1, g2, g3))) w := by
  rw [run_eql_struct, equalInAsk]; rfl
end Go.Proofs.YtpmeaikiaoojkaaDoor
