/- The laws' own wpRows and wpTexts. -/
import Derived.Test.YtpofgidhhcolfaaD4
namespace Go.Proofs.Ytpofgidhhcolfaa
open Go.RowKit

theorem fields46 : ((Try.prog.fieldsOf 117).toList.map fun f => (f.type, f.offset, f.name)) = [(9, 0, "Key"), (3, 1, "Num")] := by kernel_rfl
theorem under46 : Try.prog.underlying 117 = some (.struct (Try.prog.fieldsOf 117)) := by kernel_rfl
theorem stood46 : Try.prog.stoodInHeld 117 = false := by kernel_rfl
theorem guard46 : Try.prog.eqGuardType Try.prog.depth 117 = false := by kernel_rfl
theorem neq46 (k1 k2 : ByteArray) (n1 n2 : Int) (w : World) : (binOp .neq 117 (.agg #[.string k1, .int .i64 n1]) (.agg #[.string k2, .int .i64 n2])).run Try.prog w = .ok (.bool (!eqR (k1, n1) (k2, n2))) w := by
  rw [run_neq_struct, run_equalIn_struct w 9999 117 _ _ under46 stood46]
  have hf := fields46
  generalize (Try.prog.fieldsOf 117).toList = fs at hf
  match fs, hf with
  | [], hf => simp at hf
  | [_], hf => simp at hf
  | _ :: _ :: _ :: _, hf => simp at hf
  | [f0, f1], hf =>
    simp only [List.map_cons, List.map_nil, List.cons.injEq, Prod.mk.injEq, and_true] at hf
    obtain ⟨⟨h1, h2, h3⟩, h4, h5, h6⟩ := hf
    have p0 : ∀ (s : ByteArray) (n : Int), (part 9 #[.string s, .int .i64 n] 0).run Try.prog w = .ok (.string s) w := by
      intro s n
      simp [part, go_sem]
    have p1 : ∀ (s : ByteArray) (n : Int), (part 3 #[.string s, .int .i64 n] 1).run Try.prog w = .ok (.int .i64 n) w := by
      intro s n
      simp [part, go_sem]
    simp only [Op.eqFields, h1, h2, h3, h4, h5, h6, ne_eq, Sem.run_bind, Sem.run_ite, p0, p1, Result.andThen_ok]
    rw [run_equalIn_string w _ 9 _ _ Try.underlying9]
    simp only [Result.andThen_ok]
    cases hk : (k1.toList == k2.toList)
    · simp [eqR, hk, go_sem]
    · have h7 := run_equalIn_int (P := Try.prog) w 9998 3 .i64 .i64 n1 n2 Try.underlying3
      by_cases e : n1 = n2 <;> simp [eqR, hk, go_sem, h7, e]
set_option maxHeartbeats 1000000 in
theorem wpRows (A B : Option Addr) (n m c d : Nat) (l p : List Row) (w : World) (hr : Sl encRow w w.heap.size A n l) (hs : Sl encRow w w.heap.size B m p) (hn : n ≤ 1048576) :
    Calls Try.prog 64 #[.slice A n c, .slice B m d] w fun e w' => e = .returned (.bool (rowsEq l p)) ∧ Below w.heap.size w w' := by
  have HL := Lib.hid hr.len
  have HP := Lib.hid hs.len
  by_cases hnm : n = m
  · subst hnm
    have hne : ((n : Int) != (n : Int)) = false := by simp
    go_enter Try.func64, Try.ntmps64
    go_wp2
    go_loopw [5] (fun i wr => ∃ k : Nat, k ≤ n ∧ i = .int .i64 k ∧ EqTo l p k ∧ Below w.heap.size w wr) (fun i _ => n - (intOf i).toNat)
    case atStart => exact ⟨0, by omega, rfl, EqTo.zero l p, Below.refl _ _⟩
    case round =>
      obtain ⟨k, hkn, rfl, heq, hbel⟩ := hrel
      by_cases hlt : k < n
      · obtain ⟨b, off, rfl, hb⟩ := hr.spot (by omega)
        obtain ⟨b2, off2, rfl, hb2⟩ := hs.spot (by omega)
        obtain ⟨key, num, hrow, hk1, hk2⟩ := rowAt (hr.keep hbel) hlt
        obtain ⟨key2, num2, hrow2, hk3, hk4⟩ := rowAt (hs.keep hbel) hlt
        have HR := Lib.hid hrow
        have HR2 := Lib.hid hrow2
        clear hrow hrow2
        have i0 : (0 : Int) ≤ (k : Int) := by omega
        have i1 : (k : Int) < (n : Int) := by omega
        cases he : eqR (key, num) (key2, num2)
        all_goals
          have HE := Lib.hid he
          have hv : (!((key.toList == key2.toList) && (num == num2))) = !eqR (key, num) (key2, num2) := rfl
          rw [he] at hv
          go_wp2_with fail
          have g1 := neq46 key key2 num num2
          have g2 := guard46
          rw [he] at g1
          go_quiet (fail)
          go_wp2
        · go_ret
          exact ⟨retBool (rowsEq_at HR.out HR2.out HE.out).symm, bel_drewN hbel _⟩
        · go_roundw
          case rel => exact ⟨k + 1, by omega, by go_num, heq.step HR.out HR2.out HE.out, bel_drewN hbel _⟩
          case measure => simp [intOf]; omega
      · go_wp2
        go_ret
        exact ⟨retBool (heq.all (by rw [HL.out]; omega) (by rw [HP.out]; omega)).symm, hbel⟩
  · have hf : rowsEq l p = false := rowsEq_len (by rw [HL.out, HP.out]; exact hnm)
    have HF := Lib.hid hf
    clear hf
    have hne : ((n : Int) != (m : Int)) = true := by simp; omega
    clear hnm
    go_enter Try.func64, Try.ntmps64
    go_wp2
    go_ret
    exact ⟨retBool HF.out.symm, Below.refl _ _⟩
end Go.Proofs.Ytpofgidhhcolfaa
