/- The law FnExactSeatSame: the program's SeatSame returns what the reference's returns, for all arguments. No condition beyond what the row reads. -/
import Derived.Test.YtpmeaikiaoojkaaCS1
import Derived.Test.YtpmeaikiaoojkaaS2
import Derived.Test.YtpmeaikiaoojkaaFacts
namespace Go.Proofs.Ytpmeaikiaoojkaa.fnExactSeatSame
open Go.ChangeShapes Go.WideShapes Go.ChangeAt Go.RowKit
open Go.ChangeMaps (open_string shut_string)

theorem own : ownKnob Try.prog.godebug = none := by kernel_rfl
theorem laidOut : laidOutB Try.prog = true := by kernel_rfl

set_option maxHeartbeats 2000000 in
set_option maxRecDepth 100000 in
theorem lifted (os : Os) (started : os.Started) (H : Type) (enc : TypeId × Value → H) :
    ReturnsInHanded {} Try.checked os 8 .any (Rows.fnExactSeatSameSpec.pre6 enc Try.prog Try.f8 Rows.fnExactSeatSameRow.domain false) (Rows.fnExactSeatSameSpec.post enc Try.prog Try.f8 false true false false) := by
  refine returnsInHanded_of_change (C := Try.checked) own started (by kernel_rfl) Try.func8
    (ChangeSpec.witness6 (enc := enc) (C := Try.checked) false ⟨#[], #[.agg #[.bool false, .bool false, .int .i64 0, .slice none 0 0], .agg #[.bool false, .bool false, .int .i64 0, .slice none 0 0]], []⟩ 8 (by kernel_rfl) (by kernel_rfl) (by kernel_rfl) (by kernel_rfl)) ?_
  intro W base args ds gs before hval0 hW hcnd _
  have hval : ∀ (j : Nat) t v, Try.f8.params[j]? = some t → args[j]? = some v → Value.okWide Try.prog W .any base t v := hval0
  have hW' := hW
  obtain ⟨p, q, hA0, hV, rfl, hfz, hnd⟩ := hW
  have hA : DataW.TrodAll enc Try.prog W 0 (fun _ => true) true Try.f8.params.toList args.toList ds p := hA0
  rw [Try.params8] at hA hval
  obtain ⟨v0, vs0, d0, ds0, p0, q0, hargs, rfl, rfl, h0, r0⟩ := trodAll_cons hA
  obtain ⟨v1, vs1, d1, ds1, p1, q1, rfl, rfl, rfl, h1, r1⟩ := trodAll_cons r0
  obtain ⟨rfl, rfl, rfl⟩ := trodAll_nil r1
  obtain rfl : args = #[v0, v1] := by cases args; simp_all
  obtain ⟨rfl, rfl⟩ := trodVars_none hV
  have k0 := h0
  have lt0 : ∀ x ∈ p0, x.block < W.heap.size := by obtain ⟨m, hm⟩ := k0; exact DataW.trod_lt m _ _ _ hm
  have k1 := h1
  have lt1 : ∀ x ∈ p1, x.block < W.heap.size := by obtain ⟨m, hm⟩ := k1; exact DataW.trod_lt m _ _ _ hm
  obtain ⟨on0, bad0, at0, A0, len0, cap0, l0, rfl, s0, w0, c0, m0⟩ := open_seat Try.underlying45 (by kernel_rfl) (by kernel_rfl) Try.underlying4 Try.underlying4 Try.underlying43 (by kernel_rfl) Try.underlying3 Try.underlying41 Try.underlying141 (by kernel_rfl) (by kernel_rfl) Try.underlying9 Try.underlying3 Try.underlying4 (hval 0 45 v0 rfl rfl) h0
  obtain ⟨on1, bad1, at1, A1, len1, cap1, l1, rfl, s1, w1, c1, m1⟩ := open_seat Try.underlying45 (by kernel_rfl) (by kernel_rfl) Try.underlying4 Try.underlying4 Try.underlying43 (by kernel_rfl) Try.underlying3 Try.underlying41 Try.underlying141 (by kernel_rfl) (by kernel_rfl) Try.underlying9 Try.underlying3 Try.underlying4 (hval 1 45 v1 rfl rfl) h1
  clear hA0 hval0
  refine (lawFnExactSeatSame on0 bad0 at0 A0 len0 cap0 l0 on1 bad1 at1 A1 len1 cap1 l1 W s0 w0 (Nat.le_trans c0 m0) s1 w1 (Nat.le_trans c1 m1)).mono fun e W' ⟨he, bel⟩ => ?_
  subst he
  exact ⟨_, rfl, _, _, _, [], _, [], hW', trodAll_mk1 (shut_bool Try.underlying4 _), (trodAll_cons_mk (Below.trod laidOut (by kernel_rfl) (of_decide_eq_true (by kernel_rfl)) k0 bel lt0) (trodAll_cons_mk (Below.trod laidOut (by kernel_rfl) (of_decide_eq_true (by kernel_rfl)) k1 bel lt1) trodAll_mk0)), rfl, bel.frame _, fun h => by cases h⟩

set_option maxHeartbeats 4000000 in
theorem facts : joinedFacts Try.prog 8 Try.f8 Rows.fnExactSeatSameSpec Rows.fnExactSeatSameRow = true := by
  unfold joinedFacts
  repeat' with_reducible refine and_mk ?_ ?_
  all_goals (as_aux_lemma => (first | with_reducible exact mayEnter | (rw [liftsFinal]; kernel_rfl) | (rw [makeIs]; kernel_rfl) | kernel_rfl))
theorem over : Rows.fnExactSeatSameRow.holds Try.pinned (OpenSpec.ofChange Rows.fnExactSeatSameSpec) :=
  OpenClaim.holds_of_wide 8 Try.f8 rfl rfl rfl rfl rfl rfl rfl ⟨rfl, rfl, rfl, rfl, rfl⟩ rfl rfl rfl rfl rfl (by kernel_rfl) Try.func8 facts
    (of_decide_eq_true (by kernel_rfl)) (by unfold Func.isWrapper; first | (rw [if_pos (by decide +kernel)]; kernel_rfl) | (rw [if_neg (by decide +kernel)]; exact ⟨rfl, rfl⟩))
    (fun os started H enc _ => lifted os started H enc)

theorem proved : Rows.FnExactSeatSameSaid := over
#print axioms proved
end Go.Proofs.Ytpmeaikiaoojkaa.fnExactSeatSame
