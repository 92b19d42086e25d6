/- The law FnExactTalkSame: the program's TalkSame returns what the reference's returns, for all arguments. No condition beyond what the row reads. -/
import Derived.Test.YtpmeaikiaoojkaaCT1
import Derived.Test.YtpmeaikiaoojkaaE8
import Derived.Test.YtpmeaikiaoojkaaFacts
namespace Go.Proofs.Ytpmeaikiaoojkaa.fnExactTalkSame
open Go.ChangeShapes Go.WideShapes Go.ChangeAt Go.RowKit
open Go.ChangeMaps (open_string shut_string)

theorem own : ownKnob Try.prog.godebug = none := by kernel_rfl
theorem laidOut : laidOutB Try.prog = true := by kernel_rfl

set_option maxHeartbeats 2000000 in
set_option maxRecDepth 100000 in
theorem lifted (os : Os) (started : os.Started) (H : Type) (enc : TypeId × Value → H) :
    ReturnsInHanded {} Try.checked os 10 .any (Rows.fnExactTalkSameSpec.pre6 enc Try.prog Try.f10 Rows.fnExactTalkSameRow.domain false) (Rows.fnExactTalkSameSpec.post enc Try.prog Try.f10 false true false false) := by
  refine returnsInHanded_of_change (C := Try.checked) own started (by kernel_rfl) Try.func10
    (ChangeSpec.witness6 (enc := enc) (C := Try.checked) false ⟨#[], #[.agg #[.bool false, .bool false, .int .i64 0, .slice none 0 0, .slice none 0 0, .bool false, .bool false, .string ByteArray.empty], .agg #[.bool false, .bool false, .int .i64 0, .slice none 0 0, .slice none 0 0, .bool false, .bool false, .string ByteArray.empty]], []⟩ 8 (by kernel_rfl) (by kernel_rfl) (by kernel_rfl) (by kernel_rfl)) ?_
  intro W base args ds gs before hval0 hW hcnd _
  have hval : ∀ (j : Nat) t v, Try.f10.params[j]? = some t → args[j]? = some v → Value.okWide Try.prog W .any base t v := hval0
  have hW' := hW
  obtain ⟨p, q, hA0, hV, rfl, hfz, hnd⟩ := hW
  have hA : DataW.TrodAll enc Try.prog W 0 (fun _ => true) true Try.f10.params.toList args.toList ds p := hA0
  rw [Try.params10] at hA hval
  obtain ⟨v0, vs0, d0, ds0, p0, q0, hargs, rfl, rfl, h0, r0⟩ := trodAll_cons hA
  obtain ⟨v1, vs1, d1, ds1, p1, q1, rfl, rfl, rfl, h1, r1⟩ := trodAll_cons r0
  obtain ⟨rfl, rfl, rfl⟩ := trodAll_nil r1
  obtain rfl : args = #[v0, v1] := by cases args; simp_all
  obtain ⟨rfl, rfl⟩ := trodVars_none hV
  have k0 := h0
  have lt0 : ∀ x ∈ p0, x.block < W.heap.size := by obtain ⟨m, hm⟩ := k0; exact DataW.trod_lt m _ _ _ hm
  have k1 := h1
  have lt1 : ∀ x ∈ p1, x.block < W.heap.size := by obtain ⟨m, hm⟩ := k1; exact DataW.trod_lt m _ _ _ hm
  obtain ⟨on0, bad0, at0, A0, len0, cap0, l0, G0, k_0, dd0, g0, sk0, go0, inn0, rfl, ⟨s0, w0, c0, m0⟩, ⟨t0, u0, x0, y0⟩, z0⟩ := open_talk (hval 0 67 v0 rfl rfl) h0
  obtain ⟨on1, bad1, at1, A1, len1, cap1, l1, G1, k_1, dd1, g1, sk1, go1, inn1, rfl, ⟨s1, w1, c1, m1⟩, ⟨t1, u1, x1, y1⟩, z1⟩ := open_talk (hval 1 67 v1 rfl rfl) h1
  clear hA0 hval0
  refine (lawFnExactTalkSame on0 bad0 at0 A0 len0 cap0 l0 G0 k_0 dd0 g0 sk0 go0 inn0 on1 bad1 at1 A1 len1 cap1 l1 G1 k_1 dd1 g1 sk1 go1 inn1 W s0 w0 (Nat.le_trans c0 m0) t0 u0 (Nat.le_trans x0 y0) z0 s1 w1 (Nat.le_trans c1 m1) t1 u1 (Nat.le_trans x1 y1) z1).mono fun e W' ⟨he, bel⟩ => ?_
  subst he
  exact ⟨_, rfl, _, _, _, [], _, [], hW', trodAll_mk1 (shut_bool Try.underlying4 _), (trodAll_cons_mk (Below.trod laidOut (by kernel_rfl) (of_decide_eq_true (by kernel_rfl)) k0 bel lt0) (trodAll_cons_mk (Below.trod laidOut (by kernel_rfl) (of_decide_eq_true (by kernel_rfl)) k1 bel lt1) trodAll_mk0)), rfl, bel.frame _, fun h => by cases h⟩

set_option maxHeartbeats 4000000 in
theorem facts : joinedFacts Try.prog 10 Try.f10 Rows.fnExactTalkSameSpec Rows.fnExactTalkSameRow = true := by
  unfold joinedFacts
  repeat' with_reducible refine and_mk ?_ ?_
  all_goals (as_aux_lemma => (first | with_reducible exact mayEnter | (rw [liftsFinal]; kernel_rfl) | (rw [makeIs]; kernel_rfl) | kernel_rfl))
theorem over : Rows.fnExactTalkSameRow.holds Try.pinned (OpenSpec.ofChange Rows.fnExactTalkSameSpec) :=
  OpenClaim.holds_of_wide 10 Try.f10 rfl rfl rfl rfl rfl rfl rfl ⟨rfl, rfl, rfl, rfl, rfl⟩ rfl rfl rfl rfl rfl (by kernel_rfl) Try.func10 facts
    (of_decide_eq_true (by kernel_rfl)) (by unfold Func.isWrapper; first | (rw [if_pos (by decide +kernel)]; kernel_rfl) | (rw [if_neg (by decide +kernel)]; exact ⟨rfl, rfl⟩))
    (fun os started H enc _ => lifted os started H enc)

theorem proved : Rows.FnExactTalkSameSaid := over
#print axioms proved
end Go.Proofs.Ytpmeaikiaoojkaa.fnExactTalkSame
