/- Contracts: strconv.Itoa as it is laid here; AskText of the program. -/
import Derived.Test.YtpmeaikiaoojkaaDoorT2
import Derived.Test.YtpmeaikiaoojkaaDoorShA
import Derived.Lib.LaidTab
namespace Go.Proofs.YtpmeaikiaoojkaaDoor
open Go.RowKit

/-- the table of powers of ten, as it is laid -/
def Pow10 (W : World) : Prop := Lib.TabIs Tryd.prog W "internal/strconv.uint64pow10" .u64 Lib.pow10Tab
theorem Pow10.on {W W' : World} (h : Pow10 W) (hb : Below W.heap.size W W') : Pow10 W' := by
  unfold Pow10 Lib.TabIs World.var? at *
  have hg : Tryd.prog.globalNamed "internal/strconv.uint64pow10" = some 1 := by kernel_rfl
  rw [hg] at h ⊢
  simp only [Option.bind_some] at h ⊢
  have hlt : 1 < W.heap.size := by
    cases hh : W.heap[1]? with
    | none => rw [hh] at h; cases h
    | some o => exact (Array.getElem?_eq_some_iff.1 hh).1
  rw [hb.block 1 hlt]; exact h
theorem below_grow (w : World) (k : Nat) (os : Array Obj) : Below w.heap.size w (Sort.grow (w.drewN k) os) :=
  ⟨rfl, rfl, rfl, by show w.heap.size ≤ (w.heap ++ os).size; simp, fun i hi => by show (w.heap ++ os)[i]? = w.heap[i]?; exact Array.getElem?_append_left hi⟩
theorem itoa (n : Int) (w : World) (h0 : -9223372036854775808 ≤ n) (h1 : n ≤ 9223372036854775807) (ht : Pow10 w) :
    Calls Tryd.prog 25 #[.int .i64 n] w fun e w' => e = .returned (.string (dec n)) ∧ Below w.heap.size w w' := by
  refine (Tryd.strconv_Itoa n h0 h1 w ht).mono ?_
  rintro e w' ⟨rfl, k, os, rfl⟩
  exact ⟨rfl, below_grow w k os⟩
set_option maxHeartbeats 4000000 in
set_option maxRecDepth 100000 in
theorem implAskText (k : Int) (key hi : ByteArray) (num : Int) (w : World) (hF : FormsW w) (hP : Pow10 w) (hk1 : key.size ≤ maxLen) (hk2 : hi.size ≤ maxLen) :
    Calls Tryd.prog 12 #[.agg #[.int .i64 k, .string key, .string hi, .int .i64 num]] w fun e w' => e = .returned (.string (askText k key hi num)) ∧ Below w.heap.size w w' := by
  have b0 := bel_alloc (Below.refl _ w) (.cells #[.int .i64 k, .string key, .string hi, .int .i64 num] 26)
  have x0 := BoxC.new w 26 #[.int .i64 k, .string key, .string hi, .int .i64 num]
  have C0 := Lib.hid (implAskOk k key hi num _ (hF.on b0) hk1 hk2)
  clear hk1 hk2
  cases hok : askOk k key hi num
  · rw [askText_bad hok]
    rw [hok] at C0
    clear hok
    go_enter Tryd.func12, Tryd.ntmps12
    go_wp2_with fail
    refine C0.out.mono ?_
    rintro e w1 ⟨rfl, hb1⟩
    go_wp2
    go_ret
    exact ⟨rfl, bel_trans b0 hb1⟩
  · obtain ⟨j, a, b, c, rfl, hj, hs, z1, z2, n0, n1⟩ := askOk_facts hok
    rw [askText_ok hok hs]
    have z0 := word_size hj
    have z3 := dec_size n0 n1
    have C3 := Lib.hid (fun W (hW : Pow10 W) => itoa num W (by omega) (by omega) hW)
    have HT := Lib.hid (show catT j key hi num a b c = addS c (addS b (addS a (word j) key) hi) (dec num) from rfl)
    have HPW := Lib.hid hP
    have FA := Lib.hid (fun W (hW : FormsW W) => formsAt hW hj)
    rw [hs] at FA
    rw [hok] at C0
    clear hok hs
    generalize hwj : word j = wj at *
    generalize hdn : dec num = dn at *
    clear hwj hdn
    have i0 : (0 : Int) ≤ (j : Int) := by omega
    have i1 : (j : Int) < 9 := by omega
    go_enter Tryd.func12, Tryd.ntmps12
    go_wp2_with fail
    refine C0.out.mono ?_
    rintro e w1 ⟨rfl, hb1⟩
    have b1 := bel_trans b0 hb1
    have x1 := x0.on hb1
    obtain ⟨d0, d1, d2, d3⟩ := FA.out w1 (hF.on b1)
    have c10 := x1.c (k := 0) rfl
    have c11 := x1.c (k := 1) rfl
    have c12 := x1.c (k := 2) rfl
    have c13 := x1.c (k := 3) rfl
    have hlt := x1.lt
    have b2 := bel_alloc b1 (.cells #[.string wj, .bool a, .bool b, .bool c] 42)
    have P2 := Lib.hid (HPW.out.on b2)
    clear hF hP
    cases a <;> cases b <;> cases c
    all_goals
      go_wp2_with fail
    all_goals first
      | (go_ret
         exact ⟨congrArg (fun s => Ending.returned (.string s)) (by rw [HT.out]; simp [addS, sp, ByteArray.append_assoc]), b2⟩)
      | (refine (C3.out _ P2.out).mono ?_
         rintro e w3 ⟨rfl, hb3⟩
         go_wp2
         go_ret
         exact ⟨congrArg (fun s => Ending.returned (.string s)) (by rw [HT.out]; simp [addS, sp, ByteArray.append_assoc]), bel_trans b2 hb3⟩)
end Go.Proofs.YtpmeaikiaoojkaaDoor
