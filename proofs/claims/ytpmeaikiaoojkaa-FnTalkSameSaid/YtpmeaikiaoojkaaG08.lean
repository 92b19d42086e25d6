/- FnTalkSame: contracts of what it reaches (Z8 Z16 QS4 QS5). No condition. -/
import Derived.Test.YtpmeaikiaoojkaaG07
namespace Go.Proofs.Ytpmeaikiaoojkaa
open Go.RowKit

theorem inRes_sub {l : List Row} {lo hi : ByteArray} : ∀ r ∈ inRes l lo hi, r ∈ l := by
  intro r hr
  unfold inRes at hr
  split at hr
  · exact (List.mem_filter.1 hr).1
  · cases hr
theorem inRes_len {l : List Row} {lo hi : ByteArray} : (inRes l lo hi).length ≤ l.length := by
  unfold inRes
  split
  · exact List.length_filter_le _ _
  · simp
theorem Own.lit1 {α : Type} {enc : α → List Value} {sz : Nat} {e : TypeId} {base : Nat} (w : World) (cs : Array Value) (x : α) (h : base ≤ w.heap.size) (hs : cs.toList = enc x) (hz : cs.size = sz) : Own enc sz e (w.alloc (.cells cs e)) base (.slice (some ⟨w.heap.size, 0, none⟩) 1 1) [x] := by
  have := World.ownsRow_lit (base := base) (e := e) (size := sz) w cs 1 h (by simp [maxLen]) (by omega)
  unfold Own
  rw [cellsOf_one, ← hs]; exact this
def ToldPost (w : World) (e : Ending) (w' : World) : Prop :=
  ∃ (A : Option Addr) (c : Nat) (l : List Row) (code : Int), e = .returned (.tuple #[.slice A l.length c, .int .i64 code]) ∧ Own encRow 2 133 w' w.heap.size (.slice A l.length c) l ∧ (∀ r ∈ l, r.1.size ≤ 3) ∧ l.length ≤ 1000 ∧ (0 ≤ code ∧ code ≤ 6) ∧ Below w.heap.size w w'
set_option maxHeartbeats 4000000 in
set_option maxRecDepth 100000 in
theorem l4Told (A : Option Addr) (n c : Nat) (l : List Row) (k : Int) (key hi : ByteArray) (num : Int) (w : World) (hr : Sl encRow w w.heap.size A n l) (hsm : ∀ r ∈ l, r.1.size ≤ 3) (hn : n ≤ 1000) (hk : key.size ≤ 3) :
    Calls Try.prog 133 #[.slice A n c, .agg #[.int .i64 k, .string key, .string hi, .int .i64 num]] w (ToldPost w) := by
  have HR := Lib.hid hr; have HN := Lib.hid hn; have HKY := Lib.hid hk; have HSM := Lib.hid hsm; have HL : Hid (l.length ≤ 1000) := Lib.hid (by rw [hr.len]; exact hn); have HW : Hid (KeysWf l) := Lib.hid fun r hr => by have := hsm r hr; unfold maxLen; omega
  clear hr hsm hn hk; have x1 := (BoxC.new w 62 #[.int .i64 k, .string key, .string hi, .int .i64 num]); have b0 := bel_alloc (Below.refl _ w) (.cells #[.int .i64 k, .string key, .string hi, .int .i64 num] 62); obtain ⟨y0, y1, y2⟩ := x1.k3
  by_cases k2 : k = 2
  · subst k2; go_enter Try.func133, Try.ntmps133; go_wp2_with fail; refine (specRowsIn A n c l key hi _ (HR.out.on b0) HW.out (by have := HN.out; omega)).mono ?_; rintro e w1 ⟨v1, rfl, o1, hb1⟩; obtain ⟨A1, c1, rfl, -, -⟩ := o1.form; go_wp2_with fail
    go_ret2
    exact ⟨_, _, _, _, rfl, o1.lower b0.size, fun r hr => HSM.out r (inRes_sub r hr), by have := HL.out; have := inRes_len (l := l) (lo := key) (hi := hi); omega, by omega, bel_trans b0 hb1⟩
  have g2 : (k == 2) = false := by simp [k2]
  by_cases k3 : k = 3
  · subst k3; have CI := Lib.hid (fun W (h : Below w.heap.size w W) => specRowsIn A n c l key hi W (HR.out.on h) HW.out (by have := HN.out; omega)); go_enter Try.func133, Try.ntmps133; go_wp2_with fail; generalize w.alloc (.cells #[.int .i64 3, .string key, .string hi, .int .i64 num] 62) = w0 at *
    go_region_with (first
      | (go_at_call 139; refine (CI.out _ b0.drew).mono ?_; rintro e w1 ⟨v1, rfl, o1, hb1⟩; obtain ⟨A1, c1, rfl, -, -⟩ := o1.form; have b1 := bel_trans b0.drew hb1; have t1 := (x1.drew).on hb1; obtain ⟨q0, q1, q2⟩ := t1.k3)
      | (go_at_call 140; refine (specRowsSum A1 (inRes l key hi).length c1 (inRes l key hi) _ o1.sl (fun r hr => HW.out r (inRes_sub r hr)) (by have := HL.out; have := inRes_len (l := l) (lo := key) (hi := hi); omega)).mono ?_; rintro e w2 ⟨rfl, hb2⟩; have b2 := bel_trans b1 hb2; have t2 := t1.on hb2; obtain ⟨r0, r1, r2⟩ := t2.k3))
    all_goals
      have S1 := Lib.hid (Own.lit1 (enc := encRow) (sz := 2) (e := 133) (base := w.heap.size) w2 #[.string key, .int .i64 (sumOut (inRes l key hi))] (key, sumOut (inRes l key hi)) b2.size rfl rfl); have B1 := Lib.hid (bel_alloc b2 (.cells #[.string key, .int .i64 (sumOut (inRes l key hi))] 133)); clear b0 b1 b2 t1 t2 x1 o1 hb1 hb2; go_wp2
      go_ret2
      exact ⟨_, _, [_], _, rfl, S1.out, fun r h => by rw [List.mem_singleton.1 h]; exact HKY.out, by simp, by omega, B1.out⟩
  have g3 : (k == 3) = false := by simp [k3]
  go_enter Try.func133, Try.ntmps133; go_wp2_with fail; generalize w.alloc (.cells #[.int .i64 k, .string key, .string hi, .int .i64 num] 62) = w0 at *; refine (specRowsGet A n c l key w0 (HR.out.on b0) HW.out (by have := HN.out; omega)).mono ?_; rintro e w1 ⟨rfl, hb1⟩; obtain ⟨v, hv⟩ : ∃ v, getNum l key = v := ⟨_, rfl⟩; obtain ⟨ok, hok⟩ : ∃ b, getHas l key = b := ⟨_, rfl⟩; rw [hv, hok]; clear hv hok; replace x1 := x1.on hb1; have b1 := bel_trans b0 hb1; clear y0 y1 y2 b0 hb1; have y1 := x1.c (k := 1) rfl; cases ok
  · go_wp2_with fail
    go_ret2
    exact ⟨_, _, [], _, rfl, Own.made0 _ b1.size, fun r h => by (cases h; done), by simp, by omega, bel_alloc b1 _⟩
  · have S1 := Lib.hid (Own.lit1 (enc := encRow) (sz := 2) (e := 133) (base := w.heap.size) w1 #[.string key, .int .i64 v] (key, v) b1.size rfl rfl); have B1 := Lib.hid (bel_alloc b1 (.cells #[.string key, .int .i64 v] 133)); go_wp2_with fail
    go_ret2
    exact ⟨_, _, [_], _, rfl, S1.out, fun r h => by rw [List.mem_singleton.1 h]; exact HKY.out, by simp, by omega, B1.out⟩
end Go.Proofs.Ytpmeaikiaoojkaa
namespace Go.Proofs.Ytpmeaikiaoojkaa
open Go.RowKit

theorem encLetter_one : ∀ x, ∀ u ∈ encLetter x, u.oneCell' = true := by
  intro x u hu; simp only [encLetter, List.mem_cons, List.not_mem_nil, or_false] at hu
  rcases hu with rfl | rfl <;> rfl
/-- a letter -/
def LetPost (w : World) (e : Ending) (w' : World) : Prop := ∃ a b : ByteArray, e = .returned (.agg #[.string a, .string b]) ∧ Below w.heap.size w w'
set_option maxHeartbeats 2000000 in
theorem l6Ready (on bad : Bool) (at_ : Int) (B : Option Addr) (m d : Nat) (C : Option Addr) (q e : Nat) (sk gone : Bool) (inn : ByteArray) (w : World) :
    Calls Try.prog 114 #[.agg #[.bool on, .bool bad, .int .i64 at_, .slice B m d, .slice C q e, .bool sk, .bool gone, .string inn]] w (LetPost w) := by
  obtain ⟨w0, hw0, x0, x1, b⟩ := hd2 w 57 #[.bool on, .bool bad, .int .i64 at_, .slice B m d, .slice C q e, .bool sk, .bool gone, .string inn] 27 #[.string ⟨#[]⟩, .string ⟨#[]⟩]; replace qx0 := x0.k8; replace qx1 := x1.k2; go_enter Try.func114, Try.ntmps114; go_upto_region 1 with fail; (try rw [hw0]); clear hw0; clear qx0 qx1; replace qx0 := x0.k8; replace qx1 := x1.k2; have fxx1_0 := x1.f 0; have fxx1_1 := x1.f 1; have B1 := Lib.hid (fun (a c : Value) => Turn.bel b (((Turn.refl (some ⟨w.heap.size + 1, 0, none⟩) w0).set 0 a).set 1 c) (fun z hz => by cases hz; simp only; omega))
  rcases on with _ | _ <;> rcases bad with _ | _
  · go_wp2
    exact bodyPost_ret (v := .agg #[.string ⟨#[90]⟩, .string ⟨#[105]⟩]) (by simp [results, Try.results114, go_sem, qx1]) rfl ⟨_, _, rfl, B1.out _ _⟩
  · go_wp2
    exact bodyPost_ret (v := .agg #[.string ⟨#[90]⟩, .string ⟨#[101]⟩]) (by simp [results, Try.results114, go_sem, qx1]) rfl ⟨_, _, rfl, B1.out _ _⟩
  · go_wp2
    exact bodyPost_ret (v := .agg #[.string ⟨#[90]⟩, .string ⟨#[116]⟩]) (by simp [results, Try.results114, go_sem, qx1]) rfl ⟨_, _, rfl, B1.out _ _⟩
  · go_wp2
    exact bodyPost_ret (v := .agg #[.string ⟨#[90]⟩, .string ⟨#[101]⟩]) (by simp [results, Try.results114, go_sem, qx1]) rfl ⟨_, _, rfl, B1.out _ _⟩
/-- one who is gone, and the last letter -/
def LeavePost (w : World) (e : Ending) (w' : World) : Prop := ∃ a b : ByteArray, e = .returned (.tuple #[.agg #[.bool false, .bool false, .int .i64 0, .slice none 0 0, .slice none 0 0, .bool false, .bool true, .string ⟨#[]⟩], .agg #[.string a, .string b]]) ∧ Below w.heap.size w w'
set_option maxHeartbeats 2000000 in
theorem l6Leave (w : World) : Calls Try.prog 121 #[] w (LeavePost w) := by
  obtain ⟨w0, hw0, x0, x1, b⟩ := hd2 w 57 #[.bool false, .bool false, .int .i64 0, .slice none 0 0, .slice none 0 0, .bool false, .bool false, .string ⟨#[]⟩] 27 #[.string ⟨#[]⟩, .string ⟨#[]⟩]; replace qx0 := x0.k8; replace qx1 := x1.k2; go_enter Try.func121, Try.ntmps121; go_upto_region 1 with fail; (try rw [hw0]); clear hw0; clear qx0 qx1; replace qx0 := x0.k8; replace qx1 := x1.k2; have fxx0_0 := x0.f 0; have fxx0_1 := x0.f 1; have fxx0_2 := x0.f 2; have fxx0_3 := x0.f 3; have fxx0_4 := x0.f 4; have fxx0_5 := x0.f 5; have fxx0_6 := x0.f 6; have fxx0_7 := x0.f 7; have fxx1_0 := x1.f 0; have fxx1_1 := x1.f 1; have t0 := turnB8 w0 w.heap.size (.bool false) (.bool false) (.int .i64 0) (.slice none 0 0) (.slice none 0 0) (.bool false) (.bool true) (.string ⟨#[]⟩); have b0 := Turn.bel b t0 (fun z hz => by cases hz; simp only; omega); have BB := Lib.hid (Turn.bel b0 (turnB2 _ (w.heap.size + 1) (.string ⟨#[66]⟩) (.string ⟨#[]⟩)) (fun z hz => by cases hz; simp only; omega)); clear t0 b0 b; go_wp2
  exact bodyPost_ret (v := .tuple #[.agg #[.bool false, .bool false, .int .i64 0, .slice none 0 0, .slice none 0 0, .bool false, .bool true, .string ⟨#[]⟩], .agg #[.string ⟨#[66]⟩, .string ⟨#[]⟩]]) (by simp [results, Try.results121, go_sem, qx0, qx1]) rfl ⟨_, _, rfl, BB.out⟩
/-- what may be asked by a name, if anything -/
def FindPost (w : World) (e : Ending) (w' : World) : Prop := ∃ (k : Int) (key hi : ByteArray) (num : Int) (ok : Bool), e = .returned (.tuple #[.agg #[.int .i64 k, .string key, .string hi, .int .i64 num], .bool ok]) ∧ (key.size ≤ 3 ∧ hi.size ≤ 3) ∧ Below w.heap.size w w'
set_option maxHeartbeats 4000000 in
set_option maxRecDepth 100000 in
theorem l6Find (A : Option Addr) (n c : Nat) (l : List Named) (key : ByteArray) (w : World) (hs : Sl encNamed w w.heap.size A n l) (hk : SmallN l) (hn : n ≤ 100) :
    Calls Try.prog 119 #[.slice A n c, .string key] w (FindPost w) := by
  have HS := Lib.hid hs; have HK := Lib.hid hk; have HN := Lib.hid hn; clear hs hk hn; have x0 := BoxC.new w 62 #[.int .i64 0, .string ⟨#[]⟩, .string ⟨#[]⟩, .int .i64 0]; have b := bel_alloc (Below.refl _ w) (.cells #[.int .i64 0, .string ⟨#[]⟩, .string ⟨#[]⟩, .int .i64 0] 62); go_enter Try.func119, Try.ntmps119; go_wp2_with fail; generalize w.alloc (.cells #[.int .i64 0, .string ⟨#[]⟩, .string ⟨#[]⟩, .int .i64 0] 62) = w0 at *
  go_loopw [6] (fun v6 wr => ∃ i : Nat, i ≤ n ∧ v6 = .int .i64 (i : Int) ∧ BoxC wr w.heap.size 62 #[.int .i64 0, .string ⟨#[]⟩, .string ⟨#[]⟩, .int .i64 0] ∧ Below w.heap.size w wr) (fun v6 _ => n - (intOf v6).toNat)
  case atStart => exact ⟨0, by omega, rfl, x0, b⟩
  case round =>
    clear x0 b; obtain ⟨i, hin, rfl, x, hb⟩ := hrel; have hnB : (n : Int) ≤ 100 := by have := HN.out; omega
    obtain ⟨q0, q1, q2, q3⟩ := x.k4; have z0 := x.f 0; have z1 := x.f 1; have z2 := x.f 2; have z3 := x.f 3
    by_cases hlt : i < n
    · have hlt' : (i : Int) < (n : Int) := by omega
      have j0 : (0 : Int) ≤ (i : Int) := by omega
      obtain ⟨d, off, rfl, hbb⟩ := HS.out.spot (by omega); obtain ⟨f0, f1, f2, f3, f4, hx, e0, e1, e2, e3, e4⟩ := atNamed (HS.out.keep hb) hlt; have hf3 := Lib.hid (HK.out.mem hx); clear hx; obtain ⟨eq, he⟩ : ∃ eq, (f0.toList == key.toList) = eq := ⟨_, rfl⟩; cases eq
      · go_wp2_with fail; go_roundw
        case rel => exact ⟨i + 1, by omega, by go_num, x, hb⟩
        case measure => simp [intOf]; omega
      · have B1 := Lib.hid (bel_set4 hb (B := w.heap.size) (Nat.le_refl _) (.int .i64 f1) (.string f2) (.string f3) (.int .i64 f4)); clear hb x; go_wp2_with fail; exact bodyPost_ret (v := .tuple #[.agg #[.int .i64 f1, .string f2, .string f3, .int .i64 f4], .bool true]) (by simp [results, Try.results119, go_sem, q0, q1, q2, q3]) rfl ⟨_, _, _, _, _, rfl, ⟨hf3.out.2.1, hf3.out.2.2⟩, B1.out⟩
    · obtain rfl : i = n := by omega
      have hlt' : ¬ (i : Int) < (i : Int) := by omega
      have B1 := Lib.hid (bel_set4 hb (B := w.heap.size) (Nat.le_refl _) (.int .i64 0) (.string ⟨#[]⟩) (.string ⟨#[]⟩) (.int .i64 0)); clear hb x; go_wp2_with fail; exact bodyPost_ret (v := .tuple #[.agg #[.int .i64 0, .string ⟨#[]⟩, .string ⟨#[]⟩, .int .i64 0], .bool false]) (by simp [results, Try.results119, go_sem, q0, q1, q2, q3]) rfl ⟨_, _, _, _, _, rfl, ⟨by decide, by decide⟩, B1.out⟩
/-- letters of one's own -/
def LettersPost (w : World) (k : Nat) (e : Ending) (w' : World) : Prop := ∃ (D : Option Addr) (r : Nat) (ls : List Letter), e = .returned (.slice D ls.length r) ∧ Own encLetter 2 27 w' w.heap.size (.slice D ls.length r) ls ∧ ls.length ≤ k ∧ Below w.heap.size w w'
def DoneRel (w : World) (n : Nat) (v5 v6 : Value) (wr : World) : Prop := ∃ (i : Nat) (D : Option Addr) (r : Nat) (ls : List Letter), i ≤ n ∧ v6 = .int .i64 (i : Int) ∧ v5 = .slice D ls.length r ∧ Own encLetter 2 27 wr w.heap.size (.slice D ls.length r) ls ∧ ls.length ≤ i ∧ Below w.heap.size w wr
set_option maxHeartbeats 8000000 in
set_option maxRecDepth 100000 in
theorem l6Done (A : Option Addr) (n c : Nat) (l : List Row) (code : Int) (w : World) (hs : Sl encRow w w.heap.size A n l) (hsm : ∀ r ∈ l, r.1.size ≤ 3) (hn : n ≤ 1000) (hc : 0 ≤ code ∧ code ≤ 6) :
    Calls Try.prog 118 #[.slice A n c, .int .i64 code] w (LettersPost w (n + 1)) := by
  obtain ⟨i0, hi0, hz0, hz1, hz2⟩ := info_parts info27; have HS := Lib.hid hs; have HSM := Lib.hid hsm; have HN := Lib.hid hn; have HC := Lib.hid hc; clear hs hsm hn hc; have o := Own.made0 (enc := encLetter) (sz := 2) (e := 27) (base := w.heap.size) w (Nat.le_refl _); have b := bel_alloc (Below.refl _ w) (.cells #[] 27); have hbz := b.size
  by_cases k0 : code = 0
  · subst k0; go_enter Try.func118, Try.ntmps118; go_wp2_with fail; generalize w.alloc (.cells #[] 27) = w0 at *
    go_loopw [5, 6] (DoneRel w n) (fun _ v6 _ => n - (intOf v6).toNat)
    case atStart => exact ⟨0, _, _, [], by omega, rfl, rfl, o, by simp, b⟩
    case round =>
      clear o b hbz; obtain ⟨i, D, r, ls, hin, rfl, rfl, o, hls, b⟩ := hrel; have hnB : (n : Int) ≤ 1000 := by have := HN.out; omega
      by_cases hlt : i < n
      · have hlt' : (i : Int) < (n : Int) := by omega
        have j0 : (0 : Int) ≤ (i : Int) := by omega
        obtain ⟨d, off, rfl, hbb⟩ := HS.out.spot (by omega); obtain ⟨f0, f1, hx, e0w, e1w⟩ := rowAt HS.out hlt; have hf3 : f0.size ≤ 3 := HSM.out _ (List.mem_of_getElem? hx); have hcat : ¬ 9223372036854775807 < f0.size + 1 := by omega
        clear hx; replace e0w := Lib.hid e0w; replace e1w := Lib.hid e1w; have e0 := (b.cell (p := ⟨d, off + i * 2, none⟩) hbb).trans e0w.out; have e1 := (b.cell (p := ⟨d, off + i * 2 + 1, none⟩) hbb).trans e1w.out; go_wp2_with fail; replace e0 : wr.cell? ⟨d, off + i * 2, none⟩ = some (.string f0) := (b.cell (p := ⟨d, off + i * 2, none⟩) hbb).trans e0w.out; replace e1 : wr.cell? ⟨d, off + i * 2 + 1, none⟩ = some (.int .i64 f1) := (b.cell (p := ⟨d, off + i * 2 + 1, none⟩) hbb).trans e1w.out; refine wp_region_held_drew (S := (fun W' => W'.cell? ⟨d, off + i * 2, none⟩ = some (.string f0) ∧ W'.cell? ⟨d, off + i * 2 + 1, none⟩ = some (.int .i64 f1))) (by kernel_rfl) ⟨e0, e1⟩ (fun hHeld => ?_); have L := (Below.refl wr.heap.size wr).drew; replace b := b.drew; replace e0 : wr.drew.cell? ⟨d, off + i * 2, none⟩ = some (.string f0) := (b.cell (p := ⟨d, off + i * 2, none⟩) hbb).trans e0w.out; replace e1 : wr.drew.cell? ⟨d, off + i * 2 + 1, none⟩ = some (.int .i64 f1) := (b.cell (p := ⟨d, off + i * 2 + 1, none⟩) hbb).trans e1w.out; generalize wr.drew = wy7 at *; refine tk 0 rfl ?_; (try simp only [AP]); refine tk 1 rfl ?_; (try simp only [AP]); refine tk 2 rfl ?_; (try simp only [AP]); refine tk 3 rfl ?_; (try simp only [AP]); refine tk 4 rfl ?_; (try simp only [AP]); refine tk 5 rfl ?_; (try simp only [AP]); refine tk 6 rfl ?_; (try simp only [AP]); refine tk 7 rfl ?_; (try simp only [AP]); refine tk 8 rfl ?_; (try simp only [AP]); refine tk 9 rfl ?_; (try simp only [AP]); refine tk 10 rfl ?_; (try simp only [AP]); refine tk 11 rfl ?_; (try simp only [AP]); refine ry 12 rfl fun K hK => ?_; go_simp; refine (l11DecS f1 _).mono ?_; rintro e w1 ⟨s, rfl, hs, hb1⟩; replace b := bel_trans b hb1; replace L := bel_trans L hb1; replace e0 : w1.cell? ⟨d, off + i * 2, none⟩ = some (.string f0) := (b.cell (p := ⟨d, off + i * 2, none⟩) hbb).trans e0w.out; replace e1 : w1.cell? ⟨d, off + i * 2 + 1, none⟩ = some (.int .i64 f1) := (b.cell (p := ⟨d, off + i * 2 + 1, none⟩) hbb).trans e1w.out; clear hb1; have hcat2 : ¬ 9223372036854775807 < f0.size + 1 + s.size := by omega
        have hcat3 : ¬ 9223372036854775807 < (f0 ++ ⟨#[32]⟩).size + s.size := by rw [ByteArray.size_append]; exact hcat2
        go_wp2_with fail; refine hK.out _ _ ⟨e0, e1⟩ (fun hHeld => ?_); clear hK K; (try simp only [AP]); refine tk 13 rfl ?_; (try simp only [AP]); refine tk 14 rfl ?_; (try simp only [AP]); refine ry 15 rfl fun K hK => ?_; have ha_ := bel_alloc (Below.refl w1.heap.size w1) (.cells #[.string ⟨#[82]⟩, .string (f0 ++ ⟨#[32]⟩ ++ s)] 27); replace b := bel_trans b ha_; replace L := bel_trans L ha_; replace e0 : (w1.alloc (.cells #[.string ⟨#[82]⟩, .string (f0 ++ ⟨#[32]⟩ ++ s)] 27)).cell? ⟨d, off + i * 2, none⟩ = some (.string f0) := (b.cell (p := ⟨d, off + i * 2, none⟩) hbb).trans e0w.out; replace e1 : (w1.alloc (.cells #[.string ⟨#[82]⟩, .string (f0 ++ ⟨#[32]⟩ ++ s)] 27)).cell? ⟨d, off + i * 2 + 1, none⟩ = some (.int .i64 f1) := (b.cell (p := ⟨d, off + i * 2 + 1, none⟩) hbb).trans e1w.out; clear ha_; have sl := Sl.lit1 (enc := encLetter) w1 #[.string ⟨#[82]⟩, .string (f0 ++ ⟨#[32]⟩ ++ s)] 27 ((⟨#[82]⟩, f0 ++ ⟨#[32]⟩ ++ s) : Letter) rfl; go_simp; (try go_wp2_with fail); generalize w1.heap.size = ES at *; generalize w1.alloc (.cells #[.string ⟨#[82]⟩, .string (f0 ++ ⟨#[32]⟩ ++ s)] 27) = wz7_15 at *; refine hK.out _ _ ⟨e0, e1⟩ (fun hHeld => ?_); clear hK K; (try simp only [AP]); refine ry 16 rfl fun K hK => ?_; replace o := o.on L; refine step_append_sl _ (by rfl) (.tmp 22) (.tmp 37) 34 (by rfl) w.heap.size 27 i0 _ 2 32 Try.underlying34 hi0 hz0 hz1 hz2 rfl (by decide) encLetter_len encLetter_one (.slice D ls.length r) ls (by rfl) o _ (some ⟨ES, 0, none⟩) 1 1 [((⟨#[82]⟩, f0 ++ ⟨#[32]⟩ ++ s) : Letter)] (by rfl) sl (by unfold maxLen; omega) (by omega) b.size ?_; intro v6_ wz7_16 o6_ g6_; obtain ⟨D6, r6, rfl, -, -⟩ := o6_.form; replace b := bel_grown b g6_ (fun k hk => (World.ownsRow.lt o k hk).1); clear sl; have o6 : Own encLetter 2 27 wz7_16 w.heap.size (.slice D6 (ls ++ [((⟨#[82]⟩, f0 ++ ⟨#[32]⟩ ++ s) : Letter)]).length r6) (ls ++ [((⟨#[82]⟩, f0 ++ ⟨#[32]⟩ ++ s) : Letter)]) := o6_; clear o6_ g6_; replace e0 : wz7_16.cell? ⟨d, off + i * 2, none⟩ = some (.string f0) := (b.cell (p := ⟨d, off + i * 2, none⟩) hbb).trans e0w.out; replace e1 : wz7_16.cell? ⟨d, off + i * 2 + 1, none⟩ = some (.int .i64 f1) := (b.cell (p := ⟨d, off + i * 2 + 1, none⟩) hbb).trans e1w.out; refine hK.out _ _ ⟨e0, e1⟩ (fun hHeld => ?_); clear hK K; (try simp only [AP]); refine tk 17 rfl ?_; (try simp only [AP]); refine wpAnyH_done (by kernel_rfl) ?_ _; go_wp2_with fail; go_roundw
        case rel => exact ⟨i + 1, D6, r6, ls ++ [((⟨#[82]⟩, f0 ++ ⟨#[32]⟩ ++ s) : Letter)], by omega, by go_num, by simp, o6, by rw [List.length_append]; simp only [List.length_singleton]; omega, b⟩
        case measure => simp [intOf]; omega
      · obtain rfl : i = n := by omega
        have hlt' : ¬ (i : Int) < (i : Int) := by omega
        go_wp2_with fail; refine (l6CodeC 0 _ (by omega) (by omega)).mono ?_; rintro e w2 ⟨s, rfl, hs, hb2⟩; replace o := (o.on hb2).alloc (.cells #[.string ⟨#[67]⟩, .string s] 27); replace b := bel_alloc (bel_trans b hb2) (.cells #[.string ⟨#[67]⟩, .string s] 27); have sl := Sl.lit1 (enc := encLetter) w2 #[.string ⟨#[67]⟩, .string s] 27 ((⟨#[67]⟩, s) : Letter) rfl; go_wp2_with (at_builtin; refine wpList_append_sl _ rfl _ _ 34 rfl w.heap.size 27 i0 _ 2 32 Try.underlying34 hi0 hz0 hz1 hz2 rfl (by decide) encLetter_len encLetter_one _ ls rfl o _ (some ⟨w2.heap.size, 0, none⟩) 1 1 [((⟨#[67]⟩, s) : Letter)] rfl sl ?c3 ?c4 ?c5 ?_)
        case c3 => have := HN.out; unfold maxLen; omega
        case c4 => have := HN.out; omega
        case c5 => exact b.size
        intro v2 w3 o3 g3; obtain ⟨A6, c6, rfl, -, -⟩ := o3.form; replace b := bel_grown b g3 (fun k hk => (World.ownsRow.lt o k hk).1); clear o sl hb2; go_wp2
        go_ret
        exact ⟨A6, c6, _, rfl, o3, by simp; omega, b⟩
  · have k0n : (code != 0) = true := by simp [k0]
    go_enter Try.func118, Try.ntmps118; go_wp2_with fail; generalize w.alloc (.cells #[] 27) = w0 at *; refine (l6CodeC code _ HC.out.1 HC.out.2).mono ?_; rintro e w2 ⟨s, rfl, hs, hb2⟩; replace o := (o.on hb2).alloc (.cells #[.string ⟨#[69]⟩, .string s] 27); replace b := bel_alloc (bel_trans b hb2) (.cells #[.string ⟨#[69]⟩, .string s] 27); have sl := Sl.lit1 (enc := encLetter) w2 #[.string ⟨#[69]⟩, .string s] 27 ((⟨#[69]⟩, s) : Letter) rfl; go_wp2_with (at_builtin; refine wpList_append_sl _ rfl _ _ 34 rfl w.heap.size 27 i0 _ 2 32 Try.underlying34 hi0 hz0 hz1 hz2 rfl (by decide) encLetter_len encLetter_one _ [] rfl o _ (some ⟨w2.heap.size, 0, none⟩) 1 1 [((⟨#[69]⟩, s) : Letter)] rfl sl ?c3 ?c4 ?c5 ?_)
    case c3 => have := HN.out; simp only [List.length_nil]; unfold maxLen; omega
    case c4 => have := HN.out; simp only [List.length_nil]; omega
    case c5 => exact b.size
    intro v2 w3 o3 g3; obtain ⟨A6, c6, rfl, -, -⟩ := o3.form; replace b := bel_grown b g3 (fun k hk => (World.ownsRow.lt o k hk).1); clear o sl hb2; go_wp2
    go_ret
    exact ⟨A6, c6, _, rfl, o3, by simp; skip, b⟩
end Go.Proofs.Ytpmeaikiaoojkaa
namespace Go.Proofs.Ytpmeaikiaoojkaa
open Go.RowKit

theorem info9 : (Try.prog.info? 9).map (fun i => (i.zero, i.size, i.bytes)) = some (some (.string ByteArray.empty), 1, 16) := by kernel_rfl
theorem encT_one (x : ByteArray) : ∀ u ∈ encT x, u.oneCell' = true := by
  intro u hu; simp only [encT, List.mem_singleton] at hu
  rw [hu]; rfl
def mkB (l : List UInt8) : ByteArray := ⟨l.toArray⟩
/-- what is still to be cut off, from place fr on, the reader at k -/
def Rest (s : ByteArray) (fr k : Nat) (out : List ByteArray) : Prop := out ++ (cutC ((s.data.toList.drop fr).take (k - fr)) (s.data.toList.drop k)).map mkB = cutS s
theorem Rest.start (s : ByteArray) : Rest s 0 0 [] := by simp [Rest, cutS, mkB]
theorem ext_mk (s : ByteArray) (fr k : Nat) : s.extract fr k = mkB ((s.data.toList.drop fr).take (k - fr)) := Lib.extract_eq s fr k
theorem drop_at {s : ByteArray} {k : Nat} (h : k < s.size) : s.data.toList.drop k = s[k] :: s.data.toList.drop (k + 1) := by
  rw [List.drop_eq_getElem_cons (by rw [← size_list]; exact h)]
  congr 1
theorem Rest.hit {s : ByteArray} {fr k : Nat} {out : List ByteArray} (h : Rest s fr k out) (hk : k < s.size) (hc : s[k].toNat = 32) : Rest s (k + 1) (k + 1) (out ++ [s.extract fr k]) := by
  unfold Rest at h ⊢
  have e : s[k] = 32 := UInt8.toNat_inj.1 (by rw [hc]; rfl); rw [drop_at hk, cutC, if_pos e, List.map_cons] at h; rw [Nat.sub_self, List.take_zero, ext_mk, List.append_assoc]; exact h
theorem Rest.miss {s : ByteArray} {fr k : Nat} {out : List ByteArray} (h : Rest s fr k out) (hk : k < s.size) (hf : fr ≤ k) (hc : s[k].toNat ≠ 32) : Rest s fr (k + 1) out := by
  unfold Rest at h ⊢
  have e : ¬ s[k] = 32 := fun e => hc (by rw [e]; rfl); rw [drop_at hk, cutC, if_neg e] at h
  have h2 : (s.data.toList.drop fr).take (k + 1 - fr) = (s.data.toList.drop fr).take (k - fr) ++ [s[k]] := by
    rw [show k + 1 - fr = k - fr + 1 by omega, List.take_add_one, List.getElem?_drop, show fr + (k - fr) = k by omega]
    have : s.data.toList[k]? = some s[k] := by
      rw [List.getElem?_eq_getElem (by rw [← size_list]; exact hk)]
      rfl
    rw [this]; rfl
  rw [h2]; exact h
theorem Rest.last {s : ByteArray} {fr k : Nat} {out : List ByteArray} (h : Rest s fr k out) (hk : k = s.size) : out ++ [s.extract fr k] = cutS s := by
  unfold Rest at h
  have e : s.data.toList.drop k = [] := List.drop_of_length_le (by rw [← size_list]; omega); rw [e] at h; simp only [cutC] at h
  rw [ext_mk]; exact h
def CutPost (w : World) (l : List ByteArray) (e : Ending) (w' : World) : Prop :=
  ∃ A n c, e = .returned (.slice A n c) ∧ Own encT 1 9 w' w.heap.size (.slice A n c) l ∧ Below w.heap.size w w'
set_option maxHeartbeats 4000000 in
set_option maxRecDepth 100000 in
theorem l11Cut (s : ByteArray) (w : World) (hs : s.size ≤ 1048576) :
    Calls Try.prog 127 #[.string s, .int .u8 32] w (CutPost w (cutS s)) := by
  obtain ⟨i0, hi, hz0, hz1, hz2⟩ := info_parts info9; go_enter Try.func127, Try.ntmps127; go_wp2
  have o0 : Own encT 1 9 (w.alloc (.cells #[] 9)) w.heap.size (.slice (some ⟨w.heap.size, 0, none⟩) 0 0) ([] : List ByteArray) := Own.made0 w (Nat.le_refl _); have b0 := bel_alloc (Below.refl _ w) (.cells #[] 9)
  go_loopw [5, 6, 7] (fun o f i wr => ∃ (k fr : Nat) (out : List ByteArray) (A : Option Addr) (n c : Nat), k ≤ s.size + 1 ∧ i = .int .i64 (k : Int) ∧ f = .int .i64 (fr : Int) ∧ fr ≤ k ∧ o = .slice A n c ∧ Own encT 1 9 wr w.heap.size (.slice A n c) out ∧ out.length ≤ k ∧ Below w.heap.size w wr ∧ Hid (k ≤ s.size → Rest s fr k out) ∧ Hid (k = s.size + 1 → out = cutS s)) (fun _ _ i _ => s.size + 1 - (intOf i).toNat)
  case atStart => exact ⟨0, 0, [], some ⟨w.heap.size, 0, none⟩, 0, 0, by omega, rfl, rfl, Nat.le_refl _, rfl, o0, Nat.le_refl _, b0, Lib.hid fun _ => Rest.start s, Lib.hid fun h => by omega⟩
  case round =>
    clear o0 b0; obtain ⟨k, fr, out, A, n, c, hk1, rfl, rfl, hfr, rfl, ho, hol, hb, hrest, hdone⟩ := hrel; have hon := ho.len
    by_cases hk : k ≤ s.size
    · have i0' : (0 : Int) ≤ (k : Int) := by omega
      have i1 : (k : Int) ≤ (s.size : Int) := by omega
      have i2 : (fr : Int) ≤ (k : Int) := by omega
      have i3 : (0 : Int) ≤ (fr : Int) := by omega
      have hR := hrest.out hk; have HR := Lib.hid hR; clear hrest hdone hR; have hb1 := bel_alloc hb (.cells #[.string (s.extract fr k)] 9); have ho1 := ho.alloc (.cells #[.string (s.extract fr k)] 9); have hsl : Sl encT (wr.alloc (.cells #[.string (s.extract fr k)] 9)) ((wr.alloc (.cells #[.string (s.extract fr k)] 9)).heap.size) (some ⟨wr.heap.size, 0, none⟩) 1 [s.extract fr k] := Sl.lit1 wr _ 9 _ rfl; have HSL := Lib.hid hsl; have HO := Lib.hid ho1; have HB := Lib.hid hb1; have h63 : out.length + 1 ≤ maxLen := by simp [maxLen]; omega
      clear hsl ho1 hb1
      by_cases hke : k = s.size
      · have hc1 : ((k : Int) == (s.size : Int)) = true := by simp; omega
        have HKE := Lib.hid hke; clear hke; go_wp2_with (at_builtin; refine wpList_append_sl _ rfl _ _ 101 rfl w.heap.size 9 i0 _ 1 16 Try.underlying101 hi hz0 hz1 hz2 rfl (by decide) encT_len encT_one _ out rfl HO.out _ (some ⟨wr.heap.size, 0, none⟩) 1 1 [s.extract fr k] rfl HSL.out h63 (by omega) HB.out.size ?_); intro v2 w3 o3 g3; have b3 := bel_grown HB.out g3 (fun q hq => (World.ownsRow.lt HO.out q hq).1); obtain ⟨A2, c2, rfl, -, -⟩ := o3.form; go_wp2
        go_roundw
        case rel => exact ⟨k + 1, k + 1, out ++ [s.extract fr k], A2, _, c2, by omega, by go_num, by go_num, Nat.le_refl _, rfl, o3, by simp; omega, b3, Lib.hid fun h => by have := HKE.out; omega, Lib.hid fun _ => HR.out.last HKE.out⟩
        case measure => simp [intOf]; omega
      · have hlt : k < s.size := by omega
        have i4 : (k : Int) < (s.size : Int) := by omega
        have hc1 : ((k : Int) == (s.size : Int)) = false := by simp; omega
        by_cases h32 : s[k].toNat = 32
        · have hc2 : ((s[k].toNat : Int) == 32) = true := by simp; omega
          go_wp2_with (at_builtin; refine wpList_append_sl _ rfl _ _ 101 rfl w.heap.size 9 i0 _ 1 16 Try.underlying101 hi hz0 hz1 hz2 rfl (by decide) encT_len encT_one _ out rfl HO.out _ (some ⟨wr.heap.size, 0, none⟩) 1 1 [s.extract fr k] rfl HSL.out h63 (by omega) HB.out.size ?_); intro v2 w3 o3 g3; have b3 := bel_grown HB.out g3 (fun q hq => (World.ownsRow.lt HO.out q hq).1); obtain ⟨A2, c2, rfl, -, -⟩ := o3.form; go_wp2
          go_roundw
          case rel => exact ⟨k + 1, k + 1, out ++ [s.extract fr k], A2, _, c2, by omega, by go_num, by go_num, Nat.le_refl _, rfl, o3, by simp; omega, b3, Lib.hid fun _ => HR.out.hit hlt h32, Lib.hid fun h => by omega⟩
          case measure => simp [intOf]; omega
        · have hc2 : ((s[k].toNat : Int) == 32) = false := by simp; omega
          have HO2 := Lib.hid ho; have HB2 := Lib.hid hb; go_wp2_with fail; go_roundw
          case rel => exact ⟨k + 1, fr, out, A, n, c, by omega, by go_num, rfl, by omega, rfl, HO2.out, by omega, HB2.out, Lib.hid fun _ => HR.out.miss hlt hfr h32, Lib.hid fun h => by omega⟩
          case measure => simp [intOf]; omega
    · have i1 : ¬ (k : Int) ≤ (s.size : Int) := by omega
      have hD := hdone.out (by omega); subst hD; go_wp2_with fail; go_ret
      exact ⟨A, n, c, rfl, ho, hb⟩
end Go.Proofs.Ytpmeaikiaoojkaa
namespace Go.Proofs.Ytpmeaikiaoojkaa
open Go.RowKit

theorem get_at {s : ByteArray} {k : Nat} (h : k < s.size) : s.data.toList[k]? = some s[k] := by
  rw [List.getElem?_eq_getElem (by rw [← size_list]; exact h)]
  rfl
theorem head_at {s : ByteArray} (h : 0 < s.size) : s.data.toList.head? = some s[0] := by
  rw [List.head?_eq_getElem?]; exact get_at h
theorem mem_at {s : ByteArray} {k : Nat} (h : k < s.size) : s[k] ∈ s.data.toList := List.mem_of_getElem? (get_at h)
theorem take_at {s : ByteArray} {k : Nat} (h : k < s.size) : s.data.toList.take (k + 1) = s.data.toList.take k ++ [s[k]] := by
  rw [List.take_add_one, get_at h]; rfl
theorem digits_snoc {l : List UInt8} {c : UInt8} (h : digits l) (h0 : 48 ≤ c.toNat) (h1 : c.toNat ≤ 57) : digits (l ++ [c]) := by
  intro x hx
  rcases List.mem_append.1 hx with hx | hx
  · exact h x hx
  · simp only [List.mem_singleton] at hx
    rw [hx]; exact ⟨h0, h1⟩
def NegOf (neg : Bool) (s : ByteArray) : Prop := neg = true ↔ s.data.toList.head? = some 45
def TailOf (neg : Bool) (s t : ByteArray) : Prop := t.data.toList = if neg = true then s.data.toList.drop 1 else s.data.toList
set_option maxHeartbeats 8000000 in
set_option maxRecDepth 100000 in
theorem l11Num (s : ByteArray) (w : World) (hs : s.size ≤ 1048576) :
    Calls Try.prog 128 #[.string s] w (NumIs s w) := by
  by_cases z0 : s.size = 0
  · have g0 : ((s.size : Int) == 0) = true := by rw [z0]; rfl
    have g1 : ¬ (0 : Int) < (s.size : Int) := by omega
    have hl : s.data.toList = [] := List.length_eq_zero_iff.1 (by rw [← size_list]; exact z0); have HB := Lib.hid (isNum_early (s := s) (l := s.data.toList) (neg := false) (by rw [hl]; simp) rfl (.inl (by rw [hl]; rfl)) 0); clear hl z0; go_enter Try.func128, Try.ntmps128; go_wp2_with fail
    go_ret2
    exact ⟨0, false, rfl, HB.out, by omega, by omega, Below.refl _ _⟩
  have hp : 0 < s.size := by omega
  have ip : (0 : Int) < (s.size : Int) := by omega
  have ip1 : (1 : Int) ≤ (s.size : Int) := by omega
  have HH := Lib.hid (head_at hp)
  by_cases e45 : s[0].toNat = 45
  · have g45 : ((s[0].toNat : Int) == 45) = true := by simp; omega
    obtain ⟨t, ht⟩ : ∃ t, s.extract 1 s.size = t := ⟨_, rfl⟩; have hts : t.size ≤ 1048576 := by rw [← ht, ByteArray.size_extract]; omega
    have HNEG := Lib.hid (show NegOf true s from ⟨fun _ => by rw [HH.out]; exact congrArg some (UInt8.toNat_inj.1 e45), fun _ => rfl⟩); have HT := Lib.hid (show TailOf true s t by unfold TailOf; rw [if_pos rfl, ← ht, Lib.extract_eq]; exact List.take_of_length_le (by rw [List.length_drop, ← size_list]; exact Nat.le_refl _)); have HX := Lib.hid ht; clear ht z0 e45; go_enter Try.func128, Try.ntmps128; go_upto_region 4 with fail; rw [HX.out]; clear g45 HH ip1
    by_cases e0 : t.size = 0
    · have g0 : ((t.size : Int) == 0) = true := by rw [e0]; rfl
      go_wp2_with fail
      go_ret2
      exact ⟨0, false, rfl, isNum_early (neg := true) HNEG.out HT.out (.inl (by rw [← size_list]; exact e0)) 0, by omega, by omega, Below.refl _ _⟩
    have g0 : ((t.size : Int) == 0) = false := by rw [beq_eq_false_iff_ne]; omega
    by_cases e17 : 17 < t.size
    · have g1 : (17 : Int) < (t.size : Int) := by omega
      go_wp2_with fail
      go_ret2
      exact ⟨0, false, rfl, isNum_early (neg := true) HNEG.out HT.out (.inr (.inl (by rw [← size_list]; exact e17))) 0, by omega, by omega, Below.refl _ _⟩
    have g1 : ¬ (17 : Int) < (t.size : Int) := by omega
    have hpos : 0 < t.size := by omega
    have ipos : (0 : Int) < (t.size : Int) := by omega
    have hhd : t.data.toList.head? = some t[0] := head_at hpos; have HHD := Lib.hid hhd; clear hhd
    by_cases e48 : t[0].toNat = 48
    · have g2 : ((t[0].toNat : Int) == 48) = true := by simp; omega
      have HB := Lib.hid e48; clear e48
      by_cases e1 : 1 < t.size
      · have g3 : (1 : Int) < (t.size : Int) := by omega
        go_wp2_with fail
        go_ret2
        exact ⟨0, false, rfl, isNum_early (neg := true) HNEG.out HT.out (.inr (.inr (.inl ⟨by rw [HHD.out]; exact congrArg some (UInt8.toNat_inj.1 HB.out), .inr rfl⟩))) 0, by omega, by omega, Below.refl _ _⟩
      · have g3 : ¬ (1 : Int) < (t.size : Int) := by omega
        go_wp2_with fail
        go_ret2
        exact ⟨0, false, rfl, isNum_early (neg := true) HNEG.out HT.out (.inr (.inr (.inl ⟨by rw [HHD.out]; exact congrArg some (UInt8.toNat_inj.1 HB.out), .inr rfl⟩))) 0, by omega, by omega, Below.refl _ _⟩
    have g2 : ((t[0].toNat : Int) == 48) = false := by simp; omega
    clear e48; have HSZ := Lib.hid e17; clear e0 e17; go_wp2_with fail; clear g0 g1
    go_loop [5, 6] (fun n i => ∃ k : Nat, k ≤ t.size ∧ i = .int .i64 (k : Int) ∧ Hid (digits (t.data.toList.take k)) ∧ n = .int .i64 ((dval (t.data.toList.take k) : Nat) : Int)) (fun _ i => t.size - (intOf i).toNat)
    case atStart => exact ⟨0, Nat.zero_le _, rfl, Lib.hid (by simp [digits]), by simp [dval]⟩
    case round =>
      obtain ⟨k, hk, rfl, hd, rfl⟩ := hrel; have hvl := dval_lt _ hd.out
      by_cases hlt : k < t.size
      · have j0 : (0 : Int) ≤ (k : Int) := by omega
        have j1 : (k : Int) < (t.size : Int) := by omega
        have hv : dval (t.data.toList.take k) < 10000000000000000 := by
          have h1 : (t.data.toList.take k).length ≤ 16 := by rw [List.length_take]; have := HSZ.out; omega
          have h2 : 10 ^ (t.data.toList.take k).length ≤ 10 ^ 16 := Nat.pow_le_pow_right (by omega) h1
          omega
        have HST := Lib.hid (take_at hlt); obtain ⟨v, hvv⟩ : ∃ v, dval (t.data.toList.take k) = v := ⟨_, rfl⟩; have HV := Lib.hid hvv; rw [hvv] at hv ⊢; clear hvl hvv
        by_cases d0 : t[k].toNat < 48
        · have g4 : (t[k].toNat : Int) < 48 := by omega
          have HBD := Lib.hid d0; clear d0; go_wp2_with fail
          go_ret2
          exact ⟨0, false, rfl, isNum_early (neg := true) HNEG.out HT.out (.inr (.inr (.inr ⟨t[k], mem_at hlt, by have := HBD.out; omega⟩))) 0, by omega, by omega, Below.refl _ _⟩
        have g4 : ¬ (t[k].toNat : Int) < 48 := by omega
        by_cases d1 : 57 < t[k].toNat
        · have g5 : (57 : Int) < (t[k].toNat : Int) := by omega
          have HBD := Lib.hid d1; clear d1; go_wp2_with fail
          go_ret2
          exact ⟨0, false, rfl, isNum_early (neg := true) HNEG.out HT.out (.inr (.inr (.inr ⟨t[k], mem_at hlt, by have := HBD.out; omega⟩))) 0, by omega, by omega, Below.refl _ _⟩
        have g5 : ¬ (57 : Int) < (t[k].toNat : Int) := by omega
        go_wp2_with fail
        case roundEnd => exact ⟨⟨k + 1, by omega, by go_num, Lib.hid (by rw [HST.out]; exact digits_snoc hd.out (by omega) (by omega)), by rw [HST.out, dval_snoc, HV.out]; go_num⟩, by simp [intOf]; omega⟩
      · have j1 : ¬ (k : Int) < (t.size : Int) := by omega
        have hall : t.data.toList.take k = t.data.toList := List.take_of_length_le (by rw [← size_list]; omega); rw [hall] at hvl ⊢
        have hv : dval t.data.toList < 100000000000000000 := by
          have h1 : t.data.toList.length ≤ 17 := by rw [← size_list]; have := HSZ.out; omega
          have h2 : 10 ^ t.data.toList.length ≤ 10 ^ 17 := Nat.pow_le_pow_right (by omega) h1
          omega
        have HV := Lib.hid (isNum_val (neg := true) HNEG.out HT.out); generalize dval t.data.toList = v at *; clear hvl hall; go_wp2_with fail
        go_ret2
        exact ⟨_, true, rfl, by simpa using HV.out, by omega, by omega, Below.refl _ _⟩
  · have g45 : ((s[0].toNat : Int) == 45) = false := by simp; omega
    have HNEG := Lib.hid (show NegOf false s from ⟨fun h => (by cases h), fun h => by rw [HH.out] at h; injection h with h; rw [h] at e45; exact absurd rfl e45⟩); have HT := Lib.hid (show TailOf false s s from rfl); clear z0 e45; go_enter Try.func128, Try.ntmps128; go_upto_region 4 with fail; clear g45 HH ip1
    by_cases e0 : s.size = 0
    · have g0 : ((s.size : Int) == 0) = true := by rw [e0]; rfl
      go_wp2_with fail
      go_ret2
      exact ⟨0, false, rfl, isNum_early (neg := false) HNEG.out HT.out (.inl (by rw [← size_list]; exact e0)) 0, by omega, by omega, Below.refl _ _⟩
    have g0 : ((s.size : Int) == 0) = false := by rw [beq_eq_false_iff_ne]; omega
    by_cases e17 : 17 < s.size
    · have g1 : (17 : Int) < (s.size : Int) := by omega
      go_wp2_with fail
      go_ret2
      exact ⟨0, false, rfl, isNum_early (neg := false) HNEG.out HT.out (.inr (.inl (by rw [← size_list]; exact e17))) 0, by omega, by omega, Below.refl _ _⟩
    have g1 : ¬ (17 : Int) < (s.size : Int) := by omega
    have hpos : 0 < s.size := by omega
    have ipos : (0 : Int) < (s.size : Int) := by omega
    have hhd : s.data.toList.head? = some s[0] := head_at hpos; have HHD := Lib.hid hhd; clear hhd
    have hcase : (((s[0].toNat : Int) == 48) = true ∧ (1 : Int) < (s.size : Int)) ∨ (((s[0].toNat : Int) == 48) = true ∧ ¬ (1 : Int) < (s.size : Int)) ∨ ((s[0].toNat : Int) == 48) = false := by
      cases ((s[0].toNat : Int) == 48)
      · exact .inr (.inr rfl)
      · by_cases e1 : (1 : Int) < (s.size : Int)
        · exact .inl ⟨rfl, e1⟩
        · exact .inr (.inl ⟨rfl, e1⟩)
    rcases hcase with ⟨g2, g3⟩ | hcase
    · have HB := Lib.hid (show s[0].toNat = 48 by simp at g2; omega); go_wp2_with fail
      go_ret2
      exact ⟨0, false, rfl, isNum_early (neg := false) HNEG.out HT.out (.inr (.inr (.inl ⟨by rw [HHD.out]; exact congrArg some (UInt8.toNat_inj.1 HB.out), .inl (by rw [← size_list]; omega)⟩))) 0, by omega, by omega, Below.refl _ _⟩
    rcases hcase with ⟨g2, g3⟩ | g2
    all_goals
      have HSZ := Lib.hid e17; clear e0 e17; go_wp2_with fail; clear g0 g1
      go_loop [5, 6] (fun n i => ∃ k : Nat, k ≤ s.size ∧ i = .int .i64 (k : Int) ∧ Hid (digits (s.data.toList.take k)) ∧ n = .int .i64 ((dval (s.data.toList.take k) : Nat) : Int)) (fun _ i => s.size - (intOf i).toNat)
      case atStart => exact ⟨0, Nat.zero_le _, rfl, Lib.hid (by simp [digits]), by simp [dval]⟩
      case round =>
        obtain ⟨k, hk, rfl, hd, rfl⟩ := hrel; have hvl := dval_lt _ hd.out
        by_cases hlt : k < s.size
        · have j0 : (0 : Int) ≤ (k : Int) := by omega
          have j1 : (k : Int) < (s.size : Int) := by omega
          have hv : dval (s.data.toList.take k) < 10000000000000000 := by
            have h1 : (s.data.toList.take k).length ≤ 16 := by rw [List.length_take]; have := HSZ.out; omega
            have h2 : 10 ^ (s.data.toList.take k).length ≤ 10 ^ 16 := Nat.pow_le_pow_right (by omega) h1
            omega
          have HST := Lib.hid (take_at hlt); obtain ⟨v, hvv⟩ : ∃ v, dval (s.data.toList.take k) = v := ⟨_, rfl⟩; have HV := Lib.hid hvv; rw [hvv] at hv ⊢; clear hvl hvv
          by_cases d0 : s[k].toNat < 48
          · have g4 : (s[k].toNat : Int) < 48 := by omega
            have HBD := Lib.hid d0; clear d0; go_wp2_with fail
            go_ret2
            exact ⟨0, false, rfl, isNum_early (neg := false) HNEG.out HT.out (.inr (.inr (.inr ⟨s[k], mem_at hlt, by have := HBD.out; omega⟩))) 0, by omega, by omega, Below.refl _ _⟩
          have g4 : ¬ (s[k].toNat : Int) < 48 := by omega
          by_cases d1 : 57 < s[k].toNat
          · have g5 : (57 : Int) < (s[k].toNat : Int) := by omega
            have HBD := Lib.hid d1; clear d1; go_wp2_with fail
            go_ret2
            exact ⟨0, false, rfl, isNum_early (neg := false) HNEG.out HT.out (.inr (.inr (.inr ⟨s[k], mem_at hlt, by have := HBD.out; omega⟩))) 0, by omega, by omega, Below.refl _ _⟩
          have g5 : ¬ (57 : Int) < (s[k].toNat : Int) := by omega
          go_wp2_with fail
          case roundEnd => exact ⟨⟨k + 1, by omega, by go_num, Lib.hid (by rw [HST.out]; exact digits_snoc hd.out (by omega) (by omega)), by rw [HST.out, dval_snoc, HV.out]; go_num⟩, by simp [intOf]; omega⟩
        · have j1 : ¬ (k : Int) < (s.size : Int) := by omega
          have hall : s.data.toList.take k = s.data.toList := List.take_of_length_le (by rw [← size_list]; omega); rw [hall] at hvl ⊢
          have hv : dval s.data.toList < 100000000000000000 := by
            have h1 : s.data.toList.length ≤ 17 := by rw [← size_list]; have := HSZ.out; omega
            have h2 : 10 ^ s.data.toList.length ≤ 10 ^ 17 := Nat.pow_le_pow_right (by omega) h1
            omega
          have HV := Lib.hid (isNum_val (neg := false) HNEG.out HT.out); generalize dval s.data.toList = v at *; clear hvl hall; go_wp2_with fail
          go_ret2
          exact ⟨_, true, rfl, by simpa using HV.out, by omega, by omega, Below.refl _ _⟩
end Go.Proofs.Ytpmeaikiaoojkaa
