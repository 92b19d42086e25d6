/- Contracts of the letters' texts: writeLetter, LettersText and LetterText of the program, over a strings.Builder. -/
import Derived.Test.YtpmeaikiaoojkaaL2
import Derived.Test.YtpmeaikiaoojkaaBB
namespace Go.Proofs.Ytpmeaikiaoojkaa
open Go.RowKit

theorem grownBy_of_below {w w' : World} (h : Below w.heap.size w w') : w.grownBy w' none := ⟨h.os, h.tape, h.output, h.size, fun k hk _ => h.block k hk⟩
theorem bldAt_on {T e : TypeId} {B b : Nat} {p : Value} {bs : List Value} {w w' : World} (h : Lib.BuilderAtF T e B b p bs w) (hb : Below w.heap.size w w') : Lib.BuilderAtF T e B b p bs w' := by
  have hlt := h.lt
  obtain ⟨hB, v, hb1, hown, hne⟩ := h
  exact ⟨hB, v, (hb.block b hlt).trans hb1, hown.kept (grownBy_of_below hb) (by cases hv : v.ownBlock <;> simp), hne⟩
theorem bld_on {T e : TypeId} {B b : Nat} {bs : List Value} {w w' : World} (h : Lib.IsBuilderF T e B b bs w) (hb : Below w.heap.size w w') : Lib.IsBuilderF T e B b bs w' :=
  h.elim (fun x => .inl (bldAt_on x hb)) (fun x => .inr (bldAt_on x hb))
theorem bld_lt {T e : TypeId} {B b : Nat} {bs : List Value} {w : World} (h : Lib.IsBuilderF T e B b bs w) : B ≤ b ∧ b < w.heap.size := by
  rcases h with h | h <;> exact ⟨h.1, h.lt⟩
theorem BoxC.others {W W' : World} {B b : Nat} {t e : TypeId} {cs : Array Value} (h : BoxC W B t cs) (k : Lib.OthersKept e (some b) W W') (hb : B ≠ b) (he : t ≠ e) : BoxC W' B t cs :=
  k B _ h (by simpa using hb) (fun c fz eq => by cases eq; exact he rfl)
theorem ba_toArray (s : ByteArray) : (⟨s.data.toList.toArray⟩ : ByteArray) = s := by cases s; simp
theorem cells_len (s : ByteArray) : (Lib.byteCells s.data.toList).length = s.size := by
  rw [Lib.byteCells_length, Array.length_toList]; rfl
theorem cells_app (a s : ByteArray) : Lib.byteCells a.data.toList ++ Lib.strCells s = Lib.byteCells (a ++ s).data.toList := by
  rw [Lib.strCells_eq, ← Lib.byteCells_append]; simp
theorem cells_b1 (a : ByteArray) (z : Int) (h0 : 0 ≤ z) (h1 : z < 256) : Lib.byteCells a.data.toList ++ [Value.int .u8 z] = Lib.byteCells (a ++ b1 z).data.toList := by
  obtain ⟨n, rfl⟩ := Int.eq_ofNat_of_zero_le h0
  have hn : n % 256 = n := Nat.mod_eq_of_lt (by omega)
  rw [← cells_app, Lib.strCells_eq]
  simp [b1, strOfNums, Lib.byteCells, hn]
theorem letText_eq (acc : ByteArray) (x : Letter) : acc ++ letText x = acc ++ x.1 ++ b1 (48 + (x.2.size : Int) / 10) ++ b1 (48 + (x.2.size : Int) % 10) ++ x.2 := by
  simp [letText, two, ByteArray.append_assoc]

/-- what a builder holds behind a letter written -/
def WrotePost (B b : Nat) (w : World) (t : ByteArray) (e : Ending) (w' : World) : Prop :=
  e = .returned (.tuple #[]) ∧ Lib.IsBuilderF 78 5 B b (Lib.byteCells t.data.toList) w' ∧ Below B w w' ∧ Lib.OthersKept 5 (some b) w w'
set_option maxHeartbeats 2000000 in
theorem writeLetter (B b : Nat) (acc f0 f1 : ByteArray) (w : World) (h : Lib.IsBuilderF 78 5 B b (Lib.byteCells acc.data.toList) w) (ha : acc.size ≤ 100000000) (h0 : f0.size ≤ 1) (h1 : f1.size ≤ 40) :
    Calls Try.prog 41 #[.pointer (some ⟨b, 0, none⟩), .agg #[.string f0, .string f1]] w (WrotePost B b w (acc ++ letText (f0, f1))) := by
  obtain ⟨hBb, hbw⟩ := bld_lt h
  have HT := Lib.hid (letText_eq acc (f0, f1))
  simp only at HT
  have b0 := bel_alloc (Below.refl _ w) (.cells #[.string f0, .string f1] 27)
  have x0 := BoxC.new w 27 #[.string f0, .string f1]
  have k0 : Lib.OthersKept 5 (some b) w (w.alloc (.cells #[.string f0, .string f1] 27)) := (Lib.OthersKept.refl _ _ w).alloc _
  have H0 := Lib.hid (bld_on h b0)
  have hsz0 : B ≤ (w.alloc (.cells #[.string f0, .string f1] 27)).heap.size := by simp; omega
  have hne : w.heap.size ≠ b := by omega
  have d0 : (0 : Int) ≤ 48 + (f1.size : Int) / 10 ∧ 48 + (f1.size : Int) / 10 < 256 := by omega
  have d1 : (0 : Int) ≤ 48 + (f1.size : Int) % 10 ∧ 48 + (f1.size : Int) % 10 < 256 := by omega
  have e0 := Lib.hid (cells_b1 (acc ++ f0) _ d0.1 d0.2)
  have e1 := Lib.hid (cells_b1 (acc ++ f0 ++ b1 (48 + (f1.size : Int) / 10)) _ d1.1 d1.2)
  have s0 : (acc ++ f0).size ≤ 100000001 := by rw [ByteArray.size_append]; omega
  have s1 : (acc ++ f0 ++ b1 (48 + (f1.size : Int) / 10)).size ≤ 100000002 := by rw [ByteArray.size_append, b1_size]; omega
  have s2 : (acc ++ f0 ++ b1 (48 + (f1.size : Int) / 10) ++ b1 (48 + (f1.size : Int) % 10)).size ≤ 100000003 := by rw [ByteArray.size_append, b1_size]; omega
  clear h d0 d1
  go_enter Try.func41, Try.ntmps41
  go_wp2_with fail
  refine (bldString B b _ f0 _ H0.out (by rw [cells_len]; omega) hsz0).mono ?_
  rintro e w1 ⟨rfl, g1, hb1, k1⟩
  rw [cells_app] at g1
  have x1 := x0.others k1 hne (by decide)
  have c10 := x1.c (k := 0) rfl
  have c11 := x1.c (k := 1) rfl
  have z1 : B ≤ w1.heap.size := Nat.le_trans hsz0 hb1.size
  go_wp2_with fail
  refine (bldByte B b _ _ _ (.inr g1) (by rw [cells_len]; omega) z1).mono ?_
  rintro e w2 ⟨rfl, g2, hb2, k2⟩
  rw [e0.out] at g2
  have x2 := x1.others k2 hne (by decide)
  have c20 := x2.c (k := 0) rfl
  have c21 := x2.c (k := 1) rfl
  have z2 : B ≤ w2.heap.size := Nat.le_trans z1 hb2.size
  clear c10 c11
  go_wp2_with fail
  refine (bldByte B b _ _ _ (.inr g2) (by rw [cells_len]; omega) z2).mono ?_
  rintro e w3 ⟨rfl, g3, hb3, k3⟩
  rw [e1.out] at g3
  have x3 := x2.others k3 hne (by decide)
  have c30 := x3.c (k := 0) rfl
  have c31 := x3.c (k := 1) rfl
  have z3 : B ≤ w3.heap.size := Nat.le_trans z2 hb3.size
  clear c20 c21
  go_wp2_with fail
  refine (bldString B b _ f1 _ (.inr g3) (by rw [cells_len]; omega) z3).mono ?_
  rintro e w4 ⟨rfl, g4, hb4, k4⟩
  rw [cells_app, ← HT.out] at g4
  go_wp2
  go_end0
  exact ⟨rfl, .inr g4, (((b0.mono (by omega)).trans hb1).trans hb2).trans (hb3.trans hb4), (((k0.trans k1).trans k2).trans k3).trans k4⟩

set_option maxHeartbeats 2000000 in
theorem implLettersText (A : Option Addr) (n c : Nat) (l : List Letter) (w : World) (hr : Sl encLetter w w.heap.size A n l) (hk : LetterSWf l) (hn : n ≤ 1048576) :
    Calls Try.prog 18 #[.slice A n c] w fun e w' => e = .returned (.string (lettersRes l)) ∧ Below w.heap.size w w' := by
  have HL := Lib.hid hr.len
  have H0 := Lib.hid (Lib.IsBuilderF.of (Lib.fresh_isBuilder 78 5 w))
  go_enter Try.func18, Try.ntmps18
  go_wp2
  go_loopw [8] (fun i wr => ∃ (k : Nat) (acc : ByteArray), k ≤ n ∧ i = .int .i64 k ∧ Hid (acc = lettersText (l.take k)) ∧ Hid (allOk (l.take k) = true) ∧ acc.size ≤ 43 * k ∧ Lib.IsBuilderF 78 5 w.heap.size w.heap.size (Lib.byteCells acc.data.toList) wr ∧ Below w.heap.size w wr) (fun i _ => n - (intOf i).toNat)
  case atStart => exact ⟨0, ByteArray.empty, by omega, rfl, rfl, rfl, by simp, H0.out, bel_alloc (Below.refl _ _) _⟩
  case round =>
    obtain ⟨k, acc, hkn, rfl, hacc, hall, hsz, hI, hbel⟩ := hrel
    obtain ⟨-, hbw⟩ := bld_lt hI
    by_cases hlt : k < n
    · obtain ⟨b, off, rfl, hb⟩ := hr.spot (by omega)
      obtain ⟨f0, f1, hrow, q0, q1⟩ := atLetter (hr.keep hbel) hlt
      obtain ⟨z1, z2⟩ := hk.at_ hrow
      simp only at z1 z2
      have HR := Lib.hid hrow
      clear hrow
      have i0 : (0 : Int) ≤ (k : Int) := by omega
      have i1 : (k : Int) < (n : Int) := by omega
      have C := Lib.hid (fun W => implLetterOk (f0, f1) W z1 z2)
      clear z1 z2
      cases hok : letOk (f0, f1)
      · have HB := Lib.hid (allOk_bad HR.out hok)
        rw [hok] at C
        clear hok
        go_wp2_with fail
        refine (C.out _).mono ?_
        rintro e w1 ⟨rfl, hb1⟩
        go_wp2
        go_ret
        refine ⟨congrArg (fun s => Ending.returned (.string s)) HB.out.symm, bel_trans (bel_trans hbel ?_) hb1⟩
        exact bel_alloc (Below.refl _ _) _
      · obtain ⟨hs1, hs2⟩ := let_sizes hok
        simp only at hs1 hs2
        have hts := letText_size hok
        have HS1 : f0.size ≤ 1 := by omega
        rw [hok] at C
        have st := Lib.hid (letters_step HR.out)
        have sa := Lib.hid (allOk_step HR.out hall.out hok)
        have bw := bel_alloc (Below.refl _ wr) (.cells #[.string f0, .string f1] 27)
        have xw := BoxC.new wr 27 #[.string f0, .string f1]
        have HI := Lib.hid (bld_on hI bw)
        clear hok hs1
        go_wp2_with fail
        refine (C.out _).mono ?_
        rintro e w1 ⟨rfl, hb1⟩
        have b1 := bel_trans (bel_trans hbel bw) hb1
        have x1 := xw.on hb1
        have c0 := x1.c (k := 0) rfl
        have c1 := x1.c (k := 1) rfl
        have J1 := Lib.hid (bld_on HI.out hb1)
        clear xw HI hI
        go_wp2_with fail
        refine (writeLetter w.heap.size w.heap.size acc f0 f1 _ J1.out (by omega) HS1 hs2).mono ?_
        rintro e w2 ⟨rfl, g2, hb2, -⟩
        go_wp2
        go_roundw
        case rel => exact ⟨k + 1, acc ++ letText (f0, f1), by omega, by go_num, by rw [st.out, hacc.out]; rfl, sa.out, by rw [ByteArray.size_append]; omega, g2, b1.trans hb2⟩
        case measure => simp [intOf]; omega
    · have HF := Lib.hid (letters_all (l := l) (k := k) (by rw [HL.out]; omega) hall.out)
      go_wp2_with fail
      refine (Try.Builder_String_any_k w.heap.size w.heap.size acc.data.toList _ hI (by omega)).mono ?_
      rintro e w1 ⟨rfl, -, hb1, -⟩
      go_wp2
      go_ret
      exact ⟨congrArg (fun s => Ending.returned (.string s)) (by rw [ba_toArray, hacc.out, HF.out]), hbel.trans hb1⟩
theorem lettersRes_one (x : Letter) : lettersRes [x] = letRes x := by
  unfold lettersRes letRes allOk lettersText
  simp
set_option maxHeartbeats 1000000 in
theorem implLetterText (f0 f1 : ByteArray) (w : World) (h1 : f0.size ≤ maxLen) (h2 : f1.size ≤ maxLen) :
    Calls Try.prog 16 #[.agg #[.string f0, .string f1]] w fun e w' => e = .returned (.string (letRes (f0, f1))) ∧ Below w.heap.size w w' := by
  rw [← lettersRes_one]
  have hwf : LetterSWf [(f0, f1)] := fun x hx => by rw [List.mem_singleton.1 hx]; exact ⟨h1, h2⟩
  have b0 := bel_alloc (Below.refl _ w) (.cells #[.string f0, .string f1] 27)
  have s1 := Sl.lit1 (enc := encLetter) (w.alloc (.cells #[.string f0, .string f1] 27)) #[.string f0, .string f1] 27 (f0, f1) rfl
  go_enter Try.func16, Try.ntmps16
  go_wp2_with fail
  refine (implLettersText (some ⟨w.heap.size + 1, 0, none⟩) 1 1 [(f0, f1)] _ (by simpa using s1) hwf (by omega)).mono ?_
  rintro e w1 ⟨rfl, hb1⟩
  go_wp2
  go_ret
  exact ⟨rfl, bel_trans (bel_alloc b0 _) hb1⟩
end Go.Proofs.Ytpmeaikiaoojkaa
